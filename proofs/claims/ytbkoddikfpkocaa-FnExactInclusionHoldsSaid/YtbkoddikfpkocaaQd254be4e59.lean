/- Texts joined for one claim: MaskI, LookA, Dep, Inc, MissP, MissI, MissS, LInclusionHolds, FInclusionHolds. -/
import Derived.Test.YtbkoddikfpkocaaQ825a04d648
import Derived.Deep.RegionHeld3
import Derived.Lib.SlicesCompact

/- Contracts: the variables of a mask, by the program; shared variables. -/
namespace Go.Proofs.Ytbkoddikfpkocaa
open Go.RowKit
set_option linter.unusedVariables false
set_option linter.unusedSimpArgs false
set_option synthInstance.maxSize 2000
set_option synthInstance.maxHeartbeats 400000

theorem own_empty' {B : Nat} {W : World} {g : Nat} (hB : B ≤ W.heap.size) (hg : W.heap.size = g) : OwnInts B (W.alloc (.cells #[] 3)) (.slice (some ⟨g, 0, none⟩) 0 0) 0 [] := by
  subst hg; exact own_empty hB

theorem wpList_app1g {B : Nat} {w0 W : World} {ops : Array Oper} {rest : List Oper} {o : Oper} {a : Act} {Q : Exit → Act → World → Prop}
    (s x : Operand) (v : Value) (n g : Nat) (xs : List Int) (u : Int)
    (hown : OwnInts B W v n xs) (hb : Below B w0 W) (hB : B ≤ W.heap.size) (hu : I64 u) (hn : n ≤ 1000000000000) (hg : W.heap.size = g)
    (hgd : o.guard = none) (ho : o.op = .call { callee := .builtin .append, args := #[s, x], argTypes := #[24, 24] })
    (hs : a.eval s = v) (hx : a.eval x = .slice (some ⟨g, 0, none⟩) 1 1)
    (h : ∀ v' w', OwnInts B w' v' (n + 1) (xs ++ [u]) → Below B w0 w' → B ≤ w'.heap.size → wpList Try.prog ops Q rest (a.put o.dst v') w') :
    wpList Try.prog ops Q (o :: rest) a (W.alloc (.cells #[.int .i64 u] 3)) := by
  subst hg
  exact wpList_app1 s x v n xs u hown hb hB hu hn hgd ho hs hx h

set_option maxHeartbeats 2000000 in
theorem variables_any (cs : List Value) (x : DQ) (K n : Nat) (w : World) (h : rQ.rep w cs x) (hq : QOk x n) (hK : K < 16) :
    Calls Try.prog 178 #[.agg cs.toArray, .int .i64 K] w fun e w' => ∃ u, e = .returned u ∧ Own oI w.heap.size w'.heap.size w' [u] (varsOf x K) ∧ Below w.heap.size w w' := by
  obtain ⟨ub, un, uc, rfl, hi, g1⟩ := rQ_open h
  clear h hi
  obtain ⟨i, xs⟩ := x
  simp only at g1
  have t0 := rS_sl g1
  have hl := t0.len
  have hn4 := hq.le
  have hl4 := hq.len
  have hcnt := hq.cnt
  simp only at hl4 hcnt
  subst hcnt
  have hun : un ≤ 4 := by omega
  have HQ := Lib.hid hq
  obtain ⟨M, hM⟩ : ∃ M, M = bitsOf ((n : Int), xs) K := ⟨_, rfl⟩
  have HV := Lib.hid (show bitsTo M n = varsOf ((n : Int), xs) K by rw [hq.varsOf K, hM])
  have HS := Lib.hid (show ∀ v, bitAt M v = someFrom K v 0 (xs.drop 0) by intro v; rw [hM]; exact hq.some K v)
  clear hq hl4 hM
  have hb0 : Below w.heap.size w w := Below.refl _ _
  go_enter Try.func178, Try.ntmps178
  obtain ⟨w1, hw1⟩ : ∃ W, W = w.alloc (.cells #[.int .i64 n, .slice ub un uc] 46) := ⟨_, rfl⟩
  have z1 : Below w.heap.size w w1 := by rw [hw1]; exact (Below.refl _ _).alloc (Nat.le_refl _) _
  have s1 : w1.heap.size = w.heap.size + 1 := by rw [hw1]; simp
  have hb1 := on hb0 z1
  have b_0 : w1.cell? ⟨w.heap.size, 0, none⟩ = some (.int .i64 n) := by rw [hw1]; exact box_cell (Below.refl _ _) rfl
  have b_1 : w1.cell? ⟨w.heap.size, 1, none⟩ = some (.slice ub un uc) := by rw [hw1]; exact box_cell (Below.refl _ _) rfl
  have raw1_b_0 := b_0
  have raw1_b_1 := b_1
  rw [hw1] at raw1_b_0 raw1_b_1
  go_wp2_with fail
  rw [← hw1]
  clear hw1
  clear raw1_b_0 raw1_b_1
  go_loopw [5, 6] (fun s k wr => ∃ j q : Nat, j ≤ n ∧ k = .int .i64 j ∧ OwnInts w1.heap.size wr s q (bitsTo M j) ∧ Below w1.heap.size w1 wr) (fun _ k _ => n - (intOf k).toNat)
  case atStart => exact ⟨0, 0, Nat.zero_le _, rfl, own_empty' (Nat.le_refl _) (by omega), (Below.refl _ _).alloc (Nat.le_refl _) _⟩
  case round =>
    obtain ⟨j, q, hj, rfl, hown, hdr⟩ := hrel
    obtain ⟨wo, rfl⟩ : ∃ W, W = wr := ⟨_, rfl⟩
    have hlc := hdr
    have s2 := hdr.size
    have hb2 := on hb1 hdr
    replace b_0 := (hdr.cell (p := ⟨w.heap.size, 0, none⟩) (by simp only []; omega)).trans b_0
    replace b_1 := (hdr.cell (p := ⟨w.heap.size, 1, none⟩) (by simp only []; omega)).trans b_1
    have hq4 : q ≤ 4 := by have := hown.len; have := bitsTo_len M j; omega
    by_cases hlt : j < n
    · go_wp2_with fail
      obtain ⟨a, cap, rfl, hqs, hqa⟩ := own_form hown.row
      go_loopw [5, 19] (fun s k wr => ∃ i' : Nat, i' ≤ un ∧ k = .int .i64 i' ∧ s = .slice a q cap ∧ Hid (bitAt M j = someFrom K j i' (xs.drop i')) ∧ Below wo.heap.size wo wr) (fun _ k _ => un - (intOf k).toNat)
      case atStart => exact ⟨0, Nat.zero_le _, rfl, rfl, HS.out j, Below.refl _ _⟩
      case round =>
        obtain ⟨i', hi, rfl, rfl, hE, hdr⟩ := hrel
        have hld := hdr
        have s3 := hdr.size
        have hb3 := on hb2 hdr
        replace b_0 := (hdr.cell (p := ⟨w.heap.size, 0, none⟩) (by simp only []; omega)).trans b_0
        replace b_1 := (hdr.cell (p := ⟨w.heap.size, 1, none⟩) (by simp only []; omega)).trans b_1
        replace hlc := on hlc hdr
        replace hown := hown.below hdr
        by_cases hlv : i' < un
        · obtain ⟨b1, o1, cs, x, rfl, hx, hr, hc⟩ := t0.at hlv
          obtain ⟨s, vs⟩ := x
          obtain ⟨vb, vn, vc, rfl, hs, g2⟩ := rA_open hr
          simp only at hs g2
          have e_lt : b1 < w.heap.size := cell_lt (hc 0 _ rfl)
          have e_0 : wr.cell? ⟨b1, o1 + i' * 2, none⟩ = some (.string s) := (hb3.cell (p := ⟨b1, o1 + i' * 2, none⟩) e_lt).trans (by have h9 := hc 0 _ rfl; rw [← Nat.add_assoc] at h9; exact h9)
          have e_1 : wr.cell? ⟨b1, o1 + i' * 2 + 1, none⟩ = some (.slice vb vn vc) := (hb3.cell (p := ⟨b1, o1 + i' * 2 + 1, none⟩) e_lt).trans (by have h9 := hc 1 _ rfl; rw [← Nat.add_assoc] at h9; exact h9)
          have HA := Lib.hid (hE.out.trans (someFrom_at hx.out))
          clear hc t0 hr hl hx hE HV HS
          simp only at HA
          obtain ⟨w4, hw4⟩ : ∃ W, W = wr.alloc (.cells #[.string s, .slice vb vn vc] 161) := ⟨_, rfl⟩
          have z4 : Below wr.heap.size wr w4 := by rw [hw4]; exact (Below.refl _ _).alloc (Nat.le_refl _) _
          have s4 : w4.heap.size = wr.heap.size + 1 := by rw [hw4]; simp
          have hb4 := on hb3 z4
          have old4_b_0 := b_0
          have old4_b_1 := b_1
          have old4_e_0 := e_0
          have old4_e_1 := e_1
          replace b_0 := (z4.cell (p := ⟨w.heap.size, 0, none⟩) (by simp only []; omega)).trans b_0
          replace b_1 := (z4.cell (p := ⟨w.heap.size, 1, none⟩) (by simp only []; omega)).trans b_1
          replace hlc := on hlc z4
          replace hown := hown.below z4
          replace hld := on hld z4
          replace e_0 := (z4.cell (p := ⟨b1, o1 + i' * 2, none⟩) (by simp only []; omega)).trans e_0
          replace e_1 := (z4.cell (p := ⟨b1, o1 + i' * 2 + 1, none⟩) (by simp only []; omega)).trans e_1
          have p_0 : w4.cell? ⟨wr.heap.size, 0, none⟩ = some (.string s) := by rw [hw4]; exact box_cell (Below.refl _ _) rfl
          have p_1 : w4.cell? ⟨wr.heap.size, 1, none⟩ = some (.slice vb vn vc) := by rw [hw4]; exact box_cell (Below.refl _ _) rfl
          have raw4_b_0 := b_0
          have raw4_b_1 := b_1
          have raw4_e_0 := e_0
          have raw4_e_1 := e_1
          have raw4_p_0 := p_0
          have raw4_p_1 := p_1
          rw [hw4] at raw4_b_0 raw4_b_1 raw4_e_0 raw4_e_1 raw4_p_0 raw4_p_1
          have hbt := bit_test K i' (by omega)
          have hlt2 : (j : Int) < n := by omega
          cases hb : bitAt K i' with
          | true =>
            rw [hb] at HA hbt
            have i0 := (rI_ints g2).below hb4
            clear hb
            go_wp2_with fail
            rw [← hw4]
            clear hw4
            clear old4_b_0 old4_b_1 old4_e_0 old4_e_1 raw4_b_0 raw4_b_1 raw4_e_0 raw4_e_1 raw4_p_0 raw4_p_1
            refine (contains_any _ _ _ _ _ _ i0).mono ?_
            rintro e w' ⟨rfl, rfl⟩
            obtain ⟨t, ht⟩ : ∃ t, t = has vs (j : Int) := ⟨_, rfl⟩
            rw [← ht] at HA ⊢
            clear ht i0
            cases t with
            | true =>
              have HB := Lib.hid (bitsTo_yes (show bitAt M j = true by rw [HA.out]; simp))
              have hsz := hlc.size
              go_wp2_with ((at_builtin; refine wpList_app1g _ _ _ _ _ _ _ hown hlc hsz ⟨by omega, by omega⟩ (by omega) (by omega) rfl rfl rfl rfl ?_; intro v' w9 hown' hb' hsz'))
              rw [← HB.out] at hown'
              go_roundw
              case rel => exact ⟨j + 1, q + 1, by omega, by go_num, hown', hb'⟩
              case measure => simp [intOf]; omega
            | false =>
              have HE := Lib.hid (show bitAt M j = someFrom K j (i' + 1) (xs.drop (i' + 1)) by rw [HA.out]; simp)
              go_wp2_with fail
              go_roundw
              case rel => exact ⟨i' + 1, by omega, by go_num, rfl, HE.out, hld⟩
              case measure => simp [intOf]; omega
          | false =>
            rw [hb] at HA hbt
            have HE := Lib.hid (show bitAt M j = someFrom K j (i' + 1) (xs.drop (i' + 1)) by rw [HA.out]; simp)
            clear hb HA
            go_wp2_with fail
            rw [← hw4]
            clear hw4
            clear old4_b_0 old4_b_1 old4_e_0 old4_e_1 raw4_b_0 raw4_b_1 raw4_e_0 raw4_e_1 raw4_p_0 raw4_p_1
            go_roundw
            case rel => exact ⟨i' + 1, by omega, by go_num, rfl, HE.out, hld⟩
            case measure => simp [intOf]; omega
        · rw [← bitsTo_no (hE.out.trans (someFrom_end (by omega)))] at hown
          have HO := Lib.hid hown
          clear t0 hl hE hown
          go_wp2_with fail
          go_roundw
          case rel => exact ⟨j + 1, q, by omega, by go_num, HO.out, hlc⟩
          case measure => simp [intOf]; omega
    · obtain rfl : j = n := by omega
      obtain ⟨a, cap, rfl, _⟩ := own_form hown.row
      rw [HV.out] at hown
      have HO := Lib.hid (show Own oI w.heap.size wo.heap.size wo [.slice a q cap] _ from hown.own.mono (by omega) (Nat.le_refl _))
      clear t0 hl hown
      go_wp2_with fail
      go_ret
      exact ⟨_, rfl, HO.out, hb2⟩

theorem maskVars_cnt (q : DQ) (k : Int) : cnt_I (maskVars q k) ≤ 4 := maskVars_len q k

set_option maxHeartbeats 1000000 in
theorem both_any (u v : Value) (xs ys : List Int) (w : World) (h : rI.rep w [u] xs) (h' : rI.rep w [v] ys) (hn : xs.length ≤ 1048576) :
    Calls Try.prog 179 #[u, v] w fun e w' => ∃ u, e = .returned u ∧ Own oI w.heap.size w'.heap.size w' [u] (both xs ys) ∧ Below w.heap.size w w' := by
  obtain ⟨a, cap, rfl, _, _, hi⟩ := rI_open h
  obtain ⟨a', cap', rfl, _, _, hi'⟩ := rI_open h'
  clear h h'
  obtain ⟨n, hl⟩ : ∃ n, xs.length = n := ⟨_, rfl⟩
  rw [hl] at hi hn ⊢
  go_enter Try.func179, Try.ntmps179
  go_wp2
  go_loopw [5, 11] (fun v i wr => ∃ (j : Nat), j ≤ n ∧ i = .int .i64 j ∧ ∃ q, OwnInts w.heap.size wr v q (both (xs.take j) ys) ∧ Below w.heap.size w wr) (fun _ i _ => n - (intOf i).toNat)
  case atStart => exact ⟨0, Nat.zero_le _, rfl, 0, by rw [List.take_zero]; exact own_empty (Nat.le_refl _), (Below.refl _ _).alloc (Nat.le_refl _) _⟩
  case round =>
    obtain ⟨j, hj, rfl, q, hown, hbl⟩ := hrel
    have hsz := hbl.size
    replace hi := hi.below hbl
    replace hi' := hi'.below hbl
    have hq : q ≤ 1048576 := by have := hown.len; have := both_len (xs.take j) ys; have : (xs.take j).length ≤ j := List.length_take_le _ _; omega
    by_cases hlt : j < n
    · obtain ⟨b1, off, x, rfl, hc, hx, hx1, hx2⟩ := hi.get hlt
      have hcall := contains_any _ _ cap' _ x _ hi'
      obtain ⟨t, ht⟩ : ∃ t, t = has ys x := ⟨_, rfl⟩
      rw [← ht] at hcall
      have HC := Lib.hid hcall
      clear hcall
      cases t with
      | true =>
        have HB := Lib.hid (both_yes (show j < xs.length by omega) hx.out ht.symm)
        clear ht hi hl
        go_wp2_with (first
          | (go_at_call 124; refine (HC.out).mono ?_; rintro e w' ⟨rfl, rfl⟩)
          | (at_builtin; refine wpList_app1 _ _ _ _ _ _ hown hbl hsz ⟨by omega, by omega⟩ (by omega) rfl rfl rfl rfl ?_; intro v' w1 hown' hb' hsz'))
        rw [← HB.out] at hown'
        go_roundw
        case rel => exact ⟨j + 1, by omega, by go_num, q + 1, hown', hb'⟩
        case measure => simp [intOf]; omega
      | false =>
        rw [← both_no (show j < xs.length by omega) hx.out ht.symm] at hown
        have HO := Lib.hid hown
        clear ht hi hl hown
        go_wp2_with (first
          | (go_at_call 124; refine (HC.out).mono ?_; rintro e w' ⟨rfl, rfl⟩))
        go_roundw
        case rel => exact ⟨j + 1, by omega, by go_num, q, HO.out, hbl⟩
        case measure => simp [intOf]; omega
    · obtain rfl : j = n := by omega
      obtain ⟨a', cap2, rfl, _⟩ := own_form hown.row
      rw [both_end (by omega)] at hown
      have HO := Lib.hid hown
      clear hown hi hi' hl
      go_wp2
      go_ret
      exact ⟨_, rfl, HO.out.own, hbl⟩

end Go.Proofs.Ytbkoddikfpkocaa

/- Contracts: tables looked up (4): one contract a side. -/
namespace Go.Proofs.Ytbkoddikfpkocaa
open Go.RowKit Go.Sort
set_option linter.unusedVariables false
set_option linter.unusedSimpArgs false
set_option synthInstance.maxSize 2000
set_option synthInstance.maxHeartbeats 400000

/-- The table that is handed back. -/
def lookT (o : Option DT) : DT := o.getD (⟨#[]⟩, 0, [])
theorem lookT_ar {db : DDb} {name : ByteArray} : 0 ≤ (lookT (look db name)).2.1 ∧ (lookT (look db name)).2.1 ≤ 3 := by
  cases h : look db name with
  | none => simp [lookT]
  | some t => have := (look_ok h).ar; simp only [lookT, Option.getD_some]; omega
theorem own_noT (lo hi : Nat) (w : World) : Own oT lo hi w [.string ⟨#[]⟩, .int .i64 0, .slice none 0 0] (⟨#[]⟩, 0, []) :=
  oT_mk (x := (⟨#[]⟩, 0, [])) (by decide) (show I64 0 from by unfold I64; omega) (l2 := lo) (m2 := hi) (Acc.nil (lo := lo) (S := lo) (hi := hi) |>.own (Nat.le_refl _) (Nat.le_refl _) (Nat.le_refl _)) (Nat.le_refl _) (Nat.le_refl _)

theorem lookI_any (cs : List Value) (db : DDb) (name : ByteArray) (w : World) (h : rDb.rep w cs db) :
    Calls Try.prog 149 #[.agg cs.toArray, .string name] w fun e w' => ∃ vb vn vc, e = .returned (.tuple #[.agg #[.string (lookT (look db name)).1, .int .i64 (lookT (look db name)).2.1, .slice vb vn vc], .bool (look db name).isSome]) ∧ Own oT w.heap.size w'.heap.size w' [.string (lookT (look db name)).1, .int .i64 (lookT (look db name)).2.1, .slice vb vn vc] (lookT (look db name)) ∧ Below w.heap.size w w' := by
  cases hL : look db name with
  | none =>
    refine (lookI_none cs db name w h hL).mono ?_
    rintro e w1 ⟨rfl, z⟩
    exact ⟨none, 0, 0, rfl, own_noT _ _ _, z⟩
  | some t =>
    refine (lookI_some cs db name t w h hL).mono ?_
    rintro e w1 ⟨ds, rfl, ho, z⟩
    obtain ⟨vb, vn, vc, rfl⟩ := oT_form ho
    exact ⟨vb, vn, vc, rfl, ho, z⟩

theorem lookS_any (cs : List Value) (db : DDb) (name : ByteArray) (w : World) (h : rDb.rep w cs db) :
    Calls Try.prog 148 #[.agg cs.toArray, .string name] w fun e w' => ∃ vb vn vc, e = .returned (.tuple #[.agg #[.string (lookT (look db name)).1, .int .i64 (lookT (look db name)).2.1, .slice vb vn vc], .bool (look db name).isSome]) ∧ Own oT w.heap.size w'.heap.size w' [.string (lookT (look db name)).1, .int .i64 (lookT (look db name)).2.1, .slice vb vn vc] (lookT (look db name)) ∧ Below w.heap.size w w' := by
  cases hL : look db name with
  | none =>
    refine (lookS_none cs db name w h hL).mono ?_
    rintro e w1 ⟨rfl, z⟩
    exact ⟨none, 0, 0, rfl, own_noT _ _ _, z⟩
  | some t =>
    refine (lookS_some cs db name t w h hL).mono ?_
    rintro e w1 ⟨ds, rfl, ho, z⟩
    obtain ⟨vb, vn, vc, rfl⟩ := oT_form ho
    exact ⟨vb, vn, vc, rfl, ho, z⟩

end Go.Proofs.Ytbkoddikfpkocaa

/- Contracts: whether a dependency is valid. -/
namespace Go.Proofs.Ytbkoddikfpkocaa
open Go.RowKit Go.Sort
set_option linter.unusedVariables false
set_option linter.unusedSimpArgs false
set_option synthInstance.maxSize 2000
set_option synthInstance.maxHeartbeats 400000

/-- Whether a dependency is valid. -/
def validDp (db : DDb) (x : DDp) : Bool := (look db x.1).isSome && (colsB (lookT (look db x.1)).2.1 x.2.1 && (betw x.2.2 0 ((lookT (look db x.1)).2.1 - 1) && !has x.2.1 x.2.2))
theorem look_okT {db : DDb} {name : ByteArray} (h : (look db name).isSome = true) : TOk (lookT (look db name)) := by
  cases hL : look db name with
  | none => rw [hL] at h; cases h
  | some t => exact look_ok hL
theorem look_valid {db : DDb} {name : ByteArray} (h : (look db name).isSome = true) : validT (lookT (look db name)) = true := by
  cases hL : look db name with
  | none => rw [hL] at h; cases h
  | some t =>
    unfold look at hL
    split at hL
    · rename_i hv
      refine dbFrom_mem (p := none) (by have h9 := hv; simp only [validDb, Bool.and_eq_true] at h9; exact h9.1) _ (List.mem_of_find?_eq_some hL)
    · cases hL

end Go.Proofs.Ytbkoddikfpkocaa

/- Contracts: whether an inclusion is valid. -/
namespace Go.Proofs.Ytbkoddikfpkocaa
open Go.RowKit Go.Sort
set_option linter.unusedVariables false
set_option linter.unusedSimpArgs false
set_option synthInstance.maxSize 2000
set_option synthInstance.maxHeartbeats 400000

/-- Whether an inclusion is valid. -/
def validIn (db : DDb) (x : DIn) : Bool := (look db x.1).isSome && ((look db x.2.2.1).isSome && (betw x.2.1 0 ((lookT (look db x.1)).2.1 - 1) && betw x.2.2.2 0 ((lookT (look db x.2.2.1)).2.1 - 1)))

set_option maxHeartbeats 1000000 in
theorem validIn_impl (cs ds : List Value) (db : DDb) (x : DIn) (w : World) (h : rDb.rep w cs db) (h' : rIn.rep w ds x) :
    Calls Try.prog 146 #[.agg cs.toArray, .agg ds.toArray] w fun e w' => e = .returned (.bool (validIn db x)) ∧ Below w.heap.size w w' := by
  obtain ⟨ub, un, uc, rfl, g1⟩ := rDb_open h
  obtain ⟨rfl, hs0, hi1, hs2, hi3⟩ := rIn_open h'
  obtain ⟨m1, c1, m2, c2⟩ := x
  simp only at hs0 hi1 hs2 hi3
  have hA := @lookT_ar db m1
  have hB := @lookT_ar db m2
  have hc1 := fun W (hW : Below w.heap.size w W) => lookI_any [.slice ub un uc] db m1 W (rDb.mono h hW)
  have hc2 := fun W (hW : Below w.heap.size w W) => lookI_any [.slice ub un uc] db m2 W (rDb.mono h hW)
  have HV : Hid (validIn db (m1, c1, m2, c2) = ((look db m1).isSome && ((look db m2).isSome && (betw c1 0 ((lookT (look db m1)).2.1 - 1) && betw c2 0 ((lookT (look db m2)).2.1 - 1))))) := rfl
  obtain ⟨p, hp⟩ : ∃ p, (look db m1).isSome = p := ⟨_, rfl⟩
  obtain ⟨q, hq⟩ : ∃ q, (look db m2).isSome = q := ⟨_, rfl⟩
  obtain ⟨t1, ht1⟩ : ∃ t, lookT (look db m1) = t := ⟨_, rfl⟩
  obtain ⟨t2, ht2⟩ : ∃ t, lookT (look db m2) = t := ⟨_, rfl⟩
  rw [hp, hq, ht1, ht2] at HV
  simp only [hp, ht1] at hc1 hA
  simp only [hq, ht2] at hc2 hB
  obtain ⟨ns, A, r1⟩ := t1
  obtain ⟨ms, B, r2⟩ := t2
  simp only at hA hB HV hc1 hc2
  have HC1 := Lib.hid hc1
  have HC2 := Lib.hid hc2
  have hwA : IntKind.i64.wrap (A - 1) = A - 1 := IntWalk.i64_in _ (by omega)
  have hwB : IntKind.i64.wrap (B - 1) = B - 1 := IntWalk.i64_in _ (by omega)
  obtain ⟨u, hu⟩ : ∃ u, betw c1 0 (A - 1) = u := ⟨_, rfl⟩
  rw [hu] at HV
  clear hc1 hc2 hp hq ht1 ht2 h h' g1 hs0 hi1 hs2 hi3 hA hB
  have hb0 : Below w.heap.size w w := Below.refl _ _
  go_enter Try.func146, Try.ntmps146
  obtain ⟨w1, hw1⟩ : ∃ W, W = w.alloc (.cells #[.slice ub un uc] 89) := ⟨_, rfl⟩
  have z1 : Below w.heap.size w w1 := by rw [hw1]; exact (Below.refl _ _).alloc (Nat.le_refl _) _
  have s1 : w1.heap.size = w.heap.size + 1 := by rw [hw1]; simp
  have hb1 := on hb0 z1
  have b_0 : w1.cell? ⟨w.heap.size, 0, none⟩ = some (.slice ub un uc) := by rw [hw1]; exact box_cell (Below.refl _ _) rfl
  have raw1_b_0 := b_0
  rw [hw1] at raw1_b_0
  obtain ⟨w2, hw2⟩ : ∃ W, W = w1.alloc (.cells #[.string m1, .int .i64 c1, .string m2, .int .i64 c2] 91) := ⟨_, rfl⟩
  have z2 : Below w1.heap.size w1 w2 := by rw [hw2]; exact (Below.refl _ _).alloc (Nat.le_refl _) _
  have s2 : w2.heap.size = w1.heap.size + 1 := by rw [hw2]; simp
  have hb2 := on hb1 z2
  replace b_0 := (z2.cell (p := ⟨w.heap.size, 0, none⟩) (by simp only []; omega)).trans b_0
  have e2 : w1.heap.size = w.heap.size + 1 := by omega
  have x_0 : w2.cell? ⟨w1.heap.size, 0, none⟩ = some (.string m1) := by rw [hw2]; exact box_cell (Below.refl _ _) rfl
  have x_1 : w2.cell? ⟨w1.heap.size, 1, none⟩ = some (.int .i64 c1) := by rw [hw2]; exact box_cell (Below.refl _ _) rfl
  have x_2 : w2.cell? ⟨w1.heap.size, 2, none⟩ = some (.string m2) := by rw [hw2]; exact box_cell (Below.refl _ _) rfl
  have x_3 : w2.cell? ⟨w1.heap.size, 3, none⟩ = some (.int .i64 c2) := by rw [hw2]; exact box_cell (Below.refl _ _) rfl
  rw [e2] at x_0 x_1 x_2 x_3
  have raw2_b_0 := b_0
  have raw2_x_0 := x_0
  have raw2_x_1 := x_1
  have raw2_x_2 := x_2
  have raw2_x_3 := x_3
  rw [hw2, hw1] at raw2_b_0 raw2_x_0 raw2_x_1 raw2_x_2 raw2_x_3
  go_wp2_with fail
  rw [← hw1]
  rw [← hw2]
  clear hw2 hw1
  clear raw1_b_0 raw2_b_0 raw2_x_0 raw2_x_1 raw2_x_2 raw2_x_3
  refine (HC1.out _ hb2).mono ?_
  rintro e w9 ⟨vb, vn, vc, rfl, _, z9⟩
  have s3 := z9.size
  have hb3 := on hb2 z9
  replace b_0 := (z9.cell (p := ⟨w.heap.size, 0, none⟩) (by simp only []; omega)).trans b_0
  replace x_0 := (z9.cell (p := ⟨w.heap.size + 1, 0, none⟩) (by simp only []; omega)).trans x_0
  replace x_1 := (z9.cell (p := ⟨w.heap.size + 1, 1, none⟩) (by simp only []; omega)).trans x_1
  replace x_2 := (z9.cell (p := ⟨w.heap.size + 1, 2, none⟩) (by simp only []; omega)).trans x_2
  replace x_3 := (z9.cell (p := ⟨w.heap.size + 1, 3, none⟩) (by simp only []; omega)).trans x_3
  obtain ⟨w4, hw4⟩ : ∃ W, W = w9.alloc (.cells #[.string ns, .int .i64 A, .slice vb vn vc] 34) := ⟨_, rfl⟩
  have z4 : Below w9.heap.size w9 w4 := by rw [hw4]; exact (Below.refl _ _).alloc (Nat.le_refl _) _
  have s4 : w4.heap.size = w9.heap.size + 1 := by rw [hw4]; simp
  have hb4 := on hb3 z4
  have old4_b_0 := b_0
  have old4_x_0 := x_0
  have old4_x_1 := x_1
  have old4_x_2 := x_2
  have old4_x_3 := x_3
  replace b_0 := (z4.cell (p := ⟨w.heap.size, 0, none⟩) (by simp only []; omega)).trans b_0
  replace x_0 := (z4.cell (p := ⟨w.heap.size + 1, 0, none⟩) (by simp only []; omega)).trans x_0
  replace x_1 := (z4.cell (p := ⟨w.heap.size + 1, 1, none⟩) (by simp only []; omega)).trans x_1
  replace x_2 := (z4.cell (p := ⟨w.heap.size + 1, 2, none⟩) (by simp only []; omega)).trans x_2
  replace x_3 := (z4.cell (p := ⟨w.heap.size + 1, 3, none⟩) (by simp only []; omega)).trans x_3
  have t_0 : w4.cell? ⟨w9.heap.size, 0, none⟩ = some (.string ns) := by rw [hw4]; exact box_cell (Below.refl _ _) rfl
  have t_1 : w4.cell? ⟨w9.heap.size, 1, none⟩ = some (.int .i64 A) := by rw [hw4]; exact box_cell (Below.refl _ _) rfl
  have t_2 : w4.cell? ⟨w9.heap.size, 2, none⟩ = some (.slice vb vn vc) := by rw [hw4]; exact box_cell (Below.refl _ _) rfl
  have raw4_b_0 := b_0
  have raw4_x_0 := x_0
  have raw4_x_1 := x_1
  have raw4_x_2 := x_2
  have raw4_x_3 := x_3
  have raw4_t_0 := t_0
  have raw4_t_1 := t_1
  have raw4_t_2 := t_2
  rw [hw4] at raw4_b_0 raw4_x_0 raw4_x_1 raw4_x_2 raw4_x_3 raw4_t_0 raw4_t_1 raw4_t_2
  go_wp2_with fail
  rw [← hw4]
  clear hw4
  clear old4_b_0 old4_x_0 old4_x_1 old4_x_2 old4_x_3 raw4_b_0 raw4_x_0 raw4_x_1 raw4_x_2 raw4_x_3 raw4_t_0 raw4_t_1 raw4_t_2
  refine (HC2.out _ hb4).mono ?_
  rintro e w10 ⟨vb', vn', vc', rfl, _, z10⟩
  have s5 := z10.size
  have hb5 := on hb4 z10
  replace b_0 := (z10.cell (p := ⟨w.heap.size, 0, none⟩) (by simp only []; omega)).trans b_0
  replace x_0 := (z10.cell (p := ⟨w.heap.size + 1, 0, none⟩) (by simp only []; omega)).trans x_0
  replace x_1 := (z10.cell (p := ⟨w.heap.size + 1, 1, none⟩) (by simp only []; omega)).trans x_1
  replace x_2 := (z10.cell (p := ⟨w.heap.size + 1, 2, none⟩) (by simp only []; omega)).trans x_2
  replace x_3 := (z10.cell (p := ⟨w.heap.size + 1, 3, none⟩) (by simp only []; omega)).trans x_3
  replace t_0 := (z10.cell (p := ⟨w9.heap.size, 0, none⟩) (by simp only []; omega)).trans t_0
  replace t_1 := (z10.cell (p := ⟨w9.heap.size, 1, none⟩) (by simp only []; omega)).trans t_1
  replace t_2 := (z10.cell (p := ⟨w9.heap.size, 2, none⟩) (by simp only []; omega)).trans t_2
  obtain ⟨w6, hw6⟩ : ∃ W, W = w10.alloc (.cells #[.string ms, .int .i64 B, .slice vb' vn' vc'] 34) := ⟨_, rfl⟩
  have z6 : Below w10.heap.size w10 w6 := by rw [hw6]; exact (Below.refl _ _).alloc (Nat.le_refl _) _
  have s6 : w6.heap.size = w10.heap.size + 1 := by rw [hw6]; simp
  have hb6 := on hb5 z6
  have old6_b_0 := b_0
  have old6_x_0 := x_0
  have old6_x_1 := x_1
  have old6_x_2 := x_2
  have old6_x_3 := x_3
  have old6_t_0 := t_0
  have old6_t_1 := t_1
  have old6_t_2 := t_2
  replace b_0 := (z6.cell (p := ⟨w.heap.size, 0, none⟩) (by simp only []; omega)).trans b_0
  replace x_0 := (z6.cell (p := ⟨w.heap.size + 1, 0, none⟩) (by simp only []; omega)).trans x_0
  replace x_1 := (z6.cell (p := ⟨w.heap.size + 1, 1, none⟩) (by simp only []; omega)).trans x_1
  replace x_2 := (z6.cell (p := ⟨w.heap.size + 1, 2, none⟩) (by simp only []; omega)).trans x_2
  replace x_3 := (z6.cell (p := ⟨w.heap.size + 1, 3, none⟩) (by simp only []; omega)).trans x_3
  replace t_0 := (z6.cell (p := ⟨w9.heap.size, 0, none⟩) (by simp only []; omega)).trans t_0
  replace t_1 := (z6.cell (p := ⟨w9.heap.size, 1, none⟩) (by simp only []; omega)).trans t_1
  replace t_2 := (z6.cell (p := ⟨w9.heap.size, 2, none⟩) (by simp only []; omega)).trans t_2
  have y_0 : w6.cell? ⟨w10.heap.size, 0, none⟩ = some (.string ms) := by rw [hw6]; exact box_cell (Below.refl _ _) rfl
  have y_1 : w6.cell? ⟨w10.heap.size, 1, none⟩ = some (.int .i64 B) := by rw [hw6]; exact box_cell (Below.refl _ _) rfl
  have y_2 : w6.cell? ⟨w10.heap.size, 2, none⟩ = some (.slice vb' vn' vc') := by rw [hw6]; exact box_cell (Below.refl _ _) rfl
  have raw6_b_0 := b_0
  have raw6_x_0 := x_0
  have raw6_x_1 := x_1
  have raw6_x_2 := x_2
  have raw6_x_3 := x_3
  have raw6_t_0 := t_0
  have raw6_t_1 := t_1
  have raw6_t_2 := t_2
  have raw6_y_0 := y_0
  have raw6_y_1 := y_1
  have raw6_y_2 := y_2
  rw [hw6] at raw6_b_0 raw6_x_0 raw6_x_1 raw6_x_2 raw6_x_3 raw6_t_0 raw6_t_1 raw6_t_2 raw6_y_0 raw6_y_1 raw6_y_2
  cases p with
  | false =>
    go_wp2_with fail
    rw [← hw6]
    clear hw6
    clear old6_b_0 old6_x_0 old6_x_1 old6_x_2 old6_x_3 old6_t_0 old6_t_1 old6_t_2 raw6_b_0 raw6_x_0 raw6_x_1 raw6_x_2 raw6_x_3 raw6_t_0 raw6_t_1 raw6_t_2 raw6_y_0 raw6_y_1 raw6_y_2
    go_wp2_with fail
    go_ret
    exact ⟨ret_bool (by rw [HV.out]; rfl), hb6⟩
  | true =>
    cases q with
    | false =>
      go_wp2_with fail
      rw [← hw6]
      clear hw6
      clear old6_b_0 old6_x_0 old6_x_1 old6_x_2 old6_x_3 old6_t_0 old6_t_1 old6_t_2 raw6_b_0 raw6_x_0 raw6_x_1 raw6_x_2 raw6_x_3 raw6_t_0 raw6_t_1 raw6_t_2 raw6_y_0 raw6_y_1 raw6_y_2
      go_wp2_with fail
      go_ret
      exact ⟨ret_bool (by rw [HV.out]; rfl), hb6⟩
    | true =>
      cases u with
      | false =>
        go_wp2_with fail
        rw [← hw6]
        clear hw6
        clear old6_b_0 old6_x_0 old6_x_1 old6_x_2 old6_x_3 old6_t_0 old6_t_1 old6_t_2 raw6_b_0 raw6_x_0 raw6_x_1 raw6_x_2 raw6_x_3 raw6_t_0 raw6_t_1 raw6_t_2 raw6_y_0 raw6_y_1 raw6_y_2
        refine (within_any _ _ _ _).mono ?_
        rintro e w' ⟨rfl, rfl⟩
        rw [hu]
        go_wp2_with fail
        go_ret
        exact ⟨ret_bool (by rw [HV.out]; rfl), hb6⟩
      | true =>
        go_wp2_with fail
        rw [← hw6]
        clear hw6
        clear old6_b_0 old6_x_0 old6_x_1 old6_x_2 old6_x_3 old6_t_0 old6_t_1 old6_t_2 raw6_b_0 raw6_x_0 raw6_x_1 raw6_x_2 raw6_x_3 raw6_t_0 raw6_t_1 raw6_t_2 raw6_y_0 raw6_y_1 raw6_y_2
        refine (within_any _ _ _ _).mono ?_
        rintro e w' ⟨rfl, rfl⟩
        rw [hu]
        go_wp2_with fail
        refine (within_any _ _ _ _).mono ?_
        rintro e w' ⟨rfl, rfl⟩
        go_wp2_with fail
        go_ret
        exact ⟨ret_bool (by rw [HV.out]; rfl), hb6⟩

set_option maxHeartbeats 1000000 in
theorem validIn_spec (cs ds : List Value) (db : DDb) (x : DIn) (w : World) (h : rDb.rep w cs db) (h' : rIn.rep w ds x) :
    Calls Try.prog 144 #[.agg cs.toArray, .agg ds.toArray] w fun e w' => e = .returned (.bool (validIn db x)) ∧ Below w.heap.size w w' := by
  obtain ⟨ub, un, uc, rfl, g1⟩ := rDb_open h
  obtain ⟨rfl, hs0, hi1, hs2, hi3⟩ := rIn_open h'
  obtain ⟨m1, c1, m2, c2⟩ := x
  simp only at hs0 hi1 hs2 hi3
  have hA := @lookT_ar db m1
  have hB := @lookT_ar db m2
  have hc1 := fun W (hW : Below w.heap.size w W) => lookS_any [.slice ub un uc] db m1 W (rDb.mono h hW)
  have hc2 := fun W (hW : Below w.heap.size w W) => lookS_any [.slice ub un uc] db m2 W (rDb.mono h hW)
  have HV : Hid (validIn db (m1, c1, m2, c2) = ((look db m1).isSome && ((look db m2).isSome && (betw c1 0 ((lookT (look db m1)).2.1 - 1) && betw c2 0 ((lookT (look db m2)).2.1 - 1))))) := rfl
  obtain ⟨p, hp⟩ : ∃ p, (look db m1).isSome = p := ⟨_, rfl⟩
  obtain ⟨q, hq⟩ : ∃ q, (look db m2).isSome = q := ⟨_, rfl⟩
  obtain ⟨t1, ht1⟩ : ∃ t, lookT (look db m1) = t := ⟨_, rfl⟩
  obtain ⟨t2, ht2⟩ : ∃ t, lookT (look db m2) = t := ⟨_, rfl⟩
  rw [hp, hq, ht1, ht2] at HV
  simp only [hp, ht1] at hc1 hA
  simp only [hq, ht2] at hc2 hB
  obtain ⟨ns, A, r1⟩ := t1
  obtain ⟨ms, B, r2⟩ := t2
  simp only at hA hB HV hc1 hc2
  have HC1 := Lib.hid hc1
  have HC2 := Lib.hid hc2
  have hwA : IntKind.i64.wrap (A - 1) = A - 1 := IntWalk.i64_in _ (by omega)
  have hwB : IntKind.i64.wrap (B - 1) = B - 1 := IntWalk.i64_in _ (by omega)
  obtain ⟨u, hu⟩ : ∃ u, betw c1 0 (A - 1) = u := ⟨_, rfl⟩
  rw [hu] at HV
  clear hc1 hc2 hp hq ht1 ht2 h h' g1 hs0 hi1 hs2 hi3 hA hB
  have hb0 : Below w.heap.size w w := Below.refl _ _
  go_enter Try.func144, Try.ntmps144
  obtain ⟨w1, hw1⟩ : ∃ W, W = w.alloc (.cells #[.slice ub un uc] 89) := ⟨_, rfl⟩
  have z1 : Below w.heap.size w w1 := by rw [hw1]; exact (Below.refl _ _).alloc (Nat.le_refl _) _
  have s1 : w1.heap.size = w.heap.size + 1 := by rw [hw1]; simp
  have hb1 := on hb0 z1
  have b_0 : w1.cell? ⟨w.heap.size, 0, none⟩ = some (.slice ub un uc) := by rw [hw1]; exact box_cell (Below.refl _ _) rfl
  have raw1_b_0 := b_0
  rw [hw1] at raw1_b_0
  obtain ⟨w2, hw2⟩ : ∃ W, W = w1.alloc (.cells #[.string m1, .int .i64 c1, .string m2, .int .i64 c2] 91) := ⟨_, rfl⟩
  have z2 : Below w1.heap.size w1 w2 := by rw [hw2]; exact (Below.refl _ _).alloc (Nat.le_refl _) _
  have s2 : w2.heap.size = w1.heap.size + 1 := by rw [hw2]; simp
  have hb2 := on hb1 z2
  replace b_0 := (z2.cell (p := ⟨w.heap.size, 0, none⟩) (by simp only []; omega)).trans b_0
  have e2 : w1.heap.size = w.heap.size + 1 := by omega
  have x_0 : w2.cell? ⟨w1.heap.size, 0, none⟩ = some (.string m1) := by rw [hw2]; exact box_cell (Below.refl _ _) rfl
  have x_1 : w2.cell? ⟨w1.heap.size, 1, none⟩ = some (.int .i64 c1) := by rw [hw2]; exact box_cell (Below.refl _ _) rfl
  have x_2 : w2.cell? ⟨w1.heap.size, 2, none⟩ = some (.string m2) := by rw [hw2]; exact box_cell (Below.refl _ _) rfl
  have x_3 : w2.cell? ⟨w1.heap.size, 3, none⟩ = some (.int .i64 c2) := by rw [hw2]; exact box_cell (Below.refl _ _) rfl
  rw [e2] at x_0 x_1 x_2 x_3
  have raw2_b_0 := b_0
  have raw2_x_0 := x_0
  have raw2_x_1 := x_1
  have raw2_x_2 := x_2
  have raw2_x_3 := x_3
  rw [hw2, hw1] at raw2_b_0 raw2_x_0 raw2_x_1 raw2_x_2 raw2_x_3
  go_wp2_with fail
  rw [← hw1]
  rw [← hw2]
  clear hw2 hw1
  clear raw1_b_0 raw2_b_0 raw2_x_0 raw2_x_1 raw2_x_2 raw2_x_3
  refine (HC1.out _ hb2).mono ?_
  rintro e w9 ⟨vb, vn, vc, rfl, _, z9⟩
  have s3 := z9.size
  have hb3 := on hb2 z9
  replace b_0 := (z9.cell (p := ⟨w.heap.size, 0, none⟩) (by simp only []; omega)).trans b_0
  replace x_0 := (z9.cell (p := ⟨w.heap.size + 1, 0, none⟩) (by simp only []; omega)).trans x_0
  replace x_1 := (z9.cell (p := ⟨w.heap.size + 1, 1, none⟩) (by simp only []; omega)).trans x_1
  replace x_2 := (z9.cell (p := ⟨w.heap.size + 1, 2, none⟩) (by simp only []; omega)).trans x_2
  replace x_3 := (z9.cell (p := ⟨w.heap.size + 1, 3, none⟩) (by simp only []; omega)).trans x_3
  obtain ⟨w4, hw4⟩ : ∃ W, W = w9.alloc (.cells #[.string ns, .int .i64 A, .slice vb vn vc] 34) := ⟨_, rfl⟩
  have z4 : Below w9.heap.size w9 w4 := by rw [hw4]; exact (Below.refl _ _).alloc (Nat.le_refl _) _
  have s4 : w4.heap.size = w9.heap.size + 1 := by rw [hw4]; simp
  have hb4 := on hb3 z4
  have old4_b_0 := b_0
  have old4_x_0 := x_0
  have old4_x_1 := x_1
  have old4_x_2 := x_2
  have old4_x_3 := x_3
  replace b_0 := (z4.cell (p := ⟨w.heap.size, 0, none⟩) (by simp only []; omega)).trans b_0
  replace x_0 := (z4.cell (p := ⟨w.heap.size + 1, 0, none⟩) (by simp only []; omega)).trans x_0
  replace x_1 := (z4.cell (p := ⟨w.heap.size + 1, 1, none⟩) (by simp only []; omega)).trans x_1
  replace x_2 := (z4.cell (p := ⟨w.heap.size + 1, 2, none⟩) (by simp only []; omega)).trans x_2
  replace x_3 := (z4.cell (p := ⟨w.heap.size + 1, 3, none⟩) (by simp only []; omega)).trans x_3
  have t_0 : w4.cell? ⟨w9.heap.size, 0, none⟩ = some (.string ns) := by rw [hw4]; exact box_cell (Below.refl _ _) rfl
  have t_1 : w4.cell? ⟨w9.heap.size, 1, none⟩ = some (.int .i64 A) := by rw [hw4]; exact box_cell (Below.refl _ _) rfl
  have t_2 : w4.cell? ⟨w9.heap.size, 2, none⟩ = some (.slice vb vn vc) := by rw [hw4]; exact box_cell (Below.refl _ _) rfl
  have raw4_b_0 := b_0
  have raw4_x_0 := x_0
  have raw4_x_1 := x_1
  have raw4_x_2 := x_2
  have raw4_x_3 := x_3
  have raw4_t_0 := t_0
  have raw4_t_1 := t_1
  have raw4_t_2 := t_2
  rw [hw4] at raw4_b_0 raw4_x_0 raw4_x_1 raw4_x_2 raw4_x_3 raw4_t_0 raw4_t_1 raw4_t_2
  go_wp2_with fail
  rw [← hw4]
  clear hw4
  clear old4_b_0 old4_x_0 old4_x_1 old4_x_2 old4_x_3 raw4_b_0 raw4_x_0 raw4_x_1 raw4_x_2 raw4_x_3 raw4_t_0 raw4_t_1 raw4_t_2
  refine (HC2.out _ hb4).mono ?_
  rintro e w10 ⟨vb', vn', vc', rfl, _, z10⟩
  have s5 := z10.size
  have hb5 := on hb4 z10
  replace b_0 := (z10.cell (p := ⟨w.heap.size, 0, none⟩) (by simp only []; omega)).trans b_0
  replace x_0 := (z10.cell (p := ⟨w.heap.size + 1, 0, none⟩) (by simp only []; omega)).trans x_0
  replace x_1 := (z10.cell (p := ⟨w.heap.size + 1, 1, none⟩) (by simp only []; omega)).trans x_1
  replace x_2 := (z10.cell (p := ⟨w.heap.size + 1, 2, none⟩) (by simp only []; omega)).trans x_2
  replace x_3 := (z10.cell (p := ⟨w.heap.size + 1, 3, none⟩) (by simp only []; omega)).trans x_3
  replace t_0 := (z10.cell (p := ⟨w9.heap.size, 0, none⟩) (by simp only []; omega)).trans t_0
  replace t_1 := (z10.cell (p := ⟨w9.heap.size, 1, none⟩) (by simp only []; omega)).trans t_1
  replace t_2 := (z10.cell (p := ⟨w9.heap.size, 2, none⟩) (by simp only []; omega)).trans t_2
  obtain ⟨w6, hw6⟩ : ∃ W, W = w10.alloc (.cells #[.string ms, .int .i64 B, .slice vb' vn' vc'] 34) := ⟨_, rfl⟩
  have z6 : Below w10.heap.size w10 w6 := by rw [hw6]; exact (Below.refl _ _).alloc (Nat.le_refl _) _
  have s6 : w6.heap.size = w10.heap.size + 1 := by rw [hw6]; simp
  have hb6 := on hb5 z6
  have old6_b_0 := b_0
  have old6_x_0 := x_0
  have old6_x_1 := x_1
  have old6_x_2 := x_2
  have old6_x_3 := x_3
  have old6_t_0 := t_0
  have old6_t_1 := t_1
  have old6_t_2 := t_2
  replace b_0 := (z6.cell (p := ⟨w.heap.size, 0, none⟩) (by simp only []; omega)).trans b_0
  replace x_0 := (z6.cell (p := ⟨w.heap.size + 1, 0, none⟩) (by simp only []; omega)).trans x_0
  replace x_1 := (z6.cell (p := ⟨w.heap.size + 1, 1, none⟩) (by simp only []; omega)).trans x_1
  replace x_2 := (z6.cell (p := ⟨w.heap.size + 1, 2, none⟩) (by simp only []; omega)).trans x_2
  replace x_3 := (z6.cell (p := ⟨w.heap.size + 1, 3, none⟩) (by simp only []; omega)).trans x_3
  replace t_0 := (z6.cell (p := ⟨w9.heap.size, 0, none⟩) (by simp only []; omega)).trans t_0
  replace t_1 := (z6.cell (p := ⟨w9.heap.size, 1, none⟩) (by simp only []; omega)).trans t_1
  replace t_2 := (z6.cell (p := ⟨w9.heap.size, 2, none⟩) (by simp only []; omega)).trans t_2
  have y_0 : w6.cell? ⟨w10.heap.size, 0, none⟩ = some (.string ms) := by rw [hw6]; exact box_cell (Below.refl _ _) rfl
  have y_1 : w6.cell? ⟨w10.heap.size, 1, none⟩ = some (.int .i64 B) := by rw [hw6]; exact box_cell (Below.refl _ _) rfl
  have y_2 : w6.cell? ⟨w10.heap.size, 2, none⟩ = some (.slice vb' vn' vc') := by rw [hw6]; exact box_cell (Below.refl _ _) rfl
  have raw6_b_0 := b_0
  have raw6_x_0 := x_0
  have raw6_x_1 := x_1
  have raw6_x_2 := x_2
  have raw6_x_3 := x_3
  have raw6_t_0 := t_0
  have raw6_t_1 := t_1
  have raw6_t_2 := t_2
  have raw6_y_0 := y_0
  have raw6_y_1 := y_1
  have raw6_y_2 := y_2
  rw [hw6] at raw6_b_0 raw6_x_0 raw6_x_1 raw6_x_2 raw6_x_3 raw6_t_0 raw6_t_1 raw6_t_2 raw6_y_0 raw6_y_1 raw6_y_2
  cases p with
  | false =>
    go_wp2_with fail
    rw [← hw6]
    clear hw6
    clear old6_b_0 old6_x_0 old6_x_1 old6_x_2 old6_x_3 old6_t_0 old6_t_1 old6_t_2 raw6_b_0 raw6_x_0 raw6_x_1 raw6_x_2 raw6_x_3 raw6_t_0 raw6_t_1 raw6_t_2 raw6_y_0 raw6_y_1 raw6_y_2
    go_wp2_with fail
    go_ret
    exact ⟨ret_bool (by rw [HV.out]; rfl), hb6⟩
  | true =>
    cases q with
    | false =>
      go_wp2_with fail
      rw [← hw6]
      clear hw6
      clear old6_b_0 old6_x_0 old6_x_1 old6_x_2 old6_x_3 old6_t_0 old6_t_1 old6_t_2 raw6_b_0 raw6_x_0 raw6_x_1 raw6_x_2 raw6_x_3 raw6_t_0 raw6_t_1 raw6_t_2 raw6_y_0 raw6_y_1 raw6_y_2
      go_wp2_with fail
      go_ret
      exact ⟨ret_bool (by rw [HV.out]; rfl), hb6⟩
    | true =>
      cases u with
      | false =>
        go_wp2_with fail
        rw [← hw6]
        clear hw6
        clear old6_b_0 old6_x_0 old6_x_1 old6_x_2 old6_x_3 old6_t_0 old6_t_1 old6_t_2 raw6_b_0 raw6_x_0 raw6_x_1 raw6_x_2 raw6_x_3 raw6_t_0 raw6_t_1 raw6_t_2 raw6_y_0 raw6_y_1 raw6_y_2
        refine (l1In_any _ _ _ _).mono ?_
        rintro e w' ⟨rfl, rfl⟩
        rw [hu]
        go_wp2_with fail
        go_ret
        exact ⟨ret_bool (by rw [HV.out]; rfl), hb6⟩
      | true =>
        go_wp2_with fail
        rw [← hw6]
        clear hw6
        clear old6_b_0 old6_x_0 old6_x_1 old6_x_2 old6_x_3 old6_t_0 old6_t_1 old6_t_2 raw6_b_0 raw6_x_0 raw6_x_1 raw6_x_2 raw6_x_3 raw6_t_0 raw6_t_1 raw6_t_2 raw6_y_0 raw6_y_1 raw6_y_2
        refine (l1In_any _ _ _ _).mono ?_
        rintro e w' ⟨rfl, rfl⟩
        rw [hu]
        go_wp2_with fail
        refine (l1In_any _ _ _ _).mono ?_
        rintro e w' ⟨rfl, rfl⟩
        go_wp2_with fail
        go_ret
        exact ⟨ret_bool (by rw [HV.out]; rfl), hb6⟩

end Go.Proofs.Ytbkoddikfpkocaa

/- Plain: values that are missing; rows sorted and compacted. -/
namespace Go.Proofs.Ytbkoddikfpkocaa
open Go.RowKit
set_option linter.unusedVariables false
set_option linter.unusedSimpArgs false

/-- Strictly ascending numbers of the same members are the same. -/
theorem asc_uniq {l m : List Int} (h : l.Pairwise (· < ·)) (k : m.Pairwise (· < ·)) (hm : ∀ x, x ∈ l ↔ x ∈ m) : l = m := by
  have n1 : l.Nodup := h.imp fun h => by omega
  have n2 : m.Nodup := k.imp fun h => by omega
  refine List.Perm.eq_of_pairwise (le := (· ≤ ·)) (fun a b _ _ => Int.le_antisymm) (h.imp fun h => by omega) (k.imp fun h => by omega) ((List.perm_ext_iff_of_nodup n1 n2).2 hm)
/-- What slices.Compact leaves of a sorted list. -/
theorem compact_strict {zs : List Int} (h : zs.Pairwise (· ≤ ·)) : (Lib.compact zs).Pairwise (· < ·) ∧ ∀ x, x ∈ Lib.compact zs ↔ x ∈ zs := by
  have get : ∀ j, j < zs.length → zs.toArray[j]! = zs.getD j 0 := fun j hj => by simp [hj]
  have mono : ∀ i j, i ≤ j → j < zs.length → zs.getD i 0 ≤ zs.getD j 0 := fun i j hij hj => by
    rcases Nat.eq_or_lt_of_le hij with rfl | hlt
    · exact Int.le_refl _
    · have := (List.pairwise_iff_getElem.1 h) i j (by omega) hj hlt
      rw [List.getD_eq_getElem?_getD, List.getD_eq_getElem?_getD, List.getElem?_eq_getElem hj, List.getElem?_eq_getElem (show i < zs.length by omega)]
      exact this
  have memD : ∀ x, x ∈ zs ↔ ∃ j, j < zs.length ∧ zs.getD j 0 = x := fun x => by
    rw [List.mem_iff_getElem]
    constructor
    · rintro ⟨j, hj, rfl⟩; exact ⟨j, hj, by rw [List.getD_eq_getElem?_getD, List.getElem?_eq_getElem hj]; rfl⟩
    · rintro ⟨j, hj, rfl⟩; exact ⟨j, hj, by rw [List.getD_eq_getElem?_getD, List.getElem?_eq_getElem hj]; rfl⟩
  unfold Lib.compact Lib.compactUpTo
  constructor
  · rw [List.pairwise_map]
    refine List.Pairwise.imp_of_mem ?_ (List.Pairwise.filter _ (List.pairwise_lt_range (n := zs.length)))
    intro i j hi hj hij
    simp only [List.mem_filter, List.mem_range, Lib.keeps, decide_eq_true_eq] at hi hj
    rw [get i hi.1, get j hj.1]
    rw [get j hj.1, get (j - 1) (by omega)] at hj
    have h1 := mono i (j - 1) (by omega) (by omega)
    have h2 := mono (j - 1) j (by omega) hj.1
    have h3 : zs.getD j 0 ≠ zs.getD (j - 1) 0 := by
      rcases hj.2 with h | h
      · omega
      · exact h
    omega
  · intro x
    simp only [List.mem_map, List.mem_filter, List.mem_range]
    rw [memD]
    constructor
    · rintro ⟨j, ⟨hj, _⟩, rfl⟩; exact ⟨j, hj, (get j hj).symm⟩
    · rintro ⟨j, hj, rfl⟩
      have key : ∀ j, j < zs.length → ∃ i, (i < zs.length ∧ Lib.keeps zs.toArray i = true) ∧ zs.toArray[i]! = zs.getD j 0 := by
        intro j
        induction j with
        | zero => intro hj; exact ⟨0, ⟨hj, by simp [Lib.keeps]⟩, get 0 hj⟩
        | succ j ih =>
          intro hj
          by_cases e : zs.getD (j + 1) 0 = zs.getD j 0
          · obtain ⟨i, h1, h2⟩ := ih (by omega)
            exact ⟨i, h1, h2.trans e.symm⟩
          · exact ⟨j + 1, ⟨hj, by
              simp only [Lib.keeps, decide_eq_true_eq]
              exact .inr (by rw [show j + 1 - 1 = j by omega, get _ hj, get j (by omega)]; exact e)⟩, get _ hj⟩
      exact key j hj
/-- The values of a column. -/
def colVals (rows : List (List Int)) (c : Nat) : List Int := rows.map (fun r => r.getD c 0)
/-- The values below n that stand in one column and not in the other. -/
def missTo (a b : List Int) : Nat → List Int
  | 0 => []
  | n + 1 => missTo a b n ++ (if has a (n : Int) && !has b (n : Int) then [(n : Int)] else [])
theorem missTo_yes {a b : List Int} {n : Nat} (h : has a (n : Int) = true) (h' : has b (n : Int) = false) : missTo a b (n + 1) = missTo a b n ++ [(n : Int)] := by simp [missTo, h, h']
theorem missTo_no {a b : List Int} {n : Nat} (h : (has a (n : Int) && !has b (n : Int)) = false) : missTo a b (n + 1) = missTo a b n := by rw [missTo, h]; simp
theorem missTo_len (a b : List Int) : ∀ n, (missTo a b n).length ≤ n
  | 0 => by simp [missTo]
  | n + 1 => by
    have := missTo_len a b n
    rw [missTo]; split <;> simp <;> omega
theorem missTo_spec (a b : List Int) : ∀ n, (missTo a b n).Pairwise (· < ·) ∧ ∀ x, x ∈ missTo a b n ↔ ∃ j : Nat, j < n ∧ x = (j : Int) ∧ has a x = true ∧ has b x = false
  | 0 => by simp [missTo]
  | n + 1 => by
    obtain ⟨h1, h2⟩ := missTo_spec a b n
    by_cases hb : (has a (n : Int) && !has b (n : Int)) = true
    · rw [missTo, hb, if_pos rfl]
      simp only [Bool.and_eq_true, Bool.not_eq_true'] at hb
      refine ⟨?_, fun x => ?_⟩
      · rw [List.pairwise_append]
        refine ⟨h1, by simp, ?_⟩
        intro x hx y hy
        simp only [List.mem_singleton] at hy
        subst hy
        obtain ⟨j, hj, rfl, _⟩ := (h2 x).1 hx
        omega
      · simp only [List.mem_append, List.mem_singleton, h2]
        constructor
        · rintro (⟨j, hj, rfl, h⟩ | rfl)
          · exact ⟨j, by omega, rfl, h⟩
          · exact ⟨n, by omega, rfl, hb⟩
        · rintro ⟨j, hj, rfl, h⟩
          by_cases e : j = n
          · subst e; exact .inr rfl
          · exact .inl ⟨j, by omega, rfl, h⟩
    · rw [missTo_no (by simpa using hb)]
      refine ⟨h1, fun x => ?_⟩
      rw [h2]
      constructor
      · rintro ⟨j, hj, rfl, h⟩; exact ⟨j, by omega, rfl, h⟩
      · rintro ⟨j, hj, rfl, h⟩
        by_cases e : j = n
        · subst e; exact absurd (by simp [h]) hb
        · exact ⟨j, by omega, rfl, h⟩
/-- What the program makes: those not there, sorted, each once. -/
theorem miss_impl {a b : List Int} (h : ∀ x ∈ a, 0 ≤ x ∧ x ≤ 9) : Lib.compact ((a.filter (fun x => !has b x)).mergeSort (fun x y => decide (x ≤ y))) = missTo a b 10 := by
  obtain ⟨h1, h2⟩ := compact_strict (zs := (a.filter (fun x => !has b x)).mergeSort (fun x y => decide (x ≤ y))) (by
    have := List.pairwise_mergeSort (le := fun x y : Int => decide (x ≤ y)) (by intro a b c; simp; omega) (by intro a b; simp; omega) (a.filter (fun x => !has b x))
    exact this.imp fun h => by simpa using h)
  obtain ⟨h3, h4⟩ := missTo_spec a b 10
  refine asc_uniq h1 h3 fun x => ?_
  rw [h2, h4, List.mem_mergeSort, List.mem_filter]
  constructor
  · rintro ⟨hx, hb⟩
    have := h x hx
    exact ⟨x.toNat, by omega, by omega, by simp [has, hx], by simpa using hb⟩
  · rintro ⟨j, _, rfl, ha, hb⟩
    exact ⟨by simpa [has] using ha, by simp [hb]⟩
/-- MissingValues. -/
def missing (db : DDb) (x : DIn) : List Int := if validIn db x then missTo (colVals (lookT (look db x.1)).2.2 x.2.1.toNat) (colVals (lookT (look db x.2.2.1)).2.2 x.2.2.2.toNat) 10 else []
theorem missing_len (db : DDb) (x : DIn) : (missing db x).length ≤ 10 := by
  unfold missing; split
  · exact missTo_len _ _ 10
  · simp

end Go.Proofs.Ytbkoddikfpkocaa

/- Contracts: values that are missing, by the program. -/
namespace Go.Proofs.Ytbkoddikfpkocaa
open Go.RowKit
set_option linter.unusedVariables false
set_option linter.unusedSimpArgs false
set_option synthInstance.maxSize 2000
set_option synthInstance.maxHeartbeats 400000

theorem validIn_facts {db : DDb} {m1 m2 : ByteArray} {c1 c2 : Int} (h : validIn db (m1, c1, m2, c2) = true) : (look db m1).isSome = true ∧ (look db m2).isSome = true ∧ ∃ n1 n2 : Nat, c1 = (n1 : Int) ∧ c2 = (n2 : Int) ∧ (n1 : Int) < (lookT (look db m1)).2.1 ∧ (n2 : Int) < (lookT (look db m2)).2.1 := by
  simp only [validIn, Bool.and_eq_true, betw, decide_eq_true_eq] at h
  obtain ⟨h1, h2, ⟨h3, h4⟩, h5, h6⟩ := h
  exact ⟨h1, h2, c1.toNat, c2.toNat, by omega, by omega, by omega, by omega⟩
theorem colVals_step {rows : List (List Int)} {c j : Nat} {r : List Int} {v : Int} (h : rows[j]? = some r) (hv : r.getD c 0 = v) : colVals (rows.take (j + 1)) c = colVals (rows.take j) c ++ [v] := by
  rw [List.take_add_one, h]; simp only [colVals, Option.toList_some, List.map_append, List.map_cons, List.map_nil, hv]
theorem colVals_len (rows : List (List Int)) (c : Nat) : (colVals rows c).length = rows.length := by simp [colVals]
theorem colVals_rng {t : DT} (h : TOk t) {c : Nat} (hc : (c : Int) < t.2.1) : ∀ x ∈ colVals t.2.2 c, 0 ≤ x ∧ x ≤ 9 := by
  intro x hx
  simp only [colVals, List.mem_map] at hx
  obtain ⟨r, hr, rfl⟩ := hx
  obtain ⟨h1, h2⟩ := h.row r hr
  refine h2 _ ?_
  rw [List.getD_eq_getElem?_getD, List.getElem?_eq_getElem (by omega)]
  exact List.getElem_mem _
/-- Those of the first j values of a column that are not there. -/
def newVals (rows : List (List Int)) (c : Nat) (b : List Int) : List Int := (colVals rows c).filter (fun x => !has b x)
theorem newVals_yes {rows : List (List Int)} {c j : Nat} {r b : List Int} {v : Int} (h : rows[j]? = some r) (hv : r.getD c 0 = v) (hb : has b v = false) : newVals (rows.take (j + 1)) c b = newVals (rows.take j) c b ++ [v] := by
  rw [newVals, colVals_step h hv, List.filter_append]; simp [newVals, hb]
theorem newVals_no {rows : List (List Int)} {c j : Nat} {r b : List Int} {v : Int} (h : rows[j]? = some r) (hv : r.getD c 0 = v) (hb : has b v = true) : newVals (rows.take (j + 1)) c b = newVals (rows.take j) c b := by
  rw [newVals, colVals_step h hv, List.filter_append]; simp [newVals, hb]
theorem newVals_len (rows : List (List Int)) (c : Nat) (b : List Int) : (newVals rows c b).length ≤ rows.length := by
  rw [newVals, ← colVals_len rows c]; exact List.length_filter_le _ _

set_option maxHeartbeats 4000000 in
theorem missing_impl (cs ds : List Value) (db : DDb) (x : DIn) (w : World) (h : rDb.rep w cs db) (h' : rIn.rep w ds x) :
    Calls Try.prog 79 #[.agg cs.toArray, .agg ds.toArray] w fun e w' => ∃ u, e = .returned u ∧ Own oI w.heap.size w'.heap.size w' [u] (missing db x) ∧ Below w.heap.size w w' := by
  obtain ⟨ub, un, uc, rfl, g1⟩ := rDb_open h
  obtain ⟨rfl, hs0, hi1, hs2, hi3⟩ := rIn_open h'
  have hcv := fun W (hW : Below w.heap.size w W) => validIn_impl _ _ db x W (rDb.mono h hW) (rIn.mono h' hW)
  obtain ⟨m1, c1, m2, c2⟩ := x
  simp only at hs0 hi1 hs2 hi3 hcv
  have HCV := Lib.hid hcv
  have HCK := Lib.hid (fun name W (hW : Below w.heap.size w W) => lookI_any [.slice ub un uc] db name W (rDb.mono h hW))
  clear hcv h h' g1 hs0 hi1 hs2 hi3
  have hb0 : Below w.heap.size w w := Below.refl _ _
  go_enter Try.func79, Try.ntmps79
  obtain ⟨w1, hw1⟩ : ∃ W, W = w.alloc (.cells #[.slice ub un uc] 89) := ⟨_, rfl⟩
  have z1 : Below w.heap.size w w1 := by rw [hw1]; exact (Below.refl _ _).alloc (Nat.le_refl _) _
  have s1 : w1.heap.size = w.heap.size + 1 := by rw [hw1]; simp
  have hb1 := on hb0 z1
  have b_0 : w1.cell? ⟨w.heap.size, 0, none⟩ = some (.slice ub un uc) := by rw [hw1]; exact box_cell (Below.refl _ _) rfl
  have raw1_b_0 := b_0
  rw [hw1] at raw1_b_0
  obtain ⟨w2, hw2⟩ : ∃ W, W = w1.alloc (.cells #[.string m1, .int .i64 c1, .string m2, .int .i64 c2] 91) := ⟨_, rfl⟩
  have z2 : Below w1.heap.size w1 w2 := by rw [hw2]; exact (Below.refl _ _).alloc (Nat.le_refl _) _
  have s2 : w2.heap.size = w1.heap.size + 1 := by rw [hw2]; simp
  have hb2 := on hb1 z2
  replace b_0 := (z2.cell (p := ⟨w.heap.size, 0, none⟩) (by simp only []; omega)).trans b_0
  have e2 : w1.heap.size = w.heap.size + 1 := by omega
  have x_0 : w2.cell? ⟨w1.heap.size, 0, none⟩ = some (.string m1) := by rw [hw2]; exact box_cell (Below.refl _ _) rfl
  have x_1 : w2.cell? ⟨w1.heap.size, 1, none⟩ = some (.int .i64 c1) := by rw [hw2]; exact box_cell (Below.refl _ _) rfl
  have x_2 : w2.cell? ⟨w1.heap.size, 2, none⟩ = some (.string m2) := by rw [hw2]; exact box_cell (Below.refl _ _) rfl
  have x_3 : w2.cell? ⟨w1.heap.size, 3, none⟩ = some (.int .i64 c2) := by rw [hw2]; exact box_cell (Below.refl _ _) rfl
  rw [e2] at x_0 x_1 x_2 x_3
  have raw2_b_0 := b_0
  have raw2_x_0 := x_0
  have raw2_x_1 := x_1
  have raw2_x_2 := x_2
  have raw2_x_3 := x_3
  rw [hw2, hw1] at raw2_b_0 raw2_x_0 raw2_x_1 raw2_x_2 raw2_x_3
  go_wp2_with fail
  rw [← hw1]
  rw [← hw2]
  clear hw2 hw1
  clear raw1_b_0 raw2_b_0 raw2_x_0 raw2_x_1 raw2_x_2 raw2_x_3
  refine (HCV.out _ hb2).mono ?_
  rintro e wA ⟨rfl, zA⟩
  have s3 := zA.size
  have hb3 := on hb2 zA
  replace b_0 := (zA.cell (p := ⟨w.heap.size, 0, none⟩) (by simp only []; omega)).trans b_0
  replace x_0 := (zA.cell (p := ⟨w.heap.size + 1, 0, none⟩) (by simp only []; omega)).trans x_0
  replace x_1 := (zA.cell (p := ⟨w.heap.size + 1, 1, none⟩) (by simp only []; omega)).trans x_1
  replace x_2 := (zA.cell (p := ⟨w.heap.size + 1, 2, none⟩) (by simp only []; omega)).trans x_2
  replace x_3 := (zA.cell (p := ⟨w.heap.size + 1, 3, none⟩) (by simp only []; omega)).trans x_3
  by_cases hv : validIn db (m1, c1, m2, c2) = true
  case neg =>
    replace hv : validIn db (m1, c1, m2, c2) = false := by simpa using hv
    have HE : Hid (missing db (m1, c1, m2, c2) = []) := Lib.hid (by simp [missing, hv])
    rw [hv]
    go_wp2_with fail
    go_ret
    exact ⟨_, rfl, by rw [HE.out]; exact own_nil_S.mono (Nat.le_refl _) (by omega), hb3⟩
  obtain ⟨hsm1, hsm2, n1, n2, rfl, rfl, hn1, hn2⟩ := validIn_facts hv
  have hok1 := look_okT hsm1
  have hok2 := look_okT hsm2
  have HE : Hid (missing db (m1, (n1 : Int), m2, (n2 : Int)) = missTo (colVals (lookT (look db m1)).2.2 n1) (colVals (lookT (look db m2)).2.2 n2) 10) := Lib.hid (by simp [missing, hv])
  rw [hv]
  clear hv
  have hc1 := fun W hW => HCK.out m1 W hW
  have hc2 := fun W hW => HCK.out m2 W hW
  obtain ⟨t1, ht1⟩ : ∃ t, lookT (look db m1) = t := ⟨_, rfl⟩
  obtain ⟨t2, ht2⟩ : ∃ t, lookT (look db m2) = t := ⟨_, rfl⟩
  rw [ht1] at hok1 hn1 HE
  rw [ht2] at hok2 hn2 HE
  simp only [hsm1, ht1] at hc1
  simp only [hsm2, ht2] at hc2
  obtain ⟨ns, A, r1⟩ := t1
  obtain ⟨ms, B, r2⟩ := t2
  simp only at hn1 hn2 HE hc1 hc2
  have hl8a := hok1.len
  have hl8b := hok2.len
  have HR1 := Lib.hid hok1.row
  have HR2 := Lib.hid hok2.row
  have HM := Lib.hid (miss_impl (b := colVals r2 n2) (colVals_rng hok1 hn1))
  simp only at hl8a hl8b HR1 HR2 HM
  have hA1 := hok1.ar
  have hB1 := hok2.ar
  simp only at hA1 hB1
  have HC1 := Lib.hid hc1
  have HC2 := Lib.hid hc2
  clear hc1 hc2 ht1 ht2 hok1 hok2 hsm1 hsm2 HCK HCV
  go_wp2_with fail
  refine (HC1.out _ hb3).mono ?_
  rintro e wB ⟨vb, vn, vc, rfl, ho, zB⟩
  have s4 := zB.size
  have hb4 := on hb3 zB
  replace b_0 := (zB.cell (p := ⟨w.heap.size, 0, none⟩) (by simp only []; omega)).trans b_0
  replace x_0 := (zB.cell (p := ⟨w.heap.size + 1, 0, none⟩) (by simp only []; omega)).trans x_0
  replace x_1 := (zB.cell (p := ⟨w.heap.size + 1, 1, none⟩) (by simp only []; omega)).trans x_1
  replace x_2 := (zB.cell (p := ⟨w.heap.size + 1, 2, none⟩) (by simp only []; omega)).trans x_2
  replace x_3 := (zB.cell (p := ⟨w.heap.size + 1, 3, none⟩) (by simp only []; omega)).trans x_3
  obtain ⟨vb2, vn2, vc2, he9, hs9, hi9, gr⟩ := rT_open (ho.rd reads_T)
  simp at he9 hs9 hi9 gr
  obtain ⟨rfl, rfl, rfl⟩ := he9
  have t1 := rS_sl gr
  have hl1 := t1.len
  have hn1s := t1.small
  clear ho gr hs9 hi9
  have hT1 : Below wB.heap.size wB wB := Below.refl _ _
  obtain ⟨w5, hw5⟩ : ∃ W, W = wB.alloc (.cells #[.string ns, .int .i64 A, .slice vb vn vc] 34) := ⟨_, rfl⟩
  have z5 : Below wB.heap.size wB w5 := by rw [hw5]; exact (Below.refl _ _).alloc (Nat.le_refl _) _
  have s5 : w5.heap.size = wB.heap.size + 1 := by rw [hw5]; simp
  have hb5 := on hb4 z5
  have old5_b_0 := b_0
  have old5_x_0 := x_0
  have old5_x_1 := x_1
  have old5_x_2 := x_2
  have old5_x_3 := x_3
  replace b_0 := (z5.cell (p := ⟨w.heap.size, 0, none⟩) (by simp only []; omega)).trans b_0
  replace x_0 := (z5.cell (p := ⟨w.heap.size + 1, 0, none⟩) (by simp only []; omega)).trans x_0
  replace x_1 := (z5.cell (p := ⟨w.heap.size + 1, 1, none⟩) (by simp only []; omega)).trans x_1
  replace x_2 := (z5.cell (p := ⟨w.heap.size + 1, 2, none⟩) (by simp only []; omega)).trans x_2
  replace x_3 := (z5.cell (p := ⟨w.heap.size + 1, 3, none⟩) (by simp only []; omega)).trans x_3
  replace hT1 := on hT1 z5
  have ta_0 : w5.cell? ⟨wB.heap.size, 0, none⟩ = some (.string ns) := by rw [hw5]; exact box_cell (Below.refl _ _) rfl
  have ta_1 : w5.cell? ⟨wB.heap.size, 1, none⟩ = some (.int .i64 A) := by rw [hw5]; exact box_cell (Below.refl _ _) rfl
  have ta_2 : w5.cell? ⟨wB.heap.size, 2, none⟩ = some (.slice vb vn vc) := by rw [hw5]; exact box_cell (Below.refl _ _) rfl
  have raw5_b_0 := b_0
  have raw5_x_0 := x_0
  have raw5_x_1 := x_1
  have raw5_x_2 := x_2
  have raw5_x_3 := x_3
  have raw5_ta_0 := ta_0
  have raw5_ta_1 := ta_1
  have raw5_ta_2 := ta_2
  rw [hw5] at raw5_b_0 raw5_x_0 raw5_x_1 raw5_x_2 raw5_x_3 raw5_ta_0 raw5_ta_1 raw5_ta_2
  go_wp2_with fail
  rw [← hw5]
  clear hw5
  clear old5_b_0 old5_x_0 old5_x_1 old5_x_2 old5_x_3 raw5_b_0 raw5_x_0 raw5_x_1 raw5_x_2 raw5_x_3 raw5_ta_0 raw5_ta_1 raw5_ta_2
  refine (HC2.out _ hb5).mono ?_
  rintro e wC ⟨ub2, un2, uc2, rfl, ho, zC⟩
  have s6 := zC.size
  have hb6 := on hb5 zC
  replace b_0 := (zC.cell (p := ⟨w.heap.size, 0, none⟩) (by simp only []; omega)).trans b_0
  replace x_0 := (zC.cell (p := ⟨w.heap.size + 1, 0, none⟩) (by simp only []; omega)).trans x_0
  replace x_1 := (zC.cell (p := ⟨w.heap.size + 1, 1, none⟩) (by simp only []; omega)).trans x_1
  replace x_2 := (zC.cell (p := ⟨w.heap.size + 1, 2, none⟩) (by simp only []; omega)).trans x_2
  replace x_3 := (zC.cell (p := ⟨w.heap.size + 1, 3, none⟩) (by simp only []; omega)).trans x_3
  replace hT1 := on hT1 zC
  replace ta_0 := (zC.cell (p := ⟨wB.heap.size, 0, none⟩) (by simp only []; omega)).trans ta_0
  replace ta_1 := (zC.cell (p := ⟨wB.heap.size, 1, none⟩) (by simp only []; omega)).trans ta_1
  replace ta_2 := (zC.cell (p := ⟨wB.heap.size, 2, none⟩) (by simp only []; omega)).trans ta_2
  obtain ⟨vb3, vn3, vc3, he9, hs9, hi9, gr⟩ := rT_open (ho.rd reads_T)
  simp at he9 hs9 hi9 gr
  obtain ⟨rfl, rfl, rfl⟩ := he9
  have t2 := rS_sl gr
  have hl2 := t2.len
  have hn2s := t2.small
  clear ho gr hs9 hi9 HC1 HC2
  have hT2 : Below wC.heap.size wC wC := Below.refl _ _
  obtain ⟨w7, hw7⟩ : ∃ W, W = wC.alloc (.cells #[.string ms, .int .i64 B, .slice ub2 un2 uc2] 34) := ⟨_, rfl⟩
  have z7 : Below wC.heap.size wC w7 := by rw [hw7]; exact (Below.refl _ _).alloc (Nat.le_refl _) _
  have s7 : w7.heap.size = wC.heap.size + 1 := by rw [hw7]; simp
  have hb7 := on hb6 z7
  have old7_b_0 := b_0
  have old7_x_0 := x_0
  have old7_x_1 := x_1
  have old7_x_2 := x_2
  have old7_x_3 := x_3
  have old7_ta_0 := ta_0
  have old7_ta_1 := ta_1
  have old7_ta_2 := ta_2
  replace b_0 := (z7.cell (p := ⟨w.heap.size, 0, none⟩) (by simp only []; omega)).trans b_0
  replace x_0 := (z7.cell (p := ⟨w.heap.size + 1, 0, none⟩) (by simp only []; omega)).trans x_0
  replace x_1 := (z7.cell (p := ⟨w.heap.size + 1, 1, none⟩) (by simp only []; omega)).trans x_1
  replace x_2 := (z7.cell (p := ⟨w.heap.size + 1, 2, none⟩) (by simp only []; omega)).trans x_2
  replace x_3 := (z7.cell (p := ⟨w.heap.size + 1, 3, none⟩) (by simp only []; omega)).trans x_3
  replace hT1 := on hT1 z7
  replace ta_0 := (z7.cell (p := ⟨wB.heap.size, 0, none⟩) (by simp only []; omega)).trans ta_0
  replace ta_1 := (z7.cell (p := ⟨wB.heap.size, 1, none⟩) (by simp only []; omega)).trans ta_1
  replace ta_2 := (z7.cell (p := ⟨wB.heap.size, 2, none⟩) (by simp only []; omega)).trans ta_2
  replace hT2 := on hT2 z7
  have tb_0 : w7.cell? ⟨wC.heap.size, 0, none⟩ = some (.string ms) := by rw [hw7]; exact box_cell (Below.refl _ _) rfl
  have tb_1 : w7.cell? ⟨wC.heap.size, 1, none⟩ = some (.int .i64 B) := by rw [hw7]; exact box_cell (Below.refl _ _) rfl
  have tb_2 : w7.cell? ⟨wC.heap.size, 2, none⟩ = some (.slice ub2 un2 uc2) := by rw [hw7]; exact box_cell (Below.refl _ _) rfl
  have raw7_b_0 := b_0
  have raw7_x_0 := x_0
  have raw7_x_1 := x_1
  have raw7_x_2 := x_2
  have raw7_x_3 := x_3
  have raw7_ta_0 := ta_0
  have raw7_ta_1 := ta_1
  have raw7_ta_2 := ta_2
  have raw7_tb_0 := tb_0
  have raw7_tb_1 := tb_1
  have raw7_tb_2 := tb_2
  rw [hw7] at raw7_b_0 raw7_x_0 raw7_x_1 raw7_x_2 raw7_x_3 raw7_ta_0 raw7_ta_1 raw7_ta_2 raw7_tb_0 raw7_tb_1 raw7_tb_2
  go_wp2_with fail
  rw [← hw7]
  clear hw7
  clear old7_b_0 old7_x_0 old7_x_1 old7_x_2 old7_x_3 old7_ta_0 old7_ta_1 old7_ta_2 raw7_b_0 raw7_x_0 raw7_x_1 raw7_x_2 raw7_x_3 raw7_ta_0 raw7_ta_1 raw7_ta_2 raw7_tb_0 raw7_tb_1 raw7_tb_2
  obtain ⟨w8, hw8⟩ : ∃ W, W = w7.alloc (.cells #[] 3) := ⟨_, rfl⟩
  have z8 : Below w7.heap.size w7 w8 := by rw [hw8]; exact (Below.refl _ _).alloc (Nat.le_refl _) _
  have s8 : w8.heap.size = w7.heap.size + 1 := by rw [hw8]; simp
  have hb8 := on hb7 z8
  replace b_0 := (z8.cell (p := ⟨w.heap.size, 0, none⟩) (by simp only []; omega)).trans b_0
  replace x_0 := (z8.cell (p := ⟨w.heap.size + 1, 0, none⟩) (by simp only []; omega)).trans x_0
  replace x_1 := (z8.cell (p := ⟨w.heap.size + 1, 1, none⟩) (by simp only []; omega)).trans x_1
  replace x_2 := (z8.cell (p := ⟨w.heap.size + 1, 2, none⟩) (by simp only []; omega)).trans x_2
  replace x_3 := (z8.cell (p := ⟨w.heap.size + 1, 3, none⟩) (by simp only []; omega)).trans x_3
  replace hT1 := on hT1 z8
  replace ta_0 := (z8.cell (p := ⟨wB.heap.size, 0, none⟩) (by simp only []; omega)).trans ta_0
  replace ta_1 := (z8.cell (p := ⟨wB.heap.size, 1, none⟩) (by simp only []; omega)).trans ta_1
  replace ta_2 := (z8.cell (p := ⟨wB.heap.size, 2, none⟩) (by simp only []; omega)).trans ta_2
  replace hT2 := on hT2 z8
  replace tb_0 := (z8.cell (p := ⟨wC.heap.size, 0, none⟩) (by simp only []; omega)).trans tb_0
  replace tb_1 := (z8.cell (p := ⟨wC.heap.size, 1, none⟩) (by simp only []; omega)).trans tb_1
  replace tb_2 := (z8.cell (p := ⟨wC.heap.size, 2, none⟩) (by simp only []; omega)).trans tb_2
  have he1 : ∀ S, Acc 3 O.int w7.heap.size S w8.heap.size w8 (.slice (some ⟨wC.heap.size + 1, 0, none⟩) 0 0) [] := fun S => by rw [hw8]; exact Acc.empty (by omega) (by first | (simp; done) | (simp; omega))
  have raw8_b_0 := b_0
  have raw8_x_0 := x_0
  have raw8_x_1 := x_1
  have raw8_x_2 := x_2
  have raw8_x_3 := x_3
  have raw8_ta_0 := ta_0
  have raw8_ta_1 := ta_1
  have raw8_ta_2 := ta_2
  have raw8_tb_0 := tb_0
  have raw8_tb_1 := tb_1
  have raw8_tb_2 := tb_2
  rw [hw8] at raw8_b_0 raw8_x_0 raw8_x_1 raw8_x_2 raw8_x_3 raw8_ta_0 raw8_ta_1 raw8_ta_2 raw8_tb_0 raw8_tb_1 raw8_tb_2
  go_wp2_with fail
  rw [← hw8]
  clear hw8
  clear raw8_b_0 raw8_x_0 raw8_x_1 raw8_x_2 raw8_x_3 raw8_ta_0 raw8_ta_1 raw8_ta_2 raw8_tb_0 raw8_tb_1 raw8_tb_2
  go_loopw [9, 38] (fun v k wr => ∃ j : Nat, j ≤ un2 ∧ k = .int .i64 j ∧ Acc 3 O.int w7.heap.size w8.heap.size wr.heap.size wr v (colVals (r2.take j) n2) ∧ Turn w7.heap.size (w7.heap.size + 1) w8 wr) (fun _ k _ => un2 - (intOf k).toNat)
  case atStart => exact ⟨0, Nat.zero_le _, rfl, by rw [List.take_zero]; exact (he1 _).wide (Nat.le_refl _) (by omega), turn_refl _ _ _⟩
  case round =>
    obtain ⟨j, hj, rfl, hacc, hdr⟩ := hrel
    have hlc := hdr
    obtain ⟨wo, rfl⟩ : ∃ W, W = wr := ⟨_, rfl⟩
    have s9 := hdr.size
    have hb9 := hb8.trans ((hdr.below (by omega)).mono (by omega))
    replace b_0 := (hdr.cell (p := ⟨w.heap.size, 0, none⟩) (by simp only []; omega) (by simp only []; omega)).trans b_0
    replace x_0 := (hdr.cell (p := ⟨w.heap.size + 1, 0, none⟩) (by simp only []; omega) (by simp only []; omega)).trans x_0
    replace x_1 := (hdr.cell (p := ⟨w.heap.size + 1, 1, none⟩) (by simp only []; omega) (by simp only []; omega)).trans x_1
    replace x_2 := (hdr.cell (p := ⟨w.heap.size + 1, 2, none⟩) (by simp only []; omega) (by simp only []; omega)).trans x_2
    replace x_3 := (hdr.cell (p := ⟨w.heap.size + 1, 3, none⟩) (by simp only []; omega) (by simp only []; omega)).trans x_3
    replace ta_0 := (hdr.cell (p := ⟨wB.heap.size, 0, none⟩) (by simp only []; omega) (by simp only []; omega)).trans ta_0
    replace ta_1 := (hdr.cell (p := ⟨wB.heap.size, 1, none⟩) (by simp only []; omega) (by simp only []; omega)).trans ta_1
    replace ta_2 := (hdr.cell (p := ⟨wB.heap.size, 2, none⟩) (by simp only []; omega) (by simp only []; omega)).trans ta_2
    replace tb_0 := (hdr.cell (p := ⟨wC.heap.size, 0, none⟩) (by simp only []; omega) (by simp only []; omega)).trans tb_0
    replace tb_1 := (hdr.cell (p := ⟨wC.heap.size, 1, none⟩) (by simp only []; omega) (by simp only []; omega)).trans tb_1
    replace tb_2 := (hdr.cell (p := ⟨wC.heap.size, 2, none⟩) (by simp only []; omega) (by simp only []; omega)).trans tb_2
    replace hT1 := hT1.trans ((hlc.below (by omega)).mono (by omega))
    replace hT2 := hT2.trans ((hlc.below (by omega)).mono (by omega))
    have hal : (colVals (r2.take j) n2).length ≤ 8 := by rw [colVals_len]; have := List.length_take_le j r2; omega
    by_cases hlt : j < un2
    · obtain ⟨b1, o1, yb, yn, yc, y, rfl, hcy, hy, iy, _⟩ := t2.row hlt
      have hyA := (HR2.out y (List.mem_of_getElem? hy.out)).1
      have hyl := iy.len
      have hbt1 : b1 < wC.heap.size := cell_lt hcy
      have y0 : wo.cell? ⟨b1, o1 + j, none⟩ = some (.slice yb yn yc) := (hT2.cell (p := ⟨b1, o1 + j, none⟩) hbt1).trans hcy
      obtain ⟨yb1, yo1, yv, hye, hcyv, hyv, hyv1, hyv2⟩ := iy.get (show n2 < yn by omega)
      subst hye
      have hbt2 : yb1 < wC.heap.size := cell_lt hcyv
      have yv0 : wo.cell? ⟨yb1, yo1 + n2, none⟩ = some (.int .i64 yv) := (hT2.cell (p := ⟨yb1, yo1 + n2, none⟩) hbt2).trans hcyv
      have hyn : n2 < yn := by omega
      have HS := Lib.hid (colVals_step (c := n2) hy.out hyv.out)
      clear hcy hcyv iy t1 t2 hyA hyl hl1 hl2
      go_wp2_with ((at_builtin; refine wpList_accI _ _ _ _ _ hacc hlc rfl (by omega) (Nat.le_refl _) ⟨by omega, by omega⟩ (by omega) rfl rfl rfl rfl rfl ?_; intro v' wD hacc' ht' hsz'))
      rw [← HS.out] at hacc'
      go_roundw
      case rel => exact ⟨j + 1, by omega, by go_num, hacc', ht'⟩
      case measure => simp [intOf]; omega
    · obtain rfl : j = un2 := by omega
      rw [List.take_of_length_le (by omega)] at hacc
      obtain ⟨sb, sn, sc, rfl⟩ := hacc.form3
      have o1 := hacc.own (B := w7.heap.size) (Nat.le_refl _) (by omega) (Nat.le_refl _)
      obtain ⟨there, hth⟩ : ∃ l, l = colVals r2 n2 := ⟨_, rfl⟩
      rw [← hth] at o1 HE HM
      clear hacc he1 hth hal t2 hl2 hT2
      obtain ⟨w10, hw10⟩ : ∃ W, W = wo.alloc (.cells #[] 3) := ⟨_, rfl⟩
      have z10 : Below wo.heap.size wo w10 := by rw [hw10]; exact (Below.refl _ _).alloc (Nat.le_refl _) _
      have s10 : w10.heap.size = wo.heap.size + 1 := by rw [hw10]; simp
      have hb10 := on hb9 z10
      replace b_0 := (z10.cell (p := ⟨w.heap.size, 0, none⟩) (by simp only []; omega)).trans b_0
      replace x_0 := (z10.cell (p := ⟨w.heap.size + 1, 0, none⟩) (by simp only []; omega)).trans x_0
      replace x_1 := (z10.cell (p := ⟨w.heap.size + 1, 1, none⟩) (by simp only []; omega)).trans x_1
      replace x_2 := (z10.cell (p := ⟨w.heap.size + 1, 2, none⟩) (by simp only []; omega)).trans x_2
      replace x_3 := (z10.cell (p := ⟨w.heap.size + 1, 3, none⟩) (by simp only []; omega)).trans x_3
      replace hT1 := on hT1 z10
      replace ta_0 := (z10.cell (p := ⟨wB.heap.size, 0, none⟩) (by simp only []; omega)).trans ta_0
      replace ta_1 := (z10.cell (p := ⟨wB.heap.size, 1, none⟩) (by simp only []; omega)).trans ta_1
      replace ta_2 := (z10.cell (p := ⟨wB.heap.size, 2, none⟩) (by simp only []; omega)).trans ta_2
      replace tb_0 := (z10.cell (p := ⟨wC.heap.size, 0, none⟩) (by simp only []; omega)).trans tb_0
      replace tb_1 := (z10.cell (p := ⟨wC.heap.size, 1, none⟩) (by simp only []; omega)).trans tb_1
      replace tb_2 := (z10.cell (p := ⟨wC.heap.size, 2, none⟩) (by simp only []; omega)).trans tb_2
      replace o1 := o1.below z10 (by omega)
      have he2 : ∀ S, Acc 3 O.int wo.heap.size S w10.heap.size w10 (.slice (some ⟨wo.heap.size, 0, none⟩) 0 0) [] := fun S => by rw [hw10]; exact Acc.empty (by omega) (by first | (simp; done) | (simp; omega))
      have raw10_b_0 := b_0
      have raw10_x_0 := x_0
      have raw10_x_1 := x_1
      have raw10_x_2 := x_2
      have raw10_x_3 := x_3
      have raw10_ta_0 := ta_0
      have raw10_ta_1 := ta_1
      have raw10_ta_2 := ta_2
      have raw10_tb_0 := tb_0
      have raw10_tb_1 := tb_1
      have raw10_tb_2 := tb_2
      rw [hw10] at raw10_b_0 raw10_x_0 raw10_x_1 raw10_x_2 raw10_x_3 raw10_ta_0 raw10_ta_1 raw10_ta_2 raw10_tb_0 raw10_tb_1 raw10_tb_2
      go_wp2_with fail
      rw [← hw10]
      clear hw10
      clear raw10_b_0 raw10_x_0 raw10_x_1 raw10_x_2 raw10_x_3 raw10_ta_0 raw10_ta_1 raw10_ta_2 raw10_tb_0 raw10_tb_1 raw10_tb_2
      go_loopw [12, 55] (fun v k wr => ∃ j : Nat, j ≤ vn ∧ k = .int .i64 j ∧ Acc 3 O.int wo.heap.size w10.heap.size wr.heap.size wr v (newVals (r1.take j) n1 there) ∧ Turn wo.heap.size (wo.heap.size + 1) w10 wr) (fun _ k _ => vn - (intOf k).toNat)
      case atStart => exact ⟨0, Nat.zero_le _, rfl, by rw [List.take_zero]; exact (he2 _).wide (Nat.le_refl _) (by omega), turn_refl _ _ _⟩
      case round =>
        obtain ⟨i, hi, rfl, hacc, hdr⟩ := hrel
        have hld := hdr
        have s11 := hdr.size
        have hb11 := hb10.trans ((hdr.below (by omega)).mono (by omega))
        replace b_0 := (hdr.cell (p := ⟨w.heap.size, 0, none⟩) (by simp only []; omega) (by simp only []; omega)).trans b_0
        replace x_0 := (hdr.cell (p := ⟨w.heap.size + 1, 0, none⟩) (by simp only []; omega) (by simp only []; omega)).trans x_0
        replace x_1 := (hdr.cell (p := ⟨w.heap.size + 1, 1, none⟩) (by simp only []; omega) (by simp only []; omega)).trans x_1
        replace x_2 := (hdr.cell (p := ⟨w.heap.size + 1, 2, none⟩) (by simp only []; omega) (by simp only []; omega)).trans x_2
        replace x_3 := (hdr.cell (p := ⟨w.heap.size + 1, 3, none⟩) (by simp only []; omega) (by simp only []; omega)).trans x_3
        replace ta_0 := (hdr.cell (p := ⟨wB.heap.size, 0, none⟩) (by simp only []; omega) (by simp only []; omega)).trans ta_0
        replace ta_1 := (hdr.cell (p := ⟨wB.heap.size, 1, none⟩) (by simp only []; omega) (by simp only []; omega)).trans ta_1
        replace ta_2 := (hdr.cell (p := ⟨wB.heap.size, 2, none⟩) (by simp only []; omega) (by simp only []; omega)).trans ta_2
        replace tb_0 := (hdr.cell (p := ⟨wC.heap.size, 0, none⟩) (by simp only []; omega) (by simp only []; omega)).trans tb_0
        replace tb_1 := (hdr.cell (p := ⟨wC.heap.size, 1, none⟩) (by simp only []; omega) (by simp only []; omega)).trans tb_1
        replace tb_2 := (hdr.cell (p := ⟨wC.heap.size, 2, none⟩) (by simp only []; omega) (by simp only []; omega)).trans tb_2
        replace o1 := o1.turn hdr (by omega)
        replace hT1 := hT1.trans ((hld.below (by omega)).mono (by omega))
        have hal : (newVals (r1.take i) n1 there).length ≤ 8 := by have h1 := newVals_len (r1.take i) n1 there; have := List.length_take_le i r1; omega
        by_cases hlt : i < vn
        · obtain ⟨b1, o1', yb, yn, yc, y, rfl, hcy, hy, iy, _⟩ := t1.row hlt
          have hyA := (HR1.out y (List.mem_of_getElem? hy.out)).1
          have hyl := iy.len
          have hbt1 : b1 < wB.heap.size := cell_lt hcy
          have y0 : wr.cell? ⟨b1, o1' + i, none⟩ = some (.slice yb yn yc) := (hT1.cell (p := ⟨b1, o1' + i, none⟩) hbt1).trans hcy
          obtain ⟨yb1, yo1, yv, hye, hcyv, hyv, hyv1, hyv2⟩ := iy.get (show n1 < yn by omega)
          subst hye
          have hbt2 : yb1 < wB.heap.size := cell_lt hcyv
          have yv0 : wr.cell? ⟨yb1, yo1 + n1, none⟩ = some (.int .i64 yv) := (hT1.cell (p := ⟨yb1, yo1 + n1, none⟩) hbt2).trans hcyv
          have hyn : n1 < yn := by omega
          have hcc := contains_any sb sn sc there yv wr (rI_ints (o1.rd reads_I))
          obtain ⟨t, ht⟩ : ∃ t, t = has there yv := ⟨_, rfl⟩
          rw [← ht] at hcc
          have HCC := Lib.hid hcc
          have HSy := Lib.hid (newVals_yes (c := n1) (b := there) hy.out hyv.out)
          have HSn := Lib.hid (newVals_no (c := n1) (b := there) hy.out hyv.out)
          rw [← ht] at HSy HSn
          clear hcy hcyv iy t1 hyA hyl hl1 hcc ht o1
          cases t with
          | false =>
            have HS := Lib.hid (HSy.out rfl)
            go_wp2_with (first
              | (go_at_call 124; refine (HCC.out).mono ?_; rintro e w' ⟨rfl, rfl⟩)
              | (at_builtin; refine wpList_accI _ _ _ _ _ hacc hld rfl (by omega) (Nat.le_refl _) ⟨by omega, by omega⟩ (by omega) rfl rfl rfl rfl rfl ?_; intro v' wD hacc' ht' hsz'))
            rw [← HS.out] at hacc'
            go_roundw
            case rel => exact ⟨i + 1, by omega, by go_num, hacc', ht'⟩
            case measure => simp [intOf]; omega
          | true =>
            rw [← HSn.out rfl] at hacc
            have HA := Lib.hid hacc
            clear hacc
            go_wp2_with (go_at_call 124; refine (HCC.out).mono ?_; rintro e w' ⟨rfl, rfl⟩)
            go_roundw
            case rel => exact ⟨i + 1, by omega, by go_num, HA.out, hld⟩
            case measure => simp [intOf]; omega
        · obtain rfl : i = vn := by omega
          rw [List.take_of_length_le (by omega)] at hacc hal
          obtain ⟨sb2, sn2, sc2, rfl⟩ := hacc.form3
          have o2 := hacc.own (B := w.heap.size) (by omega) (by omega) (Nat.le_refl _)
          have HO := Lib.hid o2
          have hsz9 := (hb11).size
          clear hacc o2 o1 t1 hl1
          go_wp2_with fail
          refine (sortI_any _ _ _ _ _ HO.out (by omega) hsz9).mono ?_
          rintro e wE ⟨rfl, o3, zE⟩
          have hbx := (hb11).trans zE
          have sE := zE.size
          have hsz8 := hbx.size
          go_wp2_with fail
          refine (compactI_any _ _ _ _ _ o3 (by rw [sortL_len]; omega) hsz8).mono ?_
          rintro e wF ⟨u, rfl, o4, zF⟩
          have sF := zF.size
          go_wp2_with fail
          go_ret
          exact ⟨_, rfl, by rw [HE.out, ← HM.out]; exact o4.mono (Nat.le_refl _) (by omega), hbx.trans zF⟩

end Go.Proofs.Ytbkoddikfpkocaa

/- Contracts: values that are missing, by the reference; whether an inclusion holds. -/
namespace Go.Proofs.Ytbkoddikfpkocaa
open Go.RowKit
set_option linter.unusedVariables false
set_option linter.unusedSimpArgs false
set_option synthInstance.maxSize 2000
set_option synthInstance.maxHeartbeats 400000

theorem ownT_rows {lo hi vn vc : Nat} {w : World} {ns : ByteArray} {A : Int} {vb : Option Addr} {r : List (List Int)} (h : Own oT lo hi w [.string ns, .int .i64 A, .slice vb vn vc] (ns, A, r)) : Sl rI w vb vn r := by
  obtain ⟨vb2, vn2, vc2, he9, _, _, gr⟩ := rT_open (h.rd reads_T)
  simp at he9
  obtain ⟨rfl, rfl, rfl⟩ := he9
  exact rS_sl gr
theorem has_snoc_no {xs : List Int} {x v : Int} (h : has xs v = false) : has (xs ++ [x]) v = decide (x = v) := by
  rw [Bool.eq_iff_iff]
  simp only [has, decide_eq_true_eq, decide_eq_false_iff_not, List.mem_append, List.mem_singleton] at *
  constructor
  · rintro (h' | h')
    · exact absurd h' h
    · exact h'.symm
  · exact fun h' => .inr h'.symm
theorem has_snoc_yes {xs : List Int} {x v : Int} (h : has xs v = true) : has (xs ++ [x]) v = true := by
  simp only [has, decide_eq_true_eq, List.mem_append] at *
  exact .inl h

set_option maxRecDepth 100000 in
set_option maxHeartbeats 4000000 in
theorem missing_spec (cs ds : List Value) (db : DDb) (x : DIn) (w : World) (h : rDb.rep w cs db) (h' : rIn.rep w ds x) :
    Calls Try.prog 78 #[.agg cs.toArray, .agg ds.toArray] w fun e w' => ∃ u, e = .returned u ∧ Own oI w.heap.size w'.heap.size w' [u] (missing db x) ∧ Below w.heap.size w w' := by
  obtain ⟨ub, un, uc, rfl, g1⟩ := rDb_open h
  obtain ⟨rfl, hs0, hi1, hs2, hi3⟩ := rIn_open h'
  have hcv := fun W (hW : Below w.heap.size w W) => validIn_spec _ _ db x W (rDb.mono h hW) (rIn.mono h' hW)
  obtain ⟨m1, c1, m2, c2⟩ := x
  simp only at hs0 hi1 hs2 hi3 hcv
  have HCV := Lib.hid hcv
  have HCK := Lib.hid (fun name W (hW : Below w.heap.size w W) => lookS_any [.slice ub un uc] db name W (rDb.mono h hW))
  clear hcv h h' g1 hs0 hi1 hs2 hi3
  have hb0 : Below w.heap.size w w := Below.refl _ _
  go_enter Try.func78, Try.ntmps78
  obtain ⟨w1, hw1⟩ : ∃ W, W = w.alloc (.cells #[.slice ub un uc] 89) := ⟨_, rfl⟩
  have z1 : Below w.heap.size w w1 := by rw [hw1]; exact (Below.refl _ _).alloc (Nat.le_refl _) _
  have s1 : w1.heap.size = w.heap.size + 1 := by rw [hw1]; simp
  have hb1 := on hb0 z1
  have b_0 : w1.cell? ⟨w.heap.size, 0, none⟩ = some (.slice ub un uc) := by rw [hw1]; exact box_cell (Below.refl _ _) rfl
  have raw1_b_0 := b_0
  rw [hw1] at raw1_b_0
  obtain ⟨w2, hw2⟩ : ∃ W, W = w1.alloc (.cells #[.string m1, .int .i64 c1, .string m2, .int .i64 c2] 91) := ⟨_, rfl⟩
  have z2 : Below w1.heap.size w1 w2 := by rw [hw2]; exact (Below.refl _ _).alloc (Nat.le_refl _) _
  have s2 : w2.heap.size = w1.heap.size + 1 := by rw [hw2]; simp
  have hb2 := on hb1 z2
  replace b_0 := (z2.cell (p := ⟨w.heap.size, 0, none⟩) (by simp only []; omega)).trans b_0
  have e2 : w1.heap.size = w.heap.size + 1 := by omega
  have x_0 : w2.cell? ⟨w1.heap.size, 0, none⟩ = some (.string m1) := by rw [hw2]; exact box_cell (Below.refl _ _) rfl
  have x_1 : w2.cell? ⟨w1.heap.size, 1, none⟩ = some (.int .i64 c1) := by rw [hw2]; exact box_cell (Below.refl _ _) rfl
  have x_2 : w2.cell? ⟨w1.heap.size, 2, none⟩ = some (.string m2) := by rw [hw2]; exact box_cell (Below.refl _ _) rfl
  have x_3 : w2.cell? ⟨w1.heap.size, 3, none⟩ = some (.int .i64 c2) := by rw [hw2]; exact box_cell (Below.refl _ _) rfl
  rw [e2] at x_0 x_1 x_2 x_3
  have raw2_b_0 := b_0
  have raw2_x_0 := x_0
  have raw2_x_1 := x_1
  have raw2_x_2 := x_2
  have raw2_x_3 := x_3
  rw [hw2, hw1] at raw2_b_0 raw2_x_0 raw2_x_1 raw2_x_2 raw2_x_3
  obtain ⟨w3, hw3⟩ : ∃ W, W = w2.alloc (.cells #[] 3) := ⟨_, rfl⟩
  have z3 : Below w2.heap.size w2 w3 := by rw [hw3]; exact (Below.refl _ _).alloc (Nat.le_refl _) _
  have s3 : w3.heap.size = w2.heap.size + 1 := by rw [hw3]; simp
  have hb3 := on hb2 z3
  replace b_0 := (z3.cell (p := ⟨w.heap.size, 0, none⟩) (by simp only []; omega)).trans b_0
  replace x_0 := (z3.cell (p := ⟨w.heap.size + 1, 0, none⟩) (by simp only []; omega)).trans x_0
  replace x_1 := (z3.cell (p := ⟨w.heap.size + 1, 1, none⟩) (by simp only []; omega)).trans x_1
  replace x_2 := (z3.cell (p := ⟨w.heap.size + 1, 2, none⟩) (by simp only []; omega)).trans x_2
  replace x_3 := (z3.cell (p := ⟨w.heap.size + 1, 3, none⟩) (by simp only []; omega)).trans x_3
  have ho : ∀ S, Acc 3 O.int w2.heap.size S w3.heap.size w3 (.slice (some ⟨w.heap.size + 1 + 1, 0, none⟩) 0 0) [] := fun S => by rw [hw3]; exact Acc.empty (by omega) (by first | (simp; done) | (simp; omega))
  have raw3_b_0 := b_0
  have raw3_x_0 := x_0
  have raw3_x_1 := x_1
  have raw3_x_2 := x_2
  have raw3_x_3 := x_3
  rw [hw3, hw2, hw1] at raw3_b_0 raw3_x_0 raw3_x_1 raw3_x_2 raw3_x_3
  go_wp2_with fail
  rw [← hw1]
  rw [← hw2]
  rw [← hw3]
  clear hw3 hw2 hw1
  clear raw1_b_0 raw2_b_0 raw2_x_0 raw2_x_1 raw2_x_2 raw2_x_3 raw3_b_0 raw3_x_0 raw3_x_1 raw3_x_2 raw3_x_3
  refine (HCV.out _ hb3).mono ?_
  rintro e wA ⟨rfl, zA⟩
  have s4 := zA.size
  have hb4 := on hb3 zA
  replace b_0 := (zA.cell (p := ⟨w.heap.size, 0, none⟩) (by simp only []; omega)).trans b_0
  replace x_0 := (zA.cell (p := ⟨w.heap.size + 1, 0, none⟩) (by simp only []; omega)).trans x_0
  replace x_1 := (zA.cell (p := ⟨w.heap.size + 1, 1, none⟩) (by simp only []; omega)).trans x_1
  replace x_2 := (zA.cell (p := ⟨w.heap.size + 1, 2, none⟩) (by simp only []; omega)).trans x_2
  replace x_3 := (zA.cell (p := ⟨w.heap.size + 1, 3, none⟩) (by simp only []; omega)).trans x_3
  replace ho := fun S => (ho S).below zA (by omega)
  by_cases hv : validIn db (m1, c1, m2, c2) = true
  case neg =>
    replace hv : validIn db (m1, c1, m2, c2) = false := by simpa using hv
    have HE : Hid (missing db (m1, c1, m2, c2) = []) := Lib.hid (by simp [missing, hv])
    have HO := Lib.hid ((ho wA.heap.size).own (B := w.heap.size) (by omega) (by omega) (by omega : _ ≤ wA.heap.size))
    rw [hv]
    go_wp2_with fail
    go_ret
    refine ⟨_, rfl, ?_, hb4⟩
    rw [HE.out]
    first | exact HO.out | (have h9 := HO.out; simpa using h9)
  obtain ⟨hsm1, hsm2, n1, n2, rfl, rfl, hn1, hn2⟩ := validIn_facts hv
  have hok1 := look_okT hsm1
  have hok2 := look_okT hsm2
  have HE : Hid (missing db (m1, (n1 : Int), m2, (n2 : Int)) = missTo (colVals (lookT (look db m1)).2.2 n1) (colVals (lookT (look db m2)).2.2 n2) 10) := Lib.hid (by simp [missing, hv])
  rw [hv]
  clear hv
  have hc1 := fun W hW => HCK.out m1 W hW
  have hc2 := fun W hW => HCK.out m2 W hW
  obtain ⟨t1, ht1⟩ : ∃ t, lookT (look db m1) = t := ⟨_, rfl⟩
  obtain ⟨t2, ht2⟩ : ∃ t, lookT (look db m2) = t := ⟨_, rfl⟩
  rw [ht1] at hok1 hn1 HE
  rw [ht2] at hok2 hn2 HE
  simp only [hsm1, ht1] at hc1
  simp only [hsm2, ht2] at hc2
  obtain ⟨ns, A, r1⟩ := t1
  obtain ⟨ms, B, r2⟩ := t2
  simp only at hn1 hn2 HE hc1 hc2
  have HR1 := Lib.hid hok1.row
  have HR2 := Lib.hid hok2.row
  simp only at HR1 HR2
  have HC1 := Lib.hid hc1
  have HC2 := Lib.hid hc2
  clear hc1 hc2 ht1 ht2 hok1 hok2 hsm1 hsm2 HCK HCV
  go_wp2_with fail
  refine (HC1.out _ hb4).mono ?_
  rintro e wB ⟨vb, vn, vc, rfl, ht1, zB⟩
  have s5 := zB.size
  have hb5 := on hb4 zB
  replace b_0 := (zB.cell (p := ⟨w.heap.size, 0, none⟩) (by simp only []; omega)).trans b_0
  replace x_0 := (zB.cell (p := ⟨w.heap.size + 1, 0, none⟩) (by simp only []; omega)).trans x_0
  replace x_1 := (zB.cell (p := ⟨w.heap.size + 1, 1, none⟩) (by simp only []; omega)).trans x_1
  replace x_2 := (zB.cell (p := ⟨w.heap.size + 1, 2, none⟩) (by simp only []; omega)).trans x_2
  replace x_3 := (zB.cell (p := ⟨w.heap.size + 1, 3, none⟩) (by simp only []; omega)).trans x_3
  replace ho := fun S => (ho S).below zB (by omega)
  have hl1 := (ownT_rows ht1).len
  have hn1s := (ownT_rows ht1).small
  obtain ⟨w6, hw6⟩ : ∃ W, W = wB.alloc (.cells #[.string ns, .int .i64 A, .slice vb vn vc] 34) := ⟨_, rfl⟩
  have z6 : Below wB.heap.size wB w6 := by rw [hw6]; exact (Below.refl _ _).alloc (Nat.le_refl _) _
  have s6 : w6.heap.size = wB.heap.size + 1 := by rw [hw6]; simp
  have hb6 := on hb5 z6
  have old6_b_0 := b_0
  have old6_x_0 := x_0
  have old6_x_1 := x_1
  have old6_x_2 := x_2
  have old6_x_3 := x_3
  replace b_0 := (z6.cell (p := ⟨w.heap.size, 0, none⟩) (by simp only []; omega)).trans b_0
  replace x_0 := (z6.cell (p := ⟨w.heap.size + 1, 0, none⟩) (by simp only []; omega)).trans x_0
  replace x_1 := (z6.cell (p := ⟨w.heap.size + 1, 1, none⟩) (by simp only []; omega)).trans x_1
  replace x_2 := (z6.cell (p := ⟨w.heap.size + 1, 2, none⟩) (by simp only []; omega)).trans x_2
  replace x_3 := (z6.cell (p := ⟨w.heap.size + 1, 3, none⟩) (by simp only []; omega)).trans x_3
  replace ho := fun S => (ho S).below z6 (by omega)
  replace ht1 := ht1.below z6 (by omega)
  have ta_0 : w6.cell? ⟨wB.heap.size, 0, none⟩ = some (.string ns) := by rw [hw6]; exact box_cell (Below.refl _ _) rfl
  have ta_1 : w6.cell? ⟨wB.heap.size, 1, none⟩ = some (.int .i64 A) := by rw [hw6]; exact box_cell (Below.refl _ _) rfl
  have ta_2 : w6.cell? ⟨wB.heap.size, 2, none⟩ = some (.slice vb vn vc) := by rw [hw6]; exact box_cell (Below.refl _ _) rfl
  have raw6_b_0 := b_0
  have raw6_x_0 := x_0
  have raw6_x_1 := x_1
  have raw6_x_2 := x_2
  have raw6_x_3 := x_3
  have raw6_ta_0 := ta_0
  have raw6_ta_1 := ta_1
  have raw6_ta_2 := ta_2
  rw [hw6] at raw6_b_0 raw6_x_0 raw6_x_1 raw6_x_2 raw6_x_3 raw6_ta_0 raw6_ta_1 raw6_ta_2
  go_wp2_with fail
  rw [← hw6]
  clear hw6
  clear old6_b_0 old6_x_0 old6_x_1 old6_x_2 old6_x_3 raw6_b_0 raw6_x_0 raw6_x_1 raw6_x_2 raw6_x_3 raw6_ta_0 raw6_ta_1 raw6_ta_2
  refine (HC2.out _ hb6).mono ?_
  rintro e wC ⟨ub2, un2, uc2, rfl, ht2, zC⟩
  have s7 := zC.size
  have hb7 := on hb6 zC
  replace b_0 := (zC.cell (p := ⟨w.heap.size, 0, none⟩) (by simp only []; omega)).trans b_0
  replace x_0 := (zC.cell (p := ⟨w.heap.size + 1, 0, none⟩) (by simp only []; omega)).trans x_0
  replace x_1 := (zC.cell (p := ⟨w.heap.size + 1, 1, none⟩) (by simp only []; omega)).trans x_1
  replace x_2 := (zC.cell (p := ⟨w.heap.size + 1, 2, none⟩) (by simp only []; omega)).trans x_2
  replace x_3 := (zC.cell (p := ⟨w.heap.size + 1, 3, none⟩) (by simp only []; omega)).trans x_3
  replace ho := fun S => (ho S).below zC (by omega)
  replace ht1 := ht1.below zC (by omega)
  replace ta_0 := (zC.cell (p := ⟨wB.heap.size, 0, none⟩) (by simp only []; omega)).trans ta_0
  replace ta_1 := (zC.cell (p := ⟨wB.heap.size, 1, none⟩) (by simp only []; omega)).trans ta_1
  replace ta_2 := (zC.cell (p := ⟨wB.heap.size, 2, none⟩) (by simp only []; omega)).trans ta_2
  have hl2 := (ownT_rows ht2).len
  have hn2s := (ownT_rows ht2).small
  clear HC1 HC2
  obtain ⟨w8, hw8⟩ : ∃ W, W = wC.alloc (.cells #[.string ms, .int .i64 B, .slice ub2 un2 uc2] 34) := ⟨_, rfl⟩
  have z8 : Below wC.heap.size wC w8 := by rw [hw8]; exact (Below.refl _ _).alloc (Nat.le_refl _) _
  have s8 : w8.heap.size = wC.heap.size + 1 := by rw [hw8]; simp
  have hb8 := on hb7 z8
  have old8_b_0 := b_0
  have old8_x_0 := x_0
  have old8_x_1 := x_1
  have old8_x_2 := x_2
  have old8_x_3 := x_3
  have old8_ta_0 := ta_0
  have old8_ta_1 := ta_1
  have old8_ta_2 := ta_2
  replace b_0 := (z8.cell (p := ⟨w.heap.size, 0, none⟩) (by simp only []; omega)).trans b_0
  replace x_0 := (z8.cell (p := ⟨w.heap.size + 1, 0, none⟩) (by simp only []; omega)).trans x_0
  replace x_1 := (z8.cell (p := ⟨w.heap.size + 1, 1, none⟩) (by simp only []; omega)).trans x_1
  replace x_2 := (z8.cell (p := ⟨w.heap.size + 1, 2, none⟩) (by simp only []; omega)).trans x_2
  replace x_3 := (z8.cell (p := ⟨w.heap.size + 1, 3, none⟩) (by simp only []; omega)).trans x_3
  replace ho := fun S => (ho S).below z8 (by omega)
  replace ht1 := ht1.below z8 (by omega)
  replace ta_0 := (z8.cell (p := ⟨wB.heap.size, 0, none⟩) (by simp only []; omega)).trans ta_0
  replace ta_1 := (z8.cell (p := ⟨wB.heap.size, 1, none⟩) (by simp only []; omega)).trans ta_1
  replace ta_2 := (z8.cell (p := ⟨wB.heap.size, 2, none⟩) (by simp only []; omega)).trans ta_2
  replace ht2 := ht2.below z8 (by omega)
  have tb_0 : w8.cell? ⟨wC.heap.size, 0, none⟩ = some (.string ms) := by rw [hw8]; exact box_cell (Below.refl _ _) rfl
  have tb_1 : w8.cell? ⟨wC.heap.size, 1, none⟩ = some (.int .i64 B) := by rw [hw8]; exact box_cell (Below.refl _ _) rfl
  have tb_2 : w8.cell? ⟨wC.heap.size, 2, none⟩ = some (.slice ub2 un2 uc2) := by rw [hw8]; exact box_cell (Below.refl _ _) rfl
  have raw8_b_0 := b_0
  have raw8_x_0 := x_0
  have raw8_x_1 := x_1
  have raw8_x_2 := x_2
  have raw8_x_3 := x_3
  have raw8_ta_0 := ta_0
  have raw8_ta_1 := ta_1
  have raw8_ta_2 := ta_2
  have raw8_tb_0 := tb_0
  have raw8_tb_1 := tb_1
  have raw8_tb_2 := tb_2
  rw [hw8] at raw8_b_0 raw8_x_0 raw8_x_1 raw8_x_2 raw8_x_3 raw8_ta_0 raw8_ta_1 raw8_ta_2 raw8_tb_0 raw8_tb_1 raw8_tb_2
  go_wp2_with fail
  rw [← hw8]
  clear hw8
  clear old8_b_0 old8_x_0 old8_x_1 old8_x_2 old8_x_3 old8_ta_0 old8_ta_1 old8_ta_2 raw8_b_0 raw8_x_0 raw8_x_1 raw8_x_2 raw8_x_3 raw8_ta_0 raw8_ta_1 raw8_ta_2 raw8_tb_0 raw8_tb_1 raw8_tb_2
  go_loopw [5, 10] (fun v k wr => ∃ j : Nat, j ≤ 10 ∧ k = .int .i64 j ∧ Acc 3 O.int w2.heap.size w8.heap.size wr.heap.size wr v (missTo (colVals r1 n1) (colVals r2 n2) j) ∧ Turn w2.heap.size (w2.heap.size + 1) w8 wr) (fun _ k _ => 10 - (intOf k).toNat)
  case atStart => exact ⟨0, by omega, rfl, (ho _).wide (Nat.le_refl _) (by omega), turn_refl _ _ _⟩
  case round =>
    obtain ⟨j, hj, rfl, hacc, hdr⟩ := hrel
    have hlc := hdr
    obtain ⟨wo, rfl⟩ : ∃ W, W = wr := ⟨_, rfl⟩
    have s9 := hdr.size
    have hb9 := hb8.trans ((hdr.below (by omega)).mono (by omega))
    replace b_0 := (hdr.cell (p := ⟨w.heap.size, 0, none⟩) (by simp only []; omega) (by simp only []; omega)).trans b_0
    replace x_0 := (hdr.cell (p := ⟨w.heap.size + 1, 0, none⟩) (by simp only []; omega) (by simp only []; omega)).trans x_0
    replace x_1 := (hdr.cell (p := ⟨w.heap.size + 1, 1, none⟩) (by simp only []; omega) (by simp only []; omega)).trans x_1
    replace x_2 := (hdr.cell (p := ⟨w.heap.size + 1, 2, none⟩) (by simp only []; omega) (by simp only []; omega)).trans x_2
    replace x_3 := (hdr.cell (p := ⟨w.heap.size + 1, 3, none⟩) (by simp only []; omega) (by simp only []; omega)).trans x_3
    replace ht1 := ht1.turn hdr (by omega)
    replace ta_0 := (hdr.cell (p := ⟨wB.heap.size, 0, none⟩) (by simp only []; omega) (by simp only []; omega)).trans ta_0
    replace ta_1 := (hdr.cell (p := ⟨wB.heap.size, 1, none⟩) (by simp only []; omega) (by simp only []; omega)).trans ta_1
    replace ta_2 := (hdr.cell (p := ⟨wB.heap.size, 2, none⟩) (by simp only []; omega) (by simp only []; omega)).trans ta_2
    replace ht2 := ht2.turn hdr (by omega)
    replace tb_0 := (hdr.cell (p := ⟨wC.heap.size, 0, none⟩) (by simp only []; omega) (by simp only []; omega)).trans tb_0
    replace tb_1 := (hdr.cell (p := ⟨wC.heap.size, 1, none⟩) (by simp only []; omega) (by simp only []; omega)).trans tb_1
    replace tb_2 := (hdr.cell (p := ⟨wC.heap.size, 2, none⟩) (by simp only []; omega) (by simp only []; omega)).trans tb_2
    have t1 := ownT_rows ht1
    have t2 := ownT_rows ht2
    have hT1 : Below wo.heap.size wo wo := Below.refl _ _
    have hT2 : Below wo.heap.size wo wo := Below.refl _ _
    have hml := missTo_len (colVals r1 n1) (colVals r2 n2) j
    by_cases hlt : j < 10
    · have hjj : (j : Int) ≤ 9 := by omega
      have hjd : decide ((j : Int) ≤ 9) = true := decide_eq_true hjj
      go_wp2_with fail
      go_loopw [11, 13] (fun s k wr => ∃ (q : Nat) (b : Bool), q ≤ vn ∧ s = .bool b ∧ k = .int .i64 q ∧ Hid (b = has (colVals (r1.take q) n1) (j : Int)) ∧ Drew wo wr) (fun _ k _ => vn - (intOf k).toNat)
      case atStart => exact ⟨0, false, Nat.zero_le _, rfl, rfl, Lib.hid (by simp [colVals, has]), Drew.refl _⟩
      case round =>
        obtain ⟨q, b, hq, rfl, rfl, hbq, hdr⟩ := hrel
        have hld11 := hdr
        replace hdr : Below wo.heap.size wo wr := hdr.below _
        have s10 := hdr.size
        have hb10 := on hb9 hdr
        replace b_0 := (hdr.cell (p := ⟨w.heap.size, 0, none⟩) (by simp only []; omega)).trans b_0
        replace x_0 := (hdr.cell (p := ⟨w.heap.size + 1, 0, none⟩) (by simp only []; omega)).trans x_0
        replace x_1 := (hdr.cell (p := ⟨w.heap.size + 1, 1, none⟩) (by simp only []; omega)).trans x_1
        replace x_2 := (hdr.cell (p := ⟨w.heap.size + 1, 2, none⟩) (by simp only []; omega)).trans x_2
        replace x_3 := (hdr.cell (p := ⟨w.heap.size + 1, 3, none⟩) (by simp only []; omega)).trans x_3
        replace ta_0 := (hdr.cell (p := ⟨wB.heap.size, 0, none⟩) (by simp only []; omega)).trans ta_0
        replace ta_1 := (hdr.cell (p := ⟨wB.heap.size, 1, none⟩) (by simp only []; omega)).trans ta_1
        replace ta_2 := (hdr.cell (p := ⟨wB.heap.size, 2, none⟩) (by simp only []; omega)).trans ta_2
        replace tb_0 := (hdr.cell (p := ⟨wC.heap.size, 0, none⟩) (by simp only []; omega)).trans tb_0
        replace tb_1 := (hdr.cell (p := ⟨wC.heap.size, 1, none⟩) (by simp only []; omega)).trans tb_1
        replace tb_2 := (hdr.cell (p := ⟨wC.heap.size, 2, none⟩) (by simp only []; omega)).trans tb_2
        replace hT1 := on hT1 hdr
        replace hT2 := on hT2 hdr
        replace hacc := hacc.below hdr (by omega)
        replace hlc := hlc.trans (turn_below hdr (Nat.le_refl _))
        by_cases hltq : q < vn
        · obtain ⟨b1, o1, yb, yn, yc, y, rfl, hcy, hy, iy, _⟩ := t1.row hltq
          have hyA := (HR1.out y (List.mem_of_getElem? hy.out)).1
          have hyl := iy.len
          have hbt1 : b1 < wo.heap.size := cell_lt hcy
          have y0 : wr.cell? ⟨b1, o1 + q, none⟩ = some (.slice yb yn yc) := (hT1.cell (p := ⟨b1, o1 + q, none⟩) hbt1).trans hcy
          obtain ⟨yb1, yo1, yv, hye, hcyv, hyv, hyv1, hyv2⟩ := iy.get (show n1 < yn by omega)
          subst hye
          have hbt2 : yb1 < wo.heap.size := cell_lt hcyv
          have yv0 : wr.cell? ⟨yb1, yo1 + n1, none⟩ = some (.int .i64 yv) := (hT1.cell (p := ⟨yb1, yo1 + n1, none⟩) hbt2).trans hcyv
          have hyn : n1 < yn := by omega
          have HS := Lib.hid (colVals_step (c := n1) hy.out hyv.out)
          clear hcy hcyv iy t1 hyA hyl
          cases b with
          | true =>
            have HN : Hid (true = has (colVals (r1.take (q + 1)) n1) (j : Int)) := Lib.hid (by rw [HS.out, has_snoc_yes hbq.out.symm])
            go_wp2_with fail
            go_quiet (fail)
            go_wp2_with fail
            go_roundw
            case rel => exact ⟨q + 1, true, by omega, rfl, by go_num, HN.out, hld11.step _⟩
            case measure => simp [intOf]; omega
          | false =>
            have HN : Hid (decide (yv = (j : Int)) = has (colVals (r1.take (q + 1)) n1) (j : Int)) := Lib.hid (by rw [HS.out, has_snoc_no hbq.out.symm])
            by_cases hyj : yv = (j : Int)
            · have hd : (yv == (j : Int)) = true := by rw [beq_iff_eq]; exact hyj
              rw [decide_eq_true hyj] at HN
              clear hyj
              go_wp2_with fail
              go_quiet (fail)
              go_wp2_with fail
              go_roundw
              case rel => exact ⟨q + 1, true, by omega, rfl, by go_num, HN.out, hld11.step _⟩
              case measure => simp [intOf]; omega
            · have hd : (yv == (j : Int)) = false := by rw [beq_eq_false_iff_ne]; exact hyj
              rw [decide_eq_false hyj] at HN
              clear hyj
              go_wp2_with fail
              go_quiet (fail)
              go_wp2_with fail
              go_roundw
              case rel => exact ⟨q + 1, false, by omega, rfl, by go_num, HN.out, hld11.step _⟩
              case measure => simp [intOf]; omega
        · have HB11 : Hid (b = has (colVals r1 n1) (j : Int)) := Lib.hid (by rw [hbq.out, List.take_of_length_le (by omega)])
          clear hbq
          obtain ⟨b11, rfl⟩ : ∃ b9, b9 = b := ⟨_, rfl⟩
          obtain ⟨wj, rfl⟩ : ∃ W, W = wr := ⟨_, rfl⟩
          go_wp2_with fail
          go_loopw [12, 14] (fun s k wr => ∃ (q : Nat) (b : Bool), q ≤ un2 ∧ s = .bool b ∧ k = .int .i64 q ∧ Hid (b = has (colVals (r2.take q) n2) (j : Int)) ∧ Drew wj wr) (fun _ k _ => un2 - (intOf k).toNat)
          case atStart => exact ⟨0, false, Nat.zero_le _, rfl, rfl, Lib.hid (by simp [colVals, has]), Drew.refl _⟩
          case round =>
            obtain ⟨q, b, hq, rfl, rfl, hbq, hdr⟩ := hrel
            have hld12 := hdr
            replace hdr : Below wj.heap.size wj wr := hdr.below _
            have s11 := hdr.size
            have hb11 := on hb10 hdr
            replace b_0 := (hdr.cell (p := ⟨w.heap.size, 0, none⟩) (by simp only []; omega)).trans b_0
            replace x_0 := (hdr.cell (p := ⟨w.heap.size + 1, 0, none⟩) (by simp only []; omega)).trans x_0
            replace x_1 := (hdr.cell (p := ⟨w.heap.size + 1, 1, none⟩) (by simp only []; omega)).trans x_1
            replace x_2 := (hdr.cell (p := ⟨w.heap.size + 1, 2, none⟩) (by simp only []; omega)).trans x_2
            replace x_3 := (hdr.cell (p := ⟨w.heap.size + 1, 3, none⟩) (by simp only []; omega)).trans x_3
            replace ta_0 := (hdr.cell (p := ⟨wB.heap.size, 0, none⟩) (by simp only []; omega)).trans ta_0
            replace ta_1 := (hdr.cell (p := ⟨wB.heap.size, 1, none⟩) (by simp only []; omega)).trans ta_1
            replace ta_2 := (hdr.cell (p := ⟨wB.heap.size, 2, none⟩) (by simp only []; omega)).trans ta_2
            replace tb_0 := (hdr.cell (p := ⟨wC.heap.size, 0, none⟩) (by simp only []; omega)).trans tb_0
            replace tb_1 := (hdr.cell (p := ⟨wC.heap.size, 1, none⟩) (by simp only []; omega)).trans tb_1
            replace tb_2 := (hdr.cell (p := ⟨wC.heap.size, 2, none⟩) (by simp only []; omega)).trans tb_2
            replace hT1 := on hT1 hdr
            replace hT2 := on hT2 hdr
            replace hacc := hacc.below hdr (by omega)
            replace hlc := hlc.trans (turn_below hdr (Nat.le_refl _))
            by_cases hltq : q < un2
            · obtain ⟨b1, o1, yb, yn, yc, y, rfl, hcy, hy, iy, _⟩ := t2.row hltq
              have hyA := (HR2.out y (List.mem_of_getElem? hy.out)).1
              have hyl := iy.len
              have hbt1 : b1 < wo.heap.size := cell_lt hcy
              have y0 : wr.cell? ⟨b1, o1 + q, none⟩ = some (.slice yb yn yc) := (hT2.cell (p := ⟨b1, o1 + q, none⟩) hbt1).trans hcy
              obtain ⟨yb1, yo1, yv, hye, hcyv, hyv, hyv1, hyv2⟩ := iy.get (show n2 < yn by omega)
              subst hye
              have hbt2 : yb1 < wo.heap.size := cell_lt hcyv
              have yv0 : wr.cell? ⟨yb1, yo1 + n2, none⟩ = some (.int .i64 yv) := (hT2.cell (p := ⟨yb1, yo1 + n2, none⟩) hbt2).trans hcyv
              have hyn : n2 < yn := by omega
              have HS := Lib.hid (colVals_step (c := n2) hy.out hyv.out)
              clear hcy hcyv iy t2 hyA hyl
              cases b with
              | true =>
                have HN : Hid (true = has (colVals (r2.take (q + 1)) n2) (j : Int)) := Lib.hid (by rw [HS.out, has_snoc_yes hbq.out.symm])
                go_wp2_with fail
                go_quiet (fail)
                go_wp2_with fail
                go_roundw
                case rel => exact ⟨q + 1, true, by omega, rfl, by go_num, HN.out, hld12.step _⟩
                case measure => simp [intOf]; omega
              | false =>
                have HN : Hid (decide (yv = (j : Int)) = has (colVals (r2.take (q + 1)) n2) (j : Int)) := Lib.hid (by rw [HS.out, has_snoc_no hbq.out.symm])
                by_cases hyj : yv = (j : Int)
                · have hd : (yv == (j : Int)) = true := by rw [beq_iff_eq]; exact hyj
                  rw [decide_eq_true hyj] at HN
                  clear hyj
                  go_wp2_with fail
                  go_quiet (fail)
                  go_wp2_with fail
                  go_roundw
                  case rel => exact ⟨q + 1, true, by omega, rfl, by go_num, HN.out, hld12.step _⟩
                  case measure => simp [intOf]; omega
                · have hd : (yv == (j : Int)) = false := by rw [beq_eq_false_iff_ne]; exact hyj
                  rw [decide_eq_false hyj] at HN
                  clear hyj
                  go_wp2_with fail
                  go_quiet (fail)
                  go_wp2_with fail
                  go_roundw
                  case rel => exact ⟨q + 1, false, by omega, rfl, by go_num, HN.out, hld12.step _⟩
                  case measure => simp [intOf]; omega
            · have HB12 : Hid (b = has (colVals r2 n2) (j : Int)) := Lib.hid (by rw [hbq.out, List.take_of_length_le (by omega)])
              clear hbq
              cases b11 with
              | true =>
                cases b with
                | false =>
                  have HS := Lib.hid (missTo_yes HB11.out.symm HB12.out.symm)
                  go_wp2_with ((at_builtin; refine wpList_accI _ _ _ _ _ hacc hlc rfl (by omega) (by omega) ⟨by omega, by omega⟩ (by omega) rfl rfl rfl rfl rfl ?_; intro v' wD hacc' ht' hsz'))
                  rw [← HS.out] at hacc'
                  go_roundw
                  case rel => exact ⟨j + 1, by omega, by go_num, hacc', ht'⟩
                  case measure => simp [intOf]; omega
                | true =>
                  rw [← missTo_no (show (has (colVals r1 n1) (j : Int) && !has (colVals r2 n2) (j : Int)) = false by rw [← HB11.out, ← HB12.out]; rfl)] at hacc
                  have HA := Lib.hid hacc
                  clear hacc
                  go_wp2_with fail
                  go_roundw
                  case rel => exact ⟨j + 1, by omega, by go_num, HA.out.wide (Nat.le_refl _) (by omega), hlc⟩
                  case measure => simp [intOf]; omega
              | false =>
                rw [← missTo_no (show (has (colVals r1 n1) (j : Int) && !has (colVals r2 n2) (j : Int)) = false by rw [← HB11.out]; rfl)] at hacc
                have HA := Lib.hid hacc
                clear hacc
                go_wp2_with fail
                go_roundw
                case rel => exact ⟨j + 1, by omega, by go_num, HA.out.wide (Nat.le_refl _) (by omega), hlc⟩
                case measure => simp [intOf]; omega
    · have hj10 : j = 10 := by omega
      have hjd : decide ((j : Int) ≤ 9) = false := decide_eq_false (by omega)
      have hjn : ¬ (j : Int) ≤ 9 := by omega
      rw [hj10, ← HE.out] at hacc
      obtain ⟨a', n', cap2, rfl⟩ := hacc.form3
      have HO := Lib.hid (hacc.own (B := w.heap.size) (by omega) (by omega) (Nat.le_refl _))
      clear hacc t1 t2 hj10
      go_wp2_with fail
      go_ret
      exact ⟨_, rfl, HO.out, hb9⟩

/-- Whether an inclusion holds. -/
def holdsIn (db : DDb) (x : DIn) : Bool := validIn db x && decide ((missing db x).length = 0)

set_option maxHeartbeats 1000000 in
theorem holdsIn_impl (cs ds : List Value) (db : DDb) (x : DIn) (w : World) (h : rDb.rep w cs db) (h' : rIn.rep w ds x) :
    Calls Try.prog 76 #[.agg cs.toArray, .agg ds.toArray] w fun e w' => e = .returned (.bool (holdsIn db x)) ∧ Below w.heap.size w w' := by
  obtain ⟨ub, un, uc, rfl⟩ := rDb_form h
  obtain rfl := rIn_form h'
  have HCV := Lib.hid (fun W (hW : Below w.heap.size w W) => validIn_impl _ _ db x W (rDb.mono h hW) (rIn.mono h' hW))
  have HCK := Lib.hid (fun W (hW : Below w.heap.size w W) => missing_impl _ _ db x W (rDb.mono h hW) (rIn.mono h' hW))
  obtain ⟨m1, c1, m2, c2⟩ := x
  have HV : Hid (holdsIn db (m1, c1, m2, c2) = (validIn db (m1, c1, m2, c2) && decide ((missing db (m1, c1, m2, c2)).length = 0))) := rfl
  obtain ⟨p, hp⟩ : ∃ p, validIn db (m1, c1, m2, c2) = p := ⟨_, rfl⟩
  obtain ⟨l, hl⟩ : ∃ l, missing db (m1, c1, m2, c2) = l := ⟨_, rfl⟩
  rw [hp, hl] at HV
  rw [hp] at HCV
  simp only [hl] at HCK
  clear hp hl h h'
  have hb0 : Below w.heap.size w w := Below.refl _ _
  go_enter Try.func76, Try.ntmps76
  obtain ⟨w1, hw1⟩ : ∃ W, W = w.alloc (.cells #[.slice ub un uc] 89) := ⟨_, rfl⟩
  have z1 : Below w.heap.size w w1 := by rw [hw1]; exact (Below.refl _ _).alloc (Nat.le_refl _) _
  have s1 : w1.heap.size = w.heap.size + 1 := by rw [hw1]; simp
  have hb1 := on hb0 z1
  have b_0 : w1.cell? ⟨w.heap.size, 0, none⟩ = some (.slice ub un uc) := by rw [hw1]; exact box_cell (Below.refl _ _) rfl
  have raw1_b_0 := b_0
  rw [hw1] at raw1_b_0
  obtain ⟨w2, hw2⟩ : ∃ W, W = w1.alloc (.cells #[.string m1, .int .i64 c1, .string m2, .int .i64 c2] 91) := ⟨_, rfl⟩
  have z2 : Below w1.heap.size w1 w2 := by rw [hw2]; exact (Below.refl _ _).alloc (Nat.le_refl _) _
  have s2 : w2.heap.size = w1.heap.size + 1 := by rw [hw2]; simp
  have hb2 := on hb1 z2
  replace b_0 := (z2.cell (p := ⟨w.heap.size, 0, none⟩) (by simp only []; omega)).trans b_0
  have e2 : w1.heap.size = w.heap.size + 1 := by omega
  have x_0 : w2.cell? ⟨w1.heap.size, 0, none⟩ = some (.string m1) := by rw [hw2]; exact box_cell (Below.refl _ _) rfl
  have x_1 : w2.cell? ⟨w1.heap.size, 1, none⟩ = some (.int .i64 c1) := by rw [hw2]; exact box_cell (Below.refl _ _) rfl
  have x_2 : w2.cell? ⟨w1.heap.size, 2, none⟩ = some (.string m2) := by rw [hw2]; exact box_cell (Below.refl _ _) rfl
  have x_3 : w2.cell? ⟨w1.heap.size, 3, none⟩ = some (.int .i64 c2) := by rw [hw2]; exact box_cell (Below.refl _ _) rfl
  rw [e2] at x_0 x_1 x_2 x_3
  have raw2_b_0 := b_0
  have raw2_x_0 := x_0
  have raw2_x_1 := x_1
  have raw2_x_2 := x_2
  have raw2_x_3 := x_3
  rw [hw2, hw1] at raw2_b_0 raw2_x_0 raw2_x_1 raw2_x_2 raw2_x_3
  go_wp2_with fail
  rw [← hw1]
  rw [← hw2]
  clear hw2 hw1
  clear raw1_b_0 raw2_b_0 raw2_x_0 raw2_x_1 raw2_x_2 raw2_x_3
  refine (HCV.out _ hb2).mono ?_
  rintro e w9 ⟨rfl, z9⟩
  have s3 := z9.size
  have hb3 := on hb2 z9
  replace b_0 := (z9.cell (p := ⟨w.heap.size, 0, none⟩) (by simp only []; omega)).trans b_0
  replace x_0 := (z9.cell (p := ⟨w.heap.size + 1, 0, none⟩) (by simp only []; omega)).trans x_0
  replace x_1 := (z9.cell (p := ⟨w.heap.size + 1, 1, none⟩) (by simp only []; omega)).trans x_1
  replace x_2 := (z9.cell (p := ⟨w.heap.size + 1, 2, none⟩) (by simp only []; omega)).trans x_2
  replace x_3 := (z9.cell (p := ⟨w.heap.size + 1, 3, none⟩) (by simp only []; omega)).trans x_3
  cases p with
  | false =>
    go_wp2_with fail
    go_wp2_with fail
    go_ret
    exact ⟨ret_bool (by rw [HV.out]; rfl), hb3⟩
  | true =>
    go_wp2_with fail
    refine (HCK.out _ hb3).mono ?_
    rintro e w10 ⟨u, rfl, ho, z10⟩
    obtain ⟨vb, vn, vc, rfl⟩ := oI_form1 ho
    have hln := (rI_ints (ho.rd reads_I)).len
    have s4 := z10.size
    have hb4 := on hb3 z10
    replace b_0 := (z10.cell (p := ⟨w.heap.size, 0, none⟩) (by simp only []; omega)).trans b_0
    replace x_0 := (z10.cell (p := ⟨w.heap.size + 1, 0, none⟩) (by simp only []; omega)).trans x_0
    replace x_1 := (z10.cell (p := ⟨w.heap.size + 1, 1, none⟩) (by simp only []; omega)).trans x_1
    replace x_2 := (z10.cell (p := ⟨w.heap.size + 1, 2, none⟩) (by simp only []; omega)).trans x_2
    replace x_3 := (z10.cell (p := ⟨w.heap.size + 1, 3, none⟩) (by simp only []; omega)).trans x_3
    clear ho
    by_cases h0 : vn = 0
    · subst h0
      have HE := Lib.hid (show holdsIn db (m1, c1, m2, c2) = true by rw [HV.out, hln]; rfl)
      go_wp2_with fail
      go_wp2_with fail
      go_ret
      exact ⟨ret_bool HE.out.symm, hb4⟩
    · have HE := Lib.hid (show holdsIn db (m1, c1, m2, c2) = false by rw [HV.out, hln]; simp [h0])
      have hd : ((vn : Int) == 0) = false := by rw [beq_eq_false_iff_ne]; omega
      go_wp2_with fail
      go_wp2_with fail
      go_ret
      exact ⟨ret_bool HE.out.symm, hb4⟩

set_option maxHeartbeats 1000000 in
theorem holdsIn_spec (cs ds : List Value) (db : DDb) (x : DIn) (w : World) (h : rDb.rep w cs db) (h' : rIn.rep w ds x) :
    Calls Try.prog 73 #[.agg cs.toArray, .agg ds.toArray] w fun e w' => e = .returned (.bool (holdsIn db x)) ∧ Below w.heap.size w w' := by
  obtain ⟨ub, un, uc, rfl⟩ := rDb_form h
  obtain rfl := rIn_form h'
  have HCV := Lib.hid (fun W (hW : Below w.heap.size w W) => validIn_spec _ _ db x W (rDb.mono h hW) (rIn.mono h' hW))
  have HCK := Lib.hid (fun W (hW : Below w.heap.size w W) => missing_spec _ _ db x W (rDb.mono h hW) (rIn.mono h' hW))
  obtain ⟨m1, c1, m2, c2⟩ := x
  have HV : Hid (holdsIn db (m1, c1, m2, c2) = (validIn db (m1, c1, m2, c2) && decide ((missing db (m1, c1, m2, c2)).length = 0))) := rfl
  obtain ⟨p, hp⟩ : ∃ p, validIn db (m1, c1, m2, c2) = p := ⟨_, rfl⟩
  obtain ⟨l, hl⟩ : ∃ l, missing db (m1, c1, m2, c2) = l := ⟨_, rfl⟩
  rw [hp, hl] at HV
  rw [hp] at HCV
  simp only [hl] at HCK
  clear hp hl h h'
  have hb0 : Below w.heap.size w w := Below.refl _ _
  go_enter Try.func73, Try.ntmps73
  obtain ⟨w1, hw1⟩ : ∃ W, W = w.alloc (.cells #[.slice ub un uc] 89) := ⟨_, rfl⟩
  have z1 : Below w.heap.size w w1 := by rw [hw1]; exact (Below.refl _ _).alloc (Nat.le_refl _) _
  have s1 : w1.heap.size = w.heap.size + 1 := by rw [hw1]; simp
  have hb1 := on hb0 z1
  have b_0 : w1.cell? ⟨w.heap.size, 0, none⟩ = some (.slice ub un uc) := by rw [hw1]; exact box_cell (Below.refl _ _) rfl
  have raw1_b_0 := b_0
  rw [hw1] at raw1_b_0
  obtain ⟨w2, hw2⟩ : ∃ W, W = w1.alloc (.cells #[.string m1, .int .i64 c1, .string m2, .int .i64 c2] 91) := ⟨_, rfl⟩
  have z2 : Below w1.heap.size w1 w2 := by rw [hw2]; exact (Below.refl _ _).alloc (Nat.le_refl _) _
  have s2 : w2.heap.size = w1.heap.size + 1 := by rw [hw2]; simp
  have hb2 := on hb1 z2
  replace b_0 := (z2.cell (p := ⟨w.heap.size, 0, none⟩) (by simp only []; omega)).trans b_0
  have e2 : w1.heap.size = w.heap.size + 1 := by omega
  have x_0 : w2.cell? ⟨w1.heap.size, 0, none⟩ = some (.string m1) := by rw [hw2]; exact box_cell (Below.refl _ _) rfl
  have x_1 : w2.cell? ⟨w1.heap.size, 1, none⟩ = some (.int .i64 c1) := by rw [hw2]; exact box_cell (Below.refl _ _) rfl
  have x_2 : w2.cell? ⟨w1.heap.size, 2, none⟩ = some (.string m2) := by rw [hw2]; exact box_cell (Below.refl _ _) rfl
  have x_3 : w2.cell? ⟨w1.heap.size, 3, none⟩ = some (.int .i64 c2) := by rw [hw2]; exact box_cell (Below.refl _ _) rfl
  rw [e2] at x_0 x_1 x_2 x_3
  have raw2_b_0 := b_0
  have raw2_x_0 := x_0
  have raw2_x_1 := x_1
  have raw2_x_2 := x_2
  have raw2_x_3 := x_3
  rw [hw2, hw1] at raw2_b_0 raw2_x_0 raw2_x_1 raw2_x_2 raw2_x_3
  go_wp2_with fail
  rw [← hw1]
  rw [← hw2]
  clear hw2 hw1
  clear raw1_b_0 raw2_b_0 raw2_x_0 raw2_x_1 raw2_x_2 raw2_x_3
  refine (HCV.out _ hb2).mono ?_
  rintro e w9 ⟨rfl, z9⟩
  have s3 := z9.size
  have hb3 := on hb2 z9
  replace b_0 := (z9.cell (p := ⟨w.heap.size, 0, none⟩) (by simp only []; omega)).trans b_0
  replace x_0 := (z9.cell (p := ⟨w.heap.size + 1, 0, none⟩) (by simp only []; omega)).trans x_0
  replace x_1 := (z9.cell (p := ⟨w.heap.size + 1, 1, none⟩) (by simp only []; omega)).trans x_1
  replace x_2 := (z9.cell (p := ⟨w.heap.size + 1, 2, none⟩) (by simp only []; omega)).trans x_2
  replace x_3 := (z9.cell (p := ⟨w.heap.size + 1, 3, none⟩) (by simp only []; omega)).trans x_3
  cases p with
  | false =>
    go_wp2_with fail
    go_wp2_with fail
    go_ret
    exact ⟨ret_bool (by rw [HV.out]; rfl), hb3⟩
  | true =>
    go_wp2_with fail
    refine (HCK.out _ hb3).mono ?_
    rintro e w10 ⟨u, rfl, ho, z10⟩
    obtain ⟨vb, vn, vc, rfl⟩ := oI_form1 ho
    have hln := (rI_ints (ho.rd reads_I)).len
    have s4 := z10.size
    have hb4 := on hb3 z10
    replace b_0 := (z10.cell (p := ⟨w.heap.size, 0, none⟩) (by simp only []; omega)).trans b_0
    replace x_0 := (z10.cell (p := ⟨w.heap.size + 1, 0, none⟩) (by simp only []; omega)).trans x_0
    replace x_1 := (z10.cell (p := ⟨w.heap.size + 1, 1, none⟩) (by simp only []; omega)).trans x_1
    replace x_2 := (z10.cell (p := ⟨w.heap.size + 1, 2, none⟩) (by simp only []; omega)).trans x_2
    replace x_3 := (z10.cell (p := ⟨w.heap.size + 1, 3, none⟩) (by simp only []; omega)).trans x_3
    clear ho
    by_cases h0 : vn = 0
    · subst h0
      have HE := Lib.hid (show holdsIn db (m1, c1, m2, c2) = true by rw [HV.out, hln]; rfl)
      go_wp2_with fail
      go_wp2_with fail
      go_ret
      exact ⟨ret_bool HE.out.symm, hb4⟩
    · have HE := Lib.hid (show holdsIn db (m1, c1, m2, c2) = false by rw [HV.out, hln]; simp [h0])
      have hd : ((vn : Int) == 0) = false := by rw [beq_eq_false_iff_ne]; omega
      go_wp2_with fail
      go_wp2_with fail
      go_ret
      exact ⟨ret_bool HE.out.symm, hb4⟩

end Go.Proofs.Ytbkoddikfpkocaa

/- The walk of the law InclusionHolds. Written by a program. -/
namespace Go.Proofs.Ytbkoddikfpkocaa
open Go.RowKit
set_option linter.unusedVariables false
set_option linter.unusedSimpArgs false
set_option synthInstance.maxSize 2000
set_option synthInstance.maxHeartbeats 400000

set_option maxHeartbeats 4000000 in
set_option maxRecDepth 100000 in
theorem walk_FnExactInclusionHolds (v0 : Value) (v1 : Value) (w : World) (h0 : kDb_in w v0) (h1 : kIn_in w v1) :
    Calls Try.prog 8 #[v0, v1] w fun e w' => e = .returned (.bool true) ∧ Below w.heap.size w w' := by
  obtain ⟨c0, x0, rfl, h0⟩ := h0
  obtain ⟨bu0, nu0, cu0, rfl⟩ := rDb_form h0
  obtain ⟨c1, x1, rfl, h1⟩ := h1
  obtain ⟨rfl⟩ := rIn_form h1
  have hb0 : Below w.heap.size w w := Below.refl _ _
  go_enter Try.func8, Try.ntmps8
  obtain ⟨w1, hw1⟩ : ∃ W, W = w.alloc (.cells #[.slice bu0 nu0 cu0] 81) := ⟨_, rfl⟩
  have z1 : Below w.heap.size w w1 := by rw [hw1]; exact (Below.refl _ _).alloc (Nat.le_refl _) _
  have s1 : w1.heap.size = w.heap.size + 1 := by rw [hw1]; simp
  have hb1 := on hb0 z1
  have bp0_0 : w1.cell? ⟨w.heap.size, 0, none⟩ = some (.slice bu0 nu0 cu0) := by rw [hw1]; exact box_cell (Below.refl _ _) rfl
  obtain ⟨w2, hw2⟩ : ∃ W, W = w1.alloc (.cells #[.string x1.1, .int .i64 x1.2.1, .string x1.2.2.1, .int .i64 x1.2.2.2] 83) := ⟨_, rfl⟩
  have z2 : Below w1.heap.size w1 w2 := by rw [hw2]; exact (Below.refl _ _).alloc (Nat.le_refl _) _
  have s2 : w2.heap.size = w1.heap.size + 1 := by rw [hw2]; simp
  have hb2 := on hb1 z2
  replace bp0_0 := (z2.cell (p := ⟨w.heap.size, 0, none⟩) (by simp only []; omega)).trans bp0_0
  have bp1_0 : w2.cell? ⟨w1.heap.size, 0, none⟩ = some (.string x1.1) := by rw [hw2]; exact box_cell (Below.refl _ _) rfl
  have bp1_1 : w2.cell? ⟨w1.heap.size, 1, none⟩ = some (.int .i64 x1.2.1) := by rw [hw2]; exact box_cell (Below.refl _ _) rfl
  have bp1_2 : w2.cell? ⟨w1.heap.size, 2, none⟩ = some (.string x1.2.2.1) := by rw [hw2]; exact box_cell (Below.refl _ _) rfl
  have bp1_3 : w2.cell? ⟨w1.heap.size, 3, none⟩ = some (.int .i64 x1.2.2.2) := by rw [hw2]; exact box_cell (Below.refl _ _) rfl
  have e2 : w1.heap.size = w.heap.size + 1 := by omega
  rw [e2] at bp1_0 bp1_1 bp1_2 bp1_3
  go_wp2_with fail
  rw [← hw1]
  clear hw1
  rw [← hw2]
  clear hw2
  refine (sz_Db _ x0 (1048576) _ (rDb.mono h0 hb2) (by omega) (by omega)).mono ?_
  rintro e w3 ⟨rfl, z3⟩
  have s3 := z3.size
  have hb3 := on hb2 z3
  replace bp0_0 := (z3.cell (p := ⟨w.heap.size, 0, none⟩) (by simp only []; omega)).trans bp0_0
  replace bp1_0 := (z3.cell (p := ⟨w.heap.size + 1, 0, none⟩) (by simp only []; omega)).trans bp1_0
  replace bp1_1 := (z3.cell (p := ⟨w.heap.size + 1, 1, none⟩) (by simp only []; omega)).trans bp1_1
  replace bp1_2 := (z3.cell (p := ⟨w.heap.size + 1, 2, none⟩) (by simp only []; omega)).trans bp1_2
  replace bp1_3 := (z3.cell (p := ⟨w.heap.size + 1, 3, none⟩) (by simp only []; omega)).trans bp1_3
  obtain ⟨q0, hq0⟩ : ∃ q, q = szR (1048576) (bulk_Db x0) := ⟨_, rfl⟩
  rw [← hq0]
  have hc0 := szR_cases (1048576) (bulk_Db x0)
  rw [← hq0] at hc0
  clear hq0
  rcases hc0 with ⟨rfl, _⟩ | ⟨hq0, hbk0⟩
  · go_wp2_with fail
    go_ret
    exact ⟨rfl, hb3⟩
  have hlo0 : 0 ≤ q0 ∧ q0 ≤ 1048576 := by omega
  have hbl0 : bulk_Db x0 ≤ 1048576 := by omega
  obtain ⟨hlo0, hlp0⟩ := hlo0
  have HQ0 := Lib.hid hq0
  clear hq0 hbk0
  go_wp2_with fail
  refine (sz_In _ x1 (q0) _ (rIn.mono h1 hb3) (by omega) (by omega)).mono ?_
  rintro e w4 ⟨rfl, z4⟩
  have s4 := z4.size
  have hb4 := on hb3 z4
  replace bp0_0 := (z4.cell (p := ⟨w.heap.size, 0, none⟩) (by simp only []; omega)).trans bp0_0
  replace bp1_0 := (z4.cell (p := ⟨w.heap.size + 1, 0, none⟩) (by simp only []; omega)).trans bp1_0
  replace bp1_1 := (z4.cell (p := ⟨w.heap.size + 1, 1, none⟩) (by simp only []; omega)).trans bp1_1
  replace bp1_2 := (z4.cell (p := ⟨w.heap.size + 1, 2, none⟩) (by simp only []; omega)).trans bp1_2
  replace bp1_3 := (z4.cell (p := ⟨w.heap.size + 1, 3, none⟩) (by simp only []; omega)).trans bp1_3
  obtain ⟨q1, hq1⟩ : ∃ q, q = szR (q0) (bulk_In x1) := ⟨_, rfl⟩
  rw [← hq1]
  have hc1 := szR_cases (q0) (bulk_In x1)
  rw [← hq1] at hc1
  clear hq1
  rcases hc1 with ⟨rfl, _⟩ | ⟨hq1, hbk1⟩
  · go_wp2_with fail
    go_ret
    exact ⟨rfl, hb4⟩
  have hlo1 : 0 ≤ q1 ∧ q1 ≤ 1048576 := by omega
  have hbl1 : bulk_In x1 ≤ 1048576 := by omega
  obtain ⟨hlo1, hlp1⟩ := hlo1
  have HQ1 := Lib.hid hq1
  clear hq1 hbk1
  go_wp2_with fail
  go_region_held3 (fun W => W.cell? ⟨w.heap.size, 0, none⟩ = some (.slice bu0 nu0 cu0) ∧ W.cell? ⟨w.heap.size + 1, 0, none⟩ = some (.string x1.1) ∧ W.cell? ⟨w.heap.size + 1, 1, none⟩ = some (.int .i64 x1.2.1) ∧ W.cell? ⟨w.heap.size + 1, 2, none⟩ = some (.string x1.2.2.1) ∧ W.cell? ⟨w.heap.size + 1, 3, none⟩ = some (.int .i64 x1.2.2.2)) (first | exact ⟨bp0_0, bp1_0, bp1_1, bp1_2, bp1_3⟩ | assumption) (first | (go_at_call 74; with_reducible (show Calls Try.prog 74 #[.agg #[.slice bu0 nu0 cu0]] _ _); refine (to_Db _ x0 _ (rDb.mono h0 hb4.drew) (by omega)).mono ?_; rintro e w5 ⟨ct0, rfl, t0, z5⟩; replace z5 : Below w4.heap.size w4 w5 := on (Below.refl _ _).drew z5; have sz5 := z5.size; obtain ⟨but0, nut0, cut0, rfl⟩ := oDb_form t0; have hS5 := (⟨(z5.cell (p := ⟨w.heap.size, 0, none⟩) (by simp only []; omega)).trans bp0_0, (z5.cell (p := ⟨w.heap.size + 1, 0, none⟩) (by simp only []; omega)).trans bp1_0, (z5.cell (p := ⟨w.heap.size + 1, 1, none⟩) (by simp only []; omega)).trans bp1_1, (z5.cell (p := ⟨w.heap.size + 1, 2, none⟩) (by simp only []; omega)).trans bp1_2, (z5.cell (p := ⟨w.heap.size + 1, 3, none⟩) (by simp only []; omega)).trans bp1_3⟩ : (fun W => W.cell? ⟨w.heap.size, 0, none⟩ = some (.slice bu0 nu0 cu0) ∧ W.cell? ⟨w.heap.size + 1, 0, none⟩ = some (.string x1.1) ∧ W.cell? ⟨w.heap.size + 1, 1, none⟩ = some (.int .i64 x1.2.1) ∧ W.cell? ⟨w.heap.size + 1, 2, none⟩ = some (.string x1.2.2.1) ∧ W.cell? ⟨w.heap.size + 1, 3, none⟩ = some (.int .i64 x1.2.2.2)) w5); have hx5 := on hb4 z5) | (go_at_call 75; with_reducible (show Calls Try.prog 75 #[.agg #[.string x1.1, .int .i64 x1.2.1, .string x1.2.2.1, .int .i64 x1.2.2.2]] _ _); refine (to_In _ x1 _ (rIn.mono h1 hx5)).mono ?_; rintro e w6 ⟨rfl, z6⟩; have sz6 := z6.size; replace t0 := t0.below z6 (by omega); have hS6 := (⟨(z6.cell (p := ⟨w.heap.size, 0, none⟩) (by simp only []; omega)).trans hS5.1, (z6.cell (p := ⟨w.heap.size + 1, 0, none⟩) (by simp only []; omega)).trans hS5.2.1, (z6.cell (p := ⟨w.heap.size + 1, 1, none⟩) (by simp only []; omega)).trans hS5.2.2.1, (z6.cell (p := ⟨w.heap.size + 1, 2, none⟩) (by simp only []; omega)).trans hS5.2.2.2.1, (z6.cell (p := ⟨w.heap.size + 1, 3, none⟩) (by simp only []; omega)).trans hS5.2.2.2.2⟩ : (fun W => W.cell? ⟨w.heap.size, 0, none⟩ = some (.slice bu0 nu0 cu0) ∧ W.cell? ⟨w.heap.size + 1, 0, none⟩ = some (.string x1.1) ∧ W.cell? ⟨w.heap.size + 1, 1, none⟩ = some (.int .i64 x1.2.1) ∧ W.cell? ⟨w.heap.size + 1, 2, none⟩ = some (.string x1.2.2.1) ∧ W.cell? ⟨w.heap.size + 1, 3, none⟩ = some (.int .i64 x1.2.2.2)) w6); have hx6 := on hx5 z6) | (go_at_call 73; refine (holdsIn_spec _ _ x0 x1 _ (t0.rd reads_Db) (rIn.mono h1 hx6)).mono ?_; rintro e w7 ⟨rfl, z7⟩; have sz7 := z7.size; replace t0 := t0.below z7 (by omega); have hS7 := (⟨(z7.cell (p := ⟨w.heap.size, 0, none⟩) (by simp only []; omega)).trans hS6.1, (z7.cell (p := ⟨w.heap.size + 1, 0, none⟩) (by simp only []; omega)).trans hS6.2.1, (z7.cell (p := ⟨w.heap.size + 1, 1, none⟩) (by simp only []; omega)).trans hS6.2.2.1, (z7.cell (p := ⟨w.heap.size + 1, 2, none⟩) (by simp only []; omega)).trans hS6.2.2.2.1, (z7.cell (p := ⟨w.heap.size + 1, 3, none⟩) (by simp only []; omega)).trans hS6.2.2.2.2⟩ : (fun W => W.cell? ⟨w.heap.size, 0, none⟩ = some (.slice bu0 nu0 cu0) ∧ W.cell? ⟨w.heap.size + 1, 0, none⟩ = some (.string x1.1) ∧ W.cell? ⟨w.heap.size + 1, 1, none⟩ = some (.int .i64 x1.2.1) ∧ W.cell? ⟨w.heap.size + 1, 2, none⟩ = some (.string x1.2.2.1) ∧ W.cell? ⟨w.heap.size + 1, 3, none⟩ = some (.int .i64 x1.2.2.2)) w7); have hx7 := on hx6 z7))
  replace z5 : Below w4.heap.size w4 w5 := z5
  replace z6 : Below w5.heap.size w5 w6 := z6
  replace z7 : Below w6.heap.size w6 w7 := z7
  clear hS5 hx5 hS6 hx6 hS7 hx7 t0
  have t5 := z5.size
  have hb5 := on hb4 z5
  replace bp0_0 := (z5.cell (p := ⟨w.heap.size, 0, none⟩) (by simp only []; omega)).trans bp0_0
  replace bp1_0 := (z5.cell (p := ⟨w.heap.size + 1, 0, none⟩) (by simp only []; omega)).trans bp1_0
  replace bp1_1 := (z5.cell (p := ⟨w.heap.size + 1, 1, none⟩) (by simp only []; omega)).trans bp1_1
  replace bp1_2 := (z5.cell (p := ⟨w.heap.size + 1, 2, none⟩) (by simp only []; omega)).trans bp1_2
  replace bp1_3 := (z5.cell (p := ⟨w.heap.size + 1, 3, none⟩) (by simp only []; omega)).trans bp1_3
  have t6 := z6.size
  have hb6 := on hb5 z6
  replace bp0_0 := (z6.cell (p := ⟨w.heap.size, 0, none⟩) (by simp only []; omega)).trans bp0_0
  replace bp1_0 := (z6.cell (p := ⟨w.heap.size + 1, 0, none⟩) (by simp only []; omega)).trans bp1_0
  replace bp1_1 := (z6.cell (p := ⟨w.heap.size + 1, 1, none⟩) (by simp only []; omega)).trans bp1_1
  replace bp1_2 := (z6.cell (p := ⟨w.heap.size + 1, 2, none⟩) (by simp only []; omega)).trans bp1_2
  replace bp1_3 := (z6.cell (p := ⟨w.heap.size + 1, 3, none⟩) (by simp only []; omega)).trans bp1_3
  have t7 := z7.size
  have hb7 := on hb6 z7
  replace bp0_0 := (z7.cell (p := ⟨w.heap.size, 0, none⟩) (by simp only []; omega)).trans bp0_0
  replace bp1_0 := (z7.cell (p := ⟨w.heap.size + 1, 0, none⟩) (by simp only []; omega)).trans bp1_0
  replace bp1_1 := (z7.cell (p := ⟨w.heap.size + 1, 1, none⟩) (by simp only []; omega)).trans bp1_1
  replace bp1_2 := (z7.cell (p := ⟨w.heap.size + 1, 2, none⟩) (by simp only []; omega)).trans bp1_2
  replace bp1_3 := (z7.cell (p := ⟨w.heap.size + 1, 3, none⟩) (by simp only []; omega)).trans bp1_3
  go_wp2_with fail
  refine (to_Db _ _ _ (rDb.mono h0 hb7) (by omega)).mono ?_
  rintro e w8 ⟨cy0, rfl, y0, z8⟩
  have s8 := z8.size
  have hb8 := on hb7 z8
  replace bp0_0 := (z8.cell (p := ⟨w.heap.size, 0, none⟩) (by simp only []; omega)).trans bp0_0
  replace bp1_0 := (z8.cell (p := ⟨w.heap.size + 1, 0, none⟩) (by simp only []; omega)).trans bp1_0
  replace bp1_1 := (z8.cell (p := ⟨w.heap.size + 1, 1, none⟩) (by simp only []; omega)).trans bp1_1
  replace bp1_2 := (z8.cell (p := ⟨w.heap.size + 1, 2, none⟩) (by simp only []; omega)).trans bp1_2
  replace bp1_3 := (z8.cell (p := ⟨w.heap.size + 1, 3, none⟩) (by simp only []; omega)).trans bp1_3
  obtain ⟨buy0, nuy0, cuy0, rfl⟩ := oDb_form y0
  obtain ⟨w9, hw9⟩ : ∃ W, W = w8.alloc (.cells #[.slice buy0 nuy0 cuy0] 89) := ⟨_, rfl⟩
  have z9 : Below w8.heap.size w8 w9 := by rw [hw9]; exact (Below.refl _ _).alloc (Nat.le_refl _) _
  have s9 : w9.heap.size = w8.heap.size + 1 := by rw [hw9]; simp
  have hb9 := on hb8 z9
  replace y0 := y0.below z9 (by omega)
  replace bp0_0 := (z9.cell (p := ⟨w.heap.size, 0, none⟩) (by simp only []; omega)).trans bp0_0
  replace bp1_0 := (z9.cell (p := ⟨w.heap.size + 1, 0, none⟩) (by simp only []; omega)).trans bp1_0
  replace bp1_1 := (z9.cell (p := ⟨w.heap.size + 1, 1, none⟩) (by simp only []; omega)).trans bp1_1
  replace bp1_2 := (z9.cell (p := ⟨w.heap.size + 1, 2, none⟩) (by simp only []; omega)).trans bp1_2
  replace bp1_3 := (z9.cell (p := ⟨w.heap.size + 1, 3, none⟩) (by simp only []; omega)).trans bp1_3
  have by0_0 : w9.cell? ⟨w8.heap.size, 0, none⟩ = some (.slice buy0 nuy0 cuy0) := by rw [hw9]; exact box_cell (Below.refl _ _) rfl
  have raw_bp0_0 := bp0_0
  rw [hw9] at raw_bp0_0
  have raw_bp1_0 := bp1_0
  rw [hw9] at raw_bp1_0
  have raw_bp1_1 := bp1_1
  rw [hw9] at raw_bp1_1
  have raw_bp1_2 := bp1_2
  rw [hw9] at raw_bp1_2
  have raw_bp1_3 := bp1_3
  rw [hw9] at raw_bp1_3
  have raw_by0_0 := by0_0
  rw [hw9] at raw_by0_0
  go_wp2_with fail
  rw [← hw9]
  clear hw9
  clear raw_bp0_0 raw_bp1_0 raw_bp1_1 raw_bp1_2 raw_bp1_3 raw_by0_0
  go_region_held3 (fun W => W.cell? ⟨w.heap.size, 0, none⟩ = some (.slice bu0 nu0 cu0) ∧ W.cell? ⟨w.heap.size + 1, 0, none⟩ = some (.string x1.1) ∧ W.cell? ⟨w.heap.size + 1, 1, none⟩ = some (.int .i64 x1.2.1) ∧ W.cell? ⟨w.heap.size + 1, 2, none⟩ = some (.string x1.2.2.1) ∧ W.cell? ⟨w.heap.size + 1, 3, none⟩ = some (.int .i64 x1.2.2.2) ∧ W.cell? ⟨w8.heap.size, 0, none⟩ = some (.slice buy0 nuy0 cuy0)) (first | exact ⟨bp0_0, bp1_0, bp1_1, bp1_2, bp1_3, by0_0⟩ | assumption) (first | (go_at_call 75; with_reducible (show Calls Try.prog 75 #[.agg #[.string x1.1, .int .i64 x1.2.1, .string x1.2.2.1, .int .i64 x1.2.2.2]] _ _); refine (to_In _ x1 _ (rIn.mono h1 hb9.drew)).mono ?_; rintro e w10 ⟨rfl, z10⟩; replace z10 : Below w9.heap.size w9 w10 := on (Below.refl _ _).drew z10; have sz10 := z10.size; have y0q := y0.below z10 (by omega); have hS10 := (⟨(z10.cell (p := ⟨w.heap.size, 0, none⟩) (by simp only []; omega)).trans bp0_0, (z10.cell (p := ⟨w.heap.size + 1, 0, none⟩) (by simp only []; omega)).trans bp1_0, (z10.cell (p := ⟨w.heap.size + 1, 1, none⟩) (by simp only []; omega)).trans bp1_1, (z10.cell (p := ⟨w.heap.size + 1, 2, none⟩) (by simp only []; omega)).trans bp1_2, (z10.cell (p := ⟨w.heap.size + 1, 3, none⟩) (by simp only []; omega)).trans bp1_3, (z10.cell (p := ⟨w8.heap.size, 0, none⟩) (by simp only []; omega)).trans by0_0⟩ : (fun W => W.cell? ⟨w.heap.size, 0, none⟩ = some (.slice bu0 nu0 cu0) ∧ W.cell? ⟨w.heap.size + 1, 0, none⟩ = some (.string x1.1) ∧ W.cell? ⟨w.heap.size + 1, 1, none⟩ = some (.int .i64 x1.2.1) ∧ W.cell? ⟨w.heap.size + 1, 2, none⟩ = some (.string x1.2.2.1) ∧ W.cell? ⟨w.heap.size + 1, 3, none⟩ = some (.int .i64 x1.2.2.2) ∧ W.cell? ⟨w8.heap.size, 0, none⟩ = some (.slice buy0 nuy0 cuy0)) w10); have hx10 := on hb9 z10) | (go_at_call 76; refine (holdsIn_impl _ _ x0 x1 _ (y0q.rd reads_Db) (rIn.mono h1 hx10)).mono ?_; rintro e w11 ⟨rfl, z11⟩; have sz11 := z11.size; replace y0q := y0q.below z11 (by omega); have hS11 := (⟨(z11.cell (p := ⟨w.heap.size, 0, none⟩) (by simp only []; omega)).trans hS10.1, (z11.cell (p := ⟨w.heap.size + 1, 0, none⟩) (by simp only []; omega)).trans hS10.2.1, (z11.cell (p := ⟨w.heap.size + 1, 1, none⟩) (by simp only []; omega)).trans hS10.2.2.1, (z11.cell (p := ⟨w.heap.size + 1, 2, none⟩) (by simp only []; omega)).trans hS10.2.2.2.1, (z11.cell (p := ⟨w.heap.size + 1, 3, none⟩) (by simp only []; omega)).trans hS10.2.2.2.2.1, (z11.cell (p := ⟨w8.heap.size, 0, none⟩) (by simp only []; omega)).trans hS10.2.2.2.2.2⟩ : (fun W => W.cell? ⟨w.heap.size, 0, none⟩ = some (.slice bu0 nu0 cu0) ∧ W.cell? ⟨w.heap.size + 1, 0, none⟩ = some (.string x1.1) ∧ W.cell? ⟨w.heap.size + 1, 1, none⟩ = some (.int .i64 x1.2.1) ∧ W.cell? ⟨w.heap.size + 1, 2, none⟩ = some (.string x1.2.2.1) ∧ W.cell? ⟨w.heap.size + 1, 3, none⟩ = some (.int .i64 x1.2.2.2) ∧ W.cell? ⟨w8.heap.size, 0, none⟩ = some (.slice buy0 nuy0 cuy0)) w11); have hx11 := on hx10 z11))
  replace z10 : Below w9.heap.size w9 w10 := z10
  replace z11 : Below w10.heap.size w10 w11 := z11
  clear hS10 hx10 hS11 hx11  y0q
  have t10 := z10.size
  have hb10 := on hb9 z10
  replace y0 := y0.below z10 (by omega)
  replace bp0_0 := (z10.cell (p := ⟨w.heap.size, 0, none⟩) (by simp only []; omega)).trans bp0_0
  replace bp1_0 := (z10.cell (p := ⟨w.heap.size + 1, 0, none⟩) (by simp only []; omega)).trans bp1_0
  replace bp1_1 := (z10.cell (p := ⟨w.heap.size + 1, 1, none⟩) (by simp only []; omega)).trans bp1_1
  replace bp1_2 := (z10.cell (p := ⟨w.heap.size + 1, 2, none⟩) (by simp only []; omega)).trans bp1_2
  replace bp1_3 := (z10.cell (p := ⟨w.heap.size + 1, 3, none⟩) (by simp only []; omega)).trans bp1_3
  replace by0_0 := (z10.cell (p := ⟨w8.heap.size, 0, none⟩) (by simp only []; omega)).trans by0_0
  have t11 := z11.size
  have hb11 := on hb10 z11
  replace y0 := y0.below z11 (by omega)
  replace bp0_0 := (z11.cell (p := ⟨w.heap.size, 0, none⟩) (by simp only []; omega)).trans bp0_0
  replace bp1_0 := (z11.cell (p := ⟨w.heap.size + 1, 0, none⟩) (by simp only []; omega)).trans bp1_0
  replace bp1_1 := (z11.cell (p := ⟨w.heap.size + 1, 1, none⟩) (by simp only []; omega)).trans bp1_1
  replace bp1_2 := (z11.cell (p := ⟨w.heap.size + 1, 2, none⟩) (by simp only []; omega)).trans bp1_2
  replace bp1_3 := (z11.cell (p := ⟨w.heap.size + 1, 3, none⟩) (by simp only []; omega)).trans bp1_3
  replace by0_0 := (z11.cell (p := ⟨w8.heap.size, 0, none⟩) (by simp only []; omega)).trans by0_0
  go_wp2_with fail
  go_region_held3 (fun W => W.cell? ⟨w8.heap.size, 0, none⟩ = some (.slice buy0 nuy0 cuy0) ∧ W.cell? ⟨w.heap.size, 0, none⟩ = some (.slice bu0 nu0 cu0)) (first | exact ⟨by0_0, bp0_0⟩ | assumption) (first | (go_at_call 74; refine (to_Db _ x0 _ (rDb.mono h0 hb11.drew) (by omega)).mono ?_; rintro e w12 ⟨du0, rfl, u0, z12⟩; replace z12 : Below w11.heap.size w11 w12 := (Below.refl _ _).drew.trans z12; have hS0 := (⟨(z12.cell (p := ⟨w8.heap.size, 0, none⟩) (by simp only []; omega)).trans by0_0, (z12.cell (p := ⟨w.heap.size, 0, none⟩) (by simp only []; omega)).trans bp0_0⟩ : (fun W => W.cell? ⟨w8.heap.size, 0, none⟩ = some (.slice buy0 nuy0 cuy0) ∧ W.cell? ⟨w.heap.size, 0, none⟩ = some (.slice bu0 nu0 cu0)) w12); obtain ⟨buu0, nuu0, cuu0, rfl⟩ := oDb_form u0; have y0' := y0.below z12 (by omega)) | (go_at_call 77; refine (eq_Db _ _ x0 x0 _ (y0'.rd reads_Db) (u0.rd reads_Db)).mono ?_; rintro e w13 ⟨rfl, z13⟩; have s12 := z12.size; have hT0 := (⟨(z13.cell (p := ⟨w8.heap.size, 0, none⟩) (by simp only []; omega)).trans hS0.1, (z13.cell (p := ⟨w.heap.size, 0, none⟩) (by simp only []; omega)).trans hS0.2⟩ : (fun W => W.cell? ⟨w8.heap.size, 0, none⟩ = some (.slice buy0 nuy0 cuy0) ∧ W.cell? ⟨w.heap.size, 0, none⟩ = some (.slice bu0 nu0 cu0)) w13)))
  replace z12 : Below w11.heap.size w11 w12 := z12
  clear u0 y0' hS0 hT0
  have t12 := z12.size
  have hb12 := on hb11 z12
  replace y0 := y0.below z12 (by omega)
  replace bp0_0 := (z12.cell (p := ⟨w.heap.size, 0, none⟩) (by simp only []; omega)).trans bp0_0
  replace bp1_0 := (z12.cell (p := ⟨w.heap.size + 1, 0, none⟩) (by simp only []; omega)).trans bp1_0
  replace bp1_1 := (z12.cell (p := ⟨w.heap.size + 1, 1, none⟩) (by simp only []; omega)).trans bp1_1
  replace bp1_2 := (z12.cell (p := ⟨w.heap.size + 1, 2, none⟩) (by simp only []; omega)).trans bp1_2
  replace bp1_3 := (z12.cell (p := ⟨w.heap.size + 1, 3, none⟩) (by simp only []; omega)).trans bp1_3
  replace by0_0 := (z12.cell (p := ⟨w8.heap.size, 0, none⟩) (by simp only []; omega)).trans by0_0
  have t13 := z13.size
  have hb13 := on hb12 z13
  replace y0 := y0.below z13 (by omega)
  replace bp0_0 := (z13.cell (p := ⟨w.heap.size, 0, none⟩) (by simp only []; omega)).trans bp0_0
  replace bp1_0 := (z13.cell (p := ⟨w.heap.size + 1, 0, none⟩) (by simp only []; omega)).trans bp1_0
  replace bp1_1 := (z13.cell (p := ⟨w.heap.size + 1, 1, none⟩) (by simp only []; omega)).trans bp1_1
  replace bp1_2 := (z13.cell (p := ⟨w.heap.size + 1, 2, none⟩) (by simp only []; omega)).trans bp1_2
  replace bp1_3 := (z13.cell (p := ⟨w.heap.size + 1, 3, none⟩) (by simp only []; omega)).trans bp1_3
  replace by0_0 := (z13.cell (p := ⟨w8.heap.size, 0, none⟩) (by simp only []; omega)).trans by0_0
  go_wp2_with fail
  go_ret
  exact ⟨rfl, hb13⟩

end Go.Proofs.Ytbkoddikfpkocaa

/- The law FnExactInclusionHolds: the walk is lifted to the given statement: for every input the law returns true and its arguments read as they did.
   No condition beside those of the row. -/
namespace Go.Proofs.Ytbkoddikfpkocaa.fnExactInclusionHolds
open Go.ChangeShapes Go.WideShapes Go.ChangeAt Go.RowKit
set_option linter.unusedVariables false

set_option maxRecDepth 100000 in
theorem lifted (os : Os) (started : os.Started) (H : Type) (enc : TypeId × Value → H) :
    ReturnsInHanded {} Try.checked os 8 .any (Rows.fnExactInclusionHoldsSpec.pre6 enc Try.prog Try.f8 Rows.fnExactInclusionHoldsRow.domain false) (Rows.fnExactInclusionHoldsSpec.post enc Try.prog Try.f8 false true false false) := by
  refine returnsInHanded_of_change (C := Try.checked) own_knob started (by kernel_rfl) Try.func8
    (ChangeSpec.witness6 (enc := enc) (C := Try.checked) false ⟨#[], #[.agg #[.slice none 0 0], .agg #[.string ByteArray.empty, .int .i64 0, .string ByteArray.empty, .int .i64 0]], []⟩ 8 (by kernel_rfl) (by kernel_rfl) (by kernel_rfl) (by kernel_rfl)) ?_
  intro W base args ds gs before hval0 hW hcnd _
  have hval : ∀ (j : Nat) t v, Try.f8.params[j]? = some t → args[j]? = some v → Value.okWide Try.prog W .any base t v := hval0
  have hW' := hW
  obtain ⟨p, q, hA0, hV, rfl, hfz, hnd⟩ := hW
  have hA : DataW.TrodAll enc Try.prog W 0 (fun _ => true) true Try.f8.params.toList args.toList ds p := hA0
  rw [Try.params8] at hA hval
  obtain ⟨v0, vs0, d0, ds0, p0, q0, hargs, rfl, rfl, h0, r0⟩ := trodAll_cons hA
  obtain ⟨v1, vs1, d1, ds1, p1, q1, rfl, rfl, rfl, h1, r1⟩ := trodAll_cons r0
  obtain ⟨rfl, rfl, rfl⟩ := trodAll_nil r1
  obtain rfl : args = #[v0, v1] := by cases args; simp_all
  obtain ⟨rfl, rfl⟩ := trodVars_none hV
  have lt0 : ∀ x ∈ p0, x.block < W.heap.size := by obtain ⟨m, hm⟩ := h0; exact DataW.trod_lt m _ _ _ hm
  have w0 : kDb_in W v0 := open_kDb_in (hval 0 81 v0 rfl rfl) h0
  have lt1 : ∀ x ∈ p1, x.block < W.heap.size := by obtain ⟨m, hm⟩ := h1; exact DataW.trod_lt m _ _ _ hm
  have w1 : kIn_in W v1 := open_kIn_in (hval 1 83 v1 rfl rfl) h1
  clear hA0 hval0
  refine (walk_FnExactInclusionHolds v0 v1 W w0 w1).mono fun e W' ⟨he, bel⟩ => ?_
  subst he
  exact ⟨_, rfl, _, _, _, [], _, [], hW', trodAll_mk1 (shut_bool Try.underlying4 _), (trodAll_cons_mk (Below.trod laid_out (by kernel_rfl) (of_decide_eq_true (by kernel_rfl)) h0 bel lt0) (trodAll_cons_mk (Below.trod laid_out (by kernel_rfl) (of_decide_eq_true (by kernel_rfl)) h1 bel lt1) trodAll_mk0)), rfl, bel.frame _, fun h => by cases h⟩

theorem and_mk {a b : Bool} (ha : a = true) (hb : b = true) : (a && b) = true := by rw [ha, hb]; rfl

set_option maxHeartbeats 20000000 in
theorem closed : joinedFacts Try.pinned.checked.prog 8 Try.f8 Rows.fnExactInclusionHoldsSpec Rows.fnExactInclusionHoldsRow = true := by
  unfold joinedFacts
  repeat' (with_reducible apply and_mk)
  all_goals (as_aux_lemma => kernel_rfl)

theorem over : Rows.fnExactInclusionHoldsRow.holds Try.pinned (OpenSpec.ofChange Rows.fnExactInclusionHoldsSpec) :=
  OpenClaim.holds_of_wide 8 Try.f8 rfl rfl rfl rfl rfl rfl rfl ⟨rfl, rfl, rfl, rfl, rfl⟩ rfl rfl rfl rfl rfl (by kernel_rfl) Try.func8 closed
    (of_decide_eq_true (by kernel_rfl)) (by unfold Func.isWrapper; first | (rw [if_pos (by decide +kernel)]; kernel_rfl) | (rw [if_neg (by decide +kernel)]; exact ⟨rfl, rfl⟩))
    (fun os started H enc _ => lifted os started H enc)

/-- The statement. -/
theorem proved : Rows.FnExactInclusionHoldsSaid := over
#print axioms proved
end Go.Proofs.Ytbkoddikfpkocaa.fnExactInclusionHolds
