/- Texts joined for one claim: KA, KDp, KII, KIn, KAn, KAs, KDl, KT, RowB, Canon, KQ, KTl, MarkG, ValidAn, ValidT, ColsOk, Eqs, KDb, MDp, MTl, Sel, ValidQ, MaskP, ValidQI, ValidQS, CloP, MaskC, MaskV, MaskI, CloI, CloS. -/
import Derived.Test.YtpgfkjcekhifiaaGreatDoorQe58ef1fdfa
import Derived.Test.YtpgfkjcekhifiaaGreatDoorQ172172a568
import Derived.Test.YtpgfkjcekhifiaaGreatDoorQ4832205da8
import Derived.Deep.RegionHeld3

namespace Go.Proofs.YtpgfkjcekhifiaaGreatDoor

open Go.RowKit

set_option linter.unusedVariables false

set_option linter.unusedSimpArgs false

set_option synthInstance.maxSize 2000

set_option synthInstance.maxHeartbeats 400000

abbrev DA := ByteArray × List Int

def oA : OS DA := O.pair O.str oI

end Go.Proofs.YtpgfkjcekhifiaaGreatDoor

namespace Go.Proofs.YtpgfkjcekhifiaaGreatDoor

open Go.RowKit

set_option linter.unusedVariables false

set_option linter.unusedSimpArgs false

set_option synthInstance.maxSize 2000

set_option synthInstance.maxHeartbeats 400000

abbrev DDp := ByteArray × (List Int) × Int

def rDp : RS DDp := R.pair R.str (R.pair rI R.int)

def oDp : OS DDp := O.pair O.str (O.pair oI O.int)

theorem reads_Dp : Reads oDp rDp := Reads.pair Reads.str (Reads.pair reads_I Reads.int)

theorem rDp_open {w : World} {cs : List Value} {x : DDp} (h : rDp.rep w cs x) : ∃ ub1 un1 uc1, cs = [.string x.1, .slice ub1 un1 uc1, .int .i64 x.2.2] ∧ x.1.size ≤ 9223372036854775807 ∧ rI.rep w [.slice ub1 un1 uc1] x.2.1 ∧ I64 x.2.2 := by
  obtain ⟨c0a, c0b, rfl, ⟨rfl, hs0⟩, ⟨c1a, c1b, rfl, hr1, ⟨rfl, hi2⟩⟩⟩ := h
  obtain ⟨ub1, un1, uc1, rfl⟩ := rI_form hr1
  exact ⟨_, _, _, rfl, hs0, hr1, hi2⟩

theorem rDp_form {w : World} {cs : List Value} {x : DDp} (h : rDp.rep w cs x) : ∃ ub1 un1 uc1, cs = [.string x.1, .slice ub1 un1 uc1, .int .i64 x.2.2] := by
  obtain ⟨ub1, un1, uc1, h1, _⟩ := rDp_open h
  exact ⟨_, _, _, h1⟩

theorem rDp_mk {w : World} {ub1 : Option Addr} {un1 uc1 : Nat} {x : DDp} (h0 : x.1.size ≤ 9223372036854775807) (h1 : rI.rep w [.slice ub1 un1 uc1] x.2.1) (h2 : I64 x.2.2) : rDp.rep w [.string x.1, .slice ub1 un1 uc1, .int .i64 x.2.2] x :=
  ⟨[.string x.1], [.slice ub1 un1 uc1, .int .i64 x.2.2], rfl, ⟨rfl, h0⟩, ⟨[.slice ub1 un1 uc1], [.int .i64 x.2.2], rfl, h1, ⟨rfl, h2⟩⟩⟩

theorem oDp_form {lo hi : Nat} {w : World} {cs : List Value} {x : DDp} (h : Own oDp lo hi w cs x) : ∃ ub1 un1 uc1, cs = [.string x.1, .slice ub1 un1 uc1, .int .i64 x.2.2] := rDp_form (h.rd reads_Dp)

theorem oDp_mk {lo hi l1 m1 : Nat} {w : World} {ub1 : Option Addr} {un1 uc1 : Nat} {x : DDp} (hs0 : x.1.size ≤ 9223372036854775807) (ho1 : Own oI l1 m1 w [.slice ub1 un1 uc1] x.2.1) (hi2 : I64 x.2.2) (a1 : lo ≤ l1) (b1 : m1 ≤ hi)  : Own oDp lo hi w [.string x.1, .slice ub1 un1 uc1, .int .i64 x.2.2] x := by
  obtain ⟨f1, r1, n1, q1⟩ := ho1
  refine ⟨([] ++ (f1 ++ [])), ⟨[.string x.1], [.slice ub1 un1 uc1, .int .i64 x.2.2], [], (f1 ++ []), rfl, rfl, ⟨rfl, hs0, rfl⟩, ⟨[.slice ub1 un1 uc1], [.int .i64 x.2.2], f1, [], rfl, rfl, r1, ⟨rfl, hi2, rfl⟩⟩⟩, ?_, ?_⟩
  · try simp only [List.nil_append, List.append_nil]
    exact n1
  · intro p hp
    try simp only [List.nil_append, List.append_nil, List.mem_append] at hp
    have := q1 p hp; omega

def bulk_Dp (x : DDp) : Nat := (x.1.size) + (bulk_I x.2.1)

end Go.Proofs.YtpgfkjcekhifiaaGreatDoor

namespace Go.Proofs.YtpgfkjcekhifiaaGreatDoor

open Go.RowKit

set_option linter.unusedVariables false

set_option linter.unusedSimpArgs false

set_option synthInstance.maxSize 2000

set_option synthInstance.maxHeartbeats 400000

theorem rII_form {w : World} {cs : List Value} {xs : List (List Int)} (h : rII.rep w cs xs) : ∃ b n c, cs = [.slice b n c] := rS_form h

theorem oII_form1 {lo hi : Nat} {w : World} {v : Value} {xs : List (List Int)} (h : Own oII lo hi w [v] xs) : ∃ b n c, v = .slice b n c := oS_form1 reads_I h

def bulk_II (xs : List (List Int)) : Nat := xs.length + sumBy bulk_I xs

end Go.Proofs.YtpgfkjcekhifiaaGreatDoor







namespace Go.Proofs.YtpgfkjcekhifiaaGreatDoor

open Go.RowKit

set_option linter.unusedVariables false

set_option linter.unusedSimpArgs false

set_option synthInstance.maxSize 2000

set_option synthInstance.maxHeartbeats 400000

def rDl : RS (List DDp) := R.slice rDp

def oDl : OS (List DDp) := O.slice 29 oDp

theorem reads_Dl : Reads oDl rDl := Reads.slice _ reads_Dp

def bulk_Dl (xs : List DDp) : Nat := xs.length + sumBy bulk_Dp xs

end Go.Proofs.YtpgfkjcekhifiaaGreatDoor

namespace Go.Proofs.YtpgfkjcekhifiaaGreatDoor

open Go.RowKit

set_option linter.unusedVariables false

set_option linter.unusedSimpArgs false

set_option synthInstance.maxSize 2000

set_option synthInstance.maxHeartbeats 400000

abbrev DT := ByteArray × Int × List (List Int)

def rT : RS DT := R.pair R.str (R.pair R.int rII)

def oT : OS DT := O.pair O.str (O.pair O.int oII)

theorem reads_T : Reads oT rT := Reads.pair Reads.str (Reads.pair Reads.int reads_II)

theorem rT_open {w : World} {cs : List Value} {x : DT} (h : rT.rep w cs x) : ∃ ub2 un2 uc2, cs = [.string x.1, .int .i64 x.2.1, .slice ub2 un2 uc2] ∧ x.1.size ≤ 9223372036854775807 ∧ I64 x.2.1 ∧ rII.rep w [.slice ub2 un2 uc2] x.2.2 := by
  obtain ⟨c0a, c0b, rfl, ⟨rfl, hs0⟩, ⟨c1a, c1b, rfl, ⟨rfl, hi1⟩, hr2⟩⟩ := h
  obtain ⟨ub2, un2, uc2, rfl⟩ := rII_form hr2
  exact ⟨_, _, _, rfl, hs0, hi1, hr2⟩

theorem rT_form {w : World} {cs : List Value} {x : DT} (h : rT.rep w cs x) : ∃ ub2 un2 uc2, cs = [.string x.1, .int .i64 x.2.1, .slice ub2 un2 uc2] := by
  obtain ⟨ub2, un2, uc2, h1, _⟩ := rT_open h
  exact ⟨_, _, _, h1⟩

theorem oT_form {lo hi : Nat} {w : World} {cs : List Value} {x : DT} (h : Own oT lo hi w cs x) : ∃ ub2 un2 uc2, cs = [.string x.1, .int .i64 x.2.1, .slice ub2 un2 uc2] := rT_form (h.rd reads_T)

theorem oT_mk {lo hi l2 m2 : Nat} {w : World} {ub2 : Option Addr} {un2 uc2 : Nat} {x : DT} (hs0 : x.1.size ≤ 9223372036854775807) (hi1 : I64 x.2.1) (ho2 : Own oII l2 m2 w [.slice ub2 un2 uc2] x.2.2) (a2 : lo ≤ l2) (b2 : m2 ≤ hi)  : Own oT lo hi w [.string x.1, .int .i64 x.2.1, .slice ub2 un2 uc2] x := by
  obtain ⟨f2, r2, n2, q2⟩ := ho2
  refine ⟨([] ++ ([] ++ f2)), ⟨[.string x.1], [.int .i64 x.2.1, .slice ub2 un2 uc2], [], ([] ++ f2), rfl, rfl, ⟨rfl, hs0, rfl⟩, ⟨[.int .i64 x.2.1], [.slice ub2 un2 uc2], [], f2, rfl, rfl, ⟨rfl, hi1, rfl⟩, r2⟩⟩, ?_, ?_⟩
  · try simp only [List.nil_append, List.append_nil]
    exact n2
  · intro p hp
    try simp only [List.nil_append, List.append_nil, List.mem_append] at hp
    have := q2 p hp; omega

def bulk_T (x : DT) : Nat := (x.1.size) + (bulk_II x.2.2)

end Go.Proofs.YtpgfkjcekhifiaaGreatDoor

namespace Go.Proofs.YtpgfkjcekhifiaaGreatDoor

open Go.RowKit

set_option linter.unusedVariables false

set_option linter.unusedSimpArgs false

def rowB (row : List Int) (n : Int) : Bool := row.all (fun v => betw v 0 9) && decide ((row.length : Int) = n)

def rowsB (n : Int) (rows : List (List Int)) : Bool := rows.all (fun r => rowB r n)

def ascB : List (List Int) → Bool
  | a :: b :: t => decide (cmpRows a b < 0) && ascB (b :: t)
  | _ => true

theorem all_at {p : Int → Bool} {xs : List Int} {j : Nat} {x : Int} (hj : j < xs.length) (hx : xs.getD j 0 = x) : (xs.drop j).all p = (p x && (xs.drop (j + 1)).all p) := by
  rw [drop_cons xs j hj, hx]; rfl

theorem all_end {p : Int → Bool} {xs : List Int} {j : Nat} (hj : xs.length ≤ j) : (xs.drop j).all p = true := by
  rw [List.drop_eq_nil_of_le hj]; rfl

theorem drop_at {α : Type} {xs : List α} {j : Nat} {x : α} (h : xs[j]? = some x) : xs.drop j = x :: xs.drop (j + 1) := by
  obtain ⟨h1, rfl⟩ := List.getElem?_eq_some_iff.1 h
  exact List.drop_eq_getElem_cons h1

theorem rowsB_at {n : Int} {rows : List (List Int)} {j : Nat} {r : List Int} (h : rows[j]? = some r) : rowsB n (rows.drop j) = (rowB r n && rowsB n (rows.drop (j + 1))) := by
  rw [drop_at h]; rfl

theorem rowsB_end {n : Int} {rows : List (List Int)} {j : Nat} (hj : rows.length ≤ j) : rowsB n (rows.drop j) = true := by
  rw [List.drop_eq_nil_of_le hj]; rfl

theorem ascB_at {rows : List (List Int)} {j : Nat} {r s : List Int} (h : rows[j]? = some r) (h' : rows[j + 1]? = some s) : ascB (rows.drop j) = (decide (cmpRows r s < 0) && ascB (rows.drop (j + 1))) := by
  rw [drop_at h, drop_at h']; rfl

theorem ascB_end {rows : List (List Int)} {j : Nat} (hj : rows.length ≤ j + 1) : ascB (rows.drop j) = true := by
  have : (rows.drop j).length ≤ 1 := by rw [List.length_drop]; omega
  match h : rows.drop j, this with
  | [], _ => rfl
  | [a], _ => rfl

theorem rowB_no {row : List Int} {n : Int} {j : Nat} (h : rowB row n = ((row.drop j).all (fun v => betw v 0 9) && decide ((row.length : Int) = n))) {x : Int} (hj : j < row.length) (hx : row.getD j 0 = x) (hb : betw x 0 9 = false) : rowB row n = false := by
  rw [h, all_at hj hx, hb]; rfl

set_option maxHeartbeats 400000 in
theorem rowOk_any (a : Option Addr) (n cap : Nat) (xs : List Int) (m : Int) (w : World) (h : Ints w a n xs) :
    Calls Tryz.prog 81 #[.slice a n cap, .int .i64 m] w fun e w' => e = .returned (.bool (rowB xs m)) ∧ w = w' := by
  have hn := h.small
  have hl := h.len
  go_enter Tryz.func81, Tryz.ntmps81
  go_wp2
  go_loop [9] (fun k => ∃ j : Nat, j ≤ n ∧ k = .int .i64 j ∧ Hid (rowB xs m = ((xs.drop j).all (fun v => betw v 0 9) && decide ((xs.length : Int) = m)))) (fun k => n - (intOf k).toNat)
  case atStart => exact ⟨0, Nat.zero_le _, rfl, by simp [Hid, rowB]⟩
  case round =>
    obtain ⟨j, hj, rfl, hE⟩ := hrel
    by_cases hlt : j < n
    · obtain ⟨b, off, x, rfl, hc, hx, _, _⟩ := h.get hlt
      by_cases hb : betw x 0 9 = true
      · have HE := Lib.hid (hE.out.trans (show _ = ((xs.drop (j + 1)).all (fun v => betw v 0 9) && decide ((xs.length : Int) = m)) by rw [all_at (by omega) hx.out, hb, Bool.true_and]))
        clear h hl
        go_wp2_with fail
        refine (within_any _ _ _ _).mono ?_
        rintro e w' ⟨rfl, rfl⟩
        go_wp2_with fail
        go_round
        case rel => exact ⟨j + 1, by omega, by go_num, HE.out⟩
        case measure => simp [intOf]; omega
      · replace hb : betw x 0 9 = false := by simpa using hb
        have HE := Lib.hid (rowB_no hE.out (by omega) hx.out hb)
        clear h hl
        go_wp2_with fail
        refine (within_any _ _ _ _).mono ?_
        rintro e w' ⟨rfl, rfl⟩
        go_wp2_with fail
        go_ret
        exact ⟨ret_bool HE.out.symm, rfl⟩
    · have HE := Lib.hid (show decide ((n : Int) = m) = rowB xs m by rw [hE.out, all_end (by omega), hl, Bool.true_and])
      clear h hl
      go_wp2_with fail
      go_ret
      exact ⟨ret_bool (by rw [← HE.out]; rfl), rfl⟩

set_option maxHeartbeats 400000 in
theorem l4Row_any (a : Option Addr) (n cap : Nat) (xs : List Int) (m : Int) (w : World) (h : Ints w a n xs) :
    Calls Tryz.prog 64 #[.slice a n cap, .int .i64 m] w fun e w' => e = .returned (.bool (rowB xs m)) ∧ w = w' := by
  have hn := h.small
  have hl := h.len
  go_enter Tryz.func64, Tryz.ntmps64
  go_wp2
  go_loop [5] (fun k => ∃ j : Nat, j ≤ n ∧ k = .int .i64 j ∧ Hid (rowB xs m = ((xs.drop j).all (fun v => betw v 0 9) && decide ((xs.length : Int) = m)))) (fun k => n - (intOf k).toNat)
  case atStart => exact ⟨0, Nat.zero_le _, rfl, by simp [Hid, rowB]⟩
  case round =>
    obtain ⟨j, hj, rfl, hE⟩ := hrel
    by_cases hlt : j < n
    · obtain ⟨b, off, x, rfl, hc, hx, _, _⟩ := h.get hlt
      by_cases hb : betw x 0 9 = true
      · have HE := Lib.hid (hE.out.trans (show _ = ((xs.drop (j + 1)).all (fun v => betw v 0 9) && decide ((xs.length : Int) = m)) by rw [all_at (by omega) hx.out, hb, Bool.true_and]))
        clear h hl
        go_wp2_with fail
        refine (l1In_any _ _ _ _).mono ?_
        rintro e w' ⟨rfl, rfl⟩
        go_wp2_with fail
        go_round
        case rel => exact ⟨j + 1, by omega, by go_num, HE.out⟩
        case measure => simp [intOf]; omega
      · replace hb : betw x 0 9 = false := by simpa using hb
        have HE := Lib.hid (rowB_no hE.out (by omega) hx.out hb)
        clear h hl
        go_wp2_with fail
        refine (l1In_any _ _ _ _).mono ?_
        rintro e w' ⟨rfl, rfl⟩
        go_wp2_with fail
        go_ret
        exact ⟨ret_bool HE.out.symm, rfl⟩
    · have HE := Lib.hid (show decide ((n : Int) = m) = rowB xs m by rw [hE.out, all_end (by omega), hl, Bool.true_and])
      clear h hl
      go_wp2_with fail
      go_ret
      exact ⟨ret_bool (by rw [← HE.out]; rfl), rfl⟩

theorem isNaN_any (x : Int) (w : World) :
    Calls Tryz.prog 113 #[.int .i64 x] w fun e w' => e = .returned (.bool false) ∧ w = w' := by
  go_enter Tryz.func113, Tryz.ntmps113
  go_wp2
  go_ret
  exact ⟨rfl, rfl⟩

def cmpI (x y : Int) : Int := if x < y then -1 else if y < x then 1 else 0

theorem cmpI_any (x y : Int) (w : World) :
    Calls Tryz.prog 121 #[.int .i64 x, .int .i64 y] w fun e w' => e = .returned (.int .i64 (cmpI x y)) ∧ w = w' := by
  have HE1 := Lib.hid (show x < y → cmpI x y = -1 from fun h => by simp [cmpI, h])
  have HE2 := Lib.hid (show y < x → cmpI x y = 1 from fun h => by simp only [cmpI]; rw [if_neg (by omega), if_pos h])
  have HE3 := Lib.hid (show ¬ x < y → ¬ y < x → cmpI x y = 0 from fun h h' => by simp [cmpI, h, h'])
  go_enter Tryz.func121, Tryz.ntmps121
  go_wp2_with fail
  refine (isNaN_any _ _).mono ?_
  rintro e w' ⟨rfl, rfl⟩
  go_wp2_with fail
  refine (isNaN_any _ _).mono ?_
  rintro e w' ⟨rfl, rfl⟩
  by_cases h1 : x < y
  · go_wp2_with fail
    go_ret
    exact ⟨ret_int (HE1.out (by omega)).symm, rfl⟩
  · by_cases h2 : y < x
    · go_wp2_with fail
      go_ret
      exact ⟨ret_int (HE2.out (by omega)).symm, rfl⟩
    · go_wp2_with fail
      go_ret
      exact ⟨ret_int (HE3.out (by omega) (by omega)).symm, rfl⟩

set_option maxHeartbeats 800000 in
theorem compare_any (a b : Option Addr) (n m cap cap' : Nat) (xs ys : List Int) (w : World) (h : Ints w a n xs) (h' : Ints w b m ys) :
    Calls Tryz.prog 114 #[.slice a n cap, .slice b m cap'] w fun e w' => e = .returned (.int .i64 (cmpRows xs ys)) ∧ w = w' := by
  have hn := h.small
  have hm := h'.small
  have hl := h.len
  have hl' := h'.len
  go_enter Tryz.func114, Tryz.ntmps114
  go_wp2
  go_loop [11] (fun i => ∃ j : Nat, j ≤ n ∧ j ≤ m ∧ i = .int .i64 j ∧ Hid (cmpRows xs ys = cmpRows (xs.drop j) (ys.drop j))) (fun i => n - (intOf i).toNat)
  case atStart => exact ⟨0, Nat.zero_le _, Nat.zero_le _, rfl, rfl⟩
  case round =>
    obtain ⟨j, hj, hjm, rfl, hE⟩ := hrel
    by_cases hlt : j < n
    · by_cases hlm : j < m
      · obtain ⟨b1, o1, x, rfl, hc1, hx, _, _⟩ := h.get hlt
        obtain ⟨b2, o2, y, rfl, hc2, hy, _, _⟩ := h'.get hlm
        have HD := Lib.hid (show cmpRows xs ys = cmpRows (x :: xs.drop (j + 1)) (y :: ys.drop (j + 1)) by rw [hE.out, h.drop hlt hx, h'.drop hlm hy])
        have hcall := cmpI_any x y w
        clear hl hl' h h'
        by_cases h1 : x < y
        · have HE := Lib.hid (HD.out.trans (cmp_lt h1))
          rw [show cmpI x y = -1 by simp [cmpI, h1]] at hcall
          have HC := Lib.hid hcall
          clear hcall h1
          go_wp2_with fail
          refine (HC.out).mono ?_
          rintro e w' ⟨rfl, rfl⟩
          go_wp2_with fail
          go_ret
          exact ⟨ret_int HE.out.symm, rfl⟩
        · by_cases h2 : y < x
          · have HE := Lib.hid (HD.out.trans (cmp_gt h2))
            rw [show cmpI x y = 1 by simp [cmpI, h1, h2]] at hcall
            have HC := Lib.hid hcall
            clear hcall h1 h2
            go_wp2_with fail
            refine (HC.out).mono ?_
            rintro e w' ⟨rfl, rfl⟩
            go_wp2_with fail
            go_ret
            exact ⟨ret_int HE.out.symm, rfl⟩
          · have HE := Lib.hid (HD.out.trans (cmp_eq (show x = y by omega)))
            rw [show cmpI x y = 0 by simp [cmpI, h1, h2]] at hcall
            have HC := Lib.hid hcall
            clear hcall h1 h2
            go_wp2_with fail
            refine (HC.out).mono ?_
            rintro e w' ⟨rfl, rfl⟩
            go_wp2_with fail
            go_round
            case rel => exact ⟨j + 1, by omega, by omega, by go_num, HE.out⟩
            case measure => simp [intOf]; omega
      · have HE := Lib.hid (show cmpRows xs ys = 1 by
          rw [hE.out, List.drop_of_length_le (l := ys) (by omega), drop_cons xs j (by omega)]; rfl)
        have hmn : m ≤ j := by omega
        obtain ⟨b1, o1, x, rfl, hc1, hx, _, _⟩ := h.get hlt
        clear hl hl' h h' hjm hlm
        go_wp2_with fail
        go_ret
        exact ⟨ret_int HE.out.symm, rfl⟩
    · obtain rfl : j = n := by omega
      by_cases hlm : j < m
      · have HE := Lib.hid (show cmpRows xs ys = -1 by
          rw [hE.out, List.drop_of_length_le (l := xs) (by omega), drop_cons ys j (by omega)]; rfl)
        clear hl hl' h h'
        go_wp2_with fail
        go_ret
        exact ⟨ret_int HE.out.symm, rfl⟩
      · have HE := Lib.hid (show cmpRows xs ys = 0 by
          rw [hE.out, List.drop_of_length_le (l := xs) (by omega), List.drop_of_length_le (l := ys) (by omega)]; rfl)
        clear hl hl' h h'
        go_wp2_with fail
        go_ret
        exact ⟨ret_int HE.out.symm, rfl⟩

theorem cmpRows_any (a b : Option Addr) (n m cap cap' : Nat) (xs ys : List Int) (w : World) (h : Ints w a n xs) (h' : Ints w b m ys) :
    Calls Tryz.prog 104 #[.slice a n cap, .slice b m cap'] w fun e w' => e = .returned (.int .i64 (cmpRows xs ys)) ∧ w = w' := by
  go_enter Tryz.func104, Tryz.ntmps104
  go_wp2_with fail
  refine (compare_any _ _ _ _ _ _ _ _ _ h h').mono ?_
  rintro e w' ⟨rfl, rfl⟩
  go_wp2_with fail
  go_ret
  exact ⟨rfl, rfl⟩

set_option maxHeartbeats 800000 in
theorem ascending_any (a : Option Addr) (n cap : Nat) (xss : List (List Int)) (w : World) (h : Sl rI w a n xss) :
    Calls Tryz.prog 82 #[.slice a n cap] w fun e w' => e = .returned (.bool (ascB xss)) ∧ Drew w w' := by
  have hn := h.small
  have hl := h.len
  go_enter Tryz.func82, Tryz.ntmps82
  go_wp2
  go_loopw [3] (fun k wr => ∃ j : Nat, j ≤ n ∧ k = .int .i64 ((j : Int) + 1) ∧ Hid (ascB xss = ascB (xss.drop j)) ∧ Drew w wr) (fun k _ => n + 1 - (intOf k).toNat)
  case atStart => exact ⟨0, Nat.zero_le _, rfl, rfl, Drew.refl _⟩
  case round =>
    obtain ⟨j, hj, rfl, hE, hdr⟩ := hrel
    replace h := h.drew hdr
    by_cases hlt : j + 1 < n
    · obtain ⟨b1, o1, r1, m1, q1, x, rfl, hc1, hx, hi, _⟩ := h.row (show j < n by omega)
      obtain ⟨b2, o2, r2, m2, q2, y, hb2, hc2, hy, hi', _⟩ := h.row hlt
      simp at hb2
      obtain ⟨rfl, rfl⟩ := hb2
      have hcall := fun q => cmpRows_any r1 r2 m1 m2 q1 q2 x y (wr.drewN q) (hi.drewN q) (hi'.drewN q)
      obtain ⟨c, hc⟩ : ∃ c, c = cmpRows x y := ⟨_, rfl⟩
      rw [← hc] at hcall
      have HC := Lib.hid hcall
      have HA := Lib.hid (hE.out.trans (ascB_at hx.out hy.out))
      rw [← hc] at HA
      have e1 : ((j : Int) + 1 - 1) = (j : Int) := by omega
      have hk : ((j : Int) + 1) < (n : Int) := by omega
      have hc2' : wr.cell? ⟨b1, o1 + (j + 1), none⟩ = some (.slice r2 m2 q2) := hc2
      clear h hl hi hi' hcall hc hx hy hE
      by_cases h0 : c < 0
      · have HE := Lib.hid (show ascB xss = ascB (xss.drop (j + 1)) by rw [HA.out]; simp [h0])
        go_wp2_with fail
        go_quiet ((go_at_call 104; exact quiet_same (HC.out _)))
        go_wp2_with fail
        go_roundw
        case rel => exact ⟨j + 1, by omega, by go_num, HE.out, hdr.step _⟩
        case measure => simp [intOf]; omega
      · have HE := Lib.hid (show ascB xss = false by rw [HA.out]; simp [h0])
        go_wp2_with fail
        go_quiet ((go_at_call 104; exact quiet_same (HC.out _)))
        go_wp2_with fail
        go_ret
        exact ⟨ret_bool HE.out.symm, hdr.step _⟩
    · have HE := Lib.hid (hE.out.trans (ascB_end (by omega)))
      have hk : ¬ ((j : Int) + 1) < (n : Int) := by omega
      clear h hl hE
      go_wp2_with fail
      go_ret
      exact ⟨ret_bool HE.out.symm, hdr⟩

end Go.Proofs.YtpgfkjcekhifiaaGreatDoor

namespace Go.Proofs.YtpgfkjcekhifiaaGreatDoor

open Go.RowKit

set_option linter.unusedVariables false

set_option linter.unusedSimpArgs false

def putL (r : List Int) : Bool → List (List Int) → List (List Int)
  | put, [] => if put then [] else [r]
  | put, x :: t => if decide (0 < cmpRows x r) && !(put || decide (cmpRows x r = 0)) then r :: x :: putL r true t else x :: putL r (put || decide (cmpRows x r = 0)) t

theorem putL_true (r : List Int) : ∀ l, putL r true l = l
  | [] => rfl
  | x :: t => by simp [putL, putL_true r t]

theorem putL_mem (r : List Int) : ∀ {l : List (List Int)} {z : List Int}, z ∈ putL r false l ↔ z = r ∨ z ∈ l
  | [], z => by simp [putL]
  | x :: t, z => by
    have ih := @putL_mem r t z
    unfold putL
    by_cases h0 : cmpRows x r = 0
    · have := (cmpRows_zero x r).1 h0
      subst this
      simp [h0, putL_true]
    · by_cases h1 : 0 < cmpRows x r
      · simp [h0, h1, putL_true]
      · simp only [h0, h1, decide_false, Bool.false_and, Bool.or_self, Bool.false_eq_true, if_false, List.mem_cons, ih]
        constructor
        · rintro (h | h | h)
          · exact .inr (.inl h)
          · exact .inl h
          · exact .inr (.inr h)
        · rintro (h | h | h)
          · exact .inr (.inl h)
          · exact .inl h
          · exact .inr (.inr h)

theorem putL_len (r : List Int) : ∀ (b : Bool) (l : List (List Int)), (putL r b l).length ≤ l.length + 1
  | b, [] => by unfold putL; split <;> simp
  | b, x :: t => by
    unfold putL
    split
    · rw [putL_true]; simp
    · have := putL_len r (b || decide (cmpRows x r = 0)) t
      simp only [List.length_cons]; omega

end Go.Proofs.YtpgfkjcekhifiaaGreatDoor

namespace Go.Proofs.YtpgfkjcekhifiaaGreatDoor

open Go.RowKit

set_option linter.unusedVariables false

set_option linter.unusedSimpArgs false

set_option synthInstance.maxSize 2000

set_option synthInstance.maxHeartbeats 400000

abbrev DQ := Int × List DA

end Go.Proofs.YtpgfkjcekhifiaaGreatDoor

namespace Go.Proofs.YtpgfkjcekhifiaaGreatDoor

open Go.RowKit

set_option linter.unusedVariables false

set_option linter.unusedSimpArgs false

set_option synthInstance.maxSize 2000

set_option synthInstance.maxHeartbeats 400000

def rTl : RS (List DT) := R.slice rT

def oTl : OS (List DT) := O.slice 41 oT

theorem reads_Tl : Reads oTl rTl := Reads.slice _ reads_T

theorem rTl_form {w : World} {cs : List Value} {xs : List DT} (h : rTl.rep w cs xs) : ∃ b n c, cs = [.slice b n c] := rS_form h

theorem oTl_form1 {lo hi : Nat} {w : World} {v : Value} {xs : List DT} (h : Own oTl lo hi w [v] xs) : ∃ b n c, v = .slice b n c := oS_form1 reads_T h

end Go.Proofs.YtpgfkjcekhifiaaGreatDoor

namespace Go.Proofs.YtpgfkjcekhifiaaGreatDoor

open Go.RowKit

set_option linter.unusedVariables false

set_option linter.unusedSimpArgs false

structure Alt (fp : List Nat) (w w' : World) : Prop where
  os : w'.os = w.os
  tape : w'.tape = w.tape
  output : w'.output = w.output
  size : w.heap.size ≤ w'.heap.size
  block : ∀ k, k < w.heap.size → k ∉ fp → w'.heap[k]? = w.heap[k]?

theorem Alt.refl (fp : List Nat) (w : World) : Alt fp w w := ⟨rfl, rfl, rfl, Nat.le_refl _, fun _ _ _ => rfl⟩

theorem Alt.trans {fp : List Nat} {a b c : World} (h : Alt fp a b) (k : Alt fp b c) : Alt fp a c :=
  ⟨k.os.trans h.os, k.tape.trans h.tape, k.output.trans h.output, Nat.le_trans h.size k.size, fun i hi hn => (k.block i (Nat.lt_of_lt_of_le hi h.size) hn).trans (h.block i hi hn)⟩

theorem Alt.mono {fp fq : List Nat} {w w' : World} (h : Alt fp w w') (hs : ∀ k ∈ fp, k ∈ fq) : Alt fq w w' :=
  ⟨h.os, h.tape, h.output, h.size, fun k hk hn => h.block k hk (fun hm => hn (hs k hm))⟩

theorem Alt.only {fp : List Nat} {w w' : World} (h : Only fp w w') : Alt fp w w' := ⟨h.os, h.tape, h.output, by rw [h.size]; exact Nat.le_refl _, fun k _ hn => h.block k hn⟩

theorem Alt.below {fp : List Nat} {w w' : World} (h : Below w.heap.size w w') : Alt fp w w' := ⟨h.os, h.tape, h.output, h.size, fun k hk _ => h.block k hk⟩

theorem Alt.set {fp : List Nat} {w : World} {p : Addr} (hp : p.block ∈ fp) (u : Value) : Alt fp w (w.setCell p u) :=
  ⟨rfl, rfl, rfl, by simp [World.setCell], fun k hk hn => Below.heap_setCell _ _ _ _ (fun e => hn (e ▸ hp))⟩

theorem Alt.turn {fp : List Nat} {lo hi : Nat} {w w' : World} (h : Alt fp w w') (hk : ∀ k ∈ fp, lo ≤ k ∧ k < hi) : Turn lo hi w w' :=
  ⟨h.os, h.tape, h.output, h.size, fun k h1 h2 => h.block k h1 (fun hm => by have := hk k hm; omega)⟩

theorem oS_len {α : Type} {t : TypeId} {o : OS α} {w : World} {cs : List Value} {xs : List α} {fp : List Nat} (h : (O.slice t o).rep w cs xs fp) : ∃ a cap, cs = [.slice a xs.length cap] := by
  obtain ⟨v, css, fps, rfl, _, h1, _⟩ := h
  obtain ⟨a, cap, rfl, _⟩ := own_form h1
  exact ⟨a, cap, rfl⟩

theorem at_cell {w : World} {g p : Nat} {pre c post : List Value} {E : TypeId} (h : w.heap[g]? = some (.cells (pre ++ (c ++ post)).toArray E)) (hp : pre.length = p) {j : Nat} {u : Value} (hu : c[j]? = some u) : w.cell? ⟨g, p + j, none⟩ = some u := by
  have hj := (List.getElem?_eq_some_iff.1 hu).1
  simp only [World.cell?, h]
  simp only [Option.isSome_none, Bool.false_eq_true, if_false]
  rw [List.getElem?_toArray, List.getElem?_append_right (by omega), List.getElem?_append_left (by omega), show p + j - pre.length = j by omega]
  exact hu

theorem at_frozen {w : World} {g : Nat} {cs : Array Value} {E : TypeId} (h : w.heap[g]? = some (.cells cs E)) (i : Nat) : w.frozen? ⟨g, i, none⟩ = false := by simp [World.frozen?, h]

theorem at_set {w : World} {g p : Nat} {pre c post : List Value} {E : TypeId} (h : w.heap[g]? = some (.cells (pre ++ (c ++ post)).toArray E)) (hp : pre.length = p) {j : Nat} (hj : j < c.length) (u : Value) : (w.setCell ⟨g, p + j, none⟩ u).heap[g]? = some (.cells (pre ++ (c.set j u ++ post)).toArray E) := by
  rw [heap_setCell_same w g _ _ E u h]
  congr 2
  apply Array.ext'
  simp only [Array.toList_setIfInBounds]
  rw [List.set_append_right _ _ (by omega), List.set_append_left _ _ (by omega), show p + j - pre.length = j by omega]

end Go.Proofs.YtpgfkjcekhifiaaGreatDoor

namespace Go.Proofs.YtpgfkjcekhifiaaGreatDoor

open Go.RowKit

set_option linter.unusedVariables false

set_option linter.unusedSimpArgs false

set_option synthInstance.maxSize 2000

set_option synthInstance.maxHeartbeats 400000

def colsFrom (n p : Int) : List Int → Bool
  | [] => true
  | v :: t => betw v 0 (n - 1) && decide (p < v) && colsFrom n v t

def colsB (n : Int) (xs : List Int) : Bool := colsFrom n (-1) xs

theorem cols_at {n p : Int} {xs : List Int} {j : Nat} {x : Int} (hj : j < xs.length) (hx : xs.getD j 0 = x) : colsFrom n p (xs.drop j) = (betw x 0 (n - 1) && decide (p < x) && colsFrom n x (xs.drop (j + 1))) := by
  rw [drop_cons xs j hj, hx]; rfl

theorem cols_end {n p : Int} {xs : List Int} {j : Nat} (hj : xs.length ≤ j) : colsFrom n p (xs.drop j) = true := by
  rw [List.drop_eq_nil_of_le hj]; rfl

theorem betw_pos {x n : Int} (h : betw x 0 n = true) : 0 ≤ x := by
  simp only [betw, Bool.and_eq_true, decide_eq_true_eq] at h; omega

def prevOf (xs : List Int) : Nat → Int
  | 0 => -1
  | j + 1 => xs.getD j 0

end Go.Proofs.YtpgfkjcekhifiaaGreatDoor

namespace Go.Proofs.YtpgfkjcekhifiaaGreatDoor

open Go.RowKit

set_option linter.unusedVariables false

set_option linter.unusedSimpArgs false

set_option synthInstance.maxSize 2000

set_option synthInstance.maxHeartbeats 400000

def validT (t : DT) : Bool := nameB t.1 && (betw t.2.1 1 3 && (decide (t.2.2.length ≤ 8) && (rowsB t.2.1 t.2.2 && ascB t.2.2)))

theorem validT_rows {t : DT} (h : rowsB t.2.1 t.2.2 = false) : validT t = false := by simp [validT, h]

theorem validT_rest {t : DT} (h : rowsB t.2.1 t.2.2 = true) : validT t = (nameB t.1 && (betw t.2.1 1 3 && (decide (t.2.2.length ≤ 8) && ascB t.2.2))) := by simp [validT, h]

set_option maxHeartbeats 2000000 in
theorem validT_impl (cs : List Value) (x : DT) (w : World) (h : rT.rep w cs x) :
    Calls Tryz.prog 49 #[.agg cs.toArray] w fun e w' => e = .returned (.bool (validT x)) ∧ Below w.heap.size w w' := by
  obtain ⟨ub, un, uc, rfl, hs, hi, g1⟩ := rT_open h
  clear h
  obtain ⟨s, i, rows⟩ := x
  simp only at hs hi g1
  have t1 := rS_sl g1
  have hl1 := t1.len
  have hn1 := t1.small
  have HV := Lib.hid (show rowsB i rows = rowsB i (rows.drop 0) by simp)
  have hb0 : Below w.heap.size w w := Below.refl _ _
  go_enter Tryz.func49, Tryz.ntmps49
  obtain ⟨w1, hw1⟩ : ∃ W, W = w.alloc (.cells #[.string s, .int .i64 i, .slice ub un uc] 41) := ⟨_, rfl⟩
  have z1 : Below w.heap.size w w1 := by rw [hw1]; exact (Below.refl _ _).alloc (Nat.le_refl _) _
  have s1 : w1.heap.size = w.heap.size + 1 := by rw [hw1]; simp
  have hb1 := on hb0 z1
  have b_0 : w1.cell? ⟨w.heap.size, 0, none⟩ = some (.string s) := by rw [hw1]; exact box_cell (Below.refl _ _) rfl
  have b_1 : w1.cell? ⟨w.heap.size, 1, none⟩ = some (.int .i64 i) := by rw [hw1]; exact box_cell (Below.refl _ _) rfl
  have b_2 : w1.cell? ⟨w.heap.size, 2, none⟩ = some (.slice ub un uc) := by rw [hw1]; exact box_cell (Below.refl _ _) rfl
  have raw1_b_0 := b_0
  have raw1_b_1 := b_1
  have raw1_b_2 := b_2
  rw [hw1] at raw1_b_0 raw1_b_1 raw1_b_2
  go_wp2_with fail
  rw [← hw1]
  clear hw1
  clear raw1_b_0 raw1_b_1 raw1_b_2
  go_loopw [8] (fun k wr => ∃ j : Nat, j ≤ un ∧ k = .int .i64 j ∧ Hid (rowsB i rows = rowsB i (rows.drop j)) ∧ w1 = wr) (fun k _ => un - (intOf k).toNat)
  case atStart => exact ⟨0, Nat.zero_le _, rfl, HV.out, rfl⟩
  case round =>
    obtain ⟨j, hj, rfl, hE, rfl⟩ := hrel
    by_cases hlt : j < un
    · obtain ⟨b0, o0, r1, m1, q1, y, rfl, hc, hx, hi9, _⟩ := t1.row hlt
      have hclt : b0 < w.heap.size := cell_lt hc
      have c0 : w1.cell? ⟨b0, o0 + j, none⟩ = some (.slice r1 m1 q1) := (hb1.cell (p := ⟨b0, o0 + j, none⟩) hclt).trans hc
      have hcall := rowOk_any r1 m1 q1 y i _ (hi9.below hb1)
      obtain ⟨t, ht⟩ : ∃ t, t = rowB y i := ⟨_, rfl⟩
      rw [← ht] at hcall
      have HC := Lib.hid hcall
      have HA := Lib.hid (hE.out.trans (by rw [rowsB_at hx.out, ← ht]))
      clear t1 hl1 hx hcall ht hE HV hi9 hc
      go_wp2_with fail
      refine (HC.out).mono ?_
      rintro e w' ⟨rfl, rfl⟩
      cases t with
      | true =>
        have HE := Lib.hid (show rowsB i rows = rowsB i (rows.drop (j + 1)) by rw [HA.out]; simp)
        go_wp2_with fail
        go_roundw
        case rel => exact ⟨j + 1, by omega, by go_num, HE.out, trivial⟩
        case measure => simp [intOf]; omega
      | false =>
        have HE := Lib.hid (show validT (s, i, rows) = false from validT_rows (by rw [HA.out]; simp))
        go_wp2_with fail
        go_ret
        exact ⟨ret_bool HE.out.symm, hb1⟩
    · have HE : Hid (validT (s, i, rows) = (nameB s && (betw i 1 3 && (decide ((un : Int) ≤ 8) && ascB rows)))) := Lib.hid (by
        rw [validT_rest (show rowsB i rows = true by rw [hE.out, rowsB_end (by omega)])]
        simp only [hl1]
        congr 3
        rw [Bool.eq_iff_iff]; simp only [decide_eq_true_eq]; omega)
      have t2 := t1.below hb1
      clear hE HV hl1 t1
      go_wp2_with fail
      refine (nameOk_any _ _ hs).mono ?_
      rintro e w' ⟨rfl, rfl⟩
      obtain ⟨c1, hc1⟩ : ∃ c, c = nameB s := ⟨_, rfl⟩
      rw [← hc1] at HE ⊢
      clear hc1
      cases c1 with
      | false =>
        clear t2
        go_wp2_with fail
        go_ret
        exact ⟨ret_bool (by rw [HE.out]; rfl), hb1⟩
      | true =>
        go_wp2_with fail
        refine (within_any _ _ _ _).mono ?_
        rintro e w' ⟨rfl, rfl⟩
        obtain ⟨c2, hc2⟩ : ∃ c, c = betw i 1 3 := ⟨_, rfl⟩
        rw [← hc2] at HE ⊢
        clear hc2
        cases c2 with
        | false =>
          clear t2
          go_wp2_with fail
          go_ret
          exact ⟨ret_bool (by rw [HE.out]; rfl), hb1⟩
        | true =>
          by_cases h8 : (un : Int) ≤ 8
          · have HE2 := Lib.hid (show validT (s, i, rows) = ascB rows by rw [HE.out, decide_eq_true h8]; rfl)
            go_wp2_with fail
            refine (ascending_any _ _ _ _ _ t2).mono ?_
            rintro e w9 ⟨rfl, z9⟩
            replace z9 : Below w1.heap.size w1 w9 := z9.below _
            have s2 := z9.size
            have hb2 := on hb1 z9
            replace b_0 := bxc z9 b_0
            replace b_1 := bxc z9 b_1
            replace b_2 := bxc z9 b_2
            clear t2
            go_wp2_with fail
            go_ret
            exact ⟨ret_bool HE2.out.symm, hb2⟩
          · have HE2 := Lib.hid (show validT (s, i, rows) = false by rw [HE.out, decide_eq_false h8]; rfl)
            clear t2
            go_wp2_with fail
            go_ret
            exact ⟨ret_bool HE2.out.symm, hb1⟩

set_option maxHeartbeats 2000000 in
theorem validT_spec (cs : List Value) (x : DT) (w : World) (h : rT.rep w cs x) :
    Calls Tryz.prog 24 #[.agg cs.toArray] w fun e w' => e = .returned (.bool (validT x)) ∧ Below w.heap.size w w' := by
  obtain ⟨ub, un, uc, rfl, hs, hi, g1⟩ := rT_open h
  clear h
  obtain ⟨s, i, rows⟩ := x
  simp only at hs hi g1
  have t1 := rS_sl g1
  have hl1 := t1.len
  have hn1 := t1.small
  have HV : Hid (validT (s, i, rows) = (nameB s && (betw i 1 3 && (decide ((un : Int) ≤ 8) && (rowsB i rows && ascB rows))))) := Lib.hid (by
    simp only [validT, hl1]
    congr 3
    rw [Bool.eq_iff_iff]; simp only [decide_eq_true_eq]; omega)
  have hb0 : Below w.heap.size w w := Below.refl _ _
  go_enter Tryz.func24, Tryz.ntmps24
  obtain ⟨w1, hw1⟩ : ∃ W, W = w.alloc (.cells #[.string s, .int .i64 i, .slice ub un uc] 41) := ⟨_, rfl⟩
  have z1 : Below w.heap.size w w1 := by rw [hw1]; exact (Below.refl _ _).alloc (Nat.le_refl _) _
  have s1 : w1.heap.size = w.heap.size + 1 := by rw [hw1]; simp
  have hb1 := on hb0 z1
  have b_0 : w1.cell? ⟨w.heap.size, 0, none⟩ = some (.string s) := by rw [hw1]; exact box_cell (Below.refl _ _) rfl
  have b_1 : w1.cell? ⟨w.heap.size, 1, none⟩ = some (.int .i64 i) := by rw [hw1]; exact box_cell (Below.refl _ _) rfl
  have b_2 : w1.cell? ⟨w.heap.size, 2, none⟩ = some (.slice ub un uc) := by rw [hw1]; exact box_cell (Below.refl _ _) rfl
  have raw1_b_0 := b_0
  have raw1_b_1 := b_1
  have raw1_b_2 := b_2
  rw [hw1] at raw1_b_0 raw1_b_1 raw1_b_2
  go_wp2_with fail
  rw [← hw1]
  clear hw1
  clear raw1_b_0 raw1_b_1 raw1_b_2
  refine (l4Name_any _ _ hs).mono ?_
  rintro e w' ⟨rfl, rfl⟩
  obtain ⟨c1, hc1⟩ : ∃ c, c = nameB s := ⟨_, rfl⟩
  rw [← hc1] at HV ⊢
  clear hc1
  cases c1 with
  | false =>
    clear t1 hl1
    go_wp2_with fail
    go_ret
    exact ⟨ret_bool (by rw [HV.out]; rfl), hb1⟩
  | true =>
    go_wp2_with fail
    refine (l1In_any _ _ _ _).mono ?_
    rintro e w' ⟨rfl, rfl⟩
    obtain ⟨c2, hc2⟩ : ∃ c, c = betw i 1 3 := ⟨_, rfl⟩
    rw [← hc2] at HV ⊢
    clear hc2
    cases c2 with
    | false =>
      clear t1 hl1
      go_wp2_with fail
      go_ret
      exact ⟨ret_bool (by rw [HV.out]; rfl), hb1⟩
    | true =>
      by_cases h8 : (un : Int) ≤ 8
      case neg =>
        have HE2 := Lib.hid (show validT (s, i, rows) = false by rw [HV.out, decide_eq_false h8]; rfl)
        have h8' : 8 < (un : Int) := by omega
        clear t1 hl1
        go_wp2_with fail
        go_ret
        exact ⟨ret_bool HE2.out.symm, hb1⟩
      have HW : Hid (validT (s, i, rows) = (rowsB i (rows.drop 0) && ascB (rows.drop (0 - 1)))) := Lib.hid (by rw [HV.out, decide_eq_true h8]; rfl)
      have h8' : ¬ 8 < (un : Int) := by omega
      go_wp2_with fail
      go_loopw [3] (fun k wr => ∃ j : Nat, j ≤ un ∧ k = .int .i64 j ∧ Hid (validT (s, i, rows) = (rowsB i (rows.drop j) && ascB (rows.drop (j - 1)))) ∧ Drew w1 wr) (fun k _ => un - (intOf k).toNat)
      case atStart => exact ⟨0, Nat.zero_le _, rfl, HW.out, Drew.refl _⟩
      case round =>
        obtain ⟨j, hj, rfl, hE, hdr⟩ := hrel
        have hlc := hdr
        replace hdr : Below w1.heap.size w1 wr := hdr.below _
        have s2 := hdr.size
        have hb2 := on hb1 hdr
        replace b_0 := bxc hdr b_0
        replace b_1 := bxc hdr b_1
        replace b_2 := bxc hdr b_2
        by_cases hlt : j < un
        · obtain ⟨b0, o0, r1, m1, q1, y, rfl, hc, hx, hi9, _⟩ := t1.row hlt
          have hclt : b0 < w.heap.size := cell_lt hc
          have c0 : wr.cell? ⟨b0, o0 + j, none⟩ = some (.slice r1 m1 q1) := (hb2.cell (p := ⟨b0, o0 + j, none⟩) hclt).trans hc
          have hcall := fun q => l4Row_any r1 m1 q1 y i (wr.drewN q) ((hi9.below hb2).drewN q)
          obtain ⟨t, ht⟩ : ∃ t, t = rowB y i := ⟨_, rfl⟩
          rw [← ht] at hcall
          have HC := Lib.hid hcall
          have HA := Lib.hid (hE.out.trans (by rw [rowsB_at hx.out, ← ht]))
          clear hcall ht hE HW HV
          cases t with
          | false =>
            have HE := Lib.hid (show validT (s, i, rows) = false by rw [HA.out]; simp)
            clear t1 hl1 hx hi9 hc
            go_wp2_with fail
            go_quiet ((go_at_call 64; exact quiet_same (HC.out _)))
            go_wp2_with fail
            go_ret
            exact ⟨ret_bool HE.out.symm, onD hb2 ⟨_, rfl⟩⟩
          | true =>
            by_cases hj0 : j = 0
            · subst hj0
              have HE := Lib.hid (show validT (s, i, rows) = (rowsB i (rows.drop (0 + 1)) && ascB (rows.drop (0 + 1 - 1))) by rw [HA.out]; simp)
              have c0' : wr.cell? ⟨b0, o0, none⟩ = some (.slice r1 m1 q1) := c0
              clear t1 hl1 hx hi9 hc
              go_wp2_with fail
              go_quiet ((go_at_call 64; exact quiet_same (HC.out _)))
              go_wp2_with fail
              go_roundw
              case rel => exact ⟨1, by omega, rfl, HE.out, hlc.step _⟩
              case measure => simp [intOf]; omega
            obtain ⟨i', rfl⟩ : ∃ i, j = i + 1 := ⟨j - 1, by omega⟩
            obtain ⟨b9, o9, r2, m2, q2, z, hb9, hcy, hy, hi', _⟩ := t1.row (show i' < un by omega)
            simp at hb9
            obtain ⟨rfl, rfl⟩ := hb9
            have cy : wr.cell? ⟨b0, o0 + i', none⟩ = some (.slice r2 m2 q2) := (hb2.cell (p := ⟨b0, o0 + i', none⟩) hclt).trans hcy
            have hi63 : IntKind.i64.wrap (i' : Int) = (i' : Int) := IntWalk.i64_in _ (by omega)
            have hcall := fun q => cmp_spec r2 r1 m2 m1 q2 q1 z y (wr.drewN q) ((hi'.below hb2).drewN q) ((hi9.below hb2).drewN q)
            obtain ⟨c, hcc⟩ : ∃ c, c = cmpRows z y := ⟨_, rfl⟩
            rw [← hcc] at hcall
            have HA2 : Hid (validT (s, i, rows) = (rowsB i (rows.drop (i' + 1 + 1)) && (decide (c < 0) && ascB (rows.drop (i' + 1))))) := Lib.hid (by
              rw [HA.out, show i' + 1 - 1 = i' by omega, ascB_at hy.out hx.out, hcc]; rfl)
            have HD := Lib.hid hcall
            clear t1 hl1 hx hy hi9 hi' hc hcy hcall hcc HA hj0
            by_cases h0 : c < 0
            · have HE := Lib.hid (show validT (s, i, rows) = (rowsB i (rows.drop (i' + 1 + 1)) && ascB (rows.drop (i' + 1 + 1 - 1))) by rw [HA2.out, decide_eq_true h0]; simp)
              go_wp2_with fail
              go_quiet ((first | (go_at_call 64; exact quiet_same (HC.out _)) | (go_at_call 33; exact quiet_drew (HD.out _))))
              clear hi63
              go_wp2_with fail
              go_roundw
              case rel => exact ⟨i' + 1 + 1, by omega, by go_num, HE.out, hlc.step _⟩
              case measure => simp [intOf]; omega
            · have HE := Lib.hid (show validT (s, i, rows) = false by rw [HA2.out]; simp [h0])
              go_wp2_with fail
              go_quiet ((first | (go_at_call 64; exact quiet_same (HC.out _)) | (go_at_call 33; exact quiet_drew (HD.out _))))
              clear hi63
              go_wp2_with fail
              go_ret
              exact ⟨ret_bool HE.out.symm, onD hb2 ⟨_, rfl⟩⟩
        · have HE : Hid (validT (s, i, rows) = true) := Lib.hid (by
            rw [hE.out, rowsB_end (by omega), ascB_end (by omega)]; rfl)
          clear hE HW hl1 t1
          go_wp2_with fail
          go_ret
          exact ⟨ret_bool HE.out.symm, hb2⟩

end Go.Proofs.YtpgfkjcekhifiaaGreatDoor

namespace Go.Proofs.YtpgfkjcekhifiaaGreatDoor

open Go.RowKit

set_option linter.unusedVariables false

set_option linter.unusedSimpArgs false

set_option synthInstance.maxSize 2000

set_option synthInstance.maxHeartbeats 400000

set_option maxHeartbeats 2000000 in
theorem columnsOk_any (a : Option Addr) (n cap : Nat) (xs : List Int) (m : Int) (w : World) (h : Ints w a n xs) (hm : I64 m) (hm1 : -9223372036854775808 < m) :
    Calls Tryz.prog 37 #[.slice a n cap, .int .i64 m] w fun e w' => e = .returned (.bool (colsB m xs)) ∧ w = w' := by
  have hl := h.len
  have hn := h.small
  have HV : Hid (colsB m xs = colsFrom m (prevOf xs 0) (xs.drop 0)) := Lib.hid (by simp [colsB, prevOf])
  obtain ⟨hm2, hm3⟩ := hm
  have hwm : IntKind.i64.wrap (m - 1) = m - 1 := IntWalk.i64_in _ (by omega)
  have hb0 : Below w.heap.size w w := Below.refl _ _
  go_enter Tryz.func37, Tryz.ntmps37
  go_wp2_with fail
  go_loopw [9] (fun k wr => ∃ j : Nat, j ≤ n ∧ k = .int .i64 j ∧ Hid (colsB m xs = colsFrom m (prevOf xs j) (xs.drop j)) ∧ w = wr) (fun k _ => n - (intOf k).toNat)
  case atStart => exact ⟨0, Nat.zero_le _, rfl, HV.out, rfl⟩
  case round =>
    obtain ⟨j, hj, rfl, hE, rfl⟩ := hrel
    by_cases hlt : j < n
    · obtain ⟨b0, o0, x, rfl, hc, hx, _, _⟩ := h.get hlt
      have c0_lt : b0 < w.heap.size := cell_lt hc
      have c0 : w.cell? ⟨b0, o0 + j, none⟩ = some (.int .i64 x) := (hb0.cell (p := ⟨b0, o0 + j, none⟩) c0_lt).trans hc
      have HA := Lib.hid (hE.out.trans (by rw [cols_at (by omega) hx.out]))
      clear hE HV hl
      have hcall := within_any x 0 (m - 1) w
      by_cases hb : betw x 0 (m - 1) = true
      case neg =>
        replace hb : betw x 0 (m - 1) = false := by simpa using hb
        have HE := Lib.hid (show colsB m xs = false by rw [HA.out]; simp [hb])
        rw [hb] at hcall
        have HC := Lib.hid hcall
        clear h hcall hb
        go_wp2_with fail
        refine (HC.out).mono ?_
        rintro e w' ⟨rfl, rfl⟩
        go_wp2_with fail
        go_ret
        exact ⟨ret_bool HE.out.symm, rfl⟩
      have hx0 := betw_pos hb
      have H0 := Lib.hid hb
      rw [hb] at hcall
      have HC := Lib.hid hcall
      clear hb hcall
      by_cases hj0 : j = 0
      · subst hj0
        have HE := Lib.hid (show colsB m xs = colsFrom m (prevOf xs (0 + 1)) (xs.drop (0 + 1)) by
          rw [HA.out, show prevOf xs (0 + 1) = x from hx.out, show betw x 0 (m - 1) = true from H0.out, show decide (prevOf xs 0 < x) = true from decide_eq_true (show (-1 : Int) < x by omega)]; simp)
        have c0' : w.cell? ⟨b0, o0, none⟩ = some (.int .i64 x) := c0
        clear h hx HA
        go_wp2_with fail
        refine (HC.out).mono ?_
        rintro e w' ⟨rfl, rfl⟩
        go_wp2_with fail
        go_roundw
        case rel => exact ⟨1, by omega, rfl, HE.out, trivial⟩
        case measure => simp [intOf]; omega
      obtain ⟨i, rfl⟩ : ∃ i, j = i + 1 := ⟨j - 1, by omega⟩
      obtain ⟨b9, o9, y, hb9, hcy, hy, _, _⟩ := h.get (show i < n by omega)
      simp at hb9
      obtain ⟨rfl, rfl⟩ := hb9
      have cy_lt : b0 < w.heap.size := cell_lt hcy
      have cy : w.cell? ⟨b0, o0 + i, none⟩ = some (.int .i64 y) := (hb0.cell (p := ⟨b0, o0 + i, none⟩) cy_lt).trans hcy
      have hp : prevOf xs (i + 1) = y := hy.out
      rw [hp] at HA
      by_cases hxy : y < x
      · have HE := Lib.hid (show colsB m xs = colsFrom m (prevOf xs (i + 1 + 1)) (xs.drop (i + 1 + 1)) by
          rw [HA.out, show prevOf xs (i + 1 + 1) = x from hx.out, show betw x 0 (m - 1) = true from H0.out, decide_eq_true hxy]; simp)
        clear h hx HA hp hj0 hc hcy
        go_wp2_with fail
        refine (HC.out).mono ?_
        rintro e w' ⟨rfl, rfl⟩
        go_wp2_with fail
        go_roundw
        case rel => exact ⟨i + 1 + 1, by omega, by go_num, HE.out, trivial⟩
        case measure => simp [intOf]; omega
      · have HE := Lib.hid (show colsB m xs = false by rw [HA.out]; simp [hxy])
        clear h hx HA hp hj0 hc hcy
        go_wp2_with fail
        refine (HC.out).mono ?_
        rintro e w' ⟨rfl, rfl⟩
        go_wp2_with fail
        go_ret
        exact ⟨ret_bool HE.out.symm, rfl⟩
    · have HW : Hid (colsB m xs = true) := Lib.hid (by rw [hE.out, cols_end (by omega)])
      clear hE HV h hl
      go_wp2_with fail
      go_ret
      exact ⟨ret_bool HW.out.symm, rfl⟩

def colsT (t : DT) (xs : List Int) : Bool := colsB t.2.1 xs && validT t

set_option maxHeartbeats 2000000 in
theorem l10Cols_any (cs : List Value) (t : DT) (a : Option Addr) (n cap : Nat) (xs : List Int) (w : World) (ht : rT.rep w cs t) (h : Ints w a n xs) :
    Calls Tryz.prog 34 #[.agg cs.toArray, .slice a n cap] w fun e w' => e = .returned (.bool (colsT t xs)) ∧ Below w.heap.size w w' := by
  obtain ⟨ub, un, uc, rfl, hs, hi, g1⟩ := rT_open ht
  have hcv := fun W (hW : Below w.heap.size w W) => validT_spec _ t W (rT.mono ht hW)
  obtain ⟨s, m, rows⟩ := t
  simp only at hs hi g1 hcv
  have HVT := Lib.hid hcv
  have hl := h.len
  have hn := h.small
  obtain ⟨V, hV⟩ : ∃ V, V = validT (s, m, rows) := ⟨_, rfl⟩
  rw [← hV] at HVT
  obtain ⟨M, hM⟩ : ∃ M, IntKind.i64.wrap (m - 1) = M := ⟨_, rfl⟩
  have HV : Hid (colsT (s, m, rows) xs = (colsFrom (M + 1) (prevOf xs 0) (xs.drop 0) && V)) := Lib.hid (by
    by_cases hmin : m = -9223372036854775808
    · have hVf : V = false := by rw [hV, validT]; subst hmin; simp [betw]
      simp [colsT, ← hV, hVf]
    · have : M + 1 = m := by rw [← hM, IntWalk.i64_in _ (by unfold I64 at hi; omega)]; omega
      rw [this]; simp [colsT, colsB, prevOf, hV])
  clear ht hcv hV g1 hs hi
  have Hw := Lib.hid hM
  have hb0 : Below w.heap.size w w := Below.refl _ _
  go_enter Tryz.func34, Tryz.ntmps34
  obtain ⟨w1, hw1⟩ : ∃ W, W = w.alloc (.cells #[.string s, .int .i64 m, .slice ub un uc] 41) := ⟨_, rfl⟩
  have z1 : Below w.heap.size w w1 := by rw [hw1]; exact (Below.refl _ _).alloc (Nat.le_refl _) _
  have s1 : w1.heap.size = w.heap.size + 1 := by rw [hw1]; simp
  have hb1 := on hb0 z1
  have b_0 : w1.cell? ⟨w.heap.size, 0, none⟩ = some (.string s) := by rw [hw1]; exact box_cell (Below.refl _ _) rfl
  have b_1 : w1.cell? ⟨w.heap.size, 1, none⟩ = some (.int .i64 m) := by rw [hw1]; exact box_cell (Below.refl _ _) rfl
  have b_2 : w1.cell? ⟨w.heap.size, 2, none⟩ = some (.slice ub un uc) := by rw [hw1]; exact box_cell (Below.refl _ _) rfl
  have raw1_b_0 := b_0
  have raw1_b_1 := b_1
  have raw1_b_2 := b_2
  rw [hw1] at raw1_b_0 raw1_b_1 raw1_b_2
  go_wp2_with fail
  rw [← hw1]
  clear hw1
  clear raw1_b_0 raw1_b_1 raw1_b_2
  go_loopw [5] (fun k wr => ∃ j : Nat, j ≤ n ∧ k = .int .i64 j ∧ Hid (colsT (s, m, rows) xs = (colsFrom (M + 1) (prevOf xs j) (xs.drop j) && V)) ∧ Drew w1 wr) (fun k _ => n - (intOf k).toNat)
  case atStart => exact ⟨0, Nat.zero_le _, rfl, HV.out, Drew.refl _⟩
  case round =>
    obtain ⟨j, hj, rfl, hE, hdr⟩ := hrel
    have hlc := hdr
    replace hdr : Below w1.heap.size w1 wr := hdr.below _
    have s2 := hdr.size
    have hb2 := on hb1 hdr
    replace b_0 := bxc hdr b_0
    replace b_1 := bxc hdr b_1
    replace b_2 := bxc hdr b_2
    by_cases hlt : j < n
    · obtain ⟨b0, o0, x, rfl, hc, hx, _, _⟩ := h.get hlt
      have c0_lt : b0 < w.heap.size := cell_lt hc
      have c0 : wr.cell? ⟨b0, o0 + j, none⟩ = some (.int .i64 x) := (hb2.cell (p := ⟨b0, o0 + j, none⟩) c0_lt).trans hc
      have HA := Lib.hid (hE.out.trans (by rw [cols_at (by omega) hx.out, show M + 1 - 1 = M by omega]))
      clear hE HV hl
      have hcall := fun q => l1In_any x 0 M (wr.drewN q)
      by_cases hb : betw x 0 M = true
      case neg =>
        replace hb : betw x 0 M = false := by simpa using hb
        have HE := Lib.hid (show colsT (s, m, rows) xs = false by rw [HA.out]; simp [hb])
        rw [hb] at hcall
        have HC := Lib.hid hcall
        clear h hb hcall
        go_wp2_with fail
        go_quiet ((go_at_call 35; exact quiet_same (HC.out _)))
        go_wp2_with fail
        go_ret
        exact ⟨ret_bool HE.out.symm, onD hb2 ⟨_, rfl⟩⟩
      have hx0 := betw_pos hb
      have H0 := Lib.hid hb
      rw [hb] at hcall
      have HC := Lib.hid hcall
      clear hb hcall
      by_cases hj0 : j = 0
      · subst hj0
        have HE := Lib.hid (show colsT (s, m, rows) xs = (colsFrom (M + 1) (prevOf xs (0 + 1)) (xs.drop (0 + 1)) && V) by
          rw [HA.out, show prevOf xs (0 + 1) = x from hx.out, H0.out, show decide (prevOf xs 0 < x) = true from decide_eq_true (show (-1 : Int) < x by omega)]; simp)
        have c0' : wr.cell? ⟨b0, o0, none⟩ = some (.int .i64 x) := c0
        clear h hx HA
        go_wp2_with fail
        go_quiet ((go_at_call 35; exact quiet_same (HC.out _)))
        go_wp2_with fail
        go_roundw
        case rel => exact ⟨1, by omega, rfl, HE.out, hlc.step _⟩
        case measure => simp [intOf]; omega
      obtain ⟨i, rfl⟩ : ∃ i, j = i + 1 := ⟨j - 1, by omega⟩
      obtain ⟨b9, o9, y, hb9, hcy, hy, _, _⟩ := h.get (show i < n by omega)
      simp at hb9
      obtain ⟨rfl, rfl⟩ := hb9
      have cy_lt : b0 < w.heap.size := cell_lt hcy
      have cy : wr.cell? ⟨b0, o0 + i, none⟩ = some (.int .i64 y) := (hb2.cell (p := ⟨b0, o0 + i, none⟩) cy_lt).trans hcy
      have hp : prevOf xs (i + 1) = y := hy.out
      rw [hp] at HA
      have hi63 : IntKind.i64.wrap (i : Int) = (i : Int) := IntWalk.i64_in _ (by omega)
      by_cases hxy : y < x
      · have HE := Lib.hid (show colsT (s, m, rows) xs = (colsFrom (M + 1) (prevOf xs (i + 1 + 1)) (xs.drop (i + 1 + 1)) && V) by
          rw [HA.out, show prevOf xs (i + 1 + 1) = x from hx.out, H0.out, decide_eq_true hxy]; simp)
        clear h hx HA hp hj0 hc hcy
        go_wp2_with fail
        go_quiet ((go_at_call 35; exact quiet_same (HC.out _)))
        clear hi63
        go_wp2_with fail
        go_roundw
        case rel => exact ⟨i + 1 + 1, by omega, by go_num, HE.out, hlc.step _⟩
        case measure => simp [intOf]; omega
      · have HE := Lib.hid (show colsT (s, m, rows) xs = false by rw [HA.out]; simp [hxy])
        clear h hx HA hp hj0 hc hcy
        go_wp2_with fail
        go_quiet ((go_at_call 35; exact quiet_same (HC.out _)))
        clear hi63
        go_wp2_with fail
        go_ret
        exact ⟨ret_bool HE.out.symm, onD hb2 ⟨_, rfl⟩⟩
    · have HW : Hid (colsT (s, m, rows) xs = V) := Lib.hid (by rw [hE.out, cols_end (by omega)]; simp)
      clear hE HV h hl
      go_wp2_with fail
      refine (HVT.out _ hb2).mono ?_
      rintro e w9 ⟨rfl, z9⟩
      have s3 := z9.size
      have hb3 := on hb2 z9
      replace b_0 := bxc z9 b_0
      replace b_1 := bxc z9 b_1
      replace b_2 := bxc z9 b_2
      go_wp2_with fail
      go_ret
      exact ⟨ret_bool HW.out.symm, hb3⟩

end Go.Proofs.YtpgfkjcekhifiaaGreatDoor

namespace Go.Proofs.YtpgfkjcekhifiaaGreatDoor

open Go.RowKit

set_option linter.unusedVariables false

set_option linter.unusedSimpArgs false

set_option maxHeartbeats 400000 in
theorem equalInts (a b : Option Addr) (n m cap cap' : Nat) (xs ys : List Int) (w : World) (h : Ints w a n xs) (h' : Ints w b m ys) :
    Calls Tryz.prog 30 #[.slice a n cap, .slice b m cap'] w fun e w' => e = .returned (.bool (decide (xs = ys))) ∧ Drew w w' := by
  have hl := h.len
  have hl' := h'.len
  have hn := h.small
  have hn' := h'.small
  by_cases hnm : n = m
  · subst hnm
    go_enter Tryz.func30, Tryz.ntmps30
    go_wp2
    go_loopw [5, 13] (fun _ k wr => ∃ j : Nat, j ≤ n ∧ k = .int .i64 j ∧ Hid (xs.take j = ys.take j) ∧ Drew w wr) (fun _ k _ => n - (intOf k).toNat)
    case atStart => exact ⟨0, Nat.zero_le _, rfl, rfl, Drew.refl _⟩
    case round =>
      obtain ⟨j, hj, rfl, hE, hdr⟩ := hrel
      replace h := h.drew hdr
      replace h' := h'.drew hdr
      by_cases hlt : j < n
      · obtain ⟨b1, o1, x, rfl, hc, hx, _, _⟩ := h.get hlt
        obtain ⟨b2, o2, y, rfl, hc', hy, _, _⟩ := h'.get hlt
        by_cases hxy : x = y
        · have HE := Lib.hid (take_same (by omega) (by omega) hE.out (by rw [hx.out, hy.out, hxy]))
          have hne : (x != y) = false := by simp [hxy]
          clear h h' hl hl' hxy
          go_wp2
          go_quiet (fail)
          go_wp2
          go_roundw
          case rel => exact ⟨j + 1, by omega, by go_num, HE, hdr.step _⟩
          case measure => simp [intOf]; omega
        · have HE := Lib.hid (show decide (xs = ys) = false by
            simp only [decide_eq_false_iff_not]; intro e; subst e; exact hxy (hx.out.symm.trans hy.out))
          have hne : (x != y) = true := by simp [hxy]
          clear h h' hl hl' hxy
          go_wp2
          go_quiet (fail)
          go_wp2
          go_ret
          exact ⟨ret_bool HE.out.symm, hdr.step _⟩
      · have HE := Lib.hid (show decide (xs = ys) = true by
          have e := hE.out
          rw [List.take_of_length_le (by omega), List.take_of_length_le (by omega)] at e
          simp [e])
        clear h h' hl hl'
        go_wp2
        go_ret
        exact ⟨ret_bool HE.out.symm, hdr⟩
  · have HE := Lib.hid (show decide (xs = ys) = false by
      simp only [decide_eq_false_iff_not]; intro e; subst e; omega)
    have hne : ((n : Int) != (m : Int)) = true := by rw [bne_iff_ne]; omega
    clear hl hl' h h'
    go_enter Tryz.func30, Tryz.ntmps30
    go_wp2
    go_ret
    exact ⟨ret_bool HE.out.symm, Drew.refl _⟩

end Go.Proofs.YtpgfkjcekhifiaaGreatDoor

namespace Go.Proofs.YtpgfkjcekhifiaaGreatDoor

open Go.RowKit

set_option linter.unusedVariables false

set_option linter.unusedSimpArgs false

set_option synthInstance.maxSize 2000

set_option synthInstance.maxHeartbeats 400000

abbrev DDb := List DT

def rDb : RS DDb := rTl

theorem rDb_open {w : World} {cs : List Value} {x : DDb} (h : rDb.rep w cs x) : ∃ ub0 un0 uc0, cs = [.slice ub0 un0 uc0] ∧ rTl.rep w [.slice ub0 un0 uc0] x := by
  have hr0 := h
  obtain ⟨ub0, un0, uc0, rfl⟩ := rTl_form hr0
  exact ⟨_, _, _, rfl, hr0⟩

theorem rDb_form {w : World} {cs : List Value} {x : DDb} (h : rDb.rep w cs x) : ∃ ub0 un0 uc0, cs = [.slice ub0 un0 uc0] := by
  obtain ⟨ub0, un0, uc0, h1, _⟩ := rDb_open h
  exact ⟨_, _, _, h1⟩

end Go.Proofs.YtpgfkjcekhifiaaGreatDoor

namespace Go.Proofs.YtpgfkjcekhifiaaGreatDoor

open Go.RowKit

set_option linter.unusedVariables false

set_option linter.unusedSimpArgs false

set_option synthInstance.maxSize 2000

set_option synthInstance.maxHeartbeats 400000

def cnt_Dp (x : DDp) : Nat := cnt_I x.2.1

end Go.Proofs.YtpgfkjcekhifiaaGreatDoor



namespace Go.Proofs.YtpgfkjcekhifiaaGreatDoor

open Go.RowKit

set_option linter.unusedVariables false

set_option linter.unusedSimpArgs false

set_option synthInstance.maxSize 2000

set_option synthInstance.maxHeartbeats 400000

def selOk (row cols : List Int) : Bool := cols.all (fun c => betw c 0 ((row.length : Int) - 1))

def selAt (row cols : List Int) : List Int := cols.map (fun c => row.getD c.toNat 0)

def sel (row cols : List Int) : List Int := if selOk row cols then selAt row cols else []

theorem selAt_len (row cols : List Int) : (selAt row cols).length = cols.length := by simp [selAt]

theorem selAt_step {row cols : List Int} {j : Nat} {c : Nat} {x : Int} (hj : j < cols.length) (hc : cols.getD j 0 = (c : Int)) (hx : row.getD c 0 = x) : selAt row (cols.take (j + 1)) = selAt row (cols.take j) ++ [x] := by
  rw [take_snoc cols j hj, hc]; simp only [selAt, List.map_append, List.map_cons, List.map_nil, Int.toNat_natCast, hx]

theorem selOk_no {row cols : List Int} {j : Nat} {x : Int} (hj : j < cols.length) (hc : cols.getD j 0 = x) (hb : betw x 0 ((row.length : Int) - 1) = false) : selOk row cols = false := by
  rw [selOk, List.all_eq_false]
  refine ⟨x, ?_, by rw [hb]; simp⟩
  rw [← hc, List.getD_eq_getElem?_getD, List.getElem?_eq_getElem hj]
  exact List.getElem_mem hj

theorem selOk_at {row cols : List Int} {j : Nat} {x : Int} (hj : j < cols.length) (hc : cols.getD j 0 = x) : selOk row (cols.drop j) = (betw x 0 ((row.length : Int) - 1) && selOk row (cols.drop (j + 1))) := by
  rw [drop_cons cols j hj, hc]; rfl

theorem selOk_end {row cols : List Int} {j : Nat} (hj : cols.length ≤ j) : selOk row (cols.drop j) = true := by
  rw [List.drop_eq_nil_of_le hj]; rfl

theorem betw_nat {x m : Int} (h : betw x 0 m = true) : ∃ c : Nat, x = (c : Int) ∧ (c : Int) ≤ m := by
  simp only [betw, Bool.and_eq_true, decide_eq_true_eq] at h
  exact ⟨x.toNat, by omega, by omega⟩

set_option maxHeartbeats 2000000 in
theorem sel_impl (a b : Option Addr) (n m cap cap' : Nat) (row cols : List Int) (w : World) (h : Ints w a n row) (h' : Ints w b m cols) (hm : m ≤ 1048576) :
    Calls Tryz.prog 29 #[.slice a n cap, .slice b m cap'] w fun e w' => ∃ vb vn vc, e = .returned (.tuple #[.slice vb vn vc, .bool (selOk row cols)]) ∧ Own oI w.heap.size w'.heap.size w' [.slice vb vn vc] (sel row cols) ∧ Below w.heap.size w w' := by
  have hl := h.len
  have hl' := h'.len
  have hn := h.small
  have hn' := h'.small
  have HV : Hid (selOk row cols = selOk row (cols.drop 0)) := Lib.hid (by simp)
  have hwn : IntKind.i64.wrap ((n : Int) - 1) = (n : Int) - 1 := IntWalk.i64_in _ (by omega)
  have hb0 : Below w.heap.size w w := Below.refl _ _
  go_enter Tryz.func29, Tryz.ntmps29
  obtain ⟨w1, hw1⟩ : ∃ W, W = w.alloc (.cells #[] 3) := ⟨_, rfl⟩
  have z1 : Below w.heap.size w w1 := by rw [hw1]; exact (Below.refl _ _).alloc (Nat.le_refl _) _
  have s1 : w1.heap.size = w.heap.size + 1 := by rw [hw1]; simp
  have hb1 := on hb0 z1
  have ho : ∀ S, Acc 3 O.int w.heap.size S w1.heap.size w1 (.slice (some ⟨w.heap.size, 0, none⟩) 0 0) [] := fun S => by rw [hw1]; exact Acc.empty (by omega) (by first | (simp; done) | (simp; omega))
  go_wp2_with fail
  rw [← hw1]
  clear hw1
  go_loopw [6, 12] (fun v i wr => ∃ j : Nat, j ≤ m ∧ i = .int .i64 j ∧ Hid (selOk row cols = selOk row (cols.drop j)) ∧ Acc 3 O.int w.heap.size w1.heap.size wr.heap.size wr v (selAt row (cols.take j)) ∧ Turn w.heap.size (w.heap.size + 1) w1 wr) (fun _ i _ => m - (intOf i).toNat)
  case atStart => exact ⟨0, Nat.zero_le _, rfl, HV.out, by rw [List.take_zero]; exact (ho _).wide (Nat.le_refl _) (by omega), turn_refl _ _ _⟩
  case round =>
    obtain ⟨j, hj, rfl, hE, hacc, hdr⟩ := hrel
    have hlc := hdr
    have s2 := hdr.size
    have hb2 := hb1.trans ((hdr.below (by omega)).mono (by omega))
    have hbl : (selAt row (cols.take j)).length ≤ 1048576 := by rw [selAt_len]; have h2 : (cols.take j).length ≤ j := List.length_take_le _ _; omega
    by_cases hlt : j < m
    · obtain ⟨b1, o1, x, rfl, hc, hx, _, _⟩ := h'.get hlt
      have c0_lt : b1 < w.heap.size := cell_lt hc
      have c0 : wr.cell? ⟨b1, o1 + j, none⟩ = some (.int .i64 x) := (hb2.cell (p := ⟨b1, o1 + j, none⟩) c0_lt).trans hc
      have hcall := fun W => within_any x 0 ((n : Int) - 1) W
      by_cases hb : betw x 0 ((n : Int) - 1) = true
      case neg =>
        replace hb : betw x 0 ((n : Int) - 1) = false := by simpa using hb
        have HE := Lib.hid (selOk_no (row := row) (by omega) hx.out (by rw [hl]; exact hb))
        rw [hb] at hcall
        have HC := Lib.hid hcall
        have HS := Lib.hid (show sel row cols = [] by simp [sel, HE.out])
        clear h h' hb hcall hE HV hl hl' ho hx hc hacc
        go_wp2_with fail
        refine (HC.out _).mono ?_
        rintro e w' ⟨rfl, rfl⟩
        go_wp2_with fail
        refine bodyPost_ret (v := .tuple #[.slice none 0 0, .bool false]) (by simp [results, Tryz.results29, go_sem]) rfl ⟨_, _, _, by rw [HE.out], by rw [HS.out]; exact own_nil_S.mono (Nat.le_refl _) (by omega), hb2⟩
      obtain ⟨c, rfl, hcn⟩ := betw_nat hb
      rw [hb] at hcall
      have HC := Lib.hid hcall
      obtain ⟨b2, o2, y, rfl, hcy, hy, hy1, hy2⟩ := h.get (show c < n by omega)
      have cy_lt : b2 < w.heap.size := cell_lt hcy
      have cy : wr.cell? ⟨b2, o2 + c, none⟩ = some (.int .i64 y) := (hb2.cell (p := ⟨b2, o2 + c, none⟩) cy_lt).trans hcy
      have HB := Lib.hid (selAt_step (show j < cols.length by omega) hx.out hy.out)
      have HE : Hid (selOk row cols = selOk row (cols.drop (j + 1))) := Lib.hid (by rw [hE.out, selOk_at (by omega) hx.out, hl, hb]; rfl)
      clear h h' hb hcall hE HV hl hl' ho hx hc hy hcy
      go_wp2_with (first
        | (go_at_call 38; refine (HC.out _).mono ?_; rintro e w' ⟨rfl, rfl⟩)
        | (at_builtin; refine wpList_accI _ _ _ _ _ hacc hlc rfl (by omega) (Nat.le_refl _) ⟨by omega, by omega⟩ (by omega) rfl rfl rfl rfl rfl ?_; intro v' w1 hacc' ht' hsz'))
      rw [← HB.out] at hacc'
      go_roundw
      case rel => exact ⟨j + 1, by omega, by go_num, HE.out, hacc', ht'⟩
      case measure => simp [intOf]; omega
    · obtain rfl : j = m := by omega
      have HE : Hid (selOk row cols = true) := Lib.hid (by rw [hE.out, selOk_end (by omega)])
      have HS := Lib.hid (show sel row cols = selAt row cols by simp [sel, HE.out])
      rw [List.take_of_length_le (by omega), ← HS.out] at hacc
      obtain ⟨a', n', cap2, rfl⟩ := hacc.form3
      have HO := Lib.hid (hacc.own (B := w.heap.size) (by omega) (by omega) (Nat.le_refl _))
      clear hacc h h' hl hl' ho hE HV
      go_wp2_with fail
      refine bodyPost_ret (v := .tuple #[.slice a' n' cap2, .bool true]) (by simp [results, Tryz.results29, go_sem]) rfl ⟨_, _, _, by rw [HE.out], HO.out, hb2⟩

set_option maxHeartbeats 2000000 in
theorem sel_spec (a b : Option Addr) (n m cap cap' : Nat) (row cols : List Int) (w : World) (h : Ints w a n row) (h' : Ints w b m cols) (hm : m ≤ 1048576) :
    Calls Tryz.prog 32 #[.slice a n cap, .slice b m cap'] w fun e w' => ∃ vb vn vc, e = .returned (.tuple #[.slice vb vn vc, .bool (selOk row cols)]) ∧ Own oI w.heap.size w'.heap.size w' [.slice vb vn vc] (sel row cols) ∧ Below w.heap.size w w' := by
  have hl := h.len
  have hl' := h'.len
  have hn := h.small
  have hn' := h'.small
  have HV : Hid (selOk row cols = selOk row (cols.drop 0)) := Lib.hid (by simp)
  have hwn : IntKind.i64.wrap ((n : Int) - 1) = (n : Int) - 1 := IntWalk.i64_in _ (by omega)
  have hb0 : Below w.heap.size w w := Below.refl _ _
  go_enter Tryz.func32, Tryz.ntmps32
  obtain ⟨w1, hw1⟩ : ∃ W, W = w.alloc (.cells #[] 3) := ⟨_, rfl⟩
  have z1 : Below w.heap.size w w1 := by rw [hw1]; exact (Below.refl _ _).alloc (Nat.le_refl _) _
  have s1 : w1.heap.size = w.heap.size + 1 := by rw [hw1]; simp
  have hb1 := on hb0 z1
  have ho : ∀ S, Acc 3 O.int w.heap.size S w1.heap.size w1 (.slice (some ⟨w.heap.size, 0, none⟩) 0 0) [] := fun S => by rw [hw1]; exact Acc.empty (by omega) (by first | (simp; done) | (simp; omega))
  go_wp2_with fail
  rw [← hw1]
  clear hw1
  go_loopw [6, 7] (fun v i wr => ∃ j : Nat, j ≤ m ∧ i = .int .i64 j ∧ Hid (selOk row cols = selOk row (cols.drop j)) ∧ Acc 3 O.int w.heap.size w1.heap.size wr.heap.size wr v (selAt row (cols.take j)) ∧ Turn w.heap.size (w.heap.size + 1) w1 wr) (fun _ i _ => m - (intOf i).toNat)
  case atStart => exact ⟨0, Nat.zero_le _, rfl, HV.out, by rw [List.take_zero]; exact (ho _).wide (Nat.le_refl _) (by omega), turn_refl _ _ _⟩
  case round =>
    obtain ⟨j, hj, rfl, hE, hacc, hdr⟩ := hrel
    have hlc := hdr
    have s2 := hdr.size
    have hb2 := hb1.trans ((hdr.below (by omega)).mono (by omega))
    have hbl : (selAt row (cols.take j)).length ≤ 1048576 := by rw [selAt_len]; have h2 : (cols.take j).length ≤ j := List.length_take_le _ _; omega
    by_cases hlt : j < m
    · obtain ⟨b1, o1, x, rfl, hc, hx, _, _⟩ := h'.get hlt
      have c0_lt : b1 < w.heap.size := cell_lt hc
      have c0 : wr.cell? ⟨b1, o1 + j, none⟩ = some (.int .i64 x) := (hb2.cell (p := ⟨b1, o1 + j, none⟩) c0_lt).trans hc
      have hcall := fun W => l1In_any x 0 ((n : Int) - 1) W
      by_cases hb : betw x 0 ((n : Int) - 1) = true
      case neg =>
        replace hb : betw x 0 ((n : Int) - 1) = false := by simpa using hb
        have HE := Lib.hid (selOk_no (row := row) (by omega) hx.out (by rw [hl]; exact hb))
        rw [hb] at hcall
        have HC := Lib.hid hcall
        have HS := Lib.hid (show sel row cols = [] by simp [sel, HE.out])
        clear h h' hb hcall hE HV hl hl' ho hx hc hacc
        go_wp2_with fail
        refine (HC.out _).mono ?_
        rintro e w' ⟨rfl, rfl⟩
        go_wp2_with fail
        refine bodyPost_ret (v := .tuple #[.slice (some ⟨wr.heap.size, 0, none⟩) 0 0, .bool false]) (by simp [results, Tryz.results32, go_sem]) rfl ⟨_, _, _, by rw [HE.out], by rw [HS.out]; exact ((Acc.empty (E := 3) (o := O.int) (S := w.heap.size) (g := wr.heap.size) (hi := wr.heap.size + 1) rfl (by omega)).own (by omega) (Nat.le_refl _) (by simp)), hb2.trans ((Below.refl _ _).alloc (by omega) _)⟩
      obtain ⟨c, rfl, hcn⟩ := betw_nat hb
      rw [hb] at hcall
      have HC := Lib.hid hcall
      obtain ⟨b2, o2, y, rfl, hcy, hy, hy1, hy2⟩ := h.get (show c < n by omega)
      have cy_lt : b2 < w.heap.size := cell_lt hcy
      have cy : wr.cell? ⟨b2, o2 + c, none⟩ = some (.int .i64 y) := (hb2.cell (p := ⟨b2, o2 + c, none⟩) cy_lt).trans hcy
      have HB := Lib.hid (selAt_step (show j < cols.length by omega) hx.out hy.out)
      have HE : Hid (selOk row cols = selOk row (cols.drop (j + 1))) := Lib.hid (by rw [hE.out, selOk_at (by omega) hx.out, hl, hb]; rfl)
      clear h h' hb hcall hE HV hl hl' ho hx hc hy hcy
      go_wp2_with (first
        | (go_at_call 35; refine (HC.out _).mono ?_; rintro e w' ⟨rfl, rfl⟩)
        | (at_builtin; refine wpList_accI _ _ _ _ _ hacc hlc rfl (by omega) (Nat.le_refl _) ⟨by omega, by omega⟩ (by omega) rfl rfl rfl rfl rfl ?_; intro v' w1 hacc' ht' hsz'))
      rw [← HB.out] at hacc'
      go_roundw
      case rel => exact ⟨j + 1, by omega, by go_num, HE.out, hacc', ht'⟩
      case measure => simp [intOf]; omega
    · obtain rfl : j = m := by omega
      have HE : Hid (selOk row cols = true) := Lib.hid (by rw [hE.out, selOk_end (by omega)])
      have HS := Lib.hid (show sel row cols = selAt row cols by simp [sel, HE.out])
      rw [List.take_of_length_le (by omega), ← HS.out] at hacc
      obtain ⟨a', n', cap2, rfl⟩ := hacc.form3
      have HO := Lib.hid (hacc.own (B := w.heap.size) (by omega) (by omega) (Nat.le_refl _))
      clear hacc h h' hl hl' ho hE HV
      go_wp2_with fail
      refine bodyPost_ret (v := .tuple #[.slice a' n' cap2, .bool true]) (by simp [results, Tryz.results32, go_sem]) rfl ⟨_, _, _, by rw [HE.out], HO.out, hb2⟩

end Go.Proofs.YtpgfkjcekhifiaaGreatDoor

namespace Go.Proofs.YtpgfkjcekhifiaaGreatDoor

open Go.RowKit

set_option linter.unusedVariables false

set_option linter.unusedSimpArgs false

def vbits (m : Nat) : List Int → Nat
  | [] => m
  | v :: t => vbits (m ||| 2 ^ v.toNat) t

def varsFrom (n : Int) (pre : List Int) : List Int → Bool
  | [] => true
  | v :: t => betw v 0 (n - 1) && !has pre v && varsFrom n (pre ++ [v]) t

def validFrom (n m : Nat) : List DA → Bool
  | [] => decide (m = 2 ^ n - 1)
  | a :: t => nameB a.1 && betw a.2.length 1 3 && (varsFrom n [] a.2 && validFrom n (vbits m a.2) t)

def validQ (q : DQ) : Bool := betw q.1 1 4 && betw q.2.length 1 4 && validFrom q.1.toNat 0 q.2

structure Bools (w : World) (g n m : Nat) : Prop where
  blk : ∃ E, w.heap[g]? = some (.cells ((List.range n).map (fun i => Value.bool (m.testBit i))).toArray E)

theorem Bools.below {w w' : World} {g n m C : Nat} (h : Bools w g n m) (hb : Below C w w') (hC : g < C) : Bools w' g n m := by
  obtain ⟨E, h⟩ := h.blk
  exact ⟨E, by rw [hb.block g hC]; exact h⟩

theorem Bools.cell {w : World} {g n m : Nat} (h : Bools w g n m) {i : Nat} (hi : i < n) : w.cell? ⟨g, i, none⟩ = some (.bool (m.testBit i)) := by
  obtain ⟨E, h⟩ := h.blk
  simp [World.cell?, h, hi]

theorem Bools.frozen {w : World} {g n m : Nat} (h : Bools w g n m) (i : Nat) : w.frozen? ⟨g, i, none⟩ = false := by
  obtain ⟨E, h⟩ := h.blk
  simp [World.frozen?, h]

theorem Bools.lt {w : World} {g n m : Nat} (h : Bools w g n m) : g < w.heap.size := by
  obtain ⟨E, h⟩ := h.blk
  exact (Array.getElem?_eq_some_iff.1 h).1

theorem Bools.set {w : World} {g n m : Nat} (h : Bools w g n m) {v : Nat} (hv : v < n) : Bools (w.setCell ⟨g, v, none⟩ (.bool true)) g n (m ||| 2 ^ v) := by
  obtain ⟨E, h⟩ := h.blk
  refine ⟨E, ?_⟩
  rw [heap_setCell_same w g v _ E _ h]
  congr 2
  apply Array.ext'
  simp only [Array.toList_setIfInBounds]
  apply List.ext_getElem?
  intro i
  rw [List.getElem?_set]
  by_cases hi : i < n
  · by_cases hiv : v = i
    · subst hiv; simp [hi, Nat.testBit_or, Nat.testBit_two_pow_self]
    · simp [hi, hiv, Nat.testBit_or, Nat.testBit_two_pow_of_ne hiv]
  · have : v ≠ i := by omega
    simp [hi, this]

theorem Turn.setCell {lo hi : Nat} {a w : World} (h : Turn lo hi a w) {p : Addr} (h1 : lo ≤ p.block) (h2 : p.block < hi) (u : Value) : Turn lo hi a (w.setCell p u) :=
  h.trans ((Kept.refl lo hi w).setCell h1 h2 u).turn

theorem wrap_pow {n : Nat} (h : n ≤ 16) : wrap64 ((2 : Int) ^ n) = ((2 ^ n : Nat) : Int) := by
  have h1 := Nat.pow_le_pow_right (show 0 < 2 by omega) h
  have h2 : ((2 : Int) ^ n) = ((2 ^ n : Nat) : Int) := by simp
  rw [h2]
  generalize 2 ^ n = p at h1
  exact IntWalk.wrap64_in _ ⟨by omega, by omega⟩

theorem or_pow {m v : Nat} (hm : m < 65536) (hv : v ≤ 16) : bits .or .i64 (m : Int) (wrap64 ((2 : Int) ^ v)) = ((m ||| 2 ^ v : Nat) : Int) := by
  have h1 := Nat.pow_le_pow_right (show 0 < 2 by omega) hv
  rw [wrap_pow hv]
  generalize 2 ^ v = p at h1
  exact bits_or_nat _ _ (by omega) (by omega)

end Go.Proofs.YtpgfkjcekhifiaaGreatDoor

namespace Go.Proofs.YtpgfkjcekhifiaaGreatDoor

open Go.RowKit

set_option linter.unusedVariables false

set_option linter.unusedSimpArgs false

structure QOk (q : DQ) (n : Nat) : Prop where
  cnt : q.1 = n
  pos : 1 ≤ n
  le : n ≤ 4
  lpos : 1 ≤ q.2.length
  len : q.2.length ≤ 4
  name : ∀ a ∈ q.2, nameB a.1 = true
  vpos : ∀ a ∈ q.2, 1 ≤ a.2.length
  vlen : ∀ a ∈ q.2, a.2.length ≤ 3
  vars : ∀ a ∈ q.2, ∀ v ∈ a.2, 0 ≤ v ∧ v < n

theorem varsFrom_mem {n : Int} : ∀ {vs pre : List Int}, varsFrom n pre vs = true → ∀ v ∈ vs, 0 ≤ v ∧ v < n
  | [], _, _, v, hv => by cases hv
  | x :: t, pre, h, v, hv => by
    simp only [varsFrom, Bool.and_eq_true, betw, decide_eq_true_eq] at h
    rcases List.mem_cons.1 hv with rfl | hv
    · omega
    · exact varsFrom_mem h.2 v hv

theorem validFrom_atoms {n : Nat} : ∀ {xs : List DA} {m : Nat}, validFrom n m xs = true → ∀ a ∈ xs, nameB a.1 = true ∧ 1 ≤ a.2.length ∧ a.2.length ≤ 3 ∧ ∀ v ∈ a.2, 0 ≤ v ∧ v < (n : Int)
  | [], _, _, a, ha => by cases ha
  | x :: t, m, h, a, ha => by
    simp only [validFrom, Bool.and_eq_true, betw, decide_eq_true_eq] at h
    rcases List.mem_cons.1 ha with rfl | ha
    · exact ⟨h.1.1, by omega, by omega, varsFrom_mem h.2.1⟩
    · exact validFrom_atoms h.2.2 a ha

theorem QOk.of {q : DQ} (h : validQ q = true) : ∃ n, QOk q n := by
  simp only [validQ, Bool.and_eq_true, betw, decide_eq_true_eq] at h
  have hf := validFrom_atoms h.2
  refine ⟨q.1.toNat, by omega, by omega, by omega, by omega, by omega, fun a ha => (hf a ha).1, fun a ha => (hf a ha).2.1, fun a ha => (hf a ha).2.2.1, fun a ha => (hf a ha).2.2.2⟩

def qbits (K m : Nat) : Nat → List DA → Nat
  | _, [] => m
  | i, a :: t => qbits K (if bitAt K i then vbits m a.2 else m) (i + 1) t

def bitsOf (q : DQ) (K : Nat) : Nat := qbits K 0 0 q.2

theorem vbits_test {j : Nat} : ∀ {vs : List Int} {m : Nat}, (∀ v ∈ vs, 0 ≤ v) → ((vbits m vs).testBit j = (m.testBit j || has vs (j : Int)))
  | [], m, _ => by simp [vbits, has]
  | v :: t, m, h => by
    have hv := h v (by simp)
    rw [vbits, vbits_test (fun x hx => h x (by simp [hx])), Nat.testBit_or, Bool.or_assoc]
    congr 1
    obtain ⟨k, rfl⟩ := Int.eq_ofNat_of_zero_le hv
    by_cases e : k = j
    · subst e
      simp [Nat.testBit_two_pow_self, has]
    · have e' : ¬ (j : Int) = (k : Int) := by omega
      simp [Nat.testBit_two_pow_of_ne e, has, e']

def someFrom (K v : Nat) : Nat → List DA → Bool
  | _, [] => false
  | i, a :: t => (bitAt K i && has a.2 (v : Int)) || someFrom K v (i + 1) t

theorem qbits_some {K v : Nat} : ∀ {xs : List DA} {m i : Nat}, (∀ a ∈ xs, ∀ v ∈ a.2, 0 ≤ v) → ((qbits K m i xs).testBit v = (m.testBit v || someFrom K v i xs))
  | [], m, i, _ => by simp [qbits, someFrom]
  | a :: t, m, i, h => by
    rw [qbits, qbits_some (fun b hb => h b (by simp [hb])), someFrom]
    split
    · rename_i hb; rw [vbits_test (h a (by simp)), hb]; simp [Bool.or_assoc]
    · rename_i hb; simp [hb]

theorem QOk.some {q : DQ} {n : Nat} (h : QOk q n) (K v : Nat) : bitAt (bitsOf q K) v = someFrom K v 0 (q.2.drop 0) := by
  rw [bitAt_testBit, bitsOf, qbits_some (fun a ha x hx => (h.vars a ha x hx).1)]; simp

def both (xs ys : List Int) : List Int := xs.filter (has ys)

theorem both_yes {xs ys : List Int} {j : Nat} {x : Int} (hj : j < xs.length) (hx : xs.getD j 0 = x) (h : has ys x = true) : both (xs.take (j + 1)) ys = both (xs.take j) ys ++ [x] := by
  rw [take_snoc xs j hj, hx, both, List.filter_append, both]; simp [h]

theorem both_no {xs ys : List Int} {j : Nat} {x : Int} (hj : j < xs.length) (hx : xs.getD j 0 = x) (h : has ys x = false) : both (xs.take (j + 1)) ys = both (xs.take j) ys := by
  rw [take_snoc xs j hj, hx, both, List.filter_append, both]; simp [h]

theorem both_len (xs ys : List Int) : (both xs ys).length ≤ xs.length := List.length_filter_le _ _

theorem both_end {xs ys : List Int} {j : Nat} (h : xs.length ≤ j) : both (xs.take j) ys = both xs ys := by rw [List.take_of_length_le h]

end Go.Proofs.YtpgfkjcekhifiaaGreatDoor





namespace Go.Proofs.YtpgfkjcekhifiaaGreatDoor

open Go.RowKit

set_option linter.unusedVariables false

set_option linter.unusedSimpArgs false

def depIn (name : ByteArray) (f : DDp) : Bool := decide (f.1 = name) && (betw f.2.2 0 2 && f.2.1.all (fun c => betw c 0 2))

def subM (m : Nat) (cs : List Int) : Bool := cs.all (fun c => bitAt m c.toNat)

def stepM (name : ByteArray) (m : Nat) (f : DDp) : Nat := if depIn name f && subM m f.2.1 then m ||| 2 ^ f.2.2.toNat else m

def passM (name : ByteArray) (ds : List DDp) (m : Nat) : Nat := ds.foldl (stepM name) m

def clo (name : ByteArray) (ds : List DDp) (m : Nat) : Nat := passM name ds (passM name ds (passM name ds m))

def maskIn (cs : List Int) : Nat := (if has cs 0 then 1 else 0) ||| ((if has cs 1 then 2 else 0) ||| (if has cs 2 then 4 else 0))

def closure (ds : List DDp) (name : ByteArray) (cs : List Int) : List Int := bitsTo (clo name ds (maskIn cs)) 3

theorem depIn_to {name : ByteArray} {f : DDp} (h : depIn name f = true) : 0 ≤ f.2.2 ∧ f.2.2 ≤ 2 := by
  simp only [depIn, Bool.and_eq_true, betw, decide_eq_true_eq] at h
  exact h.2.1

theorem pow_to {x : Int} (h : 0 ≤ x ∧ x ≤ 2) : 2 ^ x.toNat < 8 := by
  obtain ⟨h1, h2⟩ := h
  have : x = 0 ∨ x = 1 ∨ x = 2 := by omega
  rcases this with rfl | rfl | rfl <;> decide

theorem stepM_lt {name : ByteArray} {m : Nat} {f : DDp} (hm : m < 8) : stepM name m f < 8 := by
  unfold stepM
  split
  · rename_i h
    rw [Bool.and_eq_true] at h
    exact Nat.or_lt_two_pow (n := 3) hm (pow_to (depIn_to h.1))
  · exact hm

theorem passM_lt {name : ByteArray} : ∀ {ds : List DDp} {m : Nat}, m < 8 → passM name ds m < 8
  | [], m, h => h
  | f :: t, m, h => passM_lt (ds := t) (stepM_lt h)

theorem and_absorb (m x : Nat) : m &&& (m ||| x) = m := by
  apply Nat.eq_of_testBit_eq; intro i
  rw [Nat.testBit_and, Nat.testBit_or]; cases m.testBit i <;> simp

theorem stepM_sub (name : ByteArray) (m : Nat) (f : DDp) : m &&& stepM name m f = m := by
  unfold stepM
  split
  · exact and_absorb m _
  · exact Nat.and_self m

theorem sub_trans {a b c : Nat} (h : a &&& b = a) (k : b &&& c = b) : a &&& c = a := by
  rw [← h, Nat.and_assoc, k]

theorem passM_sub (name : ByteArray) : ∀ (ds : List DDp) (m : Nat), m &&& passM name ds m = m
  | [], m => Nat.and_self m
  | f :: t, m => sub_trans (stepM_sub name m f) (passM_sub name t _)

def cnt3 (m : Nat) : Nat := m % 2 + m / 2 % 2 + m / 4 % 2

theorem cnt3_lt : ∀ a b : Fin 8, a.val &&& b.val = a.val → a ≠ b → cnt3 a.val < cnt3 b.val := by decide

theorem cnt3_top : ∀ a : Fin 8, 3 ≤ cnt3 a.val → a.val = 7 := by decide

theorem sub_top : ∀ a : Fin 8, 7 &&& a.val = 7 → a.val = 7 := by decide

theorem cnt3_sub {a b : Nat} (ha : a < 8) (hb : b < 8) (h : a &&& b = a) (hne : b ≠ a) : cnt3 a < cnt3 b :=
  cnt3_lt ⟨a, ha⟩ ⟨b, hb⟩ h (fun e => hne (by have := congrArg Fin.val e; exact this.symm))

theorem clo_fix {name : ByteArray} {ds : List DDp} {m : Nat} (hm : m < 8) : passM name ds (clo name ds m) = clo name ds m := by
  unfold clo
  obtain ⟨p, hp⟩ : ∃ p, p = passM name ds := ⟨_, rfl⟩
  have hlt : ∀ x, x < 8 → p x < 8 := by rw [hp]; exact fun x h => passM_lt h
  have hsub : ∀ x, x &&& p x = x := by rw [hp]; exact fun x => passM_sub name ds x
  rw [← hp]
  by_cases h1 : p m = m
  · rw [h1, h1, h1, h1]
  by_cases h2 : p (p m) = p m
  · rw [h2, h2, h2]
  by_cases h3 : p (p (p m)) = p (p m)
  · rw [h3, h3]
  have l1 := hlt m hm
  have l2 := hlt _ l1
  have l3 := hlt _ l2
  have c1 := cnt3_sub hm l1 (hsub m) h1
  have c2 := cnt3_sub l1 l2 (hsub _) h2
  have c3 := cnt3_sub l2 l3 (hsub _) h3
  have h7 : p (p (p m)) = 7 := cnt3_top ⟨_, l3⟩ (by show 3 ≤ cnt3 (p (p (p m))); omega)
  have h8 := hsub (p (p (p m)))
  rw [h7] at h8 ⊢
  exact sub_top ⟨p 7, hlt 7 (by omega)⟩ h8

theorem clo_pass {name : ByteArray} {ds : List DDp} {m : Nat} (hm : m < 8) : clo name ds (passM name ds m) = clo name ds m := by
  have h := clo_fix (name := name) (ds := ds) hm
  show passM name ds (passM name ds (passM name ds (passM name ds m))) = _
  exact h

theorem clo_stop {name : ByteArray} {ds : List DDp} {m : Nat} (h : passM name ds m = m) : clo name ds m = m := by
  unfold clo; rw [h, h, h]

theorem clo_lt {name : ByteArray} {ds : List DDp} {m : Nat} (hm : m < 8) : clo name ds m < 8 := passM_lt (passM_lt (passM_lt hm))

theorem maskIn_lt (cs : List Int) : maskIn cs < 8 := by
  unfold maskIn; split <;> split <;> split <;> decide

theorem passM_at {name : ByteArray} {ds : List DDp} {m j : Nat} {f : DDp} (h : ds[j]? = some f) : passM name (ds.drop j) m = passM name (ds.drop (j + 1)) (stepM name m f) := by
  obtain ⟨h1, rfl⟩ := List.getElem?_eq_some_iff.1 h
  rw [List.drop_eq_getElem_cons h1]; rfl

theorem passM_end {name : ByteArray} {ds : List DDp} {m j : Nat} (h : ds.length ≤ j) : passM name (ds.drop j) m = m := by
  rw [List.drop_eq_nil_of_le h]; rfl

structure Got (l : List Int) (m : Nat) : Prop where
  lt : m < 8
  nodup : l.Nodup
  rng : ∀ c ∈ l, 0 ≤ c ∧ c ≤ 2
  bit : ∀ j : Nat, j < 3 → bitAt m j = has l (j : Int)

theorem bitAt_or (m x j : Nat) : bitAt (m ||| x) j = (bitAt m j || bitAt x j) := by
  rw [bitAt_testBit, bitAt_testBit, bitAt_testBit, Nat.testBit_or]

theorem bitAt_pow (k j : Nat) : bitAt (2 ^ k) j = decide (k = j) := by
  rw [bitAt_testBit, Nat.testBit_two_pow]

theorem Got.add {l : List Int} {m : Nat} {c : Int} (h : Got l m) (hc : 0 ≤ c ∧ c ≤ 2) (hn : has l c = false) : Got (l ++ [c]) (m ||| 2 ^ c.toNat) := by
  refine ⟨Nat.or_lt_two_pow (n := 3) h.lt (pow_to hc), ?_, ?_, ?_⟩
  · rw [List.nodup_append]
    refine ⟨h.nodup, by simp, ?_⟩
    intro a ha b hb e
    simp only [List.mem_singleton] at hb
    subst hb; subst e
    simp [has, ha] at hn
  · intro a ha
    rcases List.mem_append.1 ha with ha | ha
    · exact h.rng a ha
    · simp only [List.mem_singleton] at ha; subst ha; exact hc
  · intro j hj
    rw [bitAt_or, h.bit j hj, bitAt_pow]
    unfold has
    rw [Bool.eq_iff_iff]
    simp only [Bool.or_eq_true, decide_eq_true_eq, List.mem_append, List.mem_singleton]
    constructor
    · rintro (h | h)
      · exact .inl h
      · exact .inr (by omega)
    · rintro (h | h)
      · exact .inl h
      · exact .inr (by omega)

theorem Got.old {l : List Int} {m : Nat} {c : Int} (h : Got l m) (hc : 0 ≤ c ∧ c ≤ 2) (hn : has l c = true) : m ||| 2 ^ c.toNat = m := by
  have h1 := h.bit c.toNat (by omega)
  rw [show ((c.toNat : Nat) : Int) = c by omega, hn] at h1
  apply Nat.eq_of_testBit_eq; intro i
  rw [Nat.testBit_or, Nat.testBit_two_pow]
  by_cases e : c.toNat = i
  · subst e; rw [bitAt_testBit] at h1; simp [h1]
  · simp [e]

theorem Got.sub {l : List Int} {m : Nat} {cs : List Int} (h : Got l m) (hc : ∀ c ∈ cs, 0 ≤ c ∧ c ≤ 2) : decide ((both cs l).length = cs.length) = subM m cs := by
  rw [Bool.eq_iff_iff]
  simp only [decide_eq_true_eq, subM, List.all_eq_true, both, List.length_filter_eq_length_iff]
  refine forall_congr' fun c => forall_congr' fun hm => ?_
  have hr := hc c hm
  have h1 := h.bit c.toNat (by omega)
  rw [show ((c.toNat : Nat) : Int) = c by omega] at h1
  rw [h1]

theorem bitsTo_sorted (m : Nat) : ∀ n, (bitsTo m n).Pairwise (· ≤ ·) ∧ (bitsTo m n).Nodup ∧ ∀ c, c ∈ bitsTo m n ↔ ∃ j : Nat, j < n ∧ c = (j : Int) ∧ bitAt m j = true
  | 0 => by simp [bitsTo]
  | n + 1 => by
    obtain ⟨h1, h2, h3⟩ := bitsTo_sorted m n
    by_cases hb : bitAt m n = true
    · rw [bitsTo_yes hb]
      refine ⟨?_, ?_, ?_⟩
      · rw [List.pairwise_append]
        refine ⟨h1, by simp, ?_⟩
        intro a ha b hb'
        simp only [List.mem_singleton] at hb'
        subst hb'
        obtain ⟨j, hj, rfl, _⟩ := (h3 a).1 ha
        omega
      · rw [List.nodup_append]
        refine ⟨h2, by simp, ?_⟩
        intro a ha b hb' e
        simp only [List.mem_singleton] at hb'
        subst hb'; subst e
        obtain ⟨j, hj, e2, _⟩ := (h3 _).1 ha
        omega
      · intro c
        simp only [List.mem_append, List.mem_singleton, h3]
        constructor
        · rintro (⟨j, hj, rfl, hb'⟩ | rfl)
          · exact ⟨j, by omega, rfl, hb'⟩
          · exact ⟨n, by omega, rfl, hb⟩
        · rintro ⟨j, hj, rfl, hb'⟩
          by_cases e : j = n
          · subst e; exact .inr rfl
          · exact .inl ⟨j, by omega, rfl, hb'⟩
    · rw [bitsTo_no (by simpa using hb)]
      refine ⟨h1, h2, fun c => ?_⟩
      rw [h3]
      constructor
      · rintro ⟨j, hj, rfl, hb'⟩; exact ⟨j, by omega, rfl, hb'⟩
      · rintro ⟨j, hj, rfl, hb'⟩
        by_cases e : j = n
        · subst e; exact absurd hb' hb
        · exact ⟨j, by omega, rfl, hb'⟩

theorem Got.perm {l : List Int} {m : Nat} (h : Got l m) : l.Perm (bitsTo m 3) := by
  obtain ⟨h1, h2, h3⟩ := bitsTo_sorted m 3
  refine (List.perm_ext_iff_of_nodup h.nodup h2).2 fun c => ?_
  rw [h3]
  constructor
  · intro hc
    have hr := h.rng c hc
    refine ⟨c.toNat, by omega, by omega, ?_⟩
    rw [h.bit _ (by omega), show ((c.toNat : Nat) : Int) = c by omega]
    simp [has, hc]
  · rintro ⟨j, hj, rfl, hb⟩
    rw [h.bit j hj] at hb
    simpa [has] using hb

theorem Got.len {l : List Int} {m : Nat} (h : Got l m) : l.length ≤ 3 := by
  rw [h.perm.length_eq]; exact bitsTo_len m 3

theorem Got.sorted {l s : List Int} {m : Nat} (h : Got l m) (hp : s.Perm l) (hs : s.Pairwise (· ≤ ·)) : s = bitsTo m 3 :=
  List.Perm.eq_of_pairwise (le := (· ≤ ·)) (fun a b _ _ => Int.le_antisymm) hs (bitsTo_sorted m 3).1 (hp.trans h.perm)

end Go.Proofs.YtpgfkjcekhifiaaGreatDoor





namespace Go.Proofs.YtpgfkjcekhifiaaGreatDoor

open Go.RowKit

set_option linter.unusedVariables false

set_option linter.unusedSimpArgs false

set_option synthInstance.maxSize 2000

set_option synthInstance.maxHeartbeats 400000

set_option maxHeartbeats 1000000 in
theorem both_any (u v : Value) (xs ys : List Int) (w : World) (h : rI.rep w [u] xs) (h' : rI.rep w [v] ys) (hn : xs.length ≤ 1048576) :
    Calls Tryz.prog 78 #[u, v] w fun e w' => ∃ u, e = .returned u ∧ Own oI w.heap.size w'.heap.size w' [u] (both xs ys) ∧ Below w.heap.size w w' := by
  obtain ⟨a, cap, rfl, _, _, hi⟩ := rI_open h
  obtain ⟨a', cap', rfl, _, _, hi'⟩ := rI_open h'
  clear h h'
  obtain ⟨n, hl⟩ : ∃ n, xs.length = n := ⟨_, rfl⟩
  rw [hl] at hi hn ⊢
  go_enter Tryz.func78, Tryz.ntmps78
  go_wp2
  go_loopw [5, 11] (fun v i wr => ∃ (j : Nat), j ≤ n ∧ i = .int .i64 j ∧ ∃ q, OwnInts w.heap.size wr v q (both (xs.take j) ys) ∧ Below w.heap.size w wr) (fun _ i _ => n - (intOf i).toNat)
  case atStart => exact ⟨0, Nat.zero_le _, rfl, 0, by rw [List.take_zero]; exact own_empty (Nat.le_refl _), (Below.refl _ _).alloc (Nat.le_refl _) _⟩
  case round =>
    obtain ⟨j, hj, rfl, q, hown, hbl⟩ := hrel
    have hsz := hbl.size
    replace hi := hi.below hbl
    replace hi' := hi'.below hbl
    have hq : q ≤ 1048576 := by have := hown.len; have := both_len (xs.take j) ys; have : (xs.take j).length ≤ j := List.length_take_le _ _; omega
    by_cases hlt : j < n
    · obtain ⟨b1, off, x, rfl, hc, hx, hx1, hx2⟩ := hi.get hlt
      have hcall := contains_any _ _ cap' _ x _ hi'
      obtain ⟨t, ht⟩ : ∃ t, t = has ys x := ⟨_, rfl⟩
      rw [← ht] at hcall
      have HC := Lib.hid hcall
      clear hcall
      cases t with
      | true =>
        have HB := Lib.hid (both_yes (show j < xs.length by omega) hx.out ht.symm)
        clear ht hi hl
        go_wp2_with (first
          | (go_at_call 39; refine (HC.out).mono ?_; rintro e w' ⟨rfl, rfl⟩)
          | (at_builtin; refine wpList_app1 _ _ _ _ _ _ hown hbl hsz ⟨by omega, by omega⟩ (by omega) rfl rfl rfl rfl ?_; intro v' w1 hown' hb' hsz'))
        rw [← HB.out] at hown'
        go_roundw
        case rel => exact ⟨j + 1, by omega, by go_num, q + 1, hown', hb'⟩
        case measure => simp [intOf]; omega
      | false =>
        rw [← both_no (show j < xs.length by omega) hx.out ht.symm] at hown
        have HO := Lib.hid hown
        clear ht hi hl hown
        go_wp2_with (first
          | (go_at_call 39; refine (HC.out).mono ?_; rintro e w' ⟨rfl, rfl⟩))
        go_roundw
        case rel => exact ⟨j + 1, by omega, by go_num, q, HO.out, hbl⟩
        case measure => simp [intOf]; omega
    · obtain rfl : j = n := by omega
      obtain ⟨a', cap2, rfl, _⟩ := own_form hown.row
      rw [both_end (by omega)] at hown
      have HO := Lib.hid hown
      clear hown hi hi' hl
      go_wp2
      go_ret
      exact ⟨_, rfl, HO.out.own, hbl⟩

end Go.Proofs.YtpgfkjcekhifiaaGreatDoor

namespace Go.Proofs.YtpgfkjcekhifiaaGreatDoor

open Go.RowKit

set_option linter.unusedVariables false

set_option linter.unusedSimpArgs false

set_option synthInstance.maxSize 2000

set_option synthInstance.maxHeartbeats 400000

theorem isColumn_any (x : Int) (w : World) :
    Calls Tryz.prog 43 #[.int .i64 x] w fun e w' => e = .returned (.bool (betw x 0 2)) ∧ w = w' := by
  go_enter Tryz.func43, Tryz.ntmps43
  go_wp2_with (refine (within_any _ _ _ _).mono ?_; rintro e w' ⟨rfl, rfl⟩)
  go_ret
  exact ⟨rfl, rfl⟩

theorem colFn_any (x : Int) (w : World) :
    Calls Tryz.prog 45 #[.int .i64 x] w fun e w' => e = .returned (.bool (!betw x 0 2)) ∧ w = w' := by
  go_enter Tryz.func45, Tryz.ntmps45
  go_wp2_with (refine (isColumn_any _ _).mono ?_; rintro e w' ⟨rfl, rfl⟩)
  go_ret
  exact ⟨rfl, rfl⟩

def outFrom (j : Nat) : List Int → Int
  | [] => -1
  | x :: t => if betw x 0 2 then outFrom (j + 1) t else (j : Int)

theorem outFrom_at {xs : List Int} {j : Nat} {x : Int} (hj : j < xs.length) (hx : xs.getD j 0 = x) : outFrom j (xs.drop j) = if betw x 0 2 then outFrom (j + 1) (xs.drop (j + 1)) else (j : Int) := by
  rw [drop_cons xs j hj, hx]; rfl

theorem outFrom_end {xs : List Int} {j : Nat} (hj : xs.length ≤ j) : outFrom j (xs.drop j) = -1 := by
  rw [List.drop_eq_nil_of_le hj]; rfl

theorem outFrom_all : ∀ {xs : List Int} {j : Nat}, decide (0 ≤ outFrom j xs) = !xs.all (fun c => betw c 0 2)
  | [], j => by simp [outFrom]
  | x :: t, j => by
    unfold outFrom
    by_cases h : betw x 0 2 = true
    · simp only [h, if_true, List.all_cons, Bool.true_and]; exact outFrom_all
    · simp [h]

set_option maxHeartbeats 1000000 in
theorem outIdx_any (a : Option Addr) (n cap : Nat) (xs : List Int) (w : World) (h : Ints w a n xs) :
    Calls Tryz.prog 77 #[.slice a n cap, .func (.func 45) #[] #[]] w fun e w' => e = .returned (.int .i64 (outFrom 0 xs)) ∧ w = w' := by
  have hl := h.len
  have hn := h.small
  have HV : Hid (outFrom 0 xs = outFrom 0 (xs.drop 0)) := rfl
  have hb0 : Below w.heap.size w w := Below.refl _ _
  go_enter Tryz.func77, Tryz.ntmps77
  go_wp2_with fail
  go_loopw [8] (fun k wr => ∃ j : Nat, j ≤ n ∧ k = .int .i64 j ∧ Hid (outFrom 0 xs = outFrom j (xs.drop j)) ∧ w = wr) (fun k _ => n - (intOf k).toNat)
  case atStart => exact ⟨0, Nat.zero_le _, rfl, HV.out, rfl⟩
  case round =>
    obtain ⟨j, hj, rfl, hE, rfl⟩ := hrel
    by_cases hlt : j < n
    · obtain ⟨b0, o0, x, rfl, hc, hx, _, _⟩ := h.get hlt
      have c0_lt : b0 < w.heap.size := cell_lt hc
      have c0 : w.cell? ⟨b0, o0 + j, none⟩ = some (.int .i64 x) := (hb0.cell (p := ⟨b0, o0 + j, none⟩) c0_lt).trans hc
      have HA := Lib.hid (hE.out.trans (outFrom_at (by omega) hx.out))
      have hcall := colFn_any x w
      obtain ⟨t, ht⟩ : ∃ t, t = betw x 0 2 := ⟨_, rfl⟩
      rw [← ht] at HA hcall
      have HC := Lib.hid hcall
      clear hE HV hl h hcall ht hx hc
      cases t with
      | true =>
        have HE := Lib.hid (show outFrom 0 xs = outFrom (j + 1) (xs.drop (j + 1)) by rw [HA.out]; rfl)
        go_wp2_with (go_at_call 45; refine HC.out.mono ?_; rintro e w' ⟨rfl, rfl⟩)
        go_roundw
        case rel => exact ⟨j + 1, by omega, by go_num, HE.out, trivial⟩
        case measure => simp [intOf]; omega
      | false =>
        have HE := Lib.hid (show outFrom 0 xs = (j : Int) by rw [HA.out]; rfl)
        go_wp2_with (go_at_call 45; refine HC.out.mono ?_; rintro e w' ⟨rfl, rfl⟩)
        go_ret
        exact ⟨ret_int HE.out.symm, rfl⟩
    · have HE := Lib.hid (hE.out.trans (outFrom_end (by omega)))
      clear hE HV hl h
      go_wp2_with fail
      go_ret
      exact ⟨ret_int HE.out.symm, rfl⟩

theorem outFn_any (a : Option Addr) (n cap : Nat) (xs : List Int) (w : World) (h : Ints w a n xs) :
    Calls Tryz.prog 44 #[.slice a n cap, .func (.func 45) #[] #[]] w fun e w' => e = .returned (.bool (!xs.all (fun c => betw c 0 2))) ∧ w = w' := by
  have H := Lib.hid (outFrom_all (xs := xs) (j := 0))
  have HC := Lib.hid (outIdx_any a n cap xs w h)
  clear h
  go_enter Tryz.func44, Tryz.ntmps44
  go_wp2_with (go_at_call 77; refine HC.out.mono ?_; rintro e w' ⟨rfl, rfl⟩)
  go_ret
  exact ⟨ret_bool H.out, rfl⟩

theorem hasAll_any (u v : Value) (xs ys : List Int) (w : World) (h : rI.rep w [u] xs) (h' : rI.rep w [v] ys) (hn : ys.length ≤ 1048576) :
    Calls Tryz.prog 46 #[u, v] w fun e w' => e = .returned (.bool (decide ((both ys xs).length = ys.length))) ∧ Below w.heap.size w w' := by
  obtain ⟨a, cap, rfl, _, _, hi⟩ := rI_open h
  obtain ⟨a', cap', rfl, _, _, hi'⟩ := rI_open h'
  have HC := Lib.hid (both_any _ _ ys xs w h' h hn)
  clear h h' hi hi'
  have hb0 : Below w.heap.size w w := Below.refl _ _
  go_enter Tryz.func46, Tryz.ntmps46
  go_wp2_with fail
  refine HC.out.mono ?_
  rintro e w9 ⟨u, rfl, ho, z9⟩
  obtain ⟨vb, vn, vc, rfl⟩ := oI_form1 ho
  have hln := (rI_ints (ho.rd reads_I)).len
  clear ho
  go_wp2_with fail
  go_ret
  refine ⟨ret_bool ?_, z9⟩
  rw [hln, Bool.eq_iff_iff, beq_iff_eq, decide_eq_true_eq]; omega

def lenOf : Value → Nat
  | .slice _ n _ => n
  | _ => 0

def flagOf : Value → Nat
  | .bool true => 1
  | _ => 0

theorem maskIn_bit (cs : List Int) : ∀ j : Nat, j < 3 → bitAt (maskIn cs) j = has cs (j : Int) := by
  intro j hj
  have hb : ∀ a b c : Bool, ∀ k : Fin 3, bitAt ((if a then 1 else 0) ||| ((if b then 2 else 0) ||| (if c then 4 else 0))) k.val = (if k.val = 0 then a else if k.val = 1 then b else c) := by decide
  have h9 := hb (has cs 0) (has cs 1) (has cs 2) ⟨j, hj⟩
  rw [maskIn, h9]
  have : j = 0 ∨ j = 1 ∨ j = 2 := by omega
  rcases this with rfl | rfl | rfl <;> rfl

theorem got_bits {m : Nat} (h : m < 8) : Got (bitsTo m 3) m := by
  obtain ⟨h1, h2, h3⟩ := bitsTo_sorted m 3
  refine ⟨h, h2, fun c hc => ?_, fun j hj => ?_⟩
  · obtain ⟨j, hj, rfl, _⟩ := (h3 c).1 hc; omega
  · rw [Bool.eq_iff_iff]
    simp only [has, decide_eq_true_eq, h3]
    constructor
    · intro hb; exact ⟨j, hj, rfl, hb⟩
    · rintro ⟨i, _, e, hb⟩
      have : i = j := by omega
      subst this; exact hb

end Go.Proofs.YtpgfkjcekhifiaaGreatDoor

namespace Go.Proofs.YtpgfkjcekhifiaaGreatDoor

open Go.RowKit

set_option linter.unusedVariables false

set_option linter.unusedSimpArgs false

set_option synthInstance.maxSize 2000

set_option synthInstance.maxHeartbeats 400000

def orM (m : Nat) (cs : List Int) : Nat := cs.foldl (fun m c => if betw c 0 2 then m ||| 2 ^ c.toNat else m) m

theorem orM_at {m j : Nat} {cs : List Int} {x : Int} (hj : j < cs.length) (hx : cs.getD j 0 = x) : orM m (cs.drop j) = orM (if betw x 0 2 then m ||| 2 ^ x.toNat else m) (cs.drop (j + 1)) := by
  rw [drop_cons cs j hj, hx]; rfl

theorem orM_end {m j : Nat} {cs : List Int} (hj : cs.length ≤ j) : orM m (cs.drop j) = m := by
  rw [List.drop_eq_nil_of_le hj]; rfl

theorem betw2 {x : Int} (h : betw x 0 2 = true) : 0 ≤ x ∧ x ≤ 2 := by
  simpa [betw] using h

theorem orM_spec : ∀ {cs : List Int} {m : Nat}, m < 8 → orM m cs < 8 ∧ ∀ j : Nat, j < 3 → bitAt (orM m cs) j = (bitAt m j || has cs (j : Int))
  | [], m, h => ⟨h, fun j _ => by simp [orM, has]⟩
  | x :: t, m, h => by
    show orM (if betw x 0 2 then m ||| 2 ^ x.toNat else m) t < 8 ∧ ∀ j : Nat, j < 3 → bitAt (orM (if betw x 0 2 then m ||| 2 ^ x.toNat else m) t) j = _
    by_cases hb : betw x 0 2 = true
    · rw [if_pos hb]
      have hx := betw2 hb
      obtain ⟨h1, h2⟩ := @orM_spec t (m ||| 2 ^ x.toNat) (Nat.or_lt_two_pow (n := 3) h (pow_to hx))
      refine ⟨h1, fun j hj => ?_⟩
      rw [h2 j hj, bitAt_or, bitAt_pow, Bool.or_assoc]
      congr 1
      rw [Bool.eq_iff_iff]
      simp only [has, Bool.or_eq_true, decide_eq_true_eq, List.mem_cons]
      constructor
      · rintro (e | e)
        · exact .inl (by omega)
        · exact .inr e
      · rintro (e | e)
        · exact .inl (by omega)
        · exact .inr e
    · rw [if_neg hb]
      obtain ⟨h1, h2⟩ := @orM_spec t m h
      refine ⟨h1, fun j hj => ?_⟩
      rw [h2 j hj]
      congr 1
      rw [Bool.eq_iff_iff]
      simp only [has, decide_eq_true_eq, List.mem_cons]
      constructor
      · exact fun e => .inr e
      · rintro (e | e)
        · subst e; exact absurd (by simp [betw]; omega) hb
        · exact e

theorem eq8 : ∀ a b : Fin 8, bitAt a.val 0 = bitAt b.val 0 → bitAt a.val 1 = bitAt b.val 1 → bitAt a.val 2 = bitAt b.val 2 → a = b := by decide

theorem orM_mask (cs : List Int) : orM 0 cs = maskIn cs := by
  obtain ⟨h1, h2⟩ := @orM_spec cs 0 (by omega)
  have key : ∀ j : Nat, j < 3 → bitAt (orM 0 cs) j = bitAt (maskIn cs) j := fun j hj => by
    rw [h2 j hj, maskIn_bit cs j hj]
    have : bitAt 0 j = false := by simp [bitAt]
    rw [this, Bool.false_or]
  have := eq8 ⟨_, h1⟩ ⟨_, maskIn_lt cs⟩ (key 0 (by omega)) (key 1 (by omega)) (key 2 (by omega))
  exact congrArg Fin.val this

def passN (name : ByteArray) (ds : List DDp) : Nat → Nat → Nat
  | 0, m => m
  | k + 1, m => passN name ds k (passM name ds m)

theorem passN_at {name : ByteArray} {ds : List DDp} {n m : Nat} (h : n < 3) : passN name ds (3 - n) m = passN name ds (3 - (n + 1)) (passM name ds m) := by
  rw [show 3 - n = (3 - (n + 1)) + 1 by omega]; rfl

def fromM (m : Nat) (cs : List Int) : Bool := cs.all (fun c => betw c 0 2 && bitAt m c.toNat)

theorem fromM_at {m j : Nat} {cs : List Int} {x : Int} (hj : j < cs.length) (hx : cs.getD j 0 = x) : fromM m (cs.drop j) = ((betw x 0 2 && bitAt m x.toNat) && fromM m (cs.drop (j + 1))) := by
  rw [drop_cons cs j hj, hx]; rfl

theorem fromM_end {m j : Nat} {cs : List Int} (hj : cs.length ≤ j) : fromM m (cs.drop j) = true := by
  rw [List.drop_eq_nil_of_le hj]; rfl

theorem depIn_from {name m1 : ByteArray} {fr : List Int} {to : Int} {m : Nat} : (depIn name (m1, fr, to) && subM m fr) = ((decide (m1 = name) && betw to 0 2) && fromM m fr) := by
  rw [Bool.eq_iff_iff]
  simp only [depIn, subM, fromM, Bool.and_eq_true, List.all_eq_true]
  constructor
  · rintro ⟨⟨h1, h2, h3⟩, h4⟩
    exact ⟨⟨h1, h2⟩, fun c hc => ⟨h3 c hc, h4 c hc⟩⟩
  · rintro ⟨⟨h1, h2⟩, h3⟩
    exact ⟨⟨h1, h2, fun c hc => (h3 c hc).1⟩, fun c hc => (h3 c hc).2⟩

theorem and3 {x : Int} (h : 0 ≤ x ∧ x ≤ 2) : bits .and .i64 x 3 = x := by
  have : x = 0 ∨ x = 1 ∨ x = 2 := by omega
  rcases this with rfl | rfl | rfl <;> decide

theorem bitTest8 {m c : Nat} (hm : m < 8) : (bits BinOp.and IntKind.i64 ((m : Int) / 2 ^ c) 1 == 1) = bitAt m c := bit_test m c (by omega)

set_option maxRecDepth 100000 in
set_option maxHeartbeats 4000000 in
theorem closure_spec (a : Option Addr) (n cap : Nat) (ds : List DDp) (name : ByteArray) (b : Option Addr) (cn cc : Nat) (cols : List Int) (w : World) (h : Sl rDp w a n ds) (h' : Ints w b cn cols) :
    Calls Tryz.prog 14 #[.slice a n cap, .string name, .slice b cn cc] w fun e w' => ∃ u, e = .returned u ∧ Own oI w.heap.size w'.heap.size w' [u] (closure ds name cols) ∧ Below w.heap.size w w' := by
  have hl := h.len
  have hn := h.small
  have hl' := h'.len
  have hn' := h'.small
  have HV : Hid (maskIn cols = orM 0 (cols.drop 0)) := Lib.hid (by rw [List.drop_zero, orM_mask])
  have hb0 : Below w.heap.size w w := Below.refl _ _
  go_enter Tryz.func14, Tryz.ntmps14
  go_wp2_with fail
  go_loopw [7, 8] (fun s k wr => ∃ j m : Nat, j ≤ cn ∧ m < 8 ∧ s = .int .i64 m ∧ k = .int .i64 j ∧ Hid (maskIn cols = orM m (cols.drop j)) ∧ w = wr) (fun _ k _ => cn - (intOf k).toNat)
  case atStart => exact ⟨0, 0, Nat.zero_le _, by omega, rfl, rfl, HV.out, rfl⟩
  case round =>
    obtain ⟨j, m, hj, hm, rfl, rfl, hE, rfl⟩ := hrel
    by_cases hlt : j < cn
    · obtain ⟨b0, o0, x, rfl, hc, hx, hx1, hx2⟩ := h'.get hlt
      have c0_lt : b0 < w.heap.size := cell_lt hc
      have c0 : w.cell? ⟨b0, o0 + j, none⟩ = some (.int .i64 x) := (hb0.cell (p := ⟨b0, o0 + j, none⟩) c0_lt).trans hc
      have HA := Lib.hid (hE.out.trans (orM_at (by omega) hx.out))
      clear hE HV h h' hl hl' hc
      by_cases hb : betw x 0 2 = true
      · obtain ⟨c, rfl, hc2⟩ := betw_nat hb
        have HE : Hid (maskIn cols = orM (m ||| 2 ^ c) (cols.drop (j + 1))) := Lib.hid (by rw [HA.out, if_pos hb]; rfl)
        have hmo : m ||| 2 ^ c < 8 := Nat.or_lt_two_pow (n := 3) hm (pow_to (x := (c : Int)) ⟨by omega, by omega⟩)
        have hcall := l1In_any (c : Int) 0 2 w
        rw [hb] at hcall
        have HC := Lib.hid hcall
        clear HA hx hcall hb
        go_wp2_with fail
        refine (HC.out).mono ?_
        rintro e w' ⟨rfl, rfl⟩
        go_wp2_with fail
        go_roundw
        case rel => exact ⟨j + 1, m ||| 2 ^ c, by omega, hmo, by show Value.int _ _ = _; first | (rw [or_pow (by omega) (by omega)]) | (rw [← or_pow (m := m) (v := c) (by omega) (by omega)]; rfl), by go_num, HE.out, trivial⟩
        case measure => simp [intOf]; omega
      · have HE : Hid (maskIn cols = orM m (cols.drop (j + 1))) := Lib.hid (by rw [HA.out, if_neg hb])
        have hcall := l1In_any x 0 2 w
        rw [show betw x 0 2 = false by simpa using hb] at hcall
        have HC := Lib.hid hcall
        clear HA hx hcall hb
        go_wp2_with fail
        refine (HC.out).mono ?_
        rintro e w' ⟨rfl, rfl⟩
        go_wp2_with fail
        go_roundw
        case rel => exact ⟨j + 1, m, by omega, hm, rfl, by go_num, HE.out, trivial⟩
        case measure => simp [intOf]; omega
    · have HM : Hid (closure ds name cols = bitsTo (passN name ds (3 - 0) m) 3) := Lib.hid (by rw [closure, hE.out, orM_end (by omega)]; rfl)
      clear hE HV h' hl'
      go_wp2_with fail
      go_loopw [7, 9] (fun s k wr => ∃ j m : Nat, j ≤ 3 ∧ m < 8 ∧ s = .int .i64 m ∧ k = .int .i64 j ∧ Hid (closure ds name cols = bitsTo (passN name ds (3 - j) m) 3) ∧ w = wr) (fun _ k _ => 3 - (intOf k).toNat)
      case atStart => exact ⟨0, m, by omega, hm, rfl, rfl, HM.out, rfl⟩
      case round =>
        obtain ⟨r, m, hr3, hm, rfl, rfl, hE, rfl⟩ := hrel
        clear HM
        by_cases hlt3 : r < 3
        · have HP : Hid (passM name ds m = passM name (ds.drop 0) m) := rfl
          have HA : Hid (closure ds name cols = bitsTo (passN name ds (3 - (r + 1)) (passM name ds m)) 3) := Lib.hid (by rw [hE.out, passN_at hlt3])
          clear hE
          have hr9 : (r : Int) < 3 := by omega
          have hd3 : decide ((r : Int) < 3) = true := decide_eq_true hr9
          go_wp2_with fail
          go_loopw [7, 10] (fun s k wr => ∃ j m' : Nat, j ≤ n ∧ m' < 8 ∧ s = .int .i64 m' ∧ k = .int .i64 j ∧ Hid (passM name ds m = passM name (ds.drop j) m') ∧ w = wr) (fun _ k _ => n - (intOf k).toNat)
          case atStart => exact ⟨0, m, Nat.zero_le _, hm, rfl, rfl, HP.out, rfl⟩
          case round =>
            obtain ⟨i, m', hi, hm', rfl, rfl, hF, rfl⟩ := hrel
            clear HP
            by_cases hlti : i < n
            · obtain ⟨b1, o1, cs, f, rfl, hx, hr, hc⟩ := h.at hlti
              obtain ⟨m1, fr, to⟩ := f
              obtain ⟨fb, fn, fc, rfl, hs0, gf, hto⟩ := rDp_open hr
              simp only at hs0 gf hto
              have i0 := rI_ints gf
              have hfl := i0.len
              have hfn := i0.small
              have e_lt : b1 < w.heap.size := cell_lt (hc 0 _ rfl)
              have e_0 : w.cell? ⟨b1, o1 + i * 3, none⟩ = some (.string m1) := (hb0.cell (p := ⟨b1, o1 + i * 3, none⟩) e_lt).trans (by have h9 := hc 0 _ rfl; rw [← Nat.add_assoc] at h9; exact h9)
              have e_1 : w.cell? ⟨b1, o1 + i * 3 + 1, none⟩ = some (.slice fb fn fc) := (hb0.cell (p := ⟨b1, o1 + i * 3 + 1, none⟩) e_lt).trans (by have h9 := hc 1 _ rfl; rw [← Nat.add_assoc] at h9; exact h9)
              have e_2 : w.cell? ⟨b1, o1 + i * 3 + 2, none⟩ = some (.int .i64 to) := (hb0.cell (p := ⟨b1, o1 + i * 3 + 2, none⟩) e_lt).trans (by have h9 := hc 2 _ rfl; rw [← Nat.add_assoc] at h9; exact h9)
              have HS := Lib.hid (hF.out.trans (passM_at hx.out))
              obtain ⟨D, hD⟩ : ∃ D, D = (depIn name (m1, fr, to) && subM m' fr) := ⟨_, rfl⟩
              have HD : Hid (D = ((decide (m1 = name) && betw to 0 2) && fromM m' (fr.drop 0))) := Lib.hid (by rw [hD, depIn_from]; rfl)
              have HT : Hid (D = true → 0 ≤ to ∧ to ≤ 2) := Lib.hid (fun h => by rw [hD, Bool.and_eq_true] at h; exact depIn_to h.1)
              have HS2 : Hid (passM name ds m = passM name (ds.drop (i + 1)) (if D then m' ||| 2 ^ to.toNat else m')) := Lib.hid (by rw [HS.out, stepM, ← hD])
              clear hF HS hD hc hx hr gf hs0 hl
              obtain ⟨p, hp⟩ : ∃ p, betw to 0 2 = p := ⟨_, rfl⟩
              have hcall := l1In_any to 0 2 w
              rw [hp] at hcall HD
              have HC := Lib.hid hcall
              clear hcall hp
              by_cases hnm : m1 = name
              · have hnm' := hnm.symm
                subst hnm'
                have hq : (name.toList == name.toList) = true := by simp
                rw [decide_eq_true rfl, Bool.true_and] at HD
                go_wp2_with fail
                refine (HC.out).mono ?_
                rintro e w' ⟨rfl, rfl⟩
                go_wp2_with fail
                go_loopw [11, 12] (fun s k wr => ∃ (q : Nat) (b : Bool), q ≤ fn ∧ s = .bool b ∧ k = .int .i64 q ∧ Hid (D = (b && fromM m' (fr.drop q))) ∧ w = wr) (fun _ k _ => fn - (intOf k).toNat)
                case atStart => exact ⟨0, p, Nat.zero_le _, rfl, rfl, HD.out, rfl⟩
                case round =>
                  obtain ⟨q, b, hq, rfl, rfl, hG, rfl⟩ := hrel
                  clear HD
                  by_cases hltq : q < fn
                  · obtain ⟨b2, o2, x, rfl, hcx, hx, hx1, hx2⟩ := i0.get hltq
                    have x0_lt : b2 < w.heap.size := cell_lt hcx
                    have x0 : w.cell? ⟨b2, o2 + q, none⟩ = some (.int .i64 x) := (hb0.cell (p := ⟨b2, o2 + q, none⟩) x0_lt).trans hcx
                    have HA2 := Lib.hid (hG.out.trans (by rw [fromM_at (by omega) hx.out]))
                    clear hG hcx hx
                    cases b with
                    | false =>
                      have HE : Hid (D = (false && fromM m' (fr.drop (q + 1)))) := Lib.hid (by rw [HA2.out]; rfl)
                      go_wp2_with fail
                      first
                        | (go_roundw; (case rel => exact ⟨q + 1, false, by omega, rfl, by go_num, HE.out, trivial⟩); (case measure => (simp [intOf]; omega)))
                        | (refine ⟨?_, ?measure⟩; (iterate 30 apply Exists.intro); (repeat apply Exists.intro); refine ⟨?rel, rfl⟩; (case rel => exact ⟨q + 1, false, by omega, rfl, by go_num, HE.out, trivial⟩); (case measure => (simp [intOf]; omega)))
                    | true =>
                      by_cases hb : betw x 0 2 = true
                      · obtain ⟨c, rfl, hc2⟩ := betw_nat hb
                        have hcall2 := l1In_any (c : Int) 0 2 w
                        rw [hb] at HA2 hcall2
                        have HC2 := Lib.hid hcall2
                        have ha3 := and3 (x := (c : Int)) ⟨by omega, by omega⟩
                        have hbt := bitTest8 (c := c) hm'
                        obtain ⟨t, ht⟩ : ∃ t, bitAt m' c = t := ⟨_, rfl⟩
                        have HE : Hid (D = (t && fromM m' (fr.drop (q + 1)))) := Lib.hid (by rw [HA2.out, show bitAt m' (c : Int).toNat = t from ht]; cases t <;> rfl)
                        rw [ht] at hbt
                        clear HA2 hcall2 hb ht
                        cases t with
                        | true =>
                          go_wp2_with fail
                          refine (HC2.out).mono ?_
                          rintro e w' ⟨rfl, rfl⟩
                          go_wp2_with fail
                          first
                            | (go_roundw; (case rel => exact ⟨q + 1, true, by omega, rfl, by go_num, HE.out, trivial⟩); (case measure => (simp [intOf]; omega)))
                            | (refine ⟨?_, ?measure⟩; (iterate 30 apply Exists.intro); (repeat apply Exists.intro); refine ⟨?rel, rfl⟩; (case rel => exact ⟨q + 1, true, by omega, rfl, by go_num, HE.out, trivial⟩); (case measure => (simp [intOf]; omega)))
                        | false =>
                          go_wp2_with fail
                          refine (HC2.out).mono ?_
                          rintro e w' ⟨rfl, rfl⟩
                          go_wp2_with fail
                          first
                            | (go_roundw; (case rel => exact ⟨q + 1, false, by omega, rfl, by go_num, HE.out, trivial⟩); (case measure => (simp [intOf]; omega)))
                            | (refine ⟨?_, ?measure⟩; (iterate 30 apply Exists.intro); (repeat apply Exists.intro); refine ⟨?rel, rfl⟩; (case rel => exact ⟨q + 1, false, by omega, rfl, by go_num, HE.out, trivial⟩); (case measure => (simp [intOf]; omega)))
                      · have hcall2 := l1In_any x 0 2 w
                        have hbf : betw x 0 2 = false := by simpa using hb
                        rw [hbf] at HA2 hcall2
                        have HC2 := Lib.hid hcall2
                        have HE : Hid (D = (false && fromM m' (fr.drop (q + 1)))) := Lib.hid (by rw [HA2.out]; rfl)
                        clear HA2 hcall2 hb hbf
                        go_wp2_with fail
                        refine (HC2.out).mono ?_
                        rintro e w' ⟨rfl, rfl⟩
                        go_wp2_with fail
                        first
                          | (go_roundw; (case rel => exact ⟨q + 1, false, by omega, rfl, by go_num, HE.out, trivial⟩); (case measure => (simp [intOf]; omega)))
                          | (refine ⟨?_, ?measure⟩; (iterate 30 apply Exists.intro); (repeat apply Exists.intro); refine ⟨?rel, rfl⟩; (case rel => exact ⟨q + 1, false, by omega, rfl, by go_num, HE.out, trivial⟩); (case measure => (simp [intOf]; omega)))
                  · have HE : Hid (D = b) := Lib.hid (by rw [hG.out, fromM_end (by omega), Bool.and_true])
                    clear hG i0 hfl
                    cases b with
                    | false =>
                      have HE2 : Hid (passM name ds m = passM name (ds.drop (i + 1)) m') := Lib.hid (by rw [HS2.out, HE.out]; rfl)
                      go_wp2_with fail
                      first
                        | (go_roundw; (case rel => exact ⟨i + 1, m', by omega, hm', rfl, by go_num, HE2.out, trivial⟩); (case measure => (simp [intOf]; omega)))
                        | (refine ⟨?_, ?measure⟩; (iterate 30 apply Exists.intro); (repeat apply Exists.intro); refine ⟨?rel, rfl⟩; (case rel => exact ⟨i + 1, m', by omega, hm', rfl, by go_num, HE2.out, trivial⟩); (case measure => (simp [intOf]; omega)))
                    | true =>
                      have hto := HT.out HE.out
                      have HE2 : Hid (passM name ds m = passM name (ds.drop (i + 1)) (m' ||| 2 ^ to.toNat)) := Lib.hid (by rw [HS2.out, HE.out]; rfl)
                      have hmo : m' ||| 2 ^ to.toNat < 8 := Nat.or_lt_two_pow (n := 3) hm' (pow_to hto)
                      obtain ⟨tn, rfl⟩ : ∃ tn : Nat, to = (tn : Int) := ⟨to.toNat, by omega⟩
                      have htn : tn ≤ 2 := by omega
                      rw [Int.toNat_natCast] at HE2 hmo
                      clear hto HT HS2
                      go_wp2_with fail
                      first
                        | (go_roundw; (case rel => exact ⟨i + 1, m' ||| 2 ^ tn, by omega, hmo, by show Value.int _ _ = _; first | (rw [or_pow (by omega) (by omega)]) | (rw [← or_pow (m := m') (v := tn) (by omega) (by omega)]; rfl), by go_num, HE2.out, trivial⟩); (case measure => (simp [intOf]; omega)))
                        | (refine ⟨?_, ?measure⟩; (iterate 30 apply Exists.intro); (repeat apply Exists.intro); refine ⟨?rel, rfl⟩; (case rel => exact ⟨i + 1, m' ||| 2 ^ tn, by omega, hmo, by show Value.int _ _ = _; first | (rw [or_pow (by omega) (by omega)]) | (rw [← or_pow (m := m') (v := tn) (by omega) (by omega)]; rfl), by go_num, HE2.out, trivial⟩); (case measure => (simp [intOf]; omega)))
              · have hq := bytes_ne hnm
                rw [decide_eq_false hnm, Bool.false_and] at HD
                clear hnm HC
                go_wp2_with fail
                go_loopw [11, 12] (fun s k wr => ∃ (q : Nat) (b : Bool), q ≤ fn ∧ s = .bool b ∧ k = .int .i64 q ∧ Hid (D = (b && fromM m' (fr.drop q))) ∧ w = wr) (fun _ k _ => fn - (intOf k).toNat)
                case atStart => exact ⟨0, false, Nat.zero_le _, rfl, rfl, HD.out, rfl⟩
                case round =>
                  obtain ⟨q, b, hq, rfl, rfl, hG, rfl⟩ := hrel
                  clear HD
                  by_cases hltq : q < fn
                  · obtain ⟨b2, o2, x, rfl, hcx, hx, hx1, hx2⟩ := i0.get hltq
                    have x0_lt : b2 < w.heap.size := cell_lt hcx
                    have x0 : w.cell? ⟨b2, o2 + q, none⟩ = some (.int .i64 x) := (hb0.cell (p := ⟨b2, o2 + q, none⟩) x0_lt).trans hcx
                    have HA2 := Lib.hid (hG.out.trans (by rw [fromM_at (by omega) hx.out]))
                    clear hG hcx hx
                    cases b with
                    | false =>
                      have HE : Hid (D = (false && fromM m' (fr.drop (q + 1)))) := Lib.hid (by rw [HA2.out]; rfl)
                      go_wp2_with fail
                      first
                        | (go_roundw; (case rel => exact ⟨q + 1, false, by omega, rfl, by go_num, HE.out, trivial⟩); (case measure => (simp [intOf]; omega)))
                        | (refine ⟨?_, ?measure⟩; (iterate 30 apply Exists.intro); (repeat apply Exists.intro); refine ⟨?rel, rfl⟩; (case rel => exact ⟨q + 1, false, by omega, rfl, by go_num, HE.out, trivial⟩); (case measure => (simp [intOf]; omega)))
                    | true =>
                      by_cases hb : betw x 0 2 = true
                      · obtain ⟨c, rfl, hc2⟩ := betw_nat hb
                        have hcall2 := l1In_any (c : Int) 0 2 w
                        rw [hb] at HA2 hcall2
                        have HC2 := Lib.hid hcall2
                        have ha3 := and3 (x := (c : Int)) ⟨by omega, by omega⟩
                        have hbt := bitTest8 (c := c) hm'
                        obtain ⟨t, ht⟩ : ∃ t, bitAt m' c = t := ⟨_, rfl⟩
                        have HE : Hid (D = (t && fromM m' (fr.drop (q + 1)))) := Lib.hid (by rw [HA2.out, show bitAt m' (c : Int).toNat = t from ht]; cases t <;> rfl)
                        rw [ht] at hbt
                        clear HA2 hcall2 hb ht
                        cases t with
                        | true =>
                          go_wp2_with fail
                          refine (HC2.out).mono ?_
                          rintro e w' ⟨rfl, rfl⟩
                          go_wp2_with fail
                          first
                            | (go_roundw; (case rel => exact ⟨q + 1, true, by omega, rfl, by go_num, HE.out, trivial⟩); (case measure => (simp [intOf]; omega)))
                            | (refine ⟨?_, ?measure⟩; (iterate 30 apply Exists.intro); (repeat apply Exists.intro); refine ⟨?rel, rfl⟩; (case rel => exact ⟨q + 1, true, by omega, rfl, by go_num, HE.out, trivial⟩); (case measure => (simp [intOf]; omega)))
                        | false =>
                          go_wp2_with fail
                          refine (HC2.out).mono ?_
                          rintro e w' ⟨rfl, rfl⟩
                          go_wp2_with fail
                          first
                            | (go_roundw; (case rel => exact ⟨q + 1, false, by omega, rfl, by go_num, HE.out, trivial⟩); (case measure => (simp [intOf]; omega)))
                            | (refine ⟨?_, ?measure⟩; (iterate 30 apply Exists.intro); (repeat apply Exists.intro); refine ⟨?rel, rfl⟩; (case rel => exact ⟨q + 1, false, by omega, rfl, by go_num, HE.out, trivial⟩); (case measure => (simp [intOf]; omega)))
                      · have hcall2 := l1In_any x 0 2 w
                        have hbf : betw x 0 2 = false := by simpa using hb
                        rw [hbf] at HA2 hcall2
                        have HC2 := Lib.hid hcall2
                        have HE : Hid (D = (false && fromM m' (fr.drop (q + 1)))) := Lib.hid (by rw [HA2.out]; rfl)
                        clear HA2 hcall2 hb hbf
                        go_wp2_with fail
                        refine (HC2.out).mono ?_
                        rintro e w' ⟨rfl, rfl⟩
                        go_wp2_with fail
                        first
                          | (go_roundw; (case rel => exact ⟨q + 1, false, by omega, rfl, by go_num, HE.out, trivial⟩); (case measure => (simp [intOf]; omega)))
                          | (refine ⟨?_, ?measure⟩; (iterate 30 apply Exists.intro); (repeat apply Exists.intro); refine ⟨?rel, rfl⟩; (case rel => exact ⟨q + 1, false, by omega, rfl, by go_num, HE.out, trivial⟩); (case measure => (simp [intOf]; omega)))
                  · have HE : Hid (D = b) := Lib.hid (by rw [hG.out, fromM_end (by omega), Bool.and_true])
                    clear hG i0 hfl
                    cases b with
                    | false =>
                      have HE2 : Hid (passM name ds m = passM name (ds.drop (i + 1)) m') := Lib.hid (by rw [HS2.out, HE.out]; rfl)
                      go_wp2_with fail
                      first
                        | (go_roundw; (case rel => exact ⟨i + 1, m', by omega, hm', rfl, by go_num, HE2.out, trivial⟩); (case measure => (simp [intOf]; omega)))
                        | (refine ⟨?_, ?measure⟩; (iterate 30 apply Exists.intro); (repeat apply Exists.intro); refine ⟨?rel, rfl⟩; (case rel => exact ⟨i + 1, m', by omega, hm', rfl, by go_num, HE2.out, trivial⟩); (case measure => (simp [intOf]; omega)))
                    | true =>
                      have hto := HT.out HE.out
                      have HE2 : Hid (passM name ds m = passM name (ds.drop (i + 1)) (m' ||| 2 ^ to.toNat)) := Lib.hid (by rw [HS2.out, HE.out]; rfl)
                      have hmo : m' ||| 2 ^ to.toNat < 8 := Nat.or_lt_two_pow (n := 3) hm' (pow_to hto)
                      obtain ⟨tn, rfl⟩ : ∃ tn : Nat, to = (tn : Int) := ⟨to.toNat, by omega⟩
                      have htn : tn ≤ 2 := by omega
                      rw [Int.toNat_natCast] at HE2 hmo
                      clear hto HT HS2
                      go_wp2_with fail
                      first
                        | (go_roundw; (case rel => exact ⟨i + 1, m' ||| 2 ^ tn, by omega, hmo, by show Value.int _ _ = _; first | (rw [or_pow (by omega) (by omega)]) | (rw [← or_pow (m := m') (v := tn) (by omega) (by omega)]; rfl), by go_num, HE2.out, trivial⟩); (case measure => (simp [intOf]; omega)))
                        | (refine ⟨?_, ?measure⟩; (iterate 30 apply Exists.intro); (repeat apply Exists.intro); refine ⟨?rel, rfl⟩; (case rel => exact ⟨i + 1, m' ||| 2 ^ tn, by omega, hmo, by show Value.int _ _ = _; first | (rw [or_pow (by omega) (by omega)]) | (rw [← or_pow (m := m') (v := tn) (by omega) (by omega)]; rfl), by go_num, HE2.out, trivial⟩); (case measure => (simp [intOf]; omega)))
            · have HE : Hid (passM name ds m = m') := Lib.hid (hF.out.trans (passM_end (by omega)))
              have HE2 : Hid (closure ds name cols = bitsTo (passN name ds (3 - (r + 1)) m') 3) := Lib.hid (by rw [HA.out, HE.out])
              clear hF HE HA
              go_wp2_with fail
              go_roundw
              case rel => exact ⟨r + 1, m', by omega, hm', rfl, by go_num, HE2.out, trivial⟩
              case measure => simp [intOf]; omega
        · have HB : Hid (closure ds name cols = bitsTo m 3) := Lib.hid (by rw [hE.out, show 3 - r = 0 by omega]; rfl)
          clear hE h hl
          go_wp2_with fail
          obtain ⟨w1, hw1⟩ : ∃ W, W = w.alloc (.cells #[] 3) := ⟨_, rfl⟩
          have z1 : Below w.heap.size w w1 := by rw [hw1]; exact (Below.refl _ _).alloc (Nat.le_refl _) _
          have s1 : w1.heap.size = w.heap.size + 1 := by rw [hw1]; simp
          have hb1 := on hb0 z1
          have he : ∀ S, Acc 3 O.int w.heap.size S w1.heap.size w1 (.slice (some ⟨w.heap.size, 0, none⟩) 0 0) [] := fun S => by rw [hw1]; exact Acc.empty (by omega) (by first | (simp; done) | (simp; omega))
          go_wp2_with fail
          rw [← hw1]
          clear hw1
          go_loopw [13, 14] (fun v k wr => ∃ j : Nat, j ≤ 3 ∧ k = .int .i64 j ∧ Acc 3 O.int w.heap.size w1.heap.size wr.heap.size wr v (bitsTo m j) ∧ Turn w.heap.size (w.heap.size + 1) w1 wr) (fun _ k _ => 3 - (intOf k).toNat)
          case atStart => exact ⟨0, Nat.zero_le _, rfl, (he _).wide (Nat.le_refl _) (by omega), turn_refl _ _ _⟩
          case round =>
            obtain ⟨j, hj, rfl, hacc, hdr⟩ := hrel
            have hlc := hdr
            have s2 := hdr.size
            have hb2 := hb1.trans ((hdr.below (by omega)).mono (by omega))
            have hbl := bitsTo_len m j
            by_cases hlt : j < 3
            · have hbt := bitTest8 (c := j) hm
              cases hb : bitAt m j with
              | true =>
                rw [hb] at hbt
                have HB2 := Lib.hid (bitsTo_yes hb)
                clear hb
                go_wp2_with ((at_builtin; refine wpList_accI _ _ _ _ _ hacc hlc rfl (by omega) (Nat.le_refl _) ⟨by omega, by omega⟩ (by omega) rfl rfl rfl rfl rfl ?_; intro v' w1 hacc' ht' hsz'))
                rw [← HB2.out] at hacc'
                go_roundw
                case rel => exact ⟨j + 1, by omega, by go_num, hacc', ht'⟩
                case measure => simp [intOf]; omega
              | false =>
                rw [hb] at hbt
                rw [← bitsTo_no hb] at hacc
                have HO := Lib.hid hacc
                clear hb hacc
                go_wp2_with fail
                go_roundw
                case rel => exact ⟨j + 1, by omega, by go_num, HO.out, hlc⟩
                case measure => simp [intOf]; omega
            · obtain rfl : j = 3 := by omega
              obtain ⟨a', n', cap2, rfl⟩ := hacc.form3
              rw [← HB.out] at hacc
              have HO := Lib.hid (hacc.own (B := w.heap.size) (by omega) (by omega) (Nat.le_refl _))
              clear hacc he
              go_wp2_with fail
              go_ret
              exact ⟨_, rfl, HO.out, hb2⟩

end Go.Proofs.YtpgfkjcekhifiaaGreatDoor
