/- Texts joined for one claim: KA, KII, KAn, KAs, KT, RowB, Canon, KQ, KTl, MarkG, ValidAn, ValidT, ColsOk, ContR, DedP, Eqs, KDb, MAn, MII, MTl, OwnHd, Sel, ValidAnS, ValidQ, EvalP, GrpP, KEqual, MaskP. -/
import Derived.Test.YtpgfkjcekhifiaaGreatQ22cca73baf
import Derived.Test.YtpgfkjcekhifiaaGreatQ52736f1836
import Derived.Test.YtpgfkjcekhifiaaGreatQ08746eaa10
import Derived.Deep.RegionHeld3

namespace Go.Proofs.YtpgfkjcekhifiaaGreat

open Go.RowKit

set_option linter.unusedVariables false

set_option linter.unusedSimpArgs false

set_option synthInstance.maxSize 2000

set_option synthInstance.maxHeartbeats 400000

abbrev DA := ByteArray × List Int

def rA : RS DA := R.pair R.str rI

def oA : OS DA := O.pair O.str oI

theorem reads_A : Reads oA rA := Reads.pair Reads.str reads_I

theorem rA_open {w : World} {cs : List Value} {x : DA} (h : rA.rep w cs x) : ∃ ub1 un1 uc1, cs = [.string x.1, .slice ub1 un1 uc1] ∧ x.1.size ≤ 9223372036854775807 ∧ rI.rep w [.slice ub1 un1 uc1] x.2 := by
  obtain ⟨c0a, c0b, rfl, ⟨rfl, hs0⟩, hr1⟩ := h
  obtain ⟨ub1, un1, uc1, rfl⟩ := rI_form hr1
  exact ⟨_, _, _, rfl, hs0, hr1⟩

theorem rA_form {w : World} {cs : List Value} {x : DA} (h : rA.rep w cs x) : ∃ ub1 un1 uc1, cs = [.string x.1, .slice ub1 un1 uc1] := by
  obtain ⟨ub1, un1, uc1, h1, _⟩ := rA_open h
  exact ⟨_, _, _, h1⟩

theorem oA_mk {lo hi l1 m1 : Nat} {w : World} {ub1 : Option Addr} {un1 uc1 : Nat} {x : DA} (hs0 : x.1.size ≤ 9223372036854775807) (ho1 : Own oI l1 m1 w [.slice ub1 un1 uc1] x.2) (a1 : lo ≤ l1) (b1 : m1 ≤ hi)  : Own oA lo hi w [.string x.1, .slice ub1 un1 uc1] x := by
  obtain ⟨f1, r1, n1, q1⟩ := ho1
  refine ⟨([] ++ f1), ⟨[.string x.1], [.slice ub1 un1 uc1], [], f1, rfl, rfl, ⟨rfl, hs0, rfl⟩, r1⟩, ?_, ?_⟩
  · try simp only [List.nil_append, List.append_nil]
    exact n1
  · intro p hp
    try simp only [List.nil_append, List.append_nil, List.mem_append] at hp
    have := q1 p hp; omega

end Go.Proofs.YtpgfkjcekhifiaaGreat

namespace Go.Proofs.YtpgfkjcekhifiaaGreat

open Go.RowKit

set_option linter.unusedVariables false

set_option linter.unusedSimpArgs false

set_option synthInstance.maxSize 2000

set_option synthInstance.maxHeartbeats 400000

theorem rII_form {w : World} {cs : List Value} {xs : List (List Int)} (h : rII.rep w cs xs) : ∃ b n c, cs = [.slice b n c] := rS_form h

theorem oII_form1 {lo hi : Nat} {w : World} {v : Value} {xs : List (List Int)} (h : Own oII lo hi w [v] xs) : ∃ b n c, v = .slice b n c := oS_form1 reads_I h

def bulk_II (xs : List (List Int)) : Nat := xs.length + sumBy bulk_I xs

end Go.Proofs.YtpgfkjcekhifiaaGreat

namespace Go.Proofs.YtpgfkjcekhifiaaGreat

open Go.RowKit

set_option linter.unusedVariables false

set_option linter.unusedSimpArgs false

set_option synthInstance.maxSize 2000

set_option synthInstance.maxHeartbeats 400000

abbrev DAn := (List Int) × List (List Int)

def rAn : RS DAn := R.pair rI rII

def oAn : OS DAn := O.pair oI oII

theorem reads_An : Reads oAn rAn := Reads.pair reads_I reads_II

theorem rAn_open {w : World} {cs : List Value} {x : DAn} (h : rAn.rep w cs x) : ∃ ub0 un0 uc0 ub1 un1 uc1, cs = [.slice ub0 un0 uc0, .slice ub1 un1 uc1] ∧ rI.rep w [.slice ub0 un0 uc0] x.1 ∧ rII.rep w [.slice ub1 un1 uc1] x.2 := by
  obtain ⟨c0a, c0b, rfl, hr0, hr1⟩ := h
  obtain ⟨ub0, un0, uc0, rfl⟩ := rI_form hr0
  obtain ⟨ub1, un1, uc1, rfl⟩ := rII_form hr1
  exact ⟨_, _, _, _, _, _, rfl, hr0, hr1⟩

theorem rAn_form {w : World} {cs : List Value} {x : DAn} (h : rAn.rep w cs x) : ∃ ub0 un0 uc0 ub1 un1 uc1, cs = [.slice ub0 un0 uc0, .slice ub1 un1 uc1] := by
  obtain ⟨ub0, un0, uc0, ub1, un1, uc1, h1, _⟩ := rAn_open h
  exact ⟨_, _, _, _, _, _, h1⟩

theorem oAn_form {lo hi : Nat} {w : World} {cs : List Value} {x : DAn} (h : Own oAn lo hi w cs x) : ∃ ub0 un0 uc0 ub1 un1 uc1, cs = [.slice ub0 un0 uc0, .slice ub1 un1 uc1] := rAn_form (h.rd reads_An)

theorem oAn_mk {lo hi l0 m0 l1 m1 : Nat} {w : World} {ub0 : Option Addr} {un0 uc0 : Nat} {ub1 : Option Addr} {un1 uc1 : Nat} {x : DAn} (ho0 : Own oI l0 m0 w [.slice ub0 un0 uc0] x.1) (ho1 : Own oII l1 m1 w [.slice ub1 un1 uc1] x.2) (a0 : lo ≤ l0) (b0 : m0 ≤ hi) (a1 : lo ≤ l1) (b1 : m1 ≤ hi) (d0_1 : m0 ≤ l1) : Own oAn lo hi w [.slice ub0 un0 uc0, .slice ub1 un1 uc1] x := by
  obtain ⟨f0, r0, n0, q0⟩ := ho0
  obtain ⟨f1, r1, n1, q1⟩ := ho1
  refine ⟨(f0 ++ f1), ⟨[.slice ub0 un0 uc0], [.slice ub1 un1 uc1], f0, f1, rfl, rfl, r0, r1⟩, ?_, ?_⟩
  · try simp only [List.nil_append, List.append_nil]
    exact List.nodup_append.2 ⟨n0, n1, fun p hp q hq e => by subst e; have := q0 p hp; have := q1 p hq; omega⟩
  · intro p hp
    try simp only [List.nil_append, List.append_nil, List.mem_append] at hp
    rcases hp with hp | hp
    · have := q0 p hp; omega
    · have := q1 p hp; omega

def bulk_An (x : DAn) : Nat := (bulk_I x.1) + (bulk_II x.2)

end Go.Proofs.YtpgfkjcekhifiaaGreat

namespace Go.Proofs.YtpgfkjcekhifiaaGreat

open Go.RowKit

set_option linter.unusedVariables false

set_option linter.unusedSimpArgs false

set_option synthInstance.maxSize 2000

set_option synthInstance.maxHeartbeats 400000

def rAs : RS (List DA) := R.slice rA

def oAs : OS (List DA) := O.slice 48 oA

theorem reads_As : Reads oAs rAs := Reads.slice _ reads_A

theorem rAs_form {w : World} {cs : List Value} {xs : List DA} (h : rAs.rep w cs xs) : ∃ b n c, cs = [.slice b n c] := rS_form h

end Go.Proofs.YtpgfkjcekhifiaaGreat

namespace Go.Proofs.YtpgfkjcekhifiaaGreat

open Go.RowKit

set_option linter.unusedVariables false

set_option linter.unusedSimpArgs false

set_option synthInstance.maxSize 2000

set_option synthInstance.maxHeartbeats 400000

abbrev DT := ByteArray × Int × List (List Int)

def rT : RS DT := R.pair R.str (R.pair R.int rII)

def oT : OS DT := O.pair O.str (O.pair O.int oII)

theorem reads_T : Reads oT rT := Reads.pair Reads.str (Reads.pair Reads.int reads_II)

theorem rT_open {w : World} {cs : List Value} {x : DT} (h : rT.rep w cs x) : ∃ ub2 un2 uc2, cs = [.string x.1, .int .i64 x.2.1, .slice ub2 un2 uc2] ∧ x.1.size ≤ 9223372036854775807 ∧ I64 x.2.1 ∧ rII.rep w [.slice ub2 un2 uc2] x.2.2 := by
  obtain ⟨c0a, c0b, rfl, ⟨rfl, hs0⟩, ⟨c1a, c1b, rfl, ⟨rfl, hi1⟩, hr2⟩⟩ := h
  obtain ⟨ub2, un2, uc2, rfl⟩ := rII_form hr2
  exact ⟨_, _, _, rfl, hs0, hi1, hr2⟩

theorem rT_form {w : World} {cs : List Value} {x : DT} (h : rT.rep w cs x) : ∃ ub2 un2 uc2, cs = [.string x.1, .int .i64 x.2.1, .slice ub2 un2 uc2] := by
  obtain ⟨ub2, un2, uc2, h1, _⟩ := rT_open h
  exact ⟨_, _, _, h1⟩

theorem oT_form {lo hi : Nat} {w : World} {cs : List Value} {x : DT} (h : Own oT lo hi w cs x) : ∃ ub2 un2 uc2, cs = [.string x.1, .int .i64 x.2.1, .slice ub2 un2 uc2] := rT_form (h.rd reads_T)

theorem oT_mk {lo hi l2 m2 : Nat} {w : World} {ub2 : Option Addr} {un2 uc2 : Nat} {x : DT} (hs0 : x.1.size ≤ 9223372036854775807) (hi1 : I64 x.2.1) (ho2 : Own oII l2 m2 w [.slice ub2 un2 uc2] x.2.2) (a2 : lo ≤ l2) (b2 : m2 ≤ hi)  : Own oT lo hi w [.string x.1, .int .i64 x.2.1, .slice ub2 un2 uc2] x := by
  obtain ⟨f2, r2, n2, q2⟩ := ho2
  refine ⟨([] ++ ([] ++ f2)), ⟨[.string x.1], [.int .i64 x.2.1, .slice ub2 un2 uc2], [], ([] ++ f2), rfl, rfl, ⟨rfl, hs0, rfl⟩, ⟨[.int .i64 x.2.1], [.slice ub2 un2 uc2], [], f2, rfl, rfl, ⟨rfl, hi1, rfl⟩, r2⟩⟩, ?_, ?_⟩
  · try simp only [List.nil_append, List.append_nil]
    exact n2
  · intro p hp
    try simp only [List.nil_append, List.append_nil, List.mem_append] at hp
    have := q2 p hp; omega

def bulk_T (x : DT) : Nat := (x.1.size) + (bulk_II x.2.2)

end Go.Proofs.YtpgfkjcekhifiaaGreat

namespace Go.Proofs.YtpgfkjcekhifiaaGreat

open Go.RowKit

set_option linter.unusedVariables false

set_option linter.unusedSimpArgs false

def rowB (row : List Int) (n : Int) : Bool := row.all (fun v => betw v 0 9) && decide ((row.length : Int) = n)

def rowsB (n : Int) (rows : List (List Int)) : Bool := rows.all (fun r => rowB r n)

def ascB : List (List Int) → Bool
  | a :: b :: t => decide (cmpRows a b < 0) && ascB (b :: t)
  | _ => true

theorem all_at {p : Int → Bool} {xs : List Int} {j : Nat} {x : Int} (hj : j < xs.length) (hx : xs.getD j 0 = x) : (xs.drop j).all p = (p x && (xs.drop (j + 1)).all p) := by
  rw [drop_cons xs j hj, hx]; rfl

theorem all_end {p : Int → Bool} {xs : List Int} {j : Nat} (hj : xs.length ≤ j) : (xs.drop j).all p = true := by
  rw [List.drop_eq_nil_of_le hj]; rfl

theorem drop_at {α : Type} {xs : List α} {j : Nat} {x : α} (h : xs[j]? = some x) : xs.drop j = x :: xs.drop (j + 1) := by
  obtain ⟨h1, rfl⟩ := List.getElem?_eq_some_iff.1 h
  exact List.drop_eq_getElem_cons h1

theorem rowsB_at {n : Int} {rows : List (List Int)} {j : Nat} {r : List Int} (h : rows[j]? = some r) : rowsB n (rows.drop j) = (rowB r n && rowsB n (rows.drop (j + 1))) := by
  rw [drop_at h]; rfl

theorem rowsB_end {n : Int} {rows : List (List Int)} {j : Nat} (hj : rows.length ≤ j) : rowsB n (rows.drop j) = true := by
  rw [List.drop_eq_nil_of_le hj]; rfl

theorem ascB_at {rows : List (List Int)} {j : Nat} {r s : List Int} (h : rows[j]? = some r) (h' : rows[j + 1]? = some s) : ascB (rows.drop j) = (decide (cmpRows r s < 0) && ascB (rows.drop (j + 1))) := by
  rw [drop_at h, drop_at h']; rfl

theorem ascB_end {rows : List (List Int)} {j : Nat} (hj : rows.length ≤ j + 1) : ascB (rows.drop j) = true := by
  have : (rows.drop j).length ≤ 1 := by rw [List.length_drop]; omega
  match h : rows.drop j, this with
  | [], _ => rfl
  | [a], _ => rfl

theorem rowB_no {row : List Int} {n : Int} {j : Nat} (h : rowB row n = ((row.drop j).all (fun v => betw v 0 9) && decide ((row.length : Int) = n))) {x : Int} (hj : j < row.length) (hx : row.getD j 0 = x) (hb : betw x 0 9 = false) : rowB row n = false := by
  rw [h, all_at hj hx, hb]; rfl

set_option maxHeartbeats 400000 in
theorem rowOk_any (a : Option Addr) (n cap : Nat) (xs : List Int) (m : Int) (w : World) (h : Ints w a n xs) :
    Calls Tryz.prog 35 #[.slice a n cap, .int .i64 m] w fun e w' => e = .returned (.bool (rowB xs m)) ∧ w = w' := by
  have hn := h.small
  have hl := h.len
  go_enter Tryz.func35, Tryz.ntmps35
  go_wp2
  go_loop [9] (fun k => ∃ j : Nat, j ≤ n ∧ k = .int .i64 j ∧ Hid (rowB xs m = ((xs.drop j).all (fun v => betw v 0 9) && decide ((xs.length : Int) = m)))) (fun k => n - (intOf k).toNat)
  case atStart => exact ⟨0, Nat.zero_le _, rfl, by simp [Hid, rowB]⟩
  case round =>
    obtain ⟨j, hj, rfl, hE⟩ := hrel
    by_cases hlt : j < n
    · obtain ⟨b, off, x, rfl, hc, hx, _, _⟩ := h.get hlt
      by_cases hb : betw x 0 9 = true
      · have HE := Lib.hid (hE.out.trans (show _ = ((xs.drop (j + 1)).all (fun v => betw v 0 9) && decide ((xs.length : Int) = m)) by rw [all_at (by omega) hx.out, hb, Bool.true_and]))
        clear h hl
        go_wp2_with fail
        refine (within_any _ _ _ _).mono ?_
        rintro e w' ⟨rfl, rfl⟩
        go_wp2_with fail
        go_round
        case rel => exact ⟨j + 1, by omega, by go_num, HE.out⟩
        case measure => simp [intOf]; omega
      · replace hb : betw x 0 9 = false := by simpa using hb
        have HE := Lib.hid (rowB_no hE.out (by omega) hx.out hb)
        clear h hl
        go_wp2_with fail
        refine (within_any _ _ _ _).mono ?_
        rintro e w' ⟨rfl, rfl⟩
        go_wp2_with fail
        go_ret
        exact ⟨ret_bool HE.out.symm, rfl⟩
    · have HE := Lib.hid (show decide ((n : Int) = m) = rowB xs m by rw [hE.out, all_end (by omega), hl, Bool.true_and])
      clear h hl
      go_wp2_with fail
      go_ret
      exact ⟨ret_bool (by rw [← HE.out]; rfl), rfl⟩

set_option maxHeartbeats 400000 in
theorem l4Row_any (a : Option Addr) (n cap : Nat) (xs : List Int) (m : Int) (w : World) (h : Ints w a n xs) :
    Calls Tryz.prog 73 #[.slice a n cap, .int .i64 m] w fun e w' => e = .returned (.bool (rowB xs m)) ∧ w = w' := by
  have hn := h.small
  have hl := h.len
  go_enter Tryz.func73, Tryz.ntmps73
  go_wp2
  go_loop [5] (fun k => ∃ j : Nat, j ≤ n ∧ k = .int .i64 j ∧ Hid (rowB xs m = ((xs.drop j).all (fun v => betw v 0 9) && decide ((xs.length : Int) = m)))) (fun k => n - (intOf k).toNat)
  case atStart => exact ⟨0, Nat.zero_le _, rfl, by simp [Hid, rowB]⟩
  case round =>
    obtain ⟨j, hj, rfl, hE⟩ := hrel
    by_cases hlt : j < n
    · obtain ⟨b, off, x, rfl, hc, hx, _, _⟩ := h.get hlt
      by_cases hb : betw x 0 9 = true
      · have HE := Lib.hid (hE.out.trans (show _ = ((xs.drop (j + 1)).all (fun v => betw v 0 9) && decide ((xs.length : Int) = m)) by rw [all_at (by omega) hx.out, hb, Bool.true_and]))
        clear h hl
        go_wp2_with fail
        refine (l1In_any _ _ _ _).mono ?_
        rintro e w' ⟨rfl, rfl⟩
        go_wp2_with fail
        go_round
        case rel => exact ⟨j + 1, by omega, by go_num, HE.out⟩
        case measure => simp [intOf]; omega
      · replace hb : betw x 0 9 = false := by simpa using hb
        have HE := Lib.hid (rowB_no hE.out (by omega) hx.out hb)
        clear h hl
        go_wp2_with fail
        refine (l1In_any _ _ _ _).mono ?_
        rintro e w' ⟨rfl, rfl⟩
        go_wp2_with fail
        go_ret
        exact ⟨ret_bool HE.out.symm, rfl⟩
    · have HE := Lib.hid (show decide ((n : Int) = m) = rowB xs m by rw [hE.out, all_end (by omega), hl, Bool.true_and])
      clear h hl
      go_wp2_with fail
      go_ret
      exact ⟨ret_bool (by rw [← HE.out]; rfl), rfl⟩

theorem isNaN_any (x : Int) (w : World) :
    Calls Tryz.prog 127 #[.int .i64 x] w fun e w' => e = .returned (.bool false) ∧ w = w' := by
  go_enter Tryz.func127, Tryz.ntmps127
  go_wp2
  go_ret
  exact ⟨rfl, rfl⟩

def cmpI (x y : Int) : Int := if x < y then -1 else if y < x then 1 else 0

theorem cmpI_any (x y : Int) (w : World) :
    Calls Tryz.prog 113 #[.int .i64 x, .int .i64 y] w fun e w' => e = .returned (.int .i64 (cmpI x y)) ∧ w = w' := by
  have HE1 := Lib.hid (show x < y → cmpI x y = -1 from fun h => by simp [cmpI, h])
  have HE2 := Lib.hid (show y < x → cmpI x y = 1 from fun h => by simp only [cmpI]; rw [if_neg (by omega), if_pos h])
  have HE3 := Lib.hid (show ¬ x < y → ¬ y < x → cmpI x y = 0 from fun h h' => by simp [cmpI, h, h'])
  go_enter Tryz.func113, Tryz.ntmps113
  go_wp2_with fail
  refine (isNaN_any _ _).mono ?_
  rintro e w' ⟨rfl, rfl⟩
  go_wp2_with fail
  refine (isNaN_any _ _).mono ?_
  rintro e w' ⟨rfl, rfl⟩
  by_cases h1 : x < y
  · go_wp2_with fail
    go_ret
    exact ⟨ret_int (HE1.out (by omega)).symm, rfl⟩
  · by_cases h2 : y < x
    · go_wp2_with fail
      go_ret
      exact ⟨ret_int (HE2.out (by omega)).symm, rfl⟩
    · go_wp2_with fail
      go_ret
      exact ⟨ret_int (HE3.out (by omega) (by omega)).symm, rfl⟩

set_option maxHeartbeats 800000 in
theorem compare_any (a b : Option Addr) (n m cap cap' : Nat) (xs ys : List Int) (w : World) (h : Ints w a n xs) (h' : Ints w b m ys) :
    Calls Tryz.prog 97 #[.slice a n cap, .slice b m cap'] w fun e w' => e = .returned (.int .i64 (cmpRows xs ys)) ∧ w = w' := by
  have hn := h.small
  have hm := h'.small
  have hl := h.len
  have hl' := h'.len
  go_enter Tryz.func97, Tryz.ntmps97
  go_wp2
  go_loop [11] (fun i => ∃ j : Nat, j ≤ n ∧ j ≤ m ∧ i = .int .i64 j ∧ Hid (cmpRows xs ys = cmpRows (xs.drop j) (ys.drop j))) (fun i => n - (intOf i).toNat)
  case atStart => exact ⟨0, Nat.zero_le _, Nat.zero_le _, rfl, rfl⟩
  case round =>
    obtain ⟨j, hj, hjm, rfl, hE⟩ := hrel
    by_cases hlt : j < n
    · by_cases hlm : j < m
      · obtain ⟨b1, o1, x, rfl, hc1, hx, _, _⟩ := h.get hlt
        obtain ⟨b2, o2, y, rfl, hc2, hy, _, _⟩ := h'.get hlm
        have HD := Lib.hid (show cmpRows xs ys = cmpRows (x :: xs.drop (j + 1)) (y :: ys.drop (j + 1)) by rw [hE.out, h.drop hlt hx, h'.drop hlm hy])
        have hcall := cmpI_any x y w
        clear hl hl' h h'
        by_cases h1 : x < y
        · have HE := Lib.hid (HD.out.trans (cmp_lt h1))
          rw [show cmpI x y = -1 by simp [cmpI, h1]] at hcall
          have HC := Lib.hid hcall
          clear hcall h1
          go_wp2_with fail
          refine (HC.out).mono ?_
          rintro e w' ⟨rfl, rfl⟩
          go_wp2_with fail
          go_ret
          exact ⟨ret_int HE.out.symm, rfl⟩
        · by_cases h2 : y < x
          · have HE := Lib.hid (HD.out.trans (cmp_gt h2))
            rw [show cmpI x y = 1 by simp [cmpI, h1, h2]] at hcall
            have HC := Lib.hid hcall
            clear hcall h1 h2
            go_wp2_with fail
            refine (HC.out).mono ?_
            rintro e w' ⟨rfl, rfl⟩
            go_wp2_with fail
            go_ret
            exact ⟨ret_int HE.out.symm, rfl⟩
          · have HE := Lib.hid (HD.out.trans (cmp_eq (show x = y by omega)))
            rw [show cmpI x y = 0 by simp [cmpI, h1, h2]] at hcall
            have HC := Lib.hid hcall
            clear hcall h1 h2
            go_wp2_with fail
            refine (HC.out).mono ?_
            rintro e w' ⟨rfl, rfl⟩
            go_wp2_with fail
            go_round
            case rel => exact ⟨j + 1, by omega, by omega, by go_num, HE.out⟩
            case measure => simp [intOf]; omega
      · have HE := Lib.hid (show cmpRows xs ys = 1 by
          rw [hE.out, List.drop_of_length_le (l := ys) (by omega), drop_cons xs j (by omega)]; rfl)
        have hmn : m ≤ j := by omega
        obtain ⟨b1, o1, x, rfl, hc1, hx, _, _⟩ := h.get hlt
        clear hl hl' h h' hjm hlm
        go_wp2_with fail
        go_ret
        exact ⟨ret_int HE.out.symm, rfl⟩
    · obtain rfl : j = n := by omega
      by_cases hlm : j < m
      · have HE := Lib.hid (show cmpRows xs ys = -1 by
          rw [hE.out, List.drop_of_length_le (l := xs) (by omega), drop_cons ys j (by omega)]; rfl)
        clear hl hl' h h'
        go_wp2_with fail
        go_ret
        exact ⟨ret_int HE.out.symm, rfl⟩
      · have HE := Lib.hid (show cmpRows xs ys = 0 by
          rw [hE.out, List.drop_of_length_le (l := xs) (by omega), List.drop_of_length_le (l := ys) (by omega)]; rfl)
        clear hl hl' h h'
        go_wp2_with fail
        go_ret
        exact ⟨ret_int HE.out.symm, rfl⟩

theorem cmpRows_any (a b : Option Addr) (n m cap cap' : Nat) (xs ys : List Int) (w : World) (h : Ints w a n xs) (h' : Ints w b m ys) :
    Calls Tryz.prog 69 #[.slice a n cap, .slice b m cap'] w fun e w' => e = .returned (.int .i64 (cmpRows xs ys)) ∧ w = w' := by
  go_enter Tryz.func69, Tryz.ntmps69
  go_wp2_with fail
  refine (compare_any _ _ _ _ _ _ _ _ _ h h').mono ?_
  rintro e w' ⟨rfl, rfl⟩
  go_wp2_with fail
  go_ret
  exact ⟨rfl, rfl⟩

set_option maxHeartbeats 800000 in
theorem ascending_any (a : Option Addr) (n cap : Nat) (xss : List (List Int)) (w : World) (h : Sl rI w a n xss) :
    Calls Tryz.prog 36 #[.slice a n cap] w fun e w' => e = .returned (.bool (ascB xss)) ∧ Drew w w' := by
  have hn := h.small
  have hl := h.len
  go_enter Tryz.func36, Tryz.ntmps36
  go_wp2
  go_loopw [3] (fun k wr => ∃ j : Nat, j ≤ n ∧ k = .int .i64 ((j : Int) + 1) ∧ Hid (ascB xss = ascB (xss.drop j)) ∧ Drew w wr) (fun k _ => n + 1 - (intOf k).toNat)
  case atStart => exact ⟨0, Nat.zero_le _, rfl, rfl, Drew.refl _⟩
  case round =>
    obtain ⟨j, hj, rfl, hE, hdr⟩ := hrel
    replace h := h.drew hdr
    by_cases hlt : j + 1 < n
    · obtain ⟨b1, o1, r1, m1, q1, x, rfl, hc1, hx, hi, _⟩ := h.row (show j < n by omega)
      obtain ⟨b2, o2, r2, m2, q2, y, hb2, hc2, hy, hi', _⟩ := h.row hlt
      simp at hb2
      obtain ⟨rfl, rfl⟩ := hb2
      have hcall := fun q => cmpRows_any r1 r2 m1 m2 q1 q2 x y (wr.drewN q) (hi.drewN q) (hi'.drewN q)
      obtain ⟨c, hc⟩ : ∃ c, c = cmpRows x y := ⟨_, rfl⟩
      rw [← hc] at hcall
      have HC := Lib.hid hcall
      have HA := Lib.hid (hE.out.trans (ascB_at hx.out hy.out))
      rw [← hc] at HA
      have e1 : ((j : Int) + 1 - 1) = (j : Int) := by omega
      have hk : ((j : Int) + 1) < (n : Int) := by omega
      have hc2' : wr.cell? ⟨b1, o1 + (j + 1), none⟩ = some (.slice r2 m2 q2) := hc2
      clear h hl hi hi' hcall hc hx hy hE
      by_cases h0 : c < 0
      · have HE := Lib.hid (show ascB xss = ascB (xss.drop (j + 1)) by rw [HA.out]; simp [h0])
        go_wp2_with fail
        go_quiet ((go_at_call 69; exact quiet_same (HC.out _)))
        go_wp2_with fail
        go_roundw
        case rel => exact ⟨j + 1, by omega, by go_num, HE.out, hdr.step _⟩
        case measure => simp [intOf]; omega
      · have HE := Lib.hid (show ascB xss = false by rw [HA.out]; simp [h0])
        go_wp2_with fail
        go_quiet ((go_at_call 69; exact quiet_same (HC.out _)))
        go_wp2_with fail
        go_ret
        exact ⟨ret_bool HE.out.symm, hdr.step _⟩
    · have HE := Lib.hid (hE.out.trans (ascB_end (by omega)))
      have hk : ¬ ((j : Int) + 1) < (n : Int) := by omega
      clear h hl hE
      go_wp2_with fail
      go_ret
      exact ⟨ret_bool HE.out.symm, hdr⟩

end Go.Proofs.YtpgfkjcekhifiaaGreat

namespace Go.Proofs.YtpgfkjcekhifiaaGreat

open Go.RowKit

set_option linter.unusedVariables false

set_option linter.unusedSimpArgs false

def Asc (l : List (List Int)) : Prop := l.Pairwise (fun a b => cmpRows a b < 0)

theorem cmpRows_lt_iff {a b : List Int} : cmpRows a b < 0 ↔ cmpRows a b = -1 := by
  have := cmpRows_rng a b; omega

theorem cmpRows_gt_iff {a b : List Int} : 0 < cmpRows a b ↔ cmpRows b a < 0 := by
  rw [cmpRows_swap a b]; omega

theorem cmpRows_lt_trans {a b c : List Int} (h : cmpRows a b < 0) (k : cmpRows b c < 0) : cmpRows a c < 0 :=
  cmpRows_lt_iff.2 (cmpRows_trans a b c (cmpRows_lt_iff.1 h) (cmpRows_lt_iff.1 k))

theorem ascB_asc : ∀ {l : List (List Int)}, ascB l = true ↔ Asc l
  | [] => by simp [ascB, Asc]
  | [x] => by simp [ascB, Asc]
  | x :: y :: t => by
    have ih := @ascB_asc (y :: t)
    simp only [ascB, Bool.and_eq_true, decide_eq_true_eq, ih, Asc, List.pairwise_cons]
    constructor
    · rintro ⟨h, k⟩
      refine ⟨fun z hz => ?_, k⟩
      rcases List.mem_cons.1 hz with rfl | hz
      · exact h
      · exact cmpRows_lt_trans h (k.1 z hz)
    · rintro ⟨h, k⟩
      exact ⟨h y (List.mem_cons_self ..), k⟩

theorem Asc.uniq : ∀ {l m : List (List Int)}, Asc l → Asc m → (∀ x, x ∈ l ↔ x ∈ m) → l = m
  | [], [], _, _, _ => rfl
  | [], y :: m, _, _, h => by have := (h y).2 (List.mem_cons_self ..); cases this
  | x :: l, [], _, _, h => by have := (h x).1 (List.mem_cons_self ..); cases this
  | x :: l, y :: m, hl, hm, h => by
    have hl' := List.pairwise_cons.1 hl
    have hm' := List.pairwise_cons.1 hm
    have irr : ∀ z : List Int, ¬ cmpRows z z < 0 := fun z => by rw [cmpRows_self]; omega
    have e : x = y := by
      rcases List.mem_cons.1 ((h x).1 (List.mem_cons_self ..)) with hx | hx
      · exact hx
      · rcases List.mem_cons.1 ((h y).2 (List.mem_cons_self ..)) with hy | hy
        · exact hy.symm
        · exact absurd (cmpRows_lt_trans (hm'.1 x hx) (hl'.1 y hy)) (irr y)
    subst e
    rw [Asc.uniq hl'.2 hm'.2 fun z => ?_]
    constructor
    · intro hz
      rcases List.mem_cons.1 ((h z).1 (List.mem_cons_of_mem _ hz)) with rfl | hz'
      · exact absurd (hl'.1 z hz) (irr z)
      · exact hz'
    · intro hz
      rcases List.mem_cons.1 ((h z).2 (List.mem_cons_of_mem _ hz)) with rfl | hz'
      · exact absurd (hm'.1 z hz) (irr z)
      · exact hz'

def putL (r : List Int) : Bool → List (List Int) → List (List Int)
  | put, [] => if put then [] else [r]
  | put, x :: t => if decide (0 < cmpRows x r) && !(put || decide (cmpRows x r = 0)) then r :: x :: putL r true t else x :: putL r (put || decide (cmpRows x r = 0)) t

theorem putL_true (r : List Int) : ∀ l, putL r true l = l
  | [] => rfl
  | x :: t => by simp [putL, putL_true r t]

theorem putL_mem (r : List Int) : ∀ {l : List (List Int)} {z : List Int}, z ∈ putL r false l ↔ z = r ∨ z ∈ l
  | [], z => by simp [putL]
  | x :: t, z => by
    have ih := @putL_mem r t z
    unfold putL
    by_cases h0 : cmpRows x r = 0
    · have := (cmpRows_zero x r).1 h0
      subst this
      simp [h0, putL_true]
    · by_cases h1 : 0 < cmpRows x r
      · simp [h0, h1, putL_true]
      · simp only [h0, h1, decide_false, Bool.false_and, Bool.or_self, Bool.false_eq_true, if_false, List.mem_cons, ih]
        constructor
        · rintro (h | h | h)
          · exact .inr (.inl h)
          · exact .inl h
          · exact .inr (.inr h)
        · rintro (h | h | h)
          · exact .inr (.inl h)
          · exact .inl h
          · exact .inr (.inr h)

theorem putL_asc (r : List Int) : ∀ {l : List (List Int)}, Asc l → Asc (putL r false l)
  | [], _ => by simp [putL, Asc]
  | x :: t, h => by
    have h' := List.pairwise_cons.1 h
    unfold putL
    by_cases h0 : cmpRows x r = 0
    · simp [h0, putL_true]; exact h
    · by_cases h1 : 0 < cmpRows x r
      · have hr : cmpRows r x < 0 := cmpRows_gt_iff.1 h1
        simp only [h0, h1, decide_true, decide_false, Bool.or_self, Bool.not_false, Bool.and_self, if_true, putL_true]
        refine List.pairwise_cons.2 ⟨fun z hz => ?_, h⟩
        rcases List.mem_cons.1 hz with rfl | hz
        · exact hr
        · exact cmpRows_lt_trans hr (h'.1 z hz)
      · have hx : cmpRows x r < 0 := by omega
        simp only [h0, h1, decide_false, Bool.false_and, Bool.or_self, Bool.false_eq_true, if_false]
        refine List.pairwise_cons.2 ⟨fun z hz => ?_, putL_asc r h'.2⟩
        rcases (putL_mem r).1 hz with rfl | hz
        · exact hx
        · exact h'.1 z hz

theorem putL_len (r : List Int) : ∀ (b : Bool) (l : List (List Int)), (putL r b l).length ≤ l.length + 1
  | b, [] => by unfold putL; split <;> simp
  | b, x :: t => by
    unfold putL
    split
    · rw [putL_true]; simp
    · have := putL_len r (b || decide (cmpRows x r = 0)) t
      simp only [List.length_cons]; omega

def canon (l : List (List Int)) : List (List Int) := l.foldl (fun acc r => putL r false acc) []

theorem canon_go : ∀ (l acc : List (List Int)), Asc acc → Asc (l.foldl (fun acc r => putL r false acc) acc) ∧ ∀ z, z ∈ l.foldl (fun acc r => putL r false acc) acc ↔ z ∈ acc ∨ z ∈ l
  | [], acc, h => ⟨h, fun z => by simp⟩
  | r :: t, acc, h => by
    obtain ⟨h1, h2⟩ := canon_go t (putL r false acc) (putL_asc r h)
    refine ⟨h1, fun z => ?_⟩
    rw [List.foldl_cons, h2 z, putL_mem]
    simp only [List.mem_cons]
    constructor
    · rintro ((h | h) | h)
      · exact .inr (.inl h)
      · exact .inl h
      · exact .inr (.inr h)
    · rintro (h | h | h)
      · exact .inl (.inr h)
      · exact .inl (.inl h)
      · exact .inr h

theorem canon_asc (l : List (List Int)) : Asc (canon l) := (canon_go l [] List.Pairwise.nil).1

theorem canon_mem {l : List (List Int)} {z : List Int} : z ∈ canon l ↔ z ∈ l := by
  have := (canon_go l [] List.Pairwise.nil).2 z
  simpa [canon] using this

theorem canon_uniq {l m : List (List Int)} (h : Asc m) (hm : ∀ z, z ∈ m ↔ z ∈ l) : m = canon l :=
  h.uniq (canon_asc l) fun z => by rw [hm, canon_mem]

def dedupFrom (p : List Int) : List (List Int) → List (List Int)
  | [] => []
  | x :: t => if x = p then dedupFrom p t else x :: dedupFrom x t

def dedup : List (List Int) → List (List Int)
  | [] => []
  | x :: t => x :: dedupFrom x t

theorem dedupFrom_spec : ∀ {p : List Int} {l : List (List Int)}, (p :: l).Pairwise (fun a b => ¬ cmpRows b a < 0) → Asc (p :: dedupFrom p l) ∧ ∀ z, z ∈ p :: dedupFrom p l ↔ z ∈ p :: l
  | p, [], _ => ⟨List.pairwise_cons.2 ⟨fun z hz => by simp [dedupFrom] at hz, List.Pairwise.nil⟩, fun z => Iff.rfl⟩
  | p, x :: t, h => by
    have h1 := List.pairwise_cons.1 h
    have h2 := List.pairwise_cons.1 h1.2
    unfold dedupFrom
    by_cases e : x = p
    · subst e
      rw [if_pos rfl]
      obtain ⟨a, b⟩ := @dedupFrom_spec x t h1.2
      refine ⟨a, fun z => ?_⟩
      rw [b z]; simp
    · rw [if_neg e]
      obtain ⟨a, b⟩ := @dedupFrom_spec x t h1.2
      have hpx : cmpRows p x < 0 := by
        have h3 := h1.1 x (List.mem_cons_self ..)
        have h4 := cmpRows_rng p x
        have h5 := cmpRows_swap p x
        have h6 : cmpRows p x ≠ 0 := fun h => e ((cmpRows_zero p x).1 h).symm
        omega
      have a' := List.pairwise_cons.1 a
      refine ⟨List.pairwise_cons.2 ⟨fun z hz => ?_, a⟩, fun z => ?_⟩
      · rcases List.mem_cons.1 hz with rfl | hz
        · exact hpx
        · exact cmpRows_lt_trans hpx (a'.1 z hz)
      · rw [List.mem_cons, b z]; exact (List.mem_cons).symm

theorem dedup_canon {l m : List (List Int)} (h : l.Pairwise (fun a b => ¬ cmpRows b a < 0)) (hm : ∀ z, z ∈ l ↔ z ∈ m) : dedup l = canon m := by
  cases l with
  | nil => exact canon_uniq List.Pairwise.nil hm
  | cons x t =>
    obtain ⟨a, b⟩ := dedupFrom_spec h
    exact canon_uniq a fun z => (b z).trans (hm z)

end Go.Proofs.YtpgfkjcekhifiaaGreat

namespace Go.Proofs.YtpgfkjcekhifiaaGreat

open Go.RowKit

set_option linter.unusedVariables false

set_option linter.unusedSimpArgs false

set_option synthInstance.maxSize 2000

set_option synthInstance.maxHeartbeats 400000

abbrev DQ := Int × List DA

def rQ : RS DQ := R.pair R.int rAs

def oQ : OS DQ := O.pair O.int oAs

theorem reads_Q : Reads oQ rQ := Reads.pair Reads.int reads_As

theorem rQ_open {w : World} {cs : List Value} {x : DQ} (h : rQ.rep w cs x) : ∃ ub1 un1 uc1, cs = [.int .i64 x.1, .slice ub1 un1 uc1] ∧ I64 x.1 ∧ rAs.rep w [.slice ub1 un1 uc1] x.2 := by
  obtain ⟨c0a, c0b, rfl, ⟨rfl, hi0⟩, hr1⟩ := h
  obtain ⟨ub1, un1, uc1, rfl⟩ := rAs_form hr1
  exact ⟨_, _, _, rfl, hi0, hr1⟩

theorem rQ_form {w : World} {cs : List Value} {x : DQ} (h : rQ.rep w cs x) : ∃ ub1 un1 uc1, cs = [.int .i64 x.1, .slice ub1 un1 uc1] := by
  obtain ⟨ub1, un1, uc1, h1, _⟩ := rQ_open h
  exact ⟨_, _, _, h1⟩

theorem rQ_mk {w : World} {ub1 : Option Addr} {un1 uc1 : Nat} {x : DQ} (h0 : I64 x.1) (h1 : rAs.rep w [.slice ub1 un1 uc1] x.2) : rQ.rep w [.int .i64 x.1, .slice ub1 un1 uc1] x :=
  ⟨[.int .i64 x.1], [.slice ub1 un1 uc1], rfl, ⟨rfl, h0⟩, h1⟩

theorem oQ_mk {lo hi l1 m1 : Nat} {w : World} {ub1 : Option Addr} {un1 uc1 : Nat} {x : DQ} (hi0 : I64 x.1) (ho1 : Own oAs l1 m1 w [.slice ub1 un1 uc1] x.2) (a1 : lo ≤ l1) (b1 : m1 ≤ hi)  : Own oQ lo hi w [.int .i64 x.1, .slice ub1 un1 uc1] x := by
  obtain ⟨f1, r1, n1, q1⟩ := ho1
  refine ⟨([] ++ f1), ⟨[.int .i64 x.1], [.slice ub1 un1 uc1], [], f1, rfl, rfl, ⟨rfl, hi0, rfl⟩, r1⟩, ?_, ?_⟩
  · try simp only [List.nil_append, List.append_nil]
    exact n1
  · intro p hp
    try simp only [List.nil_append, List.append_nil, List.mem_append] at hp
    have := q1 p hp; omega

end Go.Proofs.YtpgfkjcekhifiaaGreat

namespace Go.Proofs.YtpgfkjcekhifiaaGreat

open Go.RowKit

set_option linter.unusedVariables false

set_option linter.unusedSimpArgs false

set_option synthInstance.maxSize 2000

set_option synthInstance.maxHeartbeats 400000

def rTl : RS (List DT) := R.slice rT

def oTl : OS (List DT) := O.slice 44 oT

theorem reads_Tl : Reads oTl rTl := Reads.slice _ reads_T

theorem rTl_form {w : World} {cs : List Value} {xs : List DT} (h : rTl.rep w cs xs) : ∃ b n c, cs = [.slice b n c] := rS_form h

theorem oTl_form1 {lo hi : Nat} {w : World} {v : Value} {xs : List DT} (h : Own oTl lo hi w [v] xs) : ∃ b n c, v = .slice b n c := oS_form1 reads_T h

end Go.Proofs.YtpgfkjcekhifiaaGreat

namespace Go.Proofs.YtpgfkjcekhifiaaGreat

open Go.RowKit

set_option linter.unusedVariables false

set_option linter.unusedSimpArgs false

structure Alt (fp : List Nat) (w w' : World) : Prop where
  os : w'.os = w.os
  tape : w'.tape = w.tape
  output : w'.output = w.output
  size : w.heap.size ≤ w'.heap.size
  block : ∀ k, k < w.heap.size → k ∉ fp → w'.heap[k]? = w.heap[k]?

theorem Alt.refl (fp : List Nat) (w : World) : Alt fp w w := ⟨rfl, rfl, rfl, Nat.le_refl _, fun _ _ _ => rfl⟩

theorem Alt.trans {fp : List Nat} {a b c : World} (h : Alt fp a b) (k : Alt fp b c) : Alt fp a c :=
  ⟨k.os.trans h.os, k.tape.trans h.tape, k.output.trans h.output, Nat.le_trans h.size k.size, fun i hi hn => (k.block i (Nat.lt_of_lt_of_le hi h.size) hn).trans (h.block i hi hn)⟩

theorem Alt.mono {fp fq : List Nat} {w w' : World} (h : Alt fp w w') (hs : ∀ k ∈ fp, k ∈ fq) : Alt fq w w' :=
  ⟨h.os, h.tape, h.output, h.size, fun k hk hn => h.block k hk (fun hm => hn (hs k hm))⟩

theorem Alt.only {fp : List Nat} {w w' : World} (h : Only fp w w') : Alt fp w w' := ⟨h.os, h.tape, h.output, by rw [h.size]; exact Nat.le_refl _, fun k _ hn => h.block k hn⟩

theorem Alt.below {fp : List Nat} {w w' : World} (h : Below w.heap.size w w') : Alt fp w w' := ⟨h.os, h.tape, h.output, h.size, fun k hk _ => h.block k hk⟩

theorem Alt.set {fp : List Nat} {w : World} {p : Addr} (hp : p.block ∈ fp) (u : Value) : Alt fp w (w.setCell p u) :=
  ⟨rfl, rfl, rfl, by simp [World.setCell], fun k hk hn => Below.heap_setCell _ _ _ _ (fun e => hn (e ▸ hp))⟩

theorem Alt.turn {fp : List Nat} {lo hi : Nat} {w w' : World} (h : Alt fp w w') (hk : ∀ k ∈ fp, lo ≤ k ∧ k < hi) : Turn lo hi w w' :=
  ⟨h.os, h.tape, h.output, h.size, fun k h1 h2 => h.block k h1 (fun hm => by have := hk k hm; omega)⟩

theorem slice_at {α : Type} {t : TypeId} {o : OS α} {w : World} {a : Option Addr} {n cap : Nat} {xs : List α} {fp : List Nat} (h : (O.slice t o).rep w [.slice a n cap] xs fp) (hn : fp.Nodup) {i : Nat} {x : α} (hx : xs[i]? = some x) :
    ∃ g c f pre post E, a = some ⟨g, 0, none⟩ ∧ g ∈ fp ∧ g ∉ f ∧ g < w.heap.size ∧ o.rep w c x f ∧ f.Nodup ∧ (∀ k ∈ f, k ∈ fp) ∧ pre.length = i * o.size ∧ w.heap[g]? = some (.cells (pre ++ (c ++ post)).toArray E) ∧
      ∀ w' x' c', o.rep w' c' x' f → w'.heap[g]? = some (.cells (pre ++ (c' ++ post)).toArray E) → (∀ k ∈ fp, k ≠ g → k ∉ f → w'.heap[k]? = w.heap[k]?) → (O.slice t o).rep w' [.slice a n cap] (xs.set i x') fp := by
  have hlt := (O.slice t o).lt h
  obtain ⟨v, css, fps, hv, rfl, h1, h2⟩ := h
  simp at hv
  subst hv
  obtain ⟨c, f, hc, hf, hr⟩ := o.rows_get h2 i x hx
  have hnl := List.nodup_append.1 hn
  have hmem : ∀ k ∈ f, k ∈ fps.flatten := fun k hk => List.mem_flatten.2 ⟨f, List.mem_of_getElem? hf, hk⟩
  have hsub : f.Sublist fps.flatten := List.sublist_flatten_of_mem (List.mem_of_getElem? hf)
  have hix := (List.getElem?_eq_some_iff.1 hx).1
  have hic := (List.getElem?_eq_some_iff.1 hc).1
  rcases h1.2 with ⟨hv, h0⟩ | ⟨g, cap', cur, hv, hB, hg, hnc, hcm, hcs, htake⟩
  · omega
  simp at hv
  obtain ⟨rfl, rfl, rfl⟩ := hv
  have hcl := o.len hr
  have hgf : g ∉ f := fun hm => hnl.2.2 g (by simp [bl, Value.ownBlock]) g (hmem g hm) rfl
  have hsplit : css = css.take i ++ c :: css.drop (i + 1) := by
    conv => lhs; rw [← List.take_append_drop i css]
    rw [List.drop_eq_getElem_cons hic]
    congr 2
    exact (List.getElem?_eq_some_iff.1 hc).2
  have hpre : ((css.take i).flatten).length = i * o.size := by
    have hr2 : o.rows w (css.take i) (xs.take i) (fps.take i) := by
      have : ∀ {css : List (List Value)} {xs : List α} {fps : List (List Nat)} (h : o.rows w css xs fps) (i : Nat), o.rows w (css.take i) (xs.take i) (fps.take i) := by
        intro css
        induction css with
        | nil => intro xs fps h i; match xs, fps, h with
          | [], [], _ => simp [OS.rows]
        | cons c cs ih => intro xs fps h i; match xs, fps, h with
          | y :: ys, p :: ps, h => cases i with
            | zero => simp [OS.rows]
            | succ i => simp only [List.take_succ_cons]; exact ⟨h.1, ih h.2 i⟩
      exact this h2 i
    rw [(o.rows_len hr2).2.2, List.length_take, Nat.min_eq_left (by omega)]
  refine ⟨g, c, f, (css.take i).flatten, (css.drop (i + 1)).flatten ++ cur.toList.drop (xs.length * o.size), t, rfl, by simp [bl, Value.ownBlock], hgf, hlt g (by simp [bl, Value.ownBlock]), hr, hsub.nodup hnl.2.1, fun k hk => List.mem_append_right _ (hmem k hk), hpre, ?_, ?_⟩
  · rw [hg]
    congr 2
    apply Array.ext'
    simp only []
    conv => lhs; rw [← List.take_append_drop (xs.length * o.size) cur.toList, htake, hsplit]
    simp
  · intro w' x' c' hr' hg' hk
    have hcl' := o.len hr'
    have hsp' : css.set i c' = css.take i ++ c' :: css.drop (i + 1) := by
      rw [List.set_eq_take_append_cons_drop, if_pos hic]
    refine ⟨_, css.set i c', fps, rfl, rfl, ?_, ?_⟩
    · refine ⟨?_, .inr ⟨g, cap, _, by rw [List.length_set], hB, hg', by rw [List.length_set]; exact hnc, hcm, ?_, ?_⟩⟩
      · have h9 := h1.1
        rw [hsplit] at h9
        rw [hsp', List.length_set]
        simp only [List.flatten_append, List.flatten_cons, List.length_append] at h9 ⊢
        omega
      · have h9 := h1.1
        rw [hsplit] at h9
        simp only [List.flatten_append, List.flatten_cons, List.length_append] at h9
        have h8 := Nat.mul_le_mul_right o.size hnc
        simp only [List.size_toArray, List.length_append, List.length_drop, Array.length_toList]
        omega
      · have h9 := h1.1
        rw [hsplit] at h9
        simp only [List.flatten_append, List.flatten_cons, List.length_append] at h9
        rw [List.length_set, hsp']
        simp only [List.flatten_append, List.flatten_cons]
        rw [show (css.take i).flatten ++ (c' ++ ((css.drop (i + 1)).flatten ++ cur.toList.drop (xs.length * o.size))) = ((css.take i).flatten ++ (c' ++ (css.drop (i + 1)).flatten)) ++ cur.toList.drop (xs.length * o.size) by simp]
        rw [List.take_append_of_le_length (by simp only [List.length_append]; omega), List.take_of_length_le (by simp only [List.length_append]; omega)]
    · have key : ∀ {css : List (List Value)} {xs : List α} {fps : List (List Nat)} (h : o.rows w css xs fps) (i : Nat), fps[i]? = some f → fps.flatten.Nodup → (∀ k ∈ fps.flatten, k ∉ f → w'.heap[k]? = w.heap[k]?) → o.rows w' (css.set i c') (xs.set i x') fps := by
        intro css
        induction css with
        | nil => intro xs fps h i hf hn hk; match xs, fps, h with
          | [], [], _ => simp at hf
        | cons c cs ih => intro xs fps h i hf hn hk; match xs, fps, h with
          | y :: ys, p :: ps, h =>
            simp only [List.flatten_cons] at hn hk
            have hn' := List.nodup_append.1 hn
            cases i with
            | zero =>
              simp at hf; subst hf
              exact ⟨hr', o.rows_frame h.2 (fun k hm => hk k (List.mem_append_right _ hm) (fun hq => hn'.2.2 k hq k hm rfl))⟩
            | succ i =>
              simp only [List.getElem?_cons_succ] at hf
              have hin : ∀ k ∈ f, k ∈ ps.flatten := fun k hk => List.mem_flatten.2 ⟨f, List.mem_of_getElem? hf, hk⟩
              exact ⟨o.frame h.1 (fun k hm => hk k (List.mem_append_left _ hm) (fun hq => hn'.2.2 k hm k (hin k hq) rfl)), ih h.2 i hf hn'.2.1 (fun k hm hq => hk k (List.mem_append_right _ hm) hq)⟩
      refine key h2 i hf hnl.2.1 (fun k hm hq => hk k (List.mem_append_right _ hm) (fun e => ?_) hq)
      subst e
      exact hnl.2.2 k (by simp [bl, Value.ownBlock]) k hm rfl

theorem oS_len {α : Type} {t : TypeId} {o : OS α} {w : World} {cs : List Value} {xs : List α} {fp : List Nat} (h : (O.slice t o).rep w cs xs fp) : ∃ a cap, cs = [.slice a xs.length cap] := by
  obtain ⟨v, css, fps, rfl, _, h1, _⟩ := h
  obtain ⟨a, cap, rfl, _⟩ := own_form h1
  exact ⟨a, cap, rfl⟩

theorem cntSS_le (xss : List (List Int)) : cntSS xss ≤ sumBy bulk_I xss := Nat.le_of_eq rfl

def cnt_II (xss : List (List Int)) : Nat := cntSS xss

theorem cnt_le_II (xss : List (List Int)) : cnt_II xss ≤ 2 * bulk_II xss := by
  have := cntSS_le xss
  unfold cnt_II bulk_II; omega

theorem at_cell {w : World} {g p : Nat} {pre c post : List Value} {E : TypeId} (h : w.heap[g]? = some (.cells (pre ++ (c ++ post)).toArray E)) (hp : pre.length = p) {j : Nat} {u : Value} (hu : c[j]? = some u) : w.cell? ⟨g, p + j, none⟩ = some u := by
  have hj := (List.getElem?_eq_some_iff.1 hu).1
  simp only [World.cell?, h]
  simp only [Option.isSome_none, Bool.false_eq_true, if_false]
  rw [List.getElem?_toArray, List.getElem?_append_right (by omega), List.getElem?_append_left (by omega), show p + j - pre.length = j by omega]
  exact hu

theorem at_frozen {w : World} {g : Nat} {cs : Array Value} {E : TypeId} (h : w.heap[g]? = some (.cells cs E)) (i : Nat) : w.frozen? ⟨g, i, none⟩ = false := by simp [World.frozen?, h]

theorem at_set {w : World} {g p : Nat} {pre c post : List Value} {E : TypeId} (h : w.heap[g]? = some (.cells (pre ++ (c ++ post)).toArray E)) (hp : pre.length = p) {j : Nat} (hj : j < c.length) (u : Value) : (w.setCell ⟨g, p + j, none⟩ u).heap[g]? = some (.cells (pre ++ (c.set j u ++ post)).toArray E) := by
  rw [heap_setCell_same w g _ _ E u h]
  congr 2
  apply Array.ext'
  simp only [Array.toList_setIfInBounds]
  rw [List.set_append_right _ _ (by omega), List.set_append_left _ _ (by omega), show p + j - pre.length = j by omega]

end Go.Proofs.YtpgfkjcekhifiaaGreat

namespace Go.Proofs.YtpgfkjcekhifiaaGreat

open Go.RowKit

set_option linter.unusedVariables false

set_option linter.unusedSimpArgs false

set_option synthInstance.maxSize 2000

set_option synthInstance.maxHeartbeats 400000

def colsFrom (n p : Int) : List Int → Bool
  | [] => true
  | v :: t => betw v 0 (n - 1) && decide (p < v) && colsFrom n v t

def colsB (n : Int) (xs : List Int) : Bool := colsFrom n (-1) xs

theorem cols_at {n p : Int} {xs : List Int} {j : Nat} {x : Int} (hj : j < xs.length) (hx : xs.getD j 0 = x) : colsFrom n p (xs.drop j) = (betw x 0 (n - 1) && decide (p < x) && colsFrom n x (xs.drop (j + 1))) := by
  rw [drop_cons xs j hj, hx]; rfl

theorem cols_end {n p : Int} {xs : List Int} {j : Nat} (hj : xs.length ≤ j) : colsFrom n p (xs.drop j) = true := by
  rw [List.drop_eq_nil_of_le hj]; rfl

theorem betw_pos {x n : Int} (h : betw x 0 n = true) : 0 ≤ x := by
  simp only [betw, Bool.and_eq_true, decide_eq_true_eq] at h; omega

def prevOf (xs : List Int) : Nat → Int
  | 0 => -1
  | j + 1 => xs.getD j 0

def validAn (a : DAn) : Bool := colsB 4 a.1 && rowsB a.1.length a.2 && ascB a.2

set_option maxHeartbeats 2000000 in
theorem validAn_impl (cs : List Value) (x : DAn) (w : World) (h : rAn.rep w cs x) :
    Calls Tryz.prog 11 #[.agg cs.toArray] w fun e w' => e = .returned (.bool (validAn x)) ∧ Below w.heap.size w w' := by
  obtain ⟨ub0, un0, uc0, ub1, un1, uc1, rfl, g0, g1⟩ := rAn_open h
  clear h
  obtain ⟨vs, rows⟩ := x
  simp only at g0 g1
  have i0 := rI_ints g0
  have t1 := rS_sl g1
  have hl := i0.len
  have hl1 := t1.len
  have hn := i0.small
  have hn1 := t1.small
  have HV := Lib.hid (show validAn (vs, rows) = (colsFrom 4 (prevOf vs 0) (vs.drop 0) && (rowsB un0 rows && ascB rows)) by rw [validAn, ← hl]; simp [colsB, prevOf, Bool.and_assoc])
  have hb0 : Below w.heap.size w w := Below.refl _ _
  go_enter Tryz.func11, Tryz.ntmps11
  obtain ⟨w1, hw1⟩ : ∃ W, W = w.alloc (.cells #[.slice ub0 un0 uc0, .slice ub1 un1 uc1] 35) := ⟨_, rfl⟩
  have z1 : Below w.heap.size w w1 := by rw [hw1]; exact (Below.refl _ _).alloc (Nat.le_refl _) _
  have s1 : w1.heap.size = w.heap.size + 1 := by rw [hw1]; simp
  have hb1 := on hb0 z1
  have b_0 : w1.cell? ⟨w.heap.size, 0, none⟩ = some (.slice ub0 un0 uc0) := by rw [hw1]; exact box_cell (Below.refl _ _) rfl
  have b_1 : w1.cell? ⟨w.heap.size, 1, none⟩ = some (.slice ub1 un1 uc1) := by rw [hw1]; exact box_cell (Below.refl _ _) rfl
  have raw1_b_0 := b_0
  have raw1_b_1 := b_1
  rw [hw1] at raw1_b_0 raw1_b_1
  go_wp2_with fail
  rw [← hw1]
  clear hw1
  clear raw1_b_0 raw1_b_1
  go_loopw [10] (fun k wr => ∃ j : Nat, j ≤ un0 ∧ k = .int .i64 j ∧ Hid (validAn (vs, rows) = (colsFrom 4 (prevOf vs j) (vs.drop j) && (rowsB un0 rows && ascB rows))) ∧ w1 = wr) (fun k _ => un0 - (intOf k).toNat)
  case atStart => exact ⟨0, Nat.zero_le _, rfl, HV.out, rfl⟩
  case round =>
    obtain ⟨j, hj, rfl, hE, rfl⟩ := hrel
    by_cases hlt : j < un0
    · obtain ⟨b0, o0, x, rfl, hc, hx, _, _⟩ := i0.get hlt
      have c0_lt : b0 < w.heap.size := cell_lt hc
      have c0 : w1.cell? ⟨b0, o0 + j, none⟩ = some (.int .i64 x) := (hb1.cell (p := ⟨b0, o0 + j, none⟩) c0_lt).trans hc
      have HA := Lib.hid (hE.out.trans (by rw [cols_at (by omega) hx.out]))
      clear hE HV hl
      by_cases hb : betw x 0 3 = true
      case neg =>
        replace hb : betw x 0 3 = false := by simpa using hb
        have HE := Lib.hid (show validAn (vs, rows) = false by rw [HA.out]; simp [hb])
        clear i0 t1 hl1
        go_wp2_with fail
        refine (within_any _ _ _ _).mono ?_
        rintro e w' ⟨rfl, rfl⟩
        go_wp2_with fail
        go_ret
        exact ⟨ret_bool HE.out.symm, hb1⟩
      have hx0 := betw_pos hb
      by_cases hj0 : j = 0
      · subst hj0
        have HE := Lib.hid (show validAn (vs, rows) = (colsFrom 4 (prevOf vs (0 + 1)) (vs.drop (0 + 1)) && (rowsB un0 rows && ascB rows)) by
          rw [HA.out, show prevOf vs (0 + 1) = x from hx.out, show betw x 0 (4 - 1) = true from hb, show decide (prevOf vs 0 < x) = true from decide_eq_true (show (-1 : Int) < x by omega)]; simp)
        have c0' : w1.cell? ⟨b0, o0, none⟩ = some (.int .i64 x) := c0
        clear i0 t1 hl1 hx HA
        go_wp2_with fail
        refine (within_any _ _ _ _).mono ?_
        rintro e w' ⟨rfl, rfl⟩
        go_wp2_with fail
        go_roundw
        case rel => exact ⟨1, by omega, rfl, HE.out, trivial⟩
        case measure => simp [intOf]; omega
      obtain ⟨i, rfl⟩ : ∃ i, j = i + 1 := ⟨j - 1, by omega⟩
      obtain ⟨b9, o9, y, hb9, hcy, hy, _, _⟩ := i0.get (show i < un0 by omega)
      simp at hb9
      obtain ⟨rfl, rfl⟩ := hb9
      have cy_lt : b0 < w.heap.size := cell_lt hcy
      have cy : w1.cell? ⟨b0, o0 + i, none⟩ = some (.int .i64 y) := (hb1.cell (p := ⟨b0, o0 + i, none⟩) cy_lt).trans hcy
      have hp : prevOf vs (i + 1) = y := hy.out
      rw [hp] at HA
      by_cases hxy : y < x
      · have HE := Lib.hid (show validAn (vs, rows) = (colsFrom 4 (prevOf vs (i + 1 + 1)) (vs.drop (i + 1 + 1)) && (rowsB un0 rows && ascB rows)) by
          rw [HA.out, show prevOf vs (i + 1 + 1) = x from hx.out, show betw x 0 (4 - 1) = true from hb, decide_eq_true hxy]; simp)
        clear i0 t1 hl1 hx HA hp hj0 hc hcy
        go_wp2_with fail
        refine (within_any _ _ _ _).mono ?_
        rintro e w' ⟨rfl, rfl⟩
        go_wp2_with fail
        go_roundw
        case rel => exact ⟨i + 1 + 1, by omega, by go_num, HE.out, trivial⟩
        case measure => simp [intOf]; omega
      · have HE := Lib.hid (show validAn (vs, rows) = false by rw [HA.out]; simp [hxy])
        clear i0 t1 hl1 hx HA hp hj0 hc hcy
        go_wp2_with fail
        refine (within_any _ _ _ _).mono ?_
        rintro e w' ⟨rfl, rfl⟩
        go_wp2_with fail
        go_ret
        exact ⟨ret_bool HE.out.symm, hb1⟩
    · have HW : Hid (validAn (vs, rows) = (rowsB un0 (rows.drop 0) && ascB rows)) := Lib.hid (by rw [hE.out, cols_end (by omega)]; rfl)
      clear hE HV i0 hl
      go_wp2_with fail
      go_loopw [36] (fun k wr => ∃ j : Nat, j ≤ un1 ∧ k = .int .i64 j ∧ Hid (validAn (vs, rows) = (rowsB un0 (rows.drop j) && ascB rows)) ∧ w1 = wr) (fun k _ => un1 - (intOf k).toNat)
      case atStart => exact ⟨0, Nat.zero_le _, rfl, HW.out, rfl⟩
      case round =>
        obtain ⟨j, hj, rfl, hE, rfl⟩ := hrel
        by_cases hlt : j < un1
        · obtain ⟨b0, o0, r1, m1, q1, x, rfl, hc, hx, hi, _⟩ := t1.row hlt
          have hclt : b0 < w.heap.size := cell_lt hc
          have c0 : w1.cell? ⟨b0, o0 + j, none⟩ = some (.slice r1 m1 q1) := (hb1.cell (p := ⟨b0, o0 + j, none⟩) hclt).trans hc
          have hcall := rowOk_any r1 m1 q1 x un0 _ (hi.below hb1)
          obtain ⟨t, ht⟩ : ∃ t, t = rowB x un0 := ⟨_, rfl⟩
          rw [← ht] at hcall
          have HC := Lib.hid hcall
          have HA := Lib.hid (hE.out.trans (by rw [rowsB_at hx.out, ← ht]))
          clear t1 hl1 hx hcall ht hE HW hi hc
          go_wp2_with fail
          refine (HC.out).mono ?_
          rintro e w' ⟨rfl, rfl⟩
          cases t with
          | true =>
            have HE := Lib.hid (show validAn (vs, rows) = (rowsB un0 (rows.drop (j + 1)) && ascB rows) by rw [HA.out]; simp)
            go_wp2_with fail
            go_roundw
            case rel => exact ⟨j + 1, by omega, by go_num, HE.out, trivial⟩
            case measure => simp [intOf]; omega
          | false =>
            have HE := Lib.hid (show validAn (vs, rows) = false by rw [HA.out]; simp)
            go_wp2_with fail
            go_ret
            exact ⟨ret_bool HE.out.symm, hb1⟩
        · have HE : Hid (validAn (vs, rows) = ascB rows) := Lib.hid (by rw [hE.out, rowsB_end (by omega)]; rfl)
          have t2 := t1.below hb1
          clear hE HW hl1 t1
          go_wp2_with fail
          refine (ascending_any _ _ _ _ _ t2).mono ?_
          rintro e w9 ⟨rfl, z9⟩
          replace z9 : Below w1.heap.size w1 w9 := z9.below _
          have s2 := z9.size
          have hb2 := on hb1 z9
          replace b_0 := bxc z9 b_0
          replace b_1 := bxc z9 b_1
          clear t2
          go_wp2_with fail
          go_ret
          exact ⟨ret_bool HE.out.symm, hb2⟩

end Go.Proofs.YtpgfkjcekhifiaaGreat

namespace Go.Proofs.YtpgfkjcekhifiaaGreat

open Go.RowKit

set_option linter.unusedVariables false

set_option linter.unusedSimpArgs false

set_option synthInstance.maxSize 2000

set_option synthInstance.maxHeartbeats 400000

def validT (t : DT) : Bool := nameB t.1 && (betw t.2.1 1 3 && (decide (t.2.2.length ≤ 8) && (rowsB t.2.1 t.2.2 && ascB t.2.2)))

theorem validT_rows {t : DT} (h : rowsB t.2.1 t.2.2 = false) : validT t = false := by simp [validT, h]

theorem validT_rest {t : DT} (h : rowsB t.2.1 t.2.2 = true) : validT t = (nameB t.1 && (betw t.2.1 1 3 && (decide (t.2.2.length ≤ 8) && ascB t.2.2))) := by simp [validT, h]

set_option maxHeartbeats 2000000 in
theorem validT_impl (cs : List Value) (x : DT) (w : World) (h : rT.rep w cs x) :
    Calls Tryz.prog 108 #[.agg cs.toArray] w fun e w' => e = .returned (.bool (validT x)) ∧ Below w.heap.size w w' := by
  obtain ⟨ub, un, uc, rfl, hs, hi, g1⟩ := rT_open h
  clear h
  obtain ⟨s, i, rows⟩ := x
  simp only at hs hi g1
  have t1 := rS_sl g1
  have hl1 := t1.len
  have hn1 := t1.small
  have HV := Lib.hid (show rowsB i rows = rowsB i (rows.drop 0) by simp)
  have hb0 : Below w.heap.size w w := Below.refl _ _
  go_enter Tryz.func108, Tryz.ntmps108
  obtain ⟨w1, hw1⟩ : ∃ W, W = w.alloc (.cells #[.string s, .int .i64 i, .slice ub un uc] 44) := ⟨_, rfl⟩
  have z1 : Below w.heap.size w w1 := by rw [hw1]; exact (Below.refl _ _).alloc (Nat.le_refl _) _
  have s1 : w1.heap.size = w.heap.size + 1 := by rw [hw1]; simp
  have hb1 := on hb0 z1
  have b_0 : w1.cell? ⟨w.heap.size, 0, none⟩ = some (.string s) := by rw [hw1]; exact box_cell (Below.refl _ _) rfl
  have b_1 : w1.cell? ⟨w.heap.size, 1, none⟩ = some (.int .i64 i) := by rw [hw1]; exact box_cell (Below.refl _ _) rfl
  have b_2 : w1.cell? ⟨w.heap.size, 2, none⟩ = some (.slice ub un uc) := by rw [hw1]; exact box_cell (Below.refl _ _) rfl
  have raw1_b_0 := b_0
  have raw1_b_1 := b_1
  have raw1_b_2 := b_2
  rw [hw1] at raw1_b_0 raw1_b_1 raw1_b_2
  go_wp2_with fail
  rw [← hw1]
  clear hw1
  clear raw1_b_0 raw1_b_1 raw1_b_2
  go_loopw [8] (fun k wr => ∃ j : Nat, j ≤ un ∧ k = .int .i64 j ∧ Hid (rowsB i rows = rowsB i (rows.drop j)) ∧ w1 = wr) (fun k _ => un - (intOf k).toNat)
  case atStart => exact ⟨0, Nat.zero_le _, rfl, HV.out, rfl⟩
  case round =>
    obtain ⟨j, hj, rfl, hE, rfl⟩ := hrel
    by_cases hlt : j < un
    · obtain ⟨b0, o0, r1, m1, q1, y, rfl, hc, hx, hi9, _⟩ := t1.row hlt
      have hclt : b0 < w.heap.size := cell_lt hc
      have c0 : w1.cell? ⟨b0, o0 + j, none⟩ = some (.slice r1 m1 q1) := (hb1.cell (p := ⟨b0, o0 + j, none⟩) hclt).trans hc
      have hcall := rowOk_any r1 m1 q1 y i _ (hi9.below hb1)
      obtain ⟨t, ht⟩ : ∃ t, t = rowB y i := ⟨_, rfl⟩
      rw [← ht] at hcall
      have HC := Lib.hid hcall
      have HA := Lib.hid (hE.out.trans (by rw [rowsB_at hx.out, ← ht]))
      clear t1 hl1 hx hcall ht hE HV hi9 hc
      go_wp2_with fail
      refine (HC.out).mono ?_
      rintro e w' ⟨rfl, rfl⟩
      cases t with
      | true =>
        have HE := Lib.hid (show rowsB i rows = rowsB i (rows.drop (j + 1)) by rw [HA.out]; simp)
        go_wp2_with fail
        go_roundw
        case rel => exact ⟨j + 1, by omega, by go_num, HE.out, trivial⟩
        case measure => simp [intOf]; omega
      | false =>
        have HE := Lib.hid (show validT (s, i, rows) = false from validT_rows (by rw [HA.out]; simp))
        go_wp2_with fail
        go_ret
        exact ⟨ret_bool HE.out.symm, hb1⟩
    · have HE : Hid (validT (s, i, rows) = (nameB s && (betw i 1 3 && (decide ((un : Int) ≤ 8) && ascB rows)))) := Lib.hid (by
        rw [validT_rest (show rowsB i rows = true by rw [hE.out, rowsB_end (by omega)])]
        simp only [hl1]
        congr 3
        rw [Bool.eq_iff_iff]; simp only [decide_eq_true_eq]; omega)
      have t2 := t1.below hb1
      clear hE HV hl1 t1
      go_wp2_with fail
      refine (nameOk_any _ _ hs).mono ?_
      rintro e w' ⟨rfl, rfl⟩
      obtain ⟨c1, hc1⟩ : ∃ c, c = nameB s := ⟨_, rfl⟩
      rw [← hc1] at HE ⊢
      clear hc1
      cases c1 with
      | false =>
        clear t2
        go_wp2_with fail
        go_ret
        exact ⟨ret_bool (by rw [HE.out]; rfl), hb1⟩
      | true =>
        go_wp2_with fail
        refine (within_any _ _ _ _).mono ?_
        rintro e w' ⟨rfl, rfl⟩
        obtain ⟨c2, hc2⟩ : ∃ c, c = betw i 1 3 := ⟨_, rfl⟩
        rw [← hc2] at HE ⊢
        clear hc2
        cases c2 with
        | false =>
          clear t2
          go_wp2_with fail
          go_ret
          exact ⟨ret_bool (by rw [HE.out]; rfl), hb1⟩
        | true =>
          by_cases h8 : (un : Int) ≤ 8
          · have HE2 := Lib.hid (show validT (s, i, rows) = ascB rows by rw [HE.out, decide_eq_true h8]; rfl)
            go_wp2_with fail
            refine (ascending_any _ _ _ _ _ t2).mono ?_
            rintro e w9 ⟨rfl, z9⟩
            replace z9 : Below w1.heap.size w1 w9 := z9.below _
            have s2 := z9.size
            have hb2 := on hb1 z9
            replace b_0 := bxc z9 b_0
            replace b_1 := bxc z9 b_1
            replace b_2 := bxc z9 b_2
            clear t2
            go_wp2_with fail
            go_ret
            exact ⟨ret_bool HE2.out.symm, hb2⟩
          · have HE2 := Lib.hid (show validT (s, i, rows) = false by rw [HE.out, decide_eq_false h8]; rfl)
            clear t2
            go_wp2_with fail
            go_ret
            exact ⟨ret_bool HE2.out.symm, hb1⟩

set_option maxHeartbeats 2000000 in
theorem validT_spec (cs : List Value) (x : DT) (w : World) (h : rT.rep w cs x) :
    Calls Tryz.prog 44 #[.agg cs.toArray] w fun e w' => e = .returned (.bool (validT x)) ∧ Below w.heap.size w w' := by
  obtain ⟨ub, un, uc, rfl, hs, hi, g1⟩ := rT_open h
  clear h
  obtain ⟨s, i, rows⟩ := x
  simp only at hs hi g1
  have t1 := rS_sl g1
  have hl1 := t1.len
  have hn1 := t1.small
  have HV : Hid (validT (s, i, rows) = (nameB s && (betw i 1 3 && (decide ((un : Int) ≤ 8) && (rowsB i rows && ascB rows))))) := Lib.hid (by
    simp only [validT, hl1]
    congr 3
    rw [Bool.eq_iff_iff]; simp only [decide_eq_true_eq]; omega)
  have hb0 : Below w.heap.size w w := Below.refl _ _
  go_enter Tryz.func44, Tryz.ntmps44
  obtain ⟨w1, hw1⟩ : ∃ W, W = w.alloc (.cells #[.string s, .int .i64 i, .slice ub un uc] 44) := ⟨_, rfl⟩
  have z1 : Below w.heap.size w w1 := by rw [hw1]; exact (Below.refl _ _).alloc (Nat.le_refl _) _
  have s1 : w1.heap.size = w.heap.size + 1 := by rw [hw1]; simp
  have hb1 := on hb0 z1
  have b_0 : w1.cell? ⟨w.heap.size, 0, none⟩ = some (.string s) := by rw [hw1]; exact box_cell (Below.refl _ _) rfl
  have b_1 : w1.cell? ⟨w.heap.size, 1, none⟩ = some (.int .i64 i) := by rw [hw1]; exact box_cell (Below.refl _ _) rfl
  have b_2 : w1.cell? ⟨w.heap.size, 2, none⟩ = some (.slice ub un uc) := by rw [hw1]; exact box_cell (Below.refl _ _) rfl
  have raw1_b_0 := b_0
  have raw1_b_1 := b_1
  have raw1_b_2 := b_2
  rw [hw1] at raw1_b_0 raw1_b_1 raw1_b_2
  go_wp2_with fail
  rw [← hw1]
  clear hw1
  clear raw1_b_0 raw1_b_1 raw1_b_2
  refine (l4Name_any _ _ hs).mono ?_
  rintro e w' ⟨rfl, rfl⟩
  obtain ⟨c1, hc1⟩ : ∃ c, c = nameB s := ⟨_, rfl⟩
  rw [← hc1] at HV ⊢
  clear hc1
  cases c1 with
  | false =>
    clear t1 hl1
    go_wp2_with fail
    go_ret
    exact ⟨ret_bool (by rw [HV.out]; rfl), hb1⟩
  | true =>
    go_wp2_with fail
    refine (l1In_any _ _ _ _).mono ?_
    rintro e w' ⟨rfl, rfl⟩
    obtain ⟨c2, hc2⟩ : ∃ c, c = betw i 1 3 := ⟨_, rfl⟩
    rw [← hc2] at HV ⊢
    clear hc2
    cases c2 with
    | false =>
      clear t1 hl1
      go_wp2_with fail
      go_ret
      exact ⟨ret_bool (by rw [HV.out]; rfl), hb1⟩
    | true =>
      by_cases h8 : (un : Int) ≤ 8
      case neg =>
        have HE2 := Lib.hid (show validT (s, i, rows) = false by rw [HV.out, decide_eq_false h8]; rfl)
        have h8' : 8 < (un : Int) := by omega
        clear t1 hl1
        go_wp2_with fail
        go_ret
        exact ⟨ret_bool HE2.out.symm, hb1⟩
      have HW : Hid (validT (s, i, rows) = (rowsB i (rows.drop 0) && ascB (rows.drop (0 - 1)))) := Lib.hid (by rw [HV.out, decide_eq_true h8]; rfl)
      have h8' : ¬ 8 < (un : Int) := by omega
      go_wp2_with fail
      go_loopw [3] (fun k wr => ∃ j : Nat, j ≤ un ∧ k = .int .i64 j ∧ Hid (validT (s, i, rows) = (rowsB i (rows.drop j) && ascB (rows.drop (j - 1)))) ∧ Drew w1 wr) (fun k _ => un - (intOf k).toNat)
      case atStart => exact ⟨0, Nat.zero_le _, rfl, HW.out, Drew.refl _⟩
      case round =>
        obtain ⟨j, hj, rfl, hE, hdr⟩ := hrel
        have hlc := hdr
        replace hdr : Below w1.heap.size w1 wr := hdr.below _
        have s2 := hdr.size
        have hb2 := on hb1 hdr
        replace b_0 := bxc hdr b_0
        replace b_1 := bxc hdr b_1
        replace b_2 := bxc hdr b_2
        by_cases hlt : j < un
        · obtain ⟨b0, o0, r1, m1, q1, y, rfl, hc, hx, hi9, _⟩ := t1.row hlt
          have hclt : b0 < w.heap.size := cell_lt hc
          have c0 : wr.cell? ⟨b0, o0 + j, none⟩ = some (.slice r1 m1 q1) := (hb2.cell (p := ⟨b0, o0 + j, none⟩) hclt).trans hc
          have hcall := fun q => l4Row_any r1 m1 q1 y i (wr.drewN q) ((hi9.below hb2).drewN q)
          obtain ⟨t, ht⟩ : ∃ t, t = rowB y i := ⟨_, rfl⟩
          rw [← ht] at hcall
          have HC := Lib.hid hcall
          have HA := Lib.hid (hE.out.trans (by rw [rowsB_at hx.out, ← ht]))
          clear hcall ht hE HW HV
          cases t with
          | false =>
            have HE := Lib.hid (show validT (s, i, rows) = false by rw [HA.out]; simp)
            clear t1 hl1 hx hi9 hc
            go_wp2_with fail
            go_quiet ((go_at_call 73; exact quiet_same (HC.out _)))
            go_wp2_with fail
            go_ret
            exact ⟨ret_bool HE.out.symm, onD hb2 ⟨_, rfl⟩⟩
          | true =>
            by_cases hj0 : j = 0
            · subst hj0
              have HE := Lib.hid (show validT (s, i, rows) = (rowsB i (rows.drop (0 + 1)) && ascB (rows.drop (0 + 1 - 1))) by rw [HA.out]; simp)
              have c0' : wr.cell? ⟨b0, o0, none⟩ = some (.slice r1 m1 q1) := c0
              clear t1 hl1 hx hi9 hc
              go_wp2_with fail
              go_quiet ((go_at_call 73; exact quiet_same (HC.out _)))
              go_wp2_with fail
              go_roundw
              case rel => exact ⟨1, by omega, rfl, HE.out, hlc.step _⟩
              case measure => simp [intOf]; omega
            obtain ⟨i', rfl⟩ : ∃ i, j = i + 1 := ⟨j - 1, by omega⟩
            obtain ⟨b9, o9, r2, m2, q2, z, hb9, hcy, hy, hi', _⟩ := t1.row (show i' < un by omega)
            simp at hb9
            obtain ⟨rfl, rfl⟩ := hb9
            have cy : wr.cell? ⟨b0, o0 + i', none⟩ = some (.slice r2 m2 q2) := (hb2.cell (p := ⟨b0, o0 + i', none⟩) hclt).trans hcy
            have hi63 : IntKind.i64.wrap (i' : Int) = (i' : Int) := IntWalk.i64_in _ (by omega)
            have hcall := fun q => cmp_spec r2 r1 m2 m1 q2 q1 z y (wr.drewN q) ((hi'.below hb2).drewN q) ((hi9.below hb2).drewN q)
            obtain ⟨c, hcc⟩ : ∃ c, c = cmpRows z y := ⟨_, rfl⟩
            rw [← hcc] at hcall
            have HA2 : Hid (validT (s, i, rows) = (rowsB i (rows.drop (i' + 1 + 1)) && (decide (c < 0) && ascB (rows.drop (i' + 1))))) := Lib.hid (by
              rw [HA.out, show i' + 1 - 1 = i' by omega, ascB_at hy.out hx.out, hcc]; rfl)
            have HD := Lib.hid hcall
            clear t1 hl1 hx hy hi9 hi' hc hcy hcall hcc HA hj0
            by_cases h0 : c < 0
            · have HE := Lib.hid (show validT (s, i, rows) = (rowsB i (rows.drop (i' + 1 + 1)) && ascB (rows.drop (i' + 1 + 1 - 1))) by rw [HA2.out, decide_eq_true h0]; simp)
              go_wp2_with fail
              go_quiet ((first | (go_at_call 73; exact quiet_same (HC.out _)) | (go_at_call 45; exact quiet_drew (HD.out _))))
              clear hi63
              go_wp2_with fail
              go_roundw
              case rel => exact ⟨i' + 1 + 1, by omega, by go_num, HE.out, hlc.step _⟩
              case measure => simp [intOf]; omega
            · have HE := Lib.hid (show validT (s, i, rows) = false by rw [HA2.out]; simp [h0])
              go_wp2_with fail
              go_quiet ((first | (go_at_call 73; exact quiet_same (HC.out _)) | (go_at_call 45; exact quiet_drew (HD.out _))))
              clear hi63
              go_wp2_with fail
              go_ret
              exact ⟨ret_bool HE.out.symm, onD hb2 ⟨_, rfl⟩⟩
        · have HE : Hid (validT (s, i, rows) = true) := Lib.hid (by
            rw [hE.out, rowsB_end (by omega), ascB_end (by omega)]; rfl)
          clear hE HW hl1 t1
          go_wp2_with fail
          go_ret
          exact ⟨ret_bool HE.out.symm, hb2⟩

end Go.Proofs.YtpgfkjcekhifiaaGreat



namespace Go.Proofs.YtpgfkjcekhifiaaGreat

open Go.RowKit

set_option linter.unusedVariables false

set_option linter.unusedSimpArgs false

set_option synthInstance.maxSize 2000

set_option synthInstance.maxHeartbeats 400000

set_option maxRecDepth 100000 in
set_option maxHeartbeats 4000000 in
theorem containsRow_any (cs : List Value) (t : DT) (rb : Option Addr) (rn rc : Nat) (row : List Int) (w : World) (ht : rT.rep w cs t) (hr : Ints w rb rn row) (hv : validT t = true) (hm : row ∈ t.2.2) :
    Calls Tryz.prog 16 #[.agg cs.toArray, .slice rb rn rc] w fun e w' => e = .returned (.bool true) ∧ Below w.heap.size w w' := by
  have HV := Lib.hid (fun W (hW : Below w.heap.size w W) => validT_spec cs t W (rT.mono ht hW))
  rw [hv] at HV
  obtain ⟨ub, un, uc, rfl, hs, hi, g1⟩ := rT_open ht
  obtain ⟨s, ar, rows⟩ := t
  simp only at hs hi g1 hm HV
  have t0 := rS_sl g1
  have hl := t0.len
  have hn := t0.small
  have HM0 : Hid (row ∈ rows.drop 0) := Lib.hid hm
  clear ht g1 hv hm
  have hb0 : Below w.heap.size w w := Below.refl _ _
  go_enter Tryz.func16, Tryz.ntmps16
  obtain ⟨w1, hw1⟩ : ∃ W, W = w.alloc (.cells #[.string s, .int .i64 ar, .slice ub un uc] 44) := ⟨_, rfl⟩
  have z1 : Below w.heap.size w w1 := by rw [hw1]; exact (Below.refl _ _).alloc (Nat.le_refl _) _
  have s1 : w1.heap.size = w.heap.size + 1 := by rw [hw1]; simp
  have hb1 := on hb0 z1
  have T_0 : w1.cell? ⟨w.heap.size, 0, none⟩ = some (.string s) := by rw [hw1]; exact box_cell (Below.refl _ _) rfl
  have T_1 : w1.cell? ⟨w.heap.size, 1, none⟩ = some (.int .i64 ar) := by rw [hw1]; exact box_cell (Below.refl _ _) rfl
  have T_2 : w1.cell? ⟨w.heap.size, 2, none⟩ = some (.slice ub un uc) := by rw [hw1]; exact box_cell (Below.refl _ _) rfl
  have raw1_T_0 := T_0
  have raw1_T_1 := T_1
  have raw1_T_2 := T_2
  rw [hw1] at raw1_T_0 raw1_T_1 raw1_T_2
  go_wp2_with fail
  rw [← hw1]
  clear hw1
  clear raw1_T_0 raw1_T_1 raw1_T_2
  obtain ⟨wl, rfl⟩ : ∃ W, W = w1 := ⟨_, rfl⟩
  have hbl := hb1
  go_loopw [5] (fun i wr => ∃ j : Nat, j ≤ un ∧ i = .int .i64 (j : Int) ∧ Hid (row ∈ rows.drop j) ∧ Below wl.heap.size wl wr) (fun i _ => un - (intOf i).toNat)
  case atStart => exact ⟨0, Nat.zero_le _, rfl, HM0, Below.refl _ _⟩
  case round =>
    obtain ⟨j, hj, rfl, HM, hdr0⟩ := hrel
    obtain ⟨wo, rfl⟩ : ∃ W, W = wr := ⟨_, rfl⟩
    have so := hdr0.size
    have t_0 := bxc hdr0 T_0
    have t_1 := bxc hdr0 T_1
    have t_2 := bxc hdr0 T_2
    have hbo : Below w.heap.size w wo := on hbl hdr0
    have hlt : j < un := by
      by_cases h9 : j < un
      · exact h9
      · exfalso
        have h8 := HM.out
        rw [List.drop_eq_nil_of_le (by omega)] at h8
        cases h8
    have hji : (j : Int) < (un : Int) := by omega
    clear HM0
    go_wp2_with fail
    refine (HV.out _ hbo).mono ?_
    rintro e wv ⟨rfl, zv⟩
    have sv := zv.size
    have hbv : Below w.heap.size w wv := on hbo zv
    replace t_0 := bxc zv t_0
    replace t_1 := bxc zv t_1
    replace t_2 := bxc zv t_2
    have hdv : Below wl.heap.size wl wv := on hdr0 zv
    obtain ⟨b1, o1, cs1, x, rfl, hx, hrx, hc⟩ := t0.at hlt
    obtain ⟨xa0, xn0, xc0, rfl⟩ := rI_form hrx
    obtain ⟨xa, xc, ex, _, _, hxi⟩ := rI_open hrx
    rw [ex] at hc
    have e_lt : b1 < w.heap.size := cell_lt (hc 0 _ rfl)
    have e_0 : wv.cell? ⟨b1, o1 + j, none⟩ = some (.slice xa x.length xc) := (hbv.cell (p := ⟨b1, o1 + j, none⟩) e_lt).trans (by have h9 : w.cell? ⟨b1, o1 + (j * 1 + 0), none⟩ = _ := hc 0 _ rfl; simpa using h9)
    have HC := Lib.hid (cmp_spec xa rb x.length rn xc rc x row wv (hxi.below hbv) (hr.below hbv))
    clear hc hrx hxi hdr0 zv
    by_cases hq : x = row
    · subst hq
      have hz : cmpRows x x = 0 := cmpRows_self x
      rw [hz] at HC
      go_wp2_with fail
      refine HC.out.mono ?_
      rintro e wc ⟨rfl, zc⟩
      go_wp2_with fail
      go_ret
      exact ⟨rfl, on hbv (zc.below _)⟩
    · have hz : (cmpRows x row == 0) = false := by rw [beq_eq_false_iff_ne]; exact fun h => hq ((cmpRows_zero _ _).1 h)
      have HM2 : Hid (row ∈ rows.drop (j + 1)) := Lib.hid (by
        have h8 := HM.out
        rw [drop_at hx.out] at h8
        rcases List.mem_cons.1 h8 with h8 | h8
        · exact absurd h8.symm hq
        · exact h8)
      obtain ⟨z, hz9⟩ : ∃ z, cmpRows x row = z := ⟨_, rfl⟩
      rw [hz9] at HC hz
      clear hz9
      go_wp2_with fail
      refine HC.out.mono ?_
      rintro e wc ⟨rfl, zc⟩
      have hdc := on hdv (zc.below wv.heap.size)
      go_wp2_with fail
      go_roundw
      case rel => exact ⟨j + 1, by omega, by go_num, HM2, hdc⟩
      case measure => simp [intOf]; omega

end Go.Proofs.YtpgfkjcekhifiaaGreat

namespace Go.Proofs.YtpgfkjcekhifiaaGreat

open Go.RowKit

set_option linter.unusedVariables false

set_option linter.unusedSimpArgs false

def keepAt {α : Type} (key : α → List Int) (d : List α) (p : Nat) : Bool :=
  match d[p]?, d[p - 1]? with
  | some x, some y => decide (p = 0) || !decide (key x = key y)
  | _, _ => true

def dedTo {α : Type} (key : α → List Int) (d : List α) : Nat → List α
  | 0 => []
  | p + 1 => dedTo key d p ++ (if keepAt key d p then d[p]?.toList else [])

theorem dedTo_sub {α : Type} (key : α → List Int) (d : List α) : ∀ p, (dedTo key d p).Sublist (d.take p)
  | 0 => by simp [dedTo]
  | p + 1 => by
    rw [dedTo, List.take_add_one]
    refine (dedTo_sub key d p).append ?_
    split
    · exact List.Sublist.refl _
    · exact List.nil_sublist _

theorem dedTo_len {α : Type} (key : α → List Int) (d : List α) (p : Nat) : (dedTo key d p).length ≤ p := by
  have h1 := (dedTo_sub key d p).length_le
  have h2 := List.length_take_le p d
  omega

theorem dedTo_keep {α : Type} {key : α → List Int} {d : List α} {p : Nat} {x : α} (hx : d[p]? = some x) (h : keepAt key d p = true) : dedTo key d (p + 1) = dedTo key d p ++ [x] := by
  rw [dedTo, h, if_pos rfl, hx]; rfl

theorem dedTo_skip {α : Type} {key : α → List Int} {d : List α} {p : Nat} (h : keepAt key d p = false) : dedTo key d (p + 1) = dedTo key d p := by
  rw [dedTo, h]; simp

theorem keepAt_at {α : Type} {key : α → List Int} {d : List α} {p : Nat} {x y : α} (hx : d[p + 1]? = some x) (hy : d[p]? = some y) : keepAt key d (p + 1) = !decide (key x = key y) := by
  simp [keepAt, hx, hy]

theorem keepAt_zero {α : Type} {key : α → List Int} {d : List α} : keepAt key d 0 = true := by
  unfold keepAt; cases d[0]? <;> simp

theorem dedTo_all {α : Type} {key : α → List Int} {d : List α} : ∀ {p : Nat}, (∀ j, j < p → keepAt key d j = true) → dedTo key d p = d.take p
  | 0, _ => by simp [dedTo]
  | p + 1, h => by
    rw [dedTo, dedTo_all fun j hj => h j (by omega), h p (by omega), if_pos rfl, List.take_add_one]

def dedRow {α : Type} (key : α → List Int) (d : List α) (p : Nat) : List α := dedTo key d p ++ d.drop (dedTo key d p).length

theorem dedRow_len {α : Type} {key : α → List Int} {d : List α} {p : Nat} (hp : p ≤ d.length) : (dedRow key d p).length = d.length := by
  have := dedTo_len key d p
  simp [dedRow]; omega

theorem dedRow_get {α : Type} {key : α → List Int} {d : List α} {p j : Nat} (h : (dedTo key d p).length ≤ j) : (dedRow key d p)[j]? = d[j]? := by
  rw [dedRow, List.getElem?_append_right h, List.getElem?_drop]; congr 1; omega

theorem dedRow_set {α : Type} {key : α → List Int} {d : List α} {p : Nat} {x : α} (hx : d[p]? = some x) (h : keepAt key d p = true) : (dedRow key d p).set (dedTo key d p).length x = dedRow key d (p + 1) := by
  have hp := (List.getElem?_eq_some_iff.1 hx).1
  have hl := dedTo_len key d p
  rw [dedRow, dedRow, dedTo_keep hx h, List.set_append_right _ _ (Nat.le_refl _), Nat.sub_self]
  rw [List.drop_eq_getElem_cons (by omega), List.set_cons_zero]
  simp

def lastOf (p : List Int) : List (List Int) → List Int
  | [] => p
  | y :: t => lastOf y t

theorem lastOf_get : ∀ (p : List Int) (l : List (List Int)), (p :: l)[l.length]? = some (lastOf p l)
  | p, [] => rfl
  | p, y :: t => by
    have h := lastOf_get y t
    simpa [lastOf] using h

theorem dedupFrom_snoc : ∀ (p : List Int) (l : List (List Int)) (x : List Int), dedupFrom p (l ++ [x]) = dedupFrom p l ++ (if x = lastOf p l then [] else [x])
  | p, [], x => by
    by_cases e : x = p
    · subst e; simp [dedupFrom, lastOf]
    · simp [dedupFrom, lastOf, e]
  | p, y :: t, x => by
    have ih := dedupFrom_snoc y t x
    by_cases e : y = p
    · subst e
      show dedupFrom y (y :: (t ++ [x])) = dedupFrom y (y :: t) ++ _
      rw [dedupFrom, if_pos rfl, dedupFrom, if_pos rfl, ih]; rfl
    · show dedupFrom p (y :: (t ++ [x])) = dedupFrom p (y :: t) ++ _
      rw [dedupFrom, if_neg e, dedupFrom, if_neg e, ih]; rfl

theorem dedTo_map {α : Type} {key : α → List Int} {d : List α} : ∀ {p : Nat}, p ≤ d.length → (dedTo key d p).map key = dedup ((d.map key).take p)
  | 0, _ => by simp [dedTo, dedup]
  | 1, h => by
    cases d with
    | nil => simp at h
    | cons x t =>
      rw [dedTo_keep (x := x) rfl keepAt_zero]
      simp [dedTo, dedup, dedupFrom]
  | p + 2, h => by
    have h1 : p + 1 < d.length := h
    have h0 : p < d.length := by omega
    have ih := @dedTo_map _ key d (p + 1) (by omega)
    have hx : d[p + 1]? = some d[p + 1] := List.getElem?_eq_getElem h1
    have hy : d[p]? = some d[p] := List.getElem?_eq_getElem h0
    have e : (d.map key).take (p + 2) = (d.map key).take (p + 1) ++ [key d[p + 1]] := by
      rw [List.take_add_one (i := p + 1)]; simp [hx]
    obtain ⟨a, t, hat⟩ : ∃ a t, (d.map key).take (p + 1) = a :: t := by
      cases h9 : (d.map key).take (p + 1) with
      | nil =>
        have h8 := congrArg List.length h9
        rw [List.length_take, List.length_map, List.length_nil] at h8
        omega
      | cons a t => exact ⟨a, t, rfl⟩
    have hlen : t.length = p := by
      have := congrArg List.length hat; simp at this; omega
    have hlast : lastOf a t = key d[p] := by
      have h9 := lastOf_get a t
      rw [← hat, hlen, List.getElem?_take_of_lt (by omega), List.getElem?_map, hy] at h9
      exact (Option.some.inj h9).symm
    rw [e, hat]
    show _ = a :: dedupFrom a (t ++ [key d[p + 1]])
    rw [dedupFrom_snoc, hlast]
    rw [hat] at ih
    have ih' : (dedTo key d (p + 1)).map key = a :: dedupFrom a t := ih
    by_cases hk : key d[p + 1] = key d[p]
    · rw [dedTo_skip (by rw [keepAt_at hx hy, hk]; simp), ih', if_pos hk, List.append_nil]
    · rw [dedTo_keep hx (by rw [keepAt_at hx hy]; simp [hk]), List.map_append, ih', if_neg hk]; rfl

end Go.Proofs.YtpgfkjcekhifiaaGreat

namespace Go.Proofs.YtpgfkjcekhifiaaGreat

open Go.RowKit

set_option linter.unusedVariables false

set_option linter.unusedSimpArgs false

set_option maxHeartbeats 400000 in
theorem equalInts (a b : Option Addr) (n m cap cap' : Nat) (xs ys : List Int) (w : World) (h : Ints w a n xs) (h' : Ints w b m ys) :
    Calls Tryz.prog 33 #[.slice a n cap, .slice b m cap'] w fun e w' => e = .returned (.bool (decide (xs = ys))) ∧ Drew w w' := by
  have hl := h.len
  have hl' := h'.len
  have hn := h.small
  have hn' := h'.small
  by_cases hnm : n = m
  · subst hnm
    go_enter Tryz.func33, Tryz.ntmps33
    go_wp2
    go_loopw [5, 13] (fun _ k wr => ∃ j : Nat, j ≤ n ∧ k = .int .i64 j ∧ Hid (xs.take j = ys.take j) ∧ Drew w wr) (fun _ k _ => n - (intOf k).toNat)
    case atStart => exact ⟨0, Nat.zero_le _, rfl, rfl, Drew.refl _⟩
    case round =>
      obtain ⟨j, hj, rfl, hE, hdr⟩ := hrel
      replace h := h.drew hdr
      replace h' := h'.drew hdr
      by_cases hlt : j < n
      · obtain ⟨b1, o1, x, rfl, hc, hx, _, _⟩ := h.get hlt
        obtain ⟨b2, o2, y, rfl, hc', hy, _, _⟩ := h'.get hlt
        by_cases hxy : x = y
        · have HE := Lib.hid (take_same (by omega) (by omega) hE.out (by rw [hx.out, hy.out, hxy]))
          have hne : (x != y) = false := by simp [hxy]
          clear h h' hl hl' hxy
          go_wp2
          go_quiet (fail)
          go_wp2
          go_roundw
          case rel => exact ⟨j + 1, by omega, by go_num, HE, hdr.step _⟩
          case measure => simp [intOf]; omega
        · have HE := Lib.hid (show decide (xs = ys) = false by
            simp only [decide_eq_false_iff_not]; intro e; subst e; exact hxy (hx.out.symm.trans hy.out))
          have hne : (x != y) = true := by simp [hxy]
          clear h h' hl hl' hxy
          go_wp2
          go_quiet (fail)
          go_wp2
          go_ret
          exact ⟨ret_bool HE.out.symm, hdr.step _⟩
      · have HE := Lib.hid (show decide (xs = ys) = true by
          have e := hE.out
          rw [List.take_of_length_le (by omega), List.take_of_length_le (by omega)] at e
          simp [e])
        clear h h' hl hl'
        go_wp2
        go_ret
        exact ⟨ret_bool HE.out.symm, hdr⟩
  · have HE := Lib.hid (show decide (xs = ys) = false by
      simp only [decide_eq_false_iff_not]; intro e; subst e; omega)
    have hne : ((n : Int) != (m : Int)) = true := by rw [bne_iff_ne]; omega
    clear hl hl' h h'
    go_enter Tryz.func33, Tryz.ntmps33
    go_wp2
    go_ret
    exact ⟨ret_bool HE.out.symm, Drew.refl _⟩

set_option maxHeartbeats 400000 in
theorem equalRows1 (a b : Option Addr) (n m cap cap' : Nat) (xs ys : List Int) (w : World) (h : Ints w a n xs) (h' : Ints w b m ys) :
    Calls Tryz.prog 68 #[.slice a n cap, .slice b m cap'] w fun e w' => e = .returned (.bool (decide (xs = ys))) ∧ Drew w w' := by
  go_enter Tryz.func68, Tryz.ntmps68
  go_wp2_with fail
  refine (equalInts _ _ _ _ _ _ _ _ _ h h').mono ?_
  rintro e w' ⟨rfl, z⟩
  obtain ⟨t, ht⟩ : ∃ t, t = decide (xs = ys) := ⟨_, rfl⟩
  rw [← ht]
  have HT := Lib.hid ht
  clear ht
  go_wp2_with fail
  go_ret
  exact ⟨ret_bool HT.out, z⟩

theorem equalRows1K (u v : Value) (xs ys : List Int) (w : World) (h : rI.rep w [u] xs) (h' : rI.rep w [v] ys) :
    Calls Tryz.prog 68 #[u, v] w fun e w' => e = .returned (.bool (decide (xs = ys))) ∧ Below w.heap.size w w' := by
  obtain ⟨a, cap, rfl, _, _, hi⟩ := rI_open h
  obtain ⟨a', cap', rfl, _, _, hi'⟩ := rI_open h'
  exact (equalRows1 _ _ _ _ _ _ _ _ _ hi hi').mono fun e w' ⟨h1, h2⟩ => ⟨h1, h2.below _⟩

set_option maxHeartbeats 2000000 in
theorem equalFunc_II (u v : Value) (xs ys : List (List Int)) (w : World) (h : rII.rep w [u] xs) (h' : rII.rep w [v] ys) :
    Calls Tryz.prog 67 #[u, v, .func (Fn.func 68) #[] #[]] w fun e w' => e = .returned (.bool (decide (xs = ys))) ∧ Below w.heap.size w w' := by
  obtain ⟨a, cap, rfl, _, _, hi⟩ := rS_open h
  obtain ⟨a', cap', rfl, _, _, hi'⟩ := rS_open h'
  clear h h'
  have hn := hi.small
  have hn' := hi'.small
  obtain ⟨n, hl⟩ : ∃ n, xs.length = n := ⟨_, rfl⟩
  obtain ⟨m, hl'⟩ : ∃ n, ys.length = n := ⟨_, rfl⟩
  rw [hl] at hi hn ⊢
  rw [hl'] at hi' hn' ⊢
  by_cases hnm : n = m
  case neg =>
    have HE := Lib.hid (show decide (xs = ys) = false by simp only [decide_eq_false_iff_not]; intro e; subst e; omega)
    have hne : ((n : Int) != (m : Int)) = true := by rw [bne_iff_ne]; omega
    clear hl hl' hi hi'
    go_enter Tryz.func67, Tryz.ntmps67
    go_wp2_with fail
    go_ret
    exact ⟨ret_bool HE.out.symm, Below.refl _ _⟩
  subst hnm
  go_enter Tryz.func67, Tryz.ntmps67
  go_wp2_with fail
  go_loopw [7, 8, 17] (fun _ _ k wr => ∃ j : Nat, j ≤ n ∧ k = .int .i64 j ∧ Hid (xs.take j = ys.take j) ∧ Below w.heap.size w wr) (fun _ _ k _ => n - (intOf k).toNat)
  case atStart => exact ⟨0, Nat.zero_le _, rfl, rfl, Below.refl _ _⟩
  case round =>
    obtain ⟨j, hj, rfl, hE, hb⟩ := hrel
    by_cases hlt : j < n
    · obtain ⟨b, off, cs, x, rfl, hx, hr, hc⟩ := (hi.below hb).at hlt
      obtain ⟨b', off', ds, y, rfl, hy, hr', hd⟩ := (hi'.below hb).at hlt
      obtain ⟨ub, un, uc, rfl⟩ := rI_form hr
      obtain ⟨vb, vn, vc, rfl⟩ := rI_form hr'
      have c0 : wr.cell? ⟨b, off + j, none⟩ = some (.slice ub un uc) := by have h9 := hc 0 _ rfl; rw [show rI.size = 1 from rfl] at h9; simpa using h9
      have d0 : wr.cell? ⟨b', off' + j, none⟩ = some (.slice vb vn vc) := by have h9 := hd 0 _ rfl; rw [show rI.size = 1 from rfl] at h9; simpa using h9
      have hcall := equalRows1K _ _ x y wr hr hr'
      obtain ⟨t, ht⟩ : ∃ t, t = decide (x = y) := ⟨_, rfl⟩
      rw [← ht] at hcall
      have HC := Lib.hid hcall
      clear hcall hi hi' hr hr' hc hd
      have HT : Hid (if t = true then xs.take (j + 1) = ys.take (j + 1) else decide (xs = ys) = false) := by
        cases t
        · simp only [Bool.false_eq_true, if_false]
          have hxy : x ≠ y := by simpa using ht.symm
          simp only [Hid, Bool.false_eq_true, if_false, decide_eq_false_iff_not]; intro e; subst e; exact hxy (Option.some.inj (hx.out.symm.trans hy.out))
        · have hxy : x = y := by simpa using ht.symm
          simp only [Hid, if_true]; rw [take_snoc' xs j x hx.out, take_snoc' ys j y hy.out, hE.out, hxy]
      clear ht hx hy hE
      go_wp2_with fail
      refine HC.out.mono ?_
      rintro e w1 ⟨rfl, z1⟩
      have z2 := on hb z1
      cases t
      · have HE : Hid (decide (xs = ys) = false) := by simpa [Hid] using HT.out
        go_wp2_with fail
        go_ret
        exact ⟨ret_bool HE.out.symm, z2⟩
      · have HE : Hid (xs.take (j + 1) = ys.take (j + 1)) := by simpa [Hid] using HT.out
        go_wp2_with fail
        go_roundw
        case rel => exact ⟨j + 1, by omega, by go_num, HE.out, z2⟩
        case measure => simp [intOf]; omega
    · have HE := Lib.hid (show decide (xs = ys) = true by
        have e := hE.out
        rw [List.take_of_length_le (by omega), List.take_of_length_le (by omega)] at e
        simp [e])
      clear hi hi' hl hl'
      go_wp2_with fail
      go_ret
      exact ⟨ret_bool HE.out.symm, hb⟩

set_option maxHeartbeats 400000 in
theorem equalRows_any (u v : Value) (xs ys : List (List Int)) (w : World) (h : rII.rep w [u] xs) (h' : rII.rep w [v] ys) :
    Calls Tryz.prog 34 #[u, v] w fun e w' => e = .returned (.bool (decide (xs = ys))) ∧ Below w.heap.size w w' := by
  go_enter Tryz.func34, Tryz.ntmps34
  go_wp2_with fail
  refine (equalFunc_II _ _ _ _ _ h h').mono ?_
  rintro e w' ⟨rfl, z⟩
  obtain ⟨t, ht⟩ : ∃ t, t = decide (xs = ys) := ⟨_, rfl⟩
  rw [← ht]
  have HT := Lib.hid ht
  clear ht
  go_wp2_with fail
  go_ret
  exact ⟨ret_bool HT.out, z⟩

end Go.Proofs.YtpgfkjcekhifiaaGreat

namespace Go.Proofs.YtpgfkjcekhifiaaGreat

open Go.RowKit

set_option linter.unusedVariables false

set_option linter.unusedSimpArgs false

set_option synthInstance.maxSize 2000

set_option synthInstance.maxHeartbeats 400000

abbrev DDb := List DT

def rDb : RS DDb := rTl

theorem rDb_open {w : World} {cs : List Value} {x : DDb} (h : rDb.rep w cs x) : ∃ ub0 un0 uc0, cs = [.slice ub0 un0 uc0] ∧ rTl.rep w [.slice ub0 un0 uc0] x := by
  have hr0 := h
  obtain ⟨ub0, un0, uc0, rfl⟩ := rTl_form hr0
  exact ⟨_, _, _, rfl, hr0⟩

theorem rDb_form {w : World} {cs : List Value} {x : DDb} (h : rDb.rep w cs x) : ∃ ub0 un0 uc0, cs = [.slice ub0 un0 uc0] := by
  obtain ⟨ub0, un0, uc0, h1, _⟩ := rDb_open h
  exact ⟨_, _, _, h1⟩

end Go.Proofs.YtpgfkjcekhifiaaGreat

namespace Go.Proofs.YtpgfkjcekhifiaaGreat

open Go.RowKit

set_option linter.unusedVariables false

set_option linter.unusedSimpArgs false

set_option synthInstance.maxSize 2000

set_option synthInstance.maxHeartbeats 400000

def cnt_An (x : DAn) : Nat := cnt_I x.1 + cnt_II x.2

theorem cnt_le_An (x : DAn) : cnt_An x ≤ 2 * bulk_An x := by
  have h0 := cnt_le_I x.1
  have h1 := cnt_le_II x.2
  simp only [cnt_An, bulk_An]; omega

end Go.Proofs.YtpgfkjcekhifiaaGreat





namespace Go.Proofs.YtpgfkjcekhifiaaGreat

open Go.RowKit

set_option linter.unusedVariables false

set_option linter.unusedSimpArgs false

theorem oSl_len2 {α : Type} {t : TypeId} {o : OS α} {w : World} {cs : List Value} {xs : List α} {fp : List Nat} (h : (O.slice t o).rep w cs xs fp) : ∃ a cap, cs = [.slice a xs.length cap] := by
  obtain ⟨v, css, fps, rfl, rfl, h1, _⟩ := h
  obtain ⟨a, cap, rfl, _⟩ := own_form h1
  exact ⟨a, cap, rfl⟩

theorem own_head {lo hi : Nat} {w : World} {b : Option Addr} {n c : Nat} {ys : List DA} (h : Own oAs lo hi w [.slice b n c] ys) {x : DA} (hx : ys[0]? = some x) (hv : 1 ≤ x.2.length) :
    ∃ g g2 m, b = some ⟨g, 0, none⟩ ∧ (lo ≤ g ∧ g < hi ∧ g < w.heap.size) ∧ (lo ≤ g2 ∧ g2 < hi ∧ g2 < w.heap.size) ∧ g2 ≠ g ∧ w.cell? ⟨g, 1, none⟩ = some (.slice (some ⟨g2, 0, none⟩) x.2.length m) ∧ w.frozen? ⟨g, 1, none⟩ = false ∧ (∃ v, w.cell? ⟨g2, 0, none⟩ = some (.int .i64 v)) ∧ w.frozen? ⟨g2, 0, none⟩ = false ∧
      ∀ (w' : World) (z : Int), I64 z → (∀ k, lo ≤ k → k < hi → w'.heap[k]? = w.heap[k]?) → Own oAs lo hi (w'.setCell ⟨g2, 0, none⟩ (.int .i64 z)) [.slice b n c] (ys.set 0 (x.1, x.2.set 0 z)) := by
  obtain ⟨fp, hr, hn, hb⟩ := h
  obtain ⟨g, cc, f, pre, post, E, rfl, g1, g2, g3, hrep, hfn, hsub, hpre, hgc, hput⟩ := slice_at hr hn hx
  obtain ⟨d0, d1, p0, q1, rfl, rfl, ⟨rfl, hs0, rfl⟩, t2⟩ := hrep
  obtain ⟨a2, m2, rfl⟩ := oSl_len2 t2
  obtain ⟨v, hvx⟩ : ∃ v, x.2[0]? = some v := ⟨_, List.getElem?_eq_getElem (by omega)⟩
  obtain ⟨k, c2, f2, pre2, post2, E2, rfl, k1, k2, k3, hrep2, hfn2, hsub2, hpre2, hkc, hput2⟩ := slice_at t2 (by simpa using hfn) hvx
  obtain ⟨rfl, hI, rfl⟩ := hrep2
  replace hpre : pre.length = 0 := by simpa using hpre
  replace hpre2 : pre2.length = 0 := by simpa using hpre2
  have hgr := hb g g1
  have hkf : k ∈ fp := hsub k (by simpa using k1)
  have hkr := hb k hkf
  have hkg : k ≠ g := fun e => g2 (by subst e; simpa using k1)
  have hgc2 : w.heap[g]? = some (.cells (pre ++ ([Value.string x.1, Value.slice (some ⟨k, 0, none⟩) x.2.length m2] ++ post)).toArray E) := hgc
  refine ⟨g, k, m2, rfl, ⟨hgr.1, hgr.2, g3⟩, ⟨hkr.1, hkr.2, k3⟩, hkg, at_cell hgc2 hpre (j := 1) rfl, at_frozen hgc2 1, ⟨v, at_cell hkc hpre2 (j := 0) rfl⟩, at_frozen hkc 0, fun w' z hz hsame => ?_⟩
  have hk' := hsame k hkr.1 hkr.2
  have hg' := hsame g hgr.1 hgr.2
  have hset : (w'.setCell ⟨k, 0, none⟩ (.int .i64 z)).heap[k]? = some (.cells (pre2 ++ ([Value.int .i64 z] ++ post2)).toArray E2) := at_set (w := w') (c := [.int .i64 v]) (hk'.trans hkc) hpre2 (j := 0) (Nat.zero_lt_succ _) (.int .i64 z)
  have hoth : ∀ i, lo ≤ i → i < hi → i ≠ k → (w'.setCell ⟨k, 0, none⟩ (.int .i64 z)).heap[i]? = w.heap[i]? := fun i h1 h2 h3 => (Below.heap_setCell _ _ _ _ h3).trans (hsame i h1 h2)
  have hin := hput2 (w'.setCell ⟨k, 0, none⟩ (.int .i64 z)) z [.int .i64 z] ⟨rfl, hz, rfl⟩ hset (fun i hi1 hi2 _ => by
    have h9 := hb i (hsub i (by simpa using hi1))
    exact hoth i h9.1 h9.2 hi2)
  refine ⟨fp, hput (w'.setCell ⟨k, 0, none⟩ (.int .i64 z)) (x.1, x.2.set 0 z) [Value.string x.1, Value.slice (some ⟨k, 0, none⟩) x.2.length m2] ⟨[.string x.1], [.slice (some ⟨k, 0, none⟩) x.2.length m2], [], q1, rfl, rfl, ⟨rfl, hs0, rfl⟩, hin⟩ ((hoth g hgr.1 hgr.2 (Ne.symm hkg)).trans hgc2) (fun i hi1 hi2 hi3 => ?_), hn, hb⟩
  have h9 := hb i hi1
  exact hoth i h9.1 h9.2 (fun e => hi3 (by subst e; simpa using k1))

end Go.Proofs.YtpgfkjcekhifiaaGreat

namespace Go.Proofs.YtpgfkjcekhifiaaGreat

open Go.RowKit

set_option linter.unusedVariables false

set_option linter.unusedSimpArgs false

set_option synthInstance.maxSize 2000

set_option synthInstance.maxHeartbeats 400000

def selOk (row cols : List Int) : Bool := cols.all (fun c => betw c 0 ((row.length : Int) - 1))

def selAt (row cols : List Int) : List Int := cols.map (fun c => row.getD c.toNat 0)

def sel (row cols : List Int) : List Int := if selOk row cols then selAt row cols else []

theorem selAt_len (row cols : List Int) : (selAt row cols).length = cols.length := by simp [selAt]

theorem sel_len (row cols : List Int) : (sel row cols).length ≤ cols.length := by
  unfold sel; split <;> simp [selAt]

theorem selAt_step {row cols : List Int} {j : Nat} {c : Nat} {x : Int} (hj : j < cols.length) (hc : cols.getD j 0 = (c : Int)) (hx : row.getD c 0 = x) : selAt row (cols.take (j + 1)) = selAt row (cols.take j) ++ [x] := by
  rw [take_snoc cols j hj, hc]; simp only [selAt, List.map_append, List.map_cons, List.map_nil, Int.toNat_natCast, hx]

theorem selOk_no {row cols : List Int} {j : Nat} {x : Int} (hj : j < cols.length) (hc : cols.getD j 0 = x) (hb : betw x 0 ((row.length : Int) - 1) = false) : selOk row cols = false := by
  rw [selOk, List.all_eq_false]
  refine ⟨x, ?_, by rw [hb]; simp⟩
  rw [← hc, List.getD_eq_getElem?_getD, List.getElem?_eq_getElem hj]
  exact List.getElem_mem hj

theorem selOk_at {row cols : List Int} {j : Nat} {x : Int} (hj : j < cols.length) (hc : cols.getD j 0 = x) : selOk row (cols.drop j) = (betw x 0 ((row.length : Int) - 1) && selOk row (cols.drop (j + 1))) := by
  rw [drop_cons cols j hj, hc]; rfl

theorem selOk_end {row cols : List Int} {j : Nat} (hj : cols.length ≤ j) : selOk row (cols.drop j) = true := by
  rw [List.drop_eq_nil_of_le hj]; rfl

theorem betw_nat {x m : Int} (h : betw x 0 m = true) : ∃ c : Nat, x = (c : Int) ∧ (c : Int) ≤ m := by
  simp only [betw, Bool.and_eq_true, decide_eq_true_eq] at h
  exact ⟨x.toNat, by omega, by omega⟩

set_option maxHeartbeats 2000000 in
theorem sel_impl (a b : Option Addr) (n m cap cap' : Nat) (row cols : List Int) (w : World) (h : Ints w a n row) (h' : Ints w b m cols) (hm : m ≤ 1048576) :
    Calls Tryz.prog 61 #[.slice a n cap, .slice b m cap'] w fun e w' => ∃ vb vn vc, e = .returned (.tuple #[.slice vb vn vc, .bool (selOk row cols)]) ∧ Own oI w.heap.size w'.heap.size w' [.slice vb vn vc] (sel row cols) ∧ Below w.heap.size w w' := by
  have hl := h.len
  have hl' := h'.len
  have hn := h.small
  have hn' := h'.small
  have HV : Hid (selOk row cols = selOk row (cols.drop 0)) := Lib.hid (by simp)
  have hwn : IntKind.i64.wrap ((n : Int) - 1) = (n : Int) - 1 := IntWalk.i64_in _ (by omega)
  have hb0 : Below w.heap.size w w := Below.refl _ _
  go_enter Tryz.func61, Tryz.ntmps61
  obtain ⟨w1, hw1⟩ : ∃ W, W = w.alloc (.cells #[] 3) := ⟨_, rfl⟩
  have z1 : Below w.heap.size w w1 := by rw [hw1]; exact (Below.refl _ _).alloc (Nat.le_refl _) _
  have s1 : w1.heap.size = w.heap.size + 1 := by rw [hw1]; simp
  have hb1 := on hb0 z1
  have ho : ∀ S, Acc 3 O.int w.heap.size S w1.heap.size w1 (.slice (some ⟨w.heap.size, 0, none⟩) 0 0) [] := fun S => by rw [hw1]; exact Acc.empty (by omega) (by first | (simp; done) | (simp; omega))
  go_wp2_with fail
  rw [← hw1]
  clear hw1
  go_loopw [6, 12] (fun v i wr => ∃ j : Nat, j ≤ m ∧ i = .int .i64 j ∧ Hid (selOk row cols = selOk row (cols.drop j)) ∧ Acc 3 O.int w.heap.size w1.heap.size wr.heap.size wr v (selAt row (cols.take j)) ∧ Turn w.heap.size (w.heap.size + 1) w1 wr) (fun _ i _ => m - (intOf i).toNat)
  case atStart => exact ⟨0, Nat.zero_le _, rfl, HV.out, by rw [List.take_zero]; exact (ho _).wide (Nat.le_refl _) (by omega), turn_refl _ _ _⟩
  case round =>
    obtain ⟨j, hj, rfl, hE, hacc, hdr⟩ := hrel
    have hlc := hdr
    have s2 := hdr.size
    have hb2 := hb1.trans ((hdr.below (by omega)).mono (by omega))
    have hbl : (selAt row (cols.take j)).length ≤ 1048576 := by rw [selAt_len]; have h2 : (cols.take j).length ≤ j := List.length_take_le _ _; omega
    by_cases hlt : j < m
    · obtain ⟨b1, o1, x, rfl, hc, hx, _, _⟩ := h'.get hlt
      have c0_lt : b1 < w.heap.size := cell_lt hc
      have c0 : wr.cell? ⟨b1, o1 + j, none⟩ = some (.int .i64 x) := (hb2.cell (p := ⟨b1, o1 + j, none⟩) c0_lt).trans hc
      have hcall := fun W => within_any x 0 ((n : Int) - 1) W
      by_cases hb : betw x 0 ((n : Int) - 1) = true
      case neg =>
        replace hb : betw x 0 ((n : Int) - 1) = false := by simpa using hb
        have HE := Lib.hid (selOk_no (row := row) (by omega) hx.out (by rw [hl]; exact hb))
        rw [hb] at hcall
        have HC := Lib.hid hcall
        have HS := Lib.hid (show sel row cols = [] by simp [sel, HE.out])
        clear h h' hb hcall hE HV hl hl' ho hx hc hacc
        go_wp2_with fail
        refine (HC.out _).mono ?_
        rintro e w' ⟨rfl, rfl⟩
        go_wp2_with fail
        refine bodyPost_ret (v := .tuple #[.slice none 0 0, .bool false]) (by simp [results, Tryz.results61, go_sem]) rfl ⟨_, _, _, by rw [HE.out], by rw [HS.out]; exact own_nil_S.mono (Nat.le_refl _) (by omega), hb2⟩
      obtain ⟨c, rfl, hcn⟩ := betw_nat hb
      rw [hb] at hcall
      have HC := Lib.hid hcall
      obtain ⟨b2, o2, y, rfl, hcy, hy, hy1, hy2⟩ := h.get (show c < n by omega)
      have cy_lt : b2 < w.heap.size := cell_lt hcy
      have cy : wr.cell? ⟨b2, o2 + c, none⟩ = some (.int .i64 y) := (hb2.cell (p := ⟨b2, o2 + c, none⟩) cy_lt).trans hcy
      have HB := Lib.hid (selAt_step (show j < cols.length by omega) hx.out hy.out)
      have HE : Hid (selOk row cols = selOk row (cols.drop (j + 1))) := Lib.hid (by rw [hE.out, selOk_at (by omega) hx.out, hl, hb]; rfl)
      clear h h' hb hcall hE HV hl hl' ho hx hc hy hcy
      go_wp2_with (first
        | (go_at_call 26; refine (HC.out _).mono ?_; rintro e w' ⟨rfl, rfl⟩)
        | (at_builtin; refine wpList_accI _ _ _ _ _ hacc hlc rfl (by omega) (Nat.le_refl _) ⟨by omega, by omega⟩ (by omega) rfl rfl rfl rfl rfl ?_; intro v' w1 hacc' ht' hsz'))
      rw [← HB.out] at hacc'
      go_roundw
      case rel => exact ⟨j + 1, by omega, by go_num, HE.out, hacc', ht'⟩
      case measure => simp [intOf]; omega
    · obtain rfl : j = m := by omega
      have HE : Hid (selOk row cols = true) := Lib.hid (by rw [hE.out, selOk_end (by omega)])
      have HS := Lib.hid (show sel row cols = selAt row cols by simp [sel, HE.out])
      rw [List.take_of_length_le (by omega), ← HS.out] at hacc
      obtain ⟨a', n', cap2, rfl⟩ := hacc.form3
      have HO := Lib.hid (hacc.own (B := w.heap.size) (by omega) (by omega) (Nat.le_refl _))
      clear hacc h h' hl hl' ho hE HV
      go_wp2_with fail
      refine bodyPost_ret (v := .tuple #[.slice a' n' cap2, .bool true]) (by simp [results, Tryz.results61, go_sem]) rfl ⟨_, _, _, by rw [HE.out], HO.out, hb2⟩

end Go.Proofs.YtpgfkjcekhifiaaGreat

namespace Go.Proofs.YtpgfkjcekhifiaaGreat

open Go.RowKit

set_option linter.unusedVariables false

set_option linter.unusedSimpArgs false

set_option synthInstance.maxSize 2000

set_option synthInstance.maxHeartbeats 400000

set_option maxHeartbeats 2000000 in
theorem validAn_spec (cs : List Value) (x : DAn) (w : World) (h : rAn.rep w cs x) :
    Calls Tryz.prog 39 #[.agg cs.toArray] w fun e w' => e = .returned (.bool (validAn x)) ∧ Below w.heap.size w w' := by
  obtain ⟨ub0, un0, uc0, ub1, un1, uc1, rfl, g0, g1⟩ := rAn_open h
  clear h
  obtain ⟨vs, rows⟩ := x
  simp only at g0 g1
  have i0 := rI_ints g0
  have t1 := rS_sl g1
  have hl := i0.len
  have hl1 := t1.len
  have hn := i0.small
  have hn1 := t1.small
  have HV := Lib.hid (show validAn (vs, rows) = (colsFrom 4 (prevOf vs 0) (vs.drop 0) && (rowsB un0 rows && ascB rows)) by rw [validAn, ← hl]; simp [colsB, prevOf, Bool.and_assoc])
  have hb0 : Below w.heap.size w w := Below.refl _ _
  go_enter Tryz.func39, Tryz.ntmps39
  obtain ⟨w1, hw1⟩ : ∃ W, W = w.alloc (.cells #[.slice ub0 un0 uc0, .slice ub1 un1 uc1] 35) := ⟨_, rfl⟩
  have z1 : Below w.heap.size w w1 := by rw [hw1]; exact (Below.refl _ _).alloc (Nat.le_refl _) _
  have s1 : w1.heap.size = w.heap.size + 1 := by rw [hw1]; simp
  have hb1 := on hb0 z1
  have b_0 : w1.cell? ⟨w.heap.size, 0, none⟩ = some (.slice ub0 un0 uc0) := by rw [hw1]; exact box_cell (Below.refl _ _) rfl
  have b_1 : w1.cell? ⟨w.heap.size, 1, none⟩ = some (.slice ub1 un1 uc1) := by rw [hw1]; exact box_cell (Below.refl _ _) rfl
  have raw1_b_0 := b_0
  have raw1_b_1 := b_1
  rw [hw1] at raw1_b_0 raw1_b_1
  go_wp2_with fail
  rw [← hw1]
  clear hw1
  clear raw1_b_0 raw1_b_1
  go_loopw [3] (fun k wr => ∃ j : Nat, j ≤ un0 ∧ k = .int .i64 j ∧ Hid (validAn (vs, rows) = (colsFrom 4 (prevOf vs j) (vs.drop j) && (rowsB un0 rows && ascB rows))) ∧ Drew w1 wr) (fun k _ => un0 - (intOf k).toNat)
  case atStart => exact ⟨0, Nat.zero_le _, rfl, HV.out, Drew.refl _⟩
  case round =>
    obtain ⟨j, hj, rfl, hE, hdr⟩ := hrel
    have hlc := hdr
    replace hdr : Below w1.heap.size w1 wr := hdr.below _
    have s2 := hdr.size
    have hb2 := on hb1 hdr
    replace b_0 := bxc hdr b_0
    replace b_1 := bxc hdr b_1
    by_cases hlt : j < un0
    · obtain ⟨b0, o0, x, rfl, hc, hx, _, _⟩ := i0.get hlt
      have c0_lt : b0 < w.heap.size := cell_lt hc
      have c0 : wr.cell? ⟨b0, o0 + j, none⟩ = some (.int .i64 x) := (hb2.cell (p := ⟨b0, o0 + j, none⟩) c0_lt).trans hc
      have HA := Lib.hid (hE.out.trans (by rw [cols_at (by omega) hx.out]))
      clear hE HV hl
      by_cases hb : betw x 0 3 = true
      case neg =>
        replace hb : betw x 0 3 = false := by simpa using hb
        have HE := Lib.hid (show validAn (vs, rows) = false by rw [HA.out]; simp [hb])
        have hcall := fun q => l1In_any x 0 3 (wr.drewN q)
        rw [hb] at hcall
        have HC := Lib.hid hcall
        clear i0 t1 hl1 hb hcall
        go_wp2_with fail
        go_quiet ((go_at_call 30; exact quiet_same (HC.out _)))
        go_wp2_with fail
        go_ret
        exact ⟨ret_bool HE.out.symm, onD hb2 ⟨_, rfl⟩⟩
      have hx0 := betw_pos hb
      have hcall := fun q => l1In_any x 0 3 (wr.drewN q)
      rw [hb] at hcall
      have HC := Lib.hid hcall
      have H0 := Lib.hid hb
      clear hcall hb
      by_cases hj0 : j = 0
      · subst hj0
        have HE := Lib.hid (show validAn (vs, rows) = (colsFrom 4 (prevOf vs (0 + 1)) (vs.drop (0 + 1)) && (rowsB un0 rows && ascB rows)) by
          rw [HA.out, show prevOf vs (0 + 1) = x from hx.out, show betw x 0 (4 - 1) = true from H0.out, show decide (prevOf vs 0 < x) = true from decide_eq_true (show (-1 : Int) < x by omega)]; simp)
        have c0' : wr.cell? ⟨b0, o0, none⟩ = some (.int .i64 x) := c0
        clear i0 t1 hl1 hx HA
        go_wp2_with fail
        go_quiet ((go_at_call 30; exact quiet_same (HC.out _)))
        go_wp2_with fail
        go_roundw
        case rel => exact ⟨1, by omega, rfl, HE.out, hlc.step _⟩
        case measure => simp [intOf]; omega
      obtain ⟨i, rfl⟩ : ∃ i, j = i + 1 := ⟨j - 1, by omega⟩
      obtain ⟨b9, o9, y, hb9, hcy, hy, _, _⟩ := i0.get (show i < un0 by omega)
      simp at hb9
      obtain ⟨rfl, rfl⟩ := hb9
      have cy_lt : b0 < w.heap.size := cell_lt hcy
      have cy : wr.cell? ⟨b0, o0 + i, none⟩ = some (.int .i64 y) := (hb2.cell (p := ⟨b0, o0 + i, none⟩) cy_lt).trans hcy
      have hp : prevOf vs (i + 1) = y := hy.out
      rw [hp] at HA
      have hi63 : IntKind.i64.wrap (i : Int) = (i : Int) := IntWalk.i64_in _ (by omega)
      by_cases hxy : y < x
      · have HE := Lib.hid (show validAn (vs, rows) = (colsFrom 4 (prevOf vs (i + 1 + 1)) (vs.drop (i + 1 + 1)) && (rowsB un0 rows && ascB rows)) by
          rw [HA.out, show prevOf vs (i + 1 + 1) = x from hx.out, show betw x 0 (4 - 1) = true from H0.out, decide_eq_true hxy]; simp)
        clear i0 t1 hl1 hx HA hp hj0 hc hcy
        go_wp2_with fail
        go_quiet ((go_at_call 30; exact quiet_same (HC.out _)))
        clear hi63
        go_wp2_with fail
        go_roundw
        case rel => exact ⟨i + 1 + 1, by omega, by go_num, HE.out, hlc.step _⟩
        case measure => simp [intOf]; omega
      · have HE := Lib.hid (show validAn (vs, rows) = false by rw [HA.out]; simp [hxy])
        clear i0 t1 hl1 hx HA hp hj0 hc hcy
        go_wp2_with fail
        go_quiet ((go_at_call 30; exact quiet_same (HC.out _)))
        clear hi63
        go_wp2_with fail
        go_ret
        exact ⟨ret_bool HE.out.symm, onD hb2 ⟨_, rfl⟩⟩
    · have HW : Hid (validAn (vs, rows) = (rowsB un0 (rows.drop 0) && ascB (rows.drop (0 - 1)))) := Lib.hid (by rw [hE.out, cols_end (by omega)]; rfl)
      clear hE HV i0 hl
      obtain ⟨wo, rfl⟩ : ∃ W, W = wr := ⟨_, rfl⟩
      go_wp2_with fail
      go_loopw [4] (fun k wr => ∃ j : Nat, j ≤ un1 ∧ k = .int .i64 j ∧ Hid (validAn (vs, rows) = (rowsB un0 (rows.drop j) && ascB (rows.drop (j - 1)))) ∧ Drew wo wr) (fun k _ => un1 - (intOf k).toNat)
      case atStart => exact ⟨0, Nat.zero_le _, rfl, HW.out, Drew.refl _⟩
      case round =>
        obtain ⟨j, hj, rfl, hE, hdr⟩ := hrel
        have hlc := hdr
        replace hdr : Below wo.heap.size wo wr := hdr.below _
        have s3 := hdr.size
        have hb3 := on hb2 hdr
        replace b_0 := bxc hdr b_0
        replace b_1 := bxc hdr b_1
        by_cases hlt : j < un1
        · obtain ⟨b0, o0, r1, m1, q1, x, rfl, hc, hx, hi, _⟩ := t1.row hlt
          have hclt : b0 < w.heap.size := cell_lt hc
          have c0 : wr.cell? ⟨b0, o0 + j, none⟩ = some (.slice r1 m1 q1) := (hb3.cell (p := ⟨b0, o0 + j, none⟩) hclt).trans hc
          have hcall := fun q => l4Row_any r1 m1 q1 x un0 (wr.drewN q) ((hi.below hb3).drewN q)
          obtain ⟨t, ht⟩ : ∃ t, t = rowB x un0 := ⟨_, rfl⟩
          rw [← ht] at hcall
          have HC := Lib.hid hcall
          have HA := Lib.hid (hE.out.trans (by rw [rowsB_at hx.out, ← ht]))
          clear hcall ht hE HW
          cases t with
          | false =>
            have HE := Lib.hid (show validAn (vs, rows) = false by rw [HA.out]; simp)
            clear t1 hl1 hx hi hc
            go_wp2_with fail
            go_quiet ((go_at_call 73; exact quiet_same (HC.out _)))
            go_wp2_with fail
            go_ret
            exact ⟨ret_bool HE.out.symm, onD hb3 ⟨_, rfl⟩⟩
          | true =>
            by_cases hj0 : j = 0
            · subst hj0
              have HE := Lib.hid (show validAn (vs, rows) = (rowsB un0 (rows.drop (0 + 1)) && ascB (rows.drop (0 + 1 - 1))) by rw [HA.out]; simp)
              have c0' : wr.cell? ⟨b0, o0, none⟩ = some (.slice r1 m1 q1) := c0
              clear t1 hl1 hx hi hc
              go_wp2_with fail
              go_quiet ((go_at_call 73; exact quiet_same (HC.out _)))
              go_wp2_with fail
              go_roundw
              case rel => exact ⟨1, by omega, rfl, HE.out, hlc.step _⟩
              case measure => simp [intOf]; omega
            obtain ⟨i, rfl⟩ : ∃ i, j = i + 1 := ⟨j - 1, by omega⟩
            obtain ⟨b9, o9, r2, m2, q2, y, hb9, hcy, hy, hi', _⟩ := t1.row (show i < un1 by omega)
            simp at hb9
            obtain ⟨rfl, rfl⟩ := hb9
            have cy : wr.cell? ⟨b0, o0 + i, none⟩ = some (.slice r2 m2 q2) := (hb3.cell (p := ⟨b0, o0 + i, none⟩) hclt).trans hcy
            have hi63 : IntKind.i64.wrap (i : Int) = (i : Int) := IntWalk.i64_in _ (by omega)
            have hcall := fun q => cmp_spec r2 r1 m2 m1 q2 q1 y x (wr.drewN q) ((hi'.below hb3).drewN q) ((hi.below hb3).drewN q)
            obtain ⟨c, hcc⟩ : ∃ c, c = cmpRows y x := ⟨_, rfl⟩
            rw [← hcc] at hcall
            have HA2 : Hid (validAn (vs, rows) = (rowsB un0 (rows.drop (i + 1 + 1)) && (decide (c < 0) && ascB (rows.drop (i + 1))))) := Lib.hid (by
              rw [HA.out, show i + 1 - 1 = i by omega, ascB_at hy.out hx.out, hcc]; rfl)
            have HD := Lib.hid hcall
            clear t1 hl1 hx hy hi hi' hc hcy hcall hcc HA hj0
            by_cases h0 : c < 0
            · have HE := Lib.hid (show validAn (vs, rows) = (rowsB un0 (rows.drop (i + 1 + 1)) && ascB (rows.drop (i + 1 + 1 - 1))) by rw [HA2.out, decide_eq_true h0]; simp)
              go_wp2_with fail
              go_quiet ((first | (go_at_call 73; exact quiet_same (HC.out _)) | (go_at_call 45; exact quiet_drew (HD.out _))))
              clear hi63
              go_wp2_with fail
              go_roundw
              case rel => exact ⟨i + 1 + 1, by omega, by go_num, HE.out, hlc.step _⟩
              case measure => simp [intOf]; omega
            · have HE := Lib.hid (show validAn (vs, rows) = false by rw [HA2.out]; simp [h0])
              go_wp2_with fail
              go_quiet ((first | (go_at_call 73; exact quiet_same (HC.out _)) | (go_at_call 45; exact quiet_drew (HD.out _))))
              clear hi63
              go_wp2_with fail
              go_ret
              exact ⟨ret_bool HE.out.symm, onD hb3 ⟨_, rfl⟩⟩
        · have HE : Hid (validAn (vs, rows) = true) := Lib.hid (by
            rw [hE.out, rowsB_end (by omega), ascB_end (by omega)]; rfl)
          clear hE HW hl1 t1
          go_wp2_with fail
          go_ret
          exact ⟨ret_bool HE.out.symm, hb3⟩

end Go.Proofs.YtpgfkjcekhifiaaGreat

namespace Go.Proofs.YtpgfkjcekhifiaaGreat

open Go.RowKit

set_option linter.unusedVariables false

set_option linter.unusedSimpArgs false

def vbits (m : Nat) : List Int → Nat
  | [] => m
  | v :: t => vbits (m ||| 2 ^ v.toNat) t

def varsFrom (n : Int) (pre : List Int) : List Int → Bool
  | [] => true
  | v :: t => betw v 0 (n - 1) && !has pre v && varsFrom n (pre ++ [v]) t

def validFrom (n m : Nat) : List DA → Bool
  | [] => decide (m = 2 ^ n - 1)
  | a :: t => nameB a.1 && betw a.2.length 1 3 && (varsFrom n [] a.2 && validFrom n (vbits m a.2) t)

def validQ (q : DQ) : Bool := betw q.1 1 4 && betw q.2.length 1 4 && validFrom q.1.toNat 0 q.2

theorem validQ_no1 {q : DQ} (h : betw q.1 1 4 = false) : validQ q = false := by simp [validQ, h]

theorem validQ_no2 {q : DQ} (h : betw q.2.length 1 4 = false) : validQ q = false := by simp [validQ, h]

theorem validQ_go {n : Nat} {xs : List DA} (h : betw (n : Int) 1 4 = true) (h' : betw xs.length 1 4 = true) : validQ ((n : Int), xs) = validFrom n 0 (xs.drop 0) := by simp [validQ, h, h']

theorem validFrom_at {n m j : Nat} {xs : List DA} {a : DA} (h : xs[j]? = some a) : validFrom n m (xs.drop j) = (nameB a.1 && betw a.2.length 1 3 && (varsFrom n (a.2.take 0) (a.2.drop 0) && validFrom n (vbits m (a.2.drop 0)) (xs.drop (j + 1)))) := by
  obtain ⟨h1, rfl⟩ := List.getElem?_eq_some_iff.1 h
  rw [List.drop_eq_getElem_cons h1]; simp [validFrom]

theorem validFrom_end {n m j : Nat} {xs : List DA} (h : xs.length ≤ j) : validFrom n m (xs.drop j) = decide (m = 2 ^ n - 1) := by
  rw [List.drop_eq_nil_of_le h]; rfl

theorem vars_no {n : Int} {k : Nat} {v : Int} {vs : List Int} (hk : k < vs.length) (hv : vs.getD k 0 = v) (h : (betw v 0 (n - 1) && !has (vs.take k) v) = false) : varsFrom n (vs.take k) (vs.drop k) = false := by
  rw [drop_cons vs k hk, hv, varsFrom, h]; rfl

theorem vars_yes {n : Int} {k : Nat} {v : Int} {vs : List Int} (hk : k < vs.length) (hv : vs.getD k 0 = v) (h : betw v 0 (n - 1) = true) (h' : has (vs.take k) v = false) : varsFrom n (vs.take k) (vs.drop k) = varsFrom n (vs.take (k + 1)) (vs.drop (k + 1)) := by
  rw [drop_cons vs k hk, hv, varsFrom, h, h', take_snoc vs k hk, hv]; simp

theorem vbits_at {m k : Nat} {v : Nat} {vs : List Int} (hk : k < vs.length) (hv : vs.getD k 0 = (v : Int)) : vbits m (vs.drop k) = vbits (m ||| 2 ^ v) (vs.drop (k + 1)) := by
  rw [drop_cons vs k hk, hv, vbits]; simp

theorem vars_end {n : Int} {k : Nat} {vs : List Int} (hk : vs.length ≤ k) : varsFrom n (vs.take k) (vs.drop k) = true := by
  rw [List.drop_eq_nil_of_le hk]; rfl

theorem vbits_end {m k : Nat} {vs : List Int} (hk : vs.length ≤ k) : vbits m (vs.drop k) = m := by
  rw [List.drop_eq_nil_of_le hk]; rfl

theorem or_lt {m v n : Nat} (h : m < 2 ^ n) (hv : v < n) : m ||| 2 ^ v < 2 ^ n := Nat.or_lt_two_pow h (Nat.pow_lt_pow_right (by omega) hv)

theorem pow_le16 {n : Nat} (h : n ≤ 4) : 2 ^ n ≤ 16 := by
  have := Nat.pow_le_pow_right (show 0 < 2 by omega) h
  omega

theorem Ints.takeTo {w : World} {a : Option Addr} {n : Nat} {xs : List Int} (h : Ints w a n xs) {k : Nat} (hk : k ≤ n) : Ints w a k (xs.take k) := by
  have hl := h.len
  refine ⟨by simp; omega, by have := h.small; omega, fun i hi => ?_, fun x hx => h.rng x (List.mem_of_mem_take hx)⟩
  obtain ⟨b, off, ha, hc⟩ := h.cell i (by omega)
  refine ⟨b, off, ha, ?_⟩
  rw [hc]
  congr 2
  simp [List.getD_eq_getElem?_getD, hi]

structure Bools (w : World) (g n m : Nat) : Prop where
  blk : ∃ E, w.heap[g]? = some (.cells ((List.range n).map (fun i => Value.bool (m.testBit i))).toArray E)

theorem Bools.below {w w' : World} {g n m C : Nat} (h : Bools w g n m) (hb : Below C w w') (hC : g < C) : Bools w' g n m := by
  obtain ⟨E, h⟩ := h.blk
  exact ⟨E, by rw [hb.block g hC]; exact h⟩

theorem Bools.cell {w : World} {g n m : Nat} (h : Bools w g n m) {i : Nat} (hi : i < n) : w.cell? ⟨g, i, none⟩ = some (.bool (m.testBit i)) := by
  obtain ⟨E, h⟩ := h.blk
  simp [World.cell?, h, hi]

theorem Bools.frozen {w : World} {g n m : Nat} (h : Bools w g n m) (i : Nat) : w.frozen? ⟨g, i, none⟩ = false := by
  obtain ⟨E, h⟩ := h.blk
  simp [World.frozen?, h]

theorem Bools.lt {w : World} {g n m : Nat} (h : Bools w g n m) : g < w.heap.size := by
  obtain ⟨E, h⟩ := h.blk
  exact (Array.getElem?_eq_some_iff.1 h).1

theorem Bools.set {w : World} {g n m : Nat} (h : Bools w g n m) {v : Nat} (hv : v < n) : Bools (w.setCell ⟨g, v, none⟩ (.bool true)) g n (m ||| 2 ^ v) := by
  obtain ⟨E, h⟩ := h.blk
  refine ⟨E, ?_⟩
  rw [heap_setCell_same w g v _ E _ h]
  congr 2
  apply Array.ext'
  simp only [Array.toList_setIfInBounds]
  apply List.ext_getElem?
  intro i
  rw [List.getElem?_set]
  by_cases hi : i < n
  · by_cases hiv : v = i
    · subst hiv; simp [hi, Nat.testBit_or, Nat.testBit_two_pow_self]
    · simp [hi, hiv, Nat.testBit_or, Nat.testBit_two_pow_of_ne hiv]
  · have : v ≠ i := by omega
    simp [hi, this]

theorem Bools.of_part {B : Nat} {w : World} {g n : Nat} {xs : List Bool} {E : TypeId} (h : Part E O.bool [.bool false] B w g n 0 xs) : Bools w g n 0 := by
  obtain ⟨css, fps, h1, h2, _⟩ := h
  have : css = [] := by
    have := (O.bool.rows_len h2).1
    simpa using this
  subst this
  refine ⟨E, ?_⟩
  rw [h1]
  congr 2
  simp only [List.flatten_nil, List.nil_append, Nat.sub_zero]
  congr 1
  apply List.ext_getElem?
  intro i
  have := rep_flat [Value.bool false] (by simp) n i
  rw [this]
  by_cases hi : i < n <;> simp [hi, Nat.mod_one]

theorem Turn.setCell {lo hi : Nat} {a w : World} (h : Turn lo hi a w) {p : Addr} (h1 : lo ≤ p.block) (h2 : p.block < hi) (u : Value) : Turn lo hi a (w.setCell p u) :=
  h.trans ((Kept.refl lo hi w).setCell h1 h2 u).turn

theorem wrap_pow {n : Nat} (h : n ≤ 16) : wrap64 ((2 : Int) ^ n) = ((2 ^ n : Nat) : Int) := by
  have h1 := Nat.pow_le_pow_right (show 0 < 2 by omega) h
  have h2 : ((2 : Int) ^ n) = ((2 ^ n : Nat) : Int) := by simp
  rw [h2]
  generalize 2 ^ n = p at h1
  exact IntWalk.wrap64_in _ ⟨by omega, by omega⟩

theorem or_pow {m v : Nat} (hm : m < 65536) (hv : v ≤ 16) : bits .or .i64 (m : Int) (wrap64 ((2 : Int) ^ v)) = ((m ||| 2 ^ v : Nat) : Int) := by
  have h1 := Nat.pow_le_pow_right (show 0 < 2 by omega) hv
  rw [wrap_pow hv]
  generalize 2 ^ v = p at h1
  exact bits_or_nat _ _ (by omega) (by omega)

theorem full_eq {m n : Nat} (hn : n ≤ 16) : ((m : Int) == wrap64 (wrap64 ((2 : Int) ^ n) - 1)) = decide (m = 2 ^ n - 1) := by
  have h1 := Nat.pow_le_pow_right (show 0 < 2 by omega) hn
  have h2 := Nat.two_pow_pos n
  rw [wrap_pow hn]
  generalize 2 ^ n = p at h1 h2
  rw [IntWalk.wrap64_in _ ⟨by omega, by omega⟩, Bool.eq_iff_iff]
  simp only [beq_iff_eq, decide_eq_true_eq]
  omega

set_option maxHeartbeats 400000 in
theorem indexBools (g n m cap : Nat) (w : World) (h : Bools w g n m) (hn : n ≤ 4) (hm : m < 2 ^ n) :
    Calls Tryz.prog 107 #[.slice (some ⟨g, 0, none⟩) n cap, .bool false] w fun e w' => ∃ r : Int, e = .returned (.int .i64 r) ∧ decide (0 ≤ r) = !decide (m = 2 ^ n - 1) ∧ w = w' := by
  go_enter Tryz.func107, Tryz.ntmps107
  go_wp2
  go_loop [5, 8] (fun _ i => ∃ j : Nat, j ≤ n ∧ i = .int .i64 j ∧ Hid (∀ i, i < j → m.testBit i = true)) (fun _ i => n - (intOf i).toNat)
  case atStart => exact ⟨0, Nat.zero_le _, rfl, by simp [Hid]⟩
  case round =>
    obtain ⟨j, hj, rfl, hE⟩ := hrel
    by_cases hlt : j < n
    · have hc := h.cell hlt
      obtain ⟨t, ht⟩ : ∃ t, t = m.testBit j := ⟨_, rfl⟩
      rw [← ht] at hc
      cases t with
      | true =>
        have HE := Lib.hid (show ∀ i, i < j + 1 → m.testBit i = true by
          intro i hi
          rcases Nat.lt_or_ge i j with h1 | h1
          · exact hE.out i h1
          · obtain rfl : i = j := by omega
            exact ht.symm)
        clear h ht hm
        go_wp2
        go_round
        case rel => exact ⟨j + 1, by omega, by go_num, HE.out⟩
        case measure => simp [intOf]; omega
      | false =>
        have HE := Lib.hid (show (!decide (m = 2 ^ n - 1)) = true by
          simp only [Bool.not_eq_true', decide_eq_false_iff_not]
          intro e
          subst e
          rw [Nat.testBit_two_pow_sub_one] at ht
          simp [hlt] at ht)
        clear h ht hm
        go_wp2
        go_ret
        exact ⟨_, rfl, by rw [HE.out]; simp, rfl⟩
    · have HE := Lib.hid (show (!decide (m = 2 ^ n - 1)) = false by
        simp only [Bool.not_eq_false', decide_eq_true_eq]
        apply Nat.eq_of_testBit_eq
        intro i
        rw [Nat.testBit_two_pow_sub_one]
        by_cases hi : i < n
        · rw [hE.out i (by omega)]; simp [hi]
        · simp only [hi, decide_false]
          exact Nat.testBit_lt_two_pow (Nat.lt_of_lt_of_le hm (Nat.pow_le_pow_right (by omega) (by omega))))
      clear h hm
      go_wp2
      go_ret
      exact ⟨_, rfl, by rw [HE.out]; rfl, rfl⟩

theorem containsBools (g n m cap : Nat) (w : World) (h : Bools w g n m) (hn : n ≤ 4) (hm : m < 2 ^ n) :
    Calls Tryz.prog 87 #[.slice (some ⟨g, 0, none⟩) n cap, .bool false] w fun e w' => e = .returned (.bool (!decide (m = 2 ^ n - 1))) ∧ w = w' := by
  go_enter Tryz.func87, Tryz.ntmps87
  go_wp2_with fail
  refine (indexBools _ _ _ _ _ h hn hm).mono ?_
  rintro e w' ⟨r, rfl, hr, rfl⟩
  have HR := Lib.hid hr
  clear hr hm
  go_wp2_with fail
  go_ret
  exact ⟨ret_bool HR.out, rfl⟩

end Go.Proofs.YtpgfkjcekhifiaaGreat

namespace Go.Proofs.YtpgfkjcekhifiaaGreat

open Go.RowKit

set_option linter.unusedVariables false

set_option linter.unusedSimpArgs false

abbrev RA := List (List Int) × List Int

def agreeJ (av vars row r : List Int) (k j : Nat) : Bool := !decide (vars.getD j 0 = av.getD k 0) || decide (row.getD j 0 = r.getD k 0)

def agreeK (av vars row r : List Int) (k : Nat) : Bool := (List.range row.length).all (agreeJ av vars row r k)

def agree (av vars row r : List Int) : Bool := (List.range av.length).all (agreeK av vars row r)

def fitsB (vars row : List Int) (p : RA) : Bool := p.1.any (agree p.2 vars row)

def fitsAll (l : List RA) (vars row : List Int) : Bool := l.all (fitsB vars row)

theorem agree_iff {av vars row r : List Int} : agree av vars row r = true ↔ ∀ k, k < av.length → ∀ j, j < row.length → vars.getD j 0 = av.getD k 0 → row.getD j 0 = r.getD k 0 := by
  simp only [agree, agreeK, agreeJ, List.all_eq_true, List.mem_range, Bool.or_eq_true, Bool.not_eq_true', decide_eq_false_iff_not, decide_eq_true_eq]
  constructor
  · intro h k hk j hj e
    rcases h k hk j hj with h | h
    · exact absurd e h
    · exact h
  · intro h k hk j hj
    by_cases e : vars.getD j 0 = av.getD k 0
    · exact .inr (h k hk j hj e)
    · exact .inl e

theorem getD_left {xs ys : List Int} {j : Nat} (h : j < xs.length) : (xs ++ ys).getD j 0 = xs.getD j 0 := by
  simp [List.getD_eq_getElem?_getD, List.getElem?_append_left h]

theorem agree_pre {av vars row s r : List Int} (h : agree av vars (row ++ s) r = true) : agree av vars row r = true := by
  rw [agree_iff] at h ⊢
  intro k hk j hj e
  have := h k hk j (by rw [List.length_append]; omega) e
  rwa [getD_left hj] at this

theorem fitsAll_iff {l : List RA} {vars row : List Int} : fitsAll l vars row = true ↔ ∀ p ∈ l, ∃ r ∈ p.1, agree p.2 vars row r = true := by
  simp only [fitsAll, fitsB, List.all_eq_true, List.any_eq_true]

theorem fitsAll_pre {l : List RA} {vars row s : List Int} (h : fitsAll l vars (row ++ s) = true) : fitsAll l vars row = true := by
  rw [fitsAll_iff] at h ⊢
  intro p hp
  obtain ⟨r, hr, ha⟩ := h p hp
  exact ⟨r, hr, agree_pre ha⟩

def walkE (l : List RA) (vars : List Int) : Nat → List Int → List (List Int)
  | 0, row => if fitsAll l vars row then [row] else []
  | k + 1, row => if fitsAll l vars row then (List.range 10).flatMap (fun v : Nat => walkE l vars k (row ++ [(v : Int)])) else []

theorem walkE_mem {l : List RA} {vars : List Int} : ∀ {k : Nat} {row z : List Int}, z ∈ walkE l vars k row ↔ ∃ s, z = row ++ s ∧ s.length = k ∧ (∀ x ∈ s, 0 ≤ x ∧ x ≤ 9) ∧ fitsAll l vars z = true
  | 0, row, z => by
    unfold walkE
    constructor
    · intro h
      split at h
      · rename_i hf
        simp only [List.mem_singleton] at h
        subst h
        exact ⟨[], by simp, rfl, by simp, hf⟩
      · cases h
    · rintro ⟨s, rfl, hs, _, hf⟩
      have : s = [] := List.eq_nil_of_length_eq_zero hs
      subst this
      rw [List.append_nil] at hf ⊢
      rw [if_pos hf]; simp
  | k + 1, row, z => by
    unfold walkE
    constructor
    · intro h
      split at h
      · obtain ⟨v, hv, hz⟩ := List.mem_flatMap.1 h
        rw [List.mem_range] at hv
        obtain ⟨s, rfl, hs, hx, hf⟩ := walkE_mem.1 hz
        refine ⟨(v : Int) :: s, by simp, by simp [hs], fun x hx' => ?_, hf⟩
        rcases List.mem_cons.1 hx' with rfl | hx'
        · omega
        · exact hx x hx'
      · cases h
    · rintro ⟨s, rfl, hs, hx, hf⟩
      match s, hs with
      | x :: t, hs =>
        rw [if_pos (fitsAll_pre hf)]
        have hx0 := hx x (by simp)
        obtain ⟨v, rfl⟩ := Int.eq_ofNat_of_zero_le hx0.1
        refine List.mem_flatMap.2 ⟨v, List.mem_range.2 (by omega), walkE_mem.2 ⟨t, by simp, by simpa using hs, fun y hy => hx y (by simp [hy]), hf⟩⟩

theorem cmpRows_pre : ∀ (p a b : List Int), cmpRows (p ++ a) (p ++ b) = cmpRows a b
  | [], a, b => rfl
  | x :: p, a, b => by
    show cmpRows (x :: (p ++ a)) (x :: (p ++ b)) = _
    rw [cmpRows, if_neg (by omega), if_neg (by omega)]
    exact cmpRows_pre p a b

theorem walkE_asc {l : List RA} {vars : List Int} : ∀ {k : Nat} {row : List Int}, Asc (walkE l vars k row)
  | 0, row => by unfold walkE; split <;> simp [Asc]
  | k + 1, row => by
    unfold walkE
    split
    · unfold Asc
      rw [List.pairwise_flatMap]
      refine ⟨fun v _ => walkE_asc, ?_⟩
      refine List.pairwise_lt_range.imp ?_
      intro a b hab x hx y hy
      obtain ⟨s, rfl, _⟩ := walkE_mem.1 hx
      obtain ⟨t, rfl, _⟩ := walkE_mem.1 hy
      rw [List.append_assoc, List.append_assoc, cmpRows_pre]
      show cmpRows ((a : Int) :: s) ((b : Int) :: t) < 0
      rw [cmpRows, if_pos (by omega)]; omega
    · exact List.Pairwise.nil

theorem walkE_len (l : List RA) (vars : List Int) : ∀ (k : Nat) (row : List Int), (walkE l vars k row).length ≤ 10 ^ k
  | 0, row => by unfold walkE; split <;> simp
  | k + 1, row => by
    unfold walkE
    split
    · rw [List.length_flatMap]
      have h : ∀ (n : Nat), ((List.range n).map (fun v : Nat => (walkE l vars k (row ++ [(v : Int)])).length)).sum ≤ n * 10 ^ k := by
        intro n
        induction n with
        | zero => simp
        | succ n ih =>
          rw [List.range_succ, List.map_append, List.sum_append, Nat.succ_mul]
          have := walkE_len l vars k (row ++ [(n : Int)])
          simp only [List.map_cons, List.map_nil, List.sum_cons, List.sum_nil]
          omega
      have := h 10
      rw [Nat.pow_succ]; omega
    · simp

def fillX (av r : List Int) : Nat → List Int → List Int
  | 0, x => x
  | k + 1, x => (fillX av r k x).set (av.getD k 0).toNat (r.getD k 0)

def fillAt (av r x : List Int) (k : Nat) : Bool := decide ((fillX av r k x).getD (av.getD k 0).toNat 0 = -1) || decide ((fillX av r k x).getD (av.getD k 0).toNat 0 = r.getD k 0)

def fillOk (av r : List Int) : Nat → List Int → Bool
  | 0, _ => true
  | k + 1, x => fillOk av r k x && fillAt av r x k

def joinRows (av x : List Int) (rows : List (List Int)) : List (List Int) := rows.filterMap (fun r => if fillOk av r av.length x then some (fillX av r av.length x) else none)

def joinL (p : RA) (l : List (List Int)) : List (List Int) := l.flatMap (fun x => joinRows p.2 x p.1)

theorem fillX_len (av r : List Int) : ∀ (k : Nat) (x : List Int), (fillX av r k x).length = x.length
  | 0, x => rfl
  | k + 1, x => by rw [fillX, List.length_set, fillX_len av r k x]

theorem joinRows_len (av x : List Int) (rows : List (List Int)) : (joinRows av x rows).length ≤ rows.length := List.length_filterMap_le _ _

theorem joinRows_at {av x r : List Int} {rows : List (List Int)} {j : Nat} (h : rows[j]? = some r) : joinRows av x (rows.take (j + 1)) = joinRows av x (rows.take j) ++ (if fillOk av r av.length x then [fillX av r av.length x] else []) := by
  rw [List.take_add_one, h]
  simp only [joinRows, List.filterMap_append, Option.toList_some, List.filterMap_cons, List.filterMap_nil]
  split <;> simp_all

theorem joinL_at {p : RA} {l : List (List Int)} {x : List Int} {j : Nat} (h : l[j]? = some x) : joinL p (l.take (j + 1)) = joinL p (l.take j) ++ joinRows p.2 x p.1 := by
  rw [List.take_add_one, h]; simp [joinL]

theorem joinL_len (p : RA) (l : List (List Int)) : (joinL p l).length ≤ l.length * p.1.length := by
  induction l with
  | nil => simp [joinL]
  | cons x t ih =>
    have h1 := joinRows_len p.2 x p.1
    simp only [joinL, List.flatMap_cons, List.length_append, List.length_cons] at ih ⊢
    rw [Nat.succ_mul]; omega

structure FineA (n : Nat) (p : RA) : Prop where
  nodup : p.2.Nodup
  rng : ∀ v ∈ p.2, 0 ≤ v ∧ v < (n : Int)
  row : ∀ r ∈ p.1, r.length = p.2.length ∧ ∀ x ∈ r, 0 ≤ x ∧ x ≤ 9

theorem getD_mem {xs : List Int} {k : Nat} (h : k < xs.length) : xs.getD k 0 ∈ xs := by
  rw [List.getD_eq_getElem?_getD, List.getElem?_eq_getElem h]; exact List.getElem_mem h

theorem getD_inj {xs : List Int} (hn : xs.Nodup) {i k : Nat} (hi : i < xs.length) (hk : k < xs.length) (h : xs.getD i 0 = xs.getD k 0) : i = k := by
  rw [List.getD_eq_getElem?_getD, List.getD_eq_getElem?_getD, List.getElem?_eq_getElem hi, List.getElem?_eq_getElem hk] at h
  have h' := List.pairwise_iff_getElem.1 hn
  simp only [Option.getD_some] at h
  rcases Nat.lt_trichotomy i k with e | e | e
  · exact absurd h (h' i k hi hk e)
  · exact e
  · exact absurd h.symm (h' k i hk hi e)

theorem FineA.place {n : Nat} {p : RA} (h : FineA n p) {k : Nat} (hk : k < p.2.length) : ∃ v : Nat, p.2.getD k 0 = (v : Int) ∧ v < n := by
  have := h.rng _ (getD_mem hk)
  exact ⟨(p.2.getD k 0).toNat, by omega, by omega⟩

theorem getD_set {xs : List Int} {i j : Nat} {u : Int} : (xs.set i u).getD j 0 = if i = j ∧ i < xs.length then u else xs.getD j 0 := by
  rw [List.getD_eq_getElem?_getD, List.getD_eq_getElem?_getD, List.getElem?_set]
  by_cases h : i = j
  · subst h
    by_cases h2 : i < xs.length
    · simp [h2]
    · simp [h2, List.getElem?_eq_none (Nat.le_of_not_lt h2)]
  · simp [h]

theorem fillX_other {av r x : List Int} {v : Nat} : ∀ {k : Nat}, (∀ i, i < k → (av.getD i 0).toNat ≠ v) → (fillX av r k x).getD v 0 = x.getD v 0
  | 0, _ => rfl
  | k + 1, h => by
    rw [fillX, getD_set, if_neg (fun h2 => h k (by omega) h2.1), fillX_other fun i hi => h i (by omega)]

theorem fillX_same {n : Nat} {p : RA} (hp : FineA n p) {r x : List Int} (hx : x.length = n) : ∀ {k : Nat}, k ≤ p.2.length → ∀ i, i < k → (fillX p.2 r k x).getD (p.2.getD i 0).toNat 0 = r.getD i 0
  | 0, _, i, hi => by omega
  | k + 1, hk, i, hi => by
    obtain ⟨v, hv, hvn⟩ := hp.place (k := k) (by omega)
    rw [fillX, getD_set, fillX_len, hx]
    by_cases e : i = k
    · subst e
      rw [if_pos ⟨rfl, by rw [hv]; omega⟩]
    · obtain ⟨u, hu, _⟩ := hp.place (k := i) (by omega)
      rw [if_neg (fun h2 => e ?_), fillX_same hp hx (by omega) i (by omega)]
      refine getD_inj hp.nodup (by omega) (by omega) ?_
      rw [hu, hv] at h2 ⊢
      have := h2.1
      omega

theorem fillOk_iff {n : Nat} {p : RA} (hp : FineA n p) {r x : List Int} : ∀ {k : Nat}, k ≤ p.2.length → (fillOk p.2 r k x = true ↔ ∀ i, i < k → x.getD (p.2.getD i 0).toNat 0 = -1 ∨ x.getD (p.2.getD i 0).toNat 0 = r.getD i 0)
  | 0, _ => by simp [fillOk]
  | k + 1, hk => by
    have e : (fillX p.2 r k x).getD (p.2.getD k 0).toNat 0 = x.getD (p.2.getD k 0).toNat 0 := by
      refine fillX_other fun i hi h => ?_
      obtain ⟨u, hu, _⟩ := hp.place (k := i) (by omega)
      obtain ⟨v, hv, _⟩ := hp.place (k := k) (by omega)
      have := getD_inj hp.nodup (i := i) (k := k) (by omega) (by omega) (by rw [hu, hv] at h ⊢; omega)
      omega
    rw [fillOk, Bool.and_eq_true, fillOk_iff hp (by omega), fillAt, e, Bool.or_eq_true, decide_eq_true_eq, decide_eq_true_eq]
    constructor
    · rintro ⟨h1, h2⟩ i hi
      by_cases e : i = k
      · subst e; exact h2
      · exact h1 i (by omega)
    · intro h
      exact ⟨fun i hi => h i (by omega), h k (by omega)⟩

structure GoodX (n : Nat) (L : List RA) (x : List Int) : Prop where
  len : x.length = n
  free : ∀ v, v < n → (∀ p ∈ L, (v : Int) ∉ p.2) → x.getD v 0 = -1
  row : ∀ p ∈ L, ∃ r ∈ p.1, ∀ k, k < p.2.length → x.getD (p.2.getD k 0).toNat 0 = r.getD k 0

theorem mem_getD {xs : List Int} {x : Int} (h : x ∈ xs) : ∃ k, k < xs.length ∧ xs.getD k 0 = x := by
  obtain ⟨k, hk, rfl⟩ := List.mem_iff_getElem.1 h
  exact ⟨k, hk, by rw [List.getD_eq_getElem?_getD, List.getElem?_eq_getElem hk]; rfl⟩

theorem ext_getD {xs ys : List Int} (hl : xs.length = ys.length) (h : ∀ j, j < xs.length → xs.getD j 0 = ys.getD j 0) : xs = ys := by
  refine List.ext_getElem hl fun j h1 h2 => ?_
  have := h j h1
  rw [List.getD_eq_getElem?_getD, List.getD_eq_getElem?_getD, List.getElem?_eq_getElem h1, List.getElem?_eq_getElem h2] at this
  exact this

theorem rangeMap_getD {n v : Nat} (f : Nat → Int) (h : v < n) : ((List.range n).map f).getD v 0 = f v := by
  rw [List.getD_eq_getElem?_getD, List.getElem?_map, List.getElem?_range h]; rfl

theorem joinL_good {n : Nat} {L : List RA} {l : List (List Int)} {p : RA} (hl : ∀ x, x ∈ l ↔ GoodX n L x) (hL : ∀ q ∈ L, FineA n q) (hp : FineA n p) (x : List Int) : x ∈ joinL p l ↔ GoodX n (L ++ [p]) x := by
  have hmem : x ∈ joinL p l ↔ ∃ y ∈ l, ∃ r ∈ p.1, fillOk p.2 r p.2.length y = true ∧ fillX p.2 r p.2.length y = x := by
    simp only [joinL, joinRows, List.mem_flatMap, List.mem_filterMap]
    constructor
    · rintro ⟨y, hy, r, hr, h⟩
      split at h
      · rename_i ho; exact ⟨y, hy, r, hr, ho, by simpa using h⟩
      · cases h
    · rintro ⟨y, hy, r, hr, ho, rfl⟩
      exact ⟨y, hy, r, hr, by rw [if_pos ho]⟩
  rw [hmem]
  constructor
  · rintro ⟨y, hy, r, hr, ho, rfl⟩
    have gy := (hl y).1 hy
    have ho' := (fillOk_iff hp (Nat.le_refl _)).1 ho
    have hrr := hp.row r hr
    refine ⟨by rw [fillX_len]; exact gy.len, fun v hv hnv => ?_, fun q hq => ?_⟩
    · rw [fillX_other fun i hi e => ?_]
      · exact gy.free v hv fun q hq => hnv q (List.mem_append_left _ hq)
      · obtain ⟨u, hu, _⟩ := hp.place hi
        refine hnv p (by simp) ?_
        have h3 := getD_mem hi
        rw [hu] at h3 e
        have : u = v := by omega
        rwa [this] at h3
    · rcases List.mem_append.1 hq with hq | hq
      · obtain ⟨s, hs, hsk⟩ := gy.row q hq
        refine ⟨s, hs, fun k hk => ?_⟩
        obtain ⟨u, hu, _⟩ := (hL q hq).place hk
        by_cases e : ∃ i, i < p.2.length ∧ (p.2.getD i 0).toNat = (q.2.getD k 0).toNat
        · obtain ⟨i, hi, e⟩ := e
          have h1 := ho' i hi
          rw [← e, fillX_same hp gy.len (Nat.le_refl _) i hi]
          rw [e, hsk k hk] at h1
          have h2 := ((hL q hq).row s hs).2 (s.getD k 0) (getD_mem (by rw [((hL q hq).row s hs).1]; exact hk))
          omega
        · rw [fillX_other fun i hi h => e ⟨i, hi, h⟩]
          exact hsk k hk
      · simp only [List.mem_singleton] at hq
        subst hq
        exact ⟨r, hr, fun k hk => fillX_same hp gy.len (Nat.le_refl _) k hk⟩
  · intro gx
    obtain ⟨r, hr, hrk⟩ := gx.row p (by simp)
    obtain ⟨y, hy⟩ : ∃ y, y = (List.range n).map (fun v : Nat => if L.any (fun q => has q.2 (v : Int)) then x.getD v 0 else -1) := ⟨_, rfl⟩
    have hyl : y.length = n := by rw [hy]; simp
    have hyv : ∀ v, v < n → y.getD v 0 = if L.any (fun q => has q.2 (v : Int)) then x.getD v 0 else -1 := fun v hv => by rw [hy, rangeMap_getD _ hv]
    refine ⟨y, (hl y).2 ⟨hyl, fun v hv hnv => ?_, fun q hq => ?_⟩, r, hr, ?_, ?_⟩
    · rw [hyv v hv, if_neg]
      simp only [List.any_eq_true, has, decide_eq_true_eq, not_exists, not_and]
      exact fun q hq => hnv q hq
    · obtain ⟨s, hs, hsk⟩ := gx.row q (List.mem_append_left _ hq)
      refine ⟨s, hs, fun k hk => ?_⟩
      obtain ⟨u, hu, hun⟩ := (hL q hq).place hk
      rw [← hsk k hk, hu]
      simp only [Int.toNat_natCast]
      rw [hyv u hun, if_pos]
      simp only [List.any_eq_true, has, decide_eq_true_eq]
      exact ⟨q, hq, by rw [← hu]; exact getD_mem hk⟩
    · rw [fillOk_iff hp (Nat.le_refl _)]
      intro i hi
      obtain ⟨u, hu, hun⟩ := hp.place hi
      have h1 := hrk i hi
      rw [hu] at h1 ⊢
      simp only [Int.toNat_natCast] at h1 ⊢
      rw [hyv u hun]
      split
      · exact .inr h1
      · exact .inl rfl
    · refine ext_getD (by rw [fillX_len, hyl, gx.len]) fun v hv => ?_
      rw [fillX_len, hyl] at hv
      by_cases e : ∃ i, i < p.2.length ∧ (p.2.getD i 0).toNat = v
      · obtain ⟨i, hi, rfl⟩ := e
        rw [fillX_same hp hyl (Nat.le_refl _) i hi, hrk i hi]
      · rw [fillX_other fun i hi h => e ⟨i, hi, h⟩, hyv v hv]
        split
        · rfl
        · rename_i h3
          refine (gx.free v hv fun q hq hm => ?_).symm
          rcases List.mem_append.1 hq with hq | hq
          · exact h3 (by simp only [List.any_eq_true, has, decide_eq_true_eq]; exact ⟨q, hq, hm⟩)
          · simp only [List.mem_singleton] at hq
            subst hq
            obtain ⟨i, hi, hiv⟩ := mem_getD hm
            exact e ⟨i, hi, by rw [hiv]; simp⟩

def joinAll (n : Nat) (L : List RA) : List (List Int) := L.foldl (fun l p => joinL p l) [List.replicate n (-1)]

theorem joinAll_good {n : Nat} {L : List RA} (hL : ∀ q ∈ L, FineA n q) (x : List Int) : x ∈ joinAll n L ↔ GoodX n L x := by
  have key : ∀ (M K : List RA) (l : List (List Int)), (∀ x, x ∈ l ↔ GoodX n K x) → (∀ q ∈ K, FineA n q) → (∀ q ∈ M, FineA n q) → ∀ x, x ∈ M.foldl (fun l p => joinL p l) l ↔ GoodX n (K ++ M) x := by
    intro M
    induction M with
    | nil => intro K l h _ _ x; simpa using h x
    | cons p M ih =>
      intro K l h hK hM x
      have := ih (K ++ [p]) (joinL p l) (joinL_good h hK (hM p (by simp))) (fun q hq => by
        rcases List.mem_append.1 hq with hq | hq
        · exact hK q hq
        · simp only [List.mem_singleton] at hq; subst hq; exact hM q (by simp)) (fun q hq => hM q (by simp [hq])) x
      simpa using this
  have h0 : ∀ x, x ∈ [List.replicate n (-1 : Int)] ↔ GoodX n [] x := by
    intro x
    simp only [List.mem_singleton]
    constructor
    · rintro rfl
      refine ⟨by simp, fun v hv _ => ?_, fun p hp => by cases hp⟩
      rw [List.getD_eq_getElem?_getD, List.getElem?_replicate, if_pos hv]; rfl
    · intro g
      refine ext_getD (by rw [g.len]; simp) fun v hv => ?_
      rw [g.len] at hv
      rw [g.free v hv (fun p hp => by cases hp), List.getD_eq_getElem?_getD, List.getElem?_replicate, if_pos hv]; rfl
  have := key L [] _ h0 (fun q hq => by cases hq) hL x
  simpa [joinAll] using this

theorem joinAll_snoc (n : Nat) (L : List RA) (p : RA) : joinAll n (L ++ [p]) = joinL p (joinAll n L) := by simp [joinAll]

theorem joinAll_len {n : Nat} {L : List RA} (h : ∀ p ∈ L, p.1.length ≤ 8) : (joinAll n L).length ≤ 8 ^ L.length := by
  have key : ∀ (M : List RA) (l : List (List Int)), (∀ p ∈ M, p.1.length ≤ 8) → (M.foldl (fun l p => joinL p l) l).length ≤ l.length * 8 ^ M.length := by
    intro M
    induction M with
    | nil => intro l _; simp
    | cons p M ih =>
      intro l h
      have h1 := ih (joinL p l) (fun q hq => h q (by simp [hq]))
      have h2 := joinL_len p l
      have h3 : l.length * p.1.length ≤ l.length * 8 := Nat.mul_le_mul_left _ (h p (by simp))
      have h4 : (joinL p l).length * 8 ^ M.length ≤ l.length * 8 * 8 ^ M.length := Nat.mul_le_mul_right _ (Nat.le_trans h2 h3)
      rw [List.foldl_cons, List.length_cons, Nat.pow_succ, Nat.mul_comm (8 ^ M.length) 8, ← Nat.mul_assoc]
      exact Nat.le_trans h1 h4
  simpa [joinAll] using key L [List.replicate n (-1)] h

theorem joinAll_row {n : Nat} {L : List RA} (hL : ∀ q ∈ L, FineA n q) {x : List Int} (h : x ∈ joinAll n L) : x.length = n := ((joinAll_good hL x).1 h).len

theorem answer_eq {n : Nat} {L : List RA} {V : List Int} (hL : ∀ q ∈ L, FineA n q) (hV : V.Nodup) (hm : ∀ v, v ∈ V ↔ (0 ≤ v ∧ v < (n : Int) ∧ ∃ p ∈ L, v ∈ p.2)) : canon ((joinAll n L).map (fun x => sel x V)) = walkE L V V.length [] := by
  refine (canon_uniq walkE_asc fun z => ?_).symm
  have hsel : ∀ x, x ∈ joinAll n L → sel x V = selAt x V := fun x hx => by
    unfold sel
    rw [if_pos]
    rw [selOk, List.all_eq_true]
    intro v hv
    have h1 := (hm v).1 hv
    rw [joinAll_row hL hx]
    simp only [betw, Bool.and_eq_true, decide_eq_true_eq]
    omega
  rw [walkE_mem, List.mem_map]
  constructor
  · rintro ⟨s, hze, hs, hx, hf⟩
    rw [List.nil_append] at hze
    subst hze
    obtain ⟨x, hxe⟩ : ∃ x, x = (List.range n).map (fun v : Nat => if (v : Int) ∈ V then z.getD (V.idxOf (v : Int)) 0 else -1) := ⟨_, rfl⟩
    have hxl : x.length = n := by rw [hxe]; simp
    have hxv : ∀ v, v < n → x.getD v 0 = if (v : Int) ∈ V then z.getD (V.idxOf (v : Int)) 0 else -1 := fun v hv => by rw [hxe, rangeMap_getD _ hv]
    have gx : GoodX n L x := by
      refine ⟨hxl, fun v hv hnv => ?_, fun p hp => ?_⟩
      · rw [hxv v hv, if_neg]
        intro hvV
        obtain ⟨p, hp, hpv⟩ := ((hm _).1 hvV).2.2
        exact hnv p hp hpv
      · obtain ⟨r, hr, ha⟩ := fitsAll_iff.1 hf p hp
        rw [agree_iff] at ha
        refine ⟨r, hr, fun k hk => ?_⟩
        obtain ⟨u, hu, hun⟩ := (hL p hp).place hk
        have huV : (u : Int) ∈ V := (hm _).2 ⟨by omega, by omega, p, hp, by rw [← hu]; exact getD_mem hk⟩
        have hi := List.idxOf_lt_length_of_mem huV
        rw [hu]
        simp only [Int.toNat_natCast]
        rw [hxv u hun, if_pos huV]
        refine ha k hk _ (by rw [hs]; exact hi) ?_
        rw [hu, List.getD_eq_getElem?_getD, List.getElem?_eq_getElem hi]
        simp
    have hxj := (joinAll_good hL x).2 gx
    refine ⟨x, hxj, ?_⟩
    rw [hsel x hxj]
    refine ext_getD (by rw [selAt_len, hs]) fun j hj => ?_
    rw [selAt_len] at hj
    have hVj : V.getD j 0 ∈ V := getD_mem hj
    have h1 := (hm _).1 hVj
    have e : (selAt x V).getD j 0 = x.getD (V.getD j 0).toNat 0 := by
      simp [selAt, List.getD_eq_getElem?_getD, List.getElem?_map, List.getElem?_eq_getElem hj]
    obtain ⟨u, hu⟩ := Int.eq_ofNat_of_zero_le h1.1
    rw [e, hu]
    simp only [Int.toNat_natCast]
    rw [hu] at hVj h1
    rw [hxv u (by omega), if_pos hVj]
    congr 1
    refine getD_inj hV (List.idxOf_lt_length_of_mem hVj) hj ?_
    rw [hu, List.getD_eq_getElem?_getD, List.getElem?_eq_getElem (List.idxOf_lt_length_of_mem hVj)]
    simp
  · rintro ⟨x, hx, rfl⟩
    have gx := (joinAll_good hL x).1 hx
    rw [hsel x hx]
    have e : ∀ j, j < V.length → (selAt x V).getD j 0 = x.getD (V.getD j 0).toNat 0 := fun j hj => by
      simp [selAt, List.getD_eq_getElem?_getD, List.getElem?_map, List.getElem?_eq_getElem hj]
    have hval : ∀ v ∈ V, 0 ≤ x.getD v.toNat 0 ∧ x.getD v.toNat 0 ≤ 9 := by
      intro v hv
      obtain ⟨_, _, p, hp, hpv⟩ := (hm v).1 hv
      obtain ⟨r, hr, hrk⟩ := gx.row p hp
      obtain ⟨k, hk, rfl⟩ := mem_getD hpv
      rw [hrk k hk]
      exact ((hL p hp).row r hr).2 _ (getD_mem (by rw [((hL p hp).row r hr).1]; exact hk))
    refine ⟨selAt x V, by simp, selAt_len x V, ?_, ?_⟩
    · intro y hy
      simp only [selAt, List.mem_map] at hy
      obtain ⟨v, hv, rfl⟩ := hy
      exact hval v hv
    · rw [fitsAll_iff]
      intro p hp
      obtain ⟨r, hr, hrk⟩ := gx.row p hp
      refine ⟨r, hr, agree_iff.2 fun k hk j hj ej => ?_⟩
      rw [selAt_len] at hj
      rw [e j hj, ej, hrk k hk]

end Go.Proofs.YtpgfkjcekhifiaaGreat



namespace Go.Proofs.YtpgfkjcekhifiaaGreat

open Go.RowKit

set_option linter.unusedVariables false

set_option linter.unusedSimpArgs false

set_option synthInstance.maxSize 2000

set_option synthInstance.maxHeartbeats 400000

theorem equalInts_K (u v : Value) (xs ys : List Int) (w : World) (h : rI.rep w [u] xs) (h' : rI.rep w [v] ys) :
    Calls Tryz.prog 33 #[u, v] w fun e w' => e = .returned (.bool (decide (xs = ys))) ∧ Below w.heap.size w w' := by
  obtain ⟨a, cap, rfl, _, _, hi⟩ := rI_open h
  obtain ⟨a', cap', rfl, _, _, hi'⟩ := rI_open h'
  exact (equalInts _ _ _ _ _ _ _ _ _ hi hi').mono fun e w' ⟨h1, h2⟩ => ⟨h1, h2.below _⟩

set_option maxHeartbeats 2000000 in
theorem equalAn_impl (cs ds : List Value) (x y : DAn) (w : World) (h : rAn.rep w cs x) (h' : rAn.rep w ds y) :
    Calls Tryz.prog 8 #[.agg cs.toArray, .agg ds.toArray] w fun e w' => e = .returned (.bool (decide (x = y))) ∧ Below w.heap.size w w' := by
  obtain ⟨ub0, un0, uc0, ub1, un1, uc1, rfl, g0, g1⟩ := rAn_open h
  obtain ⟨vb0, vn0, vc0, vb1, vn1, vc1, rfl, k0, k1⟩ := rAn_open h'
  clear h h'
  have hb1 : Below w.heap.size w ((w.alloc (.cells #[.slice ub0 un0 uc0, .slice ub1 un1 uc1] 35)).alloc (.cells #[.slice vb0 vn0 vc0, .slice vb1 vn1 vc1] 35)) := ((Below.refl _ _).alloc (Nat.le_refl _) _).alloc (by simp) _
  go_enter Tryz.func8, Tryz.ntmps8
  obtain ⟨w1, hw1⟩ : ∃ W, W = (w.alloc (.cells #[.slice ub0 un0 uc0, .slice ub1 un1 uc1] 35)).alloc (.cells #[.slice vb0 vn0 vc0, .slice vb1 vn1 vc1] 35) := ⟨_, rfl⟩
  have s1 : w1.heap.size = w.heap.size + 1 + 1 := by rw [hw1]; simp
  rw [← hw1] at hb1
  have bc_0 : w1.cell? ⟨w.heap.size, 0, none⟩ = some (.slice ub0 un0 uc0) := by rw [hw1]; simp [go_sem, World.cell?_alloc_past]
  have bd_0 : w1.cell? ⟨w.heap.size + 1, 0, none⟩ = some (.slice vb0 vn0 vc0) := by rw [hw1]; simp [go_sem, World.cell?_alloc_past]
  have bc_1 : w1.cell? ⟨w.heap.size, 1, none⟩ = some (.slice ub1 un1 uc1) := by rw [hw1]; simp [go_sem, World.cell?_alloc_past]
  have bd_1 : w1.cell? ⟨w.heap.size + 1, 1, none⟩ = some (.slice vb1 vn1 vc1) := by rw [hw1]; simp [go_sem, World.cell?_alloc_past]
  go_wp2_with fail
  rw [← hw1]
  clear hw1
  refine (equalInts_K _ _ (x.1) (y.1) _ (rI.mono g0 hb1) (rI.mono k0 hb1)).mono ?_
  rintro e w2 ⟨rfl, z2⟩
  have s2 := z2.size
  have hb2 := on hb1 z2
  replace bc_0 := bxc z2 bc_0
  replace bd_0 := bxc z2 bd_0
  replace bc_1 := bxc z2 bc_1
  replace bd_1 := bxc z2 bd_1
  by_cases e0 : x.1 = y.1
  case neg =>
    have HE := Lib.hid (show decide (x = y) = false by simp only [decide_eq_false_iff_not]; intro h9; exact e0 (by rw [h9]))
    have hne : decide (x.1 = y.1) = false := by simpa using e0
    rw [hne]
    clear e0 hne
    go_wp2_with fail
    go_ret
    exact ⟨ret_bool HE.out.symm, hb2⟩
  have E0 := Lib.hid e0
  have hq0 : decide (x.1 = y.1) = true := by simpa using e0
  rw [hq0]
  clear e0 hq0
  go_wp2_with fail
  refine (equalRows_any _ _ (x.2) (y.2) _ (rII.mono g1 hb2) (rII.mono k1 hb2)).mono ?_
  rintro e w3 ⟨rfl, z3⟩
  have s3 := z3.size
  have hb3 := on hb2 z3
  replace bc_0 := bxc z3 bc_0
  replace bd_0 := bxc z3 bd_0
  replace bc_1 := bxc z3 bc_1
  replace bd_1 := bxc z3 bd_1
  by_cases e1 : x.2 = y.2
  case neg =>
    have HE := Lib.hid (show decide (x = y) = false by simp only [decide_eq_false_iff_not]; intro h9; exact e1 (by rw [h9]))
    have hne : decide (x.2 = y.2) = false := by simpa using e1
    rw [hne]
    clear e1 hne
    go_wp2_with fail
    go_ret
    exact ⟨ret_bool HE.out.symm, hb3⟩
  have E1 := Lib.hid e1
  have hq1 : decide (x.2 = y.2) = true := by simpa using e1
  rw [hq1]
  clear e1 hq1
  have HE := Lib.hid (show decide (x = y) = true by simp only [decide_eq_true_eq]; exact Prod.ext E0.out (E1.out))
  go_wp2_with fail
  go_ret
  exact ⟨ret_bool HE.out.symm, hb3⟩

end Go.Proofs.YtpgfkjcekhifiaaGreat

namespace Go.Proofs.YtpgfkjcekhifiaaGreat

open Go.RowKit

set_option linter.unusedVariables false

set_option linter.unusedSimpArgs false

structure QOk (q : DQ) (n : Nat) : Prop where
  cnt : q.1 = n
  pos : 1 ≤ n
  le : n ≤ 4
  lpos : 1 ≤ q.2.length
  len : q.2.length ≤ 4
  name : ∀ a ∈ q.2, nameB a.1 = true
  vpos : ∀ a ∈ q.2, 1 ≤ a.2.length
  vlen : ∀ a ∈ q.2, a.2.length ≤ 3
  vars : ∀ a ∈ q.2, ∀ v ∈ a.2, 0 ≤ v ∧ v < n

theorem varsFrom_mem {n : Int} : ∀ {vs pre : List Int}, varsFrom n pre vs = true → ∀ v ∈ vs, 0 ≤ v ∧ v < n
  | [], _, _, v, hv => by cases hv
  | x :: t, pre, h, v, hv => by
    simp only [varsFrom, Bool.and_eq_true, betw, decide_eq_true_eq] at h
    rcases List.mem_cons.1 hv with rfl | hv
    · omega
    · exact varsFrom_mem h.2 v hv

theorem validFrom_atoms {n : Nat} : ∀ {xs : List DA} {m : Nat}, validFrom n m xs = true → ∀ a ∈ xs, nameB a.1 = true ∧ 1 ≤ a.2.length ∧ a.2.length ≤ 3 ∧ ∀ v ∈ a.2, 0 ≤ v ∧ v < (n : Int)
  | [], _, _, a, ha => by cases ha
  | x :: t, m, h, a, ha => by
    simp only [validFrom, Bool.and_eq_true, betw, decide_eq_true_eq] at h
    rcases List.mem_cons.1 ha with rfl | ha
    · exact ⟨h.1.1, by omega, by omega, varsFrom_mem h.2.1⟩
    · exact validFrom_atoms h.2.2 a ha

theorem QOk.of {q : DQ} (h : validQ q = true) : ∃ n, QOk q n := by
  simp only [validQ, Bool.and_eq_true, betw, decide_eq_true_eq] at h
  have hf := validFrom_atoms h.2
  refine ⟨q.1.toNat, by omega, by omega, by omega, by omega, by omega, fun a ha => (hf a ha).1, fun a ha => (hf a ha).2.1, fun a ha => (hf a ha).2.2.1, fun a ha => (hf a ha).2.2.2⟩

def qbits (K m : Nat) : Nat → List DA → Nat
  | _, [] => m
  | i, a :: t => qbits K (if bitAt K i then vbits m a.2 else m) (i + 1) t

def bitsOf (q : DQ) (K : Nat) : Nat := qbits K 0 0 q.2

theorem qbits_at {K m j : Nat} {xs : List DA} {a : DA} (h : xs[j]? = some a) : qbits K m j (xs.drop j) = qbits K (if bitAt K j then vbits m (a.2.drop 0) else m) (j + 1) (xs.drop (j + 1)) := by
  obtain ⟨h1, rfl⟩ := List.getElem?_eq_some_iff.1 h
  rw [List.drop_eq_getElem_cons h1]; simp [qbits]

theorem qbits_end {K m j : Nat} {xs : List DA} (h : xs.length ≤ j) : qbits K m j (xs.drop j) = m := by
  rw [List.drop_eq_nil_of_le h]; rfl

theorem vbits_lt {n : Nat} : ∀ {vs : List Int} {m : Nat}, (∀ v ∈ vs, 0 ≤ v ∧ v < (n : Int)) → m < 2 ^ n → vbits m vs < 2 ^ n
  | [], m, _, hm => hm
  | v :: t, m, h, hm => by
    have h1 := h v (by simp)
    have h2 : v.toNat < n := by omega
    show vbits (m ||| 2 ^ v.toNat) t < 2 ^ n
    exact @vbits_lt n t (m ||| 2 ^ v.toNat) (fun x hx => h x (by simp [hx])) (or_lt hm h2)

theorem vbits_test {j : Nat} : ∀ {vs : List Int} {m : Nat}, (∀ v ∈ vs, 0 ≤ v) → ((vbits m vs).testBit j = (m.testBit j || has vs (j : Int)))
  | [], m, _ => by simp [vbits, has]
  | v :: t, m, h => by
    have hv := h v (by simp)
    rw [vbits, vbits_test (fun x hx => h x (by simp [hx])), Nat.testBit_or, Bool.or_assoc]
    congr 1
    obtain ⟨k, rfl⟩ := Int.eq_ofNat_of_zero_le hv
    by_cases e : k = j
    · subst e
      simp [Nat.testBit_two_pow_self, has]
    · have e' : ¬ (j : Int) = (k : Int) := by omega
      simp [Nat.testBit_two_pow_of_ne e, has, e']

theorem qbits_lt {K n : Nat} : ∀ {xs : List DA} {m i : Nat}, (∀ a ∈ xs, ∀ v ∈ a.2, 0 ≤ v ∧ v < (n : Int)) → m < 2 ^ n → qbits K m i xs < 2 ^ n
  | [], m, i, _, hm => hm
  | a :: t, m, i, h, hm => by
    rw [qbits]
    refine qbits_lt (fun b hb => h b (by simp [hb])) ?_
    split
    · exact vbits_lt (h a (by simp)) hm
    · exact hm

theorem QOk.bits_lt {q : DQ} {n : Nat} (h : QOk q n) (K : Nat) : bitsOf q K < 2 ^ n := qbits_lt h.vars (Nat.two_pow_pos _)

def someFrom (K v : Nat) : Nat → List DA → Bool
  | _, [] => false
  | i, a :: t => (bitAt K i && has a.2 (v : Int)) || someFrom K v (i + 1) t

theorem someFrom_at {K v j : Nat} {xs : List DA} {a : DA} (h : xs[j]? = some a) : someFrom K v j (xs.drop j) = ((bitAt K j && has a.2 (v : Int)) || someFrom K v (j + 1) (xs.drop (j + 1))) := by
  obtain ⟨h1, rfl⟩ := List.getElem?_eq_some_iff.1 h
  rw [List.drop_eq_getElem_cons h1]; rfl

theorem someFrom_end {K v j : Nat} {xs : List DA} (h : xs.length ≤ j) : someFrom K v j (xs.drop j) = false := by
  rw [List.drop_eq_nil_of_le h]; rfl

theorem qbits_some {K v : Nat} : ∀ {xs : List DA} {m i : Nat}, (∀ a ∈ xs, ∀ v ∈ a.2, 0 ≤ v) → ((qbits K m i xs).testBit v = (m.testBit v || someFrom K v i xs))
  | [], m, i, _ => by simp [qbits, someFrom]
  | a :: t, m, i, h => by
    rw [qbits, qbits_some (fun b hb => h b (by simp [hb])), someFrom]
    split
    · rename_i hb; rw [vbits_test (h a (by simp)), hb]; simp [Bool.or_assoc]
    · rename_i hb; simp [hb]

theorem QOk.some {q : DQ} {n : Nat} (h : QOk q n) (K v : Nat) : bitAt (bitsOf q K) v = someFrom K v 0 (q.2.drop 0) := by
  rw [bitAt_testBit, bitsOf, qbits_some (fun a ha x hx => (h.vars a ha x hx).1)]; simp

def varsOf (q : DQ) (K : Nat) : List Int := bitsTo (bitsOf q K) 4

theorem bitsTo_more {x n : Nat} (h : x < 2 ^ n) : ∀ k, bitsTo x (n + k) = bitsTo x n
  | 0 => rfl
  | k + 1 => by
    rw [show n + (k + 1) = n + k + 1 by omega, bitsTo_no, bitsTo_more h k]
    rw [bitAt_testBit]
    exact Nat.testBit_lt_two_pow (Nat.lt_of_lt_of_le h (Nat.pow_le_pow_right (by omega) (by omega)))

theorem QOk.varsOf {q : DQ} {n : Nat} (h : QOk q n) (K : Nat) : varsOf q K = bitsTo (bitsOf q K) n := by
  have := bitsTo_more (h.bits_lt K) (4 - n)
  rw [show n + (4 - n) = 4 by have := h.le; omega] at this
  exact this

theorem bitsTo_has {x : Nat} : ∀ {m v : Nat}, has (bitsTo x m) (v : Int) = (decide (v < m) && x.testBit v)
  | 0, v => by simp [bitsTo, has]
  | m + 1, v => by
    have ih := @bitsTo_has x m v
    simp only [has] at ih ⊢
    rw [Bool.eq_iff_iff] at ih ⊢
    simp only [decide_eq_true_eq, Bool.and_eq_true] at ih ⊢
    simp only [bitsTo, List.mem_append]
    rw [bitAt_testBit]
    constructor
    · rintro (h | h)
      · have := ih.1 h; exact ⟨by omega, this.2⟩
      · split at h
        · rename_i hb; simp only [List.mem_singleton] at h; obtain rfl : v = m := by omega
          exact ⟨by omega, hb⟩
        · simp at h
    · rintro ⟨h1, h2⟩
      rcases Nat.lt_or_ge v m with h3 | h3
      · exact .inl (ih.2 ⟨h3, h2⟩)
      · obtain rfl : v = m := by omega
        right; simp [h2]

theorem varsOf_has (q : DQ) {K v : Nat} (hv : v < 4) : has (varsOf q K) (v : Int) = (bitsOf q K).testBit v := by
  rw [Go.Proofs.YtpgfkjcekhifiaaGreat.varsOf, bitsTo_has]; simp [hv]

def fullMask (q : DQ) : Int := if validQ q then ((2 ^ q.2.length - 1 : Nat) : Int) else 0

def maskOkB (q : DQ) (k : Int) : Bool := validQ q && betw k 0 ((2 ^ q.2.length - 1 : Nat) : Int)

def maskVars (q : DQ) (k : Int) : List Int := if maskOkB q k then varsOf q k.toNat else []

theorem maskVars_no {q : DQ} {k : Int} (h : maskOkB q k = false) : maskVars q k = [] := by simp [maskVars, h]

theorem maskVars_yes {q : DQ} {K : Nat} (h : maskOkB q (K : Int) = true) : maskVars q (K : Int) = varsOf q K := by simp [maskVars, h]

theorem maskOkB_lt {q : DQ} {k : Int} (h : maskOkB q k = true) : ∃ K : Nat, k = K ∧ K < 2 ^ q.2.length := by
  simp only [maskOkB, Bool.and_eq_true, betw, decide_eq_true_eq] at h
  have := Nat.two_pow_pos q.2.length
  exact ⟨k.toNat, by omega, by omega⟩

theorem maskOkB_valid {q : DQ} {k : Int} (h : maskOkB q k = true) : validQ q = true := by
  simp only [maskOkB, Bool.and_eq_true] at h; exact h.1

theorem varsOf_len (q : DQ) (K : Nat) : (varsOf q K).length ≤ 4 := bitsTo_len _ _

theorem maskVars_len (q : DQ) (k : Int) : (maskVars q k).length ≤ 4 := by
  unfold maskVars; split
  · exact varsOf_len _ _
  · simp

def both (xs ys : List Int) : List Int := xs.filter (has ys)

theorem both_yes {xs ys : List Int} {j : Nat} {x : Int} (hj : j < xs.length) (hx : xs.getD j 0 = x) (h : has ys x = true) : both (xs.take (j + 1)) ys = both (xs.take j) ys ++ [x] := by
  rw [take_snoc xs j hj, hx, both, List.filter_append, both]; simp [h]

theorem both_no {xs ys : List Int} {j : Nat} {x : Int} (hj : j < xs.length) (hx : xs.getD j 0 = x) (h : has ys x = false) : both (xs.take (j + 1)) ys = both (xs.take j) ys := by
  rw [take_snoc xs j hj, hx, both, List.filter_append, both]; simp [h]

theorem both_len (xs ys : List Int) : (both xs ys).length ≤ xs.length := List.length_filter_le _ _

theorem both_end {xs ys : List Int} {j : Nat} (h : xs.length ≤ j) : both (xs.take j) ys = both xs ys := by rw [List.take_of_length_le h]

end Go.Proofs.YtpgfkjcekhifiaaGreat
