/- Texts joined for one claim: Text. -/
import Derived.Test.YtehcjdbljdpmbaaDoorQ749eee4b15
import Derived.Test.YtehcjdbljdpmbaaDoorQ6c56f77fd6
import Derived.Test.YtehcjdbljdpmbaaDoorQ778a275728
import Derived.Laws.IdiomStrings

/- Contracts: names of variables, digits, and texts of rows. -/
namespace Go.Proofs.YtehcjdbljdpmbaaDoor
open Go.RowKit
set_option linter.unusedVariables false
set_option linter.unusedSimpArgs false

abbrev bs (l : List UInt8) : ByteArray := ⟨l.toArray⟩
theorem bs_size (l : List UInt8) : (bs l).size = l.length := by simp [bs, ByteArray.size]
theorem bs_app (l m : List UInt8) : bs l ++ bs m = bs (l ++ m) := by
  apply ByteArray.ext
  simp [bs]
/-- A variable's name. -/
def chV (v : Int) : List UInt8 := if v = 0 then [88] else if v = 1 then [89] else if v = 2 then [90] else if v = 3 then [85] else []
theorem chV_no {v : Int} (h : betw v 0 3 = false) : chV v = [] := by
  simp only [betw, Bool.and_eq_false_iff, decide_eq_false_iff_not] at h
  unfold chV
  rw [if_neg (by omega), if_neg (by omega), if_neg (by omega), if_neg (by omega)]
theorem chV_len (v : Int) : (chV v).length ≤ 1 := by
  unfold chV
  split
  · simp
  · split
    · simp
    · split
      · simp
      · split <;> simp
def namesOf (vs : List Int) : List UInt8 := vs.flatMap chV
theorem namesOf_len (vs : List Int) : (namesOf vs).length ≤ vs.length := by
  induction vs with
  | nil => simp [namesOf]
  | cons v t ih =>
    have := chV_len v
    simp only [namesOf, List.flatMap_cons, List.length_append, List.length_cons] at ih ⊢
    omega
theorem namesOf_snoc {vs : List Int} {j : Nat} {v : Int} (hj : j < vs.length) (hv : vs.getD j 0 = v) : namesOf (vs.take (j + 1)) = namesOf (vs.take j) ++ chV v := by
  rw [take_snoc vs j hj, hv]; simp [namesOf]

theorem varName_impl (v : Int) (w : World) :
    Calls Tryd.prog 19 #[.int .i64 v] w fun e w' => e = .returned (.string (bs (chV v))) ∧ w = w' := by
  have hin := within_any v 0 3 w
  obtain ⟨b, hb⟩ : ∃ b, betw v 0 3 = b := ⟨_, rfl⟩
  rw [hb] at hin
  have HIN := Lib.hid hin
  clear hin
  cases b with
  | false =>
    have HE := Lib.hid (chV_no hb)
    clear hb
    go_enter Tryd.func19, Tryd.ntmps19
    go_wp2_with fail
    refine HIN.out.mono ?_
    rintro e w' ⟨rfl, rfl⟩
    go_wp2_with fail
    go_ret
    exact ⟨by rw [HE.out]; rfl, rfl⟩
  | true =>
    simp only [betw, Bool.and_eq_true, decide_eq_true_eq] at hb
    rcases (by omega : v = 0 ∨ v = 1 ∨ v = 2 ∨ v = 3) with rfl | rfl | rfl | rfl
    all_goals
      go_enter Tryd.func19, Tryd.ntmps19
      go_wp2_with fail
      refine HIN.out.mono ?_
      rintro e w' ⟨rfl, rfl⟩
      go_wp2_with fail
      go_ret
      exact ⟨by rfl, rfl⟩

theorem varName_spec (v : Int) (w : World) :
    Calls Tryd.prog 38 #[.int .i64 v] w fun e w' => e = .returned (.string (bs (chV v))) ∧ w = w' := by
  have hin := l1In_any v 0 3 w
  obtain ⟨b, hb⟩ : ∃ b, betw v 0 3 = b := ⟨_, rfl⟩
  rw [hb] at hin
  have HIN := Lib.hid hin
  clear hin
  cases b with
  | false =>
    have HE := Lib.hid (chV_no hb)
    clear hb
    go_enter Tryd.func38, Tryd.ntmps38
    go_wp2_with fail
    refine HIN.out.mono ?_
    rintro e w' ⟨rfl, rfl⟩
    go_wp2_with fail
    go_ret
    exact ⟨by rw [HE.out]; rfl, rfl⟩
  | true =>
    simp only [betw, Bool.and_eq_true, decide_eq_true_eq] at hb
    rcases (by omega : v = 0 ∨ v = 1 ∨ v = 2 ∨ v = 3) with rfl | rfl | rfl | rfl
    all_goals
      go_enter Tryd.func38, Tryd.ntmps38
      go_wp2_with fail
      refine HIN.out.mono ?_
      rintro e w' ⟨rfl, rfl⟩
      go_wp2_with fail
      go_ret
      exact ⟨by rfl, rfl⟩

theorem names_impl (v : Value) (vs : List Int) (w : World) (h : rI.rep w [v] vs) (hn : vs.length ≤ 1048576) :
    Calls Tryd.prog 56 #[v] w fun e w' => e = .returned (.string (bs (namesOf vs))) ∧ w = w' := by
  obtain ⟨b, n, c, hv⟩ := rI_form h
  simp at hv
  subst hv
  have iv := rI_ints h
  have hl := iv.len
  clear h
  go_enter Tryd.func56, Tryd.ntmps56
  go_wp2_with fail
  go_loopw [3, 8] (fun s k wr => ∃ j : Nat, j ≤ n ∧ k = .int .i64 j ∧ s = .string (bs (namesOf (vs.take j))) ∧ w = wr) (fun _ k _ => n - (intOf k).toNat)
  case atStart => exact ⟨0, Nat.zero_le _, rfl, rfl, rfl⟩
  case round =>
    obtain ⟨j, hj, rfl, rfl, rfl⟩ := hrel
    by_cases hlt : j < n
    · obtain ⟨b0, o0, x, rfl, hc, hx, hx1, hx2⟩ := iv.get hlt
      have HS := Lib.hid (namesOf_snoc (show j < vs.length by omega) hx.out)
      have HV := Lib.hid (varName_impl x w)
      have hz : ¬ 9223372036854775807 < (bs (namesOf (vs.take j))).size + (bs (chV x)).size := by
        rw [bs_size, bs_size]
        have h1 := namesOf_len (vs.take j)
        have h2 := chV_len x
        have h3 := List.length_take_le j vs
        omega
      clear iv hx
      go_wp2_with fail
      refine HV.out.mono ?_
      rintro e w' ⟨rfl, rfl⟩
      go_wp2_with fail
      go_roundw
      case rel => exact ⟨j + 1, by omega, by go_num, by rw [HS.out, ← bs_app], trivial⟩
      case measure => simp [intOf]; omega
    · have hjn : j = n := by omega
      have HE : Hid (namesOf (vs.take j) = namesOf vs) := Lib.hid (by rw [List.take_of_length_le (by omega)])
      go_wp2_with fail
      go_ret
      exact ⟨by rw [← HE.out]; rfl, rfl⟩

theorem names_spec (v : Value) (vs : List Int) (w : World) (h : rI.rep w [v] vs) (hn : vs.length ≤ 1048576) :
    Calls Tryd.prog 74 #[v] w fun e w' => e = .returned (.string (bs (namesOf vs))) ∧ w = w' := by
  obtain ⟨b, n, c, hv⟩ := rI_form h
  simp at hv
  subst hv
  have iv := rI_ints h
  have hl := iv.len
  clear h
  go_enter Tryd.func74, Tryd.ntmps74
  go_wp2_with fail
  go_loopw [3, 4] (fun s k wr => ∃ j : Nat, j ≤ n ∧ k = .int .i64 j ∧ s = .string (bs (namesOf (vs.take j))) ∧ w = wr) (fun _ k _ => n - (intOf k).toNat)
  case atStart => exact ⟨0, Nat.zero_le _, rfl, rfl, rfl⟩
  case round =>
    obtain ⟨j, hj, rfl, rfl, rfl⟩ := hrel
    by_cases hlt : j < n
    · obtain ⟨b0, o0, x, rfl, hc, hx, hx1, hx2⟩ := iv.get hlt
      have HS := Lib.hid (namesOf_snoc (show j < vs.length by omega) hx.out)
      have HV := Lib.hid (varName_spec x w)
      have hz : ¬ 9223372036854775807 < (bs (namesOf (vs.take j))).size + (bs (chV x)).size := by
        rw [bs_size, bs_size]
        have h1 := namesOf_len (vs.take j)
        have h2 := chV_len x
        have h3 := List.length_take_le j vs
        omega
      clear iv hx
      go_wp2_with fail
      refine HV.out.mono ?_
      rintro e w' ⟨rfl, rfl⟩
      go_wp2_with fail
      go_roundw
      case rel => exact ⟨j + 1, by omega, by go_num, by rw [HS.out, ← bs_app], trivial⟩
      case measure => simp [intOf]; omega
    · have hjn : j = n := by omega
      have HE : Hid (namesOf (vs.take j) = namesOf vs) := Lib.hid (by rw [List.take_of_length_le (by omega)])
      go_wp2_with fail
      go_ret
      exact ⟨by rw [← HE.out]; rfl, rfl⟩

/-! Digits -/

def chD (d : Int) : UInt8 := UInt8.ofNat (48 + d.toNat)
theorem chD_nat {d : Nat} (h : d ≤ 9) : ((chD (d : Int)).toNat : Int) = 48 + (d : Int) := by
  rw [chD, Int.toNat_natCast, UInt8.toNat_ofNat', Nat.mod_eq_of_lt (by omega)]; omega
def digsOf (row : List Int) : List UInt8 := row.map chD
theorem digsOf_len (row : List Int) : (digsOf row).length = row.length := by simp [digsOf]
theorem digsOf_snoc {row : List Int} {j : Nat} {v : Int} (hj : j < row.length) (hv : row.getD j 0 = v) : digsOf (row.take (j + 1)) = digsOf (row.take j) ++ [chD v] := by
  rw [take_snoc row j hj, hv]; simp [digsOf]

set_option maxRecDepth 100000 in
theorem fmtInt_dig (d : Nat) (hd : d ≤ 9) (w : World) :
    Calls Tryd.prog 73 #[.int .i64 (d : Int)] w fun e w' => e = .returned (.string (bs [chD (d : Int)])) ∧ Below w.heap.size w w' := by
  rcases Nat.eq_zero_or_pos d with rfl | hpos
  · go_enter Tryd.func73, Tryd.ntmps73
    go_wp2_with fail
    go_ret
    exact ⟨by rfl, Below.refl _ _⟩
  · have hc2 := chD_nat hd
    obtain ⟨c, hcc⟩ : ∃ c, chD (d : Int) = c := ⟨_, rfl⟩
    rw [hcc] at hc2 ⊢
    have hne : ((d : Int) == 0) = false := by rw [beq_eq_false_iff_ne]; omega
    have hbn : ((d : Int) != 0) = true := by rw [bne_iff_ne]; omega
    have hm : (d : Int) % 10 = (d : Int) := by omega
    have hq : (d : Int) / 10 = 0 := by omega
    have hcv := run_convert_bytes_back (P := Tryd.prog) (w.alloc (.cells #[Value.int .u8 (48 + (d : Int))] 5)) 30 9 5 ⟨w.heap.size, 0, none⟩ 1 [c] Tryd.underlying30 Tryd.underlying5 Tryd.underlying9 (fun j hj => by
        obtain rfl : j = 0 := by simp at hj; exact hj
        rw [add_zero_addr, box_cell (i := 0) (Below.refl _ _) rfl, ← hc2]; rfl)
    simp only [List.length_cons, List.length_nil, Nat.zero_add] at hcv
    have hz1 : ¬ 9223372036854775807 < (bs [c]).size + (ByteArray.mk #[]).size := by rw [bs_size]; simp [ByteArray.size]
    clear hcc hc2
    go_enter Tryd.func73, Tryd.ntmps73
    go_wp2_with fail
    go_loopw [0, 3] (fun q s wr => (q = .int .i64 (d : Int) ∧ s = .string ⟨#[]⟩ ∧ w = wr) ∨ (q = .int .i64 0 ∧ s = .string (bs [c]) ∧ Below w.heap.size w wr)) (fun q _ _ => (intOf q).toNat)
    case atStart => exact .inl ⟨rfl, rfl, rfl⟩
    case round =>
      rcases hrel with ⟨rfl, rfl, rfl⟩ | ⟨rfl, rfl, hB⟩
      · go_wp2_with fail
        go_roundw
        case rel => exact .inr ⟨rfl, by show Value.string _ = Value.string _; congr 1, (Below.refl _ _).alloc (Nat.le_refl _) _⟩
        case measure => simp [intOf]; omega
      · clear hcv
        go_wp2_with fail
        go_ret
        exact ⟨by rfl, hB⟩

/-- A byte, owned. -/
def O.u8 : OS UInt8 := ⟨1, fun _ cs x fp => cs = [.int .u8 (x.toNat : Int)] ∧ fp = [], fun h => by rw [h.1]; rfl, fun h _ => h, fun h k hk => by rw [h.2] at hk; cases hk⟩
theorem infoU8 : (Tryd.prog.info? 5).map (fun i => (i.zero, i.size, i.bytes)) = some (some (.int .u8 0), 1, 1) := by kernel_rfl
/-- The bytes of an owned slice read as a string. -/
theorem bytes_back {lo S hi : Nat} {w : World} {a : Option Addr} {n c : Nat} {l : List UInt8} (h : Acc 5 O.u8 lo S hi w (.slice a n c) l) : (convert 30 9 (.slice a n c)).run Tryd.prog w = .ok (.string (bs l)) w := by
  obtain ⟨fp, ⟨v1, css, fps, hv, _, h1, h2⟩, _⟩ := h
  simp at hv
  subst hv
  obtain ⟨a', cap', he, hn, hb⟩ := own_form h1
  simp at he
  obtain ⟨rfl, rfl, rfl⟩ := he
  rcases h1.2 with ⟨h3, h4⟩ | ⟨g, cap, cur, h3, _⟩
  · simp at h3
    obtain ⟨rfl, h5, rfl⟩ := h3
    subst h5
    simp only [List.length_nil]
    rw [run_convert_bytes_string (P := Tryd.prog) w 30 9 5 none 0 0 Tryd.underlying30 Tryd.underlying5 Tryd.underlying9]
    rfl
  · simp at h3
    obtain ⟨rfl, rfl⟩ := h3
    refine run_convert_bytes_back (P := Tryd.prog) w 30 9 5 ⟨g, 0, none⟩ _ l Tryd.underlying30 Tryd.underlying5 Tryd.underlying9 (fun j hj => ?_)
    obtain ⟨cj, f, hc, hf, hr⟩ := O.u8.rows_get h2 j _ (List.getElem?_eq_getElem hj)
    obtain ⟨rfl, _⟩ := hr
    have h9 := flatten_get O.u8 h2 j 0 _ _ hc (show [Value.int .u8 (l[j].toNat : Int)][0]? = some _ from rfl)
    have e : j * O.u8.size + 0 = j := by show j * 1 + 0 = j; omega
    rw [e] at h9
    obtain ⟨g2, hg2, hcell⟩ := own_cell h1 j _ h9
    simp at hg2
    subst hg2
    rw [add_zero_addr]
    exact hcell

end Go.Proofs.YtehcjdbljdpmbaaDoor
