/- Texts joined for one claim: Text, IncF, ParI, LParseInclusion. -/
import Derived.Test.YtigcagplbihenaaDoorQ593da00cd9
import Derived.Laws.IdiomStrings
import Derived.Deep.RegionHeld3

/- Contracts: names of variables, digits, and texts of rows. -/
namespace Go.Proofs.YtigcagplbihenaaDoor
open Go.RowKit
set_option linter.unusedVariables false
set_option linter.unusedSimpArgs false

abbrev bs (l : List UInt8) : ByteArray := ⟨l.toArray⟩
theorem bs_size (l : List UInt8) : (bs l).size = l.length := by simp [bs, ByteArray.size]
theorem bs_app (l m : List UInt8) : bs l ++ bs m = bs (l ++ m) := by
  apply ByteArray.ext
  simp [bs]
/-- A variable's name. -/
def chV (v : Int) : List UInt8 := if v = 0 then [88] else if v = 1 then [89] else if v = 2 then [90] else if v = 3 then [85] else []
theorem chV_no {v : Int} (h : betw v 0 3 = false) : chV v = [] := by
  simp only [betw, Bool.and_eq_false_iff, decide_eq_false_iff_not] at h
  unfold chV
  rw [if_neg (by omega), if_neg (by omega), if_neg (by omega), if_neg (by omega)]
theorem chV_len (v : Int) : (chV v).length ≤ 1 := by
  unfold chV
  split
  · simp
  · split
    · simp
    · split
      · simp
      · split <;> simp
def namesOf (vs : List Int) : List UInt8 := vs.flatMap chV
theorem namesOf_len (vs : List Int) : (namesOf vs).length ≤ vs.length := by
  induction vs with
  | nil => simp [namesOf]
  | cons v t ih =>
    have := chV_len v
    simp only [namesOf, List.flatMap_cons, List.length_append, List.length_cons] at ih ⊢
    omega
theorem namesOf_snoc {vs : List Int} {j : Nat} {v : Int} (hj : j < vs.length) (hv : vs.getD j 0 = v) : namesOf (vs.take (j + 1)) = namesOf (vs.take j) ++ chV v := by
  rw [take_snoc vs j hj, hv]; simp [namesOf]

theorem varName_impl (v : Int) (w : World) :
    Calls Tryd.prog 39 #[.int .i64 v] w fun e w' => e = .returned (.string (bs (chV v))) ∧ w = w' := by
  have hin := within_any v 0 3 w
  obtain ⟨b, hb⟩ : ∃ b, betw v 0 3 = b := ⟨_, rfl⟩
  rw [hb] at hin
  have HIN := Lib.hid hin
  clear hin
  cases b with
  | false =>
    have HE := Lib.hid (chV_no hb)
    clear hb
    go_enter Tryd.func39, Tryd.ntmps39
    go_wp2_with fail
    refine HIN.out.mono ?_
    rintro e w' ⟨rfl, rfl⟩
    go_wp2_with fail
    go_ret
    exact ⟨by rw [HE.out]; rfl, rfl⟩
  | true =>
    simp only [betw, Bool.and_eq_true, decide_eq_true_eq] at hb
    rcases (by omega : v = 0 ∨ v = 1 ∨ v = 2 ∨ v = 3) with rfl | rfl | rfl | rfl
    all_goals
      go_enter Tryd.func39, Tryd.ntmps39
      go_wp2_with fail
      refine HIN.out.mono ?_
      rintro e w' ⟨rfl, rfl⟩
      go_wp2_with fail
      go_ret
      exact ⟨by rfl, rfl⟩

theorem varName_spec (v : Int) (w : World) :
    Calls Tryd.prog 75 #[.int .i64 v] w fun e w' => e = .returned (.string (bs (chV v))) ∧ w = w' := by
  have hin := l1In_any v 0 3 w
  obtain ⟨b, hb⟩ : ∃ b, betw v 0 3 = b := ⟨_, rfl⟩
  rw [hb] at hin
  have HIN := Lib.hid hin
  clear hin
  cases b with
  | false =>
    have HE := Lib.hid (chV_no hb)
    clear hb
    go_enter Tryd.func75, Tryd.ntmps75
    go_wp2_with fail
    refine HIN.out.mono ?_
    rintro e w' ⟨rfl, rfl⟩
    go_wp2_with fail
    go_ret
    exact ⟨by rw [HE.out]; rfl, rfl⟩
  | true =>
    simp only [betw, Bool.and_eq_true, decide_eq_true_eq] at hb
    rcases (by omega : v = 0 ∨ v = 1 ∨ v = 2 ∨ v = 3) with rfl | rfl | rfl | rfl
    all_goals
      go_enter Tryd.func75, Tryd.ntmps75
      go_wp2_with fail
      refine HIN.out.mono ?_
      rintro e w' ⟨rfl, rfl⟩
      go_wp2_with fail
      go_ret
      exact ⟨by rfl, rfl⟩

theorem names_impl (v : Value) (vs : List Int) (w : World) (h : rI.rep w [v] vs) (hn : vs.length ≤ 1048576) :
    Calls Tryd.prog 92 #[v] w fun e w' => e = .returned (.string (bs (namesOf vs))) ∧ w = w' := by
  obtain ⟨b, n, c, hv⟩ := rI_form h
  simp at hv
  subst hv
  have iv := rI_ints h
  have hl := iv.len
  clear h
  go_enter Tryd.func92, Tryd.ntmps92
  go_wp2_with fail
  go_loopw [3, 8] (fun s k wr => ∃ j : Nat, j ≤ n ∧ k = .int .i64 j ∧ s = .string (bs (namesOf (vs.take j))) ∧ w = wr) (fun _ k _ => n - (intOf k).toNat)
  case atStart => exact ⟨0, Nat.zero_le _, rfl, rfl, rfl⟩
  case round =>
    obtain ⟨j, hj, rfl, rfl, rfl⟩ := hrel
    by_cases hlt : j < n
    · obtain ⟨b0, o0, x, rfl, hc, hx, hx1, hx2⟩ := iv.get hlt
      have HS := Lib.hid (namesOf_snoc (show j < vs.length by omega) hx.out)
      have HV := Lib.hid (varName_impl x w)
      have hz : ¬ 9223372036854775807 < (bs (namesOf (vs.take j))).size + (bs (chV x)).size := by
        rw [bs_size, bs_size]
        have h1 := namesOf_len (vs.take j)
        have h2 := chV_len x
        have h3 := List.length_take_le j vs
        omega
      clear iv hx
      go_wp2_with fail
      refine HV.out.mono ?_
      rintro e w' ⟨rfl, rfl⟩
      go_wp2_with fail
      go_roundw
      case rel => exact ⟨j + 1, by omega, by go_num, by rw [HS.out, ← bs_app], trivial⟩
      case measure => simp [intOf]; omega
    · have hjn : j = n := by omega
      have HE : Hid (namesOf (vs.take j) = namesOf vs) := Lib.hid (by rw [List.take_of_length_le (by omega)])
      go_wp2_with fail
      go_ret
      exact ⟨by rw [← HE.out]; rfl, rfl⟩

theorem names_spec (v : Value) (vs : List Int) (w : World) (h : rI.rep w [v] vs) (hn : vs.length ≤ 1048576) :
    Calls Tryd.prog 106 #[v] w fun e w' => e = .returned (.string (bs (namesOf vs))) ∧ w = w' := by
  obtain ⟨b, n, c, hv⟩ := rI_form h
  simp at hv
  subst hv
  have iv := rI_ints h
  have hl := iv.len
  clear h
  go_enter Tryd.func106, Tryd.ntmps106
  go_wp2_with fail
  go_loopw [3, 4] (fun s k wr => ∃ j : Nat, j ≤ n ∧ k = .int .i64 j ∧ s = .string (bs (namesOf (vs.take j))) ∧ w = wr) (fun _ k _ => n - (intOf k).toNat)
  case atStart => exact ⟨0, Nat.zero_le _, rfl, rfl, rfl⟩
  case round =>
    obtain ⟨j, hj, rfl, rfl, rfl⟩ := hrel
    by_cases hlt : j < n
    · obtain ⟨b0, o0, x, rfl, hc, hx, hx1, hx2⟩ := iv.get hlt
      have HS := Lib.hid (namesOf_snoc (show j < vs.length by omega) hx.out)
      have HV := Lib.hid (varName_spec x w)
      have hz : ¬ 9223372036854775807 < (bs (namesOf (vs.take j))).size + (bs (chV x)).size := by
        rw [bs_size, bs_size]
        have h1 := namesOf_len (vs.take j)
        have h2 := chV_len x
        have h3 := List.length_take_le j vs
        omega
      clear iv hx
      go_wp2_with fail
      refine HV.out.mono ?_
      rintro e w' ⟨rfl, rfl⟩
      go_wp2_with fail
      go_roundw
      case rel => exact ⟨j + 1, by omega, by go_num, by rw [HS.out, ← bs_app], trivial⟩
      case measure => simp [intOf]; omega
    · have hjn : j = n := by omega
      have HE : Hid (namesOf (vs.take j) = namesOf vs) := Lib.hid (by rw [List.take_of_length_le (by omega)])
      go_wp2_with fail
      go_ret
      exact ⟨by rw [← HE.out]; rfl, rfl⟩

/-! Digits -/

def chD (d : Int) : UInt8 := UInt8.ofNat (48 + d.toNat)
theorem chD_nat {d : Nat} (h : d ≤ 9) : ((chD (d : Int)).toNat : Int) = 48 + (d : Int) := by
  rw [chD, Int.toNat_natCast, UInt8.toNat_ofNat', Nat.mod_eq_of_lt (by omega)]; omega
def digsOf (row : List Int) : List UInt8 := row.map chD
theorem digsOf_len (row : List Int) : (digsOf row).length = row.length := by simp [digsOf]
theorem digsOf_snoc {row : List Int} {j : Nat} {v : Int} (hj : j < row.length) (hv : row.getD j 0 = v) : digsOf (row.take (j + 1)) = digsOf (row.take j) ++ [chD v] := by
  rw [take_snoc row j hj, hv]; simp [digsOf]

set_option maxRecDepth 100000 in
theorem fmtInt_dig (d : Nat) (hd : d ≤ 9) (w : World) :
    Calls Tryd.prog 56 #[.int .i64 (d : Int)] w fun e w' => e = .returned (.string (bs [chD (d : Int)])) ∧ Below w.heap.size w w' := by
  rcases Nat.eq_zero_or_pos d with rfl | hpos
  · go_enter Tryd.func56, Tryd.ntmps56
    go_wp2_with fail
    go_ret
    exact ⟨by rfl, Below.refl _ _⟩
  · have hc2 := chD_nat hd
    obtain ⟨c, hcc⟩ : ∃ c, chD (d : Int) = c := ⟨_, rfl⟩
    rw [hcc] at hc2 ⊢
    have hne : ((d : Int) == 0) = false := by rw [beq_eq_false_iff_ne]; omega
    have hbn : ((d : Int) != 0) = true := by rw [bne_iff_ne]; omega
    have hm : (d : Int) % 10 = (d : Int) := by omega
    have hq : (d : Int) / 10 = 0 := by omega
    have hcv := run_convert_bytes_back (P := Tryd.prog) (w.alloc (.cells #[Value.int .u8 (48 + (d : Int))] 5)) 52 9 5 ⟨w.heap.size, 0, none⟩ 1 [c] Tryd.underlying52 Tryd.underlying5 Tryd.underlying9 (fun j hj => by
        obtain rfl : j = 0 := by simp at hj; exact hj
        rw [add_zero_addr, box_cell (i := 0) (Below.refl _ _) rfl, ← hc2]; rfl)
    simp only [List.length_cons, List.length_nil, Nat.zero_add] at hcv
    have hz1 : ¬ 9223372036854775807 < (bs [c]).size + (ByteArray.mk #[]).size := by rw [bs_size]; simp [ByteArray.size]
    clear hcc hc2
    go_enter Tryd.func56, Tryd.ntmps56
    go_wp2_with fail
    go_loopw [0, 3] (fun q s wr => (q = .int .i64 (d : Int) ∧ s = .string ⟨#[]⟩ ∧ w = wr) ∨ (q = .int .i64 0 ∧ s = .string (bs [c]) ∧ Below w.heap.size w wr)) (fun q _ _ => (intOf q).toNat)
    case atStart => exact .inl ⟨rfl, rfl, rfl⟩
    case round =>
      rcases hrel with ⟨rfl, rfl, rfl⟩ | ⟨rfl, rfl, hB⟩
      · go_wp2_with fail
        go_roundw
        case rel => exact .inr ⟨rfl, by show Value.string _ = Value.string _; congr 1, (Below.refl _ _).alloc (Nat.le_refl _) _⟩
        case measure => simp [intOf]; omega
      · clear hcv
        go_wp2_with fail
        go_ret
        exact ⟨by rfl, hB⟩

set_option maxHeartbeats 1000000 in
theorem l4Digits_any (v : Value) (row : List Int) (w : World) (h : rI.rep w [v] row) (hn : row.length ≤ 1048576) (hr : ∀ x ∈ row, 0 ≤ x ∧ x ≤ 9) :
    Calls Tryd.prog 63 #[v] w fun e w' => e = .returned (.string (bs (digsOf row))) ∧ Below w.heap.size w w' := by
  obtain ⟨b, n, c, hv⟩ := rI_form h
  simp at hv
  subst hv
  have iv := rI_ints h
  have hl := iv.len
  have HR := Lib.hid hr
  clear h hr
  have hb0 : Below w.heap.size w w := Below.refl _ _
  go_enter Tryd.func63, Tryd.ntmps63
  go_wp2_with fail
  go_loopw [3, 4] (fun s k wr => ∃ j : Nat, j ≤ n ∧ k = .int .i64 j ∧ s = .string (bs (digsOf (row.take j))) ∧ Below w.heap.size w wr) (fun _ k _ => n - (intOf k).toNat)
  case atStart => exact ⟨0, Nat.zero_le _, rfl, rfl, Below.refl _ _⟩
  case round =>
    obtain ⟨j, hj, rfl, rfl, hdr⟩ := hrel
    have s1 := hdr.size
    have hb1 := on hb0 hdr
    by_cases hlt : j < n
    · obtain ⟨b0, o0, x, rfl, hc, hx, hx1, hx2⟩ := iv.get hlt
      have hxr := HR.out x (by
        rw [← hx.out, List.getD_eq_getElem?_getD, List.getElem?_eq_getElem (by omega)]; exact List.getElem_mem _)
      obtain ⟨d, rfl⟩ := Int.eq_ofNat_of_zero_le hxr.1
      have HS := Lib.hid (digsOf_snoc (show j < row.length by omega) hx.out)
      have hc0 : wr.cell? ⟨b0, o0 + j, none⟩ = some (.int .i64 (d : Int)) := ((hb1).cell (p := ⟨b0, o0 + j, none⟩) (cell_lt hc)).trans hc
      have HF := Lib.hid (fmtInt_dig d (by omega) wr)
      have hz : ¬ 9223372036854775807 < (bs (digsOf (row.take j))).size + (bs [chD (d : Int)]).size := by
        rw [bs_size, bs_size, digsOf_len]
        have h3 := List.length_take_le j row
        simp
        omega
      clear iv hx hc hxr
      go_wp2_with fail
      refine HF.out.mono ?_
      rintro e w5 ⟨rfl, z5⟩
      have s2 := z5.size
      have hb2 := on hb1 z5
      go_wp2_with fail
      go_roundw
      case rel => exact ⟨j + 1, by omega, by go_num, by rw [HS.out, ← bs_app], hb2⟩
      case measure => simp [intOf]; omega
    · have HE : Hid (digsOf (row.take j) = digsOf row) := Lib.hid (by rw [List.take_of_length_le (by omega)])
      go_wp2_with fail
      go_ret
      exact ⟨by rw [← HE.out]; rfl, hb1⟩

/-- A byte, owned. -/
def O.u8 : OS UInt8 := ⟨1, fun _ cs x fp => cs = [.int .u8 (x.toNat : Int)] ∧ fp = [], fun h => by rw [h.1]; rfl, fun h _ => h, fun h k hk => by rw [h.2] at hk; cases hk⟩
theorem infoU8 : (Tryd.prog.info? 5).map (fun i => (i.zero, i.size, i.bytes)) = some (some (.int .u8 0), 1, 1) := by kernel_rfl
/-- The bytes of an owned slice read as a string. -/
theorem bytes_back {lo S hi : Nat} {w : World} {a : Option Addr} {n c : Nat} {l : List UInt8} (h : Acc 5 O.u8 lo S hi w (.slice a n c) l) : (convert 52 9 (.slice a n c)).run Tryd.prog w = .ok (.string (bs l)) w := by
  obtain ⟨fp, ⟨v1, css, fps, hv, _, h1, h2⟩, _⟩ := h
  simp at hv
  subst hv
  obtain ⟨a', cap', he, hn, hb⟩ := own_form h1
  simp at he
  obtain ⟨rfl, rfl, rfl⟩ := he
  rcases h1.2 with ⟨h3, h4⟩ | ⟨g, cap, cur, h3, _⟩
  · simp at h3
    obtain ⟨rfl, h5, rfl⟩ := h3
    subst h5
    simp only [List.length_nil]
    rw [run_convert_bytes_string (P := Tryd.prog) w 52 9 5 none 0 0 Tryd.underlying52 Tryd.underlying5 Tryd.underlying9]
    rfl
  · simp at h3
    obtain ⟨rfl, rfl⟩ := h3
    refine run_convert_bytes_back (P := Tryd.prog) w 52 9 5 ⟨g, 0, none⟩ _ l Tryd.underlying52 Tryd.underlying5 Tryd.underlying9 (fun j hj => ?_)
    obtain ⟨cj, f, hc, hf, hr⟩ := O.u8.rows_get h2 j _ (List.getElem?_eq_getElem hj)
    obtain ⟨rfl, _⟩ := hr
    have h9 := flatten_get O.u8 h2 j 0 _ _ hc (show [Value.int .u8 (l[j].toNat : Int)][0]? = some _ from rfl)
    have e : j * O.u8.size + 0 = j := by show j * 1 + 0 = j; omega
    rw [e] at h9
    obtain ⟨g2, hg2, hcell⟩ := own_cell h1 j _ h9
    simp at hg2
    subst hg2
    rw [add_zero_addr]
    exact hcell

set_option maxHeartbeats 1000000 in
theorem digitsText_any (v : Value) (row : List Int) (w : World) (h : rI.rep w [v] row) (hn : row.length ≤ 1048576) (hr : ∀ x ∈ row, 0 ≤ x ∧ x ≤ 9) :
    Calls Tryd.prog 67 #[v] w fun e w' => e = .returned (.string (bs (digsOf row))) ∧ Below w.heap.size w w' := by
  obtain ⟨b, n, c, hv⟩ := rI_form h
  simp at hv
  subst hv
  have iv := rI_ints h
  have hl := iv.len
  have HR := Lib.hid hr
  clear h hr
  have hb0 : Below w.heap.size w w := Below.refl _ _
  go_enter Tryd.func67, Tryd.ntmps67
  obtain ⟨w1, hw1⟩ : ∃ W, W = w.alloc (.cells #[] 5) := ⟨_, rfl⟩
  have z1 : Below w.heap.size w w1 := by rw [hw1]; exact (Below.refl _ _).alloc (Nat.le_refl _) _
  have s1 : w1.heap.size = w.heap.size + 1 := by rw [hw1]; simp
  have hb1 := on hb0 z1
  have he : ∀ S, Acc 5 O.u8 w.heap.size S w1.heap.size w1 (.slice (some ⟨w.heap.size, 0, none⟩) 0 0) [] := fun S => by rw [hw1]; exact Acc.empty (by omega) (by first | (simp; done) | (simp; omega))
  go_wp2_with fail
  rw [← hw1]
  clear hw1
  go_loopw [3, 9] (fun v k wr => ∃ j : Nat, j ≤ n ∧ k = .int .i64 j ∧ Acc 5 O.u8 w.heap.size w1.heap.size wr.heap.size wr v (digsOf (row.take j)) ∧ Turn w.heap.size (w.heap.size + 1) w1 wr) (fun _ k _ => n - (intOf k).toNat)
  case atStart => exact ⟨0, Nat.zero_le _, rfl, (he _).wide (Nat.le_refl _) (by omega), turn_refl _ _ _⟩
  case round =>
    obtain ⟨j, hj, rfl, hacc, hdr⟩ := hrel
    have hlc := hdr
    clear he
    have s2 := hdr.size
    have hb2 := hb1.trans ((hdr.below (by omega)).mono (by omega))
    by_cases hlt : j < n
    · obtain ⟨b0, o0, x, rfl, hc, hx, hx1, hx2⟩ := iv.get hlt
      have hxr := HR.out x (by
        rw [← hx.out, List.getD_eq_getElem?_getD, List.getElem?_eq_getElem (by omega)]; exact List.getElem_mem _)
      obtain ⟨d, rfl⟩ := Int.eq_ofNat_of_zero_le hxr.1
      have HS := Lib.hid (digsOf_snoc (show j < row.length by omega) hx.out)
      have hc0 : wr.cell? ⟨b0, o0 + j, none⟩ = some (.int .i64 (d : Int)) := ((hb2).cell (p := ⟨b0, o0 + j, none⟩) (cell_lt hc)).trans hc
      have hd9 : d ≤ 9 := by omega
      have hch := chD_nat hd9
      have hdl := digsOf_len (row.take j)
      have h3 := List.length_take_le j row
      obtain ⟨va, vn, vc, rfl⟩ := hacc.form3
      obtain ⟨v', wN, hrun, haccN, htN, hsN, _⟩ := run_acc Tryd.underlying52 infoU8 rfl (by decide) (by decide) rfl (lo := w.heap.size) (W0 := w1) 52 _ _ [.int .u8 (48 + (d : Int))] (chD (d : Int)) hacc (show Own O.u8 wr.heap.size wr.heap.size wr [.int .u8 (48 + (d : Int))] (chD (d : Int)) from ⟨[], ⟨by rw [hch], rfl⟩, by simp, by simp⟩) (by intro z hz; simp at hz; subst hz; rfl) (by omega) (Nat.le_refl _) (Nat.le_refl _) (Nat.le_refl _) hlc rfl (.inl rfl) (by omega) (by omega) rfl
      obtain ⟨va2, vn2, vc2, rfl⟩ := haccN.form3
      have HC9 := Lib.hid haccN
      have HT9 := Lib.hid htN
      clear hacc hlc haccN htN hc hx hxr iv hch
      go_wp2_with ((at_builtin; refine wpList_app_run hrun rfl rfl rfl rfl rfl ?_))
      go_roundw
      case rel => exact ⟨j + 1, by omega, by go_num, by rw [HS.out]; exact HC9.out, HT9.out⟩
      case measure => simp [intOf]; omega
    · have HE : Hid (digsOf (row.take j) = digsOf row) := Lib.hid (by rw [List.take_of_length_le (by omega)])
      obtain ⟨va, vn, vc, rfl⟩ := hacc.form3
      have hcv := bytes_back hacc
      rw [HE.out] at hcv
      clear hacc
      go_wp2_with fail
      go_ret
      exact ⟨by rfl, hb2⟩

end Go.Proofs.YtigcagplbihenaaDoor

/- Contracts: inclusions as texts, both ways. -/
namespace Go.Proofs.YtigcagplbihenaaDoor
open Go.RowKit
set_option linter.unusedVariables false
set_option linter.unusedSimpArgs false
set_option synthInstance.maxSize 2000
set_option synthInstance.maxHeartbeats 400000

theorem bs_of' (s : ByteArray) : bs s.data.toList = s := by
  apply ByteArray.ext
  simp [bs]
theorem name_len' {ml : List UInt8} (h : nameB (bs ml) = true) : ml.length = 1 := by
  simp only [nameB, Bool.and_eq_true, decide_eq_true_eq] at h
  have := h.1
  rwa [bs_size] at this
theorem dec_one {d : Nat} (h : d ≤ 9) : Lib.decDigits d = [chD (d : Int)] := by
  rcases (by omega : d = 0 ∨ d = 1 ∨ d = 2 ∨ d = 3 ∨ d = 4 ∨ d = 5 ∨ d = 6 ∨ d = 7 ∨ d = 8 ∨ d = 9) with rfl | rfl | rfl | rfl | rfl | rfl | rfl | rfl | rfl | rfl <;> decide +kernel
theorem fmtI_dig (d : Nat) (hd : d ≤ 9) (w : World) :
    Calls Tryd.prog 59 #[.int .i64 (d : Int)] w fun e w' => e = .returned (.string (bs [chD (d : Int)])) ∧ Below w.heap.size w w' := by
  have HI := Lib.hid (Tryd.strconv_Itoa_small d (by omega) w)
  rw [dec_one hd] at HI
  go_enter Tryd.func59, Tryd.ntmps59
  go_wp2_with fail
  refine HI.out.mono ?_
  rintro e w' ⟨rfl, rfl⟩
  go_wp2_with fail
  go_ret
  exact ⟨by rfl, Below.refl _ _⟩
theorem isCol_any (v : Int) (w : World) :
    Calls Tryd.prog 58 #[.int .i64 v] w fun e w' => e = .returned (.bool (betw v 0 2)) ∧ w = w' := by
  have HI := Lib.hid (within_any v 0 2 w)
  go_enter Tryd.func58, Tryd.ntmps58
  go_wp2_with fail
  refine HI.out.mono ?_
  rintro e w' ⟨rfl, rfl⟩
  go_wp2_with fail
  go_ret
  exact ⟨by rfl, rfl⟩
/-- The text of an inclusion. -/
def okIn (x : DIn) : Bool := nameB x.1 && (nameB x.2.2.1 && (betw x.2.1 0 2 && betw x.2.2.2 0 2))
def fmtIn (x : DIn) : List UInt8 := if okIn x then x.1.data.toList ++ [chD x.2.1] ++ [60] ++ x.2.2.1.data.toList ++ [chD x.2.2.2] else []

set_option maxRecDepth 100000 in
set_option maxHeartbeats 2000000 in
theorem fmtIn_impl (cs : List Value) (x : DIn) (w : World) (h : rIn.rep w cs x) :
    Calls Tryd.prog 13 #[.agg cs.toArray] w fun e w' => e = .returned (.string (bs (fmtIn x))) ∧ Below w.heap.size w w' := by
  obtain ⟨rfl, hs0, hi1, hs2, hi3⟩ := rIn_open h
  obtain ⟨m1, c1, m2, c2⟩ := x
  simp only at hs0 hi1 hs2 hi3
  have HF : Hid (fmtIn (m1, c1, m2, c2) = if (nameB m1 && (nameB m2 && (betw c1 0 2 && betw c2 0 2))) then m1.data.toList ++ [chD c1] ++ [60] ++ m2.data.toList ++ [chD c2] else []) := rfl
  have H1 := Lib.hid (fun W => nameOk_any m1 W hs0)
  have H2 := Lib.hid (fun W => nameOk_any m2 W hs2)
  have H3 := Lib.hid (fun W => isCol_any c1 W)
  have H4 := Lib.hid (fun W => isCol_any c2 W)
  obtain ⟨b1, hb1⟩ : ∃ b, nameB m1 = b := ⟨_, rfl⟩
  obtain ⟨b2, hb2⟩ : ∃ b, nameB m2 = b := ⟨_, rfl⟩
  obtain ⟨b3, hb3⟩ : ∃ b, betw c1 0 2 = b := ⟨_, rfl⟩
  obtain ⟨b4, hb4⟩ : ∃ b, betw c2 0 2 = b := ⟨_, rfl⟩
  rw [hb1, hb2, hb3, hb4] at HF
  simp only [hb1] at H1
  simp only [hb2] at H2
  simp only [hb3] at H3
  simp only [hb4] at H4
  obtain ⟨R, hR⟩ : ∃ R, fmtIn (m1, c1, m2, c2) = R := ⟨_, rfl⟩
  rw [hR] at HF ⊢
  have HB1 := Lib.hid hb1
  have HB2 := Lib.hid hb2
  have HB3 := Lib.hid hb3
  have HB4 := Lib.hid hb4
  clear h hR hb1 hb2 hb3 hb4
  have hb0 : Below w.heap.size w w := Below.refl _ _
  go_enter Tryd.func13, Tryd.ntmps13
  obtain ⟨w1, hw1⟩ : ∃ W, W = w.alloc (.cells #[.string m1, .int .i64 c1, .string m2, .int .i64 c2] 26) := ⟨_, rfl⟩
  have z1 : Below w.heap.size w w1 := by rw [hw1]; exact (Below.refl _ _).alloc (Nat.le_refl _) _
  have s1 : w1.heap.size = w.heap.size + 1 := by rw [hw1]; simp
  have hb1 := on hb0 z1
  have x_0 : w1.cell? ⟨w.heap.size, 0, none⟩ = some (.string m1) := by rw [hw1]; exact box_cell (Below.refl _ _) rfl
  have x_1 : w1.cell? ⟨w.heap.size, 1, none⟩ = some (.int .i64 c1) := by rw [hw1]; exact box_cell (Below.refl _ _) rfl
  have x_2 : w1.cell? ⟨w.heap.size, 2, none⟩ = some (.string m2) := by rw [hw1]; exact box_cell (Below.refl _ _) rfl
  have x_3 : w1.cell? ⟨w.heap.size, 3, none⟩ = some (.int .i64 c2) := by rw [hw1]; exact box_cell (Below.refl _ _) rfl
  have raw1_x_0 := x_0
  have raw1_x_1 := x_1
  have raw1_x_2 := x_2
  have raw1_x_3 := x_3
  rw [hw1] at raw1_x_0 raw1_x_1 raw1_x_2 raw1_x_3
  go_wp2_with fail
  rw [← hw1]
  clear hw1
  clear raw1_x_0 raw1_x_1 raw1_x_2 raw1_x_3
  refine (H1.out _).mono ?_
  rintro e w' ⟨rfl, rfl⟩
  cases b1 with
  | false =>
    have HE : Hid (R = []) := Lib.hid (by rw [HF.out]; simp)
    go_wp2_with fail
    go_ret
    exact ⟨by rw [HE.out]; rfl, hb1⟩
  | true =>
    go_wp2_with fail
    refine (H2.out _).mono ?_
    rintro e w' ⟨rfl, rfl⟩
    cases b2 with
    | false =>
      have HE : Hid (R = []) := Lib.hid (by rw [HF.out]; simp)
      go_wp2_with fail
      go_ret
      exact ⟨by rw [HE.out]; rfl, hb1⟩
    | true =>
      go_wp2_with fail
      refine (H3.out _).mono ?_
      rintro e w' ⟨rfl, rfl⟩
      cases b3 with
      | false =>
        have HE : Hid (R = []) := Lib.hid (by rw [HF.out]; simp)
        go_wp2_with fail
        go_ret
        exact ⟨by rw [HE.out]; rfl, hb1⟩
      | true =>
        go_wp2_with fail
        refine (H4.out _).mono ?_
        rintro e w' ⟨rfl, rfl⟩
        cases b4 with
        | false =>
          have HE : Hid (R = []) := Lib.hid (by rw [HF.out]; simp)
          go_wp2_with fail
          go_ret
          exact ⟨by rw [HE.out]; rfl, hb1⟩
        | true =>
          have HE : Hid (R = m1.data.toList ++ [chD c1] ++ [60] ++ m2.data.toList ++ [chD c2]) := Lib.hid (by rw [HF.out]; rfl)
          obtain ⟨ml, rfl⟩ : ∃ ml, m1 = bs ml := ⟨_, (bs_of' m1).symm⟩
          obtain ⟨nl, rfl⟩ : ∃ nl, m2 = bs nl := ⟨_, (bs_of' m2).symm⟩
          have hl1 := name_len' HB1.out
          have hl2 := name_len' HB2.out
          have h3 := HB3.out
          have h4 := HB4.out
          simp only [betw, Bool.and_eq_true, decide_eq_true_eq] at h3 h4
          obtain ⟨d1, rfl⟩ := Int.eq_ofNat_of_zero_le h3.1
          obtain ⟨d2, rfl⟩ := Int.eq_ofNat_of_zero_le h4.1
          have HI1 := Lib.hid (fun W => fmtI_dig d1 (by omega) W)
          have HI2 := Lib.hid (fun W => fmtI_dig d2 (by omega) W)
          obtain ⟨q1, hq1⟩ : ∃ q, chD (d1 : Int) = q := ⟨_, rfl⟩
          obtain ⟨q2, hq2⟩ : ∃ q, chD (d2 : Int) = q := ⟨_, rfl⟩
          rw [hq1] at HI1 HE
          rw [hq2] at HI2 HE
          have hRR : bs R = ((((bs ml ++ bs [q1]) ++ ByteArray.mk #[60]) ++ bs nl) ++ bs [q2]) := by rw [HE.out, ← bs_app, ← bs_app, ← bs_app, ← bs_app]
          clear h3 h4 hq1 hq2 HF H1 H2 H3 H4 HB1 HB2 HB3 HB4
          go_wp2_with fail
          refine wp_region_noPanic ?_
          refine wp_region_held_drew (S := (fun W => W.cell? ⟨w.heap.size, 0, none⟩ = some (.string (bs ml)) ∧ W.cell? ⟨w.heap.size, 1, none⟩ = some (.int .i64 (d1 : Int)) ∧ W.cell? ⟨w.heap.size, 2, none⟩ = some (.string (bs nl)) ∧ W.cell? ⟨w.heap.size, 3, none⟩ = some (.int .i64 (d2 : Int)))) (by kernel_rfl) ?hS2 (fun hHeld => ?_)
          case hS2 => exact ⟨x_0, x_1, x_2, x_3⟩
          refine wpAnyH_take (i := 0) (v := ?v0_3) rfl (by kernel_rfl) (by kernel_rfl) (by kernel_rfl) (fun _ _ _ h => h) (Or.inl ⟨by rfl, ?hy0_3⟩) (by assumption) ?rest0_3
          case hy0_3 => intro w hSw; (try dsimp only at hSw); go_simp; (try with_reducible rfl)
          try simp only [Act.put, List.getElem_toArray, List.getElem_cons_succ, List.getElem_cons_zero, List.setIfInBounds_toArray, List.set_cons_zero, List.set_cons_succ]
          refine wpAnyH_take (i := 1) (v := ?v1_4) rfl (by kernel_rfl) (by kernel_rfl) (by kernel_rfl) (fun _ _ _ h => h) (Or.inl ⟨by rfl, ?hy1_4⟩) (by assumption) ?rest1_4
          case hy1_4 => intro w hSw; (try dsimp only at hSw); go_simp; (try with_reducible rfl)
          try simp only [Act.put, List.getElem_toArray, List.getElem_cons_succ, List.getElem_cons_zero, List.setIfInBounds_toArray, List.set_cons_zero, List.set_cons_succ]
          refine wpAnyH_take (i := 2) (v := ?v2_5) rfl (by kernel_rfl) (by kernel_rfl) (by kernel_rfl) (fun _ _ _ h => h) (Or.inl ⟨by rfl, ?hy2_5⟩) (by assumption) ?rest2_5
          case hy2_5 => intro w hSw; (try dsimp only at hSw); go_simp; (try with_reducible rfl)
          try simp only [Act.put, List.getElem_toArray, List.getElem_cons_succ, List.getElem_cons_zero, List.setIfInBounds_toArray, List.set_cons_zero, List.set_cons_succ]
          refine wpAnyH_take (i := 3) (v := ?v3_6) rfl (by kernel_rfl) (by kernel_rfl) (by kernel_rfl) (fun _ _ _ h => h) (Or.inl ⟨by rfl, ?hy3_6⟩) (by assumption) ?rest3_6
          case hy3_6 => intro w hSw; (try dsimp only at hSw); go_simp; (try with_reducible rfl)
          try simp only [Act.put, List.getElem_toArray, List.getElem_cons_succ, List.getElem_cons_zero, List.setIfInBounds_toArray, List.set_cons_zero, List.set_cons_succ]
          refine wpAnyH_take (i := 7) (v := ?v7_7) rfl (by kernel_rfl) (by kernel_rfl) (by kernel_rfl) (fun _ _ _ h => h) (Or.inl ⟨by rfl, ?hy7_7⟩) (by assumption) ?rest7_7
          case hy7_7 => intro w hSw; (try dsimp only at hSw); go_simp; (try with_reducible rfl)
          try simp only [Act.put, List.getElem_toArray, List.getElem_cons_succ, List.getElem_cons_zero, List.setIfInBounds_toArray, List.set_cons_zero, List.set_cons_succ]
          refine wpAnyH_take (i := 8) (v := ?v8_8) rfl (by kernel_rfl) (by kernel_rfl) (by kernel_rfl) (fun _ _ _ h => h) (Or.inl ⟨by rfl, ?hy8_8⟩) (by assumption) ?rest8_8
          case hy8_8 => intro w hSw; (try dsimp only at hSw); go_simp; (try with_reducible rfl)
          try simp only [Act.put, List.getElem_toArray, List.getElem_cons_succ, List.getElem_cons_zero, List.setIfInBounds_toArray, List.set_cons_zero, List.set_cons_succ]
          refine wpAnyH_take (i := 10) (v := ?v10_9) rfl (by kernel_rfl) (by kernel_rfl) (by kernel_rfl) (fun _ _ _ h => h) (Or.inl ⟨by rfl, ?hy10_9⟩) (by assumption) ?rest10_9
          case hy10_9 => intro w hSw; (try dsimp only at hSw); go_simp; (try with_reducible rfl)
          try simp only [Act.put, List.getElem_toArray, List.getElem_cons_succ, List.getElem_cons_zero, List.setIfInBounds_toArray, List.set_cons_zero, List.set_cons_succ]
          refine wpAnyH_take (i := 11) (v := ?v11_10) rfl (by kernel_rfl) (by kernel_rfl) (by kernel_rfl) (fun _ _ _ h => h) (Or.inl ⟨by rfl, ?hy11_10⟩) (by assumption) ?rest11_10
          case hy11_10 => intro w hSw; (try dsimp only at hSw); go_simp; (try with_reducible rfl)
          try simp only [Act.put, List.getElem_toArray, List.getElem_cons_succ, List.getElem_cons_zero, List.setIfInBounds_toArray, List.set_cons_zero, List.set_cons_succ]
          refine wpAnyH_ready (rs := [4]) (by kernel_rfl) (by simp) ?_
          refine AllReadyH.cons rfl (fun K hK => ?_) AllReadyH.nil
          go_simp; (refine (HI1.out _).mono ?_); rintro e wA ⟨rfl, zA⟩; replace zA : Below w1.heap.size w1 wA := on (Below.refl _ _).drew zA; have sA := zA.size; have hbA := on hb1 zA; have hSA := (⟨(zA.cell (p := ⟨w.heap.size, 0, none⟩) (by simp only []; omega)).trans x_0, (zA.cell (p := ⟨w.heap.size, 1, none⟩) (by simp only []; omega)).trans x_1, (zA.cell (p := ⟨w.heap.size, 2, none⟩) (by simp only []; omega)).trans x_2, (zA.cell (p := ⟨w.heap.size, 3, none⟩) (by simp only []; omega)).trans x_3⟩ : (fun W => W.cell? ⟨w.heap.size, 0, none⟩ = some (.string (bs ml)) ∧ W.cell? ⟨w.heap.size, 1, none⟩ = some (.int .i64 (d1 : Int)) ∧ W.cell? ⟨w.heap.size, 2, none⟩ = some (.string (bs nl)) ∧ W.cell? ⟨w.heap.size, 3, none⟩ = some (.int .i64 (d2 : Int))) wA)
          refine hK.out _ _ ?_ (fun hHeld => ?_)
          · exact hSA
          clear hK K
          try simp only [Act.put, List.setIfInBounds_toArray, List.set_cons_zero, List.set_cons_succ]
          refine wpAnyH_take (i := 5) (v := ?v5xi) rfl (by kernel_rfl) (by kernel_rfl) (by kernel_rfl) (fun _ _ _ h => h) (Or.inl ⟨by rfl, ?hy5xi⟩) (by assumption) ?rest5xi
          case hy5xi => intro w hSw; (try dsimp only at hSw); go_simp; (first | (with_reducible rfl) | rfl | (split <;> first | rfl | (exfalso; omega)))
          try simp only [Act.put, List.getElem_toArray, List.getElem_cons_succ, List.getElem_cons_zero, List.setIfInBounds_toArray, List.set_cons_zero, List.set_cons_succ]
          refine wpAnyH_take (i := 6) (v := ?v6xi) rfl (by kernel_rfl) (by kernel_rfl) (by kernel_rfl) (fun _ _ _ h => h) (Or.inl ⟨by rfl, ?hy6xi⟩) (by assumption) ?rest6xi
          case hy6xi => intro w hSw; (try dsimp only at hSw); go_simp; (first | (with_reducible rfl) | rfl | (split <;> first | rfl | (exfalso; omega)))
          try simp only [Act.put, List.getElem_toArray, List.getElem_cons_succ, List.getElem_cons_zero, List.setIfInBounds_toArray, List.set_cons_zero, List.set_cons_succ]
          refine wpAnyH_take (i := 9) (v := ?v9xi) rfl (by kernel_rfl) (by kernel_rfl) (by kernel_rfl) (fun _ _ _ h => h) (Or.inl ⟨by rfl, ?hy9xi⟩) (by assumption) ?rest9xi
          case hy9xi => intro w hSw; (try dsimp only at hSw); go_simp; (first | (with_reducible rfl) | rfl | (split <;> first | rfl | (exfalso; omega)))
          try simp only [Act.put, List.getElem_toArray, List.getElem_cons_succ, List.getElem_cons_zero, List.setIfInBounds_toArray, List.set_cons_zero, List.set_cons_succ]
          refine wpAnyH_ready (rs := [12]) (by kernel_rfl) (by simp) ?_
          refine AllReadyH.cons rfl (fun K hK => ?_) AllReadyH.nil
          go_simp; (refine (HI2.out _).mono ?_); rintro e wB ⟨rfl, zB⟩; have sB := zB.size; have hbB := on hbA zB; have hSB := (⟨(zB.cell (p := ⟨w.heap.size, 0, none⟩) (by simp only []; omega)).trans hSA.1, (zB.cell (p := ⟨w.heap.size, 1, none⟩) (by simp only []; omega)).trans hSA.2.1, (zB.cell (p := ⟨w.heap.size, 2, none⟩) (by simp only []; omega)).trans hSA.2.2.1, (zB.cell (p := ⟨w.heap.size, 3, none⟩) (by simp only []; omega)).trans hSA.2.2.2⟩ : (fun W => W.cell? ⟨w.heap.size, 0, none⟩ = some (.string (bs ml)) ∧ W.cell? ⟨w.heap.size, 1, none⟩ = some (.int .i64 (d1 : Int)) ∧ W.cell? ⟨w.heap.size, 2, none⟩ = some (.string (bs nl)) ∧ W.cell? ⟨w.heap.size, 3, none⟩ = some (.int .i64 (d2 : Int))) wB)
          refine hK.out _ _ ?_ (fun hHeld => ?_)
          · exact hSB
          clear hK K
          try simp only [Act.put, List.setIfInBounds_toArray, List.set_cons_zero, List.set_cons_succ]
          refine wpAnyH_take (i := 13) (v := ?v13xi) rfl (by kernel_rfl) (by kernel_rfl) (by kernel_rfl) (fun _ _ _ h => h) (Or.inl ⟨by rfl, ?hy13xi⟩) (by assumption) ?rest13xi
          case hy13xi => intro w hSw; (try dsimp only at hSw); go_simp; (first | (with_reducible rfl) | rfl | (split <;> first | rfl | (exfalso; omega)))
          try simp only [Act.put, List.getElem_toArray, List.getElem_cons_succ, List.getElem_cons_zero, List.setIfInBounds_toArray, List.set_cons_zero, List.set_cons_succ]
          refine wpAnyH_take (i := 14) (v := ?v14_11) rfl (by kernel_rfl) (by kernel_rfl) (by kernel_rfl) (fun _ _ _ h => h) (Or.inl ⟨by rfl, ?hy14_11⟩) (by assumption) ?rest14_11
          case hy14_11 => intro w hSw; (try dsimp only at hSw); go_simp; (try with_reducible rfl)
          try simp only [Act.put, List.getElem_toArray, List.getElem_cons_succ, List.getElem_cons_zero, List.setIfInBounds_toArray, List.set_cons_zero, List.set_cons_succ]
          refine wpAnyH_done (by kernel_rfl) ?_ _
          refine NoPanic.normal ?_
          go_wp2_with fail
          go_ret
          refine ⟨?_, hbB⟩
          rw [hRR]
          rfl

set_option maxRecDepth 100000 in
set_option maxHeartbeats 2000000 in
theorem fmtIn_spec (cs : List Value) (x : DIn) (w : World) (h : rIn.rep w cs x) :
    Calls Tryd.prog 11 #[.agg cs.toArray] w fun e w' => e = .returned (.string (bs (fmtIn x))) ∧ Below w.heap.size w w' := by
  obtain ⟨rfl, hs0, hi1, hs2, hi3⟩ := rIn_open h
  obtain ⟨m1, c1, m2, c2⟩ := x
  simp only at hs0 hi1 hs2 hi3
  have HF : Hid (fmtIn (m1, c1, m2, c2) = if (nameB m1 && (nameB m2 && (betw c1 0 2 && betw c2 0 2))) then m1.data.toList ++ [chD c1] ++ [60] ++ m2.data.toList ++ [chD c2] else []) := rfl
  have H1 := Lib.hid (fun W => l4Name_any m1 W hs0)
  have H2 := Lib.hid (fun W => l4Name_any m2 W hs2)
  have H3 := Lib.hid (fun W => l1In_any c1 0 2 W)
  have H4 := Lib.hid (fun W => l1In_any c2 0 2 W)
  obtain ⟨b1, hb1⟩ : ∃ b, nameB m1 = b := ⟨_, rfl⟩
  obtain ⟨b2, hb2⟩ : ∃ b, nameB m2 = b := ⟨_, rfl⟩
  obtain ⟨b3, hb3⟩ : ∃ b, betw c1 0 2 = b := ⟨_, rfl⟩
  obtain ⟨b4, hb4⟩ : ∃ b, betw c2 0 2 = b := ⟨_, rfl⟩
  rw [hb1, hb2, hb3, hb4] at HF
  simp only [hb1] at H1
  simp only [hb2] at H2
  simp only [hb3] at H3
  simp only [hb4] at H4
  obtain ⟨R, hR⟩ : ∃ R, fmtIn (m1, c1, m2, c2) = R := ⟨_, rfl⟩
  rw [hR] at HF ⊢
  have HB1 := Lib.hid hb1
  have HB2 := Lib.hid hb2
  have HB3 := Lib.hid hb3
  have HB4 := Lib.hid hb4
  clear h hR hb1 hb2 hb3 hb4
  have hb0 : Below w.heap.size w w := Below.refl _ _
  go_enter Tryd.func11, Tryd.ntmps11
  obtain ⟨w1, hw1⟩ : ∃ W, W = w.alloc (.cells #[.string m1, .int .i64 c1, .string m2, .int .i64 c2] 26) := ⟨_, rfl⟩
  have z1 : Below w.heap.size w w1 := by rw [hw1]; exact (Below.refl _ _).alloc (Nat.le_refl _) _
  have s1 : w1.heap.size = w.heap.size + 1 := by rw [hw1]; simp
  have hb1 := on hb0 z1
  have x_0 : w1.cell? ⟨w.heap.size, 0, none⟩ = some (.string m1) := by rw [hw1]; exact box_cell (Below.refl _ _) rfl
  have x_1 : w1.cell? ⟨w.heap.size, 1, none⟩ = some (.int .i64 c1) := by rw [hw1]; exact box_cell (Below.refl _ _) rfl
  have x_2 : w1.cell? ⟨w.heap.size, 2, none⟩ = some (.string m2) := by rw [hw1]; exact box_cell (Below.refl _ _) rfl
  have x_3 : w1.cell? ⟨w.heap.size, 3, none⟩ = some (.int .i64 c2) := by rw [hw1]; exact box_cell (Below.refl _ _) rfl
  have raw1_x_0 := x_0
  have raw1_x_1 := x_1
  have raw1_x_2 := x_2
  have raw1_x_3 := x_3
  rw [hw1] at raw1_x_0 raw1_x_1 raw1_x_2 raw1_x_3
  go_wp2_with fail
  rw [← hw1]
  clear hw1
  clear raw1_x_0 raw1_x_1 raw1_x_2 raw1_x_3
  refine (H1.out _).mono ?_
  rintro e w' ⟨rfl, rfl⟩
  cases b1 with
  | false =>
    have HE : Hid (R = []) := Lib.hid (by rw [HF.out]; simp)
    go_wp2_with fail
    go_ret
    exact ⟨by rw [HE.out]; rfl, hb1⟩
  | true =>
    go_wp2_with fail
    refine (H2.out _).mono ?_
    rintro e w' ⟨rfl, rfl⟩
    cases b2 with
    | false =>
      have HE : Hid (R = []) := Lib.hid (by rw [HF.out]; simp)
      go_wp2_with fail
      go_ret
      exact ⟨by rw [HE.out]; rfl, hb1⟩
    | true =>
      go_wp2_with fail
      refine (H3.out _).mono ?_
      rintro e w' ⟨rfl, rfl⟩
      cases b3 with
      | false =>
        have HE : Hid (R = []) := Lib.hid (by rw [HF.out]; simp)
        go_wp2_with fail
        go_ret
        exact ⟨by rw [HE.out]; rfl, hb1⟩
      | true =>
        go_wp2_with fail
        refine (H4.out _).mono ?_
        rintro e w' ⟨rfl, rfl⟩
        cases b4 with
        | false =>
          have HE : Hid (R = []) := Lib.hid (by rw [HF.out]; simp)
          go_wp2_with fail
          go_ret
          exact ⟨by rw [HE.out]; rfl, hb1⟩
        | true =>
          have HE : Hid (R = m1.data.toList ++ [chD c1] ++ [60] ++ m2.data.toList ++ [chD c2]) := Lib.hid (by rw [HF.out]; rfl)
          obtain ⟨ml, rfl⟩ : ∃ ml, m1 = bs ml := ⟨_, (bs_of' m1).symm⟩
          obtain ⟨nl, rfl⟩ : ∃ nl, m2 = bs nl := ⟨_, (bs_of' m2).symm⟩
          have hl1 := name_len' HB1.out
          have hl2 := name_len' HB2.out
          have h3 := HB3.out
          have h4 := HB4.out
          simp only [betw, Bool.and_eq_true, decide_eq_true_eq] at h3 h4
          obtain ⟨d1, rfl⟩ := Int.eq_ofNat_of_zero_le h3.1
          obtain ⟨d2, rfl⟩ := Int.eq_ofNat_of_zero_le h4.1
          have HI1 := Lib.hid (fun W => fmtInt_dig d1 (by omega) W)
          have HI2 := Lib.hid (fun W => fmtInt_dig d2 (by omega) W)
          obtain ⟨q1, hq1⟩ : ∃ q, chD (d1 : Int) = q := ⟨_, rfl⟩
          obtain ⟨q2, hq2⟩ : ∃ q, chD (d2 : Int) = q := ⟨_, rfl⟩
          rw [hq1] at HI1 HE
          rw [hq2] at HI2 HE
          have hRR : bs R = ((((bs ml ++ bs [q1]) ++ ByteArray.mk #[60]) ++ bs nl) ++ bs [q2]) := by rw [HE.out, ← bs_app, ← bs_app, ← bs_app, ← bs_app]
          clear h3 h4 hq1 hq2 HF H1 H2 H3 H4 HB1 HB2 HB3 HB4
          go_wp2_with fail
          refine wp_region_noPanic ?_
          refine wp_region_held_drew (S := (fun W => W.cell? ⟨w.heap.size, 0, none⟩ = some (.string (bs ml)) ∧ W.cell? ⟨w.heap.size, 1, none⟩ = some (.int .i64 (d1 : Int)) ∧ W.cell? ⟨w.heap.size, 2, none⟩ = some (.string (bs nl)) ∧ W.cell? ⟨w.heap.size, 3, none⟩ = some (.int .i64 (d2 : Int)))) (by kernel_rfl) ?hS2 (fun hHeld => ?_)
          case hS2 => exact ⟨x_0, x_1, x_2, x_3⟩
          refine wpAnyH_take (i := 0) (v := ?v0_3) rfl (by kernel_rfl) (by kernel_rfl) (by kernel_rfl) (fun _ _ _ h => h) (Or.inl ⟨by rfl, ?hy0_3⟩) (by assumption) ?rest0_3
          case hy0_3 => intro w hSw; (try dsimp only at hSw); go_simp; (try with_reducible rfl)
          try simp only [Act.put, List.getElem_toArray, List.getElem_cons_succ, List.getElem_cons_zero, List.setIfInBounds_toArray, List.set_cons_zero, List.set_cons_succ]
          refine wpAnyH_take (i := 1) (v := ?v1_4) rfl (by kernel_rfl) (by kernel_rfl) (by kernel_rfl) (fun _ _ _ h => h) (Or.inl ⟨by rfl, ?hy1_4⟩) (by assumption) ?rest1_4
          case hy1_4 => intro w hSw; (try dsimp only at hSw); go_simp; (try with_reducible rfl)
          try simp only [Act.put, List.getElem_toArray, List.getElem_cons_succ, List.getElem_cons_zero, List.setIfInBounds_toArray, List.set_cons_zero, List.set_cons_succ]
          refine wpAnyH_take (i := 2) (v := ?v2_5) rfl (by kernel_rfl) (by kernel_rfl) (by kernel_rfl) (fun _ _ _ h => h) (Or.inl ⟨by rfl, ?hy2_5⟩) (by assumption) ?rest2_5
          case hy2_5 => intro w hSw; (try dsimp only at hSw); go_simp; (try with_reducible rfl)
          try simp only [Act.put, List.getElem_toArray, List.getElem_cons_succ, List.getElem_cons_zero, List.setIfInBounds_toArray, List.set_cons_zero, List.set_cons_succ]
          refine wpAnyH_take (i := 3) (v := ?v3_6) rfl (by kernel_rfl) (by kernel_rfl) (by kernel_rfl) (fun _ _ _ h => h) (Or.inl ⟨by rfl, ?hy3_6⟩) (by assumption) ?rest3_6
          case hy3_6 => intro w hSw; (try dsimp only at hSw); go_simp; (try with_reducible rfl)
          try simp only [Act.put, List.getElem_toArray, List.getElem_cons_succ, List.getElem_cons_zero, List.setIfInBounds_toArray, List.set_cons_zero, List.set_cons_succ]
          refine wpAnyH_take (i := 7) (v := ?v7_7) rfl (by kernel_rfl) (by kernel_rfl) (by kernel_rfl) (fun _ _ _ h => h) (Or.inl ⟨by rfl, ?hy7_7⟩) (by assumption) ?rest7_7
          case hy7_7 => intro w hSw; (try dsimp only at hSw); go_simp; (try with_reducible rfl)
          try simp only [Act.put, List.getElem_toArray, List.getElem_cons_succ, List.getElem_cons_zero, List.setIfInBounds_toArray, List.set_cons_zero, List.set_cons_succ]
          refine wpAnyH_take (i := 8) (v := ?v8_8) rfl (by kernel_rfl) (by kernel_rfl) (by kernel_rfl) (fun _ _ _ h => h) (Or.inl ⟨by rfl, ?hy8_8⟩) (by assumption) ?rest8_8
          case hy8_8 => intro w hSw; (try dsimp only at hSw); go_simp; (try with_reducible rfl)
          try simp only [Act.put, List.getElem_toArray, List.getElem_cons_succ, List.getElem_cons_zero, List.setIfInBounds_toArray, List.set_cons_zero, List.set_cons_succ]
          refine wpAnyH_take (i := 10) (v := ?v10_9) rfl (by kernel_rfl) (by kernel_rfl) (by kernel_rfl) (fun _ _ _ h => h) (Or.inl ⟨by rfl, ?hy10_9⟩) (by assumption) ?rest10_9
          case hy10_9 => intro w hSw; (try dsimp only at hSw); go_simp; (try with_reducible rfl)
          try simp only [Act.put, List.getElem_toArray, List.getElem_cons_succ, List.getElem_cons_zero, List.setIfInBounds_toArray, List.set_cons_zero, List.set_cons_succ]
          refine wpAnyH_take (i := 11) (v := ?v11_10) rfl (by kernel_rfl) (by kernel_rfl) (by kernel_rfl) (fun _ _ _ h => h) (Or.inl ⟨by rfl, ?hy11_10⟩) (by assumption) ?rest11_10
          case hy11_10 => intro w hSw; (try dsimp only at hSw); go_simp; (try with_reducible rfl)
          try simp only [Act.put, List.getElem_toArray, List.getElem_cons_succ, List.getElem_cons_zero, List.setIfInBounds_toArray, List.set_cons_zero, List.set_cons_succ]
          refine wpAnyH_ready (rs := [4]) (by kernel_rfl) (by simp) ?_
          refine AllReadyH.cons rfl (fun K hK => ?_) AllReadyH.nil
          go_simp; (refine (HI1.out _).mono ?_); rintro e wA ⟨rfl, zA⟩; replace zA : Below w1.heap.size w1 wA := on (Below.refl _ _).drew zA; have sA := zA.size; have hbA := on hb1 zA; have hSA := (⟨(zA.cell (p := ⟨w.heap.size, 0, none⟩) (by simp only []; omega)).trans x_0, (zA.cell (p := ⟨w.heap.size, 1, none⟩) (by simp only []; omega)).trans x_1, (zA.cell (p := ⟨w.heap.size, 2, none⟩) (by simp only []; omega)).trans x_2, (zA.cell (p := ⟨w.heap.size, 3, none⟩) (by simp only []; omega)).trans x_3⟩ : (fun W => W.cell? ⟨w.heap.size, 0, none⟩ = some (.string (bs ml)) ∧ W.cell? ⟨w.heap.size, 1, none⟩ = some (.int .i64 (d1 : Int)) ∧ W.cell? ⟨w.heap.size, 2, none⟩ = some (.string (bs nl)) ∧ W.cell? ⟨w.heap.size, 3, none⟩ = some (.int .i64 (d2 : Int))) wA)
          refine hK.out _ _ ?_ (fun hHeld => ?_)
          · exact hSA
          clear hK K
          try simp only [Act.put, List.setIfInBounds_toArray, List.set_cons_zero, List.set_cons_succ]
          refine wpAnyH_take (i := 5) (v := ?v5xs) rfl (by kernel_rfl) (by kernel_rfl) (by kernel_rfl) (fun _ _ _ h => h) (Or.inl ⟨by rfl, ?hy5xs⟩) (by assumption) ?rest5xs
          case hy5xs => intro w hSw; (try dsimp only at hSw); go_simp; (first | (with_reducible rfl) | rfl | (split <;> first | rfl | (exfalso; omega)))
          try simp only [Act.put, List.getElem_toArray, List.getElem_cons_succ, List.getElem_cons_zero, List.setIfInBounds_toArray, List.set_cons_zero, List.set_cons_succ]
          refine wpAnyH_take (i := 6) (v := ?v6xs) rfl (by kernel_rfl) (by kernel_rfl) (by kernel_rfl) (fun _ _ _ h => h) (Or.inl ⟨by rfl, ?hy6xs⟩) (by assumption) ?rest6xs
          case hy6xs => intro w hSw; (try dsimp only at hSw); go_simp; (first | (with_reducible rfl) | rfl | (split <;> first | rfl | (exfalso; omega)))
          try simp only [Act.put, List.getElem_toArray, List.getElem_cons_succ, List.getElem_cons_zero, List.setIfInBounds_toArray, List.set_cons_zero, List.set_cons_succ]
          refine wpAnyH_take (i := 9) (v := ?v9xs) rfl (by kernel_rfl) (by kernel_rfl) (by kernel_rfl) (fun _ _ _ h => h) (Or.inl ⟨by rfl, ?hy9xs⟩) (by assumption) ?rest9xs
          case hy9xs => intro w hSw; (try dsimp only at hSw); go_simp; (first | (with_reducible rfl) | rfl | (split <;> first | rfl | (exfalso; omega)))
          try simp only [Act.put, List.getElem_toArray, List.getElem_cons_succ, List.getElem_cons_zero, List.setIfInBounds_toArray, List.set_cons_zero, List.set_cons_succ]
          refine wpAnyH_ready (rs := [12]) (by kernel_rfl) (by simp) ?_
          refine AllReadyH.cons rfl (fun K hK => ?_) AllReadyH.nil
          go_simp; (refine (HI2.out _).mono ?_); rintro e wB ⟨rfl, zB⟩; have sB := zB.size; have hbB := on hbA zB; have hSB := (⟨(zB.cell (p := ⟨w.heap.size, 0, none⟩) (by simp only []; omega)).trans hSA.1, (zB.cell (p := ⟨w.heap.size, 1, none⟩) (by simp only []; omega)).trans hSA.2.1, (zB.cell (p := ⟨w.heap.size, 2, none⟩) (by simp only []; omega)).trans hSA.2.2.1, (zB.cell (p := ⟨w.heap.size, 3, none⟩) (by simp only []; omega)).trans hSA.2.2.2⟩ : (fun W => W.cell? ⟨w.heap.size, 0, none⟩ = some (.string (bs ml)) ∧ W.cell? ⟨w.heap.size, 1, none⟩ = some (.int .i64 (d1 : Int)) ∧ W.cell? ⟨w.heap.size, 2, none⟩ = some (.string (bs nl)) ∧ W.cell? ⟨w.heap.size, 3, none⟩ = some (.int .i64 (d2 : Int))) wB)
          refine hK.out _ _ ?_ (fun hHeld => ?_)
          · exact hSB
          clear hK K
          try simp only [Act.put, List.setIfInBounds_toArray, List.set_cons_zero, List.set_cons_succ]
          refine wpAnyH_take (i := 13) (v := ?v13xs) rfl (by kernel_rfl) (by kernel_rfl) (by kernel_rfl) (fun _ _ _ h => h) (Or.inl ⟨by rfl, ?hy13xs⟩) (by assumption) ?rest13xs
          case hy13xs => intro w hSw; (try dsimp only at hSw); go_simp; (first | (with_reducible rfl) | rfl | (split <;> first | rfl | (exfalso; omega)))
          try simp only [Act.put, List.getElem_toArray, List.getElem_cons_succ, List.getElem_cons_zero, List.setIfInBounds_toArray, List.set_cons_zero, List.set_cons_succ]
          refine wpAnyH_take (i := 14) (v := ?v14_11) rfl (by kernel_rfl) (by kernel_rfl) (by kernel_rfl) (fun _ _ _ h => h) (Or.inl ⟨by rfl, ?hy14_11⟩) (by assumption) ?rest14_11
          case hy14_11 => intro w hSw; (try dsimp only at hSw); go_simp; (try with_reducible rfl)
          try simp only [Act.put, List.getElem_toArray, List.getElem_cons_succ, List.getElem_cons_zero, List.setIfInBounds_toArray, List.set_cons_zero, List.set_cons_succ]
          refine wpAnyH_done (by kernel_rfl) ?_ _
          refine NoPanic.normal ?_
          go_wp2_with fail
          go_ret
          refine ⟨?_, hbB⟩
          rw [hRR]
          rfl

end Go.Proofs.YtigcagplbihenaaDoor

/- Contracts: inclusions out of texts, both ways. Written by a program. -/
namespace Go.Proofs.YtigcagplbihenaaDoor
open Go.RowKit
set_option linter.unusedVariables false
set_option linter.unusedSimpArgs false
set_option synthInstance.maxSize 2000
set_option synthInstance.maxHeartbeats 400000

/-- The inclusion that a text of five bytes would say. -/
def rawIn (b0 b1 b3 b4 : UInt8) : DIn := (bs [b0], (b1.toNat : Int) - 48, bs [b3], (b4.toNat : Int) - 48)
def parInL (l : List UInt8) : Option DIn :=
  match l with
  | [b0, b1, _, b3, b4] => if fmtIn (rawIn b0 b1 b3 b4) = l then some (rawIn b0 b1 b3 b4) else none
  | _ => none
def parIn (s : ByteArray) : Option DIn := parInL s.data.toList
def zeroIn : DIn := (ByteArray.mk #[], 0, ByteArray.mk #[], 0)
theorem list5 {l : List UInt8} (h : l.length = 5) : ∃ a b c d e, l = [a, b, c, d, e] := by
  match l, h with
  | [a, b, c, d, e], _ => exact ⟨a, b, c, d, e, rfl⟩
theorem parIn_short {s : ByteArray} (h : ¬ s.size = 5) : parIn s = none := by
  unfold parIn parInL
  split
  · rename_i e
    exfalso; apply h
    have : s.data.toList.length = 5 := by rw [e]; rfl
    simpa using this
  · rfl
def cellsIn (x : DIn) : Array Value := #[.string x.1, .int .i64 x.2.1, .string x.2.2.1, .int .i64 x.2.2.2]
theorem byte_wrap (b : UInt8) : wrap64 (wrap64 (b.toNat : Int) - 48) = (b.toNat : Int) - 48 := by
  have h := b.toNat_lt
  unfold wrap64
  omega
theorem rawIn_rep (w : World) (b0 b1 b3 b4 : UInt8) : rIn.rep w (cellsIn (rawIn b0 b1 b3 b4)).toList (rawIn b0 b1 b3 b4) := by
  have h1 := b1.toNat_lt
  have h4 := b4.toNat_lt
  exact rIn_mk (x := rawIn b0 b1 b3 b4) (by simp [rawIn, bs_size]) (show I64 ((b1.toNat : Int) - 48) by unfold I64; omega) (by simp [rawIn, bs_size]) (show I64 ((b4.toNat : Int) - 48) by unfold I64; omega)

set_option maxRecDepth 100000 in
set_option maxHeartbeats 2000000 in
theorem parIn_spec (s : ByteArray) (w : World) (hs : s.size ≤ 1048576) :
    Calls Tryd.prog 14 #[.string s] w fun e w' => e = .returned (.tuple #[.agg (cellsIn ((parIn s).getD zeroIn)), .bool (parIn s).isSome]) ∧ Below w.heap.size w w' := by
  by_cases h5 : s.size = 5
  · obtain ⟨b0, b1, b2, b3, b4, hl⟩ := list5 (l := s.data.toList) (by simpa using h5)
    have HP : Hid (parIn s = if fmtIn (rawIn b0 b1 b3 b4) = [b0, b1, b2, b3, b4] then some (rawIn b0 b1 b3 b4) else none) := Lib.hid (by unfold parIn; rw [hl]; rfl)
    obtain ⟨P, hP⟩ : ∃ P, parIn s = P := ⟨_, rfl⟩
    rw [hP] at HP ⊢
    obtain rfl : s = ByteArray.mk #[b0, b1, b2, b3, b4] := by rw [← bs_of' s, hl]
    clear h5 hl hP hs
    have HF : Hid (∀ W, Calls Tryd.prog 11 #[.agg #[.string (bs [b0]), .int .i64 ((b1.toNat : Int) - 48), .string (bs [b3]), .int .i64 ((b4.toNat : Int) - 48)]] W fun e w' => e = .returned (.string (bs (fmtIn (rawIn b0 b1 b3 b4)))) ∧ Below W.heap.size W w') := Lib.hid (fun W => fmtIn_spec _ _ W (rawIn_rep W b0 b1 b3 b4))
    go_enter Tryd.func14, Tryd.ntmps14
    go_wp2_with fail
    go_region
    have e1 : (ByteArray.mk #[b0, b1, b2, b3, b4]).extract 0 1 = bs [b0] := rfl
    have e3 : (ByteArray.mk #[b0, b1, b2, b3, b4]).extract 3 4 = bs [b3] := rfl
    have n1 : (ByteArray.mk #[b0, b1, b2, b3, b4])[1]'(show 1 < 5 by omega) = b1 := rfl
    have n4 : (ByteArray.mk #[b0, b1, b2, b3, b4])[4]'(show 4 < 5 by omega) = b4 := rfl
    simp only [e1, e3, n1, n4, byte_wrap]
    clear e1 e3 n1 n4
    obtain ⟨F, hF⟩ : ∃ F, fmtIn (rawIn b0 b1 b3 b4) = F := ⟨_, rfl⟩
    simp only [hF] at HF HP
    clear hF
    obtain ⟨wb, hwb⟩ : ∃ W, W = (w.alloc (.cells #[.string (ByteArray.mk #[]), .int .i64 0, .string (ByteArray.mk #[]), .int .i64 0] 26)) := ⟨_, rfl⟩
    have sb : wb.heap.size = w.heap.size + 1 := by rw [hwb]; simp
    have hbb : Below w.heap.size w wb := by rw [hwb]; exact (Below.refl _ _).alloc (Nat.le_refl _) _
    rw [← hwb]
    obtain ⟨w1, hw1⟩ : ∃ W, W = (wb.alloc (.cells #[.string (bs [b0]), .int .i64 ((b1.toNat : Int) - 48), .string (bs [b3]), .int .i64 ((b4.toNat : Int) - 48)] 26)).drew := ⟨_, rfl⟩
    rw [← hw1]
    have s1 : w1.heap.size = w.heap.size + 1 + 1 := by rw [hw1]; simp [sb]
    have hb1 : Below w.heap.size w w1 := by rw [hw1]; exact (hbb.alloc (by omega) _).drew
    have r_0 : w1.cell? ⟨w.heap.size, 0, none⟩ = some (.string (ByteArray.mk #[])) := by rw [hw1, hwb]; simp [go_sem]
    have r_1 : w1.cell? ⟨w.heap.size, 1, none⟩ = some (.int .i64 0) := by rw [hw1, hwb]; simp [go_sem]
    have r_2 : w1.cell? ⟨w.heap.size, 2, none⟩ = some (.string (ByteArray.mk #[])) := by rw [hw1, hwb]; simp [go_sem]
    have r_3 : w1.cell? ⟨w.heap.size, 3, none⟩ = some (.int .i64 0) := by rw [hw1, hwb]; simp [go_sem]
    have x_0 : w1.cell? ⟨w.heap.size + 1, 0, none⟩ = some (.string (bs [b0])) := by rw [hw1, ← sb]; simp [go_sem]
    have x_1 : w1.cell? ⟨w.heap.size + 1, 1, none⟩ = some (.int .i64 ((b1.toNat : Int) - 48)) := by rw [hw1, ← sb]; simp [go_sem]
    have x_2 : w1.cell? ⟨w.heap.size + 1, 2, none⟩ = some (.string (bs [b3])) := by rw [hw1, ← sb]; simp [go_sem]
    have x_3 : w1.cell? ⟨w.heap.size + 1, 3, none⟩ = some (.int .i64 ((b4.toNat : Int) - 48)) := by rw [hw1, ← sb]; simp [go_sem]
    have f_0 : w1.frozen? ⟨w.heap.size, 0, none⟩ = false := by rw [hw1, hwb]; simp [go_sem]
    have f_1 : w1.frozen? ⟨w.heap.size, 1, none⟩ = false := by rw [hw1, hwb]; simp [go_sem]
    have f_2 : w1.frozen? ⟨w.heap.size, 2, none⟩ = false := by rw [hw1, hwb]; simp [go_sem]
    have f_3 : w1.frozen? ⟨w.heap.size, 3, none⟩ = false := by rw [hw1, hwb]; simp [go_sem]
    clear hw1 hwb hbb sb
    go_wp2_with fail
    refine (HF.out _).mono ?_
    rintro e w2 ⟨rfl, z2⟩
    have s2 := z2.size
    have hb2 := on hb1 z2
    replace r_0 := (z2.cell (p := ⟨w.heap.size, 0, none⟩) (by simp only []; omega)).trans r_0
    replace r_1 := (z2.cell (p := ⟨w.heap.size, 1, none⟩) (by simp only []; omega)).trans r_1
    replace r_2 := (z2.cell (p := ⟨w.heap.size, 2, none⟩) (by simp only []; omega)).trans r_2
    replace r_3 := (z2.cell (p := ⟨w.heap.size, 3, none⟩) (by simp only []; omega)).trans r_3
    replace f_0 := (z2.frozen (p := ⟨w.heap.size, 0, none⟩) (by simp only []; omega)).trans f_0
    replace f_1 := (z2.frozen (p := ⟨w.heap.size, 1, none⟩) (by simp only []; omega)).trans f_1
    replace f_2 := (z2.frozen (p := ⟨w.heap.size, 2, none⟩) (by simp only []; omega)).trans f_2
    replace f_3 := (z2.frozen (p := ⟨w.heap.size, 3, none⟩) (by simp only []; omega)).trans f_3
    replace x_0 := (z2.cell (p := ⟨w.heap.size + 1, 0, none⟩) (by simp only []; omega)).trans x_0
    replace x_1 := (z2.cell (p := ⟨w.heap.size + 1, 1, none⟩) (by simp only []; omega)).trans x_1
    replace x_2 := (z2.cell (p := ⟨w.heap.size + 1, 2, none⟩) (by simp only []; omega)).trans x_2
    replace x_3 := (z2.cell (p := ⟨w.heap.size + 1, 3, none⟩) (by simp only []; omega)).trans x_3
    by_cases hq : F = [b0, b1, b2, b3, b4]
    · obtain rfl : P = some (rawIn b0 b1 b3 b4) := by rw [HP.out, if_pos hq]
      subst hq
      have hB : bs [b0, b1, b2, b3, b4] = ByteArray.mk #[b0, b1, b2, b3, b4] := rfl
      rw [hB]
      have hq0 : ((ByteArray.mk #[b0, b1, b2, b3, b4]).toList == (ByteArray.mk #[b0, b1, b2, b3, b4]).toList) = true := by simp
      clear HF HP hB
      go_wp2_with fail
      refine bodyPost_ret (v := .tuple #[.agg (cellsIn (rawIn b0 b1 b3 b4)), .bool true]) (by simp [results, Tryd.results14, go_sem, cellsIn, rawIn, r_0, r_1, r_2, r_3, f_0, f_1, f_2, f_3]) rfl ⟨rfl, ?_⟩
      repeat (refine Below.setCell ?_ (by simp only []; omega) _)
      exact hb2
    · obtain rfl : P = none := by rw [HP.out, if_neg hq]
      have hne : (F == [b0, b1, b2, b3, b4]) = false := by rw [beq_eq_false_iff_ne]; exact hq
      clear HF HP hq
      go_wp2_with fail
      refine bodyPost_ret (v := .tuple #[.agg (cellsIn zeroIn), .bool false]) (by simp [results, Tryd.results14, go_sem, cellsIn, zeroIn, r_0, r_1, r_2, r_3, f_0, f_1, f_2, f_3]) rfl ⟨rfl, ?_⟩
      repeat (refine Below.setCell ?_ (by simp only []; omega) _)
      exact hb2
  · rw [parIn_short h5]
    go_enter Tryd.func14, Tryd.ntmps14
    go_wp2_with fail

    refine bodyPost_ret (v := .tuple #[.agg (cellsIn zeroIn), .bool false]) (by simp [results, Tryd.results14, go_sem, cellsIn, zeroIn]) rfl ⟨rfl, ?_⟩
    repeat (refine Below.setCell ?_ (by simp only []; omega) _)
    exact (Below.refl _ _).alloc (Nat.le_refl _) _

set_option maxRecDepth 100000 in
set_option maxHeartbeats 2000000 in
theorem parIn_impl (s : ByteArray) (w : World) (hs : s.size ≤ 1048576) :
    Calls Tryd.prog 15 #[.string s] w fun e w' => e = .returned (.tuple #[.agg (cellsIn ((parIn s).getD zeroIn)), .bool (parIn s).isSome]) ∧ Below w.heap.size w w' := by
  by_cases h5 : s.size = 5
  · obtain ⟨b0, b1, b2, b3, b4, hl⟩ := list5 (l := s.data.toList) (by simpa using h5)
    have HP : Hid (parIn s = if fmtIn (rawIn b0 b1 b3 b4) = [b0, b1, b2, b3, b4] then some (rawIn b0 b1 b3 b4) else none) := Lib.hid (by unfold parIn; rw [hl]; rfl)
    obtain ⟨P, hP⟩ : ∃ P, parIn s = P := ⟨_, rfl⟩
    rw [hP] at HP ⊢
    obtain rfl : s = ByteArray.mk #[b0, b1, b2, b3, b4] := by rw [← bs_of' s, hl]
    clear h5 hl hP hs
    have HF : Hid (∀ W, Calls Tryd.prog 13 #[.agg #[.string (bs [b0]), .int .i64 ((b1.toNat : Int) - 48), .string (bs [b3]), .int .i64 ((b4.toNat : Int) - 48)]] W fun e w' => e = .returned (.string (bs (fmtIn (rawIn b0 b1 b3 b4)))) ∧ Below W.heap.size W w') := Lib.hid (fun W => fmtIn_impl _ _ W (rawIn_rep W b0 b1 b3 b4))
    go_enter Tryd.func15, Tryd.ntmps15
    go_wp2_with fail
    go_region
    have e1 : (ByteArray.mk #[b0, b1, b2, b3, b4]).extract 0 1 = bs [b0] := rfl
    have e3 : (ByteArray.mk #[b0, b1, b2, b3, b4]).extract 3 4 = bs [b3] := rfl
    have n1 : (ByteArray.mk #[b0, b1, b2, b3, b4])[1]'(show 1 < 5 by omega) = b1 := rfl
    have n4 : (ByteArray.mk #[b0, b1, b2, b3, b4])[4]'(show 4 < 5 by omega) = b4 := rfl
    simp only [e1, e3, n1, n4, byte_wrap]
    clear e1 e3 n1 n4
    obtain ⟨F, hF⟩ : ∃ F, fmtIn (rawIn b0 b1 b3 b4) = F := ⟨_, rfl⟩
    simp only [hF] at HF HP
    clear hF
    obtain ⟨wb, hwb⟩ : ∃ W, W = (w.alloc (.cells #[.string (ByteArray.mk #[]), .int .i64 0, .string (ByteArray.mk #[]), .int .i64 0] 26)) := ⟨_, rfl⟩
    have sb : wb.heap.size = w.heap.size + 1 := by rw [hwb]; simp
    have hbb : Below w.heap.size w wb := by rw [hwb]; exact (Below.refl _ _).alloc (Nat.le_refl _) _
    rw [← hwb]
    obtain ⟨w1, hw1⟩ : ∃ W, W = (wb.alloc (.cells #[.string (bs [b0]), .int .i64 ((b1.toNat : Int) - 48), .string (bs [b3]), .int .i64 ((b4.toNat : Int) - 48)] 26)).drew := ⟨_, rfl⟩
    rw [← hw1]
    have s1 : w1.heap.size = w.heap.size + 1 + 1 := by rw [hw1]; simp [sb]
    have hb1 : Below w.heap.size w w1 := by rw [hw1]; exact (hbb.alloc (by omega) _).drew
    have r_0 : w1.cell? ⟨w.heap.size, 0, none⟩ = some (.string (ByteArray.mk #[])) := by rw [hw1, hwb]; simp [go_sem]
    have r_1 : w1.cell? ⟨w.heap.size, 1, none⟩ = some (.int .i64 0) := by rw [hw1, hwb]; simp [go_sem]
    have r_2 : w1.cell? ⟨w.heap.size, 2, none⟩ = some (.string (ByteArray.mk #[])) := by rw [hw1, hwb]; simp [go_sem]
    have r_3 : w1.cell? ⟨w.heap.size, 3, none⟩ = some (.int .i64 0) := by rw [hw1, hwb]; simp [go_sem]
    have x_0 : w1.cell? ⟨w.heap.size + 1, 0, none⟩ = some (.string (bs [b0])) := by rw [hw1, ← sb]; simp [go_sem]
    have x_1 : w1.cell? ⟨w.heap.size + 1, 1, none⟩ = some (.int .i64 ((b1.toNat : Int) - 48)) := by rw [hw1, ← sb]; simp [go_sem]
    have x_2 : w1.cell? ⟨w.heap.size + 1, 2, none⟩ = some (.string (bs [b3])) := by rw [hw1, ← sb]; simp [go_sem]
    have x_3 : w1.cell? ⟨w.heap.size + 1, 3, none⟩ = some (.int .i64 ((b4.toNat : Int) - 48)) := by rw [hw1, ← sb]; simp [go_sem]
    have f_0 : w1.frozen? ⟨w.heap.size, 0, none⟩ = false := by rw [hw1, hwb]; simp [go_sem]
    have f_1 : w1.frozen? ⟨w.heap.size, 1, none⟩ = false := by rw [hw1, hwb]; simp [go_sem]
    have f_2 : w1.frozen? ⟨w.heap.size, 2, none⟩ = false := by rw [hw1, hwb]; simp [go_sem]
    have f_3 : w1.frozen? ⟨w.heap.size, 3, none⟩ = false := by rw [hw1, hwb]; simp [go_sem]
    clear hw1 hwb hbb sb
    go_wp2_with fail
    refine (HF.out _).mono ?_
    rintro e w2 ⟨rfl, z2⟩
    have s2 := z2.size
    have hb2 := on hb1 z2
    replace r_0 := (z2.cell (p := ⟨w.heap.size, 0, none⟩) (by simp only []; omega)).trans r_0
    replace r_1 := (z2.cell (p := ⟨w.heap.size, 1, none⟩) (by simp only []; omega)).trans r_1
    replace r_2 := (z2.cell (p := ⟨w.heap.size, 2, none⟩) (by simp only []; omega)).trans r_2
    replace r_3 := (z2.cell (p := ⟨w.heap.size, 3, none⟩) (by simp only []; omega)).trans r_3
    replace f_0 := (z2.frozen (p := ⟨w.heap.size, 0, none⟩) (by simp only []; omega)).trans f_0
    replace f_1 := (z2.frozen (p := ⟨w.heap.size, 1, none⟩) (by simp only []; omega)).trans f_1
    replace f_2 := (z2.frozen (p := ⟨w.heap.size, 2, none⟩) (by simp only []; omega)).trans f_2
    replace f_3 := (z2.frozen (p := ⟨w.heap.size, 3, none⟩) (by simp only []; omega)).trans f_3
    replace x_0 := (z2.cell (p := ⟨w.heap.size + 1, 0, none⟩) (by simp only []; omega)).trans x_0
    replace x_1 := (z2.cell (p := ⟨w.heap.size + 1, 1, none⟩) (by simp only []; omega)).trans x_1
    replace x_2 := (z2.cell (p := ⟨w.heap.size + 1, 2, none⟩) (by simp only []; omega)).trans x_2
    replace x_3 := (z2.cell (p := ⟨w.heap.size + 1, 3, none⟩) (by simp only []; omega)).trans x_3
    by_cases hq : F = [b0, b1, b2, b3, b4]
    · obtain rfl : P = some (rawIn b0 b1 b3 b4) := by rw [HP.out, if_pos hq]
      subst hq
      have hB : bs [b0, b1, b2, b3, b4] = ByteArray.mk #[b0, b1, b2, b3, b4] := rfl
      rw [hB]
      have hq0 : ((ByteArray.mk #[b0, b1, b2, b3, b4]).toList == (ByteArray.mk #[b0, b1, b2, b3, b4]).toList) = true := by simp
      clear HF HP hB
      go_wp2_with fail
      refine bodyPost_ret (v := .tuple #[.agg (cellsIn (rawIn b0 b1 b3 b4)), .bool true]) (by simp [results, Tryd.results15, go_sem, cellsIn, rawIn, r_0, r_1, r_2, r_3, f_0, f_1, f_2, f_3]) rfl ⟨rfl, ?_⟩
      repeat (refine Below.setCell ?_ (by simp only []; omega) _)
      exact hb2
    · obtain rfl : P = none := by rw [HP.out, if_neg hq]
      have hne : (F == [b0, b1, b2, b3, b4]) = false := by rw [beq_eq_false_iff_ne]; exact hq
      clear HF HP hq
      go_wp2_with fail
      refine bodyPost_ret (v := .tuple #[.agg (cellsIn zeroIn), .bool false]) (by simp [results, Tryd.results15, go_sem, cellsIn, zeroIn, r_0, r_1, r_2, r_3, f_0, f_1, f_2, f_3]) rfl ⟨rfl, ?_⟩
      repeat (refine Below.setCell ?_ (by simp only []; omega) _)
      exact hb2
  · rw [parIn_short h5]
    go_enter Tryd.func15, Tryd.ntmps15
    go_wp2_with fail

    refine bodyPost_ret (v := .tuple #[.agg (cellsIn zeroIn), .bool false]) (by simp [results, Tryd.results15, go_sem, cellsIn, zeroIn]) rfl ⟨rfl, ?_⟩
    repeat (refine Below.setCell ?_ (by simp only []; omega) _)
    exact (Below.refl _ _).alloc (Nat.le_refl _) _

theorem parI_rep (s : ByteArray) (w : World) : rIn.rep w [.string ((parIn s).getD zeroIn).1, .int .i64 ((parIn s).getD zeroIn).2.1, .string ((parIn s).getD zeroIn).2.2.1, .int .i64 ((parIn s).getD zeroIn).2.2.2] ((parIn s).getD zeroIn) := by
  unfold parIn parInL
  split
  · split
    · exact rawIn_rep w _ _ _ _
    · exact rIn_mk (x := zeroIn) (by decide) (show I64 0 by unfold I64; omega) (by decide) (show I64 0 by unfold I64; omega)
  · exact rIn_mk (x := zeroIn) (by decide) (show I64 0 by unfold I64; omega) (by decide) (show I64 0 by unfold I64; omega)
theorem parI_spec (s : ByteArray) (w : World) (hs : s.size ≤ 1048576) :
    Calls Tryd.prog 14 #[.string s] w fun e w' => e = .returned (.tuple #[.agg #[.string ((parIn s).getD zeroIn).1, .int .i64 ((parIn s).getD zeroIn).2.1, .string ((parIn s).getD zeroIn).2.2.1, .int .i64 ((parIn s).getD zeroIn).2.2.2], .bool (parIn s).isSome]) ∧ Below w.heap.size w w' := parIn_spec s w hs
theorem parI_impl (s : ByteArray) (w : World) (hs : s.size ≤ 1048576) :
    Calls Tryd.prog 15 #[.string s] w fun e w' => e = .returned (.tuple #[.agg #[.string ((parIn s).getD zeroIn).1, .int .i64 ((parIn s).getD zeroIn).2.1, .string ((parIn s).getD zeroIn).2.2.1, .int .i64 ((parIn s).getD zeroIn).2.2.2], .bool (parIn s).isSome]) ∧ Below w.heap.size w w' := parIn_impl s w hs

end Go.Proofs.YtigcagplbihenaaDoor

/- The walk of the law ParseInclusion. Written by a program. -/
namespace Go.Proofs.YtigcagplbihenaaDoor
open Go.RowKit
set_option linter.unusedVariables false
set_option linter.unusedSimpArgs false
set_option synthInstance.maxSize 2000
set_option synthInstance.maxHeartbeats 400000

set_option maxHeartbeats 4000000 in
set_option maxRecDepth 100000 in
theorem walk_FnExactParseInclusion (v0 : Value) (w : World) (h0 : str_in w v0) :
    Calls Tryd.prog 4 #[v0] w fun e w' => e = .returned (.bool true) ∧ Below w.heap.size w w' := by
  obtain ⟨x0, rfl, h0⟩ := h0
  have hb0 : Below w.heap.size w w := Below.refl _ _
  rcases Nat.lt_or_ge 1048576 x0.size with g0 | g0
  · skip
    go_enter Tryd.func4, Tryd.ntmps4
    go_wp2
    go_ret
    exact ⟨rfl, Below.refl _ _⟩
  go_enter Tryd.func4, Tryd.ntmps4
  go_wp2_with fail
  refine (parI_spec x0 _ (by omega)).mono ?_
  rintro e w1 ⟨rfl, z1⟩
  have s1 := z1.size
  have hb1 := on hb0 z1
  obtain ⟨w2, hw2⟩ : ∃ W, W = w1.alloc (.cells #[.string ((parIn x0).getD zeroIn).1, .int .i64 ((parIn x0).getD zeroIn).2.1, .string ((parIn x0).getD zeroIn).2.2.1, .int .i64 ((parIn x0).getD zeroIn).2.2.2] 26) := ⟨_, rfl⟩
  have z2 : Below w1.heap.size w1 w2 := by rw [hw2]; exact (Below.refl _ _).alloc (Nat.le_refl _) _
  have s2 : w2.heap.size = w1.heap.size + 1 := by rw [hw2]; simp
  have hb2 := on hb1 z2
  have bW0_0 : w2.cell? ⟨w1.heap.size, 0, none⟩ = some (.string ((parIn x0).getD zeroIn).1) := by rw [hw2]; exact box_cell (Below.refl _ _) rfl
  have bW0_1 : w2.cell? ⟨w1.heap.size, 1, none⟩ = some (.int .i64 ((parIn x0).getD zeroIn).2.1) := by rw [hw2]; exact box_cell (Below.refl _ _) rfl
  have bW0_2 : w2.cell? ⟨w1.heap.size, 2, none⟩ = some (.string ((parIn x0).getD zeroIn).2.2.1) := by rw [hw2]; exact box_cell (Below.refl _ _) rfl
  have bW0_3 : w2.cell? ⟨w1.heap.size, 3, none⟩ = some (.int .i64 ((parIn x0).getD zeroIn).2.2.2) := by rw [hw2]; exact box_cell (Below.refl _ _) rfl
  have raw_bW0_0 := bW0_0
  rw [hw2] at raw_bW0_0
  have raw_bW0_1 := bW0_1
  rw [hw2] at raw_bW0_1
  have raw_bW0_2 := bW0_2
  rw [hw2] at raw_bW0_2
  have raw_bW0_3 := bW0_3
  rw [hw2] at raw_bW0_3
  go_wp2_with fail
  rw [← hw2]
  clear hw2
  clear raw_bW0_0 raw_bW0_1 raw_bW0_2 raw_bW0_3
  refine (parI_impl x0 _ (by omega)).mono ?_
  rintro e w3 ⟨rfl, z3⟩
  have s3 := z3.size
  have hb3 := on hb2 z3
  replace bW0_0 := (z3.cell (p := ⟨w1.heap.size, 0, none⟩) (by simp only []; omega)).trans bW0_0
  replace bW0_1 := (z3.cell (p := ⟨w1.heap.size, 1, none⟩) (by simp only []; omega)).trans bW0_1
  replace bW0_2 := (z3.cell (p := ⟨w1.heap.size, 2, none⟩) (by simp only []; omega)).trans bW0_2
  replace bW0_3 := (z3.cell (p := ⟨w1.heap.size, 3, none⟩) (by simp only []; omega)).trans bW0_3
  obtain ⟨w4, hw4⟩ : ∃ W, W = w3.alloc (.cells #[.string ((parIn x0).getD zeroIn).1, .int .i64 ((parIn x0).getD zeroIn).2.1, .string ((parIn x0).getD zeroIn).2.2.1, .int .i64 ((parIn x0).getD zeroIn).2.2.2] 26) := ⟨_, rfl⟩
  have z4 : Below w3.heap.size w3 w4 := by rw [hw4]; exact (Below.refl _ _).alloc (Nat.le_refl _) _
  have s4 : w4.heap.size = w3.heap.size + 1 := by rw [hw4]; simp
  have hb4 := on hb3 z4
  replace bW0_0 := (z4.cell (p := ⟨w1.heap.size, 0, none⟩) (by simp only []; omega)).trans bW0_0
  replace bW0_1 := (z4.cell (p := ⟨w1.heap.size, 1, none⟩) (by simp only []; omega)).trans bW0_1
  replace bW0_2 := (z4.cell (p := ⟨w1.heap.size, 2, none⟩) (by simp only []; omega)).trans bW0_2
  replace bW0_3 := (z4.cell (p := ⟨w1.heap.size, 3, none⟩) (by simp only []; omega)).trans bW0_3
  have bG0_0 : w4.cell? ⟨w3.heap.size, 0, none⟩ = some (.string ((parIn x0).getD zeroIn).1) := by rw [hw4]; exact box_cell (Below.refl _ _) rfl
  have bG0_1 : w4.cell? ⟨w3.heap.size, 1, none⟩ = some (.int .i64 ((parIn x0).getD zeroIn).2.1) := by rw [hw4]; exact box_cell (Below.refl _ _) rfl
  have bG0_2 : w4.cell? ⟨w3.heap.size, 2, none⟩ = some (.string ((parIn x0).getD zeroIn).2.2.1) := by rw [hw4]; exact box_cell (Below.refl _ _) rfl
  have bG0_3 : w4.cell? ⟨w3.heap.size, 3, none⟩ = some (.int .i64 ((parIn x0).getD zeroIn).2.2.2) := by rw [hw4]; exact box_cell (Below.refl _ _) rfl
  have raw_bW0_0 := bW0_0
  rw [hw4] at raw_bW0_0
  have raw_bW0_1 := bW0_1
  rw [hw4] at raw_bW0_1
  have raw_bW0_2 := bW0_2
  rw [hw4] at raw_bW0_2
  have raw_bW0_3 := bW0_3
  rw [hw4] at raw_bW0_3
  have raw_bG0_0 := bG0_0
  rw [hw4] at raw_bG0_0
  have raw_bG0_1 := bG0_1
  rw [hw4] at raw_bG0_1
  have raw_bG0_2 := bG0_2
  rw [hw4] at raw_bG0_2
  have raw_bG0_3 := bG0_3
  rw [hw4] at raw_bG0_3
  go_wp2_with fail
  rw [← hw4]
  clear hw4
  clear raw_bW0_0 raw_bW0_1 raw_bW0_2 raw_bW0_3 raw_bG0_0 raw_bG0_1 raw_bG0_2 raw_bG0_3
  refine (eq_In _ _ _ _ _ (parI_rep x0 _) (parI_rep x0 _)).mono ?_
  rintro e w5 ⟨rfl, z5⟩
  have s5 := z5.size
  have hb5 := on hb4 z5
  replace bW0_0 := (z5.cell (p := ⟨w1.heap.size, 0, none⟩) (by simp only []; omega)).trans bW0_0
  replace bW0_1 := (z5.cell (p := ⟨w1.heap.size, 1, none⟩) (by simp only []; omega)).trans bW0_1
  replace bW0_2 := (z5.cell (p := ⟨w1.heap.size, 2, none⟩) (by simp only []; omega)).trans bW0_2
  replace bW0_3 := (z5.cell (p := ⟨w1.heap.size, 3, none⟩) (by simp only []; omega)).trans bW0_3
  replace bG0_0 := (z5.cell (p := ⟨w3.heap.size, 0, none⟩) (by simp only []; omega)).trans bG0_0
  replace bG0_1 := (z5.cell (p := ⟨w3.heap.size, 1, none⟩) (by simp only []; omega)).trans bG0_1
  replace bG0_2 := (z5.cell (p := ⟨w3.heap.size, 2, none⟩) (by simp only []; omega)).trans bG0_2
  replace bG0_3 := (z5.cell (p := ⟨w3.heap.size, 3, none⟩) (by simp only []; omega)).trans bG0_3
  go_wp2_with fail
  go_ret
  exact ⟨rfl, hb5⟩

end Go.Proofs.YtigcagplbihenaaDoor
