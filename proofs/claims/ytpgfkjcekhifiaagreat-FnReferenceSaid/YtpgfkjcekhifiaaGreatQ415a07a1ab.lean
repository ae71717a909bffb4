/- Texts joined for one claim: Text, Cut. -/
import Derived.Test.YtpgfkjcekhifiaaGreatQ22cca73baf
import Derived.Test.YtpgfkjcekhifiaaGreatQ94813783a4
import Derived.Test.YtpgfkjcekhifiaaGreatQ07b6f18217
import Derived.Laws.IdiomStrings

namespace Go.Proofs.YtpgfkjcekhifiaaGreat

open Go.RowKit

set_option linter.unusedVariables false

set_option linter.unusedSimpArgs false

abbrev bs (l : List UInt8) : ByteArray := ⟨l.toArray⟩

theorem bs_size (l : List UInt8) : (bs l).size = l.length := by simp [bs, ByteArray.size]

theorem bs_app (l m : List UInt8) : bs l ++ bs m = bs (l ++ m) := by
  apply ByteArray.ext
  simp [bs]

def chV (v : Int) : List UInt8 := if v = 0 then [88] else if v = 1 then [89] else if v = 2 then [90] else if v = 3 then [85] else []

theorem chV_no {v : Int} (h : betw v 0 3 = false) : chV v = [] := by
  simp only [betw, Bool.and_eq_false_iff, decide_eq_false_iff_not] at h
  unfold chV
  rw [if_neg (by omega), if_neg (by omega), if_neg (by omega), if_neg (by omega)]

theorem chV_len (v : Int) : (chV v).length ≤ 1 := by
  unfold chV
  split
  · simp
  · split
    · simp
    · split
      · simp
      · split <;> simp

def namesOf (vs : List Int) : List UInt8 := vs.flatMap chV

theorem namesOf_len (vs : List Int) : (namesOf vs).length ≤ vs.length := by
  induction vs with
  | nil => simp [namesOf]
  | cons v t ih =>
    have := chV_len v
    simp only [namesOf, List.flatMap_cons, List.length_append, List.length_cons] at ih ⊢
    omega

theorem namesOf_snoc {vs : List Int} {j : Nat} {v : Int} (hj : j < vs.length) (hv : vs.getD j 0 = v) : namesOf (vs.take (j + 1)) = namesOf (vs.take j) ++ chV v := by
  rw [take_snoc vs j hj, hv]; simp [namesOf]

theorem varName_impl (v : Int) (w : World) :
    Calls Tryz.prog 70 #[.int .i64 v] w fun e w' => e = .returned (.string (bs (chV v))) ∧ w = w' := by
  have hin := within_any v 0 3 w
  obtain ⟨b, hb⟩ : ∃ b, betw v 0 3 = b := ⟨_, rfl⟩
  rw [hb] at hin
  have HIN := Lib.hid hin
  clear hin
  cases b with
  | false =>
    have HE := Lib.hid (chV_no hb)
    clear hb
    go_enter Tryz.func70, Tryz.ntmps70
    go_wp2_with fail
    refine HIN.out.mono ?_
    rintro e w' ⟨rfl, rfl⟩
    go_wp2_with fail
    go_ret
    exact ⟨by rw [HE.out]; rfl, rfl⟩
  | true =>
    simp only [betw, Bool.and_eq_true, decide_eq_true_eq] at hb
    rcases (by omega : v = 0 ∨ v = 1 ∨ v = 2 ∨ v = 3) with rfl | rfl | rfl | rfl
    all_goals
      go_enter Tryz.func70, Tryz.ntmps70
      go_wp2_with fail
      refine HIN.out.mono ?_
      rintro e w' ⟨rfl, rfl⟩
      go_wp2_with fail
      go_ret
      exact ⟨by rfl, rfl⟩

theorem varName_spec (v : Int) (w : World) :
    Calls Tryz.prog 74 #[.int .i64 v] w fun e w' => e = .returned (.string (bs (chV v))) ∧ w = w' := by
  have hin := l1In_any v 0 3 w
  obtain ⟨b, hb⟩ : ∃ b, betw v 0 3 = b := ⟨_, rfl⟩
  rw [hb] at hin
  have HIN := Lib.hid hin
  clear hin
  cases b with
  | false =>
    have HE := Lib.hid (chV_no hb)
    clear hb
    go_enter Tryz.func74, Tryz.ntmps74
    go_wp2_with fail
    refine HIN.out.mono ?_
    rintro e w' ⟨rfl, rfl⟩
    go_wp2_with fail
    go_ret
    exact ⟨by rw [HE.out]; rfl, rfl⟩
  | true =>
    simp only [betw, Bool.and_eq_true, decide_eq_true_eq] at hb
    rcases (by omega : v = 0 ∨ v = 1 ∨ v = 2 ∨ v = 3) with rfl | rfl | rfl | rfl
    all_goals
      go_enter Tryz.func74, Tryz.ntmps74
      go_wp2_with fail
      refine HIN.out.mono ?_
      rintro e w' ⟨rfl, rfl⟩
      go_wp2_with fail
      go_ret
      exact ⟨by rfl, rfl⟩

theorem names_impl (v : Value) (vs : List Int) (w : World) (h : rI.rep w [v] vs) (hn : vs.length ≤ 1048576) :
    Calls Tryz.prog 37 #[v] w fun e w' => e = .returned (.string (bs (namesOf vs))) ∧ w = w' := by
  obtain ⟨b, n, c, hv⟩ := rI_form h
  simp at hv
  subst hv
  have iv := rI_ints h
  have hl := iv.len
  clear h
  go_enter Tryz.func37, Tryz.ntmps37
  go_wp2_with fail
  go_loopw [3, 8] (fun s k wr => ∃ j : Nat, j ≤ n ∧ k = .int .i64 j ∧ s = .string (bs (namesOf (vs.take j))) ∧ w = wr) (fun _ k _ => n - (intOf k).toNat)
  case atStart => exact ⟨0, Nat.zero_le _, rfl, rfl, rfl⟩
  case round =>
    obtain ⟨j, hj, rfl, rfl, rfl⟩ := hrel
    by_cases hlt : j < n
    · obtain ⟨b0, o0, x, rfl, hc, hx, hx1, hx2⟩ := iv.get hlt
      have HS := Lib.hid (namesOf_snoc (show j < vs.length by omega) hx.out)
      have HV := Lib.hid (varName_impl x w)
      have hz : ¬ 9223372036854775807 < (bs (namesOf (vs.take j))).size + (bs (chV x)).size := by
        rw [bs_size, bs_size]
        have h1 := namesOf_len (vs.take j)
        have h2 := chV_len x
        have h3 := List.length_take_le j vs
        omega
      clear iv hx
      go_wp2_with fail
      refine HV.out.mono ?_
      rintro e w' ⟨rfl, rfl⟩
      go_wp2_with fail
      go_roundw
      case rel => exact ⟨j + 1, by omega, by go_num, by rw [HS.out, ← bs_app], trivial⟩
      case measure => simp [intOf]; omega
    · have hjn : j = n := by omega
      have HE : Hid (namesOf (vs.take j) = namesOf vs) := Lib.hid (by rw [List.take_of_length_le (by omega)])
      go_wp2_with fail
      go_ret
      exact ⟨by rw [← HE.out]; rfl, rfl⟩

theorem names_spec (v : Value) (vs : List Int) (w : World) (h : rI.rep w [v] vs) (hn : vs.length ≤ 1048576) :
    Calls Tryz.prog 40 #[v] w fun e w' => e = .returned (.string (bs (namesOf vs))) ∧ w = w' := by
  obtain ⟨b, n, c, hv⟩ := rI_form h
  simp at hv
  subst hv
  have iv := rI_ints h
  have hl := iv.len
  clear h
  go_enter Tryz.func40, Tryz.ntmps40
  go_wp2_with fail
  go_loopw [3, 4] (fun s k wr => ∃ j : Nat, j ≤ n ∧ k = .int .i64 j ∧ s = .string (bs (namesOf (vs.take j))) ∧ w = wr) (fun _ k _ => n - (intOf k).toNat)
  case atStart => exact ⟨0, Nat.zero_le _, rfl, rfl, rfl⟩
  case round =>
    obtain ⟨j, hj, rfl, rfl, rfl⟩ := hrel
    by_cases hlt : j < n
    · obtain ⟨b0, o0, x, rfl, hc, hx, hx1, hx2⟩ := iv.get hlt
      have HS := Lib.hid (namesOf_snoc (show j < vs.length by omega) hx.out)
      have HV := Lib.hid (varName_spec x w)
      have hz : ¬ 9223372036854775807 < (bs (namesOf (vs.take j))).size + (bs (chV x)).size := by
        rw [bs_size, bs_size]
        have h1 := namesOf_len (vs.take j)
        have h2 := chV_len x
        have h3 := List.length_take_le j vs
        omega
      clear iv hx
      go_wp2_with fail
      refine HV.out.mono ?_
      rintro e w' ⟨rfl, rfl⟩
      go_wp2_with fail
      go_roundw
      case rel => exact ⟨j + 1, by omega, by go_num, by rw [HS.out, ← bs_app], trivial⟩
      case measure => simp [intOf]; omega
    · have hjn : j = n := by omega
      have HE : Hid (namesOf (vs.take j) = namesOf vs) := Lib.hid (by rw [List.take_of_length_le (by omega)])
      go_wp2_with fail
      go_ret
      exact ⟨by rw [← HE.out]; rfl, rfl⟩


def chD (d : Int) : UInt8 := UInt8.ofNat (48 + d.toNat)

theorem chD_nat {d : Nat} (h : d ≤ 9) : ((chD (d : Int)).toNat : Int) = 48 + (d : Int) := by
  rw [chD, Int.toNat_natCast, UInt8.toNat_ofNat', Nat.mod_eq_of_lt (by omega)]; omega

def digsOf (row : List Int) : List UInt8 := row.map chD

theorem digsOf_len (row : List Int) : (digsOf row).length = row.length := by simp [digsOf]

theorem digsOf_snoc {row : List Int} {j : Nat} {v : Int} (hj : j < row.length) (hv : row.getD j 0 = v) : digsOf (row.take (j + 1)) = digsOf (row.take j) ++ [chD v] := by
  rw [take_snoc row j hj, hv]; simp [digsOf]

set_option maxRecDepth 100000 in
theorem fmtInt_dig (d : Nat) (hd : d ≤ 9) (w : World) :
    Calls Tryz.prog 75 #[.int .i64 (d : Int)] w fun e w' => e = .returned (.string (bs [chD (d : Int)])) ∧ Below w.heap.size w w' := by
  rcases Nat.eq_zero_or_pos d with rfl | hpos
  · go_enter Tryz.func75, Tryz.ntmps75
    go_wp2_with fail
    go_ret
    exact ⟨by rfl, Below.refl _ _⟩
  · have hc2 := chD_nat hd
    obtain ⟨c, hcc⟩ : ∃ c, chD (d : Int) = c := ⟨_, rfl⟩
    rw [hcc] at hc2 ⊢
    have hne : ((d : Int) == 0) = false := by rw [beq_eq_false_iff_ne]; omega
    have hbn : ((d : Int) != 0) = true := by rw [bne_iff_ne]; omega
    have hm : (d : Int) % 10 = (d : Int) := by omega
    have hq : (d : Int) / 10 = 0 := by omega
    have hcv := run_convert_bytes_back (P := Tryz.prog) (w.alloc (.cells #[Value.int .u8 (48 + (d : Int))] 5)) 22 9 5 ⟨w.heap.size, 0, none⟩ 1 [c] Tryz.underlying22 Tryz.underlying5 Tryz.underlying9 (fun j hj => by
        obtain rfl : j = 0 := by simp at hj; exact hj
        rw [add_zero_addr, box_cell (i := 0) (Below.refl _ _) rfl, ← hc2]; rfl)
    simp only [List.length_cons, List.length_nil, Nat.zero_add] at hcv
    have hz1 : ¬ 9223372036854775807 < (bs [c]).size + (ByteArray.mk #[]).size := by rw [bs_size]; simp [ByteArray.size]
    clear hcc hc2
    go_enter Tryz.func75, Tryz.ntmps75
    go_wp2_with fail
    go_loopw [0, 3] (fun q s wr => (q = .int .i64 (d : Int) ∧ s = .string ⟨#[]⟩ ∧ w = wr) ∨ (q = .int .i64 0 ∧ s = .string (bs [c]) ∧ Below w.heap.size w wr)) (fun q _ _ => (intOf q).toNat)
    case atStart => exact .inl ⟨rfl, rfl, rfl⟩
    case round =>
      rcases hrel with ⟨rfl, rfl, rfl⟩ | ⟨rfl, rfl, hB⟩
      · go_wp2_with fail
        go_roundw
        case rel => exact .inr ⟨rfl, by show Value.string _ = Value.string _; congr 1, (Below.refl _ _).alloc (Nat.le_refl _) _⟩
        case measure => simp [intOf]; omega
      · clear hcv
        go_wp2_with fail
        go_ret
        exact ⟨by rfl, hB⟩

set_option maxHeartbeats 1000000 in
theorem l4Digits_any (v : Value) (row : List Int) (w : World) (h : rI.rep w [v] row) (hn : row.length ≤ 1048576) (hr : ∀ x ∈ row, 0 ≤ x ∧ x ≤ 9) :
    Calls Tryz.prog 41 #[v] w fun e w' => e = .returned (.string (bs (digsOf row))) ∧ Below w.heap.size w w' := by
  obtain ⟨b, n, c, hv⟩ := rI_form h
  simp at hv
  subst hv
  have iv := rI_ints h
  have hl := iv.len
  have HR := Lib.hid hr
  clear h hr
  have hb0 : Below w.heap.size w w := Below.refl _ _
  go_enter Tryz.func41, Tryz.ntmps41
  go_wp2_with fail
  go_loopw [3, 4] (fun s k wr => ∃ j : Nat, j ≤ n ∧ k = .int .i64 j ∧ s = .string (bs (digsOf (row.take j))) ∧ Below w.heap.size w wr) (fun _ k _ => n - (intOf k).toNat)
  case atStart => exact ⟨0, Nat.zero_le _, rfl, rfl, Below.refl _ _⟩
  case round =>
    obtain ⟨j, hj, rfl, rfl, hdr⟩ := hrel
    have s1 := hdr.size
    have hb1 := on hb0 hdr
    by_cases hlt : j < n
    · obtain ⟨b0, o0, x, rfl, hc, hx, hx1, hx2⟩ := iv.get hlt
      have hxr := HR.out x (by
        rw [← hx.out, List.getD_eq_getElem?_getD, List.getElem?_eq_getElem (by omega)]; exact List.getElem_mem _)
      obtain ⟨d, rfl⟩ := Int.eq_ofNat_of_zero_le hxr.1
      have HS := Lib.hid (digsOf_snoc (show j < row.length by omega) hx.out)
      have hc0 : wr.cell? ⟨b0, o0 + j, none⟩ = some (.int .i64 (d : Int)) := ((hb1).cell (p := ⟨b0, o0 + j, none⟩) (cell_lt hc)).trans hc
      have HF := Lib.hid (fmtInt_dig d (by omega) wr)
      have hz : ¬ 9223372036854775807 < (bs (digsOf (row.take j))).size + (bs [chD (d : Int)]).size := by
        rw [bs_size, bs_size, digsOf_len]
        have h3 := List.length_take_le j row
        simp
        omega
      clear iv hx hc hxr
      go_wp2_with fail
      refine HF.out.mono ?_
      rintro e w5 ⟨rfl, z5⟩
      have s2 := z5.size
      have hb2 := on hb1 z5
      go_wp2_with fail
      go_roundw
      case rel => exact ⟨j + 1, by omega, by go_num, by rw [HS.out, ← bs_app], hb2⟩
      case measure => simp [intOf]; omega
    · have HE : Hid (digsOf (row.take j) = digsOf row) := Lib.hid (by rw [List.take_of_length_le (by omega)])
      go_wp2_with fail
      go_ret
      exact ⟨by rw [← HE.out]; rfl, hb1⟩

def O.u8 : OS UInt8 := ⟨1, fun _ cs x fp => cs = [.int .u8 (x.toNat : Int)] ∧ fp = [], fun h => by rw [h.1]; rfl, fun h _ => h, fun h k hk => by rw [h.2] at hk; cases hk⟩

theorem infoU8 : (Tryz.prog.info? 5).map (fun i => (i.zero, i.size, i.bytes)) = some (some (.int .u8 0), 1, 1) := by kernel_rfl

theorem bytes_back {lo S hi : Nat} {w : World} {a : Option Addr} {n c : Nat} {l : List UInt8} (h : Acc 5 O.u8 lo S hi w (.slice a n c) l) : (convert 22 9 (.slice a n c)).run Tryz.prog w = .ok (.string (bs l)) w := by
  obtain ⟨fp, ⟨v1, css, fps, hv, _, h1, h2⟩, _⟩ := h
  simp at hv
  subst hv
  obtain ⟨a', cap', he, hn, hb⟩ := own_form h1
  simp at he
  obtain ⟨rfl, rfl, rfl⟩ := he
  rcases h1.2 with ⟨h3, h4⟩ | ⟨g, cap, cur, h3, _⟩
  · simp at h3
    obtain ⟨rfl, h5, rfl⟩ := h3
    subst h5
    simp only [List.length_nil]
    rw [run_convert_bytes_string (P := Tryz.prog) w 22 9 5 none 0 0 Tryz.underlying22 Tryz.underlying5 Tryz.underlying9]
    rfl
  · simp at h3
    obtain ⟨rfl, rfl⟩ := h3
    refine run_convert_bytes_back (P := Tryz.prog) w 22 9 5 ⟨g, 0, none⟩ _ l Tryz.underlying22 Tryz.underlying5 Tryz.underlying9 (fun j hj => ?_)
    obtain ⟨cj, f, hc, hf, hr⟩ := O.u8.rows_get h2 j _ (List.getElem?_eq_getElem hj)
    obtain ⟨rfl, _⟩ := hr
    have h9 := flatten_get O.u8 h2 j 0 _ _ hc (show [Value.int .u8 (l[j].toNat : Int)][0]? = some _ from rfl)
    have e : j * O.u8.size + 0 = j := by show j * 1 + 0 = j; omega
    rw [e] at h9
    obtain ⟨g2, hg2, hcell⟩ := own_cell h1 j _ h9
    simp at hg2
    subst hg2
    rw [add_zero_addr]
    exact hcell

set_option maxHeartbeats 1000000 in
theorem digitsText_any (v : Value) (row : List Int) (w : World) (h : rI.rep w [v] row) (hn : row.length ≤ 1048576) (hr : ∀ x ∈ row, 0 ≤ x ∧ x ≤ 9) :
    Calls Tryz.prog 71 #[v] w fun e w' => e = .returned (.string (bs (digsOf row))) ∧ Below w.heap.size w w' := by
  obtain ⟨b, n, c, hv⟩ := rI_form h
  simp at hv
  subst hv
  have iv := rI_ints h
  have hl := iv.len
  have HR := Lib.hid hr
  clear h hr
  have hb0 : Below w.heap.size w w := Below.refl _ _
  go_enter Tryz.func71, Tryz.ntmps71
  obtain ⟨w1, hw1⟩ : ∃ W, W = w.alloc (.cells #[] 5) := ⟨_, rfl⟩
  have z1 : Below w.heap.size w w1 := by rw [hw1]; exact (Below.refl _ _).alloc (Nat.le_refl _) _
  have s1 : w1.heap.size = w.heap.size + 1 := by rw [hw1]; simp
  have hb1 := on hb0 z1
  have he : ∀ S, Acc 5 O.u8 w.heap.size S w1.heap.size w1 (.slice (some ⟨w.heap.size, 0, none⟩) 0 0) [] := fun S => by rw [hw1]; exact Acc.empty (by omega) (by first | (simp; done) | (simp; omega))
  go_wp2_with fail
  rw [← hw1]
  clear hw1
  go_loopw [3, 9] (fun v k wr => ∃ j : Nat, j ≤ n ∧ k = .int .i64 j ∧ Acc 5 O.u8 w.heap.size w1.heap.size wr.heap.size wr v (digsOf (row.take j)) ∧ Turn w.heap.size (w.heap.size + 1) w1 wr) (fun _ k _ => n - (intOf k).toNat)
  case atStart => exact ⟨0, Nat.zero_le _, rfl, (he _).wide (Nat.le_refl _) (by omega), turn_refl _ _ _⟩
  case round =>
    obtain ⟨j, hj, rfl, hacc, hdr⟩ := hrel
    have hlc := hdr
    clear he
    have s2 := hdr.size
    have hb2 := hb1.trans ((hdr.below (by omega)).mono (by omega))
    by_cases hlt : j < n
    · obtain ⟨b0, o0, x, rfl, hc, hx, hx1, hx2⟩ := iv.get hlt
      have hxr := HR.out x (by
        rw [← hx.out, List.getD_eq_getElem?_getD, List.getElem?_eq_getElem (by omega)]; exact List.getElem_mem _)
      obtain ⟨d, rfl⟩ := Int.eq_ofNat_of_zero_le hxr.1
      have HS := Lib.hid (digsOf_snoc (show j < row.length by omega) hx.out)
      have hc0 : wr.cell? ⟨b0, o0 + j, none⟩ = some (.int .i64 (d : Int)) := ((hb2).cell (p := ⟨b0, o0 + j, none⟩) (cell_lt hc)).trans hc
      have hd9 : d ≤ 9 := by omega
      have hch := chD_nat hd9
      have hdl := digsOf_len (row.take j)
      have h3 := List.length_take_le j row
      obtain ⟨va, vn, vc, rfl⟩ := hacc.form3
      obtain ⟨v', wN, hrun, haccN, htN, hsN, _⟩ := run_acc Tryz.underlying22 infoU8 rfl (by decide) (by decide) rfl (lo := w.heap.size) (W0 := w1) 22 _ _ [.int .u8 (48 + (d : Int))] (chD (d : Int)) hacc (show Own O.u8 wr.heap.size wr.heap.size wr [.int .u8 (48 + (d : Int))] (chD (d : Int)) from ⟨[], ⟨by rw [hch], rfl⟩, by simp, by simp⟩) (by intro z hz; simp at hz; subst hz; rfl) (by omega) (Nat.le_refl _) (Nat.le_refl _) (Nat.le_refl _) hlc rfl (.inl rfl) (by omega) (by omega) rfl
      obtain ⟨va2, vn2, vc2, rfl⟩ := haccN.form3
      have HC9 := Lib.hid haccN
      have HT9 := Lib.hid htN
      clear hacc hlc haccN htN hc hx hxr iv hch
      go_wp2_with ((at_builtin; refine wpList_app_run hrun rfl rfl rfl rfl rfl ?_))
      go_roundw
      case rel => exact ⟨j + 1, by omega, by go_num, by rw [HS.out]; exact HC9.out, HT9.out⟩
      case measure => simp [intOf]; omega
    · have HE : Hid (digsOf (row.take j) = digsOf row) := Lib.hid (by rw [List.take_of_length_le (by omega)])
      obtain ⟨va, vn, vc, rfl⟩ := hacc.form3
      have hcv := bytes_back hacc
      rw [HE.out] at hcv
      clear hacc
      go_wp2_with fail
      go_ret
      exact ⟨by rfl, hb2⟩

end Go.Proofs.YtpgfkjcekhifiaaGreat

namespace Go.Proofs.YtpgfkjcekhifiaaGreat

open Go.RowKit

set_option linter.unusedVariables false

set_option linter.unusedSimpArgs false

set_option synthInstance.maxSize 2000

set_option synthInstance.maxHeartbeats 400000

def cutL : List UInt8 → List (List UInt8)
  | [] => [[]]
  | c :: t => if c = 32 then [] :: cutL t else match cutL t with
    | h :: r => (c :: h) :: r
    | [] => [[c]]

theorem cut_end : ∀ {l : List UInt8}, (∀ k : Nat, l[k]? ≠ some 32) → cutL l = [l]
  | [], _ => rfl
  | c :: t, h => by
    have h0 : c ≠ 32 := fun e => h 0 (by simp [e])
    have ih := cut_end (l := t) (fun k => by have := h (k + 1); simpa using this)
    rw [show cutL (c :: t) = (if c = 32 then [] :: cutL t else match cutL t with | h :: r => (c :: h) :: r | [] => [[c]]) from rfl, if_neg h0, ih]

theorem cut_at : ∀ {l : List UInt8} {j : Nat}, (∀ k : Nat, k < j → l[k]? ≠ some 32) → l[j]? = some 32 → cutL l = l.take j :: cutL (l.drop (j + 1))
  | [], _, _, h => by simp at h
  | c :: t, 0, _, h => by
    simp at h
    subst h
    simp [cutL]
  | c :: t, j + 1, hn, h => by
    have h0 : c ≠ 32 := fun e => hn 0 (by omega) (by simp [e])
    have ih := cut_at (l := t) (j := j) (fun k hk => by have := hn (k + 1) (by omega); simpa using this) (by simpa using h)
    rw [show cutL (c :: t) = (if c = 32 then [] :: cutL t else match cutL t with | h :: r => (c :: h) :: r | [] => [[c]]) from rfl, if_neg h0, ih]
    rfl

def oStr : OS (List ByteArray) := O.slice 9 O.str

theorem infoStr9 : (Tryz.prog.info? 9).map (fun i => (i.zero, i.size, i.bytes)) = some (some (.string ⟨#[]⟩), 1, 16) := by kernel_rfl

theorem own_strapp {lo hi : Nat} {W W1 : World} {v : Value} {ys : List ByteArray} {r : ByteArray} (ty : TypeId) (h : Own oStr lo hi W [v] ys) (hr : r.size ≤ 9223372036854775807) (hh2 : hi ≤ W.heap.size) (hlo : lo ≤ hi) (hn : ys.length ≤ 10000000) (hW1 : W1 = W.alloc (.cells #[.string r] 9)) :
    ∃ a n c w', (Builtin.append_ #[92, 92] ty #[v, .slice (some ⟨W.heap.size, 0, none⟩) 1 1]).run Tryz.prog W1 = .ok (.slice a n c) w' ∧ Own oStr lo w'.heap.size w' [.slice a n c] (ys ++ [r]) ∧ Below lo W w' ∧ W.heap.size < w'.heap.size := by
  obtain ⟨fu, a2, a4, a9⟩ := h
  obtain ⟨a, n, c, w', fu', hrun, c1, c2, c3, c4, ⟨c5, c6, c7⟩, c8⟩ := run_app_fp (W := W) (W1 := W1) Tryz.underlying92 infoStr9 rfl (by decide) (by decide) rfl ty v ys [.string r] r fu [] a2 a4 (o' := O.str) ⟨rfl, hr, rfl⟩ (by simp) (fun k hk => by cases hk) (by intro z hz; simp at hz; subst hz; rfl) (by omega) hW1
  refine ⟨a, n, c, w', hrun, ⟨fu', c1, c2, fun k hk => ?_⟩, ⟨c5, c6, c7, by omega, fun k hk => c8 k (by omega) (fun hk2 => by have := a9 k hk2; omega)⟩, c4⟩
  rcases c3 k hk with h9 | h9 | h9
  · have := a9 k h9; omega
  · cases h9
  · omega

theorem own_emptyStr {W : World} : Own oStr W.heap.size (W.heap.size + 1) (W.alloc (.cells #[] 9)) [.slice (some ⟨W.heap.size, 0, none⟩) 0 0] [] := own_empty_S (Nat.le_refl _)

theorem ext_list (s : ByteArray) (i j : Nat) : (s.extract i j).data.toList = (s.data.toList.drop i).take (j - i) := by
  have e : (s.extract i j).data = s.data.extract i j := by simp
  rw [e, Array.toList_extract]
  first | done | rfl | simp [List.extract]

theorem ext_size (s : ByteArray) (i j : Nat) : (s.extract i j).size ≤ s.size := by
  have h : (s.extract i j).data.toList.length = (s.extract i j).size := by rw [Array.length_toList]; rfl
  have h2 : s.data.toList.length = s.size := by simp
  rw [← h, ← h2, ext_list]
  simp only [List.length_take, List.length_drop]
  omega

set_option maxRecDepth 100000 in
set_option maxHeartbeats 2000000 in
theorem l4Cut_any (s : ByteArray) (w : World) (hs : s.size ≤ 1048576) :
    Calls Tryz.prog 104 #[.string s, .int .u8 32] w fun e w' => ∃ b n c ws, e = .returned (.slice b n c) ∧ Own oStr w.heap.size w'.heap.size w' [.slice b n c] ws ∧ ws.map (fun x => x.data.toList) = cutL s.data.toList ∧ Below w.heap.size w w' := by
  have hl : s.data.toList.length = s.size := by simp
  go_enter Tryz.func104, Tryz.ntmps104
  have o0 := own_emptyStr (W := w)
  obtain ⟨w1, hw1⟩ : ∃ W, W = w.alloc (.cells #[] 9) := ⟨_, rfl⟩
  have z1 : Below w.heap.size w w1 := by rw [hw1]; exact (Below.refl _ _).alloc (Nat.le_refl _) _
  have s1 : w1.heap.size = w.heap.size + 1 := by rw [hw1]; simp
  rw [← hw1] at o0
  go_wp2_with fail
  rw [← hw1]
  clear hw1
  go_loopw [5, 6, 7] (fun v f k wr => ∃ (j fr n c : Nat) (b : Option Addr) (ws : List ByteArray), j ≤ s.size ∧ fr ≤ j ∧ k = .int .i64 (j : Int) ∧ f = .int .i64 (fr : Int) ∧ v = .slice b n c ∧ Own oStr w.heap.size wr.heap.size wr [.slice b n c] ws ∧ ws.length ≤ j ∧ Hid (cutL s.data.toList = ws.map (fun x => x.data.toList) ++ cutL (s.data.toList.drop fr)) ∧ Hid (∀ k, k < j - fr → (s.data.toList.drop fr)[k]? ≠ some 32) ∧ Below w.heap.size w wr) (fun _ _ k _ => s.size - (intOf k).toNat)
  case atStart => exact ⟨0, 0, 0, 0, _, [], Nat.zero_le _, Nat.le_refl _, rfl, rfl, rfl, o0.mono (Nat.le_refl _) (by omega), Nat.le_refl _, by simp [Hid], Lib.hid (fun k hk => by omega), z1⟩
  case round =>
    obtain ⟨j, fr, n, c, b, ws, hj, hfj, rfl, rfl, rfl, ho, hwl, HC, HN, hbr⟩ := hrel
    clear o0 z1 s1
    have sr := hbr.size
    by_cases hlt : j < s.size
    · have hat : s.data.toList[j]? = some s[j] := by
        rw [List.getElem?_eq_getElem (by omega)]; rfl
      have hdj : (s.data.toList.drop fr)[j - fr]? = some s[j] := by
        rw [List.getElem?_drop, show fr + (j - fr) = j by omega]; exact hat
      by_cases hsep : s[j] = 32
      · have hse : ((s[j].toNat : Int) == 32) = true := by rw [hsep]; rfl
        have hse2 : (s[j].toNat : Int) = 32 := by simpa using hse
        have HS2 : Hid (cutL s.data.toList = (ws ++ [s.extract fr j]).map (fun x => x.data.toList) ++ cutL (s.data.toList.drop (j + 1))) := Lib.hid (by
          rw [HC.out, cut_at HN.out (by rw [hdj, hsep]), List.map_append, List.drop_drop, show fr + (j - fr + 1) = j + 1 by omega]
          simp only [List.map_cons, List.map_nil, ext_list, List.append_assoc, List.singleton_append])
        obtain ⟨na, nn, nc, wn, hrn, on_, hbn, hzn⟩ := own_strapp 92 ho (r := s.extract fr j) (by have := ext_size s fr j; omega) (Nat.le_refl _) sr (by omega) rfl
        have HON := Lib.hid on_
        have HBN := Lib.hid (hbr.trans hbn)
        clear ho on_ hbn hat hdj hsep HC HN
        go_wp2_with (at_builtin; refine wpList_app_run hrn rfl rfl rfl rfl rfl ?_)
        go_roundw
        case rel => exact ⟨j + 1, j + 1, nn, nc, na, ws ++ [s.extract fr j], by omega, by omega, by go_num, by go_num, rfl, HON.out, by rw [List.length_append]; simp; omega, HS2, Lib.hid (fun k hk => by omega), HBN.out⟩
        case measure => simp [intOf]; omega
      · have hne : (s[j].toNat : Int) ≠ 32 := fun e => hsep (by
          have e2 : s[j].toNat = 32 := by omega
          exact UInt8.toNat_inj.1 e2)
        have hse : ((s[j].toNat : Int) == 32) = false := by rw [beq_eq_false_iff_ne]; exact hne
        have HN2 : Hid (∀ k, k < j + 1 - fr → (s.data.toList.drop fr)[k]? ≠ some 32) := Lib.hid (fun k hk => by
          rcases (by omega : k < j - fr ∨ k = j - fr) with h | rfl
          · exact HN.out k h
          · rw [hdj]; intro e; exact hsep (Option.some.inj e))
        have HO := Lib.hid ho
        clear ho hat hdj HN
        go_wp2_with fail
        go_roundw
        case rel => exact ⟨j + 1, fr, n, c, b, ws, by omega, by omega, by go_num, rfl, rfl, HO.out, by omega, HC, HN2, hbr⟩
        case measure => simp [intOf]; omega
    · obtain rfl : j = s.size := by omega
      have HE : Hid ((ws ++ [s.extract fr s.size]).map (fun x => x.data.toList) = cutL s.data.toList) := Lib.hid (by
        rw [HC.out, List.map_append]
        congr 1
        rw [cut_end]
        · simp only [List.map_cons, List.map_nil, ext_list]
          rw [List.take_of_length_le (by rw [List.length_drop]; omega)]
        · intro k
          by_cases hk : k < s.size - fr
          · exact HN.out k hk
          · rw [List.getElem?_eq_none (by rw [List.length_drop]; omega)]; simp)
      obtain ⟨na, nn, nc, wn, hrn, on_, hbn, hzn⟩ := own_strapp 92 ho (r := s.extract fr s.size) (by have := ext_size s fr s.size; omega) (Nat.le_refl _) sr (by omega) rfl
      have HON := Lib.hid on_
      have HBN := Lib.hid (hbr.trans hbn)
      clear ho on_ hbn HC HN
      go_wp2_with (at_builtin; refine wpList_app_run hrn rfl rfl rfl rfl rfl ?_)
      go_ret
      exact ⟨_, _, _, _, rfl, HON.out, HE.out, HBN.out⟩

end Go.Proofs.YtpgfkjcekhifiaaGreat
