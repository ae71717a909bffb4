/- Texts joined for one claim: Text. -/
import Derived.Test.YtpgfkjcekhifiaaGreatDoorQe58ef1fdfa
import Derived.Test.YtpgfkjcekhifiaaGreatDoorQ6748bab5ad
import Derived.Test.YtpgfkjcekhifiaaGreatDoorQ92c501f38f
import Derived.Laws.IdiomStrings

namespace Go.Proofs.YtpgfkjcekhifiaaGreatDoor

open Go.RowKit

set_option linter.unusedVariables false

set_option linter.unusedSimpArgs false

abbrev bs (l : List UInt8) : ByteArray := ⟨l.toArray⟩

theorem bs_size (l : List UInt8) : (bs l).size = l.length := by simp [bs, ByteArray.size]

theorem bs_app (l m : List UInt8) : bs l ++ bs m = bs (l ++ m) := by
  apply ByteArray.ext
  simp [bs]


def chD (d : Int) : UInt8 := UInt8.ofNat (48 + d.toNat)

theorem chD_nat {d : Nat} (h : d ≤ 9) : ((chD (d : Int)).toNat : Int) = 48 + (d : Int) := by
  rw [chD, Int.toNat_natCast, UInt8.toNat_ofNat', Nat.mod_eq_of_lt (by omega)]; omega

def digsOf (row : List Int) : List UInt8 := row.map chD

theorem digsOf_len (row : List Int) : (digsOf row).length = row.length := by simp [digsOf]

theorem digsOf_snoc {row : List Int} {j : Nat} {v : Int} (hj : j < row.length) (hv : row.getD j 0 = v) : digsOf (row.take (j + 1)) = digsOf (row.take j) ++ [chD v] := by
  rw [take_snoc row j hj, hv]; simp [digsOf]

set_option maxRecDepth 100000 in
theorem fmtInt_dig (d : Nat) (hd : d ≤ 9) (w : World) :
    Calls Tryz.prog 86 #[.int .i64 (d : Int)] w fun e w' => e = .returned (.string (bs [chD (d : Int)])) ∧ Below w.heap.size w w' := by
  rcases Nat.eq_zero_or_pos d with rfl | hpos
  · go_enter Tryz.func86, Tryz.ntmps86
    go_wp2_with fail
    go_ret
    exact ⟨by rfl, Below.refl _ _⟩
  · have hc2 := chD_nat hd
    obtain ⟨c, hcc⟩ : ∃ c, chD (d : Int) = c := ⟨_, rfl⟩
    rw [hcc] at hc2 ⊢
    have hne : ((d : Int) == 0) = false := by rw [beq_eq_false_iff_ne]; omega
    have hbn : ((d : Int) != 0) = true := by rw [bne_iff_ne]; omega
    have hm : (d : Int) % 10 = (d : Int) := by omega
    have hq : (d : Int) / 10 = 0 := by omega
    have hcv := run_convert_bytes_back (P := Tryz.prog) (w.alloc (.cells #[Value.int .u8 (48 + (d : Int))] 5)) 22 9 5 ⟨w.heap.size, 0, none⟩ 1 [c] Tryz.underlying22 Tryz.underlying5 Tryz.underlying9 (fun j hj => by
        obtain rfl : j = 0 := by simp at hj; exact hj
        rw [add_zero_addr, box_cell (i := 0) (Below.refl _ _) rfl, ← hc2]; rfl)
    simp only [List.length_cons, List.length_nil, Nat.zero_add] at hcv
    have hz1 : ¬ 9223372036854775807 < (bs [c]).size + (ByteArray.mk #[]).size := by rw [bs_size]; simp [ByteArray.size]
    clear hcc hc2
    go_enter Tryz.func86, Tryz.ntmps86
    go_wp2_with fail
    go_loopw [0, 3] (fun q s wr => (q = .int .i64 (d : Int) ∧ s = .string ⟨#[]⟩ ∧ w = wr) ∨ (q = .int .i64 0 ∧ s = .string (bs [c]) ∧ Below w.heap.size w wr)) (fun q _ _ => (intOf q).toNat)
    case atStart => exact .inl ⟨rfl, rfl, rfl⟩
    case round =>
      rcases hrel with ⟨rfl, rfl, rfl⟩ | ⟨rfl, rfl, hB⟩
      · go_wp2_with fail
        go_roundw
        case rel => exact .inr ⟨rfl, by show Value.string _ = Value.string _; congr 1, (Below.refl _ _).alloc (Nat.le_refl _) _⟩
        case measure => simp [intOf]; omega
      · clear hcv
        go_wp2_with fail
        go_ret
        exact ⟨by rfl, hB⟩

set_option maxHeartbeats 1000000 in
theorem l4Digits_any (v : Value) (row : List Int) (w : World) (h : rI.rep w [v] row) (hn : row.length ≤ 1048576) (hr : ∀ x ∈ row, 0 ≤ x ∧ x ≤ 9) :
    Calls Tryz.prog 85 #[v] w fun e w' => e = .returned (.string (bs (digsOf row))) ∧ Below w.heap.size w w' := by
  obtain ⟨b, n, c, hv⟩ := rI_form h
  simp at hv
  subst hv
  have iv := rI_ints h
  have hl := iv.len
  have HR := Lib.hid hr
  clear h hr
  have hb0 : Below w.heap.size w w := Below.refl _ _
  go_enter Tryz.func85, Tryz.ntmps85
  go_wp2_with fail
  go_loopw [3, 4] (fun s k wr => ∃ j : Nat, j ≤ n ∧ k = .int .i64 j ∧ s = .string (bs (digsOf (row.take j))) ∧ Below w.heap.size w wr) (fun _ k _ => n - (intOf k).toNat)
  case atStart => exact ⟨0, Nat.zero_le _, rfl, rfl, Below.refl _ _⟩
  case round =>
    obtain ⟨j, hj, rfl, rfl, hdr⟩ := hrel
    have s1 := hdr.size
    have hb1 := on hb0 hdr
    by_cases hlt : j < n
    · obtain ⟨b0, o0, x, rfl, hc, hx, hx1, hx2⟩ := iv.get hlt
      have hxr := HR.out x (by
        rw [← hx.out, List.getD_eq_getElem?_getD, List.getElem?_eq_getElem (by omega)]; exact List.getElem_mem _)
      obtain ⟨d, rfl⟩ := Int.eq_ofNat_of_zero_le hxr.1
      have HS := Lib.hid (digsOf_snoc (show j < row.length by omega) hx.out)
      have hc0 : wr.cell? ⟨b0, o0 + j, none⟩ = some (.int .i64 (d : Int)) := ((hb1).cell (p := ⟨b0, o0 + j, none⟩) (cell_lt hc)).trans hc
      have HF := Lib.hid (fmtInt_dig d (by omega) wr)
      have hz : ¬ 9223372036854775807 < (bs (digsOf (row.take j))).size + (bs [chD (d : Int)]).size := by
        rw [bs_size, bs_size, digsOf_len]
        have h3 := List.length_take_le j row
        simp
        omega
      clear iv hx hc hxr
      go_wp2_with fail
      refine HF.out.mono ?_
      rintro e w5 ⟨rfl, z5⟩
      have s2 := z5.size
      have hb2 := on hb1 z5
      go_wp2_with fail
      go_roundw
      case rel => exact ⟨j + 1, by omega, by go_num, by rw [HS.out, ← bs_app], hb2⟩
      case measure => simp [intOf]; omega
    · have HE : Hid (digsOf (row.take j) = digsOf row) := Lib.hid (by rw [List.take_of_length_le (by omega)])
      go_wp2_with fail
      go_ret
      exact ⟨by rw [← HE.out]; rfl, hb1⟩

def O.u8 : OS UInt8 := ⟨1, fun _ cs x fp => cs = [.int .u8 (x.toNat : Int)] ∧ fp = [], fun h => by rw [h.1]; rfl, fun h _ => h, fun h k hk => by rw [h.2] at hk; cases hk⟩

theorem infoU8 : (Tryz.prog.info? 5).map (fun i => (i.zero, i.size, i.bytes)) = some (some (.int .u8 0), 1, 1) := by kernel_rfl

theorem bytes_back {lo S hi : Nat} {w : World} {a : Option Addr} {n c : Nat} {l : List UInt8} (h : Acc 5 O.u8 lo S hi w (.slice a n c) l) : (convert 22 9 (.slice a n c)).run Tryz.prog w = .ok (.string (bs l)) w := by
  obtain ⟨fp, ⟨v1, css, fps, hv, _, h1, h2⟩, _⟩ := h
  simp at hv
  subst hv
  obtain ⟨a', cap', he, hn, hb⟩ := own_form h1
  simp at he
  obtain ⟨rfl, rfl, rfl⟩ := he
  rcases h1.2 with ⟨h3, h4⟩ | ⟨g, cap, cur, h3, _⟩
  · simp at h3
    obtain ⟨rfl, h5, rfl⟩ := h3
    subst h5
    simp only [List.length_nil]
    rw [run_convert_bytes_string (P := Tryz.prog) w 22 9 5 none 0 0 Tryz.underlying22 Tryz.underlying5 Tryz.underlying9]
    rfl
  · simp at h3
    obtain ⟨rfl, rfl⟩ := h3
    refine run_convert_bytes_back (P := Tryz.prog) w 22 9 5 ⟨g, 0, none⟩ _ l Tryz.underlying22 Tryz.underlying5 Tryz.underlying9 (fun j hj => ?_)
    obtain ⟨cj, f, hc, hf, hr⟩ := O.u8.rows_get h2 j _ (List.getElem?_eq_getElem hj)
    obtain ⟨rfl, _⟩ := hr
    have h9 := flatten_get O.u8 h2 j 0 _ _ hc (show [Value.int .u8 (l[j].toNat : Int)][0]? = some _ from rfl)
    have e : j * O.u8.size + 0 = j := by show j * 1 + 0 = j; omega
    rw [e] at h9
    obtain ⟨g2, hg2, hcell⟩ := own_cell h1 j _ h9
    simp at hg2
    subst hg2
    rw [add_zero_addr]
    exact hcell

set_option maxHeartbeats 1000000 in
theorem digitsText_any (v : Value) (row : List Int) (w : World) (h : rI.rep w [v] row) (hn : row.length ≤ 1048576) (hr : ∀ x ∈ row, 0 ≤ x ∧ x ≤ 9) :
    Calls Tryz.prog 61 #[v] w fun e w' => e = .returned (.string (bs (digsOf row))) ∧ Below w.heap.size w w' := by
  obtain ⟨b, n, c, hv⟩ := rI_form h
  simp at hv
  subst hv
  have iv := rI_ints h
  have hl := iv.len
  have HR := Lib.hid hr
  clear h hr
  have hb0 : Below w.heap.size w w := Below.refl _ _
  go_enter Tryz.func61, Tryz.ntmps61
  obtain ⟨w1, hw1⟩ : ∃ W, W = w.alloc (.cells #[] 5) := ⟨_, rfl⟩
  have z1 : Below w.heap.size w w1 := by rw [hw1]; exact (Below.refl _ _).alloc (Nat.le_refl _) _
  have s1 : w1.heap.size = w.heap.size + 1 := by rw [hw1]; simp
  have hb1 := on hb0 z1
  have he : ∀ S, Acc 5 O.u8 w.heap.size S w1.heap.size w1 (.slice (some ⟨w.heap.size, 0, none⟩) 0 0) [] := fun S => by rw [hw1]; exact Acc.empty (by omega) (by first | (simp; done) | (simp; omega))
  go_wp2_with fail
  rw [← hw1]
  clear hw1
  go_loopw [3, 9] (fun v k wr => ∃ j : Nat, j ≤ n ∧ k = .int .i64 j ∧ Acc 5 O.u8 w.heap.size w1.heap.size wr.heap.size wr v (digsOf (row.take j)) ∧ Turn w.heap.size (w.heap.size + 1) w1 wr) (fun _ k _ => n - (intOf k).toNat)
  case atStart => exact ⟨0, Nat.zero_le _, rfl, (he _).wide (Nat.le_refl _) (by omega), turn_refl _ _ _⟩
  case round =>
    obtain ⟨j, hj, rfl, hacc, hdr⟩ := hrel
    have hlc := hdr
    clear he
    have s2 := hdr.size
    have hb2 := hb1.trans ((hdr.below (by omega)).mono (by omega))
    by_cases hlt : j < n
    · obtain ⟨b0, o0, x, rfl, hc, hx, hx1, hx2⟩ := iv.get hlt
      have hxr := HR.out x (by
        rw [← hx.out, List.getD_eq_getElem?_getD, List.getElem?_eq_getElem (by omega)]; exact List.getElem_mem _)
      obtain ⟨d, rfl⟩ := Int.eq_ofNat_of_zero_le hxr.1
      have HS := Lib.hid (digsOf_snoc (show j < row.length by omega) hx.out)
      have hc0 : wr.cell? ⟨b0, o0 + j, none⟩ = some (.int .i64 (d : Int)) := ((hb2).cell (p := ⟨b0, o0 + j, none⟩) (cell_lt hc)).trans hc
      have hd9 : d ≤ 9 := by omega
      have hch := chD_nat hd9
      have hdl := digsOf_len (row.take j)
      have h3 := List.length_take_le j row
      obtain ⟨va, vn, vc, rfl⟩ := hacc.form3
      obtain ⟨v', wN, hrun, haccN, htN, hsN, _⟩ := run_acc Tryz.underlying22 infoU8 rfl (by decide) (by decide) rfl (lo := w.heap.size) (W0 := w1) 22 _ _ [.int .u8 (48 + (d : Int))] (chD (d : Int)) hacc (show Own O.u8 wr.heap.size wr.heap.size wr [.int .u8 (48 + (d : Int))] (chD (d : Int)) from ⟨[], ⟨by rw [hch], rfl⟩, by simp, by simp⟩) (by intro z hz; simp at hz; subst hz; rfl) (by omega) (Nat.le_refl _) (Nat.le_refl _) (Nat.le_refl _) hlc rfl (.inl rfl) (by omega) (by omega) rfl
      obtain ⟨va2, vn2, vc2, rfl⟩ := haccN.form3
      have HC9 := Lib.hid haccN
      have HT9 := Lib.hid htN
      clear hacc hlc haccN htN hc hx hxr iv hch
      go_wp2_with ((at_builtin; refine wpList_app_run hrun rfl rfl rfl rfl rfl ?_))
      go_roundw
      case rel => exact ⟨j + 1, by omega, by go_num, by rw [HS.out]; exact HC9.out, HT9.out⟩
      case measure => simp [intOf]; omega
    · have HE : Hid (digsOf (row.take j) = digsOf row) := Lib.hid (by rw [List.take_of_length_le (by omega)])
      obtain ⟨va, vn, vc, rfl⟩ := hacc.form3
      have hcv := bytes_back hacc
      rw [HE.out] at hcv
      clear hacc
      go_wp2_with fail
      go_ret
      exact ⟨by rfl, hb2⟩

end Go.Proofs.YtpgfkjcekhifiaaGreatDoor
