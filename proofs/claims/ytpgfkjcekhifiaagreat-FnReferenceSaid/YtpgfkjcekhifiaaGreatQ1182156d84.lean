/- Texts joined for one claim: Fmt, FmtQ. -/
import Derived.Test.YtpgfkjcekhifiaaGreatQ415a07a1ab
import Derived.Test.YtpgfkjcekhifiaaGreatQ47bb03e535
import Derived.Test.YtpgfkjcekhifiaaGreatQ94813783a4
import Derived.Test.YtpgfkjcekhifiaaGreatQad766b37ad
import Derived.Test.YtpgfkjcekhifiaaGreatQ52736f1836
import Derived.Lib.Join
import Derived.Deep.RegionHeld3

namespace Go.Proofs.YtpgfkjcekhifiaaGreat

open Go.RowKit

set_option linter.unusedVariables false

set_option linter.unusedSimpArgs false

set_option synthInstance.maxSize 2000

set_option synthInstance.maxHeartbeats 400000

theorem bs_of (s : ByteArray) : bs s.data.toList = s := by
  apply ByteArray.ext
  simp [bs]

def spaced (ws : List (List UInt8)) : List UInt8 := Lib.join ws [32]

theorem spaced_snoc {ws : List (List UInt8)} {j : Nat} {y : List UInt8} (h : ws[j]? = some y) : spaced (ws.take (j + 1)) = (if j = 0 then y else spaced (ws.take j) ++ [32] ++ y) := by
  match ws with
  | [] => simp at h
  | x :: r =>
    cases j with
    | zero => simp at h; subst h; simp [spaced, Lib.join_one]
    | succ j =>
      rw [if_neg (by omega)]
      simp only [spaced, List.take_succ_cons, Lib.join_cons]
      rw [Lib.joinTail_take_succ [32] r j y (by simpa using h)]
      simp

theorem spaced_len (ws : List (List UInt8)) : (spaced ws).length ≤ ws.length + Lib.lens ws := by
  match ws with
  | [] => simp [spaced, Lib.join_nil, Lib.lens]
  | x :: r =>
    rw [spaced, Lib.join_cons, List.length_append, Lib.joinTail_length]
    simp [Lib.lens]
    omega

theorem lens_take (ws : List (List UInt8)) (j : Nat) : (spaced (ws.take j)).length ≤ ws.length + Lib.lens ws := by
  have h1 := spaced_len (ws.take j)
  have h2 := Lib.lens_take_le ws j
  have h3 := List.length_take_le j ws
  have h4 := List.length_take_le' j ws
  omega

theorem lens_digs (rows : List (List Int)) : Lib.lens (rows.map digsOf) = sumBy bulk_I rows := by
  simp only [Lib.lens, sumBy, List.map_map]
  congr 1
  apply List.map_congr_left
  intro r _
  simp [digsOf, bulk_I]

theorem infoStr : (Tryz.prog.info? 9).map (fun i => (i.zero, i.size, i.bytes)) = some (some (.string ⟨#[]⟩), 1, 16) := by kernel_rfl

theorem joined_any {lo S hi : Nat} {w : World} {a : Option Addr} {n c : Nat} {ws : List (List UInt8)} (h : Acc 9 O.str lo S hi w (.slice a n c) (ws.map bs)) (hlen : ws.length + Lib.lens ws ≤ 100000000) :
    Calls Tryz.prog 72 #[.slice a n c, .string ⟨#[32]⟩] w fun e w' => e = .returned (.string (bs (spaced ws))) ∧ Below w.heap.size w w' := by
  obtain ⟨fp, ⟨v1, css, fps, hv, _, h1, h2⟩, _⟩ := h
  simp at hv
  subst hv
  obtain ⟨a', cap', he, hn, hb⟩ := own_form h1
  simp at he
  obtain ⟨rfl, hnl, rfl⟩ := he
  have hnl2 : n = (ws.map bs).length := by rw [List.length_map]; exact hnl
  subst hnl2
  cases ws with
  | nil =>
    refine (Tryz.strings_Join_none a c ⟨#[32]⟩ w).mono ?_
    rintro e w' ⟨rfl, rfl⟩
    exact ⟨rfl, Below.refl _ _⟩
  | cons y r =>
    rcases h1.2 with ⟨h3, h4⟩ | ⟨g, cap, cur, h3, _, hg, _⟩
    · simp at h4
    · simp at h3
      obtain ⟨rfl, rfl⟩ := h3
      have hcells : ∀ (j : Nat) x, ((y :: r).map bs)[j]? = some x → w.cell? ⟨g, 0 + j, none⟩ = some (.string x) := fun j x hx => by
        obtain ⟨cj, f, hc, hf, hr⟩ := O.str.rows_get h2 j x hx
        obtain ⟨rfl, _, _⟩ := hr
        have h9 := flatten_get O.str h2 j 0 _ _ hc (show [Value.string x][0]? = some _ from rfl)
        have e : j * O.str.size + 0 = j := by show j * 1 + 0 = j; omega
        rw [e] at h9
        obtain ⟨g2, hg2, hcell⟩ := own_cell h1 j _ h9
        simp at hg2
        subst hg2
        rw [Nat.zero_add]
        exact hcell
      have hid9 : ((fun x : ByteArray => x.data.toList) ∘ bs) = id := by funext l; simp
      have hmap : ((y :: r).map bs).map (·.data.toList) = y :: r := by rw [List.map_map, hid9, List.map_id]
      have hsl := spaced_len (y :: r)
      have hc := own_cap h1
      have hj := Tryz.strings_Join g 0 _ ((y :: r).map bs) ⟨#[32]⟩ w hcells (Array.getElem?_eq_some_iff.1 hg).1 (by rw [List.length_map]; omega) hc.1 (by rw [hmap]; show (spaced (y :: r)).length ≤ _; omega)
      rw [hmap] at hj
      exact hj

set_option maxHeartbeats 1000000 in
theorem rowsText_any (v : Value) (rows : List (List Int)) (w : World) (h : rII.rep w [v] rows) (hr : ∀ r ∈ rows, ∀ x ∈ r, 0 ≤ x ∧ x ≤ 9) (hb : bulk_II rows ≤ 1048576) :
    Calls Tryz.prog 38 #[v] w fun e w' => e = .returned (.string (bs (spaced (rows.map digsOf)))) ∧ Below w.heap.size w w' := by
  obtain ⟨b, n, c, hv⟩ := rS_form h
  simp at hv
  subst hv
  have t0 := rS_sl h
  have hl := t0.len
  have HR := Lib.hid hr
  have hld := lens_digs rows
  unfold bulk_II at hb
  have hsum : ∀ r ∈ rows, bulk_I r ≤ sumBy bulk_I rows := fun r hr9 => by
    obtain ⟨i, hi, rfl⟩ := List.mem_iff_getElem.1 hr9
    exact sumBy_mem bulk_I (List.getElem?_eq_getElem hi)
  have HSM := Lib.hid hsum
  clear h hr hsum
  have hb0 : Below w.heap.size w w := Below.refl _ _
  go_enter Tryz.func38, Tryz.ntmps38
  obtain ⟨w1, hw1⟩ : ∃ W, W = w.alloc (.cells #[] 9) := ⟨_, rfl⟩
  have z1 : Below w.heap.size w w1 := by rw [hw1]; exact (Below.refl _ _).alloc (Nat.le_refl _) _
  have s1 : w1.heap.size = w.heap.size + 1 := by rw [hw1]; simp
  have hb1 := on hb0 z1
  have he : ∀ S, Acc 9 O.str w.heap.size S w1.heap.size w1 (.slice (some ⟨w.heap.size, 0, none⟩) 0 0) [] := fun S => by rw [hw1]; exact Acc.empty (by omega) (by first | (simp; done) | (simp; omega))
  go_wp2_with fail
  rw [← hw1]
  clear hw1
  go_loopw [3, 9] (fun v k wr => ∃ j : Nat, j ≤ n ∧ k = .int .i64 j ∧ Acc 9 O.str w.heap.size w1.heap.size wr.heap.size wr v (((rows.take j).map digsOf).map bs) ∧ Turn w.heap.size (w.heap.size + 1) w1 wr) (fun _ k _ => n - (intOf k).toNat)
  case atStart => exact ⟨0, Nat.zero_le _, rfl, (he _).wide (Nat.le_refl _) (by omega), turn_refl _ _ _⟩
  case round =>
    obtain ⟨j, hj, rfl, hacc, hdr⟩ := hrel
    have hlc := hdr
    clear he
    have s2 := hdr.size
    have hb2 := hb1.trans ((hdr.below (by omega)).mono (by omega))
    obtain ⟨va, vn, vc, rfl⟩ := hacc.form3
    by_cases hlt : j < n
    · obtain ⟨b0, o0, r1, m1, q1, x, rfl, hc, hx, hi, hq1, hq2⟩ := t0.row hlt
      have hc0 : wr.cell? ⟨b0, o0 + j, none⟩ = some (.slice r1 m1 q1) := ((hb2).cell (p := ⟨b0, o0 + j, none⟩) (cell_lt hc)).trans hc
      have hxm := List.mem_of_getElem? hx.out
      have hxb : x.length ≤ sumBy bulk_I rows := HSM.out x hxm
      have HD := Lib.hid (digitsText_any (.slice r1 m1 q1) x wr (rS_mk (hi.below hb2).sl hq1 hq2) (by omega) (HR.out x hxm))
      have HN : Hid (((rows.take (j + 1)).map digsOf).map bs = ((rows.take j).map digsOf).map bs ++ [bs (digsOf x)]) := Lib.hid (by rw [List.take_add_one, hx.out]; simp)
      have h3 := List.length_take_le j rows
      have hdl : (bs (digsOf x)).size ≤ 9223372036854775807 := by rw [bs_size, digsOf_len]; omega
      clear hc hx hi hxm
      go_wp2_with fail
      refine HD.out.mono ?_
      rintro e w5 ⟨rfl, z5⟩
      have hacc5 := hacc.below z5 (Nat.le_refl _)
      have hl5 := hlc.trans (turn_below z5 (by omega))
      have s3 := z5.size
      have hb3 := on hb2 z5
      obtain ⟨v', wN, hrun, haccN, htN, hsN, _⟩ := run_acc Tryz.underlying92 infoStr rfl (by decide) (by decide) rfl (lo := w.heap.size) (W0 := w1) 92 _ _ [.string (bs (digsOf x))] (bs (digsOf x)) hacc5 (own_str (lo := w5.heap.size) (hi := w5.heap.size) hdl) (by intro z hz; simp at hz; subst hz; rfl) (by omega) (by omega) (Nat.le_refl _) (Nat.le_refl _) hl5 rfl (.inl rfl) (by omega) (by simp; omega) rfl
      obtain ⟨va2, vn2, vc2, rfl⟩ := haccN.form3
      have HC9 := Lib.hid haccN
      have HT9 := Lib.hid htN
      clear hacc hlc haccN htN hacc5 hl5
      go_wp2_with ((at_builtin; refine wpList_app_run hrun rfl rfl rfl rfl rfl ?_))
      go_roundw
      case rel => exact ⟨j + 1, by omega, by go_num, by rw [HN.out]; exact HC9.out, HT9.out⟩
      case measure => simp [intOf]; omega
    · rw [show rows.take j = rows from List.take_of_length_le (by omega)] at hacc
      have HJ := Lib.hid (joined_any hacc (by rw [List.length_map, hld]; omega))
      clear hacc
      go_wp2_with fail
      refine HJ.out.mono ?_
      rintro e w5 ⟨rfl, z5⟩
      have s4 := z5.size
      have hb4 := on hb2 z5
      go_wp2_with fail
      go_ret
      exact ⟨by rfl, hb4⟩

def fmtAn (x : DAn) : List UInt8 := if validAn x then namesOf x.1 ++ [58] ++ spaced (x.2.map digsOf) else []

theorem validAn_dig {x : DAn} (h : validAn x = true) : ∀ r ∈ x.2, ∀ v ∈ r, 0 ≤ v ∧ v ≤ 9 := by
  intro r hr v hv
  simp only [validAn, Bool.and_eq_true] at h
  have h2 := List.all_eq_true.1 h.1.2 r hr
  rw [rowB, Bool.and_eq_true] at h2
  have h3 := List.all_eq_true.1 h2.1 v hv
  simpa [betw] using h3

theorem names_impl' (v : Value) (vs : List Int) (w : World) (h : rI.rep w [v] vs) (hn : vs.length ≤ 1048576) :
    Calls Tryz.prog 37 #[v] w fun e w' => e = .returned (.string (bs (namesOf vs))) ∧ Below w.heap.size w w' :=
  (names_impl v vs w h hn).mono fun e w' ⟨h1, h2⟩ => ⟨h1, by subst h2; exact Below.refl _ _⟩

set_option maxHeartbeats 1000000 in
theorem fmtAn_impl (cs : List Value) (x : DAn) (w : World) (h : rAn.rep w cs x) (hb : bulk_An x ≤ 1048576) :
    Calls Tryz.prog 12 #[.agg cs.toArray] w fun e w' => e = .returned (.string (bs (fmtAn x))) ∧ Below w.heap.size w w' := by
  have HV := Lib.hid (fun W (hW : Below w.heap.size w W) => validAn_impl cs x W (rAn.mono h hW))
  obtain ⟨ub, un, uc, tb, tn, tc, rfl, g0, g1⟩ := rAn_open h
  obtain ⟨ok, hok⟩ : ∃ ok, validAn x = ok := ⟨_, rfl⟩
  rw [hok] at HV
  have HF : Hid (fmtAn x = if ok then namesOf x.1 ++ [58] ++ spaced (x.2.map digsOf) else []) := Lib.hid (by rw [fmtAn, hok])
  have HDG : Hid (ok = true → ∀ r ∈ x.2, ∀ v ∈ r, 0 ≤ v ∧ v ≤ 9) := Lib.hid (fun h9 => validAn_dig (hok.trans h9))
  unfold bulk_An at hb
  have hb1 : x.1.length ≤ 1048576 := by have h9 : bulk_I x.1 = x.1.length := rfl; omega
  have HN := Lib.hid (fun W (hW : Below w.heap.size w W) => names_impl' (.slice ub un uc) x.1 W (rI.mono g0 hW) hb1)
  have HR := Lib.hid (fun W (hW : Below w.heap.size w W) (hr : ∀ r ∈ x.2, ∀ v ∈ r, 0 ≤ v ∧ v ≤ 9) => rowsText_any (.slice tb tn tc) x.2 W (rII.mono g1 hW) hr (by omega))
  have hnl := namesOf_len x.1
  have hsl := spaced_len (x.2.map digsOf)
  rw [List.length_map, lens_digs] at hsl
  unfold bulk_II at hb
  obtain ⟨vs, rows⟩ := x
  simp only at HN HR HDG hnl hsl hb hb1
  clear h g0 g1 hok
  have hb0 : Below w.heap.size w w := Below.refl _ _
  go_enter Tryz.func12, Tryz.ntmps12
  obtain ⟨w1, hw1⟩ : ∃ W, W = w.alloc (.cells #[.slice ub un uc, .slice tb tn tc] 35) := ⟨_, rfl⟩
  have z1 : Below w.heap.size w w1 := by rw [hw1]; exact (Below.refl _ _).alloc (Nat.le_refl _) _
  have s1 : w1.heap.size = w.heap.size + 1 := by rw [hw1]; simp
  have hb1 := on hb0 z1
  have a_0 : w1.cell? ⟨w.heap.size, 0, none⟩ = some (.slice ub un uc) := by rw [hw1]; exact box_cell (Below.refl _ _) rfl
  have a_1 : w1.cell? ⟨w.heap.size, 1, none⟩ = some (.slice tb tn tc) := by rw [hw1]; exact box_cell (Below.refl _ _) rfl
  have raw1_a_0 := a_0
  have raw1_a_1 := a_1
  rw [hw1] at raw1_a_0 raw1_a_1
  go_wp2_with fail
  rw [← hw1]
  clear hw1
  clear raw1_a_0 raw1_a_1
  refine (HV.out _ hb1).mono ?_
  rintro e w5 ⟨rfl, z5⟩
  have s2 := z5.size
  have hb2 := on hb1 z5
  replace a_0 := bxc z5 a_0
  replace a_1 := bxc z5 a_1
  cases ok with
  | false =>
    have HE : Hid (fmtAn (vs, rows) = []) := Lib.hid (by rw [HF.out]; rfl)
    go_wp2_with fail
    go_ret
    exact ⟨by rw [HE.out]; rfl, hb2⟩
  | true =>
    have HE : Hid (fmtAn (vs, rows) = namesOf vs ++ [58] ++ spaced (rows.map digsOf)) := Lib.hid (by rw [HF.out, if_pos rfl])
    have HRR := Lib.hid (fun W hW => HR.out W hW (HDG.out rfl))
    have hz1 : ¬ 9223372036854775807 < (bs (namesOf vs)).size + (ByteArray.mk #[58]).size := by rw [bs_size]; simp [ByteArray.size]; omega
    have hz2 : ¬ 9223372036854775807 < (bs (namesOf vs) ++ ByteArray.mk #[58]).size + (bs (spaced (rows.map digsOf))).size := by rw [bs_size, show bs (namesOf vs) ++ ByteArray.mk #[58] = bs (namesOf vs ++ [58]) from bs_app _ [58], bs_size, List.length_append]; simp; omega
    go_wp2_with fail
    refine wp_region_noPanic ?_
    refine wp_region_held_drew (S := (fun W => W.cell? ⟨w.heap.size, 0, none⟩ = some (.slice ub un uc) ∧ W.cell? ⟨w.heap.size, 1, none⟩ = some (.slice tb tn tc))) (by kernel_rfl) ?hS3 (fun hHeld => ?_)
    case hS3 => exact ⟨a_0, a_1⟩
    refine wpAnyH_take (i := 0) (v := ?v0_4) rfl (by kernel_rfl) (by kernel_rfl) (by kernel_rfl) (fun _ _ _ h => h) (Or.inl ⟨by rfl, ?hy0_4⟩) (by assumption) ?rest0_4
    case hy0_4 => intro w hSw; (try dsimp only at hSw); go_simp; (try with_reducible rfl)
    try simp only [Act.put, lgA, lgB, lgC, lgD, lgE, lgF]
    refine wpAnyH_take (i := 1) (v := ?v1_5) rfl (by kernel_rfl) (by kernel_rfl) (by kernel_rfl) (fun _ _ _ h => h) (Or.inl ⟨by rfl, ?hy1_5⟩) (by assumption) ?rest1_5
    case hy1_5 => intro w hSw; (try dsimp only at hSw); go_simp; (try with_reducible rfl)
    try simp only [Act.put, lgA, lgB, lgC, lgD, lgE, lgF]
    refine wpAnyH_take (i := 4) (v := ?v4_6) rfl (by kernel_rfl) (by kernel_rfl) (by kernel_rfl) (fun _ _ _ h => h) (Or.inl ⟨by rfl, ?hy4_6⟩) (by assumption) ?rest4_6
    case hy4_6 => intro w hSw; (try dsimp only at hSw); go_simp; (try with_reducible rfl)
    try simp only [Act.put, lgA, lgB, lgC, lgD, lgE, lgF]
    refine wpAnyH_take (i := 5) (v := ?v5_7) rfl (by kernel_rfl) (by kernel_rfl) (by kernel_rfl) (fun _ _ _ h => h) (Or.inl ⟨by rfl, ?hy5_7⟩) (by assumption) ?rest5_7
    case hy5_7 => intro w hSw; (try dsimp only at hSw); go_simp; (try with_reducible rfl)
    try simp only [Act.put, lgA, lgB, lgC, lgD, lgE, lgF]
    refine wpAnyH_ready (rs := [2]) (by kernel_rfl) (by simp) ?_
    refine AllReadyH.cons rfl (fun K hK => ?_) AllReadyH.nil
    go_simp; (refine (HN.out _ (hb2).drew).mono ?_); rintro e wA ⟨rfl, zA⟩; replace zA : Below w5.heap.size w5 wA := on (Below.refl _ _).drew zA; have sA := zA.size; have hbA := on hb2 zA; have hSA := (⟨(zA.cell (p := ⟨w.heap.size, 0, none⟩) (by simp only []; omega)).trans a_0, (zA.cell (p := ⟨w.heap.size, 1, none⟩) (by simp only []; omega)).trans a_1⟩ : (fun W => W.cell? ⟨w.heap.size, 0, none⟩ = some (.slice ub un uc) ∧ W.cell? ⟨w.heap.size, 1, none⟩ = some (.slice tb tn tc)) wA)
    refine hK.out _ _ ?_ (fun hHeld => ?_)
    · exact hSA
    clear hK K
    try simp only [Act.put, List.setIfInBounds_toArray, List.set_cons_zero, List.set_cons_succ]
    refine wpAnyH_take (i := 3) (v := ?v3x) rfl (by kernel_rfl) (by kernel_rfl) (by kernel_rfl) (fun _ _ _ h => h) (Or.inl ⟨by rfl, ?hy3x⟩) (by assumption) ?rest3x
    case hy3x => intro w hSw; (try dsimp only at hSw); go_simp; (split <;> first | rfl | (exfalso; omega))
    try simp only [Act.put, lgA, lgB, lgC, lgD, lgE, lgF]
    refine wpAnyH_ready (rs := [6]) (by kernel_rfl) (by simp) ?_
    refine AllReadyH.cons rfl (fun K hK => ?_) AllReadyH.nil
    go_simp; (refine (HRR.out _ hbA).mono ?_); rintro e wB ⟨rfl, zB⟩; have sB := zB.size; have hbB := on hbA zB; have hSB := (⟨(zB.cell (p := ⟨w.heap.size, 0, none⟩) (by simp only []; omega)).trans hSA.1, (zB.cell (p := ⟨w.heap.size, 1, none⟩) (by simp only []; omega)).trans hSA.2⟩ : (fun W => W.cell? ⟨w.heap.size, 0, none⟩ = some (.slice ub un uc) ∧ W.cell? ⟨w.heap.size, 1, none⟩ = some (.slice tb tn tc)) wB)
    refine hK.out _ _ ?_ (fun hHeld => ?_)
    · exact hSB
    clear hK K
    try simp only [Act.put, List.setIfInBounds_toArray, List.set_cons_zero, List.set_cons_succ]
    refine wpAnyH_take (i := 7) (v := ?v7x) rfl (by kernel_rfl) (by kernel_rfl) (by kernel_rfl) (fun _ _ _ h => h) (Or.inl ⟨by rfl, ?hy7x⟩) (by assumption) ?rest7x
    case hy7x => intro w hSw; (try dsimp only at hSw); go_simp; (split <;> first | rfl | (exfalso; omega))
    try simp only [Act.put, lgA, lgB, lgC, lgD, lgE, lgF]
    refine wpAnyH_take (i := 8) (v := ?v8_8) rfl (by kernel_rfl) (by kernel_rfl) (by kernel_rfl) (fun _ _ _ h => h) (Or.inl ⟨by rfl, ?hy8_8⟩) (by assumption) ?rest8_8
    case hy8_8 => intro w hSw; (try dsimp only at hSw); go_simp; (try with_reducible rfl)
    try simp only [Act.put, lgA, lgB, lgC, lgD, lgE, lgF]
    refine wpAnyH_done (by kernel_rfl) ?_ _
    refine NoPanic.normal ?_
    go_wp2_with fail
    go_ret
    refine ⟨?_, hbB⟩
    rw [HE.out, ← bs_app, ← bs_app]
    rfl

set_option maxHeartbeats 1000000 in
theorem fmtAn_spec (cs : List Value) (x : DAn) (w : World) (h : rAn.rep w cs x) (hb : bulk_An x ≤ 1048576) :
    Calls Tryz.prog 13 #[.agg cs.toArray] w fun e w' => e = .returned (.string (bs (fmtAn x))) ∧ Below w.heap.size w w' := by
  have HV := Lib.hid (fun W (hW : Below w.heap.size w W) => validAn_spec cs x W (rAn.mono h hW))
  obtain ⟨ub, un, uc, tb, tn, tc, rfl, g0, g1⟩ := rAn_open h
  obtain ⟨ok, hok⟩ : ∃ ok, validAn x = ok := ⟨_, rfl⟩
  rw [hok] at HV
  have HF : Hid (fmtAn x = if ok then namesOf x.1 ++ [58] ++ spaced (x.2.map digsOf) else []) := Lib.hid (by rw [fmtAn, hok])
  have HDG : Hid (ok = true → ∀ r ∈ x.2, ∀ v ∈ r, 0 ≤ v ∧ v ≤ 9) := Lib.hid (fun h9 => validAn_dig (hok.trans h9))
  unfold bulk_An at hb
  have hb1 : x.1.length ≤ 1048576 := by have h9 : bulk_I x.1 = x.1.length := rfl; omega
  have HN := Lib.hid (fun W (hW : Below w.heap.size w W) => names_spec (.slice ub un uc) x.1 W (rI.mono g0 hW) hb1)
  have t0 := rS_sl g1
  have hl := t0.len
  have hnl := namesOf_len x.1
  have hll : ∀ j, (spaced ((x.2.map digsOf).take j)).length ≤ x.2.length + sumBy bulk_I x.2 := fun j => by
    have h9 := lens_take (x.2.map digsOf) j
    rw [List.length_map, lens_digs] at h9
    exact h9
  have hsum : ∀ r ∈ x.2, bulk_I r ≤ sumBy bulk_I x.2 := fun r hr9 => by
    obtain ⟨i, hi, rfl⟩ := List.mem_iff_getElem.1 hr9
    exact sumBy_mem bulk_I (List.getElem?_eq_getElem hi)
  have HSM := Lib.hid hsum
  have HLL := Lib.hid hll
  unfold bulk_II at hb
  obtain ⟨vs, rows⟩ := x
  simp only at HN HDG hnl hb hb1 t0 hl HLL HSM
  clear h g0 g1 hok hsum hll
  have hb0 : Below w.heap.size w w := Below.refl _ _
  go_enter Tryz.func13, Tryz.ntmps13
  obtain ⟨w1, hw1⟩ : ∃ W, W = w.alloc (.cells #[.slice ub un uc, .slice tb tn tc] 35) := ⟨_, rfl⟩
  have z1 : Below w.heap.size w w1 := by rw [hw1]; exact (Below.refl _ _).alloc (Nat.le_refl _) _
  have s1 : w1.heap.size = w.heap.size + 1 := by rw [hw1]; simp
  have hb1 := on hb0 z1
  have a_0 : w1.cell? ⟨w.heap.size, 0, none⟩ = some (.slice ub un uc) := by rw [hw1]; exact box_cell (Below.refl _ _) rfl
  have a_1 : w1.cell? ⟨w.heap.size, 1, none⟩ = some (.slice tb tn tc) := by rw [hw1]; exact box_cell (Below.refl _ _) rfl
  have raw1_a_0 := a_0
  have raw1_a_1 := a_1
  rw [hw1] at raw1_a_0 raw1_a_1
  go_wp2_with fail
  rw [← hw1]
  clear hw1
  clear raw1_a_0 raw1_a_1
  refine (HV.out _ hb1).mono ?_
  rintro e w5 ⟨rfl, z5⟩
  have s2 := z5.size
  have hb2 := on hb1 z5
  replace a_0 := bxc z5 a_0
  replace a_1 := bxc z5 a_1
  cases ok with
  | false =>
    have HE : Hid (fmtAn (vs, rows) = []) := Lib.hid (by rw [HF.out]; rfl)
    go_wp2_with fail
    go_ret
    exact ⟨by rw [HE.out]; rfl, hb2⟩
  | true =>
    have HE : Hid (fmtAn (vs, rows) = namesOf vs ++ [58] ++ spaced (rows.map digsOf)) := Lib.hid (by rw [HF.out, if_pos rfl])
    have HDT := Lib.hid (HDG.out rfl)
    have hz1 : ¬ 9223372036854775807 < (bs (namesOf vs)).size + (ByteArray.mk #[58]).size := by rw [bs_size]; simp [ByteArray.size]; omega
    have hst : bs (namesOf vs) ++ ByteArray.mk #[58] = bs ((namesOf vs ++ [58]) ++ spaced ((rows.map digsOf).take 0)) := by rw [List.take_zero, show spaced [] = [] from rfl, List.append_nil]; exact bs_app _ [58]
    obtain ⟨P, hP⟩ : ∃ P, namesOf vs ++ [58] = P := ⟨_, rfl⟩
    have hPl : P.length ≤ vs.length + 1 := by rw [← hP, List.length_append]; simp; omega
    rw [hP] at HE hst
    go_wp2_with fail
    refine (HN.out _ hb2).mono ?_
    rintro e w' ⟨rfl, rfl⟩
    clear hP
    go_wp2_with fail
    go_loopw [3, 4] (fun s k wr => ∃ j : Nat, j ≤ tn ∧ k = .int .i64 j ∧ s = .string (bs (P ++ spaced ((rows.map digsOf).take j))) ∧ Below w5.heap.size w5 wr) (fun _ k _ => tn - (intOf k).toNat)
    case atStart => exact ⟨0, Nat.zero_le _, rfl, by rw [List.take_zero], Below.refl _ _⟩
    case round =>
      obtain ⟨j, hj, rfl, rfl, hdr⟩ := hrel
      have hlc := hdr
      clear hst hz1
      have s3 := hdr.size
      have hb3 := on hb2 hdr
      replace a_0 := bxc hdr a_0
      replace a_1 := bxc hdr a_1
      have hjl := HLL.out j
      by_cases hlt : j < tn
      · obtain ⟨b0, o0, r1, m1, q1, y, rfl, hc, hx, hi, hq1, hq2⟩ := t0.row hlt
        have hclt : b0 < w.heap.size := cell_lt hc
        have c0 : wr.cell? ⟨b0, o0 + j, none⟩ = some (.slice r1 m1 q1) := (hb3.cell (p := ⟨b0, o0 + j, none⟩) hclt).trans hc
        have hxm := List.mem_of_getElem? hx.out
        have hxb : y.length ≤ sumBy bulk_I rows := HSM.out y hxm
        have HD := Lib.hid (l4Digits_any (.slice r1 m1 q1) y wr (rS_mk (hi.below hb3).sl hq1 hq2) (by omega) (HDT.out y hxm))
        have HS := Lib.hid (spaced_snoc (ws := rows.map digsOf) (j := j) (y := digsOf y) (by rw [List.getElem?_map, hx.out]; rfl))
        have hdl := digsOf_len y
        clear hc hx hi hxm
        by_cases hj0 : j = 0
        · subst hj0
          have c9 : wr.cell? ⟨b0, o0, none⟩ = some (.slice r1 m1 q1) := by simpa using c0
          clear c0
          have hz2 : ¬ 9223372036854775807 < (bs (P ++ spaced [])).size + (bs (digsOf y)).size := by rw [bs_size, bs_size, List.length_append, show spaced [] = [] from rfl, List.length_nil]; omega
          have HN2 : Hid (bs (P ++ spaced ((rows.map digsOf).take (0 + 1))) = bs (P ++ spaced ((rows.map digsOf).take 0)) ++ bs (digsOf y)) := Lib.hid (by rw [HS.out, if_pos rfl, bs_app, List.take_zero, show spaced [] = [] from rfl, List.append_nil])
          go_wp2_with fail
          refine HD.out.mono ?_
          rintro e w8 ⟨rfl, z8⟩
          have s4 := z8.size
          have hb4 := on hb3 z8
          replace a_0 := bxc z8 a_0
          replace a_1 := bxc z8 a_1
          replace hlc := on hlc z8
          replace c9 := bxc z8 c9
          go_wp2_with fail
          go_roundw
          case rel => exact ⟨0 + 1, by omega, by go_num, by rw [HN2.out, List.take_zero], hlc⟩
          case measure => simp [intOf]; omega
        · have hj1 : (0 : Int) < (j : Int) := by omega
          have hz2 : ¬ 9223372036854775807 < (bs (P ++ spaced ((rows.map digsOf).take j))).size + (ByteArray.mk #[32]).size := by rw [bs_size, List.length_append]; simp [ByteArray.size]; omega
          have hz3 : ¬ 9223372036854775807 < (bs (P ++ spaced ((rows.map digsOf).take j)) ++ ByteArray.mk #[32]).size + (bs (digsOf y)).size := by rw [show bs (P ++ spaced ((rows.map digsOf).take j)) ++ ByteArray.mk #[32] = bs ((P ++ spaced ((rows.map digsOf).take j)) ++ [32]) from bs_app _ [32], bs_size, bs_size, List.length_append, List.length_append]; simp; omega
          have HN2 : Hid (bs (P ++ spaced ((rows.map digsOf).take (j + 1))) = bs (P ++ spaced ((rows.map digsOf).take j)) ++ ByteArray.mk #[32] ++ bs (digsOf y)) := Lib.hid (by rw [HS.out, if_neg hj0, show bs (P ++ spaced ((rows.map digsOf).take j)) ++ ByteArray.mk #[32] = bs ((P ++ spaced ((rows.map digsOf).take j)) ++ [32]) from bs_app _ [32], bs_app]; simp)
          go_wp2_with fail
          refine HD.out.mono ?_
          rintro e w8 ⟨rfl, z8⟩
          have s5 := z8.size
          have hb5 := on hb3 z8
          replace a_0 := bxc z8 a_0
          replace a_1 := bxc z8 a_1
          replace hlc := on hlc z8
          replace c0 := bxc z8 c0
          go_wp2_with fail
          go_roundw
          case rel => exact ⟨j + 1, by omega, by go_num, by rw [HN2.out], hlc⟩
          case measure => simp [intOf]; omega
      · have HF2 : Hid (fmtAn (vs, rows) = P ++ spaced ((rows.map digsOf).take j)) := Lib.hid (by rw [HE.out, List.take_of_length_le (by rw [List.length_map]; omega)])
        go_wp2_with fail
        go_ret
        exact ⟨by rw [HF2.out]; rfl, hb3⟩

end Go.Proofs.YtpgfkjcekhifiaaGreat

namespace Go.Proofs.YtpgfkjcekhifiaaGreat

open Go.RowKit

set_option linter.unusedVariables false

set_option linter.unusedSimpArgs false

set_option synthInstance.maxSize 2000

set_option synthInstance.maxHeartbeats 400000

theorem step_app2 {ops : Array Oper} {o : Oper} {a : Act} {K : Act → World → Prop} {Q : Exit → Act → World → Prop} {E : Prop} {w w' : World} {s x : Operand} {t t' : TypeId} {vs vx v' : Value}
    {ty : TypeId} (hrun : (Builtin.append_ #[t, t'] ty #[vs, vx]).run Tryz.prog w = .ok v' w') (hty : o.type = ty) (hgd : o.guard = none)
    (ho : o.op = .call { callee := .builtin .append, args := #[s, x], argTypes := #[t, t'] }) (hs : a.eval s = vs) (hx : a.eval x = vx)
    (h : K (a.put o.dst v') w') :
    if Region.wanted o (yielded ops a.tmps) = true then Oper.wp Tryz.prog o a w K Q else E := by
  have hw : Region.wanted o (yielded ops a.tmps) = true := by simp [Region.wanted, hgd]
  rw [if_pos hw]
  unfold Oper.wp execOp
  simp only [ho, resolve, invoke, builtin, Sem.run_bind, Sem.run_pure, Result.andThen_ok, List.map_toArray, List.map_cons, List.map_nil, hs, hx, hty, hrun]
  exact h

def wordA (a : DA) : List UInt8 := a.1.data.toList ++ [40] ++ namesOf a.2 ++ [41]

def fmtQ (q : DQ) : List UInt8 := if validQ q then spaced (q.2.map wordA) else []

theorem wordA_bs (ml : List UInt8) (vs : List Int) : wordA (bs ml, vs) = ml ++ [40] ++ namesOf vs ++ [41] := by simp [wordA]

theorem name_len {ml : List UInt8} (h : nameB (bs ml) = true) : ml.length = 1 := by
  simp only [nameB, Bool.and_eq_true, decide_eq_true_eq] at h
  have := h.1
  rwa [bs_size] at this

theorem lens_atoms : ∀ {xs : List DA}, (∀ a ∈ xs, (wordA a).length ≤ 6) → Lib.lens (xs.map wordA) ≤ 6 * xs.length
  | [], _ => by simp [Lib.lens]
  | a :: t, h => by
    have h1 := h a (by simp)
    have h2 := lens_atoms (fun b hb => h b (List.mem_cons_of_mem a hb))
    simp only [Lib.lens, List.map_cons, List.sum_cons, List.length_cons] at h2 ⊢
    omega

theorem word_len {q : DQ} {n : Nat} (hq : QOk q n) : ∀ a ∈ q.2, (wordA a).length ≤ 6 := by
  intro a ha
  have h1 := hq.name a ha
  have h2 := hq.vlen a ha
  have h3 := namesOf_len a.2
  simp only [nameB, Bool.and_eq_true, decide_eq_true_eq] at h1
  have h4 : a.1.data.toList.length = 1 := h1.1
  simp only [wordA, List.length_append, List.length_cons, List.length_nil]
  omega

set_option maxRecDepth 100000 in
set_option maxHeartbeats 2000000 in
theorem fmtQ_spec (cs : List Value) (x : DQ) (w : World) (h : rQ.rep w cs x) :
    Calls Tryz.prog 105 #[.agg cs.toArray] w fun e w' => e = .returned (.string (bs (fmtQ x))) ∧ Below w.heap.size w w' := by
  have HV := Lib.hid (fun W (hW : Below w.heap.size w W) => validQ_spec cs x W (rQ.mono h hW))
  obtain ⟨qb, qn, qc, rfl, hi2, gq⟩ := rQ_open h
  obtain ⟨ok, hok⟩ : ∃ ok, validQ x = ok := ⟨_, rfl⟩
  rw [hok] at HV
  have HF : Hid (fmtQ x = if ok then spaced (x.2.map wordA) else []) := Lib.hid (by rw [fmtQ, hok])
  have HQ : Hid (ok = true → x.2.length ≤ 4 ∧ (∀ a ∈ x.2, (wordA a).length ≤ 6) ∧ (∀ a ∈ x.2, nameB a.1 = true ∧ a.2.length ≤ 3)) := Lib.hid (fun h9 => by
    obtain ⟨n, hq⟩ := QOk.of (hok.trans h9)
    exact ⟨hq.len, word_len hq, fun a ha => ⟨hq.name a ha, hq.vlen a ha⟩⟩)
  obtain ⟨vq, xs⟩ := x
  simp only at hi2 gq HQ
  have t0 := rS_sl gq
  have hl := t0.len
  have hqs := t0.small
  clear h gq hok
  have hb0 : Below w.heap.size w w := Below.refl _ _
  go_enter Tryz.func105, Tryz.ntmps105
  obtain ⟨w1, hw1⟩ : ∃ W, W = w.alloc (.cells #[.int .i64 vq, .slice qb qn qc] 29) := ⟨_, rfl⟩
  have z1 : Below w.heap.size w w1 := by rw [hw1]; exact (Below.refl _ _).alloc (Nat.le_refl _) _
  have s1 : w1.heap.size = w.heap.size + 1 := by rw [hw1]; simp
  have hb1 := on hb0 z1
  have q_0 : w1.cell? ⟨w.heap.size, 0, none⟩ = some (.int .i64 vq) := by rw [hw1]; exact box_cell (Below.refl _ _) rfl
  have q_1 : w1.cell? ⟨w.heap.size, 1, none⟩ = some (.slice qb qn qc) := by rw [hw1]; exact box_cell (Below.refl _ _) rfl
  have raw1_q_0 := q_0
  have raw1_q_1 := q_1
  rw [hw1] at raw1_q_0 raw1_q_1
  go_wp2_with fail
  rw [← hw1]
  clear hw1
  clear raw1_q_0 raw1_q_1
  go_loopw [3, 4] (fun s k wr => ∃ j : Nat, j ≤ qn ∧ (ok = false → j = 0) ∧ k = .int .i64 j ∧ s = .string (bs (spaced ((xs.map wordA).take j))) ∧ Below w1.heap.size w1 wr) (fun _ k _ => qn - (intOf k).toNat)
  case atStart => exact ⟨0, Nat.zero_le _, fun _ => rfl, rfl, by rw [List.take_zero]; rfl, Below.refl _ _⟩
  case round =>
    obtain ⟨j, hj, hj9, rfl, rfl, hdr⟩ := hrel
    have hlc := hdr
    have s2 := hdr.size
    have hb2 := on hb1 hdr
    replace q_0 := bxc hdr q_0
    replace q_1 := bxc hdr q_1
    by_cases hlt : j < qn
    · go_wp2_with fail
      refine (HV.out _ hb2).mono ?_
      rintro e w5 ⟨rfl, z5⟩
      have s3 := z5.size
      have hb3 := on hb2 z5
      replace q_0 := bxc z5 q_0
      replace q_1 := bxc z5 q_1
      replace hlc := on hlc z5
      cases ok with
      | false =>
        obtain rfl : j = 0 := hj9 rfl
        have HE : Hid (fmtQ (vq, xs) = []) := Lib.hid (by rw [HF.out]; rfl)
        go_wp2_with fail
        go_ret
        exact ⟨by rw [HE.out]; rfl, hb3⟩
      | true =>
        obtain ⟨wr, rfl⟩ : ∃ W, W = w5 := ⟨_, rfl⟩
        obtain ⟨hx4, hw6, hnm⟩ := HQ.out rfl
        have hlens := lens_atoms hw6
        have hpj := lens_take (xs.map wordA) j
        rw [List.length_map] at hpj
        obtain ⟨b1, o1, cs, a, rfl, hx, hr, hc⟩ := t0.at hlt
        obtain ⟨m1, vs⟩ := a
        obtain ⟨ml, rfl⟩ : ∃ ml, m1 = bs ml := ⟨_, (bs_of m1).symm⟩
        obtain ⟨vb, vn, vc, rfl, hs, gv⟩ := rA_open hr
        have hxm := List.mem_of_getElem? hx.out
        have hnl := name_len (hnm _ hxm).1
        have hvl := (hnm _ hxm).2
        simp only at hvl gv
        have hno := namesOf_len vs
        have e_lt : b1 < w.heap.size := cell_lt (hc 0 _ rfl)
        have e_0 : wr.cell? ⟨b1, o1 + j * 2, none⟩ = some (.string (bs ml)) := (hb3.cell (p := ⟨b1, o1 + j * 2, none⟩) e_lt).trans (by have h9 := hc 0 _ rfl; rw [← Nat.add_assoc] at h9; exact h9)
        have e_1 : wr.cell? ⟨b1, o1 + j * 2 + 1, none⟩ = some (.slice vb vn vc) := (hb3.cell (p := ⟨b1, o1 + j * 2 + 1, none⟩) e_lt).trans (by have h9 := hc 1 _ rfl; rw [← Nat.add_assoc] at h9; exact h9)
        have HS := Lib.hid (spaced_snoc (ws := xs.map wordA) (j := j) (y := wordA (bs ml, vs)) (by rw [List.getElem?_map, hx.out]; rfl))
        have HWB := Lib.hid (wordA_bs ml vs)
        have HN := Lib.hid (fun n9 => names_spec (.slice vb vn vc) vs (wr.drewN n9) (rI.mono gv ((hb3).trans ((Drew.below ⟨n9, rfl⟩ _)))) (by omega))
        have hjq : (j : Int) < (qn : Int) := by omega
        clear hc hx hr hs hxm hnm hw6 gv HQ
        by_cases hj0 : j = 0
        · skip
          subst hj0
          have e9_0 : wr.cell? ⟨b1, o1, none⟩ = some (.string (bs ml)) := by simpa using e_0
          have e9_1 : wr.cell? ⟨b1, o1 + 1, none⟩ = some (.slice vb vn vc) := by simpa using e_1
          clear e_0 e_1
          have HEQ : Hid (bs (spaced ((xs.map wordA).take (0 + 1))) = (((bs (spaced []) ++ bs ml) ++ ByteArray.mk #[40]) ++ bs (namesOf vs)) ++ ByteArray.mk #[41]) := Lib.hid (by rw [HS.out, if_pos rfl, HWB.out, ← bs_app, ← bs_app, ← bs_app, show bs (spaced []) ++ bs ml = bs ml from by rw [bs_app]; rfl])
          have hz1 : ¬ 9223372036854775807 < (bs (spaced [])).size + (bs ml).size := by simp [bs, ByteArray.size] at *; omega
          have hz2 : ¬ 9223372036854775807 < (bs (spaced []) ++ bs ml).size + (ByteArray.mk #[40]).size := by simp [bs, ByteArray.size] at *; omega
          have hz3 : ¬ 9223372036854775807 < (bs (spaced []) ++ bs ml ++ ByteArray.mk #[40]).size + (bs (namesOf vs)).size := by simp [bs, ByteArray.size] at *; omega
          have hz4 : ¬ 9223372036854775807 < (bs (spaced []) ++ bs ml ++ ByteArray.mk #[40] ++ bs (namesOf vs)).size + (ByteArray.mk #[41]).size := by simp [bs, ByteArray.size] at *; omega
          go_wp2_with fail
          go_quiet ((go_at_call 40; exact quiet_same (HN.out _)))
          go_wp2_with fail
          go_roundw
          case rel => exact ⟨0 + 1, by omega, (fun h9 => by cases h9), by go_num, by rw [HEQ.out], onD hlc ⟨_, rfl⟩⟩
          case measure => simp [intOf]; omega
        · skip
          have hj1 : (0 : Int) < (j : Int) := by omega
          have HEQ : Hid (bs (spaced ((xs.map wordA).take (j + 1))) = ((((bs (spaced ((xs.map wordA).take j)) ++ ByteArray.mk #[32]) ++ bs ml) ++ ByteArray.mk #[40]) ++ bs (namesOf vs)) ++ ByteArray.mk #[41]) := Lib.hid (by rw [HS.out, if_neg hj0, HWB.out]; simp only [← bs_app, ByteArray.append_assoc])
          have hz0 : ¬ 9223372036854775807 < (bs (spaced ((xs.map wordA).take j))).size + (ByteArray.mk #[32]).size := by simp [bs, ByteArray.size] at *; omega
          have hz1 : ¬ 9223372036854775807 < ((bs (spaced ((xs.map wordA).take j)) ++ ByteArray.mk #[32])).size + (bs ml).size := by simp [bs, ByteArray.size] at *; omega
          have hz2 : ¬ 9223372036854775807 < ((bs (spaced ((xs.map wordA).take j)) ++ ByteArray.mk #[32]) ++ bs ml).size + (ByteArray.mk #[40]).size := by simp [bs, ByteArray.size] at *; omega
          have hz3 : ¬ 9223372036854775807 < ((bs (spaced ((xs.map wordA).take j)) ++ ByteArray.mk #[32]) ++ bs ml ++ ByteArray.mk #[40]).size + (bs (namesOf vs)).size := by simp [bs, ByteArray.size] at *; omega
          have hz4 : ¬ 9223372036854775807 < ((bs (spaced ((xs.map wordA).take j)) ++ ByteArray.mk #[32]) ++ bs ml ++ ByteArray.mk #[40] ++ bs (namesOf vs)).size + (ByteArray.mk #[41]).size := by simp [bs, ByteArray.size] at *; omega
          go_wp2_with fail
          go_quiet ((go_at_call 40; exact quiet_same (HN.out _)))
          go_wp2_with fail
          go_roundw
          case rel => exact ⟨j + 1, by omega, (fun h9 => by cases h9), by go_num, by rw [HEQ.out], onD hlc ⟨_, rfl⟩⟩
          case measure => simp [intOf]; omega
    · have HE : Hid (fmtQ (vq, xs) = spaced ((xs.map wordA).take j)) := Lib.hid (by
        rw [HF.out]
        cases ok with
        | true => rw [if_pos rfl, List.take_of_length_le (by rw [List.length_map]; omega)]
        | false => obtain rfl : j = 0 := hj9 rfl; rfl)
      go_wp2_with fail
      go_ret
      exact ⟨by rw [HE.out]; rfl, hb2⟩

end Go.Proofs.YtpgfkjcekhifiaaGreat
