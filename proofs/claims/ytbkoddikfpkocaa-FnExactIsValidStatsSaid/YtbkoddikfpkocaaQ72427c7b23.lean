/- Texts joined for one claim: GrpS2, GrpW, StatP, StatI, StatS, StatV, NewT. -/
import Derived.Test.YtbkoddikfpkocaaQ9d3720e7da
import Derived.Deep.RegionHeld3

/- Contracts: groups of a table and their counts, by the reference (2: owned as one). -/
namespace Go.Proofs.Ytbkoddikfpkocaa
open Go.RowKit
set_option linter.unusedVariables false
set_option linter.unusedSimpArgs false
set_option synthInstance.maxSize 2000
set_option synthInstance.maxHeartbeats 400000

/-- Two slices that grew side by side, as one thing of the call's own. -/
theorem acc_pair {lo1 S1 hi1 lo2 S2 hi2 B C : Nat} {w : World} {v u : Value} {xs : List (List Int)} {ys : List Int} (h : Acc 24 oI lo1 S1 hi1 w v xs) (k : Acc 3 O.int lo2 S2 hi2 w u ys) (h1 : lo1 ≠ lo2) (h2 : lo2 < S1) (h3 : lo1 < S2) (h4 : hi1 ≤ S2) (h5 : B ≤ lo1) (h6 : B ≤ lo2) (h7 : B ≤ S1) (h8 : B ≤ S2) (h9 : hi1 ≤ C) (h10 : hi2 ≤ C) :
    Own (O.pair oII oI) B C w [v, u] (xs, ys) := by
  obtain ⟨fv, a1, a2, a3⟩ := h
  obtain ⟨fu, b1, b2, b3⟩ := k
  refine ⟨fv ++ fu, ⟨[v], [u], fv, fu, rfl, rfl, a1, b1⟩, List.nodup_append.2 ⟨a2, b2, fun p hp q hq e => by subst e; have := a3 p hp; have := b3 p hq; omega⟩, fun p hp => ?_⟩
  rcases List.mem_append.1 hp with hp | hp
  · have := a3 p hp; omega
  · have := b3 p hp; omega

set_option maxRecDepth 100000 in
set_option maxHeartbeats 4000000 in
theorem groups_spec2 (v : Value) (cs : List Value) (t : DT) (cols : List Int) (w : World) (ht : rT.rep w cs t) (h' : rI.rep w [v] cols) :
    Calls Try.prog 61 #[.agg cs.toArray, v] w fun e w' => ∃ b1 n1 c1 b2 n2 c2, e = .returned (.tuple #[.slice b1 n1 c1, .slice b2 n2 c2]) ∧ Own (O.pair oII oI) w.heap.size w'.heap.size w' [.slice b1 n1 c1, .slice b2 n2 c2] (grpV t cols, grpN t cols) ∧ Below w.heap.size w w' := by
  obtain ⟨b, m, d, hv⟩ := rI_form h'
  simp at hv; subst hv
  obtain ⟨ub, un, uc, rfl, hs, hi, g1⟩ := rT_open ht
  have i0 := rI_ints h'
  have t0 := rS_sl g1
  have hl := t0.len
  have hn := t0.small
  have hml := i0.len
  have HVT := Lib.hid (fun W (hW : Below w.heap.size w W) => l10Cols_any _ t b m d cols W (rT.mono ht hW) (i0.below hW))
  obtain ⟨s, ar, rows⟩ := t
  simp only at hs hi g1 HVT t0 hl
  have HAR : Hid (colsT (s, ar, rows) cols = true → TOk (s, ar, rows) ∧ colsB ar cols = true) := Lib.hid (fun h => by rw [colsT, Bool.and_eq_true] at h; exact ⟨TOk.of h.2, h.1⟩)
  have HE0 : Hid (colsT (s, ar, rows) cols = false → grpV (s, ar, rows) cols = [] ∧ grpN (s, ar, rows) cols = []) := Lib.hid (fun h => by simp [grpV, grpN, h])
  have HE1 : Hid (colsT (s, ar, rows) cols = true → grpV (s, ar, rows) cols = canon (selRows rows cols) ∧ grpN (s, ar, rows) cols = countsOf (canon (selRows rows cols)) (selRows rows cols)) := Lib.hid (fun h => by simp [grpV, grpN, h, groups])
  obtain ⟨V, hV⟩ : ∃ V, colsT (s, ar, rows) cols = V := ⟨_, rfl⟩
  rw [hV] at HAR HE0 HE1
  have HVT2 : Hid (∀ W, Below w.heap.size w W → Calls Try.prog 133 #[.agg #[.string s, .int .i64 ar, .slice ub un uc], .slice b m d] W fun e w' => e = .returned (.bool V) ∧ Below W.heap.size W w') := Lib.hid (fun W hW => by rw [← hV]; exact HVT.out W hW)
  clear hV ht h' g1 hs hi HVT
  have hb0 : Below w.heap.size w w := Below.refl _ _
  go_enter Try.func61, Try.ntmps61
  obtain ⟨w1, hw1⟩ : ∃ W, W = w.alloc (.cells #[.string s, .int .i64 ar, .slice ub un uc] 34) := ⟨_, rfl⟩
  have z1 : Below w.heap.size w w1 := by rw [hw1]; exact (Below.refl _ _).alloc (Nat.le_refl _) _
  have s1 : w1.heap.size = w.heap.size + 1 := by rw [hw1]; simp
  have hb1 := on hb0 z1
  have t_0 : w1.cell? ⟨w.heap.size, 0, none⟩ = some (.string s) := by rw [hw1]; exact box_cell (Below.refl _ _) rfl
  have t_1 : w1.cell? ⟨w.heap.size, 1, none⟩ = some (.int .i64 ar) := by rw [hw1]; exact box_cell (Below.refl _ _) rfl
  have t_2 : w1.cell? ⟨w.heap.size, 2, none⟩ = some (.slice ub un uc) := by rw [hw1]; exact box_cell (Below.refl _ _) rfl
  have raw1_t_0 := t_0
  have raw1_t_1 := t_1
  have raw1_t_2 := t_2
  rw [hw1] at raw1_t_0 raw1_t_1 raw1_t_2
  obtain ⟨w2, hw2⟩ : ∃ W, W = w1.alloc (.cells #[] 24) := ⟨_, rfl⟩
  have z2 : Below w1.heap.size w1 w2 := by rw [hw2]; exact (Below.refl _ _).alloc (Nat.le_refl _) _
  have s2 : w2.heap.size = w1.heap.size + 1 := by rw [hw2]; simp
  have hb2 := on hb1 z2
  replace t_0 := (z2.cell (p := ⟨w.heap.size, 0, none⟩) (by simp only []; omega)).trans t_0
  replace t_1 := (z2.cell (p := ⟨w.heap.size, 1, none⟩) (by simp only []; omega)).trans t_1
  replace t_2 := (z2.cell (p := ⟨w.heap.size, 2, none⟩) (by simp only []; omega)).trans t_2
  have he1 : ∀ S, Acc 24 oI w1.heap.size S w2.heap.size w2 (.slice (some ⟨w.heap.size + 1, 0, none⟩) 0 0) [] := fun S => by rw [hw2]; exact Acc.empty (by omega) (by first | (simp; done) | (simp; omega))
  have raw2_t_0 := t_0
  have raw2_t_1 := t_1
  have raw2_t_2 := t_2
  rw [hw2, hw1] at raw2_t_0 raw2_t_1 raw2_t_2
  obtain ⟨w3, hw3⟩ : ∃ W, W = w2.alloc (.cells #[] 3) := ⟨_, rfl⟩
  have z3 : Below w2.heap.size w2 w3 := by rw [hw3]; exact (Below.refl _ _).alloc (Nat.le_refl _) _
  have s3 : w3.heap.size = w2.heap.size + 1 := by rw [hw3]; simp
  have hb3 := on hb2 z3
  replace t_0 := (z3.cell (p := ⟨w.heap.size, 0, none⟩) (by simp only []; omega)).trans t_0
  replace t_1 := (z3.cell (p := ⟨w.heap.size, 1, none⟩) (by simp only []; omega)).trans t_1
  replace t_2 := (z3.cell (p := ⟨w.heap.size, 2, none⟩) (by simp only []; omega)).trans t_2
  replace he1 := fun S => (he1 S).below z3 (by omega)
  have he2 : ∀ S, Acc 3 O.int w2.heap.size S w3.heap.size w3 (.slice (some ⟨w.heap.size + 1 + 1, 0, none⟩) 0 0) [] := fun S => by rw [hw3]; exact Acc.empty (by omega) (by first | (simp; done) | (simp; omega))
  have raw3_t_0 := t_0
  have raw3_t_1 := t_1
  have raw3_t_2 := t_2
  rw [hw3, hw2, hw1] at raw3_t_0 raw3_t_1 raw3_t_2
  go_wp2_with fail
  rw [← hw1]
  rw [← hw2]
  rw [← hw3]
  clear hw3 hw2 hw1
  clear raw1_t_0 raw1_t_1 raw1_t_2 raw2_t_0 raw2_t_1 raw2_t_2 raw3_t_0 raw3_t_1 raw3_t_2
  refine (HVT2.out _ hb3).mono ?_
  rintro e w9 ⟨rfl, z9⟩
  have s4 := z9.size
  have hb4 := on hb3 z9
  replace t_0 := (z9.cell (p := ⟨w.heap.size, 0, none⟩) (by simp only []; omega)).trans t_0
  replace t_1 := (z9.cell (p := ⟨w.heap.size, 1, none⟩) (by simp only []; omega)).trans t_1
  replace t_2 := (z9.cell (p := ⟨w.heap.size, 2, none⟩) (by simp only []; omega)).trans t_2
  replace he1 := fun S => (he1 S).below z9 (by omega)
  replace he2 := fun S => (he2 S).below z9 (by omega)
  cases V with
  | false =>
    obtain ⟨hE1, hE2⟩ := HE0.out rfl
    have H1 := Lib.hid hE1
    have H2 := Lib.hid hE2
    have HO1 := Lib.hid (acc_pair (B := w.heap.size) (C := w9.heap.size) (he1 w9.heap.size) (he2 w9.heap.size) (by omega) (by omega) (by omega) (by omega) (by omega) (by omega) (by omega) (by omega) (by omega) (by omega))
    clear hE1 hE2 he1 he2
    go_wp2_with fail
    refine bodyPost_ret (v := .tuple #[.slice (some ⟨w.heap.size + 1, 0, none⟩) 0 0, .slice (some ⟨w.heap.size + 1 + 1, 0, none⟩) 0 0]) (by simp [results, Try.results61, go_sem]) rfl ⟨_, _, _, _, _, _, rfl, by rw [H1.out, H2.out]; exact HO1.out, hb4⟩
  | true =>
    obtain ⟨hT, hcb⟩ := HAR.out rfl
    have hA := hT.ar
    have hr8 := hT.len
    simp only at hA hr8
    have hm3 := colsB_len' (by omega) hcb
    have hcl3 : cols.length ≤ 3 := by omega
    obtain ⟨hE1, hE2⟩ := HE1.out rfl
    have H1 := Lib.hid hE1
    have H2 := Lib.hid hE2
    have hm4 : m ≤ 3 := by omega
    have hun8 : un ≤ 8 := by omega
    have I0 := Lib.hid (fun W (hW : Below w.heap.size w W) => i0.below hW)
    clear hE1 hE2 HE0 HE1 HVT2 HAR hml i0 hT hcb hm3
    go_wp2_with fail
    go_loopw [6, 8] (fun v k wr => ∃ j : Nat, j ≤ un ∧ k = .int .i64 j ∧ Acc 24 oI w1.heap.size w9.heap.size wr.heap.size wr v (canon (selRows (rows.take j) cols)) ∧ Below w9.heap.size w9 wr) (fun _ k _ => un - (intOf k).toNat)
    case atStart => exact ⟨0, Nat.zero_le _, rfl, by rw [List.take_zero]; exact (he1 _).wide (Nat.le_refl _) (by omega), Below.refl _ _⟩
    case round =>
      obtain ⟨j, hj, rfl, hacc, hdr⟩ := hrel
      have hlc := hdr
      clear he1
      have s5 := hdr.size
      have hb5 := on hb4 hdr
      replace t_0 := (hdr.cell (p := ⟨w.heap.size, 0, none⟩) (by simp only []; omega)).trans t_0
      replace t_1 := (hdr.cell (p := ⟨w.heap.size, 1, none⟩) (by simp only []; omega)).trans t_1
      replace t_2 := (hdr.cell (p := ⟨w.heap.size, 2, none⟩) (by simp only []; omega)).trans t_2
      replace he2 := fun S => (he2 S).below hdr (by omega)
      have hclen : (canon (selRows (rows.take j) cols)).length ≤ 8 := by have := canon_len (selRows (rows.take j) cols); rw [selRows_len] at this; have := List.length_take_le j rows; omega
      have hcrow : ∀ (i : Nat) (x : List Int), (canon (selRows (rows.take j) cols))[i]? = some x → x.length ≤ 3 := fun i x hx => by
        have h9 := canon_mem.1 (List.mem_of_getElem? hx)
        simp only [selRows, List.mem_map] at h9
        obtain ⟨y, _, rfl⟩ := h9
        have := sel_len y cols; omega
      by_cases hlt : j < un
      · obtain ⟨b0, o0, r1, m1, q1, x, rfl, hc, hx, hi, hq1, hq2⟩ := t0.row hlt
        have hclt : b0 < w.heap.size := cell_lt hc
        have c0 : wr.cell? ⟨b0, o0 + j, none⟩ = some (.slice r1 m1 q1) := (hb5.cell (p := ⟨b0, o0 + j, none⟩) hclt).trans hc
        have HX := Lib.hid (fun W (hW : Below w.heap.size w W) => hi.below hW)
        have HS := Lib.hid (canon_step (cs := cols) hx.out)
        have HCR := Lib.hid hcrow
        clear hc hx hi hl t0 hcrow
        go_wp2_with fail
        refine (sel_spec _ _ _ _ _ _ x cols _ (HX.out _ hb5) (I0.out _ hb5) (by omega)).mono ?_
        rintro e w8 ⟨ab, nb, cb, rfl, oy, z8⟩
        have s6 := z8.size
        have hb6 := on hb5 z8
        replace t_0 := (z8.cell (p := ⟨w.heap.size, 0, none⟩) (by simp only []; omega)).trans t_0
        replace t_1 := (z8.cell (p := ⟨w.heap.size, 1, none⟩) (by simp only []; omega)).trans t_1
        replace t_2 := (z8.cell (p := ⟨w.heap.size, 2, none⟩) (by simp only []; omega)).trans t_2
        replace he2 := fun S => (he2 S).below z8 (by omega)
        replace hlc := on hlc z8
        replace c0 := (z8.cell (p := ⟨b0, o0 + j, none⟩) (by simp only []; omega)).trans c0
        replace hacc := hacc.below z8 (by omega)
        obtain ⟨va, vn, vc, rfl⟩ := hacc.form3
        have hxl := sel_len x cols
        have HSR : Hid (rI.rep w8 [.slice ab nb cb] (sel x cols)) := Lib.hid (oy.rd reads_I)
        clear oy
        go_wp2_with fail
        refine (l4Put_any _ _ _ (sel x cols) _ hacc.rdII HSR.out (by omega) (fun i y hy => by have := HCR.out i y hy; omega) (by omega)).mono ?_
        rintro e wP ⟨pa, pn, pc, rfl, op, zP⟩
        have sP := zP.size
        replace hlc := on hlc zP
        rw [← HS.out] at op
        go_wp2_with fail
        go_roundw
        case rel => exact ⟨j + 1, by omega, by go_num, (Acc.of op).wide (by omega) (Nat.le_refl _), hlc⟩
        case measure => simp [intOf]; omega
      · obtain rfl : un = j := by omega
        obtain ⟨wl, rfl⟩ : ∃ W, W = wr := ⟨_, rfl⟩
        rw [List.take_of_length_le (by omega)] at hacc
        obtain ⟨va, vn, vc, rfl⟩ := hacc.form3
        obtain ⟨all, hall⟩ : ∃ all, selRows rows cols = all := ⟨_, rfl⟩
        have HALL : Hid (∀ (i : Nat) (x : List Int), rows[i]? = some x → all[i]? = some (sel x cols)) := Lib.hid (fun i x h => by rw [← hall]; exact selRows_get h)
        have hal : all.length = un := by rw [← hall, selRows_len]; exact hl
        rw [hall] at hacc H1 H2
        obtain ⟨gs, hgs⟩ : ∃ gs, canon all = gs := ⟨_, rfl⟩
        rw [hgs] at hacc H1 H2
        have hgl := (rS_sl hacc.rdII).len
        have hgl8 : gs.length ≤ 8 := by rw [← hgs]; have := canon_len all; omega
        have hvn : vn ≤ 8 := by omega
        have HAL := Lib.hid hal
        have HGL := Lib.hid hgl
        clear hall hgs hclen hcrow hal hl hgl
        clear hlc
        go_wp2_with fail
        go_loopw [7, 11] (fun v k wr => ∃ j : Nat, j ≤ vn ∧ k = .int .i64 j ∧ Acc 3 O.int w2.heap.size wl.heap.size wr.heap.size wr v (countsOf (gs.take j) all) ∧ Turn w2.heap.size (w2.heap.size + 1) wl wr) (fun _ k _ => vn - (intOf k).toNat)
        case atStart => exact ⟨0, Nat.zero_le _, rfl, by rw [List.take_zero]; exact (he2 _).wide (Nat.le_refl _) (by omega), turn_refl _ _ _⟩
        case round =>
          obtain ⟨j, hj, rfl, hcc, hdr⟩ := hrel
          have hld := hdr
          clear he2
          obtain ⟨wo, rfl⟩ : ∃ W, W = wr := ⟨_, rfl⟩
          replace hacc := Acc.turn hacc hdr (show w1.heap.size < w2.heap.size ∨ w2.heap.size + 1 ≤ w1.heap.size by omega) (show w2.heap.size + 1 ≤ w9.heap.size by omega) (Nat.le_refl _)
          have s7 := hdr.size
          have hb7 := hb5.trans ((hdr.below (by omega)).mono (by omega))
          replace t_0 := (hdr.cell (p := ⟨w.heap.size, 0, none⟩) (by simp only []; omega) (by simp only []; omega)).trans t_0
          replace t_1 := (hdr.cell (p := ⟨w.heap.size, 1, none⟩) (by simp only []; omega) (by simp only []; omega)).trans t_1
          replace t_2 := (hdr.cell (p := ⟨w.heap.size, 2, none⟩) (by simp only []; omega) (by simp only []; omega)).trans t_2
          by_cases hlt : j < vn
          · obtain ⟨b0, o0, r1, m1, q1, g, rfl, hc, hx, hig, _, _⟩ := (rS_sl hacc.rdII).row hlt
            have c0 := hc
            have hb0lt := cell_lt hc
            simp only at hb0lt
            have HIG := Lib.hid (fun W (hW : Below wo.heap.size wo W) => hig.below hW)
            have HS := Lib.hid (countsOf_step (all := all) hx.out)
            have H0 : Hid (cntRow g all = 0 + cntRow g (all.drop 0)) := Lib.hid (by simp)
            have hcl8 : (countsOf (gs.take j) all).length ≤ 8 := by rw [countsOf_len]; have := List.length_take_le j gs; omega
            clear hc hx hig
            have hle0 : Below wo.heap.size wo wo := Below.refl _ _
            go_wp2_with fail
            go_loopw [12, 13] (fun n i wr => ∃ i' c : Nat, i' ≤ un ∧ i = .int .i64 i' ∧ n = .int .i64 c ∧ c ≤ i' ∧ Hid (cntRow g all = c + cntRow g (all.drop i')) ∧ Below wo.heap.size wo wr) (fun _ i _ => un - (intOf i).toNat)
            case atStart => exact ⟨0, 0, Nat.zero_le _, rfl, rfl, Nat.le_refl _, H0.out, Below.refl _ _⟩
            case round =>
              obtain ⟨i, c, hi, rfl, rfl, hci, hC, hdr2⟩ := hrel
              have hle := hdr2
              clear H0 hle0
              have s8 := hdr2.size
              have hb8 := on hb7 hdr2
              replace t_0 := (hdr2.cell (p := ⟨w.heap.size, 0, none⟩) (by simp only []; omega)).trans t_0
              replace t_1 := (hdr2.cell (p := ⟨w.heap.size, 1, none⟩) (by simp only []; omega)).trans t_1
              replace t_2 := (hdr2.cell (p := ⟨w.heap.size, 2, none⟩) (by simp only []; omega)).trans t_2
              replace hacc := hacc.below hdr2 (by omega)
              replace c0 := (hdr2.cell (p := ⟨b0, o0 + j, none⟩) (by simp only []; omega)).trans c0
              replace hcc := hcc.below hdr2 (by omega)
              replace hld := hld.trans (turn_below hdr2 (Nat.le_refl _))
              by_cases hlti : i < un
              · obtain ⟨b3, o3, r3, m3, q3, x, rfl, hc3, hx3, hi3, _, _⟩ := t0.row hlti
                have hclt3 : b3 < w.heap.size := cell_lt hc3
                have c3 : wr.cell? ⟨b3, o3 + i, none⟩ = some (.slice r3 m3 q3) := (hb8.cell (p := ⟨b3, o3 + i, none⟩) hclt3).trans hc3
                have HX := Lib.hid (fun W (hW : Below w.heap.size w W) => hi3.below hW)
                obtain ⟨d, hd⟩ : ∃ d, d = cmpRows (sel x cols) g := ⟨_, rfl⟩
                have hrng : d = -1 ∨ d = 0 ∨ d = 1 := by rw [hd]; exact cmpRows_rng _ _
                have HC : Hid (cntRow g all = c + ((if d = 0 then 1 else 0) + cntRow g (all.drop (i + 1)))) := Lib.hid (by
                  rw [hC.out, cntRow_at (HALL.out i x hx3.out), hd]
                  by_cases e : sel x cols = g
                  · rw [if_pos e, if_pos ((cmpRows_zero _ _).2 e)]
                  · rw [if_neg e, if_neg (fun h => e ((cmpRows_zero _ _).1 h))])
                have HCMP : Hid (∀ (ab : Option Addr) (nb cb : Nat) (W : World), Ints W ab nb (sel x cols) → Below wo.heap.size wo W → Calls Try.prog 104 #[.slice ab nb cb, .slice r1 m1 q1] W fun e w' => e = .returned (.int .i64 d) ∧ Drew W w') := Lib.hid (fun ab nb cb W h1 h2 => by rw [hd]; exact cmp_spec ab r1 nb m1 cb q1 _ g W h1 (HIG.out W h2))
                clear hc3 hx3 hi3 t0 hd hC
                go_wp2_with fail
                refine (sel_spec _ _ _ _ _ _ x cols _ (HX.out _ hb8) (I0.out _ hb8) (by omega)).mono ?_
                rintro e w8 ⟨ab, nb, cb, rfl, oy, z8⟩
                have s9 := z8.size
                have hb9 := on hb8 z8
                replace t_0 := (z8.cell (p := ⟨w.heap.size, 0, none⟩) (by simp only []; omega)).trans t_0
                replace t_1 := (z8.cell (p := ⟨w.heap.size, 1, none⟩) (by simp only []; omega)).trans t_1
                replace t_2 := (z8.cell (p := ⟨w.heap.size, 2, none⟩) (by simp only []; omega)).trans t_2
                replace hacc := hacc.below z8 (by omega)
                replace c0 := (z8.cell (p := ⟨b0, o0 + j, none⟩) (by simp only []; omega)).trans c0
                replace hcc := hcc.below z8 (by omega)
                replace hld := hld.trans (turn_below z8 (Nat.le_refl _))
                replace hle := on hle z8
                replace c3 := (z8.cell (p := ⟨b3, o3 + i, none⟩) (by simp only []; omega)).trans c3
                have HIY : Hid (Ints w8 ab nb (sel x cols)) := Lib.hid (rI_ints (oy.rd reads_I))
                clear oy
                rcases hrng with rfl | rfl | rfl
                · go_wp2_with fail
                  refine (HCMP.out _ _ _ _ HIY.out hle).mono ?_
                  rintro e w10 ⟨rfl, z10⟩
                  replace z10 : Below w8.heap.size w8 w10 := z10.below _
                  have s11 := z10.size
                  have hb11 := on hb9 z10
                  replace t_0 := (z10.cell (p := ⟨w.heap.size, 0, none⟩) (by simp only []; omega)).trans t_0
                  replace t_1 := (z10.cell (p := ⟨w.heap.size, 1, none⟩) (by simp only []; omega)).trans t_1
                  replace t_2 := (z10.cell (p := ⟨w.heap.size, 2, none⟩) (by simp only []; omega)).trans t_2
                  replace hacc := hacc.below z10 (by omega)
                  replace c0 := (z10.cell (p := ⟨b0, o0 + j, none⟩) (by simp only []; omega)).trans c0
                  replace hcc := hcc.below z10 (by omega)
                  replace hld := hld.trans (turn_below z10 (Nat.le_refl _))
                  replace hle := on hle z10
                  replace c3 := (z10.cell (p := ⟨b3, o3 + i, none⟩) (by simp only []; omega)).trans c3
                  have HE : Hid (cntRow g all = c + cntRow g (all.drop (i + 1))) := Lib.hid (by rw [HC.out]; simp)
                  go_wp2_with fail
                  go_roundw
                  case rel => exact ⟨i + 1, c, by omega, by go_num, rfl, by omega, HE.out, hle⟩
                  case measure => simp [intOf]; omega
                · go_wp2_with fail
                  refine (HCMP.out _ _ _ _ HIY.out hle).mono ?_
                  rintro e w12 ⟨rfl, z12⟩
                  replace z12 : Below w8.heap.size w8 w12 := z12.below _
                  have s13 := z12.size
                  have hb13 := on hb9 z12
                  replace t_0 := (z12.cell (p := ⟨w.heap.size, 0, none⟩) (by simp only []; omega)).trans t_0
                  replace t_1 := (z12.cell (p := ⟨w.heap.size, 1, none⟩) (by simp only []; omega)).trans t_1
                  replace t_2 := (z12.cell (p := ⟨w.heap.size, 2, none⟩) (by simp only []; omega)).trans t_2
                  replace hacc := hacc.below z12 (by omega)
                  replace c0 := (z12.cell (p := ⟨b0, o0 + j, none⟩) (by simp only []; omega)).trans c0
                  replace hcc := hcc.below z12 (by omega)
                  replace hld := hld.trans (turn_below z12 (Nat.le_refl _))
                  replace hle := on hle z12
                  replace c3 := (z12.cell (p := ⟨b3, o3 + i, none⟩) (by simp only []; omega)).trans c3
                  have HE : Hid (cntRow g all = (c + 1) + cntRow g (all.drop (i + 1))) := Lib.hid (by rw [HC.out]; simp; omega)
                  go_wp2_with fail
                  go_roundw
                  case rel => exact ⟨i + 1, c + 1, by omega, by go_num, by go_num, by omega, HE.out, hle⟩
                  case measure => simp [intOf]; omega
                · go_wp2_with fail
                  refine (HCMP.out _ _ _ _ HIY.out hle).mono ?_
                  rintro e w14 ⟨rfl, z14⟩
                  replace z14 : Below w8.heap.size w8 w14 := z14.below _
                  have s15 := z14.size
                  have hb15 := on hb9 z14
                  replace t_0 := (z14.cell (p := ⟨w.heap.size, 0, none⟩) (by simp only []; omega)).trans t_0
                  replace t_1 := (z14.cell (p := ⟨w.heap.size, 1, none⟩) (by simp only []; omega)).trans t_1
                  replace t_2 := (z14.cell (p := ⟨w.heap.size, 2, none⟩) (by simp only []; omega)).trans t_2
                  replace hacc := hacc.below z14 (by omega)
                  replace c0 := (z14.cell (p := ⟨b0, o0 + j, none⟩) (by simp only []; omega)).trans c0
                  replace hcc := hcc.below z14 (by omega)
                  replace hld := hld.trans (turn_below z14 (Nat.le_refl _))
                  replace hle := on hle z14
                  replace c3 := (z14.cell (p := ⟨b3, o3 + i, none⟩) (by simp only []; omega)).trans c3
                  have HE : Hid (cntRow g all = c + cntRow g (all.drop (i + 1))) := Lib.hid (by rw [HC.out]; simp)
                  go_wp2_with fail
                  go_roundw
                  case rel => exact ⟨i + 1, c, by omega, by go_num, rfl, by omega, HE.out, hle⟩
                  case measure => simp [intOf]; omega
              · have hR : cntRow g all = c := by rw [hC.out, cntRow_end (by have := HAL.out; omega)]; rfl
                have HS2 : Hid (countsOf (gs.take (j + 1)) all = countsOf (gs.take j) all ++ [(c : Int)]) := Lib.hid (by rw [HS.out, hR])
                clear hR hC
                go_wp2_with ((at_builtin; refine wpList_accI _ _ _ _ _ hcc hld rfl (by omega) (by omega) ⟨by omega, by omega⟩ (by omega) rfl rfl rfl rfl rfl ?_; intro v' w1 hacc' ht' hsz'))
                rw [← HS2.out] at hacc'
                go_roundw
                case rel => exact ⟨j + 1, by omega, by go_num, hacc', ht'⟩
                case measure => simp [intOf]; omega
          · rw [List.take_of_length_le (by have := HGL.out; omega)] at hcc
            obtain ⟨ca, cn, cd, rfl⟩ := hcc.form3
            have HO1 := Lib.hid (acc_pair (B := w.heap.size) (C := wo.heap.size) hacc hcc (show w1.heap.size ≠ w2.heap.size by omega) (show w2.heap.size < w9.heap.size by omega) (show w1.heap.size < wl.heap.size by omega) (Nat.le_refl _) (by omega) (by omega) (by omega) (by omega) (by omega) (by omega))
            clear hacc hcc t0
            go_wp2_with fail
            refine bodyPost_ret (v := .tuple #[.slice va vn vc, .slice ca cn cd]) (by simp [results, Try.results61, go_sem]) rfl ⟨_, _, _, _, _, _, rfl, by rw [H1.out, H2.out]; exact HO1.out, hb7⟩

end Go.Proofs.Ytbkoddikfpkocaa

/- Contracts of GroupCounts, as the law's walk takes them. -/
namespace Go.Proofs.Ytbkoddikfpkocaa
open Go.RowKit
set_option linter.unusedVariables false

theorem groups_spec' (v : Value) (cs : List Value) (t : DT) (cols : List Int) (w : World) (ht : rT.rep w cs t) (h' : rI.rep w [v] cols) :
    Calls Try.prog 61 #[.agg cs.toArray, v] w fun e w' => ∃ u1 u2, e = .returned (.tuple #[u1, u2]) ∧ Own oII w.heap.size w'.heap.size w' [u1] (grpV t cols) ∧ Own oI w.heap.size w'.heap.size w' [u2] (grpN t cols) ∧ Below w.heap.size w w' :=
  (groups_spec v cs t cols w ht h').mono fun e w' ⟨_, _, _, _, _, _, he, h1, h2, h3⟩ => ⟨_, _, he, h1, h2, h3⟩
theorem groups_impl' (v : Value) (cs : List Value) (t : DT) (cols : List Int) (w : World) (ht : rT.rep w cs t) (h' : rI.rep w [v] cols) :
    Calls Try.prog 63 #[.agg cs.toArray, v] w fun e w' => ∃ u1 u2, ∃ wm : World, e = .returned (.tuple #[u1, u2]) ∧ Own oII w.heap.size wm.heap.size w' [u1] (grpV t cols) ∧ Own oI wm.heap.size w'.heap.size w' [u2] (grpN t cols) ∧ (w.heap.size ≤ wm.heap.size ∧ wm.heap.size ≤ w'.heap.size) ∧ Below w.heap.size w w' :=
  (groups_impl v cs t cols w ht h').mono fun e w' ⟨_, _, _, _, _, _, wm, he, h1, h2, h3, h4, h5⟩ => ⟨_, _, wm, he, h1, h2, ⟨h3, h4⟩, h5⟩

end Go.Proofs.Ytbkoddikfpkocaa

/- Statistics of tables: what they are, and how a list of groups grows that shares its columns. -/
namespace Go.Proofs.Ytbkoddikfpkocaa
open Go.RowKit
set_option linter.unusedVariables false
set_option linter.unusedSimpArgs false
set_option synthInstance.maxSize 2000
set_option synthInstance.maxHeartbeats 400000

def grpOf (t : DT) (cs : List Int) : DGs := (cs, grpV t cs, grpN t cs)
/-- StatsOfTable. -/
def statsOf (t : DT) : DTs := if validT t then (t.1, t.2.1, (t.2.2.length : Int), (colSubsets t.2.1).map (grpOf t)) else (⟨#[]⟩, 0, 0, [])
theorem infoGs : (Try.prog.info? 144).map (fun i => (i.zero, i.size, i.bytes)) = some (some (.agg #[.slice none 0 0, .slice none 0 0, .slice none 0 0]), 3, 72) := by kernel_rfl

/-- append of one element, run: only v's own block turns. -/
theorem run_app_own {α : Type} {T E size bytes : Nat} {z : Value} (hT : Try.prog.underlying T = some (.slice E)) (hE : (Try.prog.info? E).map (fun i => (i.zero, i.size, i.bytes)) = some (some z, size, bytes)) (hz : z.cells.size = size) (hpos : 0 < size) (hby : bytes ≤ 1000)
    {o' : OS α} (hsz : o'.size = size) {W W1 : World} (ty : TypeId) (v : Value) (xs : List α) (c : List Value) (y : α) (fv fy : List Nat)
    (hv : (O.slice E o').rep W [v] xs fv) (hnd : fv.Nodup) (hyr : o'.rep W c y fy) (hynd : fy.Nodup) (hdis : ∀ k ∈ fy, k ∉ fv) (hone : ∀ u ∈ c, u.oneCell' = true) (hn : xs.length ≤ 100000000) (hW1 : W1 = W.alloc (.cells c.toArray E)) :
    ∃ a n cp w' fv', (Builtin.append_ #[T, T] ty #[v, .slice (some ⟨W.heap.size, 0, none⟩) 1 1]).run Try.prog W1 = .ok (.slice a n cp) w' ∧ (O.slice E o').rep w' [.slice a n cp] (xs ++ [y]) fv' ∧ fv'.Nodup ∧ (∀ k ∈ fv', k ∈ fv ∨ k ∈ fy ∨ (W.heap.size < k ∧ k < w'.heap.size)) ∧ W.heap.size < w'.heap.size ∧ (w'.os = W.os ∧ w'.tape = W.tape ∧ w'.output = W.output) ∧ (∀ k, k < W.heap.size → k ∉ bl v → w'.heap[k]? = W.heap[k]?) ∧ (∀ k ∈ bl (.slice a n cp), k ∈ bl v ∨ W.heap.size < k) := by
  subst hW1
  obtain ⟨i, hi, hz0, hz1, hz2⟩ := info_parts hE
  have hlt9 := (O.slice E o').lt hv
  obtain ⟨v1, css, fps, hv1, rfl, hrow, hrows⟩ := hv
  simp at hv1
  subst hv1
  have hclen : c.length = size := by rw [← hsz]; exact o'.len hyr
  rw [hsz] at hrow
  have hnl := List.nodup_append.1 hnd
  have hnew : Below W.heap.size W (W.alloc (.cells c.toArray E)) := (Below.refl _ _).alloc (Nat.le_refl _) _
  have hrow1 := own_below hrow hnew (Nat.le_refl _)
  have hylt := o'.lt hyr
  have hby2 : (xs.length + 1) * bytes ≤ 140737488355328 := Nat.le_trans (Nat.mul_le_mul (show xs.length + 1 ≤ 100000001 by omega) hby) (by decide)
  obtain ⟨v', w', hrun, h3, h4, _, h5⟩ := run_append_own_at (P := Try.prog) (W.alloc (.cells c.toArray E)) 0 T ty E i z size bytes hT hi hz0 hz1 hz2 hz hpos v xs.length css.flatten hrow1 ⟨W.heap.size, 0, none⟩ 1 1 c (by omega) (fresh_cells W c E) hone (by unfold maxLen; omega) hby2 (Nat.zero_le _)
  obtain ⟨a', cp, rfl, _, _⟩ := own_form h3
  have hsz' := h4.size
  simp at hsz'
  have hv' : ∀ k ∈ bl (.slice a' (xs.length + 1) cp), k ∈ bl v ∨ k = W.heap.size + 1 := by
    intro k hk
    have hk' : (Value.slice a' (xs.length + 1) cp).ownBlock = some k := by simpa [bl] using hk
    rcases h5 with h5 | h5
    · left; simp only [bl]; rw [← h5, hk']; simp
    · right
      rw [h5] at hk'
      simp at hk'
      omega
  have hkeep : ∀ k, k < W.heap.size → k ∉ bl v → w'.heap[k]? = W.heap[k]? := by
    intro k hk hn
    rw [h4.block k (by simp; omega) (fun e => hn (by simp only [bl]; rw [← e]; simp)), Below.heap_alloc W _ k hk]
  refine ⟨a', xs.length + 1, cp, w', bl (.slice a' (xs.length + 1) cp) ++ (fps ++ [fy]).flatten, hrun, ⟨_, css ++ [c], fps ++ [fy], rfl, rfl, ?_, ?_⟩, ?_, ?_, by omega, ⟨h4.os, h4.tape, h4.output⟩, hkeep, fun k hk => by rcases hv' k hk with h | h; exact .inl h; exact .inr (by omega)⟩
  · rw [hsz]; simpa using h3
  · have hk2 : ∀ k, k ∈ fps.flatten ++ fy → w'.heap[k]? = W.heap[k]? := by
      intro k hk
      rcases List.mem_append.1 hk with hk | hk
      · exact hkeep k (hlt9 k (List.mem_append_right _ hk)) (fun hb => hnl.2.2 k hb k hk rfl)
      · exact hkeep k (hylt k hk) (fun hb => hdis k hk (List.mem_append_left _ hb))
    exact o'.rows_snoc (o'.frame hyr (fun k hk => hk2 k (List.mem_append_right _ hk))) (o'.rows_frame hrows (fun k hk => hk2 k (List.mem_append_left _ hk)))
  · rw [List.flatten_append, List.nodup_append]
    refine ⟨by unfold bl; cases (Value.slice a' (xs.length + 1) cp).ownBlock <;> simp, ?_, ?_⟩
    · rw [List.nodup_append]
      refine ⟨hnl.2.1, by simpa using hynd, ?_⟩
      intro p hp q hq e
      subst e
      exact hdis p (by simpa using hq) (List.mem_append_right _ hp)
    · intro p hp q hq e
      subst e
      rcases hv' p hp with h8 | h8
      · rcases List.mem_append.1 hq with hq | hq
        · exact hnl.2.2 p h8 p hq rfl
        · exact hdis p (by simpa using hq) (List.mem_append_left _ h8)
      · rcases List.mem_append.1 hq with hq | hq
        · have := hlt9 p (List.mem_append_right _ hq); omega
        · have := hylt p (by simpa using hq); omega
  · intro k hk
    rcases List.mem_append.1 hk with hk | hk
    · rcases hv' k hk with h8 | h8
      · exact .inl (List.mem_append_left _ h8)
      · have h9 := (h3.lt k (by simpa [bl] using hk)).2
        exact .inr (.inr (by omega))
    · simp only [List.flatten_append, List.mem_append] at hk
      rcases hk with hk | hk
      · exact .inl (List.mem_append_right _ hk)
      · exact .inr (.inl (by simpa using hk))

/-- Rows of one's own, one by one, with their blocks. -/
theorem rows_at {w : World} {b : Option Addr} {n c : Nat} {L : List (List Int)} {fl : List Nat} (h : oII.rep w [.slice b n c] L fl) :
    ∃ fps : List (List Nat), fl = bl (.slice b n c) ++ fps.flatten ∧ L.length = n ∧ ∀ (j : Nat) (x : List Int), L[j]? = some x → ∃ g cb cn cc f, b = some ⟨g, 0, none⟩ ∧ w.cell? ⟨g, j, none⟩ = some (.slice cb cn cc) ∧ fps[j]? = some f ∧ oI.rep w [.slice cb cn cc] x f := by
  obtain ⟨v, css, fps, hv, rfl, h1, h2⟩ := h
  simp at hv
  subst hv
  obtain ⟨a', cap', hv2, _, _⟩ := own_form h1
  simp at hv2
  refine ⟨fps, rfl, hv2.2.1.symm, fun j x hx => ?_⟩
  obtain ⟨cj, f, hc, hf, hr⟩ := oI.rows_get h2 j x hx
  obtain ⟨cb, ccap, rfl, _⟩ := oI_own hr
  have h9 := flatten_get oI h2 j 0 _ (.slice cb x.length ccap) hc rfl
  have e : j * oI.size + 0 = j := by show j * 1 + 0 = j; omega
  rw [e] at h9
  rw [hv2.2.1] at h1
  obtain ⟨g, hg, hcell⟩ := own_cell h1 j _ h9
  exact ⟨g, cb, x.length, ccap, f, hg, hcell, hf, hr⟩

/-- The groups so far: their columns lie in the blocks fps, all else is new (from S on). -/
def GS (W : World) (S hi : Nat) (fps : List (List Nat)) (j : Nat) (v : Value) (gs : List DGs) : Prop :=
  ∃ fv, oGl.rep W [v] gs fv ∧ fv.Nodup ∧ (∀ k ∈ fv, (k ∈ (fps.take j).flatten ∨ S ≤ k) ∧ k < hi) ∧ (∀ k ∈ bl v, S ≤ k)
theorem GS.nil {W : World} {S hi : Nat} {fps : List (List Nat)} : GS W S hi fps 0 (.slice none 0 0) [] := by
  obtain ⟨fp, h1, h2, h3⟩ := own_nil_S (E := 144) (o := oGs) (B := 0) (W := W)
  exact ⟨fp, h1, h2, fun k hk => by have := h3 k hk; omega, fun k hk => by simp [bl, Value.ownBlock] at hk⟩
theorem GS.mono {W : World} {S hi hi' : Nat} {fps : List (List Nat)} {j : Nat} {v : Value} {gs : List DGs} (h : GS W S hi fps j v gs) (hh : hi ≤ hi') : GS W S hi' fps j v gs := by
  obtain ⟨fv, h1, h2, h3, h4⟩ := h
  exact ⟨fv, h1, h2, fun k hk => ⟨(h3 k hk).1, by have := (h3 k hk).2; omega⟩, h4⟩
theorem GS.below {W W' : World} {S hi C : Nat} {fps : List (List Nat)} {j : Nat} {v : Value} {gs : List DGs} (h : GS W S hi fps j v gs) (hb : Below C W W') (hC : hi ≤ C) : GS W' S hi fps j v gs := by
  obtain ⟨fv, h1, h2, h3, h4⟩ := h
  exact ⟨fv, oGl.frame h1 (fun k hk => hb.block k (by have := (h3 k hk).2; omega)), h2, h3, h4⟩
theorem take_flat {fps : List (List Nat)} {j k : Nat} (h : k ∈ (fps.take j).flatten) : k ∈ fps.flatten := by
  obtain ⟨f, hf, hk⟩ := List.mem_flatten.1 h
  exact List.mem_flatten.2 ⟨f, List.mem_of_mem_take hf, hk⟩
theorem GS.set {W : World} {S hi : Nat} {fps : List (List Nat)} {j : Nat} {v : Value} {gs : List DGs} (h : GS W S hi fps j v gs) {p : Addr} (hp : p.block < S) (hp2 : p.block ∉ fps.flatten) (u : Value) : GS (W.setCell p u) S hi fps j v gs := by
  obtain ⟨fv, h1, h2, h3, h4⟩ := h
  refine ⟨fv, oGl.frame h1 (fun k hk => Below.heap_setCell _ _ _ _ (fun e => ?_)), h2, h3, h4⟩
  rcases (h3 k hk).1 with h9 | h9
  · exact hp2 (e ▸ take_flat h9)
  · omega
theorem GS.own {W : World} {S hi lo : Nat} {fps : List (List Nat)} {j : Nat} {v : Value} {gs : List DGs} (h : GS W S hi fps j v gs) (h1 : lo ≤ S) (h2 : ∀ k ∈ fps.flatten, lo ≤ k) : Own oGl lo hi W [v] gs := by
  obtain ⟨fv, a1, a2, a3, a4⟩ := h
  refine ⟨fv, a1, a2, fun k hk => ⟨?_, (a3 k hk).2⟩⟩
  rcases (a3 k hk).1 with h9 | h9
  · exact h2 k (take_flat h9)
  · omega
theorem nodup_take {fps : List (List Nat)} (hn : fps.flatten.Nodup) {j : Nat} {f : List Nat} (hf : fps[j]? = some f) : f.Nodup ∧ ∀ k ∈ f, k ∉ (fps.take j).flatten := by
  obtain ⟨hj, rfl⟩ := List.getElem?_eq_some_iff.1 hf
  have e : fps.flatten = (fps.take j).flatten ++ (fps[j] ++ (fps.drop (j + 1)).flatten) := by
    have h9 : fps = fps.take j ++ (fps[j] :: fps.drop (j + 1)) := by rw [← List.drop_eq_getElem_cons hj, List.take_append_drop]
    have h8 := congrArg List.flatten h9
    rw [List.flatten_append, List.flatten_cons] at h8
    exact h8
  rw [e] at hn
  have h1 := List.nodup_append.1 hn
  exact ⟨(List.nodup_append.1 h1.2.1).1, fun k hk hk2 => h1.2.2 k hk2 k (List.mem_append_left _ hk) rfl⟩
/-- A group goes in. -/
theorem GS.add {W W1 : World} {S hi h1 h2 h3 : Nat} {fps : List (List Nat)} {j : Nat} {v : Value} {gs : List DGs} {cb b1 b2 : Option Addr} {cn cc n1 c1 n2 c2 : Nat} {cols : List Int} {vals : List (List Int)} {cnts : List Int} {f : List Nat} (ty : TypeId)
    (h : GS W S hi fps j v gs) (hfn : fps.flatten.Nodup) (hfS : ∀ k ∈ fps.flatten, k < S) (hf : fps[j]? = some f) (hc : oI.rep W [.slice cb cn cc] cols f) (o1 : Own oII h1 h2 W [.slice b1 n1 c1] vals) (o2 : Own oI h2 h3 W [.slice b2 n2 c2] cnts) (hh0 : S ≤ hi) (hh1 : hi ≤ h1) (hh2 : h1 ≤ h2) (hh3 : h2 ≤ h3) (hW : h3 ≤ W.heap.size) (hn : gs.length ≤ 1000)
    (hW1 : W1 = W.alloc (.cells #[.slice cb cn cc, .slice b1 n1 c1, .slice b2 n2 c2] 144)) :
    ∃ a n cp w', (Builtin.append_ #[99, 99] ty #[v, .slice (some ⟨W.heap.size, 0, none⟩) 1 1]).run Try.prog W1 = .ok (.slice a n cp) w' ∧ GS w' S w'.heap.size fps (j + 1) (.slice a n cp) (gs ++ [(cols, vals, cnts)]) ∧ Below S W w' ∧ W.heap.size < w'.heap.size := by
  obtain ⟨fv, a1, a2, a3, a4⟩ := h
  obtain ⟨f1, r1, n1', q1⟩ := o1
  obtain ⟨f2, r2, n2', q2⟩ := o2
  obtain ⟨hfn1, hfn2⟩ := nodup_take hfn hf
  have hfm : ∀ k ∈ f, k ∈ fps.flatten := fun k hk => List.mem_flatten.2 ⟨f, List.mem_of_getElem? hf, hk⟩
  have hyr : oGs.rep W [.slice cb cn cc, .slice b1 n1 c1, .slice b2 n2 c2] (cols, vals, cnts) (f ++ (f1 ++ f2)) :=
    ⟨[.slice cb cn cc], [.slice b1 n1 c1, .slice b2 n2 c2], f, f1 ++ f2, rfl, rfl, hc, ⟨[.slice b1 n1 c1], [.slice b2 n2 c2], f1, f2, rfl, rfl, r1, r2⟩⟩
  have hynd : (f ++ (f1 ++ f2)).Nodup := by
    refine List.nodup_append.2 ⟨hfn1, List.nodup_append.2 ⟨n1', n2', fun p hp q hq e => by subst e; have := q1 p hp; have := q2 p hq; omega⟩, fun p hp q hq e => ?_⟩
    subst e
    have h8 := hfS p (hfm p hp)
    rcases List.mem_append.1 hq with hq | hq
    · have := q1 p hq; omega
    · have := q2 p hq; omega
  have hdis : ∀ k ∈ f ++ (f1 ++ f2), k ∉ fv := fun k hk hk2 => by
    have h8 := a3 k hk2
    rcases List.mem_append.1 hk with hk | hk
    · rcases h8.1 with h9 | h9
      · exact hfn2 k hk h9
      · have := hfS k (hfm k hk); omega
    · rcases List.mem_append.1 hk with hk | hk
      · have := q1 k hk; omega
      · have := q2 k hk; omega
  obtain ⟨a, n, cp, w', fv', hr, d1, d2, d3, d4, ⟨d5, d6, d7⟩, d8, d9⟩ := run_app_own (W := W) (W1 := W1) Try.underlying99 infoGs rfl (by decide) (by decide) rfl ty v gs [.slice cb cn cc, .slice b1 n1 c1, .slice b2 n2 c2] (cols, vals, cnts) fv (f ++ (f1 ++ f2)) a1 a2 hyr hynd hdis (by intro z hz; simp at hz; rcases hz with rfl | rfl | rfl <;> rfl) (by omega) hW1
  refine ⟨a, n, cp, w', hr, ⟨fv', d1, d2, fun k hk => ?_, fun k hk => ?_⟩, ⟨d5, d6, d7, by omega, fun k hk => d8 k (by omega) (fun hk2 => by have := a4 k hk2; omega)⟩, d4⟩
  · have hts : (fps.take (j + 1)).flatten = (fps.take j).flatten ++ f := by
      rw [List.take_add_one, hf]; simp
    rw [hts]
    rcases d3 k hk with h9 | h9 | h9
    · have h8 := a3 k h9
      refine ⟨?_, by omega⟩
      rcases h8.1 with h8 | h8
      · exact .inl (List.mem_append_left _ h8)
      · exact .inr h8
    · rcases List.mem_append.1 h9 with h9 | h9
      · exact ⟨.inl (List.mem_append_right _ h9), by have := hfS k (hfm k h9); omega⟩
      · rcases List.mem_append.1 h9 with h9 | h9
        · have := q1 k h9; exact ⟨.inr (by omega), by omega⟩
        · have := q2 k h9; exact ⟨.inr (by omega), by omega⟩
    · exact ⟨.inr (by omega), by omega⟩
  · rcases d9 k hk with h9 | h9
    · exact a4 k h9
    · omega

/-- A group goes in, values and counts owned as one. -/
theorem GS.addP {W W1 : World} {S hi h1 h3 : Nat} {fps : List (List Nat)} {j : Nat} {v : Value} {gs : List DGs} {cb b1 b2 : Option Addr} {cn cc n1 c1 n2 c2 : Nat} {cols : List Int} {vals : List (List Int)} {cnts : List Int} {f : List Nat} (ty : TypeId)
    (h : GS W S hi fps j v gs) (hfn : fps.flatten.Nodup) (hfS : ∀ k ∈ fps.flatten, k < S) (hf : fps[j]? = some f) (hc : oI.rep W [.slice cb cn cc] cols f) (o1 : Own (O.pair oII oI) h1 h3 W [.slice b1 n1 c1, .slice b2 n2 c2] (vals, cnts)) (hh0 : S ≤ hi) (hh1 : hi ≤ h1) (hh2 : h1 ≤ h3) (hW : h3 ≤ W.heap.size) (hn : gs.length ≤ 1000)
    (hW1 : W1 = W.alloc (.cells #[.slice cb cn cc, .slice b1 n1 c1, .slice b2 n2 c2] 144)) :
    ∃ a n cp w', (Builtin.append_ #[99, 99] ty #[v, .slice (some ⟨W.heap.size, 0, none⟩) 1 1]).run Try.prog W1 = .ok (.slice a n cp) w' ∧ GS w' S w'.heap.size fps (j + 1) (.slice a n cp) (gs ++ [(cols, vals, cnts)]) ∧ Below S W w' ∧ W.heap.size < w'.heap.size := by
  obtain ⟨fv, a1, a2, a3, a4⟩ := h
  obtain ⟨f12, r12, n12, q12⟩ := o1
  obtain ⟨hfn1, hfn2⟩ := nodup_take hfn hf
  have hfm : ∀ k ∈ f, k ∈ fps.flatten := fun k hk => List.mem_flatten.2 ⟨f, List.mem_of_getElem? hf, hk⟩
  have hyr : oGs.rep W [.slice cb cn cc, .slice b1 n1 c1, .slice b2 n2 c2] (cols, vals, cnts) (f ++ f12) :=
    ⟨[.slice cb cn cc], [.slice b1 n1 c1, .slice b2 n2 c2], f, f12, rfl, rfl, hc, r12⟩
  have hynd : (f ++ f12).Nodup := by
    refine List.nodup_append.2 ⟨hfn1, n12, fun p hp q hq e => ?_⟩
    subst e
    have h8 := hfS p (hfm p hp)
    have := q12 p hq; omega
  have hdis : ∀ k ∈ f ++ f12, k ∉ fv := fun k hk hk2 => by
    have h8 := a3 k hk2
    rcases List.mem_append.1 hk with hk | hk
    · rcases h8.1 with h9 | h9
      · exact hfn2 k hk h9
      · have := hfS k (hfm k hk); omega
    · have := q12 k hk; omega
  obtain ⟨a, n, cp, w', fv', hr, d1, d2, d3, d4, ⟨d5, d6, d7⟩, d8, d9⟩ := run_app_own (W := W) (W1 := W1) Try.underlying99 infoGs rfl (by decide) (by decide) rfl ty v gs [.slice cb cn cc, .slice b1 n1 c1, .slice b2 n2 c2] (cols, vals, cnts) fv (f ++ f12) a1 a2 hyr hynd hdis (by intro z hz; simp at hz; rcases hz with rfl | rfl | rfl <;> rfl) (by omega) hW1
  refine ⟨a, n, cp, w', hr, ⟨fv', d1, d2, fun k hk => ?_, fun k hk => ?_⟩, ⟨d5, d6, d7, by omega, fun k hk => d8 k (by omega) (fun hk2 => by have := a4 k hk2; omega)⟩, d4⟩
  · have hts : (fps.take (j + 1)).flatten = (fps.take j).flatten ++ f := by
      rw [List.take_add_one, hf]; simp
    rw [hts]
    rcases d3 k hk with h9 | h9 | h9
    · have h8 := a3 k h9
      refine ⟨?_, by omega⟩
      rcases h8.1 with h8 | h8
      · exact .inl (List.mem_append_left _ h8)
      · exact .inr h8
    · rcases List.mem_append.1 h9 with h9 | h9
      · exact ⟨.inl (List.mem_append_right _ h9), by have := hfS k (hfm k h9); omega⟩
      · have := q12 k h9; exact ⟨.inr (by omega), by omega⟩
    · exact ⟨.inr (by omega), by omega⟩
  · rcases d9 k hk with h9 | h9
    · exact a4 k h9
    · omega

end Go.Proofs.Ytbkoddikfpkocaa

/- Contracts: statistics of a table, by the program. -/
namespace Go.Proofs.Ytbkoddikfpkocaa
open Go.RowKit
set_option linter.unusedVariables false
set_option linter.unusedSimpArgs false
set_option synthInstance.maxSize 2000
set_option synthInstance.maxHeartbeats 400000

theorem turn_on {lo hi : Nat} {a b c : World} (h : Turn lo hi a b) (k : Below a.heap.size b c) : Turn lo hi a c :=
  ⟨k.os.trans h.os, k.tape.trans h.tape, k.output.trans h.output, Nat.le_trans h.size k.size, fun i h1 h2 => (k.block i h1).trans (h.block i h1 h2)⟩
theorem statsOf_no {t : DT} (h : validT t = false) : statsOf t = (⟨#[]⟩, 0, 0, []) := by simp [statsOf, h]
theorem statsOf_yes {t : DT} (h : validT t = true) : statsOf t = (t.1, t.2.1, (t.2.2.length : Int), (colSubsets t.2.1).map (grpOf t)) := by simp [statsOf, h]
theorem colSubsets_len (k : Int) : (colSubsets k).length ≤ 7 := by
  unfold colSubsets
  split
  · rename_i h
    simp only [betw, Bool.and_eq_true, decide_eq_true_eq] at h
    obtain ⟨K, rfl⟩ := Int.eq_ofNat_of_zero_le (show 0 ≤ k by omega)
    simp only [subsetsTo, List.length_map, List.length_range, Int.toNat_natCast]
    rcases (by omega : K = 1 ∨ K = 2 ∨ K = 3) with rfl | rfl | rfl <;> decide
  · simp

set_option maxRecDepth 100000 in
set_option maxHeartbeats 4000000 in
theorem stats_impl (cs : List Value) (t : DT) (w : World) (ht : rT.rep w cs t) :
    Calls Try.prog 84 #[.agg cs.toArray] w fun e w' => ∃ ds, e = .returned (.agg ds.toArray) ∧ Own oTs w.heap.size w'.heap.size w' ds (statsOf t) ∧ Below w.heap.size w w' := by
  have HVT := Lib.hid (fun W (hW : Below w.heap.size w W) => validT_impl _ t W (rT.mono ht hW))
  have HG := Lib.hid (fun (v : Value) (cols : List Int) W (hW : Below w.heap.size w W) (hx : rI.rep W [v] cols) => groups_impl v cs t cols W (rT.mono ht hW) hx)
  obtain ⟨ub, un, uc, rfl, hs, hi, g1⟩ := rT_open ht
  have hul := (rS_sl g1).len
  have hus := (rS_sl g1).small
  have HE0 := Lib.hid (@statsOf_no t)
  have HE1 := Lib.hid (@statsOf_yes t)
  obtain ⟨st, hst⟩ : ∃ st, statsOf t = st := ⟨_, rfl⟩
  rw [hst] at HE0 HE1 ⊢
  obtain ⟨gf, hgf⟩ : ∃ gf, grpOf t = gf := ⟨_, rfl⟩
  have HGF : Hid (∀ cols, gf cols = (cols, grpV t cols, grpN t cols)) := Lib.hid (fun cols => by rw [← hgf]; rfl)
  rw [hgf] at HE1
  obtain ⟨s, ar, rows⟩ := t
  simp only at hs hi g1 HVT HE0 HE1 hul
  obtain ⟨hi1, hi2⟩ := hi
  obtain ⟨V, hV⟩ : ∃ V, validT (s, ar, rows) = V := ⟨_, rfl⟩
  rw [hV] at HVT HE0 HE1
  clear hV ht g1 hst hgf
  have hb0 : Below w.heap.size w w := Below.refl _ _
  go_enter Try.func84, Try.ntmps84
  obtain ⟨w1, hw1⟩ : ∃ W, W = w.alloc (.cells #[.string s, .int .i64 ar, .slice ub un uc] 34) := ⟨_, rfl⟩
  have z1 : Below w.heap.size w w1 := by rw [hw1]; exact (Below.refl _ _).alloc (Nat.le_refl _) _
  have s1 : w1.heap.size = w.heap.size + 1 := by rw [hw1]; simp
  have hb1 := on hb0 z1
  have b_0 : w1.cell? ⟨w.heap.size, 0, none⟩ = some (.string s) := by rw [hw1]; exact box_cell (Below.refl _ _) rfl
  have b_1 : w1.cell? ⟨w.heap.size, 1, none⟩ = some (.int .i64 ar) := by rw [hw1]; exact box_cell (Below.refl _ _) rfl
  have b_2 : w1.cell? ⟨w.heap.size, 2, none⟩ = some (.slice ub un uc) := by rw [hw1]; exact box_cell (Below.refl _ _) rfl
  have b_f0 : w1.frozen? ⟨w.heap.size, 0, none⟩ = false := by rw [hw1]; exact box_frozen (Below.refl _ _)
  have b_f1 : w1.frozen? ⟨w.heap.size, 1, none⟩ = false := by rw [hw1]; exact box_frozen (Below.refl _ _)
  have b_f2 : w1.frozen? ⟨w.heap.size, 2, none⟩ = false := by rw [hw1]; exact box_frozen (Below.refl _ _)
  have raw1_b_0 := b_0
  have raw1_b_1 := b_1
  have raw1_b_2 := b_2
  rw [hw1] at raw1_b_0 raw1_b_1 raw1_b_2
  obtain ⟨w2, hw2⟩ : ∃ W, W = w1.alloc (.cells #[.string ⟨#[]⟩, .int .i64 0, .int .i64 0, .slice none 0 0] 101) := ⟨_, rfl⟩
  have z2 : Below w1.heap.size w1 w2 := by rw [hw2]; exact (Below.refl _ _).alloc (Nat.le_refl _) _
  have s2 : w2.heap.size = w1.heap.size + 1 := by rw [hw2]; simp
  have hb2 := on hb1 z2
  replace b_0 := (z2.cell (p := ⟨w.heap.size, 0, none⟩) (by simp only []; omega)).trans b_0
  replace b_1 := (z2.cell (p := ⟨w.heap.size, 1, none⟩) (by simp only []; omega)).trans b_1
  replace b_2 := (z2.cell (p := ⟨w.heap.size, 2, none⟩) (by simp only []; omega)).trans b_2
  replace b_f0 := (z2.frozen (p := ⟨w.heap.size, 0, none⟩) (by simp only []; omega)).trans b_f0
  replace b_f1 := (z2.frozen (p := ⟨w.heap.size, 1, none⟩) (by simp only []; omega)).trans b_f1
  replace b_f2 := (z2.frozen (p := ⟨w.heap.size, 2, none⟩) (by simp only []; omega)).trans b_f2
  have e2 : w1.heap.size = w.heap.size + 1 := by omega
  have r_0 : w2.cell? ⟨w1.heap.size, 0, none⟩ = some (.string ⟨#[]⟩) := by rw [hw2]; exact box_cell (Below.refl _ _) rfl
  have r_1 : w2.cell? ⟨w1.heap.size, 1, none⟩ = some (.int .i64 0) := by rw [hw2]; exact box_cell (Below.refl _ _) rfl
  have r_2 : w2.cell? ⟨w1.heap.size, 2, none⟩ = some (.int .i64 0) := by rw [hw2]; exact box_cell (Below.refl _ _) rfl
  have r_3 : w2.cell? ⟨w1.heap.size, 3, none⟩ = some (.slice none 0 0) := by rw [hw2]; exact box_cell (Below.refl _ _) rfl
  rw [e2] at r_0 r_1 r_2 r_3
  have r_f0 : w2.frozen? ⟨w1.heap.size, 0, none⟩ = false := by rw [hw2]; exact box_frozen (Below.refl _ _)
  have r_f1 : w2.frozen? ⟨w1.heap.size, 1, none⟩ = false := by rw [hw2]; exact box_frozen (Below.refl _ _)
  have r_f2 : w2.frozen? ⟨w1.heap.size, 2, none⟩ = false := by rw [hw2]; exact box_frozen (Below.refl _ _)
  have r_f3 : w2.frozen? ⟨w1.heap.size, 3, none⟩ = false := by rw [hw2]; exact box_frozen (Below.refl _ _)
  rw [e2] at r_f0 r_f1 r_f2 r_f3
  have raw2_b_0 := b_0
  have raw2_b_1 := b_1
  have raw2_b_2 := b_2
  have raw2_r_0 := r_0
  have raw2_r_1 := r_1
  have raw2_r_2 := r_2
  have raw2_r_3 := r_3
  rw [hw2, hw1] at raw2_b_0 raw2_b_1 raw2_b_2 raw2_r_0 raw2_r_1 raw2_r_2 raw2_r_3
  go_wp2_with fail
  rw [← hw1]
  rw [← hw2]
  clear hw2 hw1
  clear raw1_b_0 raw1_b_1 raw1_b_2 raw2_b_0 raw2_b_1 raw2_b_2 raw2_r_0 raw2_r_1 raw2_r_2 raw2_r_3
  refine (HVT.out _ hb2).mono ?_
  rintro e w9 ⟨rfl, z9⟩
  have s3 := z9.size
  have hb3 := on hb2 z9
  replace b_0 := (z9.cell (p := ⟨w.heap.size, 0, none⟩) (by simp only []; omega)).trans b_0
  replace b_1 := (z9.cell (p := ⟨w.heap.size, 1, none⟩) (by simp only []; omega)).trans b_1
  replace b_2 := (z9.cell (p := ⟨w.heap.size, 2, none⟩) (by simp only []; omega)).trans b_2
  replace b_f0 := (z9.frozen (p := ⟨w.heap.size, 0, none⟩) (by simp only []; omega)).trans b_f0
  replace b_f1 := (z9.frozen (p := ⟨w.heap.size, 1, none⟩) (by simp only []; omega)).trans b_f1
  replace b_f2 := (z9.frozen (p := ⟨w.heap.size, 2, none⟩) (by simp only []; omega)).trans b_f2
  replace r_0 := (z9.cell (p := ⟨w.heap.size + 1, 0, none⟩) (by simp only []; omega)).trans r_0
  replace r_1 := (z9.cell (p := ⟨w.heap.size + 1, 1, none⟩) (by simp only []; omega)).trans r_1
  replace r_2 := (z9.cell (p := ⟨w.heap.size + 1, 2, none⟩) (by simp only []; omega)).trans r_2
  replace r_3 := (z9.cell (p := ⟨w.heap.size + 1, 3, none⟩) (by simp only []; omega)).trans r_3
  replace r_f0 := (z9.frozen (p := ⟨w.heap.size + 1, 0, none⟩) (by simp only []; omega)).trans r_f0
  replace r_f1 := (z9.frozen (p := ⟨w.heap.size + 1, 1, none⟩) (by simp only []; omega)).trans r_f1
  replace r_f2 := (z9.frozen (p := ⟨w.heap.size + 1, 2, none⟩) (by simp only []; omega)).trans r_f2
  replace r_f3 := (z9.frozen (p := ⟨w.heap.size + 1, 3, none⟩) (by simp only []; omega)).trans r_f3
  cases V with
  | false =>
    have HE := Lib.hid (HE0.out rfl)
    go_wp2_with fail
    refine bodyPost_ret (v := .agg #[.string ⟨#[]⟩, .int .i64 0, .int .i64 0, .slice none 0 0]) (by simp [results, Try.results84, go_sem, r_0, r_1, r_2, r_3, r_f0, r_f1, r_f2, r_f3]) rfl ⟨_, rfl, ?_, ?_⟩
    · rw [HE.out]
      refine oTs_mk (x := (⟨#[]⟩, 0, 0, [])) (by decide) (by constructor <;> decide) (by constructor <;> decide) (l3 := w.heap.size) (m3 := w.heap.size) ?_ (by omega) (by simp [World.setCell]; omega)
      exact own_nil_S
    · repeat (refine Below.setCell ?_ (by simp only []; omega) _)
      exact hb3
  | true =>
    have HE := Lib.hid (HE1.out rfl)
    obtain ⟨w4, hw4⟩ : ∃ W, W = w9.alloc (.cells #[.string s, .int .i64 ar, .int .i64 (un : Int), .slice none 0 0] 101) := ⟨_, rfl⟩
    have z4 : Below w9.heap.size w9 w4 := by rw [hw4]; exact (Below.refl _ _).alloc (Nat.le_refl _) _
    have s4 : w4.heap.size = w9.heap.size + 1 := by rw [hw4]; simp
    have hb4 := on hb3 z4
    have old4_b_0 := b_0
    have old4_b_1 := b_1
    have old4_b_2 := b_2
    have old4_r_0 := r_0
    have old4_r_1 := r_1
    have old4_r_2 := r_2
    have old4_r_3 := r_3
    replace b_0 := (z4.cell (p := ⟨w.heap.size, 0, none⟩) (by simp only []; omega)).trans b_0
    replace b_1 := (z4.cell (p := ⟨w.heap.size, 1, none⟩) (by simp only []; omega)).trans b_1
    replace b_2 := (z4.cell (p := ⟨w.heap.size, 2, none⟩) (by simp only []; omega)).trans b_2
    replace b_f0 := (z4.frozen (p := ⟨w.heap.size, 0, none⟩) (by simp only []; omega)).trans b_f0
    replace b_f1 := (z4.frozen (p := ⟨w.heap.size, 1, none⟩) (by simp only []; omega)).trans b_f1
    replace b_f2 := (z4.frozen (p := ⟨w.heap.size, 2, none⟩) (by simp only []; omega)).trans b_f2
    replace r_0 := (z4.cell (p := ⟨w.heap.size + 1, 0, none⟩) (by simp only []; omega)).trans r_0
    replace r_1 := (z4.cell (p := ⟨w.heap.size + 1, 1, none⟩) (by simp only []; omega)).trans r_1
    replace r_2 := (z4.cell (p := ⟨w.heap.size + 1, 2, none⟩) (by simp only []; omega)).trans r_2
    replace r_3 := (z4.cell (p := ⟨w.heap.size + 1, 3, none⟩) (by simp only []; omega)).trans r_3
    replace r_f0 := (z4.frozen (p := ⟨w.heap.size + 1, 0, none⟩) (by simp only []; omega)).trans r_f0
    replace r_f1 := (z4.frozen (p := ⟨w.heap.size + 1, 1, none⟩) (by simp only []; omega)).trans r_f1
    replace r_f2 := (z4.frozen (p := ⟨w.heap.size + 1, 2, none⟩) (by simp only []; omega)).trans r_f2
    replace r_f3 := (z4.frozen (p := ⟨w.heap.size + 1, 3, none⟩) (by simp only []; omega)).trans r_f3
    have x_0 : w4.cell? ⟨w9.heap.size, 0, none⟩ = some (.string s) := by rw [hw4]; exact box_cell (Below.refl _ _) rfl
    have x_1 : w4.cell? ⟨w9.heap.size, 1, none⟩ = some (.int .i64 ar) := by rw [hw4]; exact box_cell (Below.refl _ _) rfl
    have x_2 : w4.cell? ⟨w9.heap.size, 2, none⟩ = some (.int .i64 (un : Int)) := by rw [hw4]; exact box_cell (Below.refl _ _) rfl
    have x_3 : w4.cell? ⟨w9.heap.size, 3, none⟩ = some (.slice none 0 0) := by rw [hw4]; exact box_cell (Below.refl _ _) rfl
    have x_f0 : w4.frozen? ⟨w9.heap.size, 0, none⟩ = false := by rw [hw4]; exact box_frozen (Below.refl _ _)
    have x_f1 : w4.frozen? ⟨w9.heap.size, 1, none⟩ = false := by rw [hw4]; exact box_frozen (Below.refl _ _)
    have x_f2 : w4.frozen? ⟨w9.heap.size, 2, none⟩ = false := by rw [hw4]; exact box_frozen (Below.refl _ _)
    have x_f3 : w4.frozen? ⟨w9.heap.size, 3, none⟩ = false := by rw [hw4]; exact box_frozen (Below.refl _ _)
    have raw4_b_0 := b_0
    have raw4_b_1 := b_1
    have raw4_b_2 := b_2
    have raw4_r_0 := r_0
    have raw4_r_1 := r_1
    have raw4_r_2 := r_2
    have raw4_r_3 := r_3
    have raw4_x_0 := x_0
    have raw4_x_1 := x_1
    have raw4_x_2 := x_2
    have raw4_x_3 := x_3
    rw [hw4] at raw4_b_0 raw4_b_1 raw4_b_2 raw4_r_0 raw4_r_1 raw4_r_2 raw4_r_3 raw4_x_0 raw4_x_1 raw4_x_2 raw4_x_3
    go_wp2_with fail
    rw [← hw4]
    clear hw4
    clear old4_b_0 old4_b_1 old4_b_2 old4_r_0 old4_r_1 old4_r_2 old4_r_3 raw4_b_0 raw4_b_1 raw4_b_2 raw4_r_0 raw4_r_1 raw4_r_2 raw4_r_3 raw4_x_0 raw4_x_1 raw4_x_2 raw4_x_3
    refine (colSubsets_impl ar _).mono ?_
    rintro e wS ⟨lb, ln, lc, rfl, o1, zS⟩
    have s5 := zS.size
    have hb5 := on hb4 zS
    replace b_0 := (zS.cell (p := ⟨w.heap.size, 0, none⟩) (by simp only []; omega)).trans b_0
    replace b_1 := (zS.cell (p := ⟨w.heap.size, 1, none⟩) (by simp only []; omega)).trans b_1
    replace b_2 := (zS.cell (p := ⟨w.heap.size, 2, none⟩) (by simp only []; omega)).trans b_2
    replace b_f0 := (zS.frozen (p := ⟨w.heap.size, 0, none⟩) (by simp only []; omega)).trans b_f0
    replace b_f1 := (zS.frozen (p := ⟨w.heap.size, 1, none⟩) (by simp only []; omega)).trans b_f1
    replace b_f2 := (zS.frozen (p := ⟨w.heap.size, 2, none⟩) (by simp only []; omega)).trans b_f2
    replace r_0 := (zS.cell (p := ⟨w.heap.size + 1, 0, none⟩) (by simp only []; omega)).trans r_0
    replace r_1 := (zS.cell (p := ⟨w.heap.size + 1, 1, none⟩) (by simp only []; omega)).trans r_1
    replace r_2 := (zS.cell (p := ⟨w.heap.size + 1, 2, none⟩) (by simp only []; omega)).trans r_2
    replace r_3 := (zS.cell (p := ⟨w.heap.size + 1, 3, none⟩) (by simp only []; omega)).trans r_3
    replace r_f0 := (zS.frozen (p := ⟨w.heap.size + 1, 0, none⟩) (by simp only []; omega)).trans r_f0
    replace r_f1 := (zS.frozen (p := ⟨w.heap.size + 1, 1, none⟩) (by simp only []; omega)).trans r_f1
    replace r_f2 := (zS.frozen (p := ⟨w.heap.size + 1, 2, none⟩) (by simp only []; omega)).trans r_f2
    replace r_f3 := (zS.frozen (p := ⟨w.heap.size + 1, 3, none⟩) (by simp only []; omega)).trans r_f3
    replace x_0 := (zS.cell (p := ⟨w9.heap.size, 0, none⟩) (by simp only []; omega)).trans x_0
    replace x_1 := (zS.cell (p := ⟨w9.heap.size, 1, none⟩) (by simp only []; omega)).trans x_1
    replace x_2 := (zS.cell (p := ⟨w9.heap.size, 2, none⟩) (by simp only []; omega)).trans x_2
    replace x_3 := (zS.cell (p := ⟨w9.heap.size, 3, none⟩) (by simp only []; omega)).trans x_3
    replace x_f0 := (zS.frozen (p := ⟨w9.heap.size, 0, none⟩) (by simp only []; omega)).trans x_f0
    replace x_f1 := (zS.frozen (p := ⟨w9.heap.size, 1, none⟩) (by simp only []; omega)).trans x_f1
    replace x_f2 := (zS.frozen (p := ⟨w9.heap.size, 2, none⟩) (by simp only []; omega)).trans x_f2
    replace x_f3 := (zS.frozen (p := ⟨w9.heap.size, 3, none⟩) (by simp only []; omega)).trans x_f3
    obtain ⟨L, hL⟩ : ∃ L, colSubsets ar = L := ⟨_, rfl⟩
    have hL7 : L.length ≤ 7 := by rw [← hL]; exact colSubsets_len ar
    rw [hL] at o1 HE
    obtain ⟨fl, hrep, hnd, hbd⟩ := o1
    obtain ⟨fps, rfl, hLl, hrow⟩ := rows_at hrep
    have hfn := (List.nodup_append.1 hnd).2.1
    have hfS : ∀ k ∈ fps.flatten, k < wS.heap.size := fun k hk => (hbd k (List.mem_append_right _ hk)).2
    have hfL : ∀ k ∈ fps.flatten, w9.heap.size < k := fun k hk => by have := (hbd k (List.mem_append_right _ hk)).1; omega
    have hsb9 : w9.heap.size ∉ fps.flatten := fun h9 => by have := hfL _ h9; omega
    have HROW := Lib.hid hrow
    have HFN := Lib.hid hfn
    have HFS := Lib.hid hfS
    have HFL := Lib.hid hfL
    have hlg : ∀ g, lb = some ⟨g, 0, none⟩ → w9.heap.size < g ∧ g < wS.heap.size := fun g e => by
      have := hbd g (by subst e; simp [bl, Value.ownBlock]); omega
    have HLG := Lib.hid hlg
    have hsbS : w9.heap.size < wS.heap.size := by omega
    have hln7 : ln ≤ 7 := by omega
    have HLL := Lib.hid hLl
    clear hL hrep hnd hbd hrow hfn hfS hfL hlg hLl
    go_wp2_with fail
    go_loopw [24] (fun k wr => ∃ (j : Nat) (v : Value), j ≤ ln ∧ k = .int .i64 j ∧ (wr.cell? ⟨w9.heap.size, 0, none⟩ = some (.string s) ∧ wr.cell? ⟨w9.heap.size, 1, none⟩ = some (.int .i64 ar) ∧ wr.cell? ⟨w9.heap.size, 2, none⟩ = some (.int .i64 (un : Int)) ∧ wr.cell? ⟨w9.heap.size, 3, none⟩ = some v ∧ wr.frozen? ⟨w9.heap.size, 3, none⟩ = false) ∧ GS wr wS.heap.size wr.heap.size fps j v ((L.take j).map gf) ∧ Turn w9.heap.size (w9.heap.size + 1) wS wr) (fun k _ => ln - (intOf k).toNat)
    case atStart => exact ⟨0, _, Nat.zero_le _, rfl, ⟨x_0, x_1, x_2, x_3, x_f3⟩, by rw [List.take_zero]; exact GS.nil, turn_refl _ _ _⟩
    case round =>
      obtain ⟨j, v, hj, rfl, ⟨y_0, y_1, y_2, y_3, y_f3⟩, hGS, hdr⟩ := hrel
      have hlc := hdr
      clear x_0 x_1 x_2 x_3 x_f0 x_f1 x_f2 x_f3
      obtain ⟨va, vn, vc, rfl⟩ := oGl_form1 (hGS.own (Nat.zero_le _) (fun _ _ => Nat.zero_le _))
      have s6 := hdr.size
      have hb6 := hb5.trans ((hdr.below (by omega)).mono (by omega))
      replace b_0 := (hdr.cell (p := ⟨w.heap.size, 0, none⟩) (by simp only []; omega) (by simp only []; omega)).trans b_0
      replace b_1 := (hdr.cell (p := ⟨w.heap.size, 1, none⟩) (by simp only []; omega) (by simp only []; omega)).trans b_1
      replace b_2 := (hdr.cell (p := ⟨w.heap.size, 2, none⟩) (by simp only []; omega) (by simp only []; omega)).trans b_2
      replace b_f0 := (World.frozen?_of_block (a := ⟨w.heap.size, 0, none⟩) (hdr.block _ (by simp only []; omega) (by simp only []; omega))).trans b_f0
      replace b_f1 := (World.frozen?_of_block (a := ⟨w.heap.size, 1, none⟩) (hdr.block _ (by simp only []; omega) (by simp only []; omega))).trans b_f1
      replace b_f2 := (World.frozen?_of_block (a := ⟨w.heap.size, 2, none⟩) (hdr.block _ (by simp only []; omega) (by simp only []; omega))).trans b_f2
      replace r_0 := (hdr.cell (p := ⟨w.heap.size + 1, 0, none⟩) (by simp only []; omega) (by simp only []; omega)).trans r_0
      replace r_1 := (hdr.cell (p := ⟨w.heap.size + 1, 1, none⟩) (by simp only []; omega) (by simp only []; omega)).trans r_1
      replace r_2 := (hdr.cell (p := ⟨w.heap.size + 1, 2, none⟩) (by simp only []; omega) (by simp only []; omega)).trans r_2
      replace r_3 := (hdr.cell (p := ⟨w.heap.size + 1, 3, none⟩) (by simp only []; omega) (by simp only []; omega)).trans r_3
      replace r_f0 := (World.frozen?_of_block (a := ⟨w.heap.size + 1, 0, none⟩) (hdr.block _ (by simp only []; omega) (by simp only []; omega))).trans r_f0
      replace r_f1 := (World.frozen?_of_block (a := ⟨w.heap.size + 1, 1, none⟩) (hdr.block _ (by simp only []; omega) (by simp only []; omega))).trans r_f1
      replace r_f2 := (World.frozen?_of_block (a := ⟨w.heap.size + 1, 2, none⟩) (hdr.block _ (by simp only []; omega) (by simp only []; omega))).trans r_f2
      replace r_f3 := (World.frozen?_of_block (a := ⟨w.heap.size + 1, 3, none⟩) (hdr.block _ (by simp only []; omega) (by simp only []; omega))).trans r_f3
      by_cases hlt : j < ln
      · obtain ⟨x, hx⟩ : ∃ x, L[j]? = some x := ⟨_, List.getElem?_eq_getElem (by have := HLL.out; omega)⟩
        obtain ⟨g, cb, cn, cc, f, rfl, hcl, hf, hrx⟩ := HROW.out j x hx
        obtain ⟨hg1, hg2⟩ := HLG.out g rfl
        have c0 : wr.cell? ⟨g, j, none⟩ = some (.slice cb cn cc) := (hlc.cell (p := ⟨g, j, none⟩) hg2 (.inr (by simp only []; omega))).trans hcl
        have hrx2 := oI.frame hrx (fun k hk => hlc.block k (HFS.out k (List.mem_flatten.2 ⟨f, List.mem_of_getElem? hf, hk⟩)) (.inr (by have := HFL.out k (List.mem_flatten.2 ⟨f, List.mem_of_getElem? hf, hk⟩); omega)))
        have HT := Lib.hid (take_snoc' L j x hx)
        have HF := Lib.hid hf
        clear hcl hx hrx hf
        go_wp2_with fail
        refine (HG.out _ x _ hb6 (reads_I.2 hrx2)).mono ?_
        rintro e w8 ⟨b1, n1, c1, b2, n2, c2, wm, rfl, q1, q2, hm1, hm2, z8⟩
        have hrx3 := oI.frame hrx2 (fun k hk => z8.block k (oI.lt hrx2 k hk))
        replace hGS := hGS.below z8 (Nat.le_refl _)
        replace hlc := hlc.trans (turn_below z8 (Nat.le_refl _))
        replace y_0 := (z8.cell (p := ⟨w9.heap.size, 0, none⟩) (by simp only []; omega)).trans y_0
        replace y_1 := (z8.cell (p := ⟨w9.heap.size, 1, none⟩) (by simp only []; omega)).trans y_1
        replace y_2 := (z8.cell (p := ⟨w9.heap.size, 2, none⟩) (by simp only []; omega)).trans y_2
        replace y_3 := (z8.cell (p := ⟨w9.heap.size, 3, none⟩) (by simp only []; omega)).trans y_3
        replace y_f3 := (z8.frozen (p := ⟨w9.heap.size, 3, none⟩) (by simp only []; omega)).trans y_f3
        have s7 := z8.size
        have hb7 := on hb6 z8
        replace b_0 := (z8.cell (p := ⟨w.heap.size, 0, none⟩) (by simp only []; omega)).trans b_0
        replace b_1 := (z8.cell (p := ⟨w.heap.size, 1, none⟩) (by simp only []; omega)).trans b_1
        replace b_2 := (z8.cell (p := ⟨w.heap.size, 2, none⟩) (by simp only []; omega)).trans b_2
        replace b_f0 := (z8.frozen (p := ⟨w.heap.size, 0, none⟩) (by simp only []; omega)).trans b_f0
        replace b_f1 := (z8.frozen (p := ⟨w.heap.size, 1, none⟩) (by simp only []; omega)).trans b_f1
        replace b_f2 := (z8.frozen (p := ⟨w.heap.size, 2, none⟩) (by simp only []; omega)).trans b_f2
        replace r_0 := (z8.cell (p := ⟨w.heap.size + 1, 0, none⟩) (by simp only []; omega)).trans r_0
        replace r_1 := (z8.cell (p := ⟨w.heap.size + 1, 1, none⟩) (by simp only []; omega)).trans r_1
        replace r_2 := (z8.cell (p := ⟨w.heap.size + 1, 2, none⟩) (by simp only []; omega)).trans r_2
        replace r_3 := (z8.cell (p := ⟨w.heap.size + 1, 3, none⟩) (by simp only []; omega)).trans r_3
        replace r_f0 := (z8.frozen (p := ⟨w.heap.size + 1, 0, none⟩) (by simp only []; omega)).trans r_f0
        replace r_f1 := (z8.frozen (p := ⟨w.heap.size + 1, 1, none⟩) (by simp only []; omega)).trans r_f1
        replace r_f2 := (z8.frozen (p := ⟨w.heap.size + 1, 2, none⟩) (by simp only []; omega)).trans r_f2
        replace r_f3 := (z8.frozen (p := ⟨w.heap.size + 1, 3, none⟩) (by simp only []; omega)).trans r_f3
        obtain ⟨na, nn, nc, wn, hrn, hGn, hbn, hzn⟩ := GS.add 99 hGS HFN.out HFS.out HF.out hrx3 q1 q2 (by omega) (Nat.le_refl _) hm1 hm2 (Nat.le_refl _) (by rw [List.length_map]; have := List.length_take_le j L; omega) rfl
        rw [show ((L.take j).map gf ++ [(x, grpV (s, ar, rows) x, grpN (s, ar, rows) x)]) = (L.take (j + 1)).map gf by rw [HT.out, List.map_append, List.map_singleton, HGF.out]] at hGn
        have n_0 := (hbn.cell (p := ⟨w9.heap.size, 0, none⟩) hsbS).trans y_0
        have n_1 := (hbn.cell (p := ⟨w9.heap.size, 1, none⟩) hsbS).trans y_1
        have n_2 := (hbn.cell (p := ⟨w9.heap.size, 2, none⟩) hsbS).trans y_2
        have n_3 := (hbn.cell (p := ⟨w9.heap.size, 3, none⟩) hsbS).trans y_3
        have n_f3 := (hbn.frozen (p := ⟨w9.heap.size, 3, none⟩) hsbS).trans y_f3
        have HGN := Lib.hid ((hGn.set (p := ⟨w9.heap.size, 3, none⟩) hsbS hsb9 (.slice na nn nc)).mono (show wn.heap.size ≤ (wn.setCell ⟨w9.heap.size, 3, none⟩ (.slice na nn nc)).heap.size by simp [World.setCell]))
        have HTN := Lib.hid ((turn_on hlc hbn).setIn (p := ⟨w9.heap.size, 3, none⟩) (Nat.le_refl _) (Nat.lt_succ_self _) (.slice na nn nc))
        have k0 : (wn.setCell ⟨w9.heap.size, 3, none⟩ (.slice na nn nc)).cell? ⟨w9.heap.size, 0, none⟩ = some (.string s) := by go_simp
        have k1 : (wn.setCell ⟨w9.heap.size, 3, none⟩ (.slice na nn nc)).cell? ⟨w9.heap.size, 1, none⟩ = some (.int .i64 ar) := by go_simp
        have k2 : (wn.setCell ⟨w9.heap.size, 3, none⟩ (.slice na nn nc)).cell? ⟨w9.heap.size, 2, none⟩ = some (.int .i64 (un : Int)) := by go_simp
        have k3 : (wn.setCell ⟨w9.heap.size, 3, none⟩ (.slice na nn nc)).cell? ⟨w9.heap.size, 3, none⟩ = some (.slice na nn nc) := by go_simp
        have k4 : (wn.setCell ⟨w9.heap.size, 3, none⟩ (.slice na nn nc)).frozen? ⟨w9.heap.size, 3, none⟩ = false := by go_simp
        clear hGS hGn hlc q1 q2 hrx2 hrx3
        go_wp2_with ((at_builtin; refine wpList_app_run hrn rfl rfl rfl rfl rfl ?_))
        go_roundw
        case rel => exact ⟨j + 1, .slice na nn nc, by omega, by go_num, ⟨k0, k1, k2, k3, k4⟩, HGN.out, HTN.out⟩
        case measure => simp [intOf]; omega
      · have hjl : j = ln := by omega
        have hGl := hGS
        rw [List.take_of_length_le (by have := HLL.out; omega)] at hGl
        have HO := Lib.hid (hGl.own (lo := w9.heap.size) (by omega) (fun k hk => by have := HFL.out k hk; omega))
        clear hGS hGl
        go_wp2_with fail
        refine bodyPost_ret (v := .agg #[.string s, .int .i64 ar, .int .i64 (un : Int), .slice va vn vc]) (by simp [results, Try.results84, go_sem, y_0, y_1, y_2, y_3, r_0, r_1, r_2, r_3, r_f0, r_f1, r_f2, r_f3]) rfl ⟨_, rfl, ?_, ?_⟩
        · rw [HE.out, hul]
          refine oTs_mk (x := (s, ar, (un : Int), L.map gf)) hs ⟨hi1, hi2⟩ (show I64 (un : Int) from ⟨by omega, by omega⟩) (l3 := w9.heap.size) (m3 := wr.heap.size) ?_ (by omega) (by simp [World.setCell])
          repeat (refine Own.setOut ?_ rfl (by simp only []; omega))
          exact HO.out
        · repeat (refine Below.setCell ?_ (by simp only []; omega) _)
          exact hb6

end Go.Proofs.Ytbkoddikfpkocaa

/- Contracts: statistics of a table, by the reference. -/
namespace Go.Proofs.Ytbkoddikfpkocaa
open Go.RowKit
set_option linter.unusedVariables false
set_option linter.unusedSimpArgs false
set_option synthInstance.maxSize 2000
set_option synthInstance.maxHeartbeats 400000

set_option maxRecDepth 100000 in
set_option maxHeartbeats 4000000 in
theorem stats_spec (cs : List Value) (t : DT) (w : World) (ht : rT.rep w cs t) :
    Calls Try.prog 83 #[.agg cs.toArray] w fun e w' => ∃ ds, e = .returned (.agg ds.toArray) ∧ Own oTs w.heap.size w'.heap.size w' ds (statsOf t) ∧ Below w.heap.size w w' := by
  have HVT := Lib.hid (fun W (hW : Below w.heap.size w W) => validT_spec _ t W (rT.mono ht hW))
  have HG := Lib.hid (fun (v : Value) (cols : List Int) W (hW : Below w.heap.size w W) (hx : rI.rep W [v] cols) => groups_spec2 v cs t cols W (rT.mono ht hW) hx)
  obtain ⟨ub, un, uc, rfl, hs, hi, g1⟩ := rT_open ht
  have hul := (rS_sl g1).len
  have hus := (rS_sl g1).small
  have HE0 := Lib.hid (@statsOf_no t)
  have HE1 := Lib.hid (@statsOf_yes t)
  obtain ⟨st, hst⟩ : ∃ st, statsOf t = st := ⟨_, rfl⟩
  rw [hst] at HE0 HE1 ⊢
  obtain ⟨gf, hgf⟩ : ∃ gf, grpOf t = gf := ⟨_, rfl⟩
  have HGF : Hid (∀ cols, gf cols = (cols, grpV t cols, grpN t cols)) := Lib.hid (fun cols => by rw [← hgf]; rfl)
  rw [hgf] at HE1
  obtain ⟨s, ar, rows⟩ := t
  simp only at hs hi g1 HVT HE0 HE1 hul
  obtain ⟨hi1, hi2⟩ := hi
  obtain ⟨V, hV⟩ : ∃ V, validT (s, ar, rows) = V := ⟨_, rfl⟩
  rw [hV] at HVT HE0 HE1
  clear hV ht g1 hst hgf
  have hb0 : Below w.heap.size w w := Below.refl _ _
  go_enter Try.func83, Try.ntmps83
  obtain ⟨w1, hw1⟩ : ∃ W, W = w.alloc (.cells #[.string s, .int .i64 ar, .slice ub un uc] 34) := ⟨_, rfl⟩
  have z1 : Below w.heap.size w w1 := by rw [hw1]; exact (Below.refl _ _).alloc (Nat.le_refl _) _
  have s1 : w1.heap.size = w.heap.size + 1 := by rw [hw1]; simp
  have hb1 := on hb0 z1
  have b_0 : w1.cell? ⟨w.heap.size, 0, none⟩ = some (.string s) := by rw [hw1]; exact box_cell (Below.refl _ _) rfl
  have b_1 : w1.cell? ⟨w.heap.size, 1, none⟩ = some (.int .i64 ar) := by rw [hw1]; exact box_cell (Below.refl _ _) rfl
  have b_2 : w1.cell? ⟨w.heap.size, 2, none⟩ = some (.slice ub un uc) := by rw [hw1]; exact box_cell (Below.refl _ _) rfl
  have b_f0 : w1.frozen? ⟨w.heap.size, 0, none⟩ = false := by rw [hw1]; exact box_frozen (Below.refl _ _)
  have b_f1 : w1.frozen? ⟨w.heap.size, 1, none⟩ = false := by rw [hw1]; exact box_frozen (Below.refl _ _)
  have b_f2 : w1.frozen? ⟨w.heap.size, 2, none⟩ = false := by rw [hw1]; exact box_frozen (Below.refl _ _)
  have raw1_b_0 := b_0
  have raw1_b_1 := b_1
  have raw1_b_2 := b_2
  rw [hw1] at raw1_b_0 raw1_b_1 raw1_b_2
  obtain ⟨w2, hw2⟩ : ∃ W, W = w1.alloc (.cells #[.string ⟨#[]⟩, .int .i64 0, .int .i64 0, .slice none 0 0] 101) := ⟨_, rfl⟩
  have z2 : Below w1.heap.size w1 w2 := by rw [hw2]; exact (Below.refl _ _).alloc (Nat.le_refl _) _
  have s2 : w2.heap.size = w1.heap.size + 1 := by rw [hw2]; simp
  have hb2 := on hb1 z2
  replace b_0 := (z2.cell (p := ⟨w.heap.size, 0, none⟩) (by simp only []; omega)).trans b_0
  replace b_1 := (z2.cell (p := ⟨w.heap.size, 1, none⟩) (by simp only []; omega)).trans b_1
  replace b_2 := (z2.cell (p := ⟨w.heap.size, 2, none⟩) (by simp only []; omega)).trans b_2
  replace b_f0 := (z2.frozen (p := ⟨w.heap.size, 0, none⟩) (by simp only []; omega)).trans b_f0
  replace b_f1 := (z2.frozen (p := ⟨w.heap.size, 1, none⟩) (by simp only []; omega)).trans b_f1
  replace b_f2 := (z2.frozen (p := ⟨w.heap.size, 2, none⟩) (by simp only []; omega)).trans b_f2
  have e2 : w1.heap.size = w.heap.size + 1 := by omega
  have r_0 : w2.cell? ⟨w1.heap.size, 0, none⟩ = some (.string ⟨#[]⟩) := by rw [hw2]; exact box_cell (Below.refl _ _) rfl
  have r_1 : w2.cell? ⟨w1.heap.size, 1, none⟩ = some (.int .i64 0) := by rw [hw2]; exact box_cell (Below.refl _ _) rfl
  have r_2 : w2.cell? ⟨w1.heap.size, 2, none⟩ = some (.int .i64 0) := by rw [hw2]; exact box_cell (Below.refl _ _) rfl
  have r_3 : w2.cell? ⟨w1.heap.size, 3, none⟩ = some (.slice none 0 0) := by rw [hw2]; exact box_cell (Below.refl _ _) rfl
  rw [e2] at r_0 r_1 r_2 r_3
  have r_f0 : w2.frozen? ⟨w1.heap.size, 0, none⟩ = false := by rw [hw2]; exact box_frozen (Below.refl _ _)
  have r_f1 : w2.frozen? ⟨w1.heap.size, 1, none⟩ = false := by rw [hw2]; exact box_frozen (Below.refl _ _)
  have r_f2 : w2.frozen? ⟨w1.heap.size, 2, none⟩ = false := by rw [hw2]; exact box_frozen (Below.refl _ _)
  have r_f3 : w2.frozen? ⟨w1.heap.size, 3, none⟩ = false := by rw [hw2]; exact box_frozen (Below.refl _ _)
  rw [e2] at r_f0 r_f1 r_f2 r_f3
  have raw2_b_0 := b_0
  have raw2_b_1 := b_1
  have raw2_b_2 := b_2
  have raw2_r_0 := r_0
  have raw2_r_1 := r_1
  have raw2_r_2 := r_2
  have raw2_r_3 := r_3
  rw [hw2, hw1] at raw2_b_0 raw2_b_1 raw2_b_2 raw2_r_0 raw2_r_1 raw2_r_2 raw2_r_3
  go_wp2_with fail
  rw [← hw1]
  rw [← hw2]
  clear hw2 hw1
  clear raw1_b_0 raw1_b_1 raw1_b_2 raw2_b_0 raw2_b_1 raw2_b_2 raw2_r_0 raw2_r_1 raw2_r_2 raw2_r_3
  refine (HVT.out _ hb2).mono ?_
  rintro e w9 ⟨rfl, z9⟩
  have s3 := z9.size
  have hb3 := on hb2 z9
  replace b_0 := (z9.cell (p := ⟨w.heap.size, 0, none⟩) (by simp only []; omega)).trans b_0
  replace b_1 := (z9.cell (p := ⟨w.heap.size, 1, none⟩) (by simp only []; omega)).trans b_1
  replace b_2 := (z9.cell (p := ⟨w.heap.size, 2, none⟩) (by simp only []; omega)).trans b_2
  replace b_f0 := (z9.frozen (p := ⟨w.heap.size, 0, none⟩) (by simp only []; omega)).trans b_f0
  replace b_f1 := (z9.frozen (p := ⟨w.heap.size, 1, none⟩) (by simp only []; omega)).trans b_f1
  replace b_f2 := (z9.frozen (p := ⟨w.heap.size, 2, none⟩) (by simp only []; omega)).trans b_f2
  replace r_0 := (z9.cell (p := ⟨w.heap.size + 1, 0, none⟩) (by simp only []; omega)).trans r_0
  replace r_1 := (z9.cell (p := ⟨w.heap.size + 1, 1, none⟩) (by simp only []; omega)).trans r_1
  replace r_2 := (z9.cell (p := ⟨w.heap.size + 1, 2, none⟩) (by simp only []; omega)).trans r_2
  replace r_3 := (z9.cell (p := ⟨w.heap.size + 1, 3, none⟩) (by simp only []; omega)).trans r_3
  replace r_f0 := (z9.frozen (p := ⟨w.heap.size + 1, 0, none⟩) (by simp only []; omega)).trans r_f0
  replace r_f1 := (z9.frozen (p := ⟨w.heap.size + 1, 1, none⟩) (by simp only []; omega)).trans r_f1
  replace r_f2 := (z9.frozen (p := ⟨w.heap.size + 1, 2, none⟩) (by simp only []; omega)).trans r_f2
  replace r_f3 := (z9.frozen (p := ⟨w.heap.size + 1, 3, none⟩) (by simp only []; omega)).trans r_f3
  cases V with
  | false =>
    have HE := Lib.hid (HE0.out rfl)
    go_wp2_with fail
    refine bodyPost_ret (v := .agg #[.string ⟨#[]⟩, .int .i64 0, .int .i64 0, .slice none 0 0]) (by simp [results, Try.results83, go_sem, r_0, r_1, r_2, r_3, r_f0, r_f1, r_f2, r_f3]) rfl ⟨_, rfl, ?_, ?_⟩
    · rw [HE.out]
      refine oTs_mk (x := (⟨#[]⟩, 0, 0, [])) (by decide) (by constructor <;> decide) (by constructor <;> decide) (l3 := w.heap.size) (m3 := w.heap.size) ?_ (by omega) (by simp [World.setCell]; omega)
      exact own_nil_S
    · repeat (refine Below.setCell ?_ (by simp only []; omega) _)
      exact hb3
  | true =>
    have HE := Lib.hid (HE1.out rfl)
    obtain ⟨w4, hw4⟩ : ∃ W, W = w9.alloc (.cells #[.string s, .int .i64 ar, .int .i64 (un : Int), .slice none 0 0] 101) := ⟨_, rfl⟩
    have z4 : Below w9.heap.size w9 w4 := by rw [hw4]; exact (Below.refl _ _).alloc (Nat.le_refl _) _
    have s4 : w4.heap.size = w9.heap.size + 1 := by rw [hw4]; simp
    have hb4 := on hb3 z4
    have old4_b_0 := b_0
    have old4_b_1 := b_1
    have old4_b_2 := b_2
    have old4_r_0 := r_0
    have old4_r_1 := r_1
    have old4_r_2 := r_2
    have old4_r_3 := r_3
    replace b_0 := (z4.cell (p := ⟨w.heap.size, 0, none⟩) (by simp only []; omega)).trans b_0
    replace b_1 := (z4.cell (p := ⟨w.heap.size, 1, none⟩) (by simp only []; omega)).trans b_1
    replace b_2 := (z4.cell (p := ⟨w.heap.size, 2, none⟩) (by simp only []; omega)).trans b_2
    replace b_f0 := (z4.frozen (p := ⟨w.heap.size, 0, none⟩) (by simp only []; omega)).trans b_f0
    replace b_f1 := (z4.frozen (p := ⟨w.heap.size, 1, none⟩) (by simp only []; omega)).trans b_f1
    replace b_f2 := (z4.frozen (p := ⟨w.heap.size, 2, none⟩) (by simp only []; omega)).trans b_f2
    replace r_0 := (z4.cell (p := ⟨w.heap.size + 1, 0, none⟩) (by simp only []; omega)).trans r_0
    replace r_1 := (z4.cell (p := ⟨w.heap.size + 1, 1, none⟩) (by simp only []; omega)).trans r_1
    replace r_2 := (z4.cell (p := ⟨w.heap.size + 1, 2, none⟩) (by simp only []; omega)).trans r_2
    replace r_3 := (z4.cell (p := ⟨w.heap.size + 1, 3, none⟩) (by simp only []; omega)).trans r_3
    replace r_f0 := (z4.frozen (p := ⟨w.heap.size + 1, 0, none⟩) (by simp only []; omega)).trans r_f0
    replace r_f1 := (z4.frozen (p := ⟨w.heap.size + 1, 1, none⟩) (by simp only []; omega)).trans r_f1
    replace r_f2 := (z4.frozen (p := ⟨w.heap.size + 1, 2, none⟩) (by simp only []; omega)).trans r_f2
    replace r_f3 := (z4.frozen (p := ⟨w.heap.size + 1, 3, none⟩) (by simp only []; omega)).trans r_f3
    have x_0 : w4.cell? ⟨w9.heap.size, 0, none⟩ = some (.string s) := by rw [hw4]; exact box_cell (Below.refl _ _) rfl
    have x_1 : w4.cell? ⟨w9.heap.size, 1, none⟩ = some (.int .i64 ar) := by rw [hw4]; exact box_cell (Below.refl _ _) rfl
    have x_2 : w4.cell? ⟨w9.heap.size, 2, none⟩ = some (.int .i64 (un : Int)) := by rw [hw4]; exact box_cell (Below.refl _ _) rfl
    have x_3 : w4.cell? ⟨w9.heap.size, 3, none⟩ = some (.slice none 0 0) := by rw [hw4]; exact box_cell (Below.refl _ _) rfl
    have x_f0 : w4.frozen? ⟨w9.heap.size, 0, none⟩ = false := by rw [hw4]; exact box_frozen (Below.refl _ _)
    have x_f1 : w4.frozen? ⟨w9.heap.size, 1, none⟩ = false := by rw [hw4]; exact box_frozen (Below.refl _ _)
    have x_f2 : w4.frozen? ⟨w9.heap.size, 2, none⟩ = false := by rw [hw4]; exact box_frozen (Below.refl _ _)
    have x_f3 : w4.frozen? ⟨w9.heap.size, 3, none⟩ = false := by rw [hw4]; exact box_frozen (Below.refl _ _)
    have raw4_b_0 := b_0
    have raw4_b_1 := b_1
    have raw4_b_2 := b_2
    have raw4_r_0 := r_0
    have raw4_r_1 := r_1
    have raw4_r_2 := r_2
    have raw4_r_3 := r_3
    have raw4_x_0 := x_0
    have raw4_x_1 := x_1
    have raw4_x_2 := x_2
    have raw4_x_3 := x_3
    rw [hw4] at raw4_b_0 raw4_b_1 raw4_b_2 raw4_r_0 raw4_r_1 raw4_r_2 raw4_r_3 raw4_x_0 raw4_x_1 raw4_x_2 raw4_x_3
    go_wp2_with fail
    rw [← hw4]
    clear hw4
    clear old4_b_0 old4_b_1 old4_b_2 old4_r_0 old4_r_1 old4_r_2 old4_r_3 raw4_b_0 raw4_b_1 raw4_b_2 raw4_r_0 raw4_r_1 raw4_r_2 raw4_r_3 raw4_x_0 raw4_x_1 raw4_x_2 raw4_x_3
    refine (colSubsets_spec ar _).mono ?_
    rintro e wS ⟨lb, ln, lc, rfl, o1, zS⟩
    have s5 := zS.size
    have hb5 := on hb4 zS
    replace b_0 := (zS.cell (p := ⟨w.heap.size, 0, none⟩) (by simp only []; omega)).trans b_0
    replace b_1 := (zS.cell (p := ⟨w.heap.size, 1, none⟩) (by simp only []; omega)).trans b_1
    replace b_2 := (zS.cell (p := ⟨w.heap.size, 2, none⟩) (by simp only []; omega)).trans b_2
    replace b_f0 := (zS.frozen (p := ⟨w.heap.size, 0, none⟩) (by simp only []; omega)).trans b_f0
    replace b_f1 := (zS.frozen (p := ⟨w.heap.size, 1, none⟩) (by simp only []; omega)).trans b_f1
    replace b_f2 := (zS.frozen (p := ⟨w.heap.size, 2, none⟩) (by simp only []; omega)).trans b_f2
    replace r_0 := (zS.cell (p := ⟨w.heap.size + 1, 0, none⟩) (by simp only []; omega)).trans r_0
    replace r_1 := (zS.cell (p := ⟨w.heap.size + 1, 1, none⟩) (by simp only []; omega)).trans r_1
    replace r_2 := (zS.cell (p := ⟨w.heap.size + 1, 2, none⟩) (by simp only []; omega)).trans r_2
    replace r_3 := (zS.cell (p := ⟨w.heap.size + 1, 3, none⟩) (by simp only []; omega)).trans r_3
    replace r_f0 := (zS.frozen (p := ⟨w.heap.size + 1, 0, none⟩) (by simp only []; omega)).trans r_f0
    replace r_f1 := (zS.frozen (p := ⟨w.heap.size + 1, 1, none⟩) (by simp only []; omega)).trans r_f1
    replace r_f2 := (zS.frozen (p := ⟨w.heap.size + 1, 2, none⟩) (by simp only []; omega)).trans r_f2
    replace r_f3 := (zS.frozen (p := ⟨w.heap.size + 1, 3, none⟩) (by simp only []; omega)).trans r_f3
    replace x_0 := (zS.cell (p := ⟨w9.heap.size, 0, none⟩) (by simp only []; omega)).trans x_0
    replace x_1 := (zS.cell (p := ⟨w9.heap.size, 1, none⟩) (by simp only []; omega)).trans x_1
    replace x_2 := (zS.cell (p := ⟨w9.heap.size, 2, none⟩) (by simp only []; omega)).trans x_2
    replace x_3 := (zS.cell (p := ⟨w9.heap.size, 3, none⟩) (by simp only []; omega)).trans x_3
    replace x_f0 := (zS.frozen (p := ⟨w9.heap.size, 0, none⟩) (by simp only []; omega)).trans x_f0
    replace x_f1 := (zS.frozen (p := ⟨w9.heap.size, 1, none⟩) (by simp only []; omega)).trans x_f1
    replace x_f2 := (zS.frozen (p := ⟨w9.heap.size, 2, none⟩) (by simp only []; omega)).trans x_f2
    replace x_f3 := (zS.frozen (p := ⟨w9.heap.size, 3, none⟩) (by simp only []; omega)).trans x_f3
    obtain ⟨L, hL⟩ : ∃ L, colSubsets ar = L := ⟨_, rfl⟩
    have hL7 : L.length ≤ 7 := by rw [← hL]; exact colSubsets_len ar
    rw [hL] at o1 HE
    obtain ⟨fl, hrep, hnd, hbd⟩ := o1
    obtain ⟨fps, rfl, hLl, hrow⟩ := rows_at hrep
    have hfn := (List.nodup_append.1 hnd).2.1
    have hfS : ∀ k ∈ fps.flatten, k < wS.heap.size := fun k hk => (hbd k (List.mem_append_right _ hk)).2
    have hfL : ∀ k ∈ fps.flatten, w9.heap.size < k := fun k hk => by have := (hbd k (List.mem_append_right _ hk)).1; omega
    have hsb9 : w9.heap.size ∉ fps.flatten := fun h9 => by have := hfL _ h9; omega
    have HROW := Lib.hid hrow
    have HFN := Lib.hid hfn
    have HFS := Lib.hid hfS
    have HFL := Lib.hid hfL
    have hlg : ∀ g, lb = some ⟨g, 0, none⟩ → w9.heap.size < g ∧ g < wS.heap.size := fun g e => by
      have := hbd g (by subst e; simp [bl, Value.ownBlock]); omega
    have HLG := Lib.hid hlg
    have hsbS : w9.heap.size < wS.heap.size := by omega
    have hln7 : ln ≤ 7 := by omega
    have HLL := Lib.hid hLl
    clear hL hrep hnd hbd hrow hfn hfS hfL hlg hLl
    go_wp2_with fail
    go_loopw [5] (fun k wr => ∃ (j : Nat) (v : Value), j ≤ ln ∧ k = .int .i64 j ∧ (wr.cell? ⟨w9.heap.size, 0, none⟩ = some (.string s) ∧ wr.cell? ⟨w9.heap.size, 1, none⟩ = some (.int .i64 ar) ∧ wr.cell? ⟨w9.heap.size, 2, none⟩ = some (.int .i64 (un : Int)) ∧ wr.cell? ⟨w9.heap.size, 3, none⟩ = some v ∧ wr.frozen? ⟨w9.heap.size, 3, none⟩ = false) ∧ GS wr wS.heap.size wr.heap.size fps j v ((L.take j).map gf) ∧ Turn w9.heap.size (w9.heap.size + 1) wS wr) (fun k _ => ln - (intOf k).toNat)
    case atStart => exact ⟨0, _, Nat.zero_le _, rfl, ⟨x_0, x_1, x_2, x_3, x_f3⟩, by rw [List.take_zero]; exact GS.nil, turn_refl _ _ _⟩
    case round =>
      obtain ⟨j, v, hj, rfl, ⟨y_0, y_1, y_2, y_3, y_f3⟩, hGS, hdr⟩ := hrel
      have hlc := hdr
      clear x_0 x_1 x_2 x_3 x_f0 x_f1 x_f2 x_f3
      obtain ⟨va, vn, vc, rfl⟩ := oGl_form1 (hGS.own (Nat.zero_le _) (fun _ _ => Nat.zero_le _))
      have s6 := hdr.size
      have hb6 := hb5.trans ((hdr.below (by omega)).mono (by omega))
      replace b_0 := (hdr.cell (p := ⟨w.heap.size, 0, none⟩) (by simp only []; omega) (by simp only []; omega)).trans b_0
      replace b_1 := (hdr.cell (p := ⟨w.heap.size, 1, none⟩) (by simp only []; omega) (by simp only []; omega)).trans b_1
      replace b_2 := (hdr.cell (p := ⟨w.heap.size, 2, none⟩) (by simp only []; omega) (by simp only []; omega)).trans b_2
      replace b_f0 := (World.frozen?_of_block (a := ⟨w.heap.size, 0, none⟩) (hdr.block _ (by simp only []; omega) (by simp only []; omega))).trans b_f0
      replace b_f1 := (World.frozen?_of_block (a := ⟨w.heap.size, 1, none⟩) (hdr.block _ (by simp only []; omega) (by simp only []; omega))).trans b_f1
      replace b_f2 := (World.frozen?_of_block (a := ⟨w.heap.size, 2, none⟩) (hdr.block _ (by simp only []; omega) (by simp only []; omega))).trans b_f2
      replace r_0 := (hdr.cell (p := ⟨w.heap.size + 1, 0, none⟩) (by simp only []; omega) (by simp only []; omega)).trans r_0
      replace r_1 := (hdr.cell (p := ⟨w.heap.size + 1, 1, none⟩) (by simp only []; omega) (by simp only []; omega)).trans r_1
      replace r_2 := (hdr.cell (p := ⟨w.heap.size + 1, 2, none⟩) (by simp only []; omega) (by simp only []; omega)).trans r_2
      replace r_3 := (hdr.cell (p := ⟨w.heap.size + 1, 3, none⟩) (by simp only []; omega) (by simp only []; omega)).trans r_3
      replace r_f0 := (World.frozen?_of_block (a := ⟨w.heap.size + 1, 0, none⟩) (hdr.block _ (by simp only []; omega) (by simp only []; omega))).trans r_f0
      replace r_f1 := (World.frozen?_of_block (a := ⟨w.heap.size + 1, 1, none⟩) (hdr.block _ (by simp only []; omega) (by simp only []; omega))).trans r_f1
      replace r_f2 := (World.frozen?_of_block (a := ⟨w.heap.size + 1, 2, none⟩) (hdr.block _ (by simp only []; omega) (by simp only []; omega))).trans r_f2
      replace r_f3 := (World.frozen?_of_block (a := ⟨w.heap.size + 1, 3, none⟩) (hdr.block _ (by simp only []; omega) (by simp only []; omega))).trans r_f3
      by_cases hlt : j < ln
      · obtain ⟨x, hx⟩ : ∃ x, L[j]? = some x := ⟨_, List.getElem?_eq_getElem (by have := HLL.out; omega)⟩
        obtain ⟨g, cb, cn, cc, f, rfl, hcl, hf, hrx⟩ := HROW.out j x hx
        obtain ⟨hg1, hg2⟩ := HLG.out g rfl
        have c0 : wr.cell? ⟨g, j, none⟩ = some (.slice cb cn cc) := (hlc.cell (p := ⟨g, j, none⟩) hg2 (.inr (by simp only []; omega))).trans hcl
        have hrx2 := oI.frame hrx (fun k hk => hlc.block k (HFS.out k (List.mem_flatten.2 ⟨f, List.mem_of_getElem? hf, hk⟩)) (.inr (by have := HFL.out k (List.mem_flatten.2 ⟨f, List.mem_of_getElem? hf, hk⟩); omega)))
        have HT := Lib.hid (take_snoc' L j x hx)
        have HF := Lib.hid hf
        have hgr : g < wr.heap.size := by omega
        clear hcl hx hrx hf
        have hbd := hb6.drew
        have hrxd := oI.frame (w' := wr.drew) hrx2 (fun k hk => rfl)
        go_wp2_with fail
        refine wp_region_noPanic ?_
        refine wp_region_held_drew (S := (fun W => W.cell? ⟨w.heap.size, 0, none⟩ = some (.string s) ∧ W.cell? ⟨w.heap.size, 1, none⟩ = some (.int .i64 ar) ∧ W.cell? ⟨w.heap.size, 2, none⟩ = some (.slice ub un uc) ∧ W.cell? ⟨g, j, none⟩ = some (.slice cb cn cc))) (by kernel_rfl) ?hS7 (fun hHeld => ?_)
        case hS7 => exact ⟨b_0, b_1, b_2, c0⟩
        refine wpAnyH_take (i := 0) (v := ?v0_8) rfl (by kernel_rfl) (by kernel_rfl) (by kernel_rfl) (fun _ _ _ h => h) (Or.inl ⟨by rfl, ?hy0_8⟩) (by assumption) ?rest0_8
        case hy0_8 => intro w hSw; (try dsimp only at hSw); go_simp; (try with_reducible rfl)
        try simp only [Act.put, List.getElem_toArray, List.getElem_cons_succ, List.getElem_cons_zero, List.setIfInBounds_toArray, List.set_cons_zero, List.set_cons_succ]
        refine wpAnyH_take (i := 1) (v := ?v1_9) rfl (by kernel_rfl) (by kernel_rfl) (by kernel_rfl) (fun _ _ _ h => h) (Or.inl ⟨by rfl, ?hy1_9⟩) (by assumption) ?rest1_9
        case hy1_9 => intro w hSw; (try dsimp only at hSw); go_simp; (try with_reducible rfl)
        try simp only [Act.put, List.getElem_toArray, List.getElem_cons_succ, List.getElem_cons_zero, List.setIfInBounds_toArray, List.set_cons_zero, List.set_cons_succ]
        refine wpAnyH_take (i := 2) (v := ?v2_10) rfl (by kernel_rfl) (by kernel_rfl) (by kernel_rfl) (fun _ _ _ h => h) (Or.inl ⟨by rfl, ?hy2_10⟩) (by assumption) ?rest2_10
        case hy2_10 => intro w hSw; (try dsimp only at hSw); go_simp; (try with_reducible rfl)
        try simp only [Act.put, List.getElem_toArray, List.getElem_cons_succ, List.getElem_cons_zero, List.setIfInBounds_toArray, List.set_cons_zero, List.set_cons_succ]
        refine wpAnyH_take (i := 3) (v := ?v3_11) rfl (by kernel_rfl) (by kernel_rfl) (by kernel_rfl) (fun _ _ _ h => h) (Or.inl ⟨by rfl, ?hy3_11⟩) (by assumption) ?rest3_11
        case hy3_11 => intro w hSw; (try dsimp only at hSw); go_simp; (try with_reducible rfl)
        try simp only [Act.put, List.getElem_toArray, List.getElem_cons_succ, List.getElem_cons_zero, List.setIfInBounds_toArray, List.set_cons_zero, List.set_cons_succ]
        refine wpAnyH_take (i := 4) (v := ?v4_12) rfl (by kernel_rfl) (by kernel_rfl) (by kernel_rfl) (fun _ _ _ h => h) (Or.inl ⟨by rfl, ?hy4_12⟩) (by assumption) ?rest4_12
        case hy4_12 => intro w hSw; (try dsimp only at hSw); go_simp; (try with_reducible rfl)
        try simp only [Act.put, List.getElem_toArray, List.getElem_cons_succ, List.getElem_cons_zero, List.setIfInBounds_toArray, List.set_cons_zero, List.set_cons_succ]
        refine wpAnyH_ready (rs := [5]) (by kernel_rfl) (by simp) ?_
        refine AllReadyH.cons rfl (fun K hK => ?_) AllReadyH.nil
        go_simp; (refine (HG.out _ x _ hbd (reads_I.2 hrxd)).mono ?_); rintro e w8 ⟨b1, n1, c1, b2, n2, c2, rfl, q1, z8⟩; replace z8 : Below wr.heap.size wr w8 := on (Below.refl _ _).drew z8; have s8 := z8.size; have hS8 := (⟨(z8.cell (p := ⟨w.heap.size, 0, none⟩) (by simp only []; omega)).trans b_0, (z8.cell (p := ⟨w.heap.size, 1, none⟩) (by simp only []; omega)).trans b_1, (z8.cell (p := ⟨w.heap.size, 2, none⟩) (by simp only []; omega)).trans b_2, (z8.cell (p := ⟨g, j, none⟩) (by simp only []; omega)).trans c0⟩ : (fun W => W.cell? ⟨w.heap.size, 0, none⟩ = some (.string s) ∧ W.cell? ⟨w.heap.size, 1, none⟩ = some (.int .i64 ar) ∧ W.cell? ⟨w.heap.size, 2, none⟩ = some (.slice ub un uc) ∧ W.cell? ⟨g, j, none⟩ = some (.slice cb cn cc)) w8)
        refine hK.out _ _ ?_ (fun hHeld => ?_)
        · exact hS8
        clear hK K
        try simp only [Act.put, List.setIfInBounds_toArray, List.set_cons_zero, List.set_cons_succ]
        refine wpAnyH_take (i := 6) (v := ?v6_13) rfl (by kernel_rfl) (by kernel_rfl) (by kernel_rfl) (fun _ _ _ h => h) (Or.inl ⟨by rfl, ?hy6_13⟩) (by assumption) ?rest6_13
        case hy6_13 => intro w hSw; (try dsimp only at hSw); go_simp; (try with_reducible rfl)
        try simp only [Act.put, List.getElem_toArray, List.getElem_cons_succ, List.getElem_cons_zero, List.setIfInBounds_toArray, List.set_cons_zero, List.set_cons_succ]
        refine wpAnyH_take (i := 7) (v := ?v7_14) rfl (by kernel_rfl) (by kernel_rfl) (by kernel_rfl) (fun _ _ _ h => h) (Or.inl ⟨by rfl, ?hy7_14⟩) (by assumption) ?rest7_14
        case hy7_14 => intro w hSw; (try dsimp only at hSw); go_simp; (try with_reducible rfl)
        try simp only [Act.put, List.getElem_toArray, List.getElem_cons_succ, List.getElem_cons_zero, List.setIfInBounds_toArray, List.set_cons_zero, List.set_cons_succ]
        refine wpAnyH_take (i := 8) (v := ?v8_15) rfl (by kernel_rfl) (by kernel_rfl) (by kernel_rfl) (fun _ _ _ h => h) (Or.inl ⟨by rfl, ?hy8_15⟩) (by assumption) ?rest8_15
        case hy8_15 => intro w hSw; (try dsimp only at hSw); go_simp; (try with_reducible rfl)
        try simp only [Act.put, List.getElem_toArray, List.getElem_cons_succ, List.getElem_cons_zero, List.setIfInBounds_toArray, List.set_cons_zero, List.set_cons_succ]
        refine wpAnyH_take (i := 9) (v := ?v9_16) rfl (by kernel_rfl) (by kernel_rfl) (by kernel_rfl) (fun _ _ _ h => h) (Or.inl ⟨by rfl, ?hy9_16⟩) (by assumption) ?rest9_16
        case hy9_16 => intro w hSw; (try dsimp only at hSw); go_simp; (try with_reducible rfl)
        try simp only [Act.put, List.getElem_toArray, List.getElem_cons_succ, List.getElem_cons_zero, List.setIfInBounds_toArray, List.set_cons_zero, List.set_cons_succ]
        refine wpAnyH_take (i := 10) (v := ?v10_17) rfl (by kernel_rfl) (by kernel_rfl) (by kernel_rfl) (fun _ _ _ h => h) (Or.inl ⟨by rfl, ?hy10_17⟩) (by assumption) ?rest10_17
        case hy10_17 => intro w hSw; (try dsimp only at hSw); go_simp; (try with_reducible rfl)
        try simp only [Act.put, List.getElem_toArray, List.getElem_cons_succ, List.getElem_cons_zero, List.setIfInBounds_toArray, List.set_cons_zero, List.set_cons_succ]
        refine wpAnyH_done (by kernel_rfl) ?_ _
        refine NoPanic.normal ?_
        have hrx3 := oI.frame hrx2 (fun k hk => z8.block k (oI.lt hrx2 k hk))
        replace q1 : Own (O.pair oII oI) wr.heap.size w8.heap.size w8 [.slice b1 n1 c1, .slice b2 n2 c2] (grpV (s, ar, rows) x, grpN (s, ar, rows) x) := q1
        have d0 := hS8.2.2.2
        replace hGS := hGS.below z8 (Nat.le_refl _)
        replace hlc := hlc.trans (turn_below z8 (Nat.le_refl _))
        replace y_0 := (z8.cell (p := ⟨w9.heap.size, 0, none⟩) (by simp only []; omega)).trans y_0
        replace y_1 := (z8.cell (p := ⟨w9.heap.size, 1, none⟩) (by simp only []; omega)).trans y_1
        replace y_2 := (z8.cell (p := ⟨w9.heap.size, 2, none⟩) (by simp only []; omega)).trans y_2
        replace y_3 := (z8.cell (p := ⟨w9.heap.size, 3, none⟩) (by simp only []; omega)).trans y_3
        replace y_f3 := (z8.frozen (p := ⟨w9.heap.size, 3, none⟩) (by simp only []; omega)).trans y_f3
        clear hS8 hbd hrxd
        have s18 := z8.size
        have hb18 := on hb6 z8
        replace b_0 := (z8.cell (p := ⟨w.heap.size, 0, none⟩) (by simp only []; omega)).trans b_0
        replace b_1 := (z8.cell (p := ⟨w.heap.size, 1, none⟩) (by simp only []; omega)).trans b_1
        replace b_2 := (z8.cell (p := ⟨w.heap.size, 2, none⟩) (by simp only []; omega)).trans b_2
        replace b_f0 := (z8.frozen (p := ⟨w.heap.size, 0, none⟩) (by simp only []; omega)).trans b_f0
        replace b_f1 := (z8.frozen (p := ⟨w.heap.size, 1, none⟩) (by simp only []; omega)).trans b_f1
        replace b_f2 := (z8.frozen (p := ⟨w.heap.size, 2, none⟩) (by simp only []; omega)).trans b_f2
        replace r_0 := (z8.cell (p := ⟨w.heap.size + 1, 0, none⟩) (by simp only []; omega)).trans r_0
        replace r_1 := (z8.cell (p := ⟨w.heap.size + 1, 1, none⟩) (by simp only []; omega)).trans r_1
        replace r_2 := (z8.cell (p := ⟨w.heap.size + 1, 2, none⟩) (by simp only []; omega)).trans r_2
        replace r_3 := (z8.cell (p := ⟨w.heap.size + 1, 3, none⟩) (by simp only []; omega)).trans r_3
        replace r_f0 := (z8.frozen (p := ⟨w.heap.size + 1, 0, none⟩) (by simp only []; omega)).trans r_f0
        replace r_f1 := (z8.frozen (p := ⟨w.heap.size + 1, 1, none⟩) (by simp only []; omega)).trans r_f1
        replace r_f2 := (z8.frozen (p := ⟨w.heap.size + 1, 2, none⟩) (by simp only []; omega)).trans r_f2
        replace r_f3 := (z8.frozen (p := ⟨w.heap.size + 1, 3, none⟩) (by simp only []; omega)).trans r_f3
        have hd8 : Below w8.heap.size w8 w8.drew := (Below.refl _ _).drew
        obtain ⟨na, nn, nc, wn, hrn, hGn, hbn, hzn⟩ := GS.addP (W := w8.drew) (W1 := (w8.alloc (.cells #[.slice cb cn cc, .slice b1 n1 c1, .slice b2 n2 c2] 144)).drew) 99 (hGS.below hd8 (by omega)) HFN.out HFS.out HF.out (oI.frame (w' := w8.drew) hrx3 (fun k hk => rfl)) (q1.below hd8 (Nat.le_refl _)) (by omega) (Nat.le_refl _) s8 (Nat.le_refl _) (by rw [List.length_map]; have := List.length_take_le j L; omega) rfl
        rw [show ((L.take j).map gf ++ [(x, grpV (s, ar, rows) x, grpN (s, ar, rows) x)]) = (L.take (j + 1)).map gf by rw [HT.out, List.map_append, List.map_singleton, HGF.out]] at hGn
        have hbn9 : Below wS.heap.size w8 wn := (hd8.mono (by omega)).trans hbn
        have n_0 := (hbn9.cell (p := ⟨w9.heap.size, 0, none⟩) hsbS).trans y_0
        have n_1 := (hbn9.cell (p := ⟨w9.heap.size, 1, none⟩) hsbS).trans y_1
        have n_2 := (hbn9.cell (p := ⟨w9.heap.size, 2, none⟩) hsbS).trans y_2
        have n_3 := (hbn9.cell (p := ⟨w9.heap.size, 3, none⟩) hsbS).trans y_3
        have n_f3 := (hbn9.frozen (p := ⟨w9.heap.size, 3, none⟩) hsbS).trans y_f3
        have n_c := (hbn9.cell (p := ⟨g, j, none⟩) hg2).trans d0
        have HGN := Lib.hid ((hGn.set (p := ⟨w9.heap.size, 3, none⟩) hsbS hsb9 (.slice na nn nc)).mono (show wn.heap.size ≤ (wn.setCell ⟨w9.heap.size, 3, none⟩ (.slice na nn nc)).heap.size by simp [World.setCell]))
        have HTN := Lib.hid ((turn_on hlc hbn9).setIn (p := ⟨w9.heap.size, 3, none⟩) (Nat.le_refl _) (Nat.lt_succ_self _) (.slice na nn nc))
        have k0 : (wn.setCell ⟨w9.heap.size, 3, none⟩ (.slice na nn nc)).cell? ⟨w9.heap.size, 0, none⟩ = some (.string s) := by go_simp
        have k1 : (wn.setCell ⟨w9.heap.size, 3, none⟩ (.slice na nn nc)).cell? ⟨w9.heap.size, 1, none⟩ = some (.int .i64 ar) := by go_simp
        have k2 : (wn.setCell ⟨w9.heap.size, 3, none⟩ (.slice na nn nc)).cell? ⟨w9.heap.size, 2, none⟩ = some (.int .i64 (un : Int)) := by go_simp
        have k3 : (wn.setCell ⟨w9.heap.size, 3, none⟩ (.slice na nn nc)).cell? ⟨w9.heap.size, 3, none⟩ = some (.slice na nn nc) := by go_simp
        have k4 : (wn.setCell ⟨w9.heap.size, 3, none⟩ (.slice na nn nc)).frozen? ⟨w9.heap.size, 3, none⟩ = false := by go_simp
        have K0 := Lib.hid k0
        have K1 := Lib.hid k1
        have K2 := Lib.hid k2
        have K3 := Lib.hid k3
        have K4 := Lib.hid k4
        clear hGS hGn hlc q1 hrx2 hrx3 k0 k1 k2 k3 k4
        go_wp2_with fail
        refine wp_region_noPanic ?_
        refine wp_region_lastP (fun W => W.cell? ⟨w9.heap.size, 3, none⟩ = some (.slice va vn vc) ∧ W.cell? ⟨g, j, none⟩ = some (.slice cb cn cc)) 12 (by kernel_rfl) rfl (by kernel_rfl) (by kernel_rfl) ?hSL (fun hHeld ops hops => ?_)
        case hSL => exact ⟨y_3, d0⟩
        simp only [List.pop_toArray, List.dropLast_cons_cons, List.dropLast_singleton] at hops
        subst hops
        refine wpAnyH_take (i := 0) (v := ?v0_19) rfl (by kernel_rfl) (by kernel_rfl) (by kernel_rfl) (fun _ _ _ h => h) (Or.inl ⟨by rfl, ?hy0_19⟩) (by assumption) ?rest0_19
        case hy0_19 => intro w hSw; (try dsimp only at hSw); go_simp; (try with_reducible rfl)
        try simp only [Act.put, List.getElem_toArray, List.getElem_cons_succ, List.getElem_cons_zero, List.setIfInBounds_toArray, List.set_cons_zero, List.set_cons_succ]
        refine wpAnyH_take (i := 1) (v := ?v1_20) rfl (by kernel_rfl) (by kernel_rfl) (by kernel_rfl) (fun _ _ _ h => h) (Or.inl ⟨by rfl, ?hy1_20⟩) (by assumption) ?rest1_20
        case hy1_20 => intro w hSw; (try dsimp only at hSw); go_simp; (try with_reducible rfl)
        try simp only [Act.put, List.getElem_toArray, List.getElem_cons_succ, List.getElem_cons_zero, List.setIfInBounds_toArray, List.set_cons_zero, List.set_cons_succ]
        refine wpAnyH_take (i := 2) (v := ?v2_21) rfl (by kernel_rfl) (by kernel_rfl) (by kernel_rfl) (fun _ _ _ h => h) (Or.inl ⟨by rfl, ?hy2_21⟩) (by assumption) ?rest2_21
        case hy2_21 => intro w hSw; (try dsimp only at hSw); go_simp; (try with_reducible rfl)
        try simp only [Act.put, List.getElem_toArray, List.getElem_cons_succ, List.getElem_cons_zero, List.setIfInBounds_toArray, List.set_cons_zero, List.set_cons_succ]
        refine wpAnyH_take (i := 3) (v := ?v3_22) rfl (by kernel_rfl) (by kernel_rfl) (by kernel_rfl) (fun _ _ _ h => h) (Or.inl ⟨by rfl, ?hy3_22⟩) (by assumption) ?rest3_22
        case hy3_22 => intro w hSw; (try dsimp only at hSw); go_simp; (try with_reducible rfl)
        try simp only [Act.put, List.getElem_toArray, List.getElem_cons_succ, List.getElem_cons_zero, List.setIfInBounds_toArray, List.set_cons_zero, List.set_cons_succ]
        refine wpAnyH_take (i := 4) (v := ?v4_23) rfl (by kernel_rfl) (by kernel_rfl) (by kernel_rfl) (fun _ _ _ h => h) (Or.inl ⟨by rfl, ?hy4_23⟩) (by assumption) ?rest4_23
        case hy4_23 => intro w hSw; (try dsimp only at hSw); go_simp; (try with_reducible rfl)
        try simp only [Act.put, List.getElem_toArray, List.getElem_cons_succ, List.getElem_cons_zero, List.setIfInBounds_toArray, List.set_cons_zero, List.set_cons_succ]
        refine wpAnyH_take (i := 5) (v := ?v5_24) rfl (by kernel_rfl) (by kernel_rfl) (by kernel_rfl) (fun _ _ _ h => h) (Or.inl ⟨by rfl, ?hy5_24⟩) (by assumption) ?rest5_24
        case hy5_24 => intro w hSw; (try dsimp only at hSw); go_simp; (try with_reducible rfl)
        try simp only [Act.put, List.getElem_toArray, List.getElem_cons_succ, List.getElem_cons_zero, List.setIfInBounds_toArray, List.set_cons_zero, List.set_cons_succ]
        refine wpAnyH_take (i := 6) (v := ?v6_25) rfl (by kernel_rfl) (by kernel_rfl) (by kernel_rfl) (fun _ _ _ h => h) (Or.inl ⟨by rfl, ?hy6_25⟩) (by assumption) ?rest6_25
        case hy6_25 => intro w hSw; (try dsimp only at hSw); go_simp; (try with_reducible rfl)
        try simp only [Act.put, List.getElem_toArray, List.getElem_cons_succ, List.getElem_cons_zero, List.setIfInBounds_toArray, List.set_cons_zero, List.set_cons_succ]
        refine wpAnyH_take (i := 7) (v := ?v7_26) rfl (by kernel_rfl) (by kernel_rfl) (by kernel_rfl) (fun _ _ _ h => h) (Or.inl ⟨by rfl, ?hy7_26⟩) (by assumption) ?rest7_26
        case hy7_26 => intro w hSw; (try dsimp only at hSw); go_simp; (try with_reducible rfl)
        try simp only [Act.put, List.getElem_toArray, List.getElem_cons_succ, List.getElem_cons_zero, List.setIfInBounds_toArray, List.set_cons_zero, List.set_cons_succ]
        refine wpAnyH_take (i := 8) (v := ?v8_27) rfl (by kernel_rfl) (by kernel_rfl) (by kernel_rfl) (fun _ _ _ h => h) (Or.inl ⟨by rfl, ?hy8_27⟩) (by assumption) ?rest8_27
        case hy8_27 => intro w hSw; (try dsimp only at hSw); go_simp; (try with_reducible rfl)
        try simp only [Act.put, List.getElem_toArray, List.getElem_cons_succ, List.getElem_cons_zero, List.setIfInBounds_toArray, List.set_cons_zero, List.set_cons_succ]
        refine wpAnyH_ready (rs := [9]) (by kernel_rfl) (by simp) ?_
        refine AllReadyH.cons rfl (fun K hK => ?_) AllReadyH.nil
        go_simp
        refine hK.out _ _ ?_ (fun hHeld => ?_)
        · exact ⟨cell_add y_3, cell_add d0⟩
        clear hK K
        try simp only [Act.put, List.setIfInBounds_toArray, List.set_cons_zero, List.set_cons_succ]
        refine wpAnyH_ready (rs := [10]) (by kernel_rfl) (by simp) ?_
        refine AllReadyH.cons rfl (fun K hK => ?_) AllReadyH.nil
        refine step_app hrn (by rfl) (by rfl) (by rfl) (by rfl) (by rfl) ?_
        refine hK.out _ _ ?_ (fun hHeld => ?_)
        · exact ⟨n_3, n_c⟩
        clear hK K
        try simp only [Act.put, List.setIfInBounds_toArray, List.set_cons_zero, List.set_cons_succ]
        refine wpAnyH_take (i := 11) (v := ?v11_28) rfl (by kernel_rfl) (by kernel_rfl) (by kernel_rfl) (fun _ _ _ h => h) (Or.inl ⟨by rfl, ?hy11_28⟩) (by assumption) ?rest11_28
        case hy11_28 => intro w hSw; (try dsimp only at hSw); go_simp; (try with_reducible rfl)
        try simp only [Act.put, List.getElem_toArray, List.getElem_cons_succ, List.getElem_cons_zero, List.setIfInBounds_toArray, List.set_cons_zero, List.set_cons_succ]
        refine wpAnyH_done (by kernel_rfl) ?_ _
        simp only [LastQ]
        go_simp
        refine NoPanic.normal ?_
        go_wp2_with fail
        go_roundw
        case rel => exact ⟨j + 1, .slice na nn nc, by omega, by go_num, ⟨K0.out, K1.out, K2.out, K3.out, K4.out⟩, HGN.out, HTN.out⟩
        case measure => simp [intOf]; omega
      · have hjl : j = ln := by omega
        have hGl := hGS
        rw [List.take_of_length_le (by have := HLL.out; omega)] at hGl
        have HO := Lib.hid (hGl.own (lo := w9.heap.size) (by omega) (fun k hk => by have := HFL.out k hk; omega))
        clear hGS hGl
        go_wp2_with fail
        refine bodyPost_ret (v := .agg #[.string s, .int .i64 ar, .int .i64 (un : Int), .slice va vn vc]) (by simp [results, Try.results83, go_sem, y_0, y_1, y_2, y_3, r_0, r_1, r_2, r_3, r_f0, r_f1, r_f2, r_f3]) rfl ⟨_, rfl, ?_, ?_⟩
        · rw [HE.out, hul]
          refine oTs_mk (x := (s, ar, (un : Int), L.map gf)) hs ⟨hi1, hi2⟩ (show I64 (un : Int) from ⟨by omega, by omega⟩) (l3 := w9.heap.size) (m3 := wr.heap.size) ?_ (by omega) (by simp [World.setCell])
          repeat (refine Own.setOut ?_ rfl (by simp only []; omega))
          exact HO.out
        · repeat (refine Below.setCell ?_ (by simp only []; omega) _)
          exact hb6

end Go.Proofs.Ytbkoddikfpkocaa

/- Plain: whether statistics are those of a table. -/
namespace Go.Proofs.Ytbkoddikfpkocaa
open Go.RowKit
set_option linter.unusedVariables false
set_option linter.unusedSimpArgs false
set_option synthInstance.maxSize 2000
set_option synthInstance.maxHeartbeats 400000

/-- The rows that the last group holds. -/
def lastV (gs : List DGs) : List (List Int) := match gs.getLast? with
  | some g => g.2.1
  | none => []
/-- The table that statistics would be of. -/
def tabOf (s : DTs) : DT := (s.1, s.2.1, lastV s.2.2.2)
/-- IsValidStats. -/
def validS (s : DTs) : Bool := validT (tabOf s) && decide (statsOf (tabOf s) = s)
/-- Rows put in order one by one, till there are nine. -/
def putSome (acc : List (List Int)) : List (List Int) → List (List Int)
  | [] => acc
  | r :: t => if acc.length ≤ 8 then putSome (putL r false acc) t else acc
def newT (name : ByteArray) (ar : Int) (rows : List (List Int)) : DT := (name, ar, putSome [] rows)
theorem putSome_canon : ∀ {rows acc : List (List Int)}, acc.length + rows.length ≤ 8 → putSome acc rows = rows.foldl (fun acc r => putL r false acc) acc
  | [], acc, _ => rfl
  | r :: t, acc, h => by
    have h1 := putL_len r false acc
    simp only [List.length_cons] at h
    rw [putSome, if_pos (by omega), putSome_canon (by omega)]; rfl
theorem putSome_at {acc rows : List (List Int)} {j : Nat} {r : List Int} (h : rows[j]? = some r) (ha : acc.length ≤ 8) : putSome acc (rows.drop j) = putSome (putL r false acc) (rows.drop (j + 1)) := by
  rw [drop_at h, putSome, if_pos ha]
theorem putSome_stop {acc rows : List (List Int)} (ha : ¬ acc.length ≤ 8) : putSome acc rows = acc := by
  cases rows with
  | nil => rfl
  | cons r t => rw [putSome, if_neg ha]
theorem putSome_end {acc rows : List (List Int)} {j : Nat} (h : rows.length ≤ j) : putSome acc (rows.drop j) = acc := by
  rw [List.drop_eq_nil_of_le h]; rfl
def fullC (K : Nat) : List Int := (List.range K).map (fun i : Nat => (i : Int))
theorem colSubsets_last {K : Nat} (h : 1 ≤ K ∧ K ≤ 3) : (colSubsets (K : Int)).getLast? = some (fullC K) := by
  rcases (by omega : K = 1 ∨ K = 2 ∨ K = 3) with rfl | rfl | rfl <;> decide
theorem colsB_full {K : Nat} (h : 1 ≤ K ∧ K ≤ 3) : colsB (K : Int) (fullC K) = true := by
  rcases (by omega : K = 1 ∨ K = 2 ∨ K = 3) with rfl | rfl | rfl <;> decide
theorem sel_full {K : Nat} (h : 1 ≤ K ∧ K ≤ 3) {r : List Int} (hr : r.length = K) : sel r (fullC K) = r := by
  rcases (by omega : K = 1 ∨ K = 2 ∨ K = 3) with rfl | rfl | rfl
  · match r, hr with
    | [a], _ => rfl
  · match r, hr with
    | [a, b], _ => rfl
  · match r, hr with
    | [a, b, c], _ => rfl
theorem grpV_full {t : DT} {K : Nat} (h : validT t = true) (hK : t.2.1 = (K : Int)) : grpV t (fullC K) = t.2.2 := by
  have hT := TOk.of h
  have hA := hT.ar
  have hK3 : 1 ≤ K ∧ K ≤ 3 := by omega
  have e : selRows t.2.2 (fullC K) = t.2.2 := by
    unfold selRows
    conv => rhs; rw [← List.map_id t.2.2]
    refine List.map_congr_left fun r hr => ?_
    exact sel_full hK3 (by have := (hT.row r hr).1; omega)
  rw [grpV, colsT, h, hK, colsB_full hK3, Bool.and_self, if_pos rfl, groups, e]
  exact canon_id (ascB_asc.1 hT.asc)
theorem lastV_stats {t : DT} (h : validT t = true) : lastV (statsOf t).2.2.2 = t.2.2 := by
  have hA := (TOk.of h).ar
  obtain ⟨K, hK⟩ := Int.eq_ofNat_of_zero_le (show 0 ≤ t.2.1 by omega)
  rw [statsOf_yes h]
  simp only [lastV, List.getLast?_map, hK]
  rw [colSubsets_last (by omega)]
  exact grpV_full h hK
/-- The reference's answer. -/
def validS' (s : DTs) : Bool := !decide (s.2.2.2 = []) && (validT (newT s.1 s.2.1 (lastV s.2.2.2)) && decide (statsOf (newT s.1 s.2.1 (lastV s.2.2.2)) = s))
theorem tab_of {s : DTs} {t : DT} (hv : validT t = true) (h : statsOf t = s) : tabOf s = t := by
  subst h
  have h1 := lastV_stats hv
  rw [tabOf, h1, statsOf_yes hv]
theorem valid_same (s : DTs) : validS' s = validS s := by
  rw [Bool.eq_iff_iff]
  constructor
  · intro h
    simp only [validS', Bool.and_eq_true, decide_eq_true_eq] at h
    have e := tab_of h.2.1 h.2.2
    rw [validS, e, h.2.1]; simpa using h.2.2
  · intro h
    simp only [validS, Bool.and_eq_true, decide_eq_true_eq] at h
    obtain ⟨hv, hs⟩ := h
    have hT := TOk.of hv
    have hl := hT.len
    have e : newT s.1 s.2.1 (lastV s.2.2.2) = tabOf s := by
      have h1 : putSome [] (lastV s.2.2.2) = lastV s.2.2.2 := by
        rw [putSome_canon (by simpa [tabOf] using hl)]
        exact canon_id (ascB_asc.1 hT.asc)
      rw [newT, h1]; rfl
    have hne : s.2.2.2 ≠ [] := fun h0 => by
      have h1 := congrArg (fun x : DTs => x.2.2.2) hs
      simp only [statsOf_yes hv] at h1
      rw [h0] at h1
      have hA := hT.ar
      obtain ⟨K, hK⟩ := Int.eq_ofNat_of_zero_le (show 0 ≤ (tabOf s).2.1 by omega)
      rw [hK] at h1
      have h2 := colSubsets_last (K := K) (by omega)
      rw [List.map_eq_nil_iff.1 h1] at h2
      cases h2
    rw [validS', e, hv, hs]; simp [hne]

end Go.Proofs.Ytbkoddikfpkocaa

/- Contracts: a table made out of rows, by the reference (NewTable). -/
namespace Go.Proofs.Ytbkoddikfpkocaa
open Go.RowKit
set_option linter.unusedVariables false
set_option linter.unusedSimpArgs false
set_option synthInstance.maxSize 2000
set_option synthInstance.maxHeartbeats 400000

theorem putL_rows {r : List Int} {l : List (List Int)} {B : Nat} (h : ∀ x ∈ l, x.length ≤ B) (hr : r.length ≤ B) : ∀ x ∈ putL r false l, x.length ≤ B := fun x hx => by
  rcases (putL_mem r).1 hx with rfl | hx
  · exact hr
  · exact h x hx

set_option maxRecDepth 100000 in
set_option maxHeartbeats 4000000 in
theorem newTable_any (nm : ByteArray) (ar : Int) (v : Value) (rows : List (List Int)) (w : World) (hnm : nm.size ≤ 9223372036854775807) (har : I64 ar) (h : rII.rep w [v] rows) (hb : bulk_II rows ≤ 100000000) :
    Calls Try.prog 200 #[.string nm, .int .i64 ar, v] w fun e w' => ∃ cs t', e = .returned (.tuple #[.agg cs.toArray, .bool (validT (newT nm ar rows))]) ∧ Own oT w.heap.size w'.heap.size w' cs t' ∧ (validT (newT nm ar rows) = true → t' = newT nm ar rows) ∧ Below w.heap.size w w' := by
  obtain ⟨a, cap, rfl, _, _, t0⟩ := rS_open h
  obtain ⟨n, hl⟩ : ∃ n, rows.length = n := ⟨_, rfl⟩
  rw [hl] at t0
  obtain ⟨har1, har2⟩ := har
  have hn1 : n ≤ 100000000 := by unfold bulk_II at hb; omega
  have hrows : ∀ x ∈ rows, x.length ≤ 100000000 := fun x hx => by
    obtain ⟨j, hj, rfl⟩ := List.mem_iff_getElem.1 hx
    have h9 := sumBy_mem bulk_I (List.getElem?_eq_getElem hj); unfold bulk_II at hb; unfold bulk_I at h9 hb; omega
  have HR := Lib.hid hrows
  have HL := Lib.hid hl
  clear h hb hrows
  rw [hl]
  have hb0 : Below w.heap.size w w := Below.refl _ _
  go_enter Try.func200, Try.ntmps200
  obtain ⟨w1, hw1⟩ : ∃ W, W = w.alloc (.cells #[.string ⟨#[]⟩, .int .i64 0, .slice none 0 0] 34) := ⟨_, rfl⟩
  have z1 : Below w.heap.size w w1 := by rw [hw1]; exact (Below.refl _ _).alloc (Nat.le_refl _) _
  have s1 : w1.heap.size = w.heap.size + 1 := by rw [hw1]; simp
  have hb1 := on hb0 z1
  have r_0 : w1.cell? ⟨w.heap.size, 0, none⟩ = some (.string ⟨#[]⟩) := by rw [hw1]; exact box_cell (Below.refl _ _) rfl
  have r_1 : w1.cell? ⟨w.heap.size, 1, none⟩ = some (.int .i64 0) := by rw [hw1]; exact box_cell (Below.refl _ _) rfl
  have r_2 : w1.cell? ⟨w.heap.size, 2, none⟩ = some (.slice none 0 0) := by rw [hw1]; exact box_cell (Below.refl _ _) rfl
  have r_f0 : w1.frozen? ⟨w.heap.size, 0, none⟩ = false := by rw [hw1]; exact box_frozen (Below.refl _ _)
  have r_f1 : w1.frozen? ⟨w.heap.size, 1, none⟩ = false := by rw [hw1]; exact box_frozen (Below.refl _ _)
  have r_f2 : w1.frozen? ⟨w.heap.size, 2, none⟩ = false := by rw [hw1]; exact box_frozen (Below.refl _ _)
  have raw1_r_0 := r_0
  have raw1_r_1 := r_1
  have raw1_r_2 := r_2
  rw [hw1] at raw1_r_0 raw1_r_1 raw1_r_2
  obtain ⟨w2, hw2⟩ : ∃ W, W = w1.alloc (.cells #[.string nm, .int .i64 ar, .slice none 0 0] 34) := ⟨_, rfl⟩
  have z2 : Below w1.heap.size w1 w2 := by rw [hw2]; exact (Below.refl _ _).alloc (Nat.le_refl _) _
  have s2 : w2.heap.size = w1.heap.size + 1 := by rw [hw2]; simp
  have hb2 := on hb1 z2
  replace r_0 := (z2.cell (p := ⟨w.heap.size, 0, none⟩) (by simp only []; omega)).trans r_0
  replace r_1 := (z2.cell (p := ⟨w.heap.size, 1, none⟩) (by simp only []; omega)).trans r_1
  replace r_2 := (z2.cell (p := ⟨w.heap.size, 2, none⟩) (by simp only []; omega)).trans r_2
  replace r_f0 := (z2.frozen (p := ⟨w.heap.size, 0, none⟩) (by simp only []; omega)).trans r_f0
  replace r_f1 := (z2.frozen (p := ⟨w.heap.size, 1, none⟩) (by simp only []; omega)).trans r_f1
  replace r_f2 := (z2.frozen (p := ⟨w.heap.size, 2, none⟩) (by simp only []; omega)).trans r_f2
  have e2 : w1.heap.size = w.heap.size + 1 := by omega
  have x_0 : w2.cell? ⟨w1.heap.size, 0, none⟩ = some (.string nm) := by rw [hw2]; exact box_cell (Below.refl _ _) rfl
  have x_1 : w2.cell? ⟨w1.heap.size, 1, none⟩ = some (.int .i64 ar) := by rw [hw2]; exact box_cell (Below.refl _ _) rfl
  have x_2 : w2.cell? ⟨w1.heap.size, 2, none⟩ = some (.slice none 0 0) := by rw [hw2]; exact box_cell (Below.refl _ _) rfl
  rw [e2] at x_0 x_1 x_2
  have x_f0 : w2.frozen? ⟨w1.heap.size, 0, none⟩ = false := by rw [hw2]; exact box_frozen (Below.refl _ _)
  have x_f1 : w2.frozen? ⟨w1.heap.size, 1, none⟩ = false := by rw [hw2]; exact box_frozen (Below.refl _ _)
  have x_f2 : w2.frozen? ⟨w1.heap.size, 2, none⟩ = false := by rw [hw2]; exact box_frozen (Below.refl _ _)
  rw [e2] at x_f0 x_f1 x_f2
  have raw2_r_0 := r_0
  have raw2_r_1 := r_1
  have raw2_r_2 := r_2
  have raw2_x_0 := x_0
  have raw2_x_1 := x_1
  have raw2_x_2 := x_2
  rw [hw2, hw1] at raw2_r_0 raw2_r_1 raw2_r_2 raw2_x_0 raw2_x_1 raw2_x_2
  go_wp2_with fail
  rw [← hw1]
  rw [← hw2]
  clear hw2 hw1
  clear raw1_r_0 raw1_r_1 raw1_r_2 raw2_r_0 raw2_r_1 raw2_r_2 raw2_x_0 raw2_x_1 raw2_x_2
  have r0a := r_0
  have hT0 : Below w2.heap.size w2 w2 := Below.refl _ _
  have H0 : Hid (putSome [] rows = putSome [] (rows.drop 0)) := Lib.hid (by rw [List.drop_zero])
  have tn := t0.small
  clear hl r0a
  go_loopw [9] (fun k wr => ∃ (j va0 vn vc : Nat) (va : Option Addr) (acc : List (List Int)), j ≤ n ∧ k = .int .i64 j ∧ (wr.cell? ⟨w.heap.size + 1, 0, none⟩ = some (.string nm) ∧ wr.cell? ⟨w.heap.size + 1, 1, none⟩ = some (.int .i64 ar) ∧ wr.cell? ⟨w.heap.size + 1, 2, none⟩ = some (.slice va vn vc) ∧ wr.frozen? ⟨w.heap.size + 1, 2, none⟩ = false) ∧ Own oII (w.heap.size + 1 + 1) wr.heap.size wr [.slice va vn vc] acc ∧ Hid (putSome [] rows = putSome acc (rows.drop j)) ∧ Hid (∀ x ∈ acc, x.length ≤ 100000000) ∧ acc.length ≤ 9 ∧ Turn (w.heap.size + 1) (w.heap.size + 1 + 1) w2 wr) (fun k _ => n - (intOf k).toNat)
  case atStart => exact ⟨0, 0, 0, 0, none, [], Nat.zero_le _, rfl, ⟨x_0, x_1, x_2, x_f2⟩, own_nil_S.mono (Nat.le_refl _) (by omega), H0.out, Lib.hid (fun x hx => by cases hx), by simp, turn_refl _ _ _⟩
  case round =>
    obtain ⟨j, va0, vn, vc, va, acc, hj, rfl, ⟨x_0, x_1, x_2, x_f2⟩, ho, hE, hA, hal, hdr⟩ := hrel
    have hlc := hdr
    clear hT0 H0
    clear x_f0 x_f1
    have s3 := hdr.size
    have hb3 := hb2.trans ((hdr.below (by omega)).mono (by omega))
    replace r_0 := (hdr.cell (p := ⟨w.heap.size, 0, none⟩) (by simp only []; omega) (by simp only []; omega)).trans r_0
    replace r_1 := (hdr.cell (p := ⟨w.heap.size, 1, none⟩) (by simp only []; omega) (by simp only []; omega)).trans r_1
    replace r_2 := (hdr.cell (p := ⟨w.heap.size, 2, none⟩) (by simp only []; omega) (by simp only []; omega)).trans r_2
    replace r_f0 := (World.frozen?_of_block (a := ⟨w.heap.size, 0, none⟩) (hdr.block _ (by simp only []; omega) (by simp only []; omega))).trans r_f0
    replace r_f1 := (World.frozen?_of_block (a := ⟨w.heap.size, 1, none⟩) (hdr.block _ (by simp only []; omega) (by simp only []; omega))).trans r_f1
    replace r_f2 := (World.frozen?_of_block (a := ⟨w.heap.size, 2, none⟩) (hdr.block _ (by simp only []; omega) (by simp only []; omega))).trans r_f2
    have hvn := (rS_sl (ho.rd reads_II)).len
    by_cases hlt : j < n
    · by_cases hv8 : vn ≤ 8
      · obtain ⟨b0, o0, r1, m1, q1, x, rfl, hc, hx, hi, hq1, hq2⟩ := t0.row hlt
        have hclt : b0 < w.heap.size := cell_lt hc
        have c0 : wr.cell? ⟨b0, o0 + j, none⟩ = some (.slice r1 m1 q1) := (hb3.cell (p := ⟨b0, o0 + j, none⟩) hclt).trans hc
        have hxl := HR.out x (List.mem_of_getElem? hx.out)
        have hrx : Hid (rI.rep w [.slice r1 m1 q1] x) := Lib.hid (rI_mk hi hq1 hq2)
        have HN : Hid (putSome [] rows = putSome (putL x false acc) (rows.drop (j + 1))) := Lib.hid (by rw [hE.out, putSome_at hx.out (by omega)])
        have hpl := putL_len x false acc
        have HA2 : Hid (∀ y ∈ putL x false acc, y.length ≤ 100000000) := Lib.hid (putL_rows hA.out hxl)
        have hbd := hb3.drew
        have hcall := l4Put_any (.slice va vn vc) (.slice r1 m1 q1) acc x wr.drew ((ho.below (Drew.below ⟨1, rfl⟩ wr.heap.size) (Nat.le_refl _)).rd reads_II) (rI.mono hrx.out hbd) (by omega) (fun i y hy => hA.out y (List.mem_of_getElem? hy)) hxl
        have HCALL := Lib.hid hcall
        clear hcall hc hx hi t0 hE
        go_wp2_with fail
        refine wp_region_noPanic ?_
        refine wp_region_lastP (fun W => W.cell? ⟨w.heap.size + 1, 2, none⟩ = some (.slice va vn vc) ∧ W.cell? ⟨b0, o0 + j, none⟩ = some (.slice r1 m1 q1)) 8 (by kernel_rfl) rfl (by kernel_rfl) (by kernel_rfl) ?hSL (fun hHeld ops hops => ?_)
        case hSL => exact ⟨x_2, c0⟩
        simp only [List.pop_toArray, List.dropLast_cons_cons, List.dropLast_singleton] at hops
        subst hops
        refine wpAnyH_take (i := 0) (v := ?v0_4) rfl (by kernel_rfl) (by kernel_rfl) (by kernel_rfl) (fun _ _ _ h => h) (Or.inl ⟨by rfl, ?hy0_4⟩) (by assumption) ?rest0_4
        case hy0_4 => intro w hSw; (try dsimp only at hSw); go_simp; (try with_reducible rfl)
        try simp only [Act.put, List.getElem_toArray, List.getElem_cons_succ, List.getElem_cons_zero, List.setIfInBounds_toArray, List.set_cons_zero, List.set_cons_succ]
        refine wpAnyH_take (i := 1) (v := ?v1_5) rfl (by kernel_rfl) (by kernel_rfl) (by kernel_rfl) (fun _ _ _ h => h) (Or.inl ⟨by rfl, ?hy1_5⟩) (by assumption) ?rest1_5
        case hy1_5 => intro w hSw; (try dsimp only at hSw); go_simp; (try with_reducible rfl)
        try simp only [Act.put, List.getElem_toArray, List.getElem_cons_succ, List.getElem_cons_zero, List.setIfInBounds_toArray, List.set_cons_zero, List.set_cons_succ]
        refine wpAnyH_take (i := 2) (v := ?v2_6) rfl (by kernel_rfl) (by kernel_rfl) (by kernel_rfl) (fun _ _ _ h => h) (Or.inl ⟨by rfl, ?hy2_6⟩) (by assumption) ?rest2_6
        case hy2_6 => intro w hSw; (try dsimp only at hSw); go_simp; (try with_reducible rfl)
        try simp only [Act.put, List.getElem_toArray, List.getElem_cons_succ, List.getElem_cons_zero, List.setIfInBounds_toArray, List.set_cons_zero, List.set_cons_succ]
        refine wpAnyH_take (i := 3) (v := ?v3_7) rfl (by kernel_rfl) (by kernel_rfl) (by kernel_rfl) (fun _ _ _ h => h) (Or.inl ⟨by rfl, ?hy3_7⟩) (by assumption) ?rest3_7
        case hy3_7 => intro w hSw; (try dsimp only at hSw); go_simp; (try with_reducible rfl)
        try simp only [Act.put, List.getElem_toArray, List.getElem_cons_succ, List.getElem_cons_zero, List.setIfInBounds_toArray, List.set_cons_zero, List.set_cons_succ]
        refine wpAnyH_take (i := 4) (v := ?v4_8) rfl (by kernel_rfl) (by kernel_rfl) (by kernel_rfl) (fun _ _ _ h => h) (Or.inl ⟨by rfl, ?hy4_8⟩) (by assumption) ?rest4_8
        case hy4_8 => intro w hSw; (try dsimp only at hSw); go_simp; (try with_reducible rfl)
        try simp only [Act.put, List.getElem_toArray, List.getElem_cons_succ, List.getElem_cons_zero, List.setIfInBounds_toArray, List.set_cons_zero, List.set_cons_succ]
        refine wpAnyH_take (i := 5) (v := ?v5_9) rfl (by kernel_rfl) (by kernel_rfl) (by kernel_rfl) (fun _ _ _ h => h) (Or.inl ⟨by rfl, ?hy5_9⟩) (by assumption) ?rest5_9
        case hy5_9 => intro w hSw; (try dsimp only at hSw); go_simp; (try with_reducible rfl)
        try simp only [Act.put, List.getElem_toArray, List.getElem_cons_succ, List.getElem_cons_zero, List.setIfInBounds_toArray, List.set_cons_zero, List.set_cons_succ]
        refine wpAnyH_ready (rs := [6]) (by kernel_rfl) (by simp) ?_
        refine AllReadyH.cons rfl (fun K hK => ?_) AllReadyH.nil
        go_simp; (refine HCALL.out.mono ?_); rintro e wP ⟨pa, pn, pc, rfl, op, zP⟩; replace zP : Below wr.heap.size wr wP := on (Below.refl _ _).drew zP; have sP := zP.size
        refine hK.out _ _ ?_ (fun hHeld => ?_)
        · exact ⟨(zP.cell (p := ⟨w.heap.size + 1, 2, none⟩) (by simp only []; omega)).trans x_2, (zP.cell (p := ⟨b0, o0 + j, none⟩) (by simp only []; omega)).trans c0⟩
        clear hK K
        try simp only [Act.put, List.setIfInBounds_toArray, List.set_cons_zero, List.set_cons_succ]
        refine wpAnyH_take (i := 7) (v := ?v7_10) rfl (by kernel_rfl) (by kernel_rfl) (by kernel_rfl) (fun _ _ _ h => h) (Or.inl ⟨by rfl, ?hy7_10⟩) (by assumption) ?rest7_10
        case hy7_10 => intro w hSw; (try dsimp only at hSw); go_simp; (try with_reducible rfl)
        try simp only [Act.put, List.getElem_toArray, List.getElem_cons_succ, List.getElem_cons_zero, List.setIfInBounds_toArray, List.set_cons_zero, List.set_cons_succ]
        have p0 := (zP.cell (p := ⟨w.heap.size + 1, 0, none⟩) (by simp only []; omega)).trans x_0
        have p1 := (zP.cell (p := ⟨w.heap.size + 1, 1, none⟩) (by simp only []; omega)).trans x_1
        have p2 := (zP.cell (p := ⟨w.heap.size + 1, 2, none⟩) (by simp only []; omega)).trans x_2
        have pf := (zP.frozen (p := ⟨w.heap.size + 1, 2, none⟩) (by simp only []; omega)).trans x_f2
        refine wpAnyH_done (by kernel_rfl) ?_ _
        simp only [LastQ]
        go_simp
        refine NoPanic.normal ?_
        have k0 : (wP.setCell ⟨w.heap.size + 1, 2, none⟩ (.slice pa pn pc)).cell? ⟨w.heap.size + 1, 0, none⟩ = some (.string nm) := by go_simp
        have k1 : (wP.setCell ⟨w.heap.size + 1, 2, none⟩ (.slice pa pn pc)).cell? ⟨w.heap.size + 1, 1, none⟩ = some (.int .i64 ar) := by go_simp
        have k2 : (wP.setCell ⟨w.heap.size + 1, 2, none⟩ (.slice pa pn pc)).cell? ⟨w.heap.size + 1, 2, none⟩ = some (.slice pa pn pc) := by go_simp
        have k3 : (wP.setCell ⟨w.heap.size + 1, 2, none⟩ (.slice pa pn pc)).frozen? ⟨w.heap.size + 1, 2, none⟩ = false := by go_simp
        have op2 := (Own.setOut (op.mono (lo' := w.heap.size + 1 + 1) (hi' := wP.heap.size) (show w.heap.size + 1 + 1 ≤ wr.drew.heap.size from (by omega : w.heap.size + 1 + 1 ≤ wr.heap.size)) (Nat.le_refl _)) (p := ⟨w.heap.size + 1, 2, none⟩) (u := .slice pa pn pc) rfl (by simp only []; omega)).mono (Nat.le_refl _) (show wP.heap.size ≤ (wP.setCell ⟨w.heap.size + 1, 2, none⟩ (.slice pa pn pc)).heap.size by simp [World.setCell])
        have tn2 := (hlc.trans (turn_below zP (Nat.le_refl _))).setIn (p := ⟨w.heap.size + 1, 2, none⟩) (Nat.le_refl _) (Nat.lt_succ_self _) (.slice pa pn pc)
        have HO2 := Lib.hid op2
        have HT2 := Lib.hid tn2
        have K0 := Lib.hid k0
        have K1 := Lib.hid k1
        have K2 := Lib.hid k2
        have K3 := Lib.hid k3
        clear op op2 tn2 k0 k1 k2 k3 ho hlc
        go_wp2_with fail
        go_roundw
        case rel => exact ⟨j + 1, 0, pn, pc, pa, putL x false acc, by omega, by go_num, ⟨K0.out, K1.out, K2.out, K3.out⟩, HO2.out, HN.out, HA2, by omega, HT2.out⟩
        case measure => simp [intOf]; omega
      · have hv9 : decide (vn ≤ 8) = false := by simpa using hv8
        have HPE : Hid (newT nm ar rows = (nm, ar, acc)) := Lib.hid (by rw [newT, hE.out]; rw [putSome_stop (by omega)])
        have HV5 := Lib.hid (fun W (hW : Below wr.heap.size wr W) => validT_spec _ (nm, ar, acc) W (rT.mono (rT_mk (x := (nm, ar, acc)) hnm ⟨har1, har2⟩ (ho.rd reads_II)) hW))
        have hwr0 : Below wr.heap.size wr wr := Below.refl _ _
        obtain ⟨V, hV⟩ : ∃ V, validT (nm, ar, acc) = V := ⟨_, rfl⟩
        simp only [hV] at HV5
        have HVV := Lib.hid hV
        clear hV
        go_wp2_with fail
        refine (HV5.out _ hwr0).mono ?_
        rintro e wV ⟨rfl, zV⟩
        have s11 := zV.size
        have hb11 := on hb3 zV
        replace r_0 := (zV.cell (p := ⟨w.heap.size, 0, none⟩) (by simp only []; omega)).trans r_0
        replace r_1 := (zV.cell (p := ⟨w.heap.size, 1, none⟩) (by simp only []; omega)).trans r_1
        replace r_2 := (zV.cell (p := ⟨w.heap.size, 2, none⟩) (by simp only []; omega)).trans r_2
        replace r_f0 := (zV.frozen (p := ⟨w.heap.size, 0, none⟩) (by simp only []; omega)).trans r_f0
        replace r_f1 := (zV.frozen (p := ⟨w.heap.size, 1, none⟩) (by simp only []; omega)).trans r_f1
        replace r_f2 := (zV.frozen (p := ⟨w.heap.size, 2, none⟩) (by simp only []; omega)).trans r_f2
        replace ho := ho.below zV (by omega)
        replace x_0 := (zV.cell (p := ⟨w.heap.size + 1, 0, none⟩) (by simp only []; omega)).trans x_0
        replace x_1 := (zV.cell (p := ⟨w.heap.size + 1, 1, none⟩) (by simp only []; omega)).trans x_1
        replace x_2 := (zV.cell (p := ⟨w.heap.size + 1, 2, none⟩) (by simp only []; omega)).trans x_2
        cases V with
        | false =>
          have HO := Lib.hid (show validT (newT nm ar rows) = false by rw [HPE.out]; exact HVV.out)
          have hbz := hb11
          go_wp2_with fail
          refine bodyPost_ret (v := .tuple #[.agg #[.string ⟨#[]⟩, .int .i64 0, .slice none 0 0], .bool false]) (by simp [results, Try.results200, go_sem, r_0, r_1, r_2, r_f0, r_f1, r_f2]) rfl ⟨[.string ⟨#[]⟩, .int .i64 0, .slice none 0 0], (⟨#[]⟩, 0, []), by rw [HO.out], ?_, (fun h9 => by rw [HO.out] at h9; cases h9), ?_⟩
          · refine oT_mk (x := (⟨#[]⟩, 0, [])) (by decide) (by constructor <;> decide) (l2 := w.heap.size) (m2 := w.heap.size) ?_ (by omega) (by simp [World.setCell]; omega)
            exact own_nil_S
          · repeat (refine Below.setCell ?_ (by simp only []; omega) _)
            exact hbz
        | true =>
          have HO := Lib.hid (show validT (newT nm ar rows) = true by rw [HPE.out]; exact HVV.out)
          have hbz := hb11
          go_wp2_with fail
          refine bodyPost_ret (v := .tuple #[.agg #[.string nm, .int .i64 ar, .slice va vn vc], .bool true]) (by simp [results, Try.results200, go_sem, x_0, x_1, x_2, r_0, r_1, r_2, r_f0, r_f1, r_f2]) rfl ⟨[.string nm, .int .i64 ar, .slice va vn vc], (nm, ar, acc), by rw [HO.out], ?_, fun _ => HPE.out.symm, ?_⟩
          · refine oT_mk (x := (nm, ar, acc)) hnm ⟨har1, har2⟩ (l2 := w.heap.size + 1 + 1) (m2 := wr.heap.size) ?_ (by omega) (by simp [World.setCell]; omega)
            repeat (refine Own.setOut ?_ rfl (by simp only []; omega))
            exact ho
          · repeat (refine Below.setCell ?_ (by simp only []; omega) _)
            exact hbz
    · have hjn : n ≤ j := by omega
      have HPE : Hid (newT nm ar rows = (nm, ar, acc)) := Lib.hid (by rw [newT, hE.out]; rw [putSome_end (by have := HL.out; omega)])
      have HV5 := Lib.hid (fun W (hW : Below wr.heap.size wr W) => validT_spec _ (nm, ar, acc) W (rT.mono (rT_mk (x := (nm, ar, acc)) hnm ⟨har1, har2⟩ (ho.rd reads_II)) hW))
      have hwr0 : Below wr.heap.size wr wr := Below.refl _ _
      obtain ⟨V, hV⟩ : ∃ V, validT (nm, ar, acc) = V := ⟨_, rfl⟩
      simp only [hV] at HV5
      have HVV := Lib.hid hV
      clear hV
      go_wp2_with fail
      refine (HV5.out _ hwr0).mono ?_
      rintro e wV ⟨rfl, zV⟩
      have s12 := zV.size
      have hb12 := on hb3 zV
      replace r_0 := (zV.cell (p := ⟨w.heap.size, 0, none⟩) (by simp only []; omega)).trans r_0
      replace r_1 := (zV.cell (p := ⟨w.heap.size, 1, none⟩) (by simp only []; omega)).trans r_1
      replace r_2 := (zV.cell (p := ⟨w.heap.size, 2, none⟩) (by simp only []; omega)).trans r_2
      replace r_f0 := (zV.frozen (p := ⟨w.heap.size, 0, none⟩) (by simp only []; omega)).trans r_f0
      replace r_f1 := (zV.frozen (p := ⟨w.heap.size, 1, none⟩) (by simp only []; omega)).trans r_f1
      replace r_f2 := (zV.frozen (p := ⟨w.heap.size, 2, none⟩) (by simp only []; omega)).trans r_f2
      replace ho := ho.below zV (by omega)
      replace x_0 := (zV.cell (p := ⟨w.heap.size + 1, 0, none⟩) (by simp only []; omega)).trans x_0
      replace x_1 := (zV.cell (p := ⟨w.heap.size + 1, 1, none⟩) (by simp only []; omega)).trans x_1
      replace x_2 := (zV.cell (p := ⟨w.heap.size + 1, 2, none⟩) (by simp only []; omega)).trans x_2
      cases V with
      | false =>
        have HO := Lib.hid (show validT (newT nm ar rows) = false by rw [HPE.out]; exact HVV.out)
        have hbz := hb12
        go_wp2_with fail
        refine bodyPost_ret (v := .tuple #[.agg #[.string ⟨#[]⟩, .int .i64 0, .slice none 0 0], .bool false]) (by simp [results, Try.results200, go_sem, r_0, r_1, r_2, r_f0, r_f1, r_f2]) rfl ⟨[.string ⟨#[]⟩, .int .i64 0, .slice none 0 0], (⟨#[]⟩, 0, []), by rw [HO.out], ?_, (fun h9 => by rw [HO.out] at h9; cases h9), ?_⟩
        · refine oT_mk (x := (⟨#[]⟩, 0, [])) (by decide) (by constructor <;> decide) (l2 := w.heap.size) (m2 := w.heap.size) ?_ (by omega) (by simp [World.setCell]; omega)
          exact own_nil_S
        · repeat (refine Below.setCell ?_ (by simp only []; omega) _)
          exact hbz
      | true =>
        have HO := Lib.hid (show validT (newT nm ar rows) = true by rw [HPE.out]; exact HVV.out)
        have hbz := hb12
        go_wp2_with fail
        refine bodyPost_ret (v := .tuple #[.agg #[.string nm, .int .i64 ar, .slice va vn vc], .bool true]) (by simp [results, Try.results200, go_sem, x_0, x_1, x_2, r_0, r_1, r_2, r_f0, r_f1, r_f2]) rfl ⟨[.string nm, .int .i64 ar, .slice va vn vc], (nm, ar, acc), by rw [HO.out], ?_, fun _ => HPE.out.symm, ?_⟩
        · refine oT_mk (x := (nm, ar, acc)) hnm ⟨har1, har2⟩ (l2 := w.heap.size + 1 + 1) (m2 := wr.heap.size) ?_ (by omega) (by simp [World.setCell]; omega)
          repeat (refine Own.setOut ?_ rfl (by simp only []; omega))
          exact ho
        · repeat (refine Below.setCell ?_ (by simp only []; omega) _)
          exact hbz
end Go.Proofs.Ytbkoddikfpkocaa
