/- Texts joined for one claim: GrpS, GrpW, LGroupCounts. -/
import Derived.Test.YtbkoddikfpkocaaQdd8ef526c4
import Derived.Deep.RegionHeld3

/- Contracts: groups of a table and their counts, by the reference. -/
namespace Go.Proofs.Ytbkoddikfpkocaa
open Go.RowKit
set_option linter.unusedVariables false
set_option linter.unusedSimpArgs false
set_option synthInstance.maxSize 2000
set_option synthInstance.maxHeartbeats 400000

theorem Acc.turn {α : Type} {E : TypeId} {o : OS α} {lo S hi lo' hi' : Nat} {w w' : World} {v : Value} {xs : List α} (h : Acc E o lo S hi w v xs) (ht : Turn lo' hi' w w') (h1 : lo < lo' ∨ hi' ≤ lo) (h2 : hi' ≤ S) (hs : hi ≤ w.heap.size) : Acc E o lo S hi w' v xs := by
  obtain ⟨fp, h3, h4, h5⟩ := h
  exact ⟨fp, (O.slice E o).frame h3 (fun k hk => ht.block k (by have := (h5 k hk).2; omega) (by have := (h5 k hk).1; omega)), h4, h5⟩
theorem Acc.rdII {lo S hi : Nat} {w : World} {v : Value} {xs : List (List Int)} (h : Acc 24 oI lo S hi w v xs) : rII.rep w [v] xs := (h.own (B := 0) (Nat.zero_le _) (Nat.zero_le _) (Nat.le_refl _)).rd reads_II
theorem canon_step {rows : List (List Int)} {cs r : List Int} {j : Nat} (h : rows[j]? = some r) : canon (selRows (rows.take (j + 1)) cs) = putL (sel r cs) false (canon (selRows (rows.take j) cs)) := by
  rw [selRows_step h, canon_snoc]

set_option maxRecDepth 100000 in
set_option maxHeartbeats 4000000 in
theorem groups_spec (v : Value) (cs : List Value) (t : DT) (cols : List Int) (w : World) (ht : rT.rep w cs t) (h' : rI.rep w [v] cols) :
    Calls Try.prog 61 #[.agg cs.toArray, v] w fun e w' => ∃ b1 n1 c1 b2 n2 c2, e = .returned (.tuple #[.slice b1 n1 c1, .slice b2 n2 c2]) ∧ Own oII w.heap.size w'.heap.size w' [.slice b1 n1 c1] (grpV t cols) ∧ Own oI w.heap.size w'.heap.size w' [.slice b2 n2 c2] (grpN t cols) ∧ Below w.heap.size w w' := by
  obtain ⟨b, m, d, hv⟩ := rI_form h'
  simp at hv; subst hv
  obtain ⟨ub, un, uc, rfl, hs, hi, g1⟩ := rT_open ht
  have i0 := rI_ints h'
  have t0 := rS_sl g1
  have hl := t0.len
  have hn := t0.small
  have hml := i0.len
  have HVT := Lib.hid (fun W (hW : Below w.heap.size w W) => l10Cols_any _ t b m d cols W (rT.mono ht hW) (i0.below hW))
  obtain ⟨s, ar, rows⟩ := t
  simp only at hs hi g1 HVT t0 hl
  have HAR : Hid (colsT (s, ar, rows) cols = true → TOk (s, ar, rows) ∧ colsB ar cols = true) := Lib.hid (fun h => by rw [colsT, Bool.and_eq_true] at h; exact ⟨TOk.of h.2, h.1⟩)
  have HE0 : Hid (colsT (s, ar, rows) cols = false → grpV (s, ar, rows) cols = [] ∧ grpN (s, ar, rows) cols = []) := Lib.hid (fun h => by simp [grpV, grpN, h])
  have HE1 : Hid (colsT (s, ar, rows) cols = true → grpV (s, ar, rows) cols = canon (selRows rows cols) ∧ grpN (s, ar, rows) cols = countsOf (canon (selRows rows cols)) (selRows rows cols)) := Lib.hid (fun h => by simp [grpV, grpN, h, groups])
  obtain ⟨V, hV⟩ : ∃ V, colsT (s, ar, rows) cols = V := ⟨_, rfl⟩
  rw [hV] at HAR HE0 HE1
  have HVT2 : Hid (∀ W, Below w.heap.size w W → Calls Try.prog 133 #[.agg #[.string s, .int .i64 ar, .slice ub un uc], .slice b m d] W fun e w' => e = .returned (.bool V) ∧ Below W.heap.size W w') := Lib.hid (fun W hW => by rw [← hV]; exact HVT.out W hW)
  clear hV ht h' g1 hs hi HVT
  have hb0 : Below w.heap.size w w := Below.refl _ _
  go_enter Try.func61, Try.ntmps61
  obtain ⟨w1, hw1⟩ : ∃ W, W = w.alloc (.cells #[.string s, .int .i64 ar, .slice ub un uc] 34) := ⟨_, rfl⟩
  have z1 : Below w.heap.size w w1 := by rw [hw1]; exact (Below.refl _ _).alloc (Nat.le_refl _) _
  have s1 : w1.heap.size = w.heap.size + 1 := by rw [hw1]; simp
  have hb1 := on hb0 z1
  have t_0 : w1.cell? ⟨w.heap.size, 0, none⟩ = some (.string s) := by rw [hw1]; exact box_cell (Below.refl _ _) rfl
  have t_1 : w1.cell? ⟨w.heap.size, 1, none⟩ = some (.int .i64 ar) := by rw [hw1]; exact box_cell (Below.refl _ _) rfl
  have t_2 : w1.cell? ⟨w.heap.size, 2, none⟩ = some (.slice ub un uc) := by rw [hw1]; exact box_cell (Below.refl _ _) rfl
  have raw1_t_0 := t_0
  have raw1_t_1 := t_1
  have raw1_t_2 := t_2
  rw [hw1] at raw1_t_0 raw1_t_1 raw1_t_2
  obtain ⟨w2, hw2⟩ : ∃ W, W = w1.alloc (.cells #[] 24) := ⟨_, rfl⟩
  have z2 : Below w1.heap.size w1 w2 := by rw [hw2]; exact (Below.refl _ _).alloc (Nat.le_refl _) _
  have s2 : w2.heap.size = w1.heap.size + 1 := by rw [hw2]; simp
  have hb2 := on hb1 z2
  replace t_0 := (z2.cell (p := ⟨w.heap.size, 0, none⟩) (by simp only []; omega)).trans t_0
  replace t_1 := (z2.cell (p := ⟨w.heap.size, 1, none⟩) (by simp only []; omega)).trans t_1
  replace t_2 := (z2.cell (p := ⟨w.heap.size, 2, none⟩) (by simp only []; omega)).trans t_2
  have he1 : ∀ S, Acc 24 oI w1.heap.size S w2.heap.size w2 (.slice (some ⟨w.heap.size + 1, 0, none⟩) 0 0) [] := fun S => by rw [hw2]; exact Acc.empty (by omega) (by first | (simp; done) | (simp; omega))
  have raw2_t_0 := t_0
  have raw2_t_1 := t_1
  have raw2_t_2 := t_2
  rw [hw2, hw1] at raw2_t_0 raw2_t_1 raw2_t_2
  obtain ⟨w3, hw3⟩ : ∃ W, W = w2.alloc (.cells #[] 3) := ⟨_, rfl⟩
  have z3 : Below w2.heap.size w2 w3 := by rw [hw3]; exact (Below.refl _ _).alloc (Nat.le_refl _) _
  have s3 : w3.heap.size = w2.heap.size + 1 := by rw [hw3]; simp
  have hb3 := on hb2 z3
  replace t_0 := (z3.cell (p := ⟨w.heap.size, 0, none⟩) (by simp only []; omega)).trans t_0
  replace t_1 := (z3.cell (p := ⟨w.heap.size, 1, none⟩) (by simp only []; omega)).trans t_1
  replace t_2 := (z3.cell (p := ⟨w.heap.size, 2, none⟩) (by simp only []; omega)).trans t_2
  replace he1 := fun S => (he1 S).below z3 (by omega)
  have he2 : ∀ S, Acc 3 O.int w2.heap.size S w3.heap.size w3 (.slice (some ⟨w.heap.size + 1 + 1, 0, none⟩) 0 0) [] := fun S => by rw [hw3]; exact Acc.empty (by omega) (by first | (simp; done) | (simp; omega))
  have raw3_t_0 := t_0
  have raw3_t_1 := t_1
  have raw3_t_2 := t_2
  rw [hw3, hw2, hw1] at raw3_t_0 raw3_t_1 raw3_t_2
  go_wp2_with fail
  rw [← hw1]
  rw [← hw2]
  rw [← hw3]
  clear hw3 hw2 hw1
  clear raw1_t_0 raw1_t_1 raw1_t_2 raw2_t_0 raw2_t_1 raw2_t_2 raw3_t_0 raw3_t_1 raw3_t_2
  refine (HVT2.out _ hb3).mono ?_
  rintro e w9 ⟨rfl, z9⟩
  have s4 := z9.size
  have hb4 := on hb3 z9
  replace t_0 := (z9.cell (p := ⟨w.heap.size, 0, none⟩) (by simp only []; omega)).trans t_0
  replace t_1 := (z9.cell (p := ⟨w.heap.size, 1, none⟩) (by simp only []; omega)).trans t_1
  replace t_2 := (z9.cell (p := ⟨w.heap.size, 2, none⟩) (by simp only []; omega)).trans t_2
  replace he1 := fun S => (he1 S).below z9 (by omega)
  replace he2 := fun S => (he2 S).below z9 (by omega)
  cases V with
  | false =>
    obtain ⟨hE1, hE2⟩ := HE0.out rfl
    have H1 := Lib.hid hE1
    have H2 := Lib.hid hE2
    have HO1 := Lib.hid ((he1 w9.heap.size).own (B := w.heap.size) (hi' := w9.heap.size) (by omega) (by omega) (by omega))
    have HO2 := Lib.hid ((he2 w9.heap.size).own (B := w.heap.size) (hi' := w9.heap.size) (by omega) (by omega) (by omega))
    clear hE1 hE2 he1 he2
    go_wp2_with fail
    refine bodyPost_ret (v := .tuple #[.slice (some ⟨w.heap.size + 1, 0, none⟩) 0 0, .slice (some ⟨w.heap.size + 1 + 1, 0, none⟩) 0 0]) (by simp [results, Try.results61, go_sem]) rfl ⟨_, _, _, _, _, _, rfl, by rw [H1.out]; exact HO1.out, by rw [H2.out]; exact HO2.out, hb4⟩
  | true =>
    obtain ⟨hT, hcb⟩ := HAR.out rfl
    have hA := hT.ar
    have hr8 := hT.len
    simp only at hA hr8
    have hm3 := colsB_len' (by omega) hcb
    have hcl3 : cols.length ≤ 3 := by omega
    obtain ⟨hE1, hE2⟩ := HE1.out rfl
    have H1 := Lib.hid hE1
    have H2 := Lib.hid hE2
    have hm4 : m ≤ 3 := by omega
    have hun8 : un ≤ 8 := by omega
    have I0 := Lib.hid (fun W (hW : Below w.heap.size w W) => i0.below hW)
    clear hE1 hE2 HE0 HE1 HVT2 HAR hml i0 hT hcb hm3
    go_wp2_with fail
    go_loopw [6, 8] (fun v k wr => ∃ j : Nat, j ≤ un ∧ k = .int .i64 j ∧ Acc 24 oI w1.heap.size w9.heap.size wr.heap.size wr v (canon (selRows (rows.take j) cols)) ∧ Below w9.heap.size w9 wr) (fun _ k _ => un - (intOf k).toNat)
    case atStart => exact ⟨0, Nat.zero_le _, rfl, by rw [List.take_zero]; exact (he1 _).wide (Nat.le_refl _) (by omega), Below.refl _ _⟩
    case round =>
      obtain ⟨j, hj, rfl, hacc, hdr⟩ := hrel
      have hlc := hdr
      clear he1
      have s5 := hdr.size
      have hb5 := on hb4 hdr
      replace t_0 := (hdr.cell (p := ⟨w.heap.size, 0, none⟩) (by simp only []; omega)).trans t_0
      replace t_1 := (hdr.cell (p := ⟨w.heap.size, 1, none⟩) (by simp only []; omega)).trans t_1
      replace t_2 := (hdr.cell (p := ⟨w.heap.size, 2, none⟩) (by simp only []; omega)).trans t_2
      replace he2 := fun S => (he2 S).below hdr (by omega)
      have hclen : (canon (selRows (rows.take j) cols)).length ≤ 8 := by have := canon_len (selRows (rows.take j) cols); rw [selRows_len] at this; have := List.length_take_le j rows; omega
      have hcrow : ∀ (i : Nat) (x : List Int), (canon (selRows (rows.take j) cols))[i]? = some x → x.length ≤ 3 := fun i x hx => by
        have h9 := canon_mem.1 (List.mem_of_getElem? hx)
        simp only [selRows, List.mem_map] at h9
        obtain ⟨y, _, rfl⟩ := h9
        have := sel_len y cols; omega
      by_cases hlt : j < un
      · obtain ⟨b0, o0, r1, m1, q1, x, rfl, hc, hx, hi, hq1, hq2⟩ := t0.row hlt
        have hclt : b0 < w.heap.size := cell_lt hc
        have c0 : wr.cell? ⟨b0, o0 + j, none⟩ = some (.slice r1 m1 q1) := (hb5.cell (p := ⟨b0, o0 + j, none⟩) hclt).trans hc
        have HX := Lib.hid (fun W (hW : Below w.heap.size w W) => hi.below hW)
        have HS := Lib.hid (canon_step (cs := cols) hx.out)
        have HCR := Lib.hid hcrow
        clear hc hx hi hl t0 hcrow
        go_wp2_with fail
        refine (sel_spec _ _ _ _ _ _ x cols _ (HX.out _ hb5) (I0.out _ hb5) (by omega)).mono ?_
        rintro e w8 ⟨ab, nb, cb, rfl, oy, z8⟩
        have s6 := z8.size
        have hb6 := on hb5 z8
        replace t_0 := (z8.cell (p := ⟨w.heap.size, 0, none⟩) (by simp only []; omega)).trans t_0
        replace t_1 := (z8.cell (p := ⟨w.heap.size, 1, none⟩) (by simp only []; omega)).trans t_1
        replace t_2 := (z8.cell (p := ⟨w.heap.size, 2, none⟩) (by simp only []; omega)).trans t_2
        replace he2 := fun S => (he2 S).below z8 (by omega)
        replace hlc := on hlc z8
        replace c0 := (z8.cell (p := ⟨b0, o0 + j, none⟩) (by simp only []; omega)).trans c0
        replace hacc := hacc.below z8 (by omega)
        obtain ⟨va, vn, vc, rfl⟩ := hacc.form3
        have hxl := sel_len x cols
        have HSR : Hid (rI.rep w8 [.slice ab nb cb] (sel x cols)) := Lib.hid (oy.rd reads_I)
        clear oy
        go_wp2_with fail
        refine (l4Put_any _ _ _ (sel x cols) _ hacc.rdII HSR.out (by omega) (fun i y hy => by have := HCR.out i y hy; omega) (by omega)).mono ?_
        rintro e wP ⟨pa, pn, pc, rfl, op, zP⟩
        have sP := zP.size
        replace hlc := on hlc zP
        rw [← HS.out] at op
        go_wp2_with fail
        go_roundw
        case rel => exact ⟨j + 1, by omega, by go_num, (Acc.of op).wide (by omega) (Nat.le_refl _), hlc⟩
        case measure => simp [intOf]; omega
      · obtain rfl : un = j := by omega
        obtain ⟨wl, rfl⟩ : ∃ W, W = wr := ⟨_, rfl⟩
        rw [List.take_of_length_le (by omega)] at hacc
        obtain ⟨va, vn, vc, rfl⟩ := hacc.form3
        obtain ⟨all, hall⟩ : ∃ all, selRows rows cols = all := ⟨_, rfl⟩
        have HALL : Hid (∀ (i : Nat) (x : List Int), rows[i]? = some x → all[i]? = some (sel x cols)) := Lib.hid (fun i x h => by rw [← hall]; exact selRows_get h)
        have hal : all.length = un := by rw [← hall, selRows_len]; exact hl
        rw [hall] at hacc H1 H2
        obtain ⟨gs, hgs⟩ : ∃ gs, canon all = gs := ⟨_, rfl⟩
        rw [hgs] at hacc H1 H2
        have hgl := (rS_sl hacc.rdII).len
        have hgl8 : gs.length ≤ 8 := by rw [← hgs]; have := canon_len all; omega
        have hvn : vn ≤ 8 := by omega
        have HAL := Lib.hid hal
        have HGL := Lib.hid hgl
        clear hall hgs hclen hcrow hal hl hgl
        clear hlc
        go_wp2_with fail
        go_loopw [7, 11] (fun v k wr => ∃ j : Nat, j ≤ vn ∧ k = .int .i64 j ∧ Acc 3 O.int w2.heap.size wl.heap.size wr.heap.size wr v (countsOf (gs.take j) all) ∧ Turn w2.heap.size (w2.heap.size + 1) wl wr) (fun _ k _ => vn - (intOf k).toNat)
        case atStart => exact ⟨0, Nat.zero_le _, rfl, by rw [List.take_zero]; exact (he2 _).wide (Nat.le_refl _) (by omega), turn_refl _ _ _⟩
        case round =>
          obtain ⟨j, hj, rfl, hcc, hdr⟩ := hrel
          have hld := hdr
          clear he2
          obtain ⟨wo, rfl⟩ : ∃ W, W = wr := ⟨_, rfl⟩
          replace hacc := Acc.turn hacc hdr (show w1.heap.size < w2.heap.size ∨ w2.heap.size + 1 ≤ w1.heap.size by omega) (show w2.heap.size + 1 ≤ w9.heap.size by omega) (Nat.le_refl _)
          have s7 := hdr.size
          have hb7 := hb5.trans ((hdr.below (by omega)).mono (by omega))
          replace t_0 := (hdr.cell (p := ⟨w.heap.size, 0, none⟩) (by simp only []; omega) (by simp only []; omega)).trans t_0
          replace t_1 := (hdr.cell (p := ⟨w.heap.size, 1, none⟩) (by simp only []; omega) (by simp only []; omega)).trans t_1
          replace t_2 := (hdr.cell (p := ⟨w.heap.size, 2, none⟩) (by simp only []; omega) (by simp only []; omega)).trans t_2
          by_cases hlt : j < vn
          · obtain ⟨b0, o0, r1, m1, q1, g, rfl, hc, hx, hig, _, _⟩ := (rS_sl hacc.rdII).row hlt
            have c0 := hc
            have hb0lt := cell_lt hc
            simp only at hb0lt
            have HIG := Lib.hid (fun W (hW : Below wo.heap.size wo W) => hig.below hW)
            have HS := Lib.hid (countsOf_step (all := all) hx.out)
            have H0 : Hid (cntRow g all = 0 + cntRow g (all.drop 0)) := Lib.hid (by simp)
            have hcl8 : (countsOf (gs.take j) all).length ≤ 8 := by rw [countsOf_len]; have := List.length_take_le j gs; omega
            clear hc hx hig
            have hle0 : Below wo.heap.size wo wo := Below.refl _ _
            go_wp2_with fail
            go_loopw [12, 13] (fun n i wr => ∃ i' c : Nat, i' ≤ un ∧ i = .int .i64 i' ∧ n = .int .i64 c ∧ c ≤ i' ∧ Hid (cntRow g all = c + cntRow g (all.drop i')) ∧ Below wo.heap.size wo wr) (fun _ i _ => un - (intOf i).toNat)
            case atStart => exact ⟨0, 0, Nat.zero_le _, rfl, rfl, Nat.le_refl _, H0.out, Below.refl _ _⟩
            case round =>
              obtain ⟨i, c, hi, rfl, rfl, hci, hC, hdr2⟩ := hrel
              have hle := hdr2
              clear H0 hle0
              have s8 := hdr2.size
              have hb8 := on hb7 hdr2
              replace t_0 := (hdr2.cell (p := ⟨w.heap.size, 0, none⟩) (by simp only []; omega)).trans t_0
              replace t_1 := (hdr2.cell (p := ⟨w.heap.size, 1, none⟩) (by simp only []; omega)).trans t_1
              replace t_2 := (hdr2.cell (p := ⟨w.heap.size, 2, none⟩) (by simp only []; omega)).trans t_2
              replace hacc := hacc.below hdr2 (by omega)
              replace c0 := (hdr2.cell (p := ⟨b0, o0 + j, none⟩) (by simp only []; omega)).trans c0
              replace hcc := hcc.below hdr2 (by omega)
              replace hld := hld.trans (turn_below hdr2 (Nat.le_refl _))
              by_cases hlti : i < un
              · obtain ⟨b3, o3, r3, m3, q3, x, rfl, hc3, hx3, hi3, _, _⟩ := t0.row hlti
                have hclt3 : b3 < w.heap.size := cell_lt hc3
                have c3 : wr.cell? ⟨b3, o3 + i, none⟩ = some (.slice r3 m3 q3) := (hb8.cell (p := ⟨b3, o3 + i, none⟩) hclt3).trans hc3
                have HX := Lib.hid (fun W (hW : Below w.heap.size w W) => hi3.below hW)
                obtain ⟨d, hd⟩ : ∃ d, d = cmpRows (sel x cols) g := ⟨_, rfl⟩
                have hrng : d = -1 ∨ d = 0 ∨ d = 1 := by rw [hd]; exact cmpRows_rng _ _
                have HC : Hid (cntRow g all = c + ((if d = 0 then 1 else 0) + cntRow g (all.drop (i + 1)))) := Lib.hid (by
                  rw [hC.out, cntRow_at (HALL.out i x hx3.out), hd]
                  by_cases e : sel x cols = g
                  · rw [if_pos e, if_pos ((cmpRows_zero _ _).2 e)]
                  · rw [if_neg e, if_neg (fun h => e ((cmpRows_zero _ _).1 h))])
                have HCMP : Hid (∀ (ab : Option Addr) (nb cb : Nat) (W : World), Ints W ab nb (sel x cols) → Below wo.heap.size wo W → Calls Try.prog 104 #[.slice ab nb cb, .slice r1 m1 q1] W fun e w' => e = .returned (.int .i64 d) ∧ Drew W w') := Lib.hid (fun ab nb cb W h1 h2 => by rw [hd]; exact cmp_spec ab r1 nb m1 cb q1 _ g W h1 (HIG.out W h2))
                clear hc3 hx3 hi3 t0 hd hC
                go_wp2_with fail
                refine (sel_spec _ _ _ _ _ _ x cols _ (HX.out _ hb8) (I0.out _ hb8) (by omega)).mono ?_
                rintro e w8 ⟨ab, nb, cb, rfl, oy, z8⟩
                have s9 := z8.size
                have hb9 := on hb8 z8
                replace t_0 := (z8.cell (p := ⟨w.heap.size, 0, none⟩) (by simp only []; omega)).trans t_0
                replace t_1 := (z8.cell (p := ⟨w.heap.size, 1, none⟩) (by simp only []; omega)).trans t_1
                replace t_2 := (z8.cell (p := ⟨w.heap.size, 2, none⟩) (by simp only []; omega)).trans t_2
                replace hacc := hacc.below z8 (by omega)
                replace c0 := (z8.cell (p := ⟨b0, o0 + j, none⟩) (by simp only []; omega)).trans c0
                replace hcc := hcc.below z8 (by omega)
                replace hld := hld.trans (turn_below z8 (Nat.le_refl _))
                replace hle := on hle z8
                replace c3 := (z8.cell (p := ⟨b3, o3 + i, none⟩) (by simp only []; omega)).trans c3
                have HIY : Hid (Ints w8 ab nb (sel x cols)) := Lib.hid (rI_ints (oy.rd reads_I))
                clear oy
                rcases hrng with rfl | rfl | rfl
                · go_wp2_with fail
                  refine (HCMP.out _ _ _ _ HIY.out hle).mono ?_
                  rintro e w10 ⟨rfl, z10⟩
                  replace z10 : Below w8.heap.size w8 w10 := z10.below _
                  have s11 := z10.size
                  have hb11 := on hb9 z10
                  replace t_0 := (z10.cell (p := ⟨w.heap.size, 0, none⟩) (by simp only []; omega)).trans t_0
                  replace t_1 := (z10.cell (p := ⟨w.heap.size, 1, none⟩) (by simp only []; omega)).trans t_1
                  replace t_2 := (z10.cell (p := ⟨w.heap.size, 2, none⟩) (by simp only []; omega)).trans t_2
                  replace hacc := hacc.below z10 (by omega)
                  replace c0 := (z10.cell (p := ⟨b0, o0 + j, none⟩) (by simp only []; omega)).trans c0
                  replace hcc := hcc.below z10 (by omega)
                  replace hld := hld.trans (turn_below z10 (Nat.le_refl _))
                  replace hle := on hle z10
                  replace c3 := (z10.cell (p := ⟨b3, o3 + i, none⟩) (by simp only []; omega)).trans c3
                  have HE : Hid (cntRow g all = c + cntRow g (all.drop (i + 1))) := Lib.hid (by rw [HC.out]; simp)
                  go_wp2_with fail
                  go_roundw
                  case rel => exact ⟨i + 1, c, by omega, by go_num, rfl, by omega, HE.out, hle⟩
                  case measure => simp [intOf]; omega
                · go_wp2_with fail
                  refine (HCMP.out _ _ _ _ HIY.out hle).mono ?_
                  rintro e w12 ⟨rfl, z12⟩
                  replace z12 : Below w8.heap.size w8 w12 := z12.below _
                  have s13 := z12.size
                  have hb13 := on hb9 z12
                  replace t_0 := (z12.cell (p := ⟨w.heap.size, 0, none⟩) (by simp only []; omega)).trans t_0
                  replace t_1 := (z12.cell (p := ⟨w.heap.size, 1, none⟩) (by simp only []; omega)).trans t_1
                  replace t_2 := (z12.cell (p := ⟨w.heap.size, 2, none⟩) (by simp only []; omega)).trans t_2
                  replace hacc := hacc.below z12 (by omega)
                  replace c0 := (z12.cell (p := ⟨b0, o0 + j, none⟩) (by simp only []; omega)).trans c0
                  replace hcc := hcc.below z12 (by omega)
                  replace hld := hld.trans (turn_below z12 (Nat.le_refl _))
                  replace hle := on hle z12
                  replace c3 := (z12.cell (p := ⟨b3, o3 + i, none⟩) (by simp only []; omega)).trans c3
                  have HE : Hid (cntRow g all = (c + 1) + cntRow g (all.drop (i + 1))) := Lib.hid (by rw [HC.out]; simp; omega)
                  go_wp2_with fail
                  go_roundw
                  case rel => exact ⟨i + 1, c + 1, by omega, by go_num, by go_num, by omega, HE.out, hle⟩
                  case measure => simp [intOf]; omega
                · go_wp2_with fail
                  refine (HCMP.out _ _ _ _ HIY.out hle).mono ?_
                  rintro e w14 ⟨rfl, z14⟩
                  replace z14 : Below w8.heap.size w8 w14 := z14.below _
                  have s15 := z14.size
                  have hb15 := on hb9 z14
                  replace t_0 := (z14.cell (p := ⟨w.heap.size, 0, none⟩) (by simp only []; omega)).trans t_0
                  replace t_1 := (z14.cell (p := ⟨w.heap.size, 1, none⟩) (by simp only []; omega)).trans t_1
                  replace t_2 := (z14.cell (p := ⟨w.heap.size, 2, none⟩) (by simp only []; omega)).trans t_2
                  replace hacc := hacc.below z14 (by omega)
                  replace c0 := (z14.cell (p := ⟨b0, o0 + j, none⟩) (by simp only []; omega)).trans c0
                  replace hcc := hcc.below z14 (by omega)
                  replace hld := hld.trans (turn_below z14 (Nat.le_refl _))
                  replace hle := on hle z14
                  replace c3 := (z14.cell (p := ⟨b3, o3 + i, none⟩) (by simp only []; omega)).trans c3
                  have HE : Hid (cntRow g all = c + cntRow g (all.drop (i + 1))) := Lib.hid (by rw [HC.out]; simp)
                  go_wp2_with fail
                  go_roundw
                  case rel => exact ⟨i + 1, c, by omega, by go_num, rfl, by omega, HE.out, hle⟩
                  case measure => simp [intOf]; omega
              · have hR : cntRow g all = c := by rw [hC.out, cntRow_end (by have := HAL.out; omega)]; rfl
                have HS2 : Hid (countsOf (gs.take (j + 1)) all = countsOf (gs.take j) all ++ [(c : Int)]) := Lib.hid (by rw [HS.out, hR])
                clear hR hC
                go_wp2_with ((at_builtin; refine wpList_accI _ _ _ _ _ hcc hld rfl (by omega) (by omega) ⟨by omega, by omega⟩ (by omega) rfl rfl rfl rfl rfl ?_; intro v' w1 hacc' ht' hsz'))
                rw [← HS2.out] at hacc'
                go_roundw
                case rel => exact ⟨j + 1, by omega, by go_num, hacc', ht'⟩
                case measure => simp [intOf]; omega
          · rw [List.take_of_length_le (by have := HGL.out; omega)] at hcc
            obtain ⟨ca, cn, cd, rfl⟩ := hcc.form3
            have HO1 := Lib.hid (hacc.own (B := w.heap.size) (hi' := wo.heap.size) (by omega) (by omega) (by omega))
            have HO2 := Lib.hid (hcc.own (B := w.heap.size) (hi' := wo.heap.size) (by omega) (by omega) (by omega))
            clear hacc hcc t0
            go_wp2_with fail
            refine bodyPost_ret (v := .tuple #[.slice va vn vc, .slice ca cn cd]) (by simp [results, Try.results61, go_sem]) rfl ⟨_, _, _, _, _, _, rfl, by rw [H1.out]; exact HO1.out, by rw [H2.out]; exact HO2.out, hb7⟩

end Go.Proofs.Ytbkoddikfpkocaa

/- Contracts of GroupCounts, as the law's walk takes them. -/
namespace Go.Proofs.Ytbkoddikfpkocaa
open Go.RowKit
set_option linter.unusedVariables false

theorem groups_spec' (v : Value) (cs : List Value) (t : DT) (cols : List Int) (w : World) (ht : rT.rep w cs t) (h' : rI.rep w [v] cols) :
    Calls Try.prog 61 #[.agg cs.toArray, v] w fun e w' => ∃ u1 u2, e = .returned (.tuple #[u1, u2]) ∧ Own oII w.heap.size w'.heap.size w' [u1] (grpV t cols) ∧ Own oI w.heap.size w'.heap.size w' [u2] (grpN t cols) ∧ Below w.heap.size w w' :=
  (groups_spec v cs t cols w ht h').mono fun e w' ⟨_, _, _, _, _, _, he, h1, h2, h3⟩ => ⟨_, _, he, h1, h2, h3⟩
theorem groups_impl' (v : Value) (cs : List Value) (t : DT) (cols : List Int) (w : World) (ht : rT.rep w cs t) (h' : rI.rep w [v] cols) :
    Calls Try.prog 63 #[.agg cs.toArray, v] w fun e w' => ∃ u1 u2, ∃ wm : World, e = .returned (.tuple #[u1, u2]) ∧ Own oII w.heap.size wm.heap.size w' [u1] (grpV t cols) ∧ Own oI wm.heap.size w'.heap.size w' [u2] (grpN t cols) ∧ (w.heap.size ≤ wm.heap.size ∧ wm.heap.size ≤ w'.heap.size) ∧ Below w.heap.size w w' :=
  (groups_impl v cs t cols w ht h').mono fun e w' ⟨_, _, _, _, _, _, wm, he, h1, h2, h3, h4, h5⟩ => ⟨_, _, wm, he, h1, h2, ⟨h3, h4⟩, h5⟩

end Go.Proofs.Ytbkoddikfpkocaa

/- The walk of the law GroupCounts. Written by a program. -/
namespace Go.Proofs.Ytbkoddikfpkocaa
open Go.RowKit
set_option linter.unusedVariables false
set_option linter.unusedSimpArgs false
set_option synthInstance.maxSize 2000
set_option synthInstance.maxHeartbeats 400000

set_option maxHeartbeats 4000000 in
set_option maxRecDepth 100000 in
theorem walk_FnExactGroupCounts (v0 : Value) (v1 : Value) (w : World) (h0 : kT_in w v0) (h1 : kI_in w v1) :
    Calls Try.prog 6 #[v0, v1] w fun e w' => e = .returned (.bool true) ∧ Below w.heap.size w w' := by
  obtain ⟨c0, x0, rfl, h0⟩ := h0
  obtain ⟨bu0, nu0, cu0, rfl⟩ := rT_form h0
  obtain ⟨a1, n1, p1, x1, rfl, hn1, h1⟩ := h1
  have hb0 : Below w.heap.size w w := Below.refl _ _
  rcases Nat.lt_or_ge 1048576 n1 with g1 | g1
  · have hm1 := hn1.2
    go_enter Try.func6, Try.ntmps6
    go_wp2
    go_ret
    exact ⟨rfl, (Below.refl _ _).alloc (Nat.le_refl _) _⟩
  have hbk1 : bulk_I x1 ≤ 1048576 := by have h9 := hn1.1; unfold bulk_I; omega
  go_enter Try.func6, Try.ntmps6
  obtain ⟨w1, hw1⟩ : ∃ W, W = w.alloc (.cells #[.string x0.1, .int .i64 x0.2.1, .slice bu0 nu0 cu0] 67) := ⟨_, rfl⟩
  have z1 : Below w.heap.size w w1 := by rw [hw1]; exact (Below.refl _ _).alloc (Nat.le_refl _) _
  have s1 : w1.heap.size = w.heap.size + 1 := by rw [hw1]; simp
  have hb1 := on hb0 z1
  have bp0_0 : w1.cell? ⟨w.heap.size, 0, none⟩ = some (.string x0.1) := by rw [hw1]; exact box_cell (Below.refl _ _) rfl
  have bp0_1 : w1.cell? ⟨w.heap.size, 1, none⟩ = some (.int .i64 x0.2.1) := by rw [hw1]; exact box_cell (Below.refl _ _) rfl
  have bp0_2 : w1.cell? ⟨w.heap.size, 2, none⟩ = some (.slice bu0 nu0 cu0) := by rw [hw1]; exact box_cell (Below.refl _ _) rfl
  go_wp2_with fail
  rw [← hw1]
  clear hw1
  refine (sz_T _ x0 (1048576) _ (rT.mono h0 hb1) (by omega) (by omega)).mono ?_
  rintro e w2 ⟨rfl, z2⟩
  have s2 := z2.size
  have hb2 := on hb1 z2
  replace bp0_0 := (z2.cell (p := ⟨w.heap.size, 0, none⟩) (by simp only []; omega)).trans bp0_0
  replace bp0_1 := (z2.cell (p := ⟨w.heap.size, 1, none⟩) (by simp only []; omega)).trans bp0_1
  replace bp0_2 := (z2.cell (p := ⟨w.heap.size, 2, none⟩) (by simp only []; omega)).trans bp0_2
  obtain ⟨q0, hq0⟩ : ∃ q, q = szR (1048576) (bulk_T x0) := ⟨_, rfl⟩
  rw [← hq0]
  have hc0 := szR_cases (1048576) (bulk_T x0)
  rw [← hq0] at hc0
  clear hq0
  rcases hc0 with ⟨rfl, _⟩ | ⟨hq0, hbk0⟩
  · go_wp2_with fail
    go_ret
    exact ⟨rfl, hb2⟩
  have hlo0 : 0 ≤ q0 ∧ q0 ≤ 1048576 := by omega
  have hbl0 : bulk_T x0 ≤ 1048576 := by omega
  obtain ⟨hlo0, hlp0⟩ := hlo0
  have HQ0 := Lib.hid hq0
  clear hq0 hbk0
  go_wp2_with fail
  refine (to_T _ _ _ (rT.mono h0 hb2) (by omega)).mono ?_
  rintro e w3 ⟨ct0, rfl, t0, z3⟩
  have s3 := z3.size
  have hb3 := on hb2 z3
  replace bp0_0 := (z3.cell (p := ⟨w.heap.size, 0, none⟩) (by simp only []; omega)).trans bp0_0
  replace bp0_1 := (z3.cell (p := ⟨w.heap.size, 1, none⟩) (by simp only []; omega)).trans bp0_1
  replace bp0_2 := (z3.cell (p := ⟨w.heap.size, 2, none⟩) (by simp only []; omega)).trans bp0_2
  obtain ⟨but0, nut0, cut0, rfl⟩ := oT_form t0
  go_wp2_with fail
  refine (to_I _ _ _ (rI.mono h1 hb3) (by omega)).mono ?_
  rintro e w4 ⟨ct1, rfl, t1, z4⟩
  have s4 := z4.size
  have hb4 := on hb3 z4
  replace t0 := t0.below z4 (by omega)
  replace bp0_0 := (z4.cell (p := ⟨w.heap.size, 0, none⟩) (by simp only []; omega)).trans bp0_0
  replace bp0_1 := (z4.cell (p := ⟨w.heap.size, 1, none⟩) (by simp only []; omega)).trans bp0_1
  replace bp0_2 := (z4.cell (p := ⟨w.heap.size, 2, none⟩) (by simp only []; omega)).trans bp0_2
  go_wp2_with fail
  refine (groups_spec' _ _ x0 x1 _ (t0.rd reads_T) (t1.rd reads_I)).mono ?_
  rintro e w5 ⟨cW0, cW1, rfl, W0, W1, z5⟩
  have s5 := z5.size
  have hb5 := on hb4 z5
  replace t0 := t0.below z5 (by omega)
  replace t1 := t1.below z5 (by omega)
  replace bp0_0 := (z5.cell (p := ⟨w.heap.size, 0, none⟩) (by simp only []; omega)).trans bp0_0
  replace bp0_1 := (z5.cell (p := ⟨w.heap.size, 1, none⟩) (by simp only []; omega)).trans bp0_1
  replace bp0_2 := (z5.cell (p := ⟨w.heap.size, 2, none⟩) (by simp only []; omega)).trans bp0_2
  clear t0
  clear t1
  go_wp2_with fail
  refine (to_T _ _ _ (rT.mono h0 hb5) (by omega)).mono ?_
  rintro e w6 ⟨cy0, rfl, y0, z6⟩
  have s6 := z6.size
  have hb6 := on hb5 z6
  replace W0 := W0.below z6 (by omega)
  replace W1 := W1.below z6 (by omega)
  replace bp0_0 := (z6.cell (p := ⟨w.heap.size, 0, none⟩) (by simp only []; omega)).trans bp0_0
  replace bp0_1 := (z6.cell (p := ⟨w.heap.size, 1, none⟩) (by simp only []; omega)).trans bp0_1
  replace bp0_2 := (z6.cell (p := ⟨w.heap.size, 2, none⟩) (by simp only []; omega)).trans bp0_2
  obtain ⟨buy0, nuy0, cuy0, rfl⟩ := oT_form y0
  obtain ⟨w7, hw7⟩ : ∃ W, W = w6.alloc (.cells #[.string x0.1, .int .i64 x0.2.1, .slice buy0 nuy0 cuy0] 34) := ⟨_, rfl⟩
  have z7 : Below w6.heap.size w6 w7 := by rw [hw7]; exact (Below.refl _ _).alloc (Nat.le_refl _) _
  have s7 : w7.heap.size = w6.heap.size + 1 := by rw [hw7]; simp
  have hb7 := on hb6 z7
  replace W0 := W0.below z7 (by omega)
  replace W1 := W1.below z7 (by omega)
  replace y0 := y0.below z7 (by omega)
  replace bp0_0 := (z7.cell (p := ⟨w.heap.size, 0, none⟩) (by simp only []; omega)).trans bp0_0
  replace bp0_1 := (z7.cell (p := ⟨w.heap.size, 1, none⟩) (by simp only []; omega)).trans bp0_1
  replace bp0_2 := (z7.cell (p := ⟨w.heap.size, 2, none⟩) (by simp only []; omega)).trans bp0_2
  have by0_0 : w7.cell? ⟨w6.heap.size, 0, none⟩ = some (.string x0.1) := by rw [hw7]; exact box_cell (Below.refl _ _) rfl
  have by0_1 : w7.cell? ⟨w6.heap.size, 1, none⟩ = some (.int .i64 x0.2.1) := by rw [hw7]; exact box_cell (Below.refl _ _) rfl
  have by0_2 : w7.cell? ⟨w6.heap.size, 2, none⟩ = some (.slice buy0 nuy0 cuy0) := by rw [hw7]; exact box_cell (Below.refl _ _) rfl
  have raw_bp0_0 := bp0_0
  rw [hw7] at raw_bp0_0
  have raw_bp0_1 := bp0_1
  rw [hw7] at raw_bp0_1
  have raw_bp0_2 := bp0_2
  rw [hw7] at raw_bp0_2
  have raw_by0_0 := by0_0
  rw [hw7] at raw_by0_0
  have raw_by0_1 := by0_1
  rw [hw7] at raw_by0_1
  have raw_by0_2 := by0_2
  rw [hw7] at raw_by0_2
  go_wp2_with fail
  rw [← hw7]
  clear hw7
  clear raw_bp0_0 raw_bp0_1 raw_bp0_2 raw_by0_0 raw_by0_1 raw_by0_2
  refine (to_I _ _ _ (rI.mono h1 hb7) (by omega)).mono ?_
  rintro e w8 ⟨cy1, rfl, y1, z8⟩
  have s8 := z8.size
  have hb8 := on hb7 z8
  replace W0 := W0.below z8 (by omega)
  replace W1 := W1.below z8 (by omega)
  replace y0 := y0.below z8 (by omega)
  replace bp0_0 := (z8.cell (p := ⟨w.heap.size, 0, none⟩) (by simp only []; omega)).trans bp0_0
  replace bp0_1 := (z8.cell (p := ⟨w.heap.size, 1, none⟩) (by simp only []; omega)).trans bp0_1
  replace bp0_2 := (z8.cell (p := ⟨w.heap.size, 2, none⟩) (by simp only []; omega)).trans bp0_2
  replace by0_0 := (z8.cell (p := ⟨w6.heap.size, 0, none⟩) (by simp only []; omega)).trans by0_0
  replace by0_1 := (z8.cell (p := ⟨w6.heap.size, 1, none⟩) (by simp only []; omega)).trans by0_1
  replace by0_2 := (z8.cell (p := ⟨w6.heap.size, 2, none⟩) (by simp only []; omega)).trans by0_2
  go_wp2_with fail
  refine (groups_impl' _ _ x0 x1 _ (y0.rd reads_T) (y1.rd reads_I)).mono ?_
  rintro e w9 ⟨cG0, cG1, wmG, rfl, G0, G1, ⟨mGa, mGb⟩, z9⟩
  have s9 := z9.size
  have hb9 := on hb8 z9
  replace W0 := W0.below z9 (by omega)
  replace W1 := W1.below z9 (by omega)
  replace y0 := y0.below z9 (by omega)
  replace y1 := y1.below z9 (by omega)
  replace bp0_0 := (z9.cell (p := ⟨w.heap.size, 0, none⟩) (by simp only []; omega)).trans bp0_0
  replace bp0_1 := (z9.cell (p := ⟨w.heap.size, 1, none⟩) (by simp only []; omega)).trans bp0_1
  replace bp0_2 := (z9.cell (p := ⟨w.heap.size, 2, none⟩) (by simp only []; omega)).trans bp0_2
  replace by0_0 := (z9.cell (p := ⟨w6.heap.size, 0, none⟩) (by simp only []; omega)).trans by0_0
  replace by0_1 := (z9.cell (p := ⟨w6.heap.size, 1, none⟩) (by simp only []; omega)).trans by0_1
  replace by0_2 := (z9.cell (p := ⟨w6.heap.size, 2, none⟩) (by simp only []; omega)).trans by0_2
  go_wp2_with fail
  refine (eq_II _ _ _ _ _ (G0.rd reads_II) (W0.rd reads_II)).mono ?_
  rintro e w10 ⟨rfl, z10⟩
  have s10 := z10.size
  have hb10 := on hb9 z10
  replace W0 := W0.below z10 (by omega)
  replace W1 := W1.below z10 (by omega)
  replace y0 := y0.below z10 (by omega)
  replace y1 := y1.below z10 (by omega)
  replace G0 := G0.below z10 (by omega)
  replace G1 := G1.below z10 (by omega)
  replace bp0_0 := (z10.cell (p := ⟨w.heap.size, 0, none⟩) (by simp only []; omega)).trans bp0_0
  replace bp0_1 := (z10.cell (p := ⟨w.heap.size, 1, none⟩) (by simp only []; omega)).trans bp0_1
  replace bp0_2 := (z10.cell (p := ⟨w.heap.size, 2, none⟩) (by simp only []; omega)).trans bp0_2
  replace by0_0 := (z10.cell (p := ⟨w6.heap.size, 0, none⟩) (by simp only []; omega)).trans by0_0
  replace by0_1 := (z10.cell (p := ⟨w6.heap.size, 1, none⟩) (by simp only []; omega)).trans by0_1
  replace by0_2 := (z10.cell (p := ⟨w6.heap.size, 2, none⟩) (by simp only []; omega)).trans by0_2
  go_wp2_with fail
  refine (eq_I _ _ _ _ _ (G1.rd reads_I) (W1.rd reads_I)).mono ?_
  rintro e w11 ⟨rfl, z11⟩
  replace z11 : Below w10.heap.size w10 w11 := z11.below _
  have s11 := z11.size
  have hb11 := on hb10 z11
  replace W0 := W0.below z11 (by omega)
  replace W1 := W1.below z11 (by omega)
  replace y0 := y0.below z11 (by omega)
  replace y1 := y1.below z11 (by omega)
  replace G0 := G0.below z11 (by omega)
  replace G1 := G1.below z11 (by omega)
  replace bp0_0 := (z11.cell (p := ⟨w.heap.size, 0, none⟩) (by simp only []; omega)).trans bp0_0
  replace bp0_1 := (z11.cell (p := ⟨w.heap.size, 1, none⟩) (by simp only []; omega)).trans bp0_1
  replace bp0_2 := (z11.cell (p := ⟨w.heap.size, 2, none⟩) (by simp only []; omega)).trans bp0_2
  replace by0_0 := (z11.cell (p := ⟨w6.heap.size, 0, none⟩) (by simp only []; omega)).trans by0_0
  replace by0_1 := (z11.cell (p := ⟨w6.heap.size, 1, none⟩) (by simp only []; omega)).trans by0_1
  replace by0_2 := (z11.cell (p := ⟨w6.heap.size, 2, none⟩) (by simp only []; omega)).trans by0_2
  go_wp2_with fail
  go_region_held3 (fun W => W.cell? ⟨w6.heap.size, 0, none⟩ = some (.string x0.1) ∧ W.cell? ⟨w6.heap.size, 1, none⟩ = some (.int .i64 x0.2.1) ∧ W.cell? ⟨w6.heap.size, 2, none⟩ = some (.slice buy0 nuy0 cuy0) ∧ W.cell? ⟨w.heap.size, 0, none⟩ = some (.string x0.1) ∧ W.cell? ⟨w.heap.size, 1, none⟩ = some (.int .i64 x0.2.1) ∧ W.cell? ⟨w.heap.size, 2, none⟩ = some (.slice bu0 nu0 cu0)) (first | exact ⟨by0_0, by0_1, by0_2, bp0_0, bp0_1, bp0_2⟩ | assumption) (first | (go_at_call 62; refine (to_T _ x0 _ (rT.mono h0 hb11.drew) (by omega)).mono ?_; rintro e w12 ⟨du0, rfl, u0, z12⟩; replace z12 : Below w11.heap.size w11 w12 := (Below.refl _ _).drew.trans z12; have hS0 := (⟨(z12.cell (p := ⟨w6.heap.size, 0, none⟩) (by simp only []; omega)).trans by0_0, (z12.cell (p := ⟨w6.heap.size, 1, none⟩) (by simp only []; omega)).trans by0_1, (z12.cell (p := ⟨w6.heap.size, 2, none⟩) (by simp only []; omega)).trans by0_2, (z12.cell (p := ⟨w.heap.size, 0, none⟩) (by simp only []; omega)).trans bp0_0, (z12.cell (p := ⟨w.heap.size, 1, none⟩) (by simp only []; omega)).trans bp0_1, (z12.cell (p := ⟨w.heap.size, 2, none⟩) (by simp only []; omega)).trans bp0_2⟩ : (fun W => W.cell? ⟨w6.heap.size, 0, none⟩ = some (.string x0.1) ∧ W.cell? ⟨w6.heap.size, 1, none⟩ = some (.int .i64 x0.2.1) ∧ W.cell? ⟨w6.heap.size, 2, none⟩ = some (.slice buy0 nuy0 cuy0) ∧ W.cell? ⟨w.heap.size, 0, none⟩ = some (.string x0.1) ∧ W.cell? ⟨w.heap.size, 1, none⟩ = some (.int .i64 x0.2.1) ∧ W.cell? ⟨w.heap.size, 2, none⟩ = some (.slice bu0 nu0 cu0)) w12); obtain ⟨buu0, nuu0, cuu0, rfl⟩ := oT_form u0; have y0' := y0.below z12 (by omega)) | (go_at_call 65; refine (eq_T _ _ x0 x0 _ (y0'.rd reads_T) (u0.rd reads_T)).mono ?_; rintro e w13 ⟨rfl, z13⟩; have s12 := z12.size; have hT0 := (⟨(z13.cell (p := ⟨w6.heap.size, 0, none⟩) (by simp only []; omega)).trans hS0.1, (z13.cell (p := ⟨w6.heap.size, 1, none⟩) (by simp only []; omega)).trans hS0.2.1, (z13.cell (p := ⟨w6.heap.size, 2, none⟩) (by simp only []; omega)).trans hS0.2.2.1, (z13.cell (p := ⟨w.heap.size, 0, none⟩) (by simp only []; omega)).trans hS0.2.2.2.1, (z13.cell (p := ⟨w.heap.size, 1, none⟩) (by simp only []; omega)).trans hS0.2.2.2.2.1, (z13.cell (p := ⟨w.heap.size, 2, none⟩) (by simp only []; omega)).trans hS0.2.2.2.2.2⟩ : (fun W => W.cell? ⟨w6.heap.size, 0, none⟩ = some (.string x0.1) ∧ W.cell? ⟨w6.heap.size, 1, none⟩ = some (.int .i64 x0.2.1) ∧ W.cell? ⟨w6.heap.size, 2, none⟩ = some (.slice buy0 nuy0 cuy0) ∧ W.cell? ⟨w.heap.size, 0, none⟩ = some (.string x0.1) ∧ W.cell? ⟨w.heap.size, 1, none⟩ = some (.int .i64 x0.2.1) ∧ W.cell? ⟨w.heap.size, 2, none⟩ = some (.slice bu0 nu0 cu0)) w13)))
  replace z12 : Below w11.heap.size w11 w12 := z12
  clear u0 y0' hS0 hT0
  have t12 := z12.size
  have hb12 := on hb11 z12
  replace W0 := W0.below z12 (by omega)
  replace W1 := W1.below z12 (by omega)
  replace y0 := y0.below z12 (by omega)
  replace y1 := y1.below z12 (by omega)
  replace G0 := G0.below z12 (by omega)
  replace G1 := G1.below z12 (by omega)
  replace bp0_0 := (z12.cell (p := ⟨w.heap.size, 0, none⟩) (by simp only []; omega)).trans bp0_0
  replace bp0_1 := (z12.cell (p := ⟨w.heap.size, 1, none⟩) (by simp only []; omega)).trans bp0_1
  replace bp0_2 := (z12.cell (p := ⟨w.heap.size, 2, none⟩) (by simp only []; omega)).trans bp0_2
  replace by0_0 := (z12.cell (p := ⟨w6.heap.size, 0, none⟩) (by simp only []; omega)).trans by0_0
  replace by0_1 := (z12.cell (p := ⟨w6.heap.size, 1, none⟩) (by simp only []; omega)).trans by0_1
  replace by0_2 := (z12.cell (p := ⟨w6.heap.size, 2, none⟩) (by simp only []; omega)).trans by0_2
  have t13 := z13.size
  have hb13 := on hb12 z13
  replace W0 := W0.below z13 (by omega)
  replace W1 := W1.below z13 (by omega)
  replace y0 := y0.below z13 (by omega)
  replace y1 := y1.below z13 (by omega)
  replace G0 := G0.below z13 (by omega)
  replace G1 := G1.below z13 (by omega)
  replace bp0_0 := (z13.cell (p := ⟨w.heap.size, 0, none⟩) (by simp only []; omega)).trans bp0_0
  replace bp0_1 := (z13.cell (p := ⟨w.heap.size, 1, none⟩) (by simp only []; omega)).trans bp0_1
  replace bp0_2 := (z13.cell (p := ⟨w.heap.size, 2, none⟩) (by simp only []; omega)).trans bp0_2
  replace by0_0 := (z13.cell (p := ⟨w6.heap.size, 0, none⟩) (by simp only []; omega)).trans by0_0
  replace by0_1 := (z13.cell (p := ⟨w6.heap.size, 1, none⟩) (by simp only []; omega)).trans by0_1
  replace by0_2 := (z13.cell (p := ⟨w6.heap.size, 2, none⟩) (by simp only []; omega)).trans by0_2
  go_wp2_with fail
  refine (to_I _ _ _ (rI.mono h1 hb13) (by omega)).mono ?_
  rintro e w14 ⟨cu1, rfl, u1, z14⟩
  have s14 := z14.size
  have hb14 := on hb13 z14
  replace W0 := W0.below z14 (by omega)
  replace W1 := W1.below z14 (by omega)
  replace y0 := y0.below z14 (by omega)
  replace y1 := y1.below z14 (by omega)
  replace G0 := G0.below z14 (by omega)
  replace G1 := G1.below z14 (by omega)
  replace bp0_0 := (z14.cell (p := ⟨w.heap.size, 0, none⟩) (by simp only []; omega)).trans bp0_0
  replace bp0_1 := (z14.cell (p := ⟨w.heap.size, 1, none⟩) (by simp only []; omega)).trans bp0_1
  replace bp0_2 := (z14.cell (p := ⟨w.heap.size, 2, none⟩) (by simp only []; omega)).trans bp0_2
  replace by0_0 := (z14.cell (p := ⟨w6.heap.size, 0, none⟩) (by simp only []; omega)).trans by0_0
  replace by0_1 := (z14.cell (p := ⟨w6.heap.size, 1, none⟩) (by simp only []; omega)).trans by0_1
  replace by0_2 := (z14.cell (p := ⟨w6.heap.size, 2, none⟩) (by simp only []; omega)).trans by0_2
  go_wp2_with fail
  refine (eq_I _ _ _ _ _ (y1.rd reads_I) (u1.rd reads_I)).mono ?_
  rintro e w15 ⟨rfl, z15⟩
  replace z15 : Below w14.heap.size w14 w15 := z15.below _
  have s15 := z15.size
  have hb15 := on hb14 z15
  replace W0 := W0.below z15 (by omega)
  replace W1 := W1.below z15 (by omega)
  replace y0 := y0.below z15 (by omega)
  replace y1 := y1.below z15 (by omega)
  replace G0 := G0.below z15 (by omega)
  replace G1 := G1.below z15 (by omega)
  replace u1 := u1.below z15 (by omega)
  replace bp0_0 := (z15.cell (p := ⟨w.heap.size, 0, none⟩) (by simp only []; omega)).trans bp0_0
  replace bp0_1 := (z15.cell (p := ⟨w.heap.size, 1, none⟩) (by simp only []; omega)).trans bp0_1
  replace bp0_2 := (z15.cell (p := ⟨w.heap.size, 2, none⟩) (by simp only []; omega)).trans bp0_2
  replace by0_0 := (z15.cell (p := ⟨w6.heap.size, 0, none⟩) (by simp only []; omega)).trans by0_0
  replace by0_1 := (z15.cell (p := ⟨w6.heap.size, 1, none⟩) (by simp only []; omega)).trans by0_1
  replace by0_2 := (z15.cell (p := ⟨w6.heap.size, 2, none⟩) (by simp only []; omega)).trans by0_2
  clear u1
  have hct0 := cnt_le_T x0
  have hct1 := cnt_le_I x1
  go_wp2_with fail
  refine (mark_T _ x0 (1) w5.heap.size w6.heap.size _ y0 (by omega) (by omega) (by omega) (by omega)).mono ?_
  rintro e w16 ⟨rfl, y0m, z16⟩
  have s16 := z16.size
  have hb16 := hb15.trans ((z16.below (by omega)).mono (by omega))
  replace W0 := W0.turn z16 (by omega)
  replace W1 := W1.turn z16 (by omega)
  replace y1 := y1.turn z16 (by omega)
  replace G0 := G0.turn z16 (by omega)
  replace G1 := G1.turn z16 (by omega)
  replace bp0_0 := (z16.cell (p := ⟨w.heap.size, 0, none⟩) (by simp only []; omega) (by simp only []; omega)).trans bp0_0
  replace bp0_1 := (z16.cell (p := ⟨w.heap.size, 1, none⟩) (by simp only []; omega) (by simp only []; omega)).trans bp0_1
  replace bp0_2 := (z16.cell (p := ⟨w.heap.size, 2, none⟩) (by simp only []; omega) (by simp only []; omega)).trans bp0_2
  replace by0_0 := (z16.cell (p := ⟨w6.heap.size, 0, none⟩) (by simp only []; omega) (by simp only []; omega)).trans by0_0
  replace by0_1 := (z16.cell (p := ⟨w6.heap.size, 1, none⟩) (by simp only []; omega) (by simp only []; omega)).trans by0_1
  replace by0_2 := (z16.cell (p := ⟨w6.heap.size, 2, none⟩) (by simp only []; omega) (by simp only []; omega)).trans by0_2
  clear y0
  clear y0m
  go_wp2_with fail
  refine (mark_I _ x1 (1 + (cnt_T x0 : Int)) w7.heap.size w8.heap.size _ y1 (by omega) (by omega) (by omega)).mono ?_
  rintro e w17 ⟨rfl, y1m, z17⟩
  have s17 := z17.size
  have hb17 := hb16.trans ((z17.below (by omega)).mono (by omega))
  replace W0 := W0.turn z17 (by omega)
  replace W1 := W1.turn z17 (by omega)
  replace G0 := G0.turn z17 (by omega)
  replace G1 := G1.turn z17 (by omega)
  replace bp0_0 := (z17.cell (p := ⟨w.heap.size, 0, none⟩) (by simp only []; omega) (by simp only []; omega)).trans bp0_0
  replace bp0_1 := (z17.cell (p := ⟨w.heap.size, 1, none⟩) (by simp only []; omega) (by simp only []; omega)).trans bp0_1
  replace bp0_2 := (z17.cell (p := ⟨w.heap.size, 2, none⟩) (by simp only []; omega) (by simp only []; omega)).trans bp0_2
  replace by0_0 := (z17.cell (p := ⟨w6.heap.size, 0, none⟩) (by simp only []; omega) (by simp only []; omega)).trans by0_0
  replace by0_1 := (z17.cell (p := ⟨w6.heap.size, 1, none⟩) (by simp only []; omega) (by simp only []; omega)).trans by0_1
  replace by0_2 := (z17.cell (p := ⟨w6.heap.size, 2, none⟩) (by simp only []; omega) (by simp only []; omega)).trans by0_2
  clear y1
  clear y1m
  go_wp2_with fail
  refine (eq_II _ _ _ _ _ (G0.rd reads_II) (W0.rd reads_II)).mono ?_
  rintro e w18 ⟨rfl, z18⟩
  have s18 := z18.size
  have hb18 := on hb17 z18
  replace W0 := W0.below z18 (by omega)
  replace W1 := W1.below z18 (by omega)
  replace G0 := G0.below z18 (by omega)
  replace G1 := G1.below z18 (by omega)
  replace bp0_0 := (z18.cell (p := ⟨w.heap.size, 0, none⟩) (by simp only []; omega)).trans bp0_0
  replace bp0_1 := (z18.cell (p := ⟨w.heap.size, 1, none⟩) (by simp only []; omega)).trans bp0_1
  replace bp0_2 := (z18.cell (p := ⟨w.heap.size, 2, none⟩) (by simp only []; omega)).trans bp0_2
  replace by0_0 := (z18.cell (p := ⟨w6.heap.size, 0, none⟩) (by simp only []; omega)).trans by0_0
  replace by0_1 := (z18.cell (p := ⟨w6.heap.size, 1, none⟩) (by simp only []; omega)).trans by0_1
  replace by0_2 := (z18.cell (p := ⟨w6.heap.size, 2, none⟩) (by simp only []; omega)).trans by0_2
  go_wp2_with fail
  refine (eq_I _ _ _ _ _ (G1.rd reads_I) (W1.rd reads_I)).mono ?_
  rintro e w19 ⟨rfl, z19⟩
  replace z19 : Below w18.heap.size w18 w19 := z19.below _
  have s19 := z19.size
  have hb19 := on hb18 z19
  replace W0 := W0.below z19 (by omega)
  replace W1 := W1.below z19 (by omega)
  replace G0 := G0.below z19 (by omega)
  replace G1 := G1.below z19 (by omega)
  replace bp0_0 := (z19.cell (p := ⟨w.heap.size, 0, none⟩) (by simp only []; omega)).trans bp0_0
  replace bp0_1 := (z19.cell (p := ⟨w.heap.size, 1, none⟩) (by simp only []; omega)).trans bp0_1
  replace bp0_2 := (z19.cell (p := ⟨w.heap.size, 2, none⟩) (by simp only []; omega)).trans bp0_2
  replace by0_0 := (z19.cell (p := ⟨w6.heap.size, 0, none⟩) (by simp only []; omega)).trans by0_0
  replace by0_1 := (z19.cell (p := ⟨w6.heap.size, 1, none⟩) (by simp only []; omega)).trans by0_1
  replace by0_2 := (z19.cell (p := ⟨w6.heap.size, 2, none⟩) (by simp only []; omega)).trans by0_2
  have hrb0 := grpV_bulk x0 x1
  have hrb1 := grpN_cnt x0 x1
  go_wp2_with fail
  refine (mark_II _ _ (1) w8.heap.size wmG.heap.size _ G0 (by omega) (by omega) (by omega) (by omega)).mono ?_
  rintro e w20 ⟨rfl, M0, z20⟩
  have s20 := z20.size
  have hb20 := hb19.trans ((z20.below (by omega)).mono (by omega))
  replace W0 := W0.turn z20 (by omega)
  replace W1 := W1.turn z20 (by omega)
  replace G1 := G1.turn z20 (by omega)
  replace bp0_0 := (z20.cell (p := ⟨w.heap.size, 0, none⟩) (by simp only []; omega) (by simp only []; omega)).trans bp0_0
  replace bp0_1 := (z20.cell (p := ⟨w.heap.size, 1, none⟩) (by simp only []; omega) (by simp only []; omega)).trans bp0_1
  replace bp0_2 := (z20.cell (p := ⟨w.heap.size, 2, none⟩) (by simp only []; omega) (by simp only []; omega)).trans bp0_2
  replace by0_0 := (z20.cell (p := ⟨w6.heap.size, 0, none⟩) (by simp only []; omega) (by simp only []; omega)).trans by0_0
  replace by0_1 := (z20.cell (p := ⟨w6.heap.size, 1, none⟩) (by simp only []; omega) (by simp only []; omega)).trans by0_1
  replace by0_2 := (z20.cell (p := ⟨w6.heap.size, 2, none⟩) (by simp only []; omega) (by simp only []; omega)).trans by0_2
  clear G0
  go_wp2_with fail
  refine (mark_I _ _ (_) wmG.heap.size w9.heap.size _ G1 (by omega) (by omega) (by omega)).mono ?_
  rintro e w21 ⟨rfl, M1, z21⟩
  have s21 := z21.size
  have hb21 := hb20.trans ((z21.below (by omega)).mono (by omega))
  replace W0 := W0.turn z21 (by omega)
  replace W1 := W1.turn z21 (by omega)
  replace M0 := M0.turn z21 (by omega)
  replace bp0_0 := (z21.cell (p := ⟨w.heap.size, 0, none⟩) (by simp only []; omega) (by simp only []; omega)).trans bp0_0
  replace bp0_1 := (z21.cell (p := ⟨w.heap.size, 1, none⟩) (by simp only []; omega) (by simp only []; omega)).trans bp0_1
  replace bp0_2 := (z21.cell (p := ⟨w.heap.size, 2, none⟩) (by simp only []; omega) (by simp only []; omega)).trans bp0_2
  replace by0_0 := (z21.cell (p := ⟨w6.heap.size, 0, none⟩) (by simp only []; omega) (by simp only []; omega)).trans by0_0
  replace by0_1 := (z21.cell (p := ⟨w6.heap.size, 1, none⟩) (by simp only []; omega) (by simp only []; omega)).trans by0_1
  replace by0_2 := (z21.cell (p := ⟨w6.heap.size, 2, none⟩) (by simp only []; omega) (by simp only []; omega)).trans by0_2
  clear G1
  go_wp2_with fail
  refine (held_II _ _ (1) _ (M0.rd reads_II) (by omega) (by omega) (by omega)).mono ?_
  rintro e w' ⟨rfl, rfl⟩
  go_wp2_with fail
  refine (held_I _ _ (_) _ (M1.rd reads_I) (by omega) (by omega)).mono ?_
  rintro e w' ⟨rfl, rfl⟩
  go_wp2_with fail
  refine (to_T _ _ _ (rT.mono h0 hb21) (by omega)).mono ?_
  rintro e w22 ⟨cp0, rfl, p0, z22⟩
  have s22 := z22.size
  have hb22 := on hb21 z22
  replace W0 := W0.below z22 (by omega)
  replace W1 := W1.below z22 (by omega)
  replace M0 := M0.below z22 (by omega)
  replace M1 := M1.below z22 (by omega)
  replace bp0_0 := (z22.cell (p := ⟨w.heap.size, 0, none⟩) (by simp only []; omega)).trans bp0_0
  replace bp0_1 := (z22.cell (p := ⟨w.heap.size, 1, none⟩) (by simp only []; omega)).trans bp0_1
  replace bp0_2 := (z22.cell (p := ⟨w.heap.size, 2, none⟩) (by simp only []; omega)).trans bp0_2
  replace by0_0 := (z22.cell (p := ⟨w6.heap.size, 0, none⟩) (by simp only []; omega)).trans by0_0
  replace by0_1 := (z22.cell (p := ⟨w6.heap.size, 1, none⟩) (by simp only []; omega)).trans by0_1
  replace by0_2 := (z22.cell (p := ⟨w6.heap.size, 2, none⟩) (by simp only []; omega)).trans by0_2
  obtain ⟨bup0, nup0, cup0, rfl⟩ := oT_form p0
  go_wp2_with fail
  refine (to_I _ _ _ (rI.mono h1 hb22) (by omega)).mono ?_
  rintro e w23 ⟨cp1, rfl, p1, z23⟩
  have s23 := z23.size
  have hb23 := on hb22 z23
  replace W0 := W0.below z23 (by omega)
  replace W1 := W1.below z23 (by omega)
  replace M0 := M0.below z23 (by omega)
  replace M1 := M1.below z23 (by omega)
  replace p0 := p0.below z23 (by omega)
  replace bp0_0 := (z23.cell (p := ⟨w.heap.size, 0, none⟩) (by simp only []; omega)).trans bp0_0
  replace bp0_1 := (z23.cell (p := ⟨w.heap.size, 1, none⟩) (by simp only []; omega)).trans bp0_1
  replace bp0_2 := (z23.cell (p := ⟨w.heap.size, 2, none⟩) (by simp only []; omega)).trans bp0_2
  replace by0_0 := (z23.cell (p := ⟨w6.heap.size, 0, none⟩) (by simp only []; omega)).trans by0_0
  replace by0_1 := (z23.cell (p := ⟨w6.heap.size, 1, none⟩) (by simp only []; omega)).trans by0_1
  replace by0_2 := (z23.cell (p := ⟨w6.heap.size, 2, none⟩) (by simp only []; omega)).trans by0_2
  go_wp2_with fail
  refine (groups_impl' _ _ x0 x1 _ (p0.rd reads_T) (p1.rd reads_I)).mono ?_
  rintro e w24 ⟨cH0, cH1, wmH, rfl, H0, H1, ⟨mHa, mHb⟩, z24⟩
  have s24 := z24.size
  have hb24 := on hb23 z24
  replace W0 := W0.below z24 (by omega)
  replace W1 := W1.below z24 (by omega)
  replace M0 := M0.below z24 (by omega)
  replace M1 := M1.below z24 (by omega)
  replace p0 := p0.below z24 (by omega)
  replace p1 := p1.below z24 (by omega)
  replace bp0_0 := (z24.cell (p := ⟨w.heap.size, 0, none⟩) (by simp only []; omega)).trans bp0_0
  replace bp0_1 := (z24.cell (p := ⟨w.heap.size, 1, none⟩) (by simp only []; omega)).trans bp0_1
  replace bp0_2 := (z24.cell (p := ⟨w.heap.size, 2, none⟩) (by simp only []; omega)).trans bp0_2
  replace by0_0 := (z24.cell (p := ⟨w6.heap.size, 0, none⟩) (by simp only []; omega)).trans by0_0
  replace by0_1 := (z24.cell (p := ⟨w6.heap.size, 1, none⟩) (by simp only []; omega)).trans by0_1
  replace by0_2 := (z24.cell (p := ⟨w6.heap.size, 2, none⟩) (by simp only []; omega)).trans by0_2
  go_wp2_with fail
  refine (eq_II _ _ _ _ _ (H0.rd reads_II) (W0.rd reads_II)).mono ?_
  rintro e w25 ⟨rfl, z25⟩
  have s25 := z25.size
  have hb25 := on hb24 z25
  replace W0 := W0.below z25 (by omega)
  replace W1 := W1.below z25 (by omega)
  replace M0 := M0.below z25 (by omega)
  replace M1 := M1.below z25 (by omega)
  replace p0 := p0.below z25 (by omega)
  replace p1 := p1.below z25 (by omega)
  replace H0 := H0.below z25 (by omega)
  replace H1 := H1.below z25 (by omega)
  replace bp0_0 := (z25.cell (p := ⟨w.heap.size, 0, none⟩) (by simp only []; omega)).trans bp0_0
  replace bp0_1 := (z25.cell (p := ⟨w.heap.size, 1, none⟩) (by simp only []; omega)).trans bp0_1
  replace bp0_2 := (z25.cell (p := ⟨w.heap.size, 2, none⟩) (by simp only []; omega)).trans bp0_2
  replace by0_0 := (z25.cell (p := ⟨w6.heap.size, 0, none⟩) (by simp only []; omega)).trans by0_0
  replace by0_1 := (z25.cell (p := ⟨w6.heap.size, 1, none⟩) (by simp only []; omega)).trans by0_1
  replace by0_2 := (z25.cell (p := ⟨w6.heap.size, 2, none⟩) (by simp only []; omega)).trans by0_2
  go_wp2_with fail
  refine (eq_I _ _ _ _ _ (H1.rd reads_I) (W1.rd reads_I)).mono ?_
  rintro e w26 ⟨rfl, z26⟩
  replace z26 : Below w25.heap.size w25 w26 := z26.below _
  have s26 := z26.size
  have hb26 := on hb25 z26
  replace W0 := W0.below z26 (by omega)
  replace W1 := W1.below z26 (by omega)
  replace M0 := M0.below z26 (by omega)
  replace M1 := M1.below z26 (by omega)
  replace p0 := p0.below z26 (by omega)
  replace p1 := p1.below z26 (by omega)
  replace H0 := H0.below z26 (by omega)
  replace H1 := H1.below z26 (by omega)
  replace bp0_0 := (z26.cell (p := ⟨w.heap.size, 0, none⟩) (by simp only []; omega)).trans bp0_0
  replace bp0_1 := (z26.cell (p := ⟨w.heap.size, 1, none⟩) (by simp only []; omega)).trans bp0_1
  replace bp0_2 := (z26.cell (p := ⟨w.heap.size, 2, none⟩) (by simp only []; omega)).trans bp0_2
  replace by0_0 := (z26.cell (p := ⟨w6.heap.size, 0, none⟩) (by simp only []; omega)).trans by0_0
  replace by0_1 := (z26.cell (p := ⟨w6.heap.size, 1, none⟩) (by simp only []; omega)).trans by0_1
  replace by0_2 := (z26.cell (p := ⟨w6.heap.size, 2, none⟩) (by simp only []; omega)).trans by0_2
  go_wp2_with fail
  refine (held_II _ _ (1) _ (M0.rd reads_II) (by omega) (by omega) (by omega)).mono ?_
  rintro e w' ⟨rfl, rfl⟩
  go_wp2_with fail
  refine (held_I _ _ (_) _ (M1.rd reads_I) (by omega) (by omega)).mono ?_
  rintro e w' ⟨rfl, rfl⟩
  go_wp2_with fail
  go_ret
  exact ⟨rfl, hb26⟩

end Go.Proofs.Ytbkoddikfpkocaa
