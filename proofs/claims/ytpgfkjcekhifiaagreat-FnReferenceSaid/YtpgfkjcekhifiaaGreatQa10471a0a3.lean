/- Texts joined for one claim: EvalI, EvalQ, EvalR, RefQ, Sizes. -/
import Derived.Test.YtpgfkjcekhifiaaGreatQe819c45158
import Derived.Test.YtpgfkjcekhifiaaGreatQad766b37ad
import Derived.Test.YtpgfkjcekhifiaaGreatQ94813783a4
import Derived.Test.YtpgfkjcekhifiaaGreatQ53ae14c1bb
import Derived.Test.YtpgfkjcekhifiaaGreatQ0e2b3192e1
import Derived.Test.YtpgfkjcekhifiaaGreatQ85d3a9a442
import Derived.Test.YtpgfkjcekhifiaaGreatQ52736f1836
import Derived.Test.YtpgfkjcekhifiaaGreatQf23f699c62
import Derived.Test.YtpgfkjcekhifiaaGreatQ22cca73baf
import Derived.Deep.RegionHeld3

namespace Go.Proofs.YtpgfkjcekhifiaaGreat

open Go.RowKit

set_option linter.unusedVariables false

set_option linter.unusedSimpArgs false

set_option synthInstance.maxSize 2000

set_option synthInstance.maxHeartbeats 400000

theorem own_rowE {lo hi n : Nat} {w : World} {v : Value} {xs : List Int} (h : Own oI lo hi w [v] xs) (hn : xs.length = n) (hpos : 0 < n) : ∃ g cap, v = .slice (some ⟨g, 0, none⟩) n cap ∧ OwnInts lo w (.slice (some ⟨g, 0, none⟩) n cap) n xs ∧ lo ≤ g ∧ g < hi ∧ g < w.heap.size := by
  subst hn
  obtain ⟨fp, hrep, hnd, hlim⟩ := h
  obtain ⟨a, cap, he, hO, hfp⟩ := oI_own hrep
  simp at he
  subst he
  rcases hO.row.2 with ⟨h1, h2⟩ | ⟨g, cap', cur, h1, h2, h3, h4⟩
  · omega
  · simp at h1
    obtain ⟨rfl, rfl⟩ := h1
    have hg := hlim g (by rw [hfp]; simp [bl, Value.ownBlock])
    refine ⟨g, cap, rfl, ⟨hO.len, ⟨hO.row.1, .inr ⟨g, cap, cur, rfl, hg.1, h3, h4⟩⟩, hO.rng⟩, hg.1, hg.2, (Array.getElem?_eq_some_iff.1 h3).1⟩

theorem map_set_int (xs : List Int) (i : Nat) (u : Int) : (xs.set i u).map (Value.int .i64) = (xs.map (Value.int .i64)).set i (.int .i64 u) := by
  rw [List.map_set]

theorem OwnInts.put {B : Nat} {w : World} {g n cap c : Nat} {xs : List Int} {u : Int} (h : OwnInts B w (.slice (some ⟨g, 0, none⟩) n cap) n xs) (hc : c < n) (hu : I64 u) : OwnInts B (w.setCell ⟨g, c, none⟩ (.int .i64 u)) (.slice (some ⟨g, 0, none⟩) n cap) n (xs.set c u) := by
  refine ⟨by rw [List.length_set]; exact h.len, ?_, fun x hx => ?_⟩
  · rcases h.row.2 with ⟨h1, _⟩ | ⟨g', cap', cur, h1, h2, h3, h4, h5, h6, h7⟩
    · simp at h1
    · simp at h1
      obtain ⟨rfl, rfl⟩ := h1
      refine ⟨by simp [h.len], .inr ⟨g, cap, cur.setIfInBounds c (.int .i64 u), rfl, h2, heap_setCell_same w g c cur _ _ h3, h4, h5, by simpa using h6, ?_⟩⟩
      rw [Array.toList_setIfInBounds, map_set_int, ← h7]
      rw [List.take_set]
  · rcases List.mem_or_eq_of_mem_set hx with hx | rfl
    · exact h.rng x hx
    · exact hu

theorem Acc.apart {α : Type} {E : TypeId} {o : OS α} {lo S hi g : Nat} {w w' : World} {v : Value} {xs : List α} (h : Acc E o lo S hi w v xs) (ht : Turn g (g + 1) w w') (hg : hi ≤ g) (hh : hi ≤ w.heap.size) : Acc E o lo S hi w' v xs := by
  obtain ⟨fp, h3, h4, h5⟩ := h
  exact ⟨fp, (O.slice E o).frame h3 (fun k hk => ht.block k (by have := (h5 k hk).2; omega) (by have := (h5 k hk).2; omega)), h4, h5⟩

theorem OwnInts.cellAt {B : Nat} {w : World} {g n cap c : Nat} {xs : List Int} (h : OwnInts B w (.slice (some ⟨g, 0, none⟩) n cap) n xs) (hc : c < n) : w.cell? ⟨g, c, none⟩ = some (.int .i64 (xs.getD c 0)) ∧ w.frozen? ⟨g, c, none⟩ = false := by
  obtain ⟨g2, hg, _, h1, h2⟩ := own_cells h.row c hc
  simp at hg
  subst hg
  refine ⟨?_, h2⟩
  rw [h1, List.getElem?_map, List.getD_eq_getElem?_getD, List.getElem?_eq_getElem (by rw [h.len]; exact hc)]
  rfl

theorem Turn.apart {lo g : Nat} {a b c : World} (h : Turn lo (lo + 1) a b) (k : Turn g (g + 1) b c) (hg : a.heap.size ≤ g) : Turn lo (lo + 1) a c :=
  ⟨k.os.trans h.os, k.tape.trans h.tape, k.output.trans h.output, Nat.le_trans h.size k.size, fun i hi hx => (k.block i (by have := h.size; omega) (.inl (by omega))).trans (h.block i hi hx)⟩

theorem OwnInts.turnIn {B : Nat} {w : World} {v : Value} {n : Nat} {xs : List Int} (h : OwnInts B w v n xs) (m : Nat) : OwnInts B (w.drewN m) v n xs := h.below (Drew.below ⟨m, rfl⟩ _)

theorem ownT_rows9 {lo hi vn vc : Nat} {w : World} {ns : ByteArray} {A : Int} {vb : Option Addr} {r : List (List Int)} (h : Own oT lo hi w [.string ns, .int .i64 A, .slice vb vn vc] (ns, A, r)) : Sl rI w vb vn r := by
  obtain ⟨vb2, vn2, vc2, he9, _, _, gr⟩ := rT_open (h.rd reads_T)
  simp at he9
  obtain ⟨rfl, rfl, rfl⟩ := he9
  exact rS_sl gr

set_option maxRecDepth 100000 in
set_option maxHeartbeats 8000000 in
theorem evaluate_any (cs ds : List Value) (db : DDb) (x : DQ) (K n : Nat) (w : World) (h : rDb.rep w cs db) (h' : rQ.rep w ds x) (hf : queryFor db x = true) (hq : QOk x n) (hK : K < 2 ^ x.2.length) :
    Calls Tryz.prog 28 #[.agg cs.toArray, .agg ds.toArray, .int .i64 (K : Int)] w fun e w' => ∃ us, e = .returned (.agg us.toArray) ∧ Own oAn w.heap.size w'.heap.size w' us (evalK db x K) ∧ Below w.heap.size w w' := by
  have hK16 : K < 16 := by
    have := Nat.pow_le_pow_right (show 0 < 2 by omega) hq.len
    omega
  have HVA := Lib.hid (fun W (hW : Below w.heap.size w W) => variables_any ds x K n W (rQ.mono h' hW) hq hK16)
  obtain ⟨ub, un, uc, rfl, g1⟩ := rDb_open h
  obtain ⟨qb, qn, qc, rfl, hi2, gq⟩ := rQ_open h'
  have HCK := Lib.hid (fun name W (hW : Below w.heap.size w W) => lookI_any [.slice ub un uc] db name W (rDb.mono h hW))
  have HONE := Lib.hid (eval_one (K := K) hf hq)
  have HJF := Lib.hid (fun j (hj : j ≤ 4) => joinTo_facts hf hq K hj)
  have HALL := Lib.hid (raTo_all db x K)
  have HFA := Lib.hid (fun a (ha : a ∈ x.2) => atom_fine hf hq ha)
  have HFT := Lib.hid (fun a (ha : a ∈ x.2) => (atom_fits hf ha).1)
  have HVL := Lib.hid (fun a (ha : a ∈ x.2) => hq.vlen a ha)
  obtain ⟨V, hV⟩ : ∃ V, varsOf x K = V := ⟨_, rfl⟩
  have hV4 : V.length ≤ 4 := by rw [← hV]; exact varsOf_len x K
  obtain ⟨E, hE⟩ : ∃ E, evalK db x K = E := ⟨_, rfl⟩
  have HE1 : Hid (E.1 = V) := Lib.hid (by rw [← hE, ← hV]; rfl)
  rw [hV, hE] at HONE
  rw [hV] at HVA
  rw [hE]
  have hn1 := hq.pos
  have hn4 := hq.le
  have hql := hq.len
  have hc9 := hq.cnt
  obtain ⟨vq, xs⟩ := x
  simp only at hc9 hi2 gq HVA HJF HALL HFA HFT HVL hql
  subst hc9
  have t0 := rS_sl gq
  have hl := t0.len
  have hnn := t0.small
  have hqn4 : qn ≤ 4 := by omega
  rw [hl] at HALL
  clear h h' hf hq hK g1 gq hV hE hl hql
  have hb0 : Below w.heap.size w w := Below.refl _ _
  go_enter Tryz.func28, Tryz.ntmps28
  obtain ⟨w1, hw1⟩ : ∃ W, W = w.alloc (.cells #[.slice ub un uc] 26) := ⟨_, rfl⟩
  have z1 : Below w.heap.size w w1 := by rw [hw1]; exact (Below.refl _ _).alloc (Nat.le_refl _) _
  have s1 : w1.heap.size = w.heap.size + 1 := by rw [hw1]; simp
  have hb1 := on hb0 z1
  have b_0 : w1.cell? ⟨w.heap.size, 0, none⟩ = some (.slice ub un uc) := by rw [hw1]; exact box_cell (Below.refl _ _) rfl
  have raw1_b_0 := b_0
  rw [hw1] at raw1_b_0
  obtain ⟨w2, hw2⟩ : ∃ W, W = w1.alloc (.cells #[.int .i64 (n : Int), .slice qb qn qc] 29) := ⟨_, rfl⟩
  have z2 : Below w1.heap.size w1 w2 := by rw [hw2]; exact (Below.refl _ _).alloc (Nat.le_refl _) _
  have s2 : w2.heap.size = w1.heap.size + 1 := by rw [hw2]; simp
  have hb2 := on hb1 z2
  replace b_0 := bxc z2 b_0
  have e2 : w1.heap.size = w.heap.size + 1 := by omega
  have q_0 : w2.cell? ⟨w1.heap.size, 0, none⟩ = some (.int .i64 (n : Int)) := by rw [hw2]; exact box_cell (Below.refl _ _) rfl
  have q_1 : w2.cell? ⟨w1.heap.size, 1, none⟩ = some (.slice qb qn qc) := by rw [hw2]; exact box_cell (Below.refl _ _) rfl
  rw [e2] at q_0 q_1
  have raw2_b_0 := b_0
  have raw2_q_0 := q_0
  have raw2_q_1 := q_1
  rw [hw2, hw1] at raw2_b_0 raw2_q_0 raw2_q_1
  obtain ⟨w3, hw3⟩ : ∃ W, W = w2.alloc (.cells #[.slice none 0 0, .slice none 0 0] 35) := ⟨_, rfl⟩
  have z3 : Below w2.heap.size w2 w3 := by rw [hw3]; exact (Below.refl _ _).alloc (Nat.le_refl _) _
  have s3 : w3.heap.size = w2.heap.size + 1 := by rw [hw3]; simp
  have hb3 := on hb2 z3
  replace b_0 := bxc z3 b_0
  replace q_0 := bxc z3 q_0
  replace q_1 := bxc z3 q_1
  have e3 : w2.heap.size = w.heap.size + 1 + 1 := by omega
  have r_0 : w3.cell? ⟨w2.heap.size, 0, none⟩ = some (.slice none 0 0) := by rw [hw3]; exact box_cell (Below.refl _ _) rfl
  have r_1 : w3.cell? ⟨w2.heap.size, 1, none⟩ = some (.slice none 0 0) := by rw [hw3]; exact box_cell (Below.refl _ _) rfl
  rw [e3] at r_0 r_1
  have r_f0 : w3.frozen? ⟨w2.heap.size, 0, none⟩ = false := by rw [hw3]; exact box_frozen (Below.refl _ _)
  have r_f1 : w3.frozen? ⟨w2.heap.size, 1, none⟩ = false := by rw [hw3]; exact box_frozen (Below.refl _ _)
  rw [e3] at r_f0 r_f1
  have raw3_b_0 := b_0
  have raw3_q_0 := q_0
  have raw3_q_1 := q_1
  have raw3_r_0 := r_0
  have raw3_r_1 := r_1
  rw [hw3, hw2, hw1] at raw3_b_0 raw3_q_0 raw3_q_1 raw3_r_0 raw3_r_1
  go_wp2_with fail
  rw [← hw1]
  rw [← hw2]
  rw [← hw3]
  clear hw3 hw2 hw1
  clear raw1_b_0 raw2_b_0 raw2_q_0 raw2_q_1 raw3_b_0 raw3_q_0 raw3_q_1 raw3_r_0 raw3_r_1
  refine (HVA.out _ hb3).mono ?_
  rintro e w4 ⟨u4, rfl, ov, z4⟩
  obtain ⟨vb, vn, vc, rfl⟩ := oI_form1 ov
  have s4 := z4.size
  have hb4 := on hb3 z4
  replace b_0 := bxc z4 b_0
  replace q_0 := bxc z4 q_0
  replace q_1 := bxc z4 q_1
  replace r_0 := bxc z4 r_0
  replace r_1 := bxc z4 r_1
  replace r_f0 := bxf z4 r_f0
  replace r_f1 := bxf z4 r_f1
  obtain ⟨w5, hw5⟩ : ∃ W, W = w4.alloc (.cells #[.int .i64 (-1)] 3) := ⟨_, rfl⟩
  have z5 : Below w4.heap.size w4 w5 := by rw [hw5]; exact (Below.refl _ _).alloc (Nat.le_refl _) _
  have s5 : w5.heap.size = w4.heap.size + 1 := by rw [hw5]; simp
  have hb5 := on hb4 z5
  have old5_b_0 := b_0
  have old5_q_0 := q_0
  have old5_q_1 := q_1
  have old5_r_0 := r_0
  have old5_r_1 := r_1
  replace b_0 := bxc z5 b_0
  replace q_0 := bxc z5 q_0
  replace q_1 := bxc z5 q_1
  replace r_0 := bxc z5 r_0
  replace r_1 := bxc z5 r_1
  replace r_f0 := bxf z5 r_f0
  replace r_f1 := bxf z5 r_f1
  replace ov := ov.below z5 (by omega)
  have m_0 : w5.cell? ⟨w4.heap.size, 0, none⟩ = some (.int .i64 (-1)) := by rw [hw5]; exact box_cell (Below.refl _ _) rfl
  have raw5_b_0 := b_0
  have raw5_q_0 := q_0
  have raw5_q_1 := q_1
  have raw5_r_0 := r_0
  have raw5_r_1 := r_1
  have raw5_m_0 := m_0
  rw [hw5] at raw5_b_0 raw5_q_0 raw5_q_1 raw5_r_0 raw5_r_1 raw5_m_0
  go_wp2_with fail
  rw [← hw5]
  clear hw5
  clear old5_b_0 old5_q_0 old5_q_1 old5_r_0 old5_r_1 raw5_b_0 raw5_q_0 raw5_q_1 raw5_r_0 raw5_r_1 raw5_m_0
  refine (repeat_any _ n (-1) _ hn1 hn4 ⟨by omega, by omega⟩ m_0).mono ?_
  rintro e w5 ⟨xb, xn, xc, rfl, ox, z5⟩
  have s6 := z5.size
  have hb6 := on hb5 z5
  replace b_0 := bxc z5 b_0
  replace q_0 := bxc z5 q_0
  replace q_1 := bxc z5 q_1
  replace r_0 := bxc z5 r_0
  replace r_1 := bxc z5 r_1
  replace r_f0 := bxf z5 r_f0
  replace r_f1 := bxf z5 r_f1
  replace ov := ov.below z5 (by omega)
  replace m_0 := bxc z5 m_0
  clear m_0
  have hlw5 : w4.heap.size ≤ w5.heap.size := by omega
  obtain ⟨w7, hw7⟩ : ∃ W, W = w5.alloc (.cells #[.slice xb xn xc] 32) := ⟨_, rfl⟩
  have z7 : Below w5.heap.size w5 w7 := by rw [hw7]; exact (Below.refl _ _).alloc (Nat.le_refl _) _
  have s7 : w7.heap.size = w5.heap.size + 1 := by rw [hw7]; simp
  have hb7 := on hb6 z7
  have old7_b_0 := b_0
  have old7_q_0 := q_0
  have old7_q_1 := q_1
  have old7_r_0 := r_0
  have old7_r_1 := r_1
  replace b_0 := bxc z7 b_0
  replace q_0 := bxc z7 q_0
  replace q_1 := bxc z7 q_1
  replace r_0 := bxc z7 r_0
  replace r_1 := bxc z7 r_1
  replace r_f0 := bxf z7 r_f0
  replace r_f1 := bxf z7 r_f1
  replace ov := ov.below z7 (by omega)
  have l_0 : w7.cell? ⟨w5.heap.size, 0, none⟩ = some (.slice xb xn xc) := by rw [hw7]; exact box_cell (Below.refl _ _) rfl
  have raw7_b_0 := b_0
  have raw7_q_0 := q_0
  have raw7_q_1 := q_1
  have raw7_r_0 := r_0
  have raw7_r_1 := r_1
  have raw7_l_0 := l_0
  rw [hw7] at raw7_b_0 raw7_q_0 raw7_q_1 raw7_r_0 raw7_r_1 raw7_l_0
  have olist : Own oII w4.heap.size w7.heap.size w7 [.slice (some ⟨w5.heap.size, 0, none⟩) 1 1] [List.replicate n (-1)] := by
    rw [show w7 = w5.alloc (.cells #[.slice xb xn xc] 32) from by assumption]
    exact own_oneII (ox.mono (by omega) (Nat.le_refl _)) (Nat.le_refl _) hlw5
  clear ox
  clear l_0
  go_wp2_with fail
  rw [← hw7]
  clear hw7
  clear old7_b_0 old7_q_0 old7_q_1 old7_r_0 old7_r_1 raw7_b_0 raw7_q_0 raw7_q_1 raw7_r_0 raw7_r_1 raw7_l_0
  have hJ0 : joinAll n (raTo db xs K 0) = [List.replicate n (-1)] := rfl
  go_loopw [8, 38] (fun v k wr => ∃ (j : Nat) (lb : Option Addr) (ln lc : Nat), j ≤ qn ∧ k = .int .i64 j ∧ v = .slice lb ln lc ∧ Own oII w4.heap.size wr.heap.size wr [.slice lb ln lc] (joinAll n (raTo db xs K j)) ∧ Below w7.heap.size w7 wr) (fun _ k _ => qn - (intOf k).toNat)
  case atStart => exact ⟨0, _, _, _, Nat.zero_le _, rfl, rfl, by rw [hJ0]; exact olist, Below.refl _ _⟩
  case round =>
    obtain ⟨j, lb, ln, lc, hj, rfl, rfl, oL, hlc⟩ := hrel
    clear olist hJ0
    have hdr := hlc
    have s8 := hdr.size
    have hb8 := on hb7 hdr
    replace b_0 := bxc hdr b_0
    replace q_0 := bxc hdr q_0
    replace q_1 := bxc hdr q_1
    replace r_0 := bxc hdr r_0
    replace r_1 := bxc hdr r_1
    replace r_f0 := bxf hdr r_f0
    replace r_f1 := bxf hdr r_f1
    replace ov := ov.below hdr (by omega)
    obtain ⟨wl, rfl⟩ : ∃ W, W = wr := ⟨_, rfl⟩
    have hT1 : Below wl.heap.size wl wl := Below.refl _ _
    obtain ⟨hjl, hjr⟩ := HJF.out j (by omega)
    obtain ⟨l, hl9⟩ : ∃ l, joinAll n (raTo db xs K j) = l := ⟨_, rfl⟩
    rw [hl9] at oL hjl hjr
    have HL9 := Lib.hid hl9
    have t1 := rS_sl (oL.rd reads_II)
    have hln := t1.len
    have hlns := t1.small
    clear hl9
    by_cases hlt : j < qn
    · obtain ⟨b1, o1, cs, a, rfl, hx, hr, hc⟩ := t0.at hlt
      obtain ⟨m1, vs⟩ := a
      obtain ⟨ab, an, ac, rfl, hs, gv⟩ := rA_open hr
      have iv := rI_ints gv
      have hvl := iv.len
      have hms := List.mem_of_getElem? hx.out
      have hfa := HFA.out _ hms
      have hft := HFT.out _ hms
      have hv3 := HVL.out _ hms
      have HX := Lib.hid hx.out
      have e_lt : b1 < w.heap.size := cell_lt (hc 0 _ rfl)
      have e_0 : wl.cell? ⟨b1, o1 + j * 2, none⟩ = some (.string m1) := (hb8.cell (p := ⟨b1, o1 + j * 2, none⟩) e_lt).trans (by have h9 := hc 0 _ rfl; rw [← Nat.add_assoc] at h9; exact h9)
      have e_1 : wl.cell? ⟨b1, o1 + j * 2 + 1, none⟩ = some (.slice ab an ac) := (hb8.cell (p := ⟨b1, o1 + j * 2 + 1, none⟩) e_lt).trans (by have h9 := hc 1 _ rfl; rw [← Nat.add_assoc] at h9; exact h9)
      have hbt := bit_test0 K j (by omega)
      obtain ⟨bb, hbb⟩ : ∃ bb, bitAt K j = bb := ⟨_, rfl⟩
      rw [hbb] at hbt
      have HBB := Lib.hid hbb
      obtain ⟨w9, hw9⟩ : ∃ W, W = wl.alloc (.cells #[.string m1, .slice ab an ac] 48) := ⟨_, rfl⟩
      have z9 : Below wl.heap.size wl w9 := by rw [hw9]; exact (Below.refl _ _).alloc (Nat.le_refl _) _
      have s9 : w9.heap.size = wl.heap.size + 1 := by rw [hw9]; simp
      have hb9 := on hb8 z9
      have old9_b_0 := b_0
      have old9_q_0 := q_0
      have old9_q_1 := q_1
      have old9_r_0 := r_0
      have old9_r_1 := r_1
      have old9_e_0 := e_0
      have old9_e_1 := e_1
      replace b_0 := bxc z9 b_0
      replace q_0 := bxc z9 q_0
      replace q_1 := bxc z9 q_1
      replace r_0 := bxc z9 r_0
      replace r_1 := bxc z9 r_1
      replace r_f0 := bxf z9 r_f0
      replace r_f1 := bxf z9 r_f1
      replace ov := ov.below z9 (by omega)
      replace hlc := on hlc z9
      replace hT1 := on hT1 z9
      replace oL := oL.below z9 (by omega)
      replace e_0 := bxc z9 e_0
      replace e_1 := bxc z9 e_1
      have a_0 : w9.cell? ⟨wl.heap.size, 0, none⟩ = some (.string m1) := by rw [hw9]; exact box_cell (Below.refl _ _) rfl
      have a_1 : w9.cell? ⟨wl.heap.size, 1, none⟩ = some (.slice ab an ac) := by rw [hw9]; exact box_cell (Below.refl _ _) rfl
      have raw9_b_0 := b_0
      have raw9_q_0 := q_0
      have raw9_q_1 := q_1
      have raw9_r_0 := r_0
      have raw9_r_1 := r_1
      have raw9_e_0 := e_0
      have raw9_e_1 := e_1
      have raw9_a_0 := a_0
      have raw9_a_1 := a_1
      rw [hw9] at raw9_b_0 raw9_q_0 raw9_q_1 raw9_r_0 raw9_r_1 raw9_e_0 raw9_e_1 raw9_a_0 raw9_a_1
      have hj64 : (j : Int) < 64 := by omega
      simp only at hs gv hfa hft hv3 hvl
      clear hc hx hr gv hbb hms
      cases bb with
      | false =>
        have HN : Hid (joinAll n (raTo db xs K (j + 1)) = l) := Lib.hid (by rw [raTo_no HBB.out, HL9.out])
        go_wp2_with fail
        rw [← hw9]
        clear hw9
        clear old9_b_0 old9_q_0 old9_q_1 old9_r_0 old9_r_1 old9_e_0 old9_e_1 raw9_b_0 raw9_q_0 raw9_q_1 raw9_r_0 raw9_r_1 raw9_e_0 raw9_e_1 raw9_a_0 raw9_a_1
        have HO := Lib.hid oL
        clear oL
        go_roundw
        case rel => exact ⟨j + 1, lb, ln, lc, by omega, by go_num, rfl, by rw [HN.out]; exact HO.out.mono (Nat.le_refl _) (by omega), hlc⟩
        case measure => simp [intOf]; omega
      | true =>
        have HN : Hid (joinAll n (raTo db xs K (j + 1)) = joinL ((lookT (look db m1)).2.2, vs) l) := Lib.hid (by rw [raTo_yes HX.out HBB.out, joinAll_snoc, HL9.out])
        have hc1 := fun W (hW : Below w.heap.size w W) => HCK.out m1 W hW
        obtain ⟨t, ht⟩ : ∃ t, lookT (look db m1) = t := ⟨_, rfl⟩
        obtain ⟨so, hso⟩ : ∃ so, (look db m1).isSome = so := ⟨_, rfl⟩
        simp only [ht, hso] at hc1
        rw [ht] at hfa hft HN
        have hrl := hft.len
        have HROW := Lib.hid hfa.row
        have HPLACE := Lib.hid (fun k (hk : k < vs.length) => hfa.place hk)
        obtain ⟨ns, A, r1⟩ := t
        simp only at hrl HROW HPLACE HN
        have HC1 := Lib.hid hc1
        clear hc1 ht hso hfa hft
        go_wp2_with fail
        rw [← hw9]
        clear hw9
        clear old9_b_0 old9_q_0 old9_q_1 old9_r_0 old9_r_1 old9_e_0 old9_e_1 raw9_b_0 raw9_q_0 raw9_q_1 raw9_r_0 raw9_r_1 raw9_e_0 raw9_e_1 raw9_a_0 raw9_a_1
        refine (HC1.out _ hb9).mono ?_
        rintro e wt ⟨tb, tn, tc, rfl, oT9, zt⟩
        have s10 := zt.size
        have hb10 := on hb9 zt
        replace b_0 := bxc zt b_0
        replace q_0 := bxc zt q_0
        replace q_1 := bxc zt q_1
        replace r_0 := bxc zt r_0
        replace r_1 := bxc zt r_1
        replace r_f0 := bxf zt r_f0
        replace r_f1 := bxf zt r_f1
        replace ov := ov.below zt (by omega)
        replace hlc := on hlc zt
        replace hT1 := on hT1 zt
        replace oL := oL.below zt (by omega)
        replace e_0 := bxc zt e_0
        replace e_1 := bxc zt e_1
        replace a_0 := bxc zt a_0
        replace a_1 := bxc zt a_1
        have t2 := ownT_rows9 oT9
        have htl := t2.len
        have htn8 : tn ≤ 8 := by omega
        obtain ⟨w11, hw11⟩ : ∃ W, W = wt.alloc (.cells #[.string ns, .int .i64 A, .slice tb tn tc] 44) := ⟨_, rfl⟩
        have z11 : Below wt.heap.size wt w11 := by rw [hw11]; exact (Below.refl _ _).alloc (Nat.le_refl _) _
        have s11 : w11.heap.size = wt.heap.size + 1 := by rw [hw11]; simp
        have hb11 := on hb10 z11
        have old11_b_0 := b_0
        have old11_q_0 := q_0
        have old11_q_1 := q_1
        have old11_r_0 := r_0
        have old11_r_1 := r_1
        have old11_e_0 := e_0
        have old11_e_1 := e_1
        have old11_a_0 := a_0
        have old11_a_1 := a_1
        replace b_0 := bxc z11 b_0
        replace q_0 := bxc z11 q_0
        replace q_1 := bxc z11 q_1
        replace r_0 := bxc z11 r_0
        replace r_1 := bxc z11 r_1
        replace r_f0 := bxf z11 r_f0
        replace r_f1 := bxf z11 r_f1
        replace ov := ov.below z11 (by omega)
        replace hlc := on hlc z11
        replace hT1 := on hT1 z11
        replace oL := oL.below z11 (by omega)
        replace e_0 := bxc z11 e_0
        replace e_1 := bxc z11 e_1
        replace a_0 := bxc z11 a_0
        replace a_1 := bxc z11 a_1
        have t_0 : w11.cell? ⟨wt.heap.size, 0, none⟩ = some (.string ns) := by rw [hw11]; exact box_cell (Below.refl _ _) rfl
        have t_1 : w11.cell? ⟨wt.heap.size, 1, none⟩ = some (.int .i64 A) := by rw [hw11]; exact box_cell (Below.refl _ _) rfl
        have t_2 : w11.cell? ⟨wt.heap.size, 2, none⟩ = some (.slice tb tn tc) := by rw [hw11]; exact box_cell (Below.refl _ _) rfl
        have raw11_b_0 := b_0
        have raw11_q_0 := q_0
        have raw11_q_1 := q_1
        have raw11_r_0 := r_0
        have raw11_r_1 := r_1
        have raw11_e_0 := e_0
        have raw11_e_1 := e_1
        have raw11_a_0 := a_0
        have raw11_a_1 := a_1
        have raw11_t_0 := t_0
        have raw11_t_1 := t_1
        have raw11_t_2 := t_2
        rw [hw11] at raw11_b_0 raw11_q_0 raw11_q_1 raw11_r_0 raw11_r_1 raw11_e_0 raw11_e_1 raw11_a_0 raw11_a_1 raw11_t_0 raw11_t_1 raw11_t_2
        have hT2 : Below wt.heap.size wt w11 := by
          rw [show w11 = wt.alloc (.cells #[.string ns, .int .i64 A, .slice tb tn tc] 44) from by assumption]
          exact (Below.refl _ _).alloc (Nat.le_refl _) _
        clear oT9 HC1
        obtain ⟨w12, hw12⟩ : ∃ W, W = w11.alloc (.cells #[] 32) := ⟨_, rfl⟩
        have z12 : Below w11.heap.size w11 w12 := by rw [hw12]; exact (Below.refl _ _).alloc (Nat.le_refl _) _
        have s12 : w12.heap.size = w11.heap.size + 1 := by rw [hw12]; simp
        have hb12 := on hb11 z12
        replace b_0 := bxc z12 b_0
        replace q_0 := bxc z12 q_0
        replace q_1 := bxc z12 q_1
        replace r_0 := bxc z12 r_0
        replace r_1 := bxc z12 r_1
        replace r_f0 := bxf z12 r_f0
        replace r_f1 := bxf z12 r_f1
        replace ov := ov.below z12 (by omega)
        replace hlc := on hlc z12
        replace hT1 := on hT1 z12
        replace oL := oL.below z12 (by omega)
        replace e_0 := bxc z12 e_0
        replace e_1 := bxc z12 e_1
        replace a_0 := bxc z12 a_0
        replace a_1 := bxc z12 a_1
        replace t_0 := bxc z12 t_0
        replace t_1 := bxc z12 t_1
        replace t_2 := bxc z12 t_2
        replace hT2 := on hT2 z12
        have hnx : ∀ S, Acc 32 oI w11.heap.size S w12.heap.size w12 (.slice (some ⟨wt.heap.size + 1, 0, none⟩) 0 0) [] := fun S => by rw [hw12]; exact Acc.empty (by omega) (by first | (simp; done) | (simp; omega))
        have raw12_b_0 := b_0
        have raw12_q_0 := q_0
        have raw12_q_1 := q_1
        have raw12_r_0 := r_0
        have raw12_r_1 := r_1
        have raw12_e_0 := e_0
        have raw12_e_1 := e_1
        have raw12_a_0 := a_0
        have raw12_a_1 := a_1
        have raw12_t_0 := t_0
        have raw12_t_1 := t_1
        have raw12_t_2 := t_2
        rw [hw12, hw11] at raw12_b_0 raw12_q_0 raw12_q_1 raw12_r_0 raw12_r_1 raw12_e_0 raw12_e_1 raw12_a_0 raw12_a_1 raw12_t_0 raw12_t_1 raw12_t_2
        go_wp2_with fail
        rw [← hw11]
        rw [← hw12]
        clear hw12 hw11
        clear old11_b_0 old11_q_0 old11_q_1 old11_r_0 old11_r_1 old11_e_0 old11_e_1 old11_a_0 old11_a_1 raw11_b_0 raw11_q_0 raw11_q_1 raw11_r_0 raw11_r_1 raw11_e_0 raw11_e_1 raw11_a_0 raw11_a_1 raw11_t_0 raw11_t_1 raw11_t_2 raw12_b_0 raw12_q_0 raw12_q_1 raw12_r_0 raw12_r_1 raw12_e_0 raw12_e_1 raw12_a_0 raw12_a_1 raw12_t_0 raw12_t_1 raw12_t_2
        have c_a_1 := a_1
        have c_hT1 := hT1
        have c_hT2 := hT2
        have hlc2 := hlc
        have hlW2 : w11.heap.size < w12.heap.size := by omega
        have htlo : wt.heap.size < w11.heap.size := by omega
        have hllo : wl.heap.size < w11.heap.size := by omega
        go_loopw [13, 58] (fun v k wr => ∃ i : Nat, i ≤ ln ∧ k = .int .i64 i ∧ Acc 32 oI w11.heap.size w12.heap.size wr.heap.size wr v (joinL (r1, vs) (l.take i)) ∧ Turn w11.heap.size (w11.heap.size + 1) w12 wr) (fun _ k _ => ln - (intOf k).toNat)
        case atStart => exact ⟨0, Nat.zero_le _, rfl, by rw [List.take_zero]; exact (hnx _).wide (Nat.le_refl _) (by omega), turn_refl _ _ _⟩
        case round =>
          obtain ⟨i, hi, rfl, hacc, hdr2⟩ := hrel
          have ht3 := hdr2
          clear hnx
          clear hT1 hT2 hlc
          have s13 := hdr2.size
          have hb13 := hb12.trans ((hdr2.below (by omega)).mono (by omega))
          replace b_0 := txc hdr2 b_0
          replace q_0 := txc hdr2 q_0
          replace q_1 := txc hdr2 q_1
          replace r_0 := txc hdr2 r_0
          replace r_1 := txc hdr2 r_1
          replace r_f0 := txf hdr2 r_f0
          replace r_f1 := txf hdr2 r_f1
          replace ov := ov.turn hdr2 (by omega)
          replace oL := oL.turn hdr2 (by omega)
          replace e_0 := txc hdr2 e_0
          replace e_1 := txc hdr2 e_1
          replace a_0 := txc hdr2 a_0
          replace a_1 := txc hdr2 a_1
          replace t_0 := txc hdr2 t_0
          replace t_1 := txc hdr2 t_1
          replace t_2 := txc hdr2 t_2
          by_cases hlti : i < ln
          · obtain ⟨b5, o5, xb, xn, xc, y, rfl, hcy, hy, iy, hxc1, hxc2⟩ := t1.row hlti
            have hb5 : b5 < wl.heap.size := cell_lt hcy
            have hTo : Below wl.heap.size wl wr := c_hT1.trans ((ht3.below (by omega)).mono (by omega))
            have hyl : y.length = n := hjr y (List.mem_of_getElem? hy.out)
            have iyl := iy.len
            have c0 : wr.cell? ⟨b5, o5 + i, none⟩ = some (.slice xb xn xc) := (hTo.cell (p := ⟨b5, o5 + i, none⟩) hb5).trans hcy
            have HA2 := Lib.hid (joinL_at (p := (r1, vs)) hy.out)
            have hjl3 := joinL_len (r1, vs) (l.take i)
            have hti := List.length_take_le i l
            have hm8 : (l.take i).length * r1.length ≤ 4096 * 8 := Nat.mul_le_mul (by omega) (by omega)
            simp only at hjl3
            clear hcy hy hTo
            go_wp2_with fail
            go_loopw [13, 65] (fun v k wr => ∃ m : Nat, m ≤ tn ∧ k = .int .i64 m ∧ Acc 32 oI w11.heap.size w12.heap.size wr.heap.size wr v (joinL (r1, vs) (l.take i) ++ joinRows vs y (r1.take m)) ∧ Turn w11.heap.size (w11.heap.size + 1) w12 wr) (fun _ k _ => tn - (intOf k).toNat)
            case atStart => exact ⟨0, Nat.zero_le _, rfl, by rw [List.take_zero, show joinRows vs y [] = [] from rfl, List.append_nil]; exact hacc, ht3⟩
            case round =>
              obtain ⟨m, hm, rfl, hacc3, ht4⟩ := hrel
              clear hacc ov oL
              clear b_0 q_0 q_1 r_0 r_1 r_f0 r_f1 e_0 e_1 a_0 a_1 t_0 t_1 t_2 c0
              have hbm : Below w.heap.size w wr := (hb12).trans ((ht4.below (by omega)).mono (by omega))
              have h4s := ht4.size
              obtain ⟨wm, rfl⟩ : ∃ W, W = wr := ⟨_, rfl⟩
              obtain ⟨va, vn', vc', rfl⟩ := hacc3.form3
              have a_1 : wm.cell? ⟨wl.heap.size, 1, none⟩ = some (.slice ab an ac) := (ht4.cell (p := ⟨wl.heap.size, 1, none⟩) (by simp only []; omega) (by simp only []; omega)).trans c_a_1
              have hTm : Below wl.heap.size wl wm := c_hT1.trans ((ht4.below (by omega)).mono (by omega))
              have hTm2 : Below wt.heap.size wt wm := c_hT2.trans ((ht4.below (by omega)).mono (by omega))
              have hjr3 := joinRows_len vs y (r1.take m)
              have htm := List.length_take_le m r1
              by_cases hltm : m < tn
              · obtain ⟨b6, o6, yb, yn, yc, r, rfl, hcr, hr, ir, _⟩ := t2.row hltm
                have hb6 : b6 < wt.heap.size := cell_lt hcr
                have r0 : wm.cell? ⟨b6, o6 + m, none⟩ = some (.slice yb yn yc) := (hTm2.cell (p := ⟨b6, o6 + m, none⟩) hb6).trans hcr
                have hrl9 := (HROW.out r (List.mem_of_getElem? hr.out)).1
                have irl := ir.len
                have HRA := Lib.hid (joinRows_at (av := vs) (x := y) hr.out)
                have iym := iy.below hTm
                clear hcr hr
                go_wp2_with fail
                refine (copyInts_any (.slice xb xn xc) y _ (rS_mk iym.sl hxc1 hxc2) (by omega)).mono ?_
                rintro e w8 ⟨ux, rfl, ox, z8⟩
                obtain ⟨gx, cpx, rfl, ow, hgl, hgh, hgs⟩ := own_rowE ox hyl (by omega)
                have hacc8 := hacc3.below z8 (Nat.le_refl _)
                have ht8 := ht4.trans (turn_below z8 (by omega))
                have hT8 := on hTm2 z8
                have s14 := z8.size
                have hb14 := on hbm z8
                replace a_1 := bxc z8 a_1
                replace r0 := bxc z8 r0
                clear ox hacc3 iym
                go_wp2_with fail
                go_loopw [19, 74] (fun s k wr => ∃ (q : Nat) (b : Bool), q ≤ an ∧ k = .int .i64 q ∧ s = .bool b ∧ Hid (b = fillOk vs r q y) ∧ OwnInts wm.heap.size wr (.slice (some ⟨gx, 0, none⟩) n cpx) n (fillX vs r q y) ∧ Turn gx (gx + 1) w8 wr) (fun _ k _ => an - (intOf k).toNat)
                case atStart => exact ⟨0, true, Nat.zero_le _, rfl, rfl, rfl, ow, turn_refl _ _ _⟩
                case round =>
                  obtain ⟨q, b, hqn, rfl, rfl, hB, how, ht5⟩ := hrel
                  have hgt := ht5
                  clear ow
                  have s15 := ht5.size
                  have hb15 := hb14.trans ((ht5.below (by omega)).mono (by omega))
                  replace a_1 := txc ht5 a_1
                  replace r0 := txc ht5 r0
                  by_cases hltq : q < an
                  · obtain ⟨cv, hcv, hcn⟩ := HPLACE.out q (by omega)
                    obtain ⟨b7, o7, u, rfl, hcu, hu, hu1, hu2⟩ := iv.get hltq
                    obtain rfl : u = (cv : Int) := by rw [← hu.out, hcv]
                    have hb7 : b7 < w.heap.size := cell_lt hcu
                    have u0 : wr.cell? ⟨b7, o7 + q, none⟩ = some (.int .i64 (cv : Int)) := ((hb15).cell (p := ⟨b7, o7 + q, none⟩) hb7).trans hcu
                    obtain ⟨b8, o8, zv, rfl, hcz, hz, hz1, hz2⟩ := ir.get (show q < yn by omega)
                    have hb8 : b8 < wt.heap.size := cell_lt hcz
                    have z0 : wr.cell? ⟨b8, o8 + q, none⟩ = some (.int .i64 zv) := ((hT8.trans ((hgt.below (by omega)).mono (by omega))).cell (p := ⟨b8, o8 + q, none⟩) hb8).trans hcz
                    obtain ⟨g0, gf0⟩ := how.cellAt hcn
                    obtain ⟨g, hg⟩ : ∃ g, (fillX vs r q y).getD cv 0 = g := ⟨_, rfl⟩
                    rw [hg] at g0
                    have HNB : Hid (fillOk vs r (q + 1) y = (b && (decide (g = -1) || decide (g = zv)))) := Lib.hid (by rw [fillOk, ← hB.out, fillAt, hcv, hz.out, Int.toNat_natCast, hg])
                    have HNX : Hid (fillX vs r (q + 1) y = (fillX vs r q y).set cv zv) := Lib.hid (by rw [fillX, hcv, hz.out, Int.toNat_natCast])
                    have HOW := Lib.hid (fun m9 => (how.turnIn m9).put hcn (show I64 zv from ⟨hz1, hz2⟩))
                    have HTT := Lib.hid (fun m9 => (hgt.trans (turn_below (Drew.below ⟨m9, rfl⟩ wr.heap.size) (Nat.le_refl _)) : Turn gx (gx + 1) w8 (wr.drewN m9)).setIn (p := ⟨gx, cv, none⟩) (Nat.le_refl _) (Nat.lt_succ_self _) (.int .i64 zv))
                    have hcvn : (cv : Int) < (n : Int) := by omega
                    have hqyn : (q : Int) < (yn : Int) := by omega
                    clear hcu hu hcv hcz hz how hB hg hgt ht5
                    cases b with
                    | false =>
                      have HN : Hid (false = fillOk vs r (q + 1) y) := Lib.hid (by rw [HNB.out]; rfl)
                      clear HNB
                      go_wp2_with fail
                      go_quiet (fail)
                      go_wp2_with fail
                      go_roundw
                      case rel => exact ⟨q + 1, false, by omega, by go_num, rfl, HN.out, by rw [HNX.out]; exact HOW.out _, HTT.out _⟩
                      case measure => simp [intOf]; omega
                    | true =>
                      by_cases hg1 : g = -1
                      · have HN : Hid (true = fillOk vs r (q + 1) y) := Lib.hid (by rw [HNB.out, decide_eq_true hg1]; rfl)
                        have d1 : (g == -1) = true := by rw [beq_iff_eq]; exact hg1
                        clear HNB hg1
                        go_wp2_with fail
                        go_quiet (fail)
                        go_wp2_with fail
                        go_roundw
                        case rel => exact ⟨q + 1, true, by omega, by go_num, rfl, HN.out, by rw [HNX.out]; exact HOW.out _, HTT.out _⟩
                        case measure => simp [intOf]; omega
                      · have d1 : (g == -1) = false := by rw [beq_eq_false_iff_ne]; exact hg1
                        by_cases hgz : g = zv
                        · have HN : Hid (true = fillOk vs r (q + 1) y) := Lib.hid (by rw [HNB.out, decide_eq_true hgz, Bool.or_true]; rfl)
                          have d2 : (g == zv) = true := by rw [beq_iff_eq]; exact hgz
                          clear HNB hg1 hgz
                          go_wp2_with fail
                          go_quiet (fail)
                          go_wp2_with fail
                          go_roundw
                          case rel => exact ⟨q + 1, true, by omega, by go_num, rfl, HN.out, by rw [HNX.out]; exact HOW.out _, HTT.out _⟩
                          case measure => simp [intOf]; omega
                        · have HN : Hid (false = fillOk vs r (q + 1) y) := Lib.hid (by rw [HNB.out, decide_eq_false hg1, decide_eq_false hgz]; rfl)
                          have d2 : (g == zv) = false := by rw [beq_eq_false_iff_ne]; exact hgz
                          clear HNB hg1 hgz
                          go_wp2_with fail
                          go_quiet (fail)
                          go_wp2_with fail
                          go_roundw
                          case rel => exact ⟨q + 1, false, by omega, by go_num, rfl, HN.out, by rw [HNX.out]; exact HOW.out _, HTT.out _⟩
                          case measure => simp [intOf]; omega
                  · obtain rfl : an = q := by omega
                    have hacc9 := Acc.apart hacc8 hgt hgl (by omega)
                    have ht9 := Turn.apart ht8 hgt (by omega)
                    have h9s := hgt.size
                    have HLEN : (joinL (r1, vs) (l.take i) ++ joinRows vs y (r1.take m)).length ≤ 100000000 := by rw [List.length_append]; omega
                    cases b with
                    | false =>
                      have HR9 : Hid (joinRows vs y (r1.take (m + 1)) = joinRows vs y (r1.take m)) := Lib.hid (by rw [HRA.out, hvl, ← hB.out]; simp)
                      have HC9 := Lib.hid (hacc9.wide (Nat.le_refl _) (show wm.heap.size ≤ wr.heap.size by omega))
                      have HT9 := Lib.hid ht9
                      clear hacc8 hacc9 ht9 how hB
                      go_wp2_with fail
                      go_roundw
                      case rel => exact ⟨m + 1, by omega, by go_num, by rw [HR9.out]; exact HC9.out, HT9.out⟩
                      case measure => simp [intOf]; omega
                    | true =>
                      have HR9 : Hid (joinL (r1, vs) (l.take i) ++ joinRows vs y (r1.take (m + 1)) = (joinL (r1, vs) (l.take i) ++ joinRows vs y (r1.take m)) ++ [fillX vs r an y]) := Lib.hid (by rw [HRA.out, hvl, ← hB.out, List.append_assoc]; simp)
                      obtain ⟨v', wN, hrun, haccN, htN, hsN, _⟩ := run_acc Tryz.underlying33 infoI rfl (by decide) (by decide) rfl (lo := w11.heap.size) (W0 := w12) 33 _ _ [.slice (some ⟨gx, 0, none⟩) n cpx] (fillX vs r an y) hacc9 how.own (by intro z hz; simp at hz; subst hz; rfl) (by omega) (Nat.le_refl _) (by omega) (Nat.le_refl _) ht9 rfl (.inl rfl) (by omega) HLEN rfl
                      obtain ⟨va2, vn2, vc2, rfl⟩ := haccN.form3
                      have HC9 := Lib.hid haccN
                      have HT9 := Lib.hid htN
                      clear hacc8 hacc9 ht9 how hB haccN htN
                      go_wp2_with ((at_builtin; refine wpList_app_run hrun rfl rfl rfl rfl rfl ?_))
                      go_roundw
                      case rel => exact ⟨m + 1, by omega, by go_num, by rw [HR9.out]; exact HC9.out, HT9.out⟩
                      case measure => simp [intOf]; omega
              · obtain rfl : tn = m := by omega
                have HC3 : Hid (Acc 32 oI w11.heap.size w12.heap.size wm.heap.size wm (.slice va vn' vc') (joinL (r1, vs) (l.take (i + 1)))) := Lib.hid (by
                  rw [HA2.out]
                  rw [show r1.take tn = r1 from List.take_of_length_le (by omega)] at hacc3
                  exact hacc3)
                have HT3 := Lib.hid ht4
                clear hacc3 ht4
                go_wp2_with fail
                go_roundw
                case rel => exact ⟨i + 1, by omega, by go_num, HC3.out, HT3.out⟩
                case measure => simp [intOf]; omega
          · obtain rfl : ln = i := by omega
            obtain ⟨va, vn', vc', rfl⟩ := hacc.form3
            rw [List.take_of_length_le (by omega)] at hacc
            have HO : Hid (Own oII w4.heap.size wr.heap.size wr [.slice va vn' vc'] (joinAll n (raTo db xs K (j + 1)))) := Lib.hid (by rw [HN.out]; exact hacc.own (by omega) (by omega) (Nat.le_refl _))
            have HL := Lib.hid (hlc2.trans ((ht3.below (by omega)).mono (by omega)))
            clear hacc oL
            go_wp2_with fail
            go_roundw
            case rel => exact ⟨j + 1, va, vn', vc', by omega, by go_num, rfl, HO.out, HL.out⟩
            case measure => simp [intOf]; omega
    · obtain rfl : qn = j := by omega
      have HONE2 : Hid (canon (l.map (fun y => sel y V)) = E.2) := Lib.hid (by rw [← HL9.out, HALL.out]; exact HONE.out)
      have hselb : bulk_II (l.map (fun y => sel y V)) ≤ 100000000 := by
        have h1 : sumBy bulk_I (l.map (fun y => sel y V)) ≤ (l.map (fun y => sel y V)).length * 4 := sumBy_bound (fun r hr => by
          obtain ⟨y, _, rfl⟩ := List.mem_map.1 hr
          have := sel_len y V
          unfold bulk_I
          omega)
        rw [List.length_map] at h1
        unfold bulk_II
        rw [List.length_map]
        omega
      clear t0 HCK HJF HFA HFT HVL HONE HALL HL9 hjr
      clear b_0 q_0 q_1 hlc
      obtain ⟨w16, hw16⟩ : ∃ W, W = wl.alloc (.cells #[.slice vb vn vc, .slice none 0 0] 35) := ⟨_, rfl⟩
      have z16 : Below wl.heap.size wl w16 := by rw [hw16]; exact (Below.refl _ _).alloc (Nat.le_refl _) _
      have s16 : w16.heap.size = wl.heap.size + 1 := by rw [hw16]; simp
      have hb16 := on hb8 z16
      have old16_r_0 := r_0
      have old16_r_1 := r_1
      replace r_0 := bxc z16 r_0
      replace r_1 := bxc z16 r_1
      replace r_f0 := bxf z16 r_f0
      replace r_f1 := bxf z16 r_f1
      replace ov := ov.below z16 (by omega)
      replace hT1 := on hT1 z16
      replace oL := oL.below z16 (by omega)
      have o_0 : w16.cell? ⟨wl.heap.size, 0, none⟩ = some (.slice vb vn vc) := by rw [hw16]; exact box_cell (Below.refl _ _) rfl
      have o_1 : w16.cell? ⟨wl.heap.size, 1, none⟩ = some (.slice none 0 0) := by rw [hw16]; exact box_cell (Below.refl _ _) rfl
      have o_f0 : w16.frozen? ⟨wl.heap.size, 0, none⟩ = false := by rw [hw16]; exact box_frozen (Below.refl _ _)
      have o_f1 : w16.frozen? ⟨wl.heap.size, 1, none⟩ = false := by rw [hw16]; exact box_frozen (Below.refl _ _)
      have raw16_r_0 := r_0
      have raw16_r_1 := r_1
      have raw16_o_0 := o_0
      have raw16_o_1 := o_1
      rw [hw16] at raw16_r_0 raw16_r_1 raw16_o_0 raw16_o_1
      go_wp2_with fail
      rw [← hw16]
      clear hw16
      clear old16_r_0 old16_r_1 raw16_r_0 raw16_r_1 raw16_o_0 raw16_o_1
      have c_T := hT1
      go_loopw [119] (fun k wr => ∃ (i : Nat) (rb : Option Addr) (rn rc : Nat), i ≤ ln ∧ k = .int .i64 i ∧ (wr.cell? ⟨wl.heap.size, 0, none⟩ = some (.slice vb vn vc) ∧ wr.cell? ⟨wl.heap.size, 1, none⟩ = some (.slice rb rn rc) ∧ wr.frozen? ⟨wl.heap.size, 1, none⟩ = false) ∧ Acc 32 oI w16.heap.size w16.heap.size wr.heap.size wr (.slice rb rn rc) ((l.take i).map (fun y => sel y V)) ∧ Turn wl.heap.size (wl.heap.size + 1) w16 wr) (fun k _ => ln - (intOf k).toNat)
      case atStart => exact ⟨0, none, 0, 0, Nat.zero_le _, rfl, ⟨o_0, o_1, o_f1⟩, Acc.nil, turn_refl _ _ _⟩
      case round =>
        obtain ⟨i, rb, rn, rc, hi, rfl, ⟨y_0, y_1, y_f1⟩, hacc, hdr5⟩ := hrel
        have ht := hdr5
        clear o_0 o_1 o_f0 o_f1 hT1
        have hOW : wl.heap.size < w16.heap.size := by omega
        have s17 := hdr5.size
        have hb17 := hb16.trans ((hdr5.below (by omega)).mono (by omega))
        replace r_0 := txc hdr5 r_0
        replace r_1 := txc hdr5 r_1
        replace r_f0 := txf hdr5 r_f0
        replace r_f1 := txf hdr5 r_f1
        replace ov := ov.turn hdr5 (by omega)
        replace oL := oL.turn hdr5 (by omega)
        by_cases hlti : i < ln
        · obtain ⟨b5, o5, xb, xn, xc, y, rfl, hcy, hy, iy, hxc1, hxc2⟩ := t1.row hlti
          have hb5 : b5 < wl.heap.size := cell_lt hcy
          have hTo : Below wl.heap.size wl wr := c_T.trans ((ht.below (by omega)).mono (by omega))
          have c0 : wr.cell? ⟨b5, o5 + i, none⟩ = some (.slice xb xn xc) := (hTo.cell (p := ⟨b5, o5 + i, none⟩) hb5).trans hcy
          have HTK : Hid ((l.take (i + 1)).map (fun y => sel y V) = (l.take i).map (fun y => sel y V) ++ [sel y V]) := Lib.hid (by rw [List.take_add_one, hy.out, List.map_append]; rfl)
          have hTK := List.length_take_le i l
          have iyo := iy.below hTo
          have iV := rI_ints (ov.rd reads_I)
          clear hcy hy hTo iy
          go_wp2_with fail
          refine (sel_impl _ _ _ _ xc vc y V _ iyo iV (by have := iV.len; omega)).mono ?_
          rintro e w8 ⟨sb, sn, sc, rfl, os, z8⟩
          have s8 := z8.size
          have hacc8 := hacc.below z8 (Nat.le_refl _)
          have ht8 := ht.trans (turn_below z8 (by omega))
          have x_0 := bxc z8 y_0
          have x_1 := bxc z8 y_1
          have x_f1 := bxf z8 y_f1
          have s18 := z8.size
          have hb18 := on hb17 z8
          replace r_0 := bxc z8 r_0
          replace r_1 := bxc z8 r_1
          replace r_f0 := bxf z8 r_f0
          replace r_f1 := bxf z8 r_f1
          replace ov := ov.below z8 (by omega)
          replace oL := oL.below z8 (by omega)
          replace c0 := bxc z8 c0
          obtain ⟨v', wN, hrun, haccN, htN, hsN, hkN⟩ := run_acc Tryz.underlying33 infoI rfl (by decide) (by decide) rfl (lo := wl.heap.size) (W0 := w16) 33 _ _ [.slice sb sn sc] (sel y V) hacc8 os (by intro z hz; simp at hz; subst hz; rfl) (by omega) (Nat.le_refl _) (by omega) (Nat.le_refl _) ht8 rfl (.inr (Nat.le_refl _)) (by omega) (by rw [List.length_map]; omega) rfl
          obtain ⟨rb2, rn2, rc2, rfl⟩ := haccN.form3
          have hkO := hkN wl.heap.size (by omega) (by omega)
          have n_0 := (World.cell?_of_block (a := ⟨wl.heap.size, 0, none⟩) hkO).trans x_0
          have n_1 := (World.cell?_of_block (a := ⟨wl.heap.size, 1, none⟩) hkO).trans x_1
          have n_f1 := (World.frozen?_of_block (a := ⟨wl.heap.size, 1, none⟩) hkO).trans x_f1
          have k0 : (wN.setCell ⟨wl.heap.size, 1, none⟩ (.slice rb2 rn2 rc2)).cell? ⟨wl.heap.size, 0, none⟩ = some (.slice vb vn vc) := by go_simp
          have k1 : (wN.setCell ⟨wl.heap.size, 1, none⟩ (.slice rb2 rn2 rc2)).cell? ⟨wl.heap.size, 1, none⟩ = some (.slice rb2 rn2 rc2) := by go_simp
          have k2 : (wN.setCell ⟨wl.heap.size, 1, none⟩ (.slice rb2 rn2 rc2)).frozen? ⟨wl.heap.size, 1, none⟩ = false := by go_simp
          have HAN := Lib.hid (haccN.setOut (p := ⟨wl.heap.size, 1, none⟩) (hi' := (wN.setCell ⟨wl.heap.size, 1, none⟩ (.slice rb2 rn2 rc2)).heap.size) (.slice rb2 rn2 rc2) (by simp only []; omega) (by simp only []; omega) (by simp [World.setCell]))
          have HTN := Lib.hid (htN.setIn (p := ⟨wl.heap.size, 1, none⟩) (Nat.le_refl _) (Nat.lt_succ_self _) (.slice rb2 rn2 rc2))
          clear hacc hacc8 ht8 haccN htN hkN hkO os y_0 y_1 y_f1 iyo iV
          go_wp2_with ((at_builtin; refine wpList_app_run hrun rfl rfl rfl rfl rfl ?_))
          go_roundw
          case rel => exact ⟨i + 1, rb2, rn2, rc2, by omega, by go_num, ⟨k0, k1, k2⟩, by rw [HTK.out]; exact HAN.out, HTN.out⟩
          case measure => simp [intOf]; omega
        · obtain rfl : ln = i := by omega
          rw [show l.take ln = l from List.take_of_length_le (by omega)] at hacc
          have HR := Lib.hid ((hacc.own (B := 0) (Nat.zero_le _) (Nat.zero_le _) (Nat.le_refl _)).rd reads_II)
          clear hacc
          go_wp2_with fail
          refine (sorted_any _ _ _ HR.out hselb).mono ?_
          rintro e w9 ⟨us, rfl, os, z9⟩
          obtain ⟨sb, sn, sc, rfl⟩ := oII_form1 os
          have x_0 := bxc z9 y_0
          have x_1 := bxc z9 y_1
          have x_f1 := bxf z9 y_f1
          clear y_0 y_1 y_f1
          have s19 := z9.size
          have hb19 := on hb17 z9
          replace r_0 := bxc z9 r_0
          replace r_1 := bxc z9 r_1
          replace r_f0 := bxf z9 r_f0
          replace r_f1 := bxf z9 r_f1
          replace ov := ov.below z9 (by omega)
          replace oL := oL.below z9 (by omega)
          have hX : Turn wl.heap.size (wl.heap.size + 1) w9 (w9.setCell ⟨wl.heap.size, 1, none⟩ (.slice sb sn sc)) := Turn.setIn (turn_refl wl.heap.size (wl.heap.size + 1) w9) (p := ⟨wl.heap.size, 1, none⟩) (Nat.le_refl _) (Nat.lt_succ_self _) _
          have HOA : Hid (Own oAn (w.heap.size + 3) w9.heap.size (w9.setCell ⟨wl.heap.size, 1, none⟩ (.slice sb sn sc)) [.slice vb vn vc, .slice sb sn sc] E) := Lib.hid (oAn_mk (x := E) (by rw [HE1.out]; exact ov.turn hX (by omega)) (by rw [← HONE2.out]; exact os.turn hX (by omega)) (by omega) (by omega) (by omega) (by omega) (by omega))
          clear os ov oL hX HR
          go_wp2_with fail
          refine bodyPost_ret (v := .agg #[.slice vb vn vc, .slice sb sn sc]) (by simp [results, Tryz.results28, go_sem, x_0, x_1, x_f1, r_0, r_1, r_f0, r_f1]) rfl ⟨_, rfl, ?_, ?_⟩
          · refine Own.mono (lo := w.heap.size + 3) (hi := w9.heap.size) ?_ (by omega) (by simp [World.setCell])
            refine Own.setOut ?_ rfl (by simp only []; omega)
            refine Own.setOut ?_ rfl (by simp only []; omega)
            exact HOA.out
          · repeat (refine Below.setCell ?_ (by simp only []; omega) _)
            exact hb19

end Go.Proofs.YtpgfkjcekhifiaaGreat

namespace Go.Proofs.YtpgfkjcekhifiaaGreat

open Go.RowKit

set_option linter.unusedVariables false

set_option linter.unusedSimpArgs false

set_option synthInstance.maxSize 2000

set_option synthInstance.maxHeartbeats 400000

set_option maxRecDepth 100000 in
set_option maxHeartbeats 4000000 in
theorem eval_impl (cs ds : List Value) (db : DDb) (x : DQ) (k : Int) (w : World) (h : rDb.rep w cs db) (h' : rQ.rep w ds x) (hk : I64 k) :
    Calls Tryz.prog 6 #[.agg cs.toArray, .agg ds.toArray, .int .i64 k] w fun e w' => ∃ us, e = .returned (.tuple #[.agg us.toArray, .bool (evalOk db x k)]) ∧ Own oAn w.heap.size w'.heap.size w' us (evalM db x k) ∧ Below w.heap.size w w' := by
  have HQF := Lib.hid (fun W (hW : Below w.heap.size w W) => queryFor_impl cs ds db x W (rDb.mono h hW) (rQ.mono h' hW))
  have HFM := Lib.hid (fun W (hW : Below w.heap.size w W) => fullMask_impl ds x W (rQ.mono h' hW))
  have HE0 : Hid (evalOk db x k = false → evalM db x k = ([], [])) := Lib.hid evalM_no
  have HE1 : Hid (evalOk db x k = true → ∃ K : Nat, k = K ∧ evalM db x k = evalK db x K ∧ ∀ W, Below w.heap.size w W → Calls Tryz.prog 28 #[.agg cs.toArray, .agg ds.toArray, .int .i64 (K : Int)] W fun e w' => ∃ us, e = .returned (.agg us.toArray) ∧ Own oAn W.heap.size w'.heap.size w' us (evalK db x K) ∧ Below W.heap.size W w') := Lib.hid (fun h9 => by
    obtain ⟨hf, hv, K, rfl, hK1, hK2, hmo⟩ := evalOk_valid h9
    obtain ⟨n, hq⟩ := QOk.of hv
    exact ⟨K, rfl, evalM_yes h9, fun W hW => evaluate_any cs ds db x K n W (rDb.mono h hW) (rQ.mono h' hW) hf hq hK2⟩)
  obtain ⟨ub, un, uc, rfl, g1⟩ := rDb_open h
  obtain ⟨qb, qn, qc, rfl, hi2, gq⟩ := rQ_open h'
  have HEO : Hid (evalOk db x k = (queryFor db x && betw k 1 (fullMask x))) := rfl
  obtain ⟨ok, hok⟩ : ∃ ok, evalOk db x k = ok := ⟨_, rfl⟩
  obtain ⟨E, hE⟩ : ∃ E, evalM db x k = E := ⟨_, rfl⟩
  obtain ⟨qf, hqf⟩ : ∃ qf, queryFor db x = qf := ⟨_, rfl⟩
  obtain ⟨fm, hfm⟩ : ∃ fm, fullMask x = fm := ⟨_, rfl⟩
  rw [hok, hE] at HE0 HE1
  rw [hok, hqf, hfm] at HEO
  rw [hqf] at HQF
  rw [hfm] at HFM
  rw [hok, hE]
  obtain ⟨vq, xs⟩ := x
  simp only at hi2 gq HE1
  clear h h' g1 gq hok hE hqf hfm
  have hb0 : Below w.heap.size w w := Below.refl _ _
  go_enter Tryz.func6, Tryz.ntmps6
  obtain ⟨w1, hw1⟩ : ∃ W, W = w.alloc (.cells #[.slice ub un uc] 26) := ⟨_, rfl⟩
  have z1 : Below w.heap.size w w1 := by rw [hw1]; exact (Below.refl _ _).alloc (Nat.le_refl _) _
  have s1 : w1.heap.size = w.heap.size + 1 := by rw [hw1]; simp
  have hb1 := on hb0 z1
  have b_0 : w1.cell? ⟨w.heap.size, 0, none⟩ = some (.slice ub un uc) := by rw [hw1]; exact box_cell (Below.refl _ _) rfl
  have b_f0 : w1.frozen? ⟨w.heap.size, 0, none⟩ = false := by rw [hw1]; exact box_frozen (Below.refl _ _)
  have raw1_b_0 := b_0
  rw [hw1] at raw1_b_0
  obtain ⟨w2, hw2⟩ : ∃ W, W = w1.alloc (.cells #[.int .i64 vq, .slice qb qn qc] 29) := ⟨_, rfl⟩
  have z2 : Below w1.heap.size w1 w2 := by rw [hw2]; exact (Below.refl _ _).alloc (Nat.le_refl _) _
  have s2 : w2.heap.size = w1.heap.size + 1 := by rw [hw2]; simp
  have hb2 := on hb1 z2
  replace b_0 := bxc z2 b_0
  replace b_f0 := bxf z2 b_f0
  have e2 : w1.heap.size = w.heap.size + 1 := by omega
  have q_0 : w2.cell? ⟨w1.heap.size, 0, none⟩ = some (.int .i64 vq) := by rw [hw2]; exact box_cell (Below.refl _ _) rfl
  have q_1 : w2.cell? ⟨w1.heap.size, 1, none⟩ = some (.slice qb qn qc) := by rw [hw2]; exact box_cell (Below.refl _ _) rfl
  rw [e2] at q_0 q_1
  have q_f0 : w2.frozen? ⟨w1.heap.size, 0, none⟩ = false := by rw [hw2]; exact box_frozen (Below.refl _ _)
  have q_f1 : w2.frozen? ⟨w1.heap.size, 1, none⟩ = false := by rw [hw2]; exact box_frozen (Below.refl _ _)
  rw [e2] at q_f0 q_f1
  have raw2_b_0 := b_0
  have raw2_q_0 := q_0
  have raw2_q_1 := q_1
  rw [hw2, hw1] at raw2_b_0 raw2_q_0 raw2_q_1
  obtain ⟨w3, hw3⟩ : ∃ W, W = w2.alloc (.cells #[.slice none 0 0, .slice none 0 0] 35) := ⟨_, rfl⟩
  have z3 : Below w2.heap.size w2 w3 := by rw [hw3]; exact (Below.refl _ _).alloc (Nat.le_refl _) _
  have s3 : w3.heap.size = w2.heap.size + 1 := by rw [hw3]; simp
  have hb3 := on hb2 z3
  replace b_0 := bxc z3 b_0
  replace b_f0 := bxf z3 b_f0
  replace q_0 := bxc z3 q_0
  replace q_1 := bxc z3 q_1
  replace q_f0 := bxf z3 q_f0
  replace q_f1 := bxf z3 q_f1
  have e3 : w2.heap.size = w.heap.size + 1 + 1 := by omega
  have r_0 : w3.cell? ⟨w2.heap.size, 0, none⟩ = some (.slice none 0 0) := by rw [hw3]; exact box_cell (Below.refl _ _) rfl
  have r_1 : w3.cell? ⟨w2.heap.size, 1, none⟩ = some (.slice none 0 0) := by rw [hw3]; exact box_cell (Below.refl _ _) rfl
  rw [e3] at r_0 r_1
  have r_f0 : w3.frozen? ⟨w2.heap.size, 0, none⟩ = false := by rw [hw3]; exact box_frozen (Below.refl _ _)
  have r_f1 : w3.frozen? ⟨w2.heap.size, 1, none⟩ = false := by rw [hw3]; exact box_frozen (Below.refl _ _)
  rw [e3] at r_f0 r_f1
  have raw3_b_0 := b_0
  have raw3_q_0 := q_0
  have raw3_q_1 := q_1
  have raw3_r_0 := r_0
  have raw3_r_1 := r_1
  rw [hw3, hw2, hw1] at raw3_b_0 raw3_q_0 raw3_q_1 raw3_r_0 raw3_r_1
  go_wp2_with fail
  rw [← hw1]
  rw [← hw2]
  rw [← hw3]
  clear hw3 hw2 hw1
  clear raw1_b_0 raw2_b_0 raw2_q_0 raw2_q_1 raw3_b_0 raw3_q_0 raw3_q_1 raw3_r_0 raw3_r_1
  refine (HQF.out _ hb3).mono ?_
  rintro e w7 ⟨rfl, z7⟩
  have s4 := z7.size
  have hb4 := on hb3 z7
  replace b_0 := bxc z7 b_0
  replace b_f0 := bxf z7 b_f0
  replace q_0 := bxc z7 q_0
  replace q_1 := bxc z7 q_1
  replace q_f0 := bxf z7 q_f0
  replace q_f1 := bxf z7 q_f1
  replace r_0 := bxc z7 r_0
  replace r_1 := bxc z7 r_1
  replace r_f0 := bxf z7 r_f0
  replace r_f1 := bxf z7 r_f1
  cases qf with
  | false =>
    have hkf : ok = false := by rw [HEO.out]; rfl
    subst hkf
    have HE := Lib.hid (HE0.out rfl)
    clear HE0 HE1 HEO
    go_wp2_with fail
    refine bodyPost_ret (v := .tuple #[.agg #[.slice none 0 0, .slice none 0 0], .bool false]) (by simp [results, Tryz.results6, go_sem, r_0, r_1, r_f0, r_f1]) rfl ⟨_, rfl, ?_, ?_⟩
    · rw [HE.out]
      exact oAn_mk (x := ([], [])) (l0 := w.heap.size) (m0 := w.heap.size) (l1 := w.heap.size) (m1 := w.heap.size) own_nil_S own_nil_S (by omega) (by simp [World.setCell]; omega) (by omega) (by simp [World.setCell]; omega) (by omega)
    · repeat (refine Below.setCell ?_ (by simp only []; omega) _)
      exact hb4
  | true =>
    go_wp2_with fail
    refine (HFM.out _ hb4).mono ?_
    rintro e w8 ⟨rfl, z8⟩
    have s5 := z8.size
    have hb5 := on hb4 z8
    replace b_0 := bxc z8 b_0
    replace b_f0 := bxf z8 b_f0
    replace q_0 := bxc z8 q_0
    replace q_1 := bxc z8 q_1
    replace q_f0 := bxf z8 q_f0
    replace q_f1 := bxf z8 q_f1
    replace r_0 := bxc z8 r_0
    replace r_1 := bxc z8 r_1
    replace r_f0 := bxf z8 r_f0
    replace r_f1 := bxf z8 r_f1
    have hin := within_any k 1 fm w8
    obtain ⟨bt, hbt⟩ : ∃ bt, betw k 1 fm = bt := ⟨_, rfl⟩
    rw [hbt] at hin HEO
    have HIN := Lib.hid hin
    clear hin hbt
    go_wp2_with fail
    refine HIN.out.mono ?_
    rintro e w' ⟨rfl, rfl⟩
    cases bt with
    | false =>
      have hkf : ok = false := by rw [HEO.out]; rfl
      subst hkf
      have HE := Lib.hid (HE0.out rfl)
      clear HE0 HE1 HEO
      go_wp2_with fail
      refine bodyPost_ret (v := .tuple #[.agg #[.slice none 0 0, .slice none 0 0], .bool false]) (by simp [results, Tryz.results6, go_sem, r_0, r_1, r_f0, r_f1]) rfl ⟨_, rfl, ?_, ?_⟩
      · rw [HE.out]
        exact oAn_mk (x := ([], [])) (l0 := w.heap.size) (m0 := w.heap.size) (l1 := w.heap.size) (m1 := w.heap.size) own_nil_S own_nil_S (by omega) (by simp [World.setCell]; omega) (by omega) (by simp [World.setCell]; omega) (by omega)
      · repeat (refine Below.setCell ?_ (by simp only []; omega) _)
        exact hb5
    | true =>
      have hkt : ok = true := by rw [HEO.out]; rfl
      subst hkt
      obtain ⟨K, rfl, hEK, hev⟩ := HE1.out rfl
      have HEV := Lib.hid hev
      have HEK := Lib.hid hEK
      clear HE0 HE1 HEO hev hEK HIN
      go_wp2_with fail
      refine (HEV.out _ hb5).mono ?_
      rintro e w9 ⟨us, rfl, oa, z9⟩
      obtain ⟨vb, vn, vc, sb, sn, sc, rfl⟩ := oAn_form oa
      have s6 := z9.size
      have hb6 := on hb5 z9
      replace b_0 := bxc z9 b_0
      replace b_f0 := bxf z9 b_f0
      replace q_0 := bxc z9 q_0
      replace q_1 := bxc z9 q_1
      replace q_f0 := bxf z9 q_f0
      replace q_f1 := bxf z9 q_f1
      replace r_0 := bxc z9 r_0
      replace r_1 := bxc z9 r_1
      replace r_f0 := bxf z9 r_f0
      replace r_f1 := bxf z9 r_f1
      have HOA := Lib.hid oa
      clear oa
      go_wp2_with fail
      refine bodyPost_ret (v := .tuple #[.agg #[.slice vb vn vc, .slice sb sn sc], .bool true]) (by simp [results, Tryz.results6, go_sem, r_0, r_1, r_f0, r_f1]) rfl ⟨_, rfl, ?_, ?_⟩
      · rw [HEK.out]
        refine Own.mono (lo := w8.heap.size) (hi := w9.heap.size) ?_ (by omega) (by simp [World.setCell])
        repeat (refine Own.setOut ?_ rfl (by simp only []; omega))
        exact HOA.out
      · repeat (refine Below.setCell ?_ (by simp only []; omega) _)
        exact hb6

def subSize (db : DDb) (q : DQ) (k : Int) : Int := if evalOk db q k then ((evalM db q k).2.length : Int) else -1

set_option maxHeartbeats 1000000 in
theorem subSize_spec (cs ds : List Value) (db : DDb) (x : DQ) (k : Int) (w : World) (h : rDb.rep w cs db) (h' : rQ.rep w ds x) (hk : I64 k) :
    Calls Tryz.prog 10 #[.agg cs.toArray, .agg ds.toArray, .int .i64 k] w fun e w' => e = .returned (.int .i64 (subSize db x k)) ∧ Below w.heap.size w w' := by
  have HEV := Lib.hid (fun W (hW : Below w.heap.size w W) => eval_spec cs ds db x k W (rDb.mono h hW) (rQ.mono h' hW) hk)
  obtain ⟨ub, un, uc, rfl⟩ := rDb_form h
  obtain ⟨qb, qn, qc, rfl⟩ := rQ_form h'
  have HS : Hid (subSize db x k = if evalOk db x k then ((evalM db x k).2.length : Int) else -1) := rfl
  obtain ⟨ok, hok⟩ : ∃ ok, evalOk db x k = ok := ⟨_, rfl⟩
  obtain ⟨E, hE⟩ : ∃ E, evalM db x k = E := ⟨_, rfl⟩
  rw [hok, hE] at HS
  simp only [hok, hE] at HEV
  obtain ⟨vq, xs⟩ := x
  clear h h' hok hE
  have hb0 : Below w.heap.size w w := Below.refl _ _
  go_enter Tryz.func10, Tryz.ntmps10
  obtain ⟨w1, hw1⟩ : ∃ W, W = w.alloc (.cells #[.slice ub un uc] 26) := ⟨_, rfl⟩
  have z1 : Below w.heap.size w w1 := by rw [hw1]; exact (Below.refl _ _).alloc (Nat.le_refl _) _
  have s1 : w1.heap.size = w.heap.size + 1 := by rw [hw1]; simp
  have hb1 := on hb0 z1
  have b_0 : w1.cell? ⟨w.heap.size, 0, none⟩ = some (.slice ub un uc) := by rw [hw1]; exact box_cell (Below.refl _ _) rfl
  have raw1_b_0 := b_0
  rw [hw1] at raw1_b_0
  obtain ⟨w2, hw2⟩ : ∃ W, W = w1.alloc (.cells #[.int .i64 vq, .slice qb qn qc] 29) := ⟨_, rfl⟩
  have z2 : Below w1.heap.size w1 w2 := by rw [hw2]; exact (Below.refl _ _).alloc (Nat.le_refl _) _
  have s2 : w2.heap.size = w1.heap.size + 1 := by rw [hw2]; simp
  have hb2 := on hb1 z2
  replace b_0 := bxc z2 b_0
  have e2 : w1.heap.size = w.heap.size + 1 := by omega
  have q_0 : w2.cell? ⟨w1.heap.size, 0, none⟩ = some (.int .i64 vq) := by rw [hw2]; exact box_cell (Below.refl _ _) rfl
  have q_1 : w2.cell? ⟨w1.heap.size, 1, none⟩ = some (.slice qb qn qc) := by rw [hw2]; exact box_cell (Below.refl _ _) rfl
  rw [e2] at q_0 q_1
  have raw2_b_0 := b_0
  have raw2_q_0 := q_0
  have raw2_q_1 := q_1
  rw [hw2, hw1] at raw2_b_0 raw2_q_0 raw2_q_1
  go_wp2_with fail
  rw [← hw1]
  rw [← hw2]
  clear hw2 hw1
  clear raw1_b_0 raw2_b_0 raw2_q_0 raw2_q_1
  refine (HEV.out _ hb2).mono ?_
  rintro e w7 ⟨us, rfl, oa, z7⟩
  obtain ⟨vb, vn, vc, sb, sn, sc, rfl⟩ := oAn_form oa
  have s3 := z7.size
  have hb3 := on hb2 z7
  replace b_0 := bxc z7 b_0
  replace q_0 := bxc z7 q_0
  replace q_1 := bxc z7 q_1
  obtain ⟨_, _, _, _, _, _, he9, _, gs⟩ := rAn_open (oa.rd reads_An)
  simp at he9
  obtain ⟨⟨rfl, rfl, rfl⟩, rfl, rfl, rfl⟩ := he9
  have hsl := (rS_sl gs).len
  clear oa gs
  obtain ⟨w4, hw4⟩ : ∃ W, W = w7.alloc (.cells #[.slice vb vn vc, .slice sb sn sc] 35) := ⟨_, rfl⟩
  have z4 : Below w7.heap.size w7 w4 := by rw [hw4]; exact (Below.refl _ _).alloc (Nat.le_refl _) _
  have s4 : w4.heap.size = w7.heap.size + 1 := by rw [hw4]; simp
  have hb4 := on hb3 z4
  have old4_b_0 := b_0
  have old4_q_0 := q_0
  have old4_q_1 := q_1
  replace b_0 := bxc z4 b_0
  replace q_0 := bxc z4 q_0
  replace q_1 := bxc z4 q_1
  have a_0 : w4.cell? ⟨w7.heap.size, 0, none⟩ = some (.slice vb vn vc) := by rw [hw4]; exact box_cell (Below.refl _ _) rfl
  have a_1 : w4.cell? ⟨w7.heap.size, 1, none⟩ = some (.slice sb sn sc) := by rw [hw4]; exact box_cell (Below.refl _ _) rfl
  have raw4_b_0 := b_0
  have raw4_q_0 := q_0
  have raw4_q_1 := q_1
  have raw4_a_0 := a_0
  have raw4_a_1 := a_1
  rw [hw4] at raw4_b_0 raw4_q_0 raw4_q_1 raw4_a_0 raw4_a_1
  cases ok with
  | false =>
    have HE := Lib.hid (show subSize db (vq, xs) k = -1 by rw [HS.out]; rfl)
    go_wp2_with fail
    rw [← hw4]
    clear hw4
    clear old4_b_0 old4_q_0 old4_q_1 raw4_b_0 raw4_q_0 raw4_q_1 raw4_a_0 raw4_a_1
    go_wp2_with fail
    go_ret
    exact ⟨ret_int HE.out.symm, hb4⟩
  | true =>
    have HE := Lib.hid (show subSize db (vq, xs) k = (sn : Int) by rw [HS.out, if_pos rfl, hsl])
    go_wp2_with fail
    rw [← hw4]
    clear hw4
    clear old4_b_0 old4_q_0 old4_q_1 raw4_b_0 raw4_q_0 raw4_q_1 raw4_a_0 raw4_a_1
    go_wp2_with fail
    go_ret
    exact ⟨ret_int HE.out.symm, hb4⟩

set_option maxHeartbeats 1000000 in
theorem subSize_impl (cs ds : List Value) (db : DDb) (x : DQ) (k : Int) (w : World) (h : rDb.rep w cs db) (h' : rQ.rep w ds x) (hk : I64 k) :
    Calls Tryz.prog 9 #[.agg cs.toArray, .agg ds.toArray, .int .i64 k] w fun e w' => e = .returned (.int .i64 (subSize db x k)) ∧ Below w.heap.size w w' := by
  have HEV := Lib.hid (fun W (hW : Below w.heap.size w W) => eval_impl cs ds db x k W (rDb.mono h hW) (rQ.mono h' hW) hk)
  obtain ⟨ub, un, uc, rfl⟩ := rDb_form h
  obtain ⟨qb, qn, qc, rfl⟩ := rQ_form h'
  have HS : Hid (subSize db x k = if evalOk db x k then ((evalM db x k).2.length : Int) else -1) := rfl
  obtain ⟨ok, hok⟩ : ∃ ok, evalOk db x k = ok := ⟨_, rfl⟩
  obtain ⟨E, hE⟩ : ∃ E, evalM db x k = E := ⟨_, rfl⟩
  rw [hok, hE] at HS
  simp only [hok, hE] at HEV
  obtain ⟨vq, xs⟩ := x
  clear h h' hok hE
  have hb0 : Below w.heap.size w w := Below.refl _ _
  go_enter Tryz.func9, Tryz.ntmps9
  obtain ⟨w1, hw1⟩ : ∃ W, W = w.alloc (.cells #[.slice ub un uc] 26) := ⟨_, rfl⟩
  have z1 : Below w.heap.size w w1 := by rw [hw1]; exact (Below.refl _ _).alloc (Nat.le_refl _) _
  have s1 : w1.heap.size = w.heap.size + 1 := by rw [hw1]; simp
  have hb1 := on hb0 z1
  have b_0 : w1.cell? ⟨w.heap.size, 0, none⟩ = some (.slice ub un uc) := by rw [hw1]; exact box_cell (Below.refl _ _) rfl
  have raw1_b_0 := b_0
  rw [hw1] at raw1_b_0
  obtain ⟨w2, hw2⟩ : ∃ W, W = w1.alloc (.cells #[.int .i64 vq, .slice qb qn qc] 29) := ⟨_, rfl⟩
  have z2 : Below w1.heap.size w1 w2 := by rw [hw2]; exact (Below.refl _ _).alloc (Nat.le_refl _) _
  have s2 : w2.heap.size = w1.heap.size + 1 := by rw [hw2]; simp
  have hb2 := on hb1 z2
  replace b_0 := bxc z2 b_0
  have e2 : w1.heap.size = w.heap.size + 1 := by omega
  have q_0 : w2.cell? ⟨w1.heap.size, 0, none⟩ = some (.int .i64 vq) := by rw [hw2]; exact box_cell (Below.refl _ _) rfl
  have q_1 : w2.cell? ⟨w1.heap.size, 1, none⟩ = some (.slice qb qn qc) := by rw [hw2]; exact box_cell (Below.refl _ _) rfl
  rw [e2] at q_0 q_1
  have raw2_b_0 := b_0
  have raw2_q_0 := q_0
  have raw2_q_1 := q_1
  rw [hw2, hw1] at raw2_b_0 raw2_q_0 raw2_q_1
  go_wp2_with fail
  rw [← hw1]
  rw [← hw2]
  clear hw2 hw1
  clear raw1_b_0 raw2_b_0 raw2_q_0 raw2_q_1
  refine (HEV.out _ hb2).mono ?_
  rintro e w7 ⟨us, rfl, oa, z7⟩
  obtain ⟨vb, vn, vc, sb, sn, sc, rfl⟩ := oAn_form oa
  have s3 := z7.size
  have hb3 := on hb2 z7
  replace b_0 := bxc z7 b_0
  replace q_0 := bxc z7 q_0
  replace q_1 := bxc z7 q_1
  obtain ⟨_, _, _, _, _, _, he9, _, gs⟩ := rAn_open (oa.rd reads_An)
  simp at he9
  obtain ⟨⟨rfl, rfl, rfl⟩, rfl, rfl, rfl⟩ := he9
  have hsl := (rS_sl gs).len
  clear oa gs
  obtain ⟨w4, hw4⟩ : ∃ W, W = w7.alloc (.cells #[.slice vb vn vc, .slice sb sn sc] 35) := ⟨_, rfl⟩
  have z4 : Below w7.heap.size w7 w4 := by rw [hw4]; exact (Below.refl _ _).alloc (Nat.le_refl _) _
  have s4 : w4.heap.size = w7.heap.size + 1 := by rw [hw4]; simp
  have hb4 := on hb3 z4
  have old4_b_0 := b_0
  have old4_q_0 := q_0
  have old4_q_1 := q_1
  replace b_0 := bxc z4 b_0
  replace q_0 := bxc z4 q_0
  replace q_1 := bxc z4 q_1
  have a_0 : w4.cell? ⟨w7.heap.size, 0, none⟩ = some (.slice vb vn vc) := by rw [hw4]; exact box_cell (Below.refl _ _) rfl
  have a_1 : w4.cell? ⟨w7.heap.size, 1, none⟩ = some (.slice sb sn sc) := by rw [hw4]; exact box_cell (Below.refl _ _) rfl
  have raw4_b_0 := b_0
  have raw4_q_0 := q_0
  have raw4_q_1 := q_1
  have raw4_a_0 := a_0
  have raw4_a_1 := a_1
  rw [hw4] at raw4_b_0 raw4_q_0 raw4_q_1 raw4_a_0 raw4_a_1
  cases ok with
  | false =>
    have HE := Lib.hid (show subSize db (vq, xs) k = -1 by rw [HS.out]; rfl)
    go_wp2_with fail
    rw [← hw4]
    clear hw4
    clear old4_b_0 old4_q_0 old4_q_1 raw4_b_0 raw4_q_0 raw4_q_1 raw4_a_0 raw4_a_1
    go_wp2_with fail
    go_ret
    exact ⟨ret_int HE.out.symm, hb4⟩
  | true =>
    have HE := Lib.hid (show subSize db (vq, xs) k = (sn : Int) by rw [HS.out, if_pos rfl, hsl])
    go_wp2_with fail
    rw [← hw4]
    clear hw4
    clear old4_b_0 old4_q_0 old4_q_1 raw4_b_0 raw4_q_0 raw4_q_1 raw4_a_0 raw4_a_1
    go_wp2_with fail
    go_ret
    exact ⟨ret_int HE.out.symm, hb4⟩

end Go.Proofs.YtpgfkjcekhifiaaGreat

namespace Go.Proofs.YtpgfkjcekhifiaaGreat

open Go.RowKit

set_option linter.unusedVariables false

set_option linter.unusedSimpArgs false

set_option synthInstance.maxSize 2000

set_option synthInstance.maxHeartbeats 400000

theorem evalM_bulk (db : DDb) (q : DQ) (k : Int) : cnt_An (evalM db q k) ≤ 200000 ∧ bulk_An (evalM db q k) ≤ 100000 := by
  obtain ⟨h1, h2, h3⟩ := evalM_len db q k
  have h4 : sumBy bulk_I (evalM db q k).2 ≤ (evalM db q k).2.length * 4 := sumBy_bound (fun r hr => by have := h3 r hr; unfold bulk_I; omega)
  have h5 : bulk_An (evalM db q k) ≤ 100000 := by
    unfold bulk_An bulk_II
    have : bulk_I (evalM db q k).1 ≤ 4 := h1
    omega
  have h6 := cnt_le_An (evalM db q k)
  exact ⟨by omega, h5⟩

theorem fullMask_rng (x : DQ) : I64 (fullMask x) := by
  obtain ⟨M, h, hM, _⟩ := fullMask_nat x
  rw [h]
  constructor <;> omega

set_option maxRecDepth 100000 in
set_option maxHeartbeats 4000000 in
theorem evalQ_impl (cs ds : List Value) (db : DDb) (x : DQ) (w : World) (h : rDb.rep w cs db) (h' : rQ.rep w ds x) :
    Calls Tryz.prog 18 #[.agg cs.toArray, .agg ds.toArray] w fun e w' => ∃ us, e = .returned (.tuple #[.agg us.toArray, .bool (evalOk db x (fullMask x))]) ∧ Own oAn w.heap.size w'.heap.size w' us (evalM db x (fullMask x)) ∧ Below w.heap.size w w' := by
  have HFM := Lib.hid (fun W (hW : Below w.heap.size w W) => fullMask_impl ds x W (rQ.mono h' hW))
  have HEV := Lib.hid (fun W (hW : Below w.heap.size w W) => eval_impl cs ds db x (fullMask x) W (rDb.mono h hW) (rQ.mono h' hW) (fullMask_rng x))
  obtain ⟨ub, un, uc, rfl⟩ := rDb_form h
  obtain ⟨qb, qn, qc, rfl⟩ := rQ_form h'
  obtain ⟨fm, hfm⟩ : ∃ fm, fullMask x = fm := ⟨_, rfl⟩
  rw [hfm] at HFM HEV
  rw [hfm]
  obtain ⟨ok, hok⟩ : ∃ ok, evalOk db x fm = ok := ⟨_, rfl⟩
  obtain ⟨E, hE⟩ : ∃ E, evalM db x fm = E := ⟨_, rfl⟩
  simp only [hok, hE] at HEV
  rw [hok, hE]
  obtain ⟨vq, xs⟩ := x
  simp only at HFM HEV
  clear h h' hok hE hfm
  have hb0 : Below w.heap.size w w := Below.refl _ _
  go_enter Tryz.func18, Tryz.ntmps18
  obtain ⟨w1, hw1⟩ : ∃ W, W = w.alloc (.cells #[.slice ub un uc] 26) := ⟨_, rfl⟩
  have z1 : Below w.heap.size w w1 := by rw [hw1]; exact (Below.refl _ _).alloc (Nat.le_refl _) _
  have s1 : w1.heap.size = w.heap.size + 1 := by rw [hw1]; simp
  have hb1 := on hb0 z1
  have b_0 : w1.cell? ⟨w.heap.size, 0, none⟩ = some (.slice ub un uc) := by rw [hw1]; exact box_cell (Below.refl _ _) rfl
  have b_f0 : w1.frozen? ⟨w.heap.size, 0, none⟩ = false := by rw [hw1]; exact box_frozen (Below.refl _ _)
  have raw1_b_0 := b_0
  rw [hw1] at raw1_b_0
  obtain ⟨w2, hw2⟩ : ∃ W, W = w1.alloc (.cells #[.int .i64 vq, .slice qb qn qc] 29) := ⟨_, rfl⟩
  have z2 : Below w1.heap.size w1 w2 := by rw [hw2]; exact (Below.refl _ _).alloc (Nat.le_refl _) _
  have s2 : w2.heap.size = w1.heap.size + 1 := by rw [hw2]; simp
  have hb2 := on hb1 z2
  replace b_0 := bxc z2 b_0
  replace b_f0 := bxf z2 b_f0
  have e2 : w1.heap.size = w.heap.size + 1 := by omega
  have q_0 : w2.cell? ⟨w1.heap.size, 0, none⟩ = some (.int .i64 vq) := by rw [hw2]; exact box_cell (Below.refl _ _) rfl
  have q_1 : w2.cell? ⟨w1.heap.size, 1, none⟩ = some (.slice qb qn qc) := by rw [hw2]; exact box_cell (Below.refl _ _) rfl
  rw [e2] at q_0 q_1
  have q_f0 : w2.frozen? ⟨w1.heap.size, 0, none⟩ = false := by rw [hw2]; exact box_frozen (Below.refl _ _)
  have q_f1 : w2.frozen? ⟨w1.heap.size, 1, none⟩ = false := by rw [hw2]; exact box_frozen (Below.refl _ _)
  rw [e2] at q_f0 q_f1
  have raw2_b_0 := b_0
  have raw2_q_0 := q_0
  have raw2_q_1 := q_1
  rw [hw2, hw1] at raw2_b_0 raw2_q_0 raw2_q_1
  obtain ⟨w3, hw3⟩ : ∃ W, W = w2.alloc (.cells #[.slice none 0 0, .slice none 0 0] 35) := ⟨_, rfl⟩
  have z3 : Below w2.heap.size w2 w3 := by rw [hw3]; exact (Below.refl _ _).alloc (Nat.le_refl _) _
  have s3 : w3.heap.size = w2.heap.size + 1 := by rw [hw3]; simp
  have hb3 := on hb2 z3
  replace b_0 := bxc z3 b_0
  replace b_f0 := bxf z3 b_f0
  replace q_0 := bxc z3 q_0
  replace q_1 := bxc z3 q_1
  replace q_f0 := bxf z3 q_f0
  replace q_f1 := bxf z3 q_f1
  have e3 : w2.heap.size = w.heap.size + 1 + 1 := by omega
  have r_0 : w3.cell? ⟨w2.heap.size, 0, none⟩ = some (.slice none 0 0) := by rw [hw3]; exact box_cell (Below.refl _ _) rfl
  have r_1 : w3.cell? ⟨w2.heap.size, 1, none⟩ = some (.slice none 0 0) := by rw [hw3]; exact box_cell (Below.refl _ _) rfl
  rw [e3] at r_0 r_1
  have r_f0 : w3.frozen? ⟨w2.heap.size, 0, none⟩ = false := by rw [hw3]; exact box_frozen (Below.refl _ _)
  have r_f1 : w3.frozen? ⟨w2.heap.size, 1, none⟩ = false := by rw [hw3]; exact box_frozen (Below.refl _ _)
  rw [e3] at r_f0 r_f1
  have raw3_b_0 := b_0
  have raw3_q_0 := q_0
  have raw3_q_1 := q_1
  have raw3_r_0 := r_0
  have raw3_r_1 := r_1
  rw [hw3, hw2, hw1] at raw3_b_0 raw3_q_0 raw3_q_1 raw3_r_0 raw3_r_1
  go_wp2_with fail
  rw [← hw1]
  rw [← hw2]
  rw [← hw3]
  clear hw3 hw2 hw1
  clear raw1_b_0 raw2_b_0 raw2_q_0 raw2_q_1 raw3_b_0 raw3_q_0 raw3_q_1 raw3_r_0 raw3_r_1
  refine wp_region_noPanic ?_
  refine wp_region_held_drew (S := (fun W => W.cell? ⟨w.heap.size, 0, none⟩ = some (.slice ub un uc) ∧ W.cell? ⟨w.heap.size + 1, 0, none⟩ = some (.int .i64 vq) ∧ W.cell? ⟨w.heap.size + 1, 1, none⟩ = some (.slice qb qn qc))) (by kernel_rfl) ?hS4 (fun hHeld => ?_)
  case hS4 => exact ⟨b_0, q_0, q_1⟩
  refine wpAnyH_take (i := 0) (v := ?v0_5) rfl (by kernel_rfl) (by kernel_rfl) (by kernel_rfl) (fun _ _ _ h => h) (Or.inl ⟨by rfl, ?hy0_5⟩) (by assumption) ?rest0_5
  case hy0_5 => intro w hSw; (try dsimp only at hSw); go_simp; (try with_reducible rfl)
  try simp only [Act.put, lgA, lgB, lgC, lgD, lgE, lgF]
  refine wpAnyH_take (i := 1) (v := ?v1_6) rfl (by kernel_rfl) (by kernel_rfl) (by kernel_rfl) (fun _ _ _ h => h) (Or.inl ⟨by rfl, ?hy1_6⟩) (by assumption) ?rest1_6
  case hy1_6 => intro w hSw; (try dsimp only at hSw); go_simp; (try with_reducible rfl)
  try simp only [Act.put, lgA, lgB, lgC, lgD, lgE, lgF]
  refine wpAnyH_take (i := 2) (v := ?v2_7) rfl (by kernel_rfl) (by kernel_rfl) (by kernel_rfl) (fun _ _ _ h => h) (Or.inl ⟨by rfl, ?hy2_7⟩) (by assumption) ?rest2_7
  case hy2_7 => intro w hSw; (try dsimp only at hSw); go_simp; (try with_reducible rfl)
  try simp only [Act.put, lgA, lgB, lgC, lgD, lgE, lgF]
  refine wpAnyH_ready (rs := [3]) (by kernel_rfl) (by simp) ?_
  refine AllReadyH.cons rfl (fun K hK => ?_) AllReadyH.nil
  go_simp; (refine (HFM.out _ (hb3).drew).mono ?_); rintro e wA ⟨rfl, zA⟩; replace zA : Below w3.heap.size w3 wA := on (Below.refl _ _).drew zA; have sA := zA.size; have hbA := on hb3 zA; have hSA := (⟨(zA.cell (p := ⟨w.heap.size, 0, none⟩) (by simp only []; omega)).trans b_0, (zA.cell (p := ⟨w.heap.size + 1, 0, none⟩) (by simp only []; omega)).trans q_0, (zA.cell (p := ⟨w.heap.size + 1, 1, none⟩) (by simp only []; omega)).trans q_1⟩ : (fun W => W.cell? ⟨w.heap.size, 0, none⟩ = some (.slice ub un uc) ∧ W.cell? ⟨w.heap.size + 1, 0, none⟩ = some (.int .i64 vq) ∧ W.cell? ⟨w.heap.size + 1, 1, none⟩ = some (.slice qb qn qc)) wA)
  refine hK.out _ _ ?_ (fun hHeld => ?_)
  · exact hSA
  clear hK K
  try simp only [Act.put, List.setIfInBounds_toArray, List.set_cons_zero, List.set_cons_succ]
  refine wpAnyH_ready (rs := [4]) (by kernel_rfl) (by simp) ?_
  refine AllReadyH.cons rfl (fun K hK => ?_) AllReadyH.nil
  go_simp; (refine (HEV.out _ hbA).mono ?_); rintro e wB ⟨us, rfl, oa, zB⟩; obtain ⟨vb, vn, vc, sb, sn, sc, rfl⟩ := oAn_form oa; have sB := zB.size; have hbB := on hbA zB; have hSB := (⟨(zB.cell (p := ⟨w.heap.size, 0, none⟩) (by simp only []; omega)).trans hSA.1, (zB.cell (p := ⟨w.heap.size + 1, 0, none⟩) (by simp only []; omega)).trans hSA.2.1, (zB.cell (p := ⟨w.heap.size + 1, 1, none⟩) (by simp only []; omega)).trans hSA.2.2⟩ : (fun W => W.cell? ⟨w.heap.size, 0, none⟩ = some (.slice ub un uc) ∧ W.cell? ⟨w.heap.size + 1, 0, none⟩ = some (.int .i64 vq) ∧ W.cell? ⟨w.heap.size + 1, 1, none⟩ = some (.slice qb qn qc)) wB); have zo := on zA zB
  refine hK.out _ _ ?_ (fun hHeld => ?_)
  · exact hSB
  clear hK K
  try simp only [Act.put, List.setIfInBounds_toArray, List.set_cons_zero, List.set_cons_succ]
  have k_0 := bxc zo r_0
  have k_f0 := bxf zo r_f0
  have k_1 := bxc zo r_1
  have k_f1 := bxf zo r_f1
  refine wpAnyH_take (i := 5) (v := ?v5_8) rfl (by kernel_rfl) (by kernel_rfl) (by kernel_rfl) (fun _ _ _ h => h) (Or.inl ⟨by rfl, ?hy5_8⟩) (by assumption) ?rest5_8
  case hy5_8 => intro w hSw; (try dsimp only at hSw); go_simp; (try with_reducible rfl)
  try simp only [Act.put, lgA, lgB, lgC, lgD, lgE, lgF]
  refine wpAnyH_take (i := 6) (v := ?v6_9) rfl (by kernel_rfl) (by kernel_rfl) (by kernel_rfl) (fun _ _ _ h => h) (Or.inl ⟨by rfl, ?hy6_9⟩) (by assumption) ?rest6_9
  case hy6_9 => intro w hSw; (try dsimp only at hSw); go_simp; (try with_reducible rfl)
  try simp only [Act.put, lgA, lgB, lgC, lgD, lgE, lgF]
  refine wpAnyH_ready (rs := [7]) (by kernel_rfl) (by simp) ?_
  refine AllReadyH.cons rfl (fun K hK => ?_) AllReadyH.nil
  go_simp
  refine hK.out _ _ ?_ (fun hHeld => ?_)
  · exact ⟨cell_set (cell_set hSB.1 (by simp only []; omega)) (by simp only []; omega), cell_set (cell_set hSB.2.1 (by simp only []; omega)) (by simp only []; omega), cell_set (cell_set hSB.2.2 (by simp only []; omega)) (by simp only []; omega)⟩
  clear hK K
  try simp only [Act.put, List.setIfInBounds_toArray, List.set_cons_zero, List.set_cons_succ]
  refine wpAnyH_take (i := 8) (v := ?v8_10) rfl (by kernel_rfl) (by kernel_rfl) (by kernel_rfl) (fun _ _ _ h => h) (Or.inl ⟨by rfl, ?hy8_10⟩) (by assumption) ?rest8_10
  case hy8_10 => intro w hSw; (try dsimp only at hSw); go_simp; (try with_reducible rfl)
  try simp only [Act.put, lgA, lgB, lgC, lgD, lgE, lgF]
  refine wpAnyH_done (by kernel_rfl) ?_ _
  refine NoPanic.normal ?_
  have HOA := Lib.hid oa
  clear oa
  go_wp2_with fail
  refine bodyPost_ret (v := .tuple #[.agg #[.slice vb vn vc, .slice sb sn sc], .bool ok]) (by simp [results, Tryz.results18, go_sem, k_0, k_1, k_f0, k_f1]) rfl ⟨_, rfl, ?_, ?_⟩
  · refine Own.mono (lo := wA.heap.size) (hi := wB.heap.size) ?_ (by omega) (by simp [World.setCell])
    repeat (refine Own.setOut ?_ rfl (by simp only []; omega))
    exact HOA.out
  · repeat (refine Below.setCell ?_ (by simp only []; omega) _)
    exact hbB

end Go.Proofs.YtpgfkjcekhifiaaGreat

namespace Go.Proofs.YtpgfkjcekhifiaaGreat

open Go.RowKit

set_option linter.unusedVariables false

set_option linter.unusedSimpArgs false

theorem bitsTo_bit {x : Nat} : ∀ {m : Nat} {v : Int}, v ∈ bitsTo x m → ∃ j : Nat, j < m ∧ v = (j : Int) ∧ bitAt x j = true
  | 0, v, h => by simp [bitsTo] at h
  | m + 1, v, h => by
    cases hb : bitAt x m with
    | true =>
      rw [bitsTo_yes hb] at h
      rcases List.mem_append.1 h with h | h
      · obtain ⟨j, h1, h2, h3⟩ := bitsTo_bit h
        exact ⟨j, by omega, h2, h3⟩
      · simp at h
        exact ⟨m, by omega, h, hb⟩
    | false =>
      rw [bitsTo_no hb] at h
      obtain ⟨j, h1, h2, h3⟩ := bitsTo_bit h
      exact ⟨j, by omega, h2, h3⟩

theorem look_valid {db : DDb} {name : ByteArray} {t : DT} (h : look db name = some t) : validT t = true := by
  unfold look at h
  split at h
  · rename_i hv
    simp only [validDb, Bool.and_eq_true] at hv
    exact dbFrom_mem hv.1 t (List.mem_of_find?_eq_some h)
  · cases h

theorem lookT_valid {db : DDb} {name : ByteArray} (h : (look db name).isSome = true) : validT (lookT (look db name)) = true := by
  obtain ⟨t, ht⟩ := Option.isSome_iff_exists.1 h
  rw [ht]
  exact look_valid ht

structure RefOk (db : DDb) (x : DQ) (k : Int) (V : List Int) (R : List (List Int)) : Prop where
  is : evalM db x k = (V, R)
  valid : validAn (V, R) = true
  vlen : V.length ≤ 4
  row : ∀ z ∈ R, z.length = V.length
  atom : ∀ v ∈ maskAtoms k, ∃ p : Nat, v = (p : Int) ∧ p < x.2.length
  here : ∀ (p : Nat) (a : DA), (p : Int) ∈ maskAtoms k → x.2[p]? = some a → a.2.length ≤ 3 ∧ (look db a.1).isSome = true ∧ validT (lookT (look db a.1)) = true ∧ ∀ z ∈ R, pickR V z a.2 ∈ (lookT (look db a.1)).2.2
  full : evalOk db x (fullMask x) = true

theorem refOk {db : DDb} {x : DQ} {k : Int} (h : evalOk db x k = true) : ∃ V R, RefOk db x k V R := by
  obtain ⟨hqf, hv, K, rfl, hK1, hK2, hmk⟩ := evalOk_valid h
  obtain ⟨n, hq⟩ := QOk.of hv
  have hl4 := hq.len
  have hK16 : K < 16 := by
    have : 2 ^ x.2.length ≤ 2 ^ 4 := Nat.pow_le_pow_right (by omega) hl4
    omega
  have hmem : ∀ v ∈ maskAtoms (K : Int), ∃ p : Nat, v = (p : Int) ∧ p < x.2.length ∧ bitAt K p = true := by
    intro v hvm
    unfold maskAtoms at hvm
    rw [if_pos (by simp only [betw, Bool.and_eq_true, decide_eq_true_eq]; omega), Int.toNat_natCast] at hvm
    obtain ⟨j, hj, rfl, hb⟩ := bitsTo_bit hvm
    refine ⟨j, rfl, ?_, hb⟩
    rw [bitAt_testBit] at hb
    have h1 := Nat.ge_two_pow_of_testBit hb
    have h2 : 2 ^ j < 2 ^ x.2.length := by omega
    exact (Nat.pow_lt_pow_iff_right (by omega)).1 h2
  refine ⟨(evalK db x K).1, (evalK db x K).2, evalM_yes h, answer_valid hq, bitsTo_len _ 4, ?_, ?_, ?_, ?_⟩
  · intro z hz
    obtain ⟨s, hs, hl, _, _⟩ := walkE_mem.1 (show z ∈ walkE (evalRA db x K) (varsOf x K) (varsOf x K).length [] from hz)
    rw [List.nil_append] at hs
    subst hs
    exact hl
  · intro v hvm
    obtain ⟨p, h1, h2, _⟩ := hmem v hvm
    exact ⟨p, h1, h2⟩
  · intro p a hp ha
    obtain ⟨p', e, _, hb⟩ := hmem _ hp
    obtain rfl : p = p' := by omega
    have hf := hqf
    rw [queryFor, Bool.and_eq_true] at hf
    have hm := for_mem hf.2 a (List.mem_of_getElem? ha)
    exact ⟨hq.vlen a (List.mem_of_getElem? ha), hm.1, lookT_valid hm.1, fun z hz => answer_row hqf hq hz (atoms_sel ha hb)⟩
  · have h9 := h
    rw [evalOk, Bool.and_eq_true] at h9 ⊢
    refine ⟨hqf, ?_⟩
    have h8 := h9.2
    simp only [betw, Bool.and_eq_true, decide_eq_true_eq] at h8 ⊢
    omega

theorem subSize_no {db : DDb} {q : DQ} {k : Int} (h : evalOk db q k = false) : subSize db q k = -1 := by simp [subSize, h]

theorem subSize_yes {db : DDb} {q : DQ} {k : Int} (h : evalOk db q k = true) : subSize db q k = ((evalM db q k).2.length : Int) := by simp [subSize, h]

end Go.Proofs.YtpgfkjcekhifiaaGreat

namespace Go.Proofs.YtpgfkjcekhifiaaGreat

open Go.RowKit

set_option linter.unusedVariables false

set_option linter.unusedSimpArgs false

set_option synthInstance.maxSize 2000

set_option synthInstance.maxHeartbeats 400000


def sizeAt (db : DDb) (q : DQ) (m : Nat) : Int := if isConn q (m : Int) then subSize db q (m : Int) else 0

def sizesTo (db : DDb) (q : DQ) (j : Nat) : List Int := (List.range j).map (sizeAt db q)

def trueSizes (db : DDb) (q : DQ) : List Int := if queryFor db q then sizesTo db q ((fullMask q).toNat + 1) else []

theorem sizesTo_succ (db : DDb) (q : DQ) (j : Nat) : sizesTo db q (j + 1) = sizesTo db q j ++ [sizeAt db q j] := by simp [sizesTo, List.range_succ]

theorem sizesTo_len (db : DDb) (q : DQ) (j : Nat) : (sizesTo db q j).length = j := by simp [sizesTo]

theorem subSize_rng (db : DDb) (q : DQ) (k : Int) : -1 ≤ subSize db q k ∧ subSize db q k ≤ 10000 := by
  have h := (evalM_len db q k).2.1
  unfold subSize
  split <;> omega

theorem sizeAt_rng (db : DDb) (q : DQ) (m : Nat) : I64 (sizeAt db q m) := by
  have h := subSize_rng db q (m : Int)
  unfold sizeAt
  split <;> constructor <;> omega

theorem connTo_mem {q : DQ} : ∀ {m : Nat} {v : Int}, v ∈ connTo q m ↔ ∃ k : Nat, v = (k : Int) ∧ 1 ≤ k ∧ k ≤ m ∧ joined q k = true
  | 0, v => by
    constructor
    · intro h; simp [connTo] at h
    · rintro ⟨k, _, h1, h2, _⟩; omega
  | m + 1, v => by
    cases hj : joined q (m + 1) with
    | true =>
      rw [connTo_yes hj, List.mem_append, connTo_mem]
      constructor
      · rintro (⟨k, h1, h2, h3, h4⟩ | h)
        · exact ⟨k, h1, h2, by omega, h4⟩
        · exact ⟨m + 1, by simpa using h, by omega, Nat.le_refl _, hj⟩
      · rintro ⟨k, h1, h2, h3, h4⟩
        by_cases hk : k = m + 1
        · subst hk; right; simpa using h1
        · exact .inl ⟨k, h1, h2, by omega, h4⟩
    | false =>
      rw [connTo_no hj, connTo_mem]
      constructor
      · rintro ⟨k, h1, h2, h3, h4⟩; exact ⟨k, h1, h2, by omega, h4⟩
      · rintro ⟨k, h1, h2, h3, h4⟩
        have : k ≠ m + 1 := fun e => by subst e; rw [hj] at h4; cases h4
        exact ⟨k, h1, h2, by omega, h4⟩

theorem isConn_has {q : DQ} {m M : Nat} (hv : validQ q = true) (hM : fullMask q = (M : Int)) (h : m ≤ M) : isConn q (m : Int) = has (connTo q M) (m : Int) := by
  have hf := fullMask_yes hv
  have hmo : maskOkB q (m : Int) = true := by
    simp only [maskOkB, hv, betw, Bool.true_and, Bool.and_eq_true, decide_eq_true_eq]
    omega
  rw [isConn_yes hmo, Bool.eq_iff_iff]
  simp only [conn, has, Bool.and_eq_true, decide_eq_true_eq, connTo_mem]
  constructor
  · rintro ⟨h1, h2⟩
    exact ⟨m, rfl, by omega, h, h2⟩
  · rintro ⟨k, h1, h2, h3, h4⟩
    obtain rfl : m = k := by omega
    exact ⟨by omega, h4⟩

def fillS (db : DDb) (q : DQ) (M : Nat) (L : List Int) (j : Nat) : List Int := (List.range (M + 1)).map (fun m : Nat => if has (L.take j) (m : Int) then sizeAt db q m else 0)

theorem fillS_zero (db : DDb) (q : DQ) (M : Nat) (L : List Int) : fillS db q M L 0 = List.replicate (M + 1) 0 := by
  simp only [fillS, List.take_zero, has, List.not_mem_nil, decide_false, Bool.false_eq_true, if_false]
  apply List.ext_getElem
  · simp
  · intro i h1 h2; simp

theorem fillS_step {db : DDb} {q : DQ} {M k j : Nat} {L : List Int} (h : L[j]? = some (k : Int)) (hk : k ≤ M) : fillS db q M L (j + 1) = (fillS db q M L j).set k (sizeAt db q k) := by
  apply List.ext_getElem
  · simp [fillS]
  · intro i h1 h2
    rw [List.getElem_set]
    simp only [fillS, List.getElem_map, List.getElem_range]
    have e : L.take (j + 1) = L.take j ++ [(k : Int)] := by rw [List.take_add_one, h]; rfl
    rw [e]
    by_cases hi : k = i
    · subst hi
      rw [if_pos rfl, if_pos (by simp [has])]
    · rw [if_neg hi]
      have : has (L.take j ++ [(k : Int)]) (i : Int) = has (L.take j) (i : Int) := by
        rw [Bool.eq_iff_iff]
        simp only [has, decide_eq_true_eq, List.mem_append, List.mem_singleton]
        constructor
        · rintro (h | h)
          · exact h
          · omega
        · exact .inl
      rw [this]

theorem fillS_all {db : DDb} {q : DQ} {M : Nat} (hv : validQ q = true) (hM : fullMask q = (M : Int)) : fillS db q M (connTo q M) (connTo q M).length = sizesTo db q (M + 1) := by
  unfold fillS sizesTo
  apply List.map_congr_left
  intro m hm
  rw [List.mem_range] at hm
  rw [List.take_length, ← isConn_has hv hM (by omega)]
  unfold sizeAt
  split <;> rfl

theorem sizeAt_conn {db : DDb} {q : DQ} {M k : Nat} (hf : queryFor db q = true) (hM : fullMask q = (M : Int)) (hk : (k : Int) ∈ connTo q M) : 1 ≤ k ∧ k ≤ M ∧ sizeAt db q k = ((evalK db q k).2.length : Int) := by
  have hv : validQ q = true := by rw [queryFor, Bool.and_eq_true] at hf; exact hf.1
  obtain ⟨k', h1, h2, h3, h4⟩ := connTo_mem.1 hk
  obtain rfl : k = k' := by omega
  have hc : isConn q (k : Int) = true := by rw [isConn_has hv hM h3]; simpa [has] using hk
  have ho : evalOk db q (k : Int) = true := by
    rw [evalOk, hf, hM, Bool.true_and]
    simp only [betw, Bool.and_eq_true, decide_eq_true_eq]
    omega
  refine ⟨h2, h3, ?_⟩
  rw [sizeAt, if_pos hc, subSize, if_pos ho, evalM_yes ho]

set_option maxRecDepth 100000 in
set_option maxHeartbeats 4000000 in
theorem sizes_spec (cs ds : List Value) (db : DDb) (x : DQ) (w : World) (h : rDb.rep w cs db) (h' : rQ.rep w ds x) :
    Calls Tryz.prog 20 #[.agg cs.toArray, .agg ds.toArray] w fun e w' => ∃ u, e = .returned u ∧ Own oI w.heap.size w'.heap.size w' [u] (trueSizes db x) ∧ Below w.heap.size w w' := by
  have HQF := Lib.hid (fun W (hW : Below w.heap.size w W) => queryFor_spec cs ds db x W (rDb.mono h hW) (rQ.mono h' hW))
  have HFM := Lib.hid (fun W (hW : Below w.heap.size w W) => fullMask_spec ds x W (rQ.mono h' hW))
  have HIC := Lib.hid (fun k W (hW : Below w.heap.size w W) => isConn_spec ds x k W (rQ.mono h' hW))
  have HSS := Lib.hid (fun k W (hk : I64 k) (hW : Below w.heap.size w W) => subSize_spec cs ds db x k W (rDb.mono h hW) (rQ.mono h' hW) hk)
  obtain ⟨ub, un, uc, rfl⟩ := rDb_form h
  obtain ⟨qb, qn, qc, rfl⟩ := rQ_form h'
  obtain ⟨M, hM, hM16, _⟩ := fullMask_nat x
  obtain ⟨qf, hqf⟩ : ∃ qf, queryFor db x = qf := ⟨_, rfl⟩
  have HT : Hid (trueSizes db x = if qf then sizesTo db x (M + 1) else []) := Lib.hid (by rw [trueSizes, hqf, hM]; rfl)
  obtain ⟨R, hR⟩ : ∃ R, trueSizes db x = R := ⟨_, rfl⟩
  rw [hR] at HT ⊢
  rw [hqf] at HQF
  rw [hM] at HFM
  have HSA : Hid (∀ m : Nat, sizeAt db x m = if isConn x (m : Int) then subSize db x (m : Int) else 0) := Lib.hid (fun m => rfl)
  have HSR := Lib.hid (fun m => sizeAt_rng db x m)
  have HS2 := Lib.hid (sizesTo_succ db x)
  have HSL := Lib.hid (sizesTo_len db x)
  obtain ⟨vq, xs⟩ := x
  simp only at HQF HFM HIC HSS
  clear h h' hM hqf hR
  have hb0 : Below w.heap.size w w := Below.refl _ _
  go_enter Tryz.func20, Tryz.ntmps20
  obtain ⟨w1, hw1⟩ : ∃ W, W = w.alloc (.cells #[.slice ub un uc] 26) := ⟨_, rfl⟩
  have z1 : Below w.heap.size w w1 := by rw [hw1]; exact (Below.refl _ _).alloc (Nat.le_refl _) _
  have s1 : w1.heap.size = w.heap.size + 1 := by rw [hw1]; simp
  have hb1 := on hb0 z1
  have b_0 : w1.cell? ⟨w.heap.size, 0, none⟩ = some (.slice ub un uc) := by rw [hw1]; exact box_cell (Below.refl _ _) rfl
  have raw1_b_0 := b_0
  rw [hw1] at raw1_b_0
  obtain ⟨w2, hw2⟩ : ∃ W, W = w1.alloc (.cells #[.int .i64 vq, .slice qb qn qc] 29) := ⟨_, rfl⟩
  have z2 : Below w1.heap.size w1 w2 := by rw [hw2]; exact (Below.refl _ _).alloc (Nat.le_refl _) _
  have s2 : w2.heap.size = w1.heap.size + 1 := by rw [hw2]; simp
  have hb2 := on hb1 z2
  replace b_0 := bxc z2 b_0
  have e2 : w1.heap.size = w.heap.size + 1 := by omega
  have q_0 : w2.cell? ⟨w1.heap.size, 0, none⟩ = some (.int .i64 vq) := by rw [hw2]; exact box_cell (Below.refl _ _) rfl
  have q_1 : w2.cell? ⟨w1.heap.size, 1, none⟩ = some (.slice qb qn qc) := by rw [hw2]; exact box_cell (Below.refl _ _) rfl
  rw [e2] at q_0 q_1
  have raw2_b_0 := b_0
  have raw2_q_0 := q_0
  have raw2_q_1 := q_1
  rw [hw2, hw1] at raw2_b_0 raw2_q_0 raw2_q_1
  obtain ⟨w3, hw3⟩ : ∃ W, W = w2.alloc (.cells #[] 3) := ⟨_, rfl⟩
  have z3 : Below w2.heap.size w2 w3 := by rw [hw3]; exact (Below.refl _ _).alloc (Nat.le_refl _) _
  have s3 : w3.heap.size = w2.heap.size + 1 := by rw [hw3]; simp
  have hb3 := on hb2 z3
  replace b_0 := bxc z3 b_0
  replace q_0 := bxc z3 q_0
  replace q_1 := bxc z3 q_1
  have he : ∀ S, Acc 3 O.int w2.heap.size S w3.heap.size w3 (.slice (some ⟨w.heap.size + 1 + 1, 0, none⟩) 0 0) [] := fun S => by rw [hw3]; exact Acc.empty (by omega) (by first | (simp; done) | (simp; omega))
  have raw3_b_0 := b_0
  have raw3_q_0 := q_0
  have raw3_q_1 := q_1
  rw [hw3, hw2, hw1] at raw3_b_0 raw3_q_0 raw3_q_1
  go_wp2_with fail
  rw [← hw1]
  rw [← hw2]
  rw [← hw3]
  clear hw3 hw2 hw1
  clear raw1_b_0 raw2_b_0 raw2_q_0 raw2_q_1 raw3_b_0 raw3_q_0 raw3_q_1
  go_loopw [5, 6] (fun v k wr => ∃ j : Nat, j ≤ M + 1 ∧ (qf = false → j = 0) ∧ k = .int .i64 j ∧ Acc 3 O.int w2.heap.size w3.heap.size wr.heap.size wr v (sizesTo db (vq, xs) j) ∧ Turn w2.heap.size (w2.heap.size + 1) w3 wr) (fun _ k _ => M + 1 - (intOf k).toNat)
  case atStart => exact ⟨0, Nat.zero_le _, fun _ => rfl, rfl, (he _).wide (Nat.le_refl _) (by omega), turn_refl _ _ _⟩
  case round =>
    obtain ⟨j, hj, hq0, rfl, hacc, hdr⟩ := hrel
    have hlc := hdr
    clear he
    have s4 := hdr.size
    have hb4 := hb3.trans ((hdr.below (by omega)).mono (by omega))
    replace b_0 := txc hdr b_0
    replace q_0 := txc hdr q_0
    replace q_1 := txc hdr q_1
    obtain ⟨va, vn, vc, rfl⟩ := hacc.form3
    have hlen := HSL.out j
    go_wp2_with fail
    refine (HFM.out _ hb4).mono ?_
    rintro e w5 ⟨rfl, z5⟩
    replace hacc := hacc.below z5 (Nat.le_refl _)
    replace hlc := hlc.trans (turn_below z5 (by omega))
    have s5 := z5.size
    have hb5 := on hb4 z5
    replace b_0 := bxc z5 b_0
    replace q_0 := bxc z5 q_0
    replace q_1 := bxc z5 q_1
    by_cases hlt : j ≤ M
    · have hjj : (j : Int) ≤ (M : Int) := by omega
      have hjd : decide ((j : Int) ≤ (M : Int)) = true := decide_eq_true hjj
      go_wp2_with fail
      refine (HQF.out _ hb5).mono ?_
      rintro e w6 ⟨rfl, z6⟩
      replace hacc := hacc.below z6 (by omega)
      replace hlc := hlc.trans (turn_below z6 (by omega))
      have s6 := z6.size
      have hb6 := on hb5 z6
      replace b_0 := bxc z6 b_0
      replace q_0 := bxc z6 q_0
      replace q_1 := bxc z6 q_1
      cases qf with
      | false =>
        obtain rfl : j = 0 := hq0 rfl
        have HE : Hid (R = sizesTo db (vq, xs) 0) := Lib.hid (by rw [HT.out]; rfl)
        have HO := Lib.hid (hacc.own (B := w.heap.size) (hi' := w6.heap.size) (by omega) (by omega) (by omega))
        clear hacc
        go_wp2_with fail
        go_ret
        exact ⟨_, rfl, by rw [HE.out]; exact HO.out, hb6⟩
      | true =>
        have hI := HIC.out (j : Int) w6 hb6
        obtain ⟨ic, hic⟩ : ∃ ic, isConn (vq, xs) (j : Int) = ic := ⟨_, rfl⟩
        rw [hic] at hI
        have HI := Lib.hid hI
        have HSJ := Lib.hid (HSA.out j)
        rw [hic] at HSJ
        have HRJ := Lib.hid (HSR.out j)
        have hj64 : I64 (j : Int) := ⟨by omega, by omega⟩
        clear hI hic
        go_wp2_with fail
        refine HI.out.mono ?_
        rintro e w7 ⟨rfl, z7⟩
        replace hacc := hacc.below z7 (by omega)
        replace hlc := hlc.trans (turn_below z7 (by omega))
        have s7 := z7.size
        have hb7 := on hb6 z7
        replace b_0 := bxc z7 b_0
        replace q_0 := bxc z7 q_0
        replace q_1 := bxc z7 q_1
        cases ic with
        | false =>
          have HV : Hid (sizeAt db (vq, xs) j = 0) := Lib.hid (by rw [HSJ.out]; rfl)
          rw [HV.out] at HRJ
          go_wp2_with ((at_builtin; refine wpList_accI _ _ _ _ _ hacc hlc rfl (by omega) (by omega) HRJ.out (by omega) rfl rfl rfl rfl rfl ?_; intro v' w1 hacc' ht' hsz'))
          have HN : Hid (sizesTo db (vq, xs) (j + 1) = sizesTo db (vq, xs) j ++ [0]) := Lib.hid (by rw [HS2.out, HV.out])
          go_roundw
          case rel => exact ⟨j + 1, by omega, (fun h9 => by cases h9), by go_num, by rw [HN.out]; exact hacc', ht'⟩
          case measure => simp [intOf]; omega
        | true =>
          have HV : Hid (sizeAt db (vq, xs) j = subSize db (vq, xs) (j : Int)) := Lib.hid (by rw [HSJ.out]; rfl)
          obtain ⟨sz, hsz⟩ : ∃ sz, subSize db (vq, xs) (j : Int) = sz := ⟨_, rfl⟩
          rw [hsz] at HV
          rw [HV.out] at HRJ
          have hS := HSS.out (j : Int) w7 hj64 hb7
          rw [hsz] at hS
          have HS := Lib.hid hS
          clear hS hsz
          go_wp2_with fail
          refine HS.out.mono ?_
          rintro e w8 ⟨rfl, z8⟩
          replace hacc := hacc.below z8 (by omega)
          replace hlc := hlc.trans (turn_below z8 (by omega))
          have s8 := z8.size
          have hb8 := on hb7 z8
          replace b_0 := bxc z8 b_0
          replace q_0 := bxc z8 q_0
          replace q_1 := bxc z8 q_1
          go_wp2_with ((at_builtin; refine wpList_accI _ _ _ _ _ hacc hlc rfl (by omega) (by omega) HRJ.out (by omega) rfl rfl rfl rfl rfl ?_; intro v' w1 hacc' ht' hsz'))
          have HN : Hid (sizesTo db (vq, xs) (j + 1) = sizesTo db (vq, xs) j ++ [sz]) := Lib.hid (by rw [HS2.out, HV.out])
          go_roundw
          case rel => exact ⟨j + 1, by omega, (fun h9 => by cases h9), by go_num, by rw [HN.out]; exact hacc', ht'⟩
          case measure => simp [intOf]; omega
    · obtain rfl : j = M + 1 := by omega
      have hqt : qf = true := by
        cases qf with
        | true => rfl
        | false => have := hq0 rfl; omega
      subst hqt
      have hjj : ¬ ((M + 1 : Nat) : Int) ≤ (M : Int) := by omega
      have hjd : decide (((M + 1 : Nat) : Int) ≤ (M : Int)) = false := decide_eq_false hjj
      have HE : Hid (R = sizesTo db (vq, xs) (M + 1)) := Lib.hid (by rw [HT.out]; rfl)
      have HO := Lib.hid (hacc.own (B := w.heap.size) (hi' := w5.heap.size) (by omega) (by omega) (by omega))
      clear hacc
      go_wp2_with fail
      go_ret
      exact ⟨_, rfl, by rw [HE.out]; exact HO.out, hb5⟩

theorem run_rows (W : World) (a b : Value) : (Instr.field 35 (.agg #[a, b]) 1).run Tryz.prog W = .ok b W := by
  simp [Instr.field, go_sem, asAgg, part]

set_option maxRecDepth 100000 in
set_option maxHeartbeats 4000000 in
theorem sizes_impl (cs ds : List Value) (db : DDb) (x : DQ) (w : World) (h : rDb.rep w cs db) (h' : rQ.rep w ds x) :
    Calls Tryz.prog 17 #[.agg cs.toArray, .agg ds.toArray] w fun e w' => ∃ u, e = .returned u ∧ Own oI w.heap.size w'.heap.size w' [u] (trueSizes db x) ∧ Below w.heap.size w w' := by
  have HQF := Lib.hid (fun W (hW : Below w.heap.size w W) => queryFor_impl cs ds db x W (rDb.mono h hW) (rQ.mono h' hW))
  have HFM := Lib.hid (fun W (hW : Below w.heap.size w W) => fullMask_impl ds x W (rQ.mono h' hW))
  have HCM := Lib.hid (fun W (hW : Below w.heap.size w W) => connMasks_impl ds x W (rQ.mono h' hW))
  obtain ⟨M, hM, hM16, _, hcm⟩ := fullMask_nat x
  have HEV : Hid (queryFor db x = true → ∀ (k : Nat), (k : Int) ∈ connTo x M → k ≤ M ∧ ∃ E : DAn, sizeAt db x k = (E.2.length : Int) ∧ ∀ W, Below w.heap.size w W → Calls Tryz.prog 28 #[.agg cs.toArray, .agg ds.toArray, .int .i64 (k : Int)] W fun e w' => ∃ us, e = .returned (.agg us.toArray) ∧ Own oAn W.heap.size w'.heap.size w' us E ∧ Below W.heap.size W w') := Lib.hid (fun hf k hk => by
    obtain ⟨h1, h2, h3⟩ := sizeAt_conn hf hM hk
    have hv : validQ x = true := by rw [queryFor, Bool.and_eq_true] at hf; exact hf.1
    obtain ⟨n, hq⟩ := QOk.of hv
    have hf9 := fullMask_yes hv
    have hp := Nat.two_pow_pos x.2.length
    exact ⟨h2, _, h3, fun W hW => evaluate_any cs ds db x k n W (rDb.mono h hW) (rQ.mono h' hW) hf hq (by omega)⟩)
  have HFA : Hid (queryFor db x = true → fillS db x M (connTo x M) (connTo x M).length = sizesTo db x (M + 1)) := Lib.hid (fun hf => fillS_all (by rw [queryFor, Bool.and_eq_true] at hf; exact hf.1) hM)
  have HMN : Hid (∀ v ∈ connTo x M, ∃ k : Nat, v = (k : Int)) := Lib.hid (fun v hv => by obtain ⟨k, h1, _⟩ := connTo_mem.1 hv; exact ⟨k, h1⟩)
  obtain ⟨ub, un, uc, rfl⟩ := rDb_form h
  obtain ⟨qb, qn, qc, rfl⟩ := rQ_form h'
  obtain ⟨qf, hqf⟩ : ∃ qf, queryFor db x = qf := ⟨_, rfl⟩
  have HT : Hid (trueSizes db x = if qf then sizesTo db x (M + 1) else []) := Lib.hid (by rw [trueSizes, hqf, hM]; rfl)
  obtain ⟨R, hR⟩ : ∃ R, trueSizes db x = R := ⟨_, rfl⟩
  rw [hR] at HT ⊢
  rw [hqf] at HQF HEV HFA
  rw [hM] at HFM
  rw [hcm] at HCM
  obtain ⟨L, hL⟩ : ∃ L, connTo x M = L := ⟨_, rfl⟩
  have hL15 : L.length ≤ 15 := by rw [← hL, ← hcm]; exact connMasks_len x
  rw [hL] at HCM HEV HFA HMN
  have HF0 := Lib.hid (fillS_zero db x M L)
  have HFS : Hid (∀ (k j : Nat), L[j]? = some (k : Int) → k ≤ M → fillS db x M L (j + 1) = (fillS db x M L j).set k (sizeAt db x k)) := Lib.hid (fun k j h1 h2 => fillS_step h1 h2)
  have HSR := Lib.hid (fun m => sizeAt_rng db x m)
  obtain ⟨vq, xs⟩ := x
  simp only at HQF HFM HCM HEV
  clear h h' hM hqf hR hL hcm
  have hb0 : Below w.heap.size w w := Below.refl _ _
  go_enter Tryz.func17, Tryz.ntmps17
  obtain ⟨w1, hw1⟩ : ∃ W, W = w.alloc (.cells #[.slice ub un uc] 26) := ⟨_, rfl⟩
  have z1 : Below w.heap.size w w1 := by rw [hw1]; exact (Below.refl _ _).alloc (Nat.le_refl _) _
  have s1 : w1.heap.size = w.heap.size + 1 := by rw [hw1]; simp
  have hb1 := on hb0 z1
  have b_0 : w1.cell? ⟨w.heap.size, 0, none⟩ = some (.slice ub un uc) := by rw [hw1]; exact box_cell (Below.refl _ _) rfl
  have raw1_b_0 := b_0
  rw [hw1] at raw1_b_0
  obtain ⟨w2, hw2⟩ : ∃ W, W = w1.alloc (.cells #[.int .i64 vq, .slice qb qn qc] 29) := ⟨_, rfl⟩
  have z2 : Below w1.heap.size w1 w2 := by rw [hw2]; exact (Below.refl _ _).alloc (Nat.le_refl _) _
  have s2 : w2.heap.size = w1.heap.size + 1 := by rw [hw2]; simp
  have hb2 := on hb1 z2
  replace b_0 := bxc z2 b_0
  have e2 : w1.heap.size = w.heap.size + 1 := by omega
  have q_0 : w2.cell? ⟨w1.heap.size, 0, none⟩ = some (.int .i64 vq) := by rw [hw2]; exact box_cell (Below.refl _ _) rfl
  have q_1 : w2.cell? ⟨w1.heap.size, 1, none⟩ = some (.slice qb qn qc) := by rw [hw2]; exact box_cell (Below.refl _ _) rfl
  rw [e2] at q_0 q_1
  have raw2_b_0 := b_0
  have raw2_q_0 := q_0
  have raw2_q_1 := q_1
  rw [hw2, hw1] at raw2_b_0 raw2_q_0 raw2_q_1
  go_wp2_with fail
  rw [← hw1]
  rw [← hw2]
  clear hw2 hw1
  clear raw1_b_0 raw2_b_0 raw2_q_0 raw2_q_1
  refine (HQF.out _ hb2).mono ?_
  rintro e w3 ⟨rfl, z3⟩
  have s3 := z3.size
  have hb3 := on hb2 z3
  replace b_0 := bxc z3 b_0
  replace q_0 := bxc z3 q_0
  replace q_1 := bxc z3 q_1
  cases qf with
  | false =>
    have HE : Hid (R = []) := Lib.hid (by rw [HT.out]; rfl)
    go_wp2_with fail
    go_ret
    exact ⟨_, rfl, by rw [HE.out]; exact own_nil_S.mono (Nat.le_refl _) (by omega), hb3⟩
  | true =>
    have HE : Hid (R = sizesTo db (vq, xs) (M + 1)) := Lib.hid (by rw [HT.out]; rfl)
    have hev := HEV.out rfl
    have hfa := HFA.out rfl
    have HEVT := Lib.hid hev
    have HFAT := Lib.hid hfa
    clear hev hfa HEV HFA HT
    go_wp2_with fail
    refine (HFM.out _ hb3).mono ?_
    rintro e w4 ⟨rfl, z4⟩
    have s4 := z4.size
    have hb4 := on hb3 z4
    replace b_0 := bxc z4 b_0
    replace q_0 := bxc z4 q_0
    replace q_1 := bxc z4 q_1
    go_wp2_with (at_make; refine wpList_mk _ _ (M + 1) (by omega) rfl rfl rfl rfl ?_; intro w5 hp5 z5 hz5; have s5 := z5.size; have hb5 := on hb4 z5; replace b_0 := (z5.cell (p := ⟨w.heap.size, 0, none⟩) (by simp only []; omega)).trans b_0; replace q_0 := (z5.cell (p := ⟨w.heap.size + 1, 0, none⟩) (by simp only []; omega)).trans q_0; replace q_1 := (z5.cell (p := ⟨w.heap.size + 1, 1, none⟩) (by simp only []; omega)).trans q_1)
    have ho5 : OwnInts w4.heap.size w5 (.slice (some ⟨w4.heap.size, 0, none⟩) (M + 1) (M + 1)) (M + 1) (fillS db (vq, xs) M L 0) := by
      rw [HF0.out]
      exact ⟨by simp, hp5, fun y hy => by rw [List.mem_replicate] at hy; rw [hy.2]; constructor <;> omega⟩
    clear hp5
    refine (HCM.out _ hb5).mono ?_
    rintro e w6 ⟨u6, rfl, o6, z6⟩
    obtain ⟨lb, ln, lc, rfl⟩ := oI_form1 o6
    have ho6 := ho5.below z6
    have s6 := z6.size
    have hb6 := on hb5 z6
    replace b_0 := bxc z6 b_0
    replace q_0 := bxc z6 q_0
    replace q_1 := bxc z6 q_1
    have hln := (rI_ints (o6.rd reads_I)).len
    go_wp2_with fail
    go_loopw [19] (fun k wr => ∃ j : Nat, j ≤ ln ∧ k = .int .i64 j ∧ OwnInts w4.heap.size wr (.slice (some ⟨w4.heap.size, 0, none⟩) (M + 1) (M + 1)) (M + 1) (fillS db (vq, xs) M L j) ∧ Turn w4.heap.size (w4.heap.size + 1) w6 wr) (fun k _ => ln - (intOf k).toNat)
    case atStart => exact ⟨0, Nat.zero_le _, rfl, ho6, turn_refl _ _ _⟩
    case round =>
      obtain ⟨j, hj, rfl, how, hdr⟩ := hrel
      have hlc := hdr
      clear ho5 ho6
      have s7 := hdr.size
      have hb7 := hb6.trans ((hdr.below (by omega)).mono (by omega))
      replace b_0 := txc hdr b_0
      replace q_0 := txc hdr q_0
      replace q_1 := txc hdr q_1
      replace o6 := o6.turn hdr (by omega)
      by_cases hlt : j < ln
      · obtain ⟨b9, o9, v, rfl, hcv, hv, hv1, hv2⟩ := (rI_ints (o6.rd reads_I)).get hlt
        have hLj : L[j]? = some v := by
          have h9 := hv.out
          rw [List.getD_eq_getElem?_getD, List.getElem?_eq_getElem (by omega)] at h9
          rw [List.getElem?_eq_getElem (by omega)]
          simpa using h9
        obtain ⟨k, rfl⟩ := HMN.out v (List.mem_of_getElem? hLj)
        obtain ⟨hkM, E, hsa, hev⟩ := HEVT.out k (List.mem_of_getElem? hLj)
        have HSK := Lib.hid (HFS.out k j hLj hkM)
        have HSA := Lib.hid hsa
        have HRG := Lib.hid (HSR.out k)
        have HEW := Lib.hid hev
        have hkM1 : (k : Int) < ((M + 1 : Nat) : Int) := by omega
        clear hv hLj hsa hev
        go_wp2_with fail
        refine (HEW.out _ hb7).mono ?_
        rintro e w8 ⟨us, rfl, oa, z8⟩
        obtain ⟨vb, vn, vc, sb, sn, sc, rfl⟩ := oAn_form oa
        obtain ⟨_, _, _, _, _, _, he9, _, gs⟩ := rAn_open (oa.rd reads_An)
        simp at he9
        obtain ⟨⟨rfl, rfl, rfl⟩, rfl, rfl, rfl⟩ := he9
        have hsl := (rS_sl gs).len
        rw [HSA.out, hsl] at HSK HRG
        have how8 := how.below z8
        have ht8 := hlc.trans (turn_below z8 (by omega))
        obtain ⟨g0, gf0⟩ := how8.cellAt (show k < M + 1 by omega)
        have s8 := z8.size
        have hb8 := on hb7 z8
        replace b_0 := bxc z8 b_0
        replace q_0 := bxc z8 q_0
        replace q_1 := bxc z8 q_1
        replace o6 := o6.below z8 (by omega)
        have HON := Lib.hid (how8.put (c := k) (by omega) HRG.out)
        have HTN := Lib.hid (ht8.setIn (p := ⟨w4.heap.size, k, none⟩) (Nat.le_refl _) (Nat.lt_succ_self _) (.int .i64 (sn : Int)))
        clear oa gs how how8 ht8 hlc hsl
        go_wp2_with fail
        rw [run_rows]
        go_wp2_with fail
        go_roundw
        case rel => exact ⟨j + 1, by omega, by go_num, by rw [HSK.out]; exact HON.out, HTN.out⟩
        case measure => simp [intOf]; omega
      · obtain rfl : ln = j := by omega
        have HO : Hid (Own oI w.heap.size wr.heap.size wr [.slice (some ⟨w4.heap.size, 0, none⟩) (M + 1) (M + 1)] R) := Lib.hid (by
          rw [HE.out, ← HFAT.out, hln]
          exact how.own.mono (by omega) (Nat.le_refl _))
        clear how
        go_wp2_with fail
        go_ret
        exact ⟨_, rfl, HO.out, hb7⟩

end Go.Proofs.YtpgfkjcekhifiaaGreat
