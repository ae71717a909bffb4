/- Texts joined for one claim: Look2, MaskV, WalkW, Look3, MaskI, LookA, NearC, Conn. -/
import Derived.Test.YtkipgbgkhffkkaaGreatQ12ef6a0823
import Derived.Deep.RegionHeld3

/- Contracts: tables looked up (2). -/
namespace Go.Proofs.YtkipgbgkhffkkaaGreat
open Go.RowKit Go.Sort
set_option linter.unusedVariables false
set_option linter.unusedSimpArgs false
set_option synthInstance.maxSize 2000
set_option synthInstance.maxHeartbeats 400000

set_option maxHeartbeats 1000000 in
theorem indexT_any (ub : Option Addr) (un uc : Nat) (x : List DT) (name : ByteArray) (p : Addr) (w : World) (h : rTl.rep w [.slice ub un uc] x) (hp : w.cell? p = some (.string name)) (hps : p.spot = none) :
    Calls Tryz.prog 124 #[.slice ub un uc, .func (.func 125) #[] #[.pointer (some p)]] w fun e w' => e = .returned (.int .i64 (idxFrom name 0 x)) ∧ Below w.heap.size w w' := by
  have t1 := rS_sl h
  have hl := t1.len
  have hn := t1.small
  have HV : Hid (idxFrom name 0 x = idxFrom name 0 (x.drop 0)) := rfl
  have HL := Lib.hid hl
  obtain ⟨pb, po, ps⟩ := p
  simp only at hps
  subst hps
  have hplt : pb < w.heap.size := cell_lt hp
  clear h
  have hb0 : Below w.heap.size w w := Below.refl _ _
  have c0 : w.cell? ⟨pb, po, none⟩ = some (.string name) := hp
  clear hp
  go_enter Tryz.func124, Tryz.ntmps124
  go_wp2_with fail
  go_loopw [8] (fun k wr => ∃ j : Nat, j ≤ un ∧ k = .int .i64 j ∧ Hid (idxFrom name 0 x = idxFrom name j (x.drop j)) ∧ Below w.heap.size w wr) (fun k _ => un - (intOf k).toNat)
  case atStart => exact ⟨0, Nat.zero_le _, rfl, HV.out, Below.refl _ _⟩
  case round =>
    obtain ⟨j, hj, rfl, hE, hdr⟩ := hrel
    obtain ⟨wo, rfl⟩ : ∃ W, W = wr := ⟨_, rfl⟩
    have hlc := hdr
    have s1 := hdr.size
    have hb1 := on hb0 hdr
    replace c0 := (hdr.cell (p := ⟨pb, po, none⟩) (by simp only []; omega)).trans c0
    by_cases hlt : j < un
    · obtain ⟨b1, o1, cs, t, rfl, hx, hr, hc⟩ := t1.at hlt
      have hcall := fun W (hW : Below w.heap.size w W) hq => lookFn_any cs t name ⟨pb, po, none⟩ W (rT.mono hr hW) hq rfl
      by_cases hne : t.1 = name
      · have HE : Hid (idxFrom name 0 x = (j : Int)) := Lib.hid (hE.out.trans (idxFrom_yes hx.out hne))
        have hd : decide (t.1 = name) = true := decide_eq_true hne
        simp only [hd] at hcall
        have HC := Lib.hid hcall
        obtain ⟨s, i, rows⟩ := t
        obtain ⟨tb, tn, tc, rfl, hs, hi, g2⟩ := rT_open hr
        simp only at hs hi g2 HC
        have e_lt : b1 < w.heap.size := cell_lt (hc 0 _ rfl)
        have e_0 : wo.cell? ⟨b1, o1 + j * 3, none⟩ = some (.string s) := (hb1.cell (p := ⟨b1, o1 + j * 3, none⟩) e_lt).trans (by have h9 := hc 0 _ rfl; rw [← Nat.add_assoc] at h9; exact h9)
        have e_1 : wo.cell? ⟨b1, o1 + j * 3 + 1, none⟩ = some (.int .i64 i) := (hb1.cell (p := ⟨b1, o1 + j * 3 + 1, none⟩) e_lt).trans (by have h9 := hc 1 _ rfl; rw [← Nat.add_assoc] at h9; exact h9)
        have e_2 : wo.cell? ⟨b1, o1 + j * 3 + 2, none⟩ = some (.slice tb tn tc) := (hb1.cell (p := ⟨b1, o1 + j * 3 + 2, none⟩) e_lt).trans (by have h9 := hc 2 _ rfl; rw [← Nat.add_assoc] at h9; exact h9)
        clear hcall hd hne hE HV hx hr hc g2 hl t1 hs hi
        go_wp2_with (go_at_call 125; refine (HC.out _ hb1 c0).mono ?_; rintro e w8 ⟨rfl, z8⟩)
        have s2 := z8.size
        have hb2 := on hb1 z8
        replace c0 := (z8.cell (p := ⟨pb, po, none⟩) (by simp only []; omega)).trans c0
        replace hlc := on hlc z8
        replace e_0 := (z8.cell (p := ⟨b1, o1 + j * 3, none⟩) (by simp only []; omega)).trans e_0
        replace e_1 := (z8.cell (p := ⟨b1, o1 + j * 3 + 1, none⟩) (by simp only []; omega)).trans e_1
        replace e_2 := (z8.cell (p := ⟨b1, o1 + j * 3 + 2, none⟩) (by simp only []; omega)).trans e_2
        go_wp2_with fail
        go_ret
        exact ⟨by rw [HE.out]; rfl, hb2⟩
      · have HE : Hid (idxFrom name 0 x = idxFrom name (j + 1) (x.drop (j + 1))) := Lib.hid (hE.out.trans (idxFrom_no hx.out hne))
        have hd : decide (t.1 = name) = false := decide_eq_false hne
        simp only [hd] at hcall
        have HC := Lib.hid hcall
        obtain ⟨s, i, rows⟩ := t
        obtain ⟨tb, tn, tc, rfl, hs, hi, g2⟩ := rT_open hr
        simp only at hs hi g2 HC
        have e_lt : b1 < w.heap.size := cell_lt (hc 0 _ rfl)
        have e_0 : wo.cell? ⟨b1, o1 + j * 3, none⟩ = some (.string s) := (hb1.cell (p := ⟨b1, o1 + j * 3, none⟩) e_lt).trans (by have h9 := hc 0 _ rfl; rw [← Nat.add_assoc] at h9; exact h9)
        have e_1 : wo.cell? ⟨b1, o1 + j * 3 + 1, none⟩ = some (.int .i64 i) := (hb1.cell (p := ⟨b1, o1 + j * 3 + 1, none⟩) e_lt).trans (by have h9 := hc 1 _ rfl; rw [← Nat.add_assoc] at h9; exact h9)
        have e_2 : wo.cell? ⟨b1, o1 + j * 3 + 2, none⟩ = some (.slice tb tn tc) := (hb1.cell (p := ⟨b1, o1 + j * 3 + 2, none⟩) e_lt).trans (by have h9 := hc 2 _ rfl; rw [← Nat.add_assoc] at h9; exact h9)
        clear hcall hd hne hE HV hx hr hc g2 hl t1 hs hi
        go_wp2_with (go_at_call 125; refine (HC.out _ hb1 c0).mono ?_; rintro e w8 ⟨rfl, z8⟩)
        have s3 := z8.size
        have hb3 := on hb1 z8
        replace c0 := (z8.cell (p := ⟨pb, po, none⟩) (by simp only []; omega)).trans c0
        replace hlc := on hlc z8
        replace e_0 := (z8.cell (p := ⟨b1, o1 + j * 3, none⟩) (by simp only []; omega)).trans e_0
        replace e_1 := (z8.cell (p := ⟨b1, o1 + j * 3 + 1, none⟩) (by simp only []; omega)).trans e_1
        replace e_2 := (z8.cell (p := ⟨b1, o1 + j * 3 + 2, none⟩) (by simp only []; omega)).trans e_2
        go_wp2_with fail
        go_roundw
        case rel => exact ⟨j + 1, by omega, by go_num, HE.out, hlc⟩
        case measure => simp [intOf]; omega
    · have HE : Hid (idxFrom name 0 x = -1) := Lib.hid (hE.out.trans (idxFrom_end (by have := HL.out; omega)))
      clear t1 hl hE HV
      go_wp2_with fail
      go_ret
      exact ⟨by rw [HE.out]; rfl, hb1⟩

theorem look_some_idx {db : DDb} {name : ByteArray} {t : DT} (h : look db name = some t) : ∃ k : Nat, idxFrom name 0 db = (k : Int) ∧ db[k]? = some t ∧ validDb db = true := by
  unfold look at h
  split at h
  · rename_i hv
    rcases @idx_find name db 0 with ⟨_, h2⟩ | ⟨k, u, h1, h2, h3⟩
    · rw [h2] at h; cases h
    · rw [h3] at h
      obtain rfl := Option.some.inj h
      exact ⟨k, by simpa using h1, h2, hv⟩
  · cases h
theorem look_none_idx {db : DDb} {name : ByteArray} (h : look db name = none) : idxFrom name 0 db = -1 ∨ ∃ k : Nat, idxFrom name 0 db = (k : Int) ∧ validDb db = false := by
  unfold look at h
  rcases @idx_find name db 0 with ⟨h1, _⟩ | ⟨k, u, h1, h2, h3⟩
  · exact .inl h1
  · split at h
    · rw [h3] at h; cases h
    · rename_i hv
      exact .inr ⟨k, by simpa using h1, by simpa using hv⟩
/-- The table that is handed back where there is none. -/
abbrev noT : Array Value := #[.string ⟨#[]⟩, .int .i64 0, .slice none 0 0]

set_option maxHeartbeats 1000000 in
theorem lookI_none (cs : List Value) (db : DDb) (name : ByteArray) (w : World) (h : rDb.rep w cs db) (hL : look db name = none) :
    Calls Tryz.prog 85 #[.agg cs.toArray, .string name] w fun e w' => e = .returned (.tuple #[.agg noT, .bool false]) ∧ Below w.heap.size w w' := by
  obtain ⟨ub, un, uc, rfl, g1⟩ := rDb_open h
  have hcall := fun W p (hW : Below w.heap.size w W) hq hs => indexT_any ub un uc db name p W (rTl.mono g1 hW) hq hs
  have hval := fun W (hW : Below w.heap.size w W) => validDb_impl [.slice ub un uc] db W (rDb.mono h hW)
  clear h g1
  rcases look_none_idx hL with HI | ⟨k, HI, hv⟩
  · simp only [HI] at hcall
    have HC := Lib.hid hcall
    clear hcall hval HI hL
    have hb0 : Below w.heap.size w w := Below.refl _ _
    go_enter Tryz.func85, Tryz.ntmps85
    obtain ⟨w1, hw1⟩ : ∃ W, W = w.alloc (.cells #[.slice ub un uc] 34) := ⟨_, rfl⟩
    have z1 : Below w.heap.size w w1 := by rw [hw1]; exact (Below.refl _ _).alloc (Nat.le_refl _) _
    have s1 : w1.heap.size = w.heap.size + 1 := by rw [hw1]; simp
    have hb1 := on hb0 z1
    have b_0 : w1.cell? ⟨w.heap.size, 0, none⟩ = some (.slice ub un uc) := by rw [hw1]; exact box_cell (Below.refl _ _) rfl
    have b_f0 : w1.frozen? ⟨w.heap.size, 0, none⟩ = false := by rw [hw1]; exact box_frozen (Below.refl _ _)
    have raw1_b_0 := b_0
    rw [hw1] at raw1_b_0
    obtain ⟨w2, hw2⟩ : ∃ W, W = w1.alloc (.cells #[.string name] 9) := ⟨_, rfl⟩
    have z2 : Below w1.heap.size w1 w2 := by rw [hw2]; exact (Below.refl _ _).alloc (Nat.le_refl _) _
    have s2 : w2.heap.size = w1.heap.size + 1 := by rw [hw2]; simp
    have hb2 := on hb1 z2
    replace b_0 := (z2.cell (p := ⟨w.heap.size, 0, none⟩) (by simp only []; omega)).trans b_0
    replace b_f0 := (z2.frozen (p := ⟨w.heap.size, 0, none⟩) (by simp only []; omega)).trans b_f0
    have e2 : w1.heap.size = w.heap.size + 1 := by omega
    have p_0 : w2.cell? ⟨w1.heap.size, 0, none⟩ = some (.string name) := by rw [hw2]; exact box_cell (Below.refl _ _) rfl
    rw [e2] at p_0
    have p_f0 : w2.frozen? ⟨w1.heap.size, 0, none⟩ = false := by rw [hw2]; exact box_frozen (Below.refl _ _)
    rw [e2] at p_f0
    have raw2_b_0 := b_0
    have raw2_p_0 := p_0
    rw [hw2, hw1] at raw2_b_0 raw2_p_0
    obtain ⟨w3, hw3⟩ : ∃ W, W = w2.alloc (.cells #[.string ⟨#[]⟩, .int .i64 0, .slice none 0 0] 65) := ⟨_, rfl⟩
    have z3 : Below w2.heap.size w2 w3 := by rw [hw3]; exact (Below.refl _ _).alloc (Nat.le_refl _) _
    have s3 : w3.heap.size = w2.heap.size + 1 := by rw [hw3]; simp
    have hb3 := on hb2 z3
    replace b_0 := (z3.cell (p := ⟨w.heap.size, 0, none⟩) (by simp only []; omega)).trans b_0
    replace b_f0 := (z3.frozen (p := ⟨w.heap.size, 0, none⟩) (by simp only []; omega)).trans b_f0
    replace p_0 := (z3.cell (p := ⟨w.heap.size + 1, 0, none⟩) (by simp only []; omega)).trans p_0
    replace p_f0 := (z3.frozen (p := ⟨w.heap.size + 1, 0, none⟩) (by simp only []; omega)).trans p_f0
    have e3 : w2.heap.size = w.heap.size + 1 + 1 := by omega
    have r_0 : w3.cell? ⟨w2.heap.size, 0, none⟩ = some (.string ⟨#[]⟩) := by rw [hw3]; exact box_cell (Below.refl _ _) rfl
    have r_1 : w3.cell? ⟨w2.heap.size, 1, none⟩ = some (.int .i64 0) := by rw [hw3]; exact box_cell (Below.refl _ _) rfl
    have r_2 : w3.cell? ⟨w2.heap.size, 2, none⟩ = some (.slice none 0 0) := by rw [hw3]; exact box_cell (Below.refl _ _) rfl
    rw [e3] at r_0 r_1 r_2
    have r_f0 : w3.frozen? ⟨w2.heap.size, 0, none⟩ = false := by rw [hw3]; exact box_frozen (Below.refl _ _)
    have r_f1 : w3.frozen? ⟨w2.heap.size, 1, none⟩ = false := by rw [hw3]; exact box_frozen (Below.refl _ _)
    have r_f2 : w3.frozen? ⟨w2.heap.size, 2, none⟩ = false := by rw [hw3]; exact box_frozen (Below.refl _ _)
    rw [e3] at r_f0 r_f1 r_f2
    have raw3_b_0 := b_0
    have raw3_p_0 := p_0
    have raw3_r_0 := r_0
    have raw3_r_1 := r_1
    have raw3_r_2 := r_2
    rw [hw3, hw2, hw1] at raw3_b_0 raw3_p_0 raw3_r_0 raw3_r_1 raw3_r_2
    go_wp2_with fail
    rw [← hw1]
    rw [← hw2]
    rw [← hw3]
    clear hw3 hw2 hw1
    clear raw1_b_0 raw2_b_0 raw2_p_0 raw3_b_0 raw3_p_0 raw3_r_0 raw3_r_1 raw3_r_2
    refine (HC.out _ _ hb3 p_0 rfl).mono ?_
    rintro e w9 ⟨rfl, z9⟩
    have s4 := z9.size
    have hb4 := on hb3 z9
    replace b_0 := (z9.cell (p := ⟨w.heap.size, 0, none⟩) (by simp only []; omega)).trans b_0
    replace b_f0 := (z9.frozen (p := ⟨w.heap.size, 0, none⟩) (by simp only []; omega)).trans b_f0
    replace p_0 := (z9.cell (p := ⟨w.heap.size + 1, 0, none⟩) (by simp only []; omega)).trans p_0
    replace p_f0 := (z9.frozen (p := ⟨w.heap.size + 1, 0, none⟩) (by simp only []; omega)).trans p_f0
    replace r_0 := (z9.cell (p := ⟨w.heap.size + 1 + 1, 0, none⟩) (by simp only []; omega)).trans r_0
    replace r_1 := (z9.cell (p := ⟨w.heap.size + 1 + 1, 1, none⟩) (by simp only []; omega)).trans r_1
    replace r_2 := (z9.cell (p := ⟨w.heap.size + 1 + 1, 2, none⟩) (by simp only []; omega)).trans r_2
    replace r_f0 := (z9.frozen (p := ⟨w.heap.size + 1 + 1, 0, none⟩) (by simp only []; omega)).trans r_f0
    replace r_f1 := (z9.frozen (p := ⟨w.heap.size + 1 + 1, 1, none⟩) (by simp only []; omega)).trans r_f1
    replace r_f2 := (z9.frozen (p := ⟨w.heap.size + 1 + 1, 2, none⟩) (by simp only []; omega)).trans r_f2
    go_wp2_with fail
    refine bodyPost_ret (v := .tuple #[.agg noT, .bool false]) (by simp [results, Tryz.results85, go_sem, noT, r_0, r_1, r_2, r_f0, r_f1, r_f2]) rfl ⟨rfl, ?_⟩
    repeat (refine Below.setCell ?_ (by simp only []; omega) _)
    exact hb4
  · simp only [HI] at hcall
    simp only [hv] at hval
    have HC := Lib.hid hcall
    have HV := Lib.hid hval
    clear hcall hval HI hL hv
    have hb0 : Below w.heap.size w w := Below.refl _ _
    go_enter Tryz.func85, Tryz.ntmps85
    obtain ⟨w5, hw5⟩ : ∃ W, W = w.alloc (.cells #[.slice ub un uc] 34) := ⟨_, rfl⟩
    have z5 : Below w.heap.size w w5 := by rw [hw5]; exact (Below.refl _ _).alloc (Nat.le_refl _) _
    have s5 : w5.heap.size = w.heap.size + 1 := by rw [hw5]; simp
    have hb5 := on hb0 z5
    have b_0 : w5.cell? ⟨w.heap.size, 0, none⟩ = some (.slice ub un uc) := by rw [hw5]; exact box_cell (Below.refl _ _) rfl
    have b_f0 : w5.frozen? ⟨w.heap.size, 0, none⟩ = false := by rw [hw5]; exact box_frozen (Below.refl _ _)
    have raw5_b_0 := b_0
    rw [hw5] at raw5_b_0
    obtain ⟨w6, hw6⟩ : ∃ W, W = w5.alloc (.cells #[.string name] 9) := ⟨_, rfl⟩
    have z6 : Below w5.heap.size w5 w6 := by rw [hw6]; exact (Below.refl _ _).alloc (Nat.le_refl _) _
    have s6 : w6.heap.size = w5.heap.size + 1 := by rw [hw6]; simp
    have hb6 := on hb5 z6
    replace b_0 := (z6.cell (p := ⟨w.heap.size, 0, none⟩) (by simp only []; omega)).trans b_0
    replace b_f0 := (z6.frozen (p := ⟨w.heap.size, 0, none⟩) (by simp only []; omega)).trans b_f0
    have e6 : w5.heap.size = w.heap.size + 1 := by omega
    have p_0 : w6.cell? ⟨w5.heap.size, 0, none⟩ = some (.string name) := by rw [hw6]; exact box_cell (Below.refl _ _) rfl
    rw [e6] at p_0
    have p_f0 : w6.frozen? ⟨w5.heap.size, 0, none⟩ = false := by rw [hw6]; exact box_frozen (Below.refl _ _)
    rw [e6] at p_f0
    have raw6_b_0 := b_0
    have raw6_p_0 := p_0
    rw [hw6, hw5] at raw6_b_0 raw6_p_0
    obtain ⟨w7, hw7⟩ : ∃ W, W = w6.alloc (.cells #[.string ⟨#[]⟩, .int .i64 0, .slice none 0 0] 65) := ⟨_, rfl⟩
    have z7 : Below w6.heap.size w6 w7 := by rw [hw7]; exact (Below.refl _ _).alloc (Nat.le_refl _) _
    have s7 : w7.heap.size = w6.heap.size + 1 := by rw [hw7]; simp
    have hb7 := on hb6 z7
    replace b_0 := (z7.cell (p := ⟨w.heap.size, 0, none⟩) (by simp only []; omega)).trans b_0
    replace b_f0 := (z7.frozen (p := ⟨w.heap.size, 0, none⟩) (by simp only []; omega)).trans b_f0
    replace p_0 := (z7.cell (p := ⟨w.heap.size + 1, 0, none⟩) (by simp only []; omega)).trans p_0
    replace p_f0 := (z7.frozen (p := ⟨w.heap.size + 1, 0, none⟩) (by simp only []; omega)).trans p_f0
    have e7 : w6.heap.size = w.heap.size + 1 + 1 := by omega
    have r_0 : w7.cell? ⟨w6.heap.size, 0, none⟩ = some (.string ⟨#[]⟩) := by rw [hw7]; exact box_cell (Below.refl _ _) rfl
    have r_1 : w7.cell? ⟨w6.heap.size, 1, none⟩ = some (.int .i64 0) := by rw [hw7]; exact box_cell (Below.refl _ _) rfl
    have r_2 : w7.cell? ⟨w6.heap.size, 2, none⟩ = some (.slice none 0 0) := by rw [hw7]; exact box_cell (Below.refl _ _) rfl
    rw [e7] at r_0 r_1 r_2
    have r_f0 : w7.frozen? ⟨w6.heap.size, 0, none⟩ = false := by rw [hw7]; exact box_frozen (Below.refl _ _)
    have r_f1 : w7.frozen? ⟨w6.heap.size, 1, none⟩ = false := by rw [hw7]; exact box_frozen (Below.refl _ _)
    have r_f2 : w7.frozen? ⟨w6.heap.size, 2, none⟩ = false := by rw [hw7]; exact box_frozen (Below.refl _ _)
    rw [e7] at r_f0 r_f1 r_f2
    have raw7_b_0 := b_0
    have raw7_p_0 := p_0
    have raw7_r_0 := r_0
    have raw7_r_1 := r_1
    have raw7_r_2 := r_2
    rw [hw7, hw6, hw5] at raw7_b_0 raw7_p_0 raw7_r_0 raw7_r_1 raw7_r_2
    go_wp2_with fail
    rw [← hw5]
    rw [← hw6]
    rw [← hw7]
    clear hw7 hw6 hw5
    clear raw5_b_0 raw6_b_0 raw6_p_0 raw7_b_0 raw7_p_0 raw7_r_0 raw7_r_1 raw7_r_2
    refine (HC.out _ _ hb7 p_0 rfl).mono ?_
    rintro e w9 ⟨rfl, z9⟩
    have s8 := z9.size
    have hb8 := on hb7 z9
    replace b_0 := (z9.cell (p := ⟨w.heap.size, 0, none⟩) (by simp only []; omega)).trans b_0
    replace b_f0 := (z9.frozen (p := ⟨w.heap.size, 0, none⟩) (by simp only []; omega)).trans b_f0
    replace p_0 := (z9.cell (p := ⟨w.heap.size + 1, 0, none⟩) (by simp only []; omega)).trans p_0
    replace p_f0 := (z9.frozen (p := ⟨w.heap.size + 1, 0, none⟩) (by simp only []; omega)).trans p_f0
    replace r_0 := (z9.cell (p := ⟨w.heap.size + 1 + 1, 0, none⟩) (by simp only []; omega)).trans r_0
    replace r_1 := (z9.cell (p := ⟨w.heap.size + 1 + 1, 1, none⟩) (by simp only []; omega)).trans r_1
    replace r_2 := (z9.cell (p := ⟨w.heap.size + 1 + 1, 2, none⟩) (by simp only []; omega)).trans r_2
    replace r_f0 := (z9.frozen (p := ⟨w.heap.size + 1 + 1, 0, none⟩) (by simp only []; omega)).trans r_f0
    replace r_f1 := (z9.frozen (p := ⟨w.heap.size + 1 + 1, 1, none⟩) (by simp only []; omega)).trans r_f1
    replace r_f2 := (z9.frozen (p := ⟨w.heap.size + 1 + 1, 2, none⟩) (by simp only []; omega)).trans r_f2
    go_wp2_with fail
    refine (HV.out _ hb8).mono ?_
    rintro e w10 ⟨rfl, z10⟩
    have s9 := z10.size
    have hb9 := on hb8 z10
    replace b_0 := (z10.cell (p := ⟨w.heap.size, 0, none⟩) (by simp only []; omega)).trans b_0
    replace b_f0 := (z10.frozen (p := ⟨w.heap.size, 0, none⟩) (by simp only []; omega)).trans b_f0
    replace p_0 := (z10.cell (p := ⟨w.heap.size + 1, 0, none⟩) (by simp only []; omega)).trans p_0
    replace p_f0 := (z10.frozen (p := ⟨w.heap.size + 1, 0, none⟩) (by simp only []; omega)).trans p_f0
    replace r_0 := (z10.cell (p := ⟨w.heap.size + 1 + 1, 0, none⟩) (by simp only []; omega)).trans r_0
    replace r_1 := (z10.cell (p := ⟨w.heap.size + 1 + 1, 1, none⟩) (by simp only []; omega)).trans r_1
    replace r_2 := (z10.cell (p := ⟨w.heap.size + 1 + 1, 2, none⟩) (by simp only []; omega)).trans r_2
    replace r_f0 := (z10.frozen (p := ⟨w.heap.size + 1 + 1, 0, none⟩) (by simp only []; omega)).trans r_f0
    replace r_f1 := (z10.frozen (p := ⟨w.heap.size + 1 + 1, 1, none⟩) (by simp only []; omega)).trans r_f1
    replace r_f2 := (z10.frozen (p := ⟨w.heap.size + 1 + 1, 2, none⟩) (by simp only []; omega)).trans r_f2
    go_wp2_with fail
    refine bodyPost_ret (v := .tuple #[.agg noT, .bool false]) (by simp [results, Tryz.results85, go_sem, noT, r_0, r_1, r_2, r_f0, r_f1, r_f2]) rfl ⟨rfl, ?_⟩
    repeat (refine Below.setCell ?_ (by simp only []; omega) _)
    exact hb9

set_option maxHeartbeats 1000000 in
theorem lookI_some (cs : List Value) (db : DDb) (name : ByteArray) (t : DT) (w : World) (h : rDb.rep w cs db) (hL : look db name = some t) :
    Calls Tryz.prog 85 #[.agg cs.toArray, .string name] w fun e w' => ∃ ds, e = .returned (.tuple #[.agg ds.toArray, .bool true]) ∧ Own oT w.heap.size w'.heap.size w' ds t ∧ Below w.heap.size w w' := by
  obtain ⟨ub, un, uc, rfl, g1⟩ := rDb_open h
  have hcall := fun W p (hW : Below w.heap.size w W) hq hs => indexT_any ub un uc db name p W (rTl.mono g1 hW) hq hs
  have hval := fun W (hW : Below w.heap.size w W) => validDb_impl [.slice ub un uc] db W (rDb.mono h hW)
  have hbk := (look_ok hL).bulk
  obtain ⟨k, HI, hk, hv⟩ := look_some_idx hL
  have t1 := rS_sl g1
  have hl := t1.len
  have hn := t1.small
  have hlt : k < un := by rw [← hl]; exact (List.getElem?_eq_some_iff.1 hk).1
  simp only [HI] at hcall
  simp only [hv] at hval
  obtain ⟨b1, o1, cs, t', rfl, hx, hr, hc⟩ := t1.at hlt
  obtain rfl : t' = t := by have h9 := hx.out; rw [hk] at h9; exact (Option.some.inj h9).symm
  have hcp := fun W (hW : Below w.heap.size w W) => copyTable_any cs t' W (rT.mono hr hW) (by omega)
  have HC := Lib.hid hcall
  have HV := Lib.hid hval
  obtain ⟨s, i, rows⟩ := t'
  obtain ⟨tb, tn, tc, rfl, hs, hi, g2⟩ := rT_open hr
  simp only at hs hi g2 hcp
  have HP := Lib.hid hcp
  clear hcall hval HI hL hv hcp h g1 hbk hk hx hr g2 t1 hl
  have hb0 : Below w.heap.size w w := Below.refl _ _
  have e_lt : b1 < w.heap.size := cell_lt (hc 0 _ rfl)
  have e_0 : w.cell? ⟨b1, o1 + k * 3, none⟩ = some (.string s) := (hb0.cell (p := ⟨b1, o1 + k * 3, none⟩) e_lt).trans (by have h9 := hc 0 _ rfl; rw [← Nat.add_assoc] at h9; exact h9)
  have e_1 : w.cell? ⟨b1, o1 + k * 3 + 1, none⟩ = some (.int .i64 i) := (hb0.cell (p := ⟨b1, o1 + k * 3 + 1, none⟩) e_lt).trans (by have h9 := hc 1 _ rfl; rw [← Nat.add_assoc] at h9; exact h9)
  have e_2 : w.cell? ⟨b1, o1 + k * 3 + 2, none⟩ = some (.slice tb tn tc) := (hb0.cell (p := ⟨b1, o1 + k * 3 + 2, none⟩) e_lt).trans (by have h9 := hc 2 _ rfl; rw [← Nat.add_assoc] at h9; exact h9)
  clear hc
  go_enter Tryz.func85, Tryz.ntmps85
  obtain ⟨w1, hw1⟩ : ∃ W, W = w.alloc (.cells #[.slice (some ⟨b1, o1, none⟩) un uc] 34) := ⟨_, rfl⟩
  have z1 : Below w.heap.size w w1 := by rw [hw1]; exact (Below.refl _ _).alloc (Nat.le_refl _) _
  have s1 : w1.heap.size = w.heap.size + 1 := by rw [hw1]; simp
  have hb1 := on hb0 z1
  have old1_e_0 := e_0
  have old1_e_1 := e_1
  have old1_e_2 := e_2
  replace e_0 := (z1.cell (p := ⟨b1, o1 + k * 3, none⟩) (by simp only []; omega)).trans e_0
  replace e_1 := (z1.cell (p := ⟨b1, o1 + k * 3 + 1, none⟩) (by simp only []; omega)).trans e_1
  replace e_2 := (z1.cell (p := ⟨b1, o1 + k * 3 + 2, none⟩) (by simp only []; omega)).trans e_2
  have b_0 : w1.cell? ⟨w.heap.size, 0, none⟩ = some (.slice (some ⟨b1, o1, none⟩) un uc) := by rw [hw1]; exact box_cell (Below.refl _ _) rfl
  have b_f0 : w1.frozen? ⟨w.heap.size, 0, none⟩ = false := by rw [hw1]; exact box_frozen (Below.refl _ _)
  have raw1_e_0 := e_0
  have raw1_e_1 := e_1
  have raw1_e_2 := e_2
  have raw1_b_0 := b_0
  rw [hw1] at raw1_e_0 raw1_e_1 raw1_e_2 raw1_b_0
  obtain ⟨w2, hw2⟩ : ∃ W, W = w1.alloc (.cells #[.string name] 9) := ⟨_, rfl⟩
  have z2 : Below w1.heap.size w1 w2 := by rw [hw2]; exact (Below.refl _ _).alloc (Nat.le_refl _) _
  have s2 : w2.heap.size = w1.heap.size + 1 := by rw [hw2]; simp
  have hb2 := on hb1 z2
  replace e_0 := (z2.cell (p := ⟨b1, o1 + k * 3, none⟩) (by simp only []; omega)).trans e_0
  replace e_1 := (z2.cell (p := ⟨b1, o1 + k * 3 + 1, none⟩) (by simp only []; omega)).trans e_1
  replace e_2 := (z2.cell (p := ⟨b1, o1 + k * 3 + 2, none⟩) (by simp only []; omega)).trans e_2
  replace b_0 := (z2.cell (p := ⟨w.heap.size, 0, none⟩) (by simp only []; omega)).trans b_0
  replace b_f0 := (z2.frozen (p := ⟨w.heap.size, 0, none⟩) (by simp only []; omega)).trans b_f0
  have e2 : w1.heap.size = w.heap.size + 1 := by omega
  have p_0 : w2.cell? ⟨w1.heap.size, 0, none⟩ = some (.string name) := by rw [hw2]; exact box_cell (Below.refl _ _) rfl
  rw [e2] at p_0
  have p_f0 : w2.frozen? ⟨w1.heap.size, 0, none⟩ = false := by rw [hw2]; exact box_frozen (Below.refl _ _)
  rw [e2] at p_f0
  have raw2_e_0 := e_0
  have raw2_e_1 := e_1
  have raw2_e_2 := e_2
  have raw2_b_0 := b_0
  have raw2_p_0 := p_0
  rw [hw2, hw1] at raw2_e_0 raw2_e_1 raw2_e_2 raw2_b_0 raw2_p_0
  obtain ⟨w3, hw3⟩ : ∃ W, W = w2.alloc (.cells #[.string ⟨#[]⟩, .int .i64 0, .slice none 0 0] 65) := ⟨_, rfl⟩
  have z3 : Below w2.heap.size w2 w3 := by rw [hw3]; exact (Below.refl _ _).alloc (Nat.le_refl _) _
  have s3 : w3.heap.size = w2.heap.size + 1 := by rw [hw3]; simp
  have hb3 := on hb2 z3
  replace e_0 := (z3.cell (p := ⟨b1, o1 + k * 3, none⟩) (by simp only []; omega)).trans e_0
  replace e_1 := (z3.cell (p := ⟨b1, o1 + k * 3 + 1, none⟩) (by simp only []; omega)).trans e_1
  replace e_2 := (z3.cell (p := ⟨b1, o1 + k * 3 + 2, none⟩) (by simp only []; omega)).trans e_2
  replace b_0 := (z3.cell (p := ⟨w.heap.size, 0, none⟩) (by simp only []; omega)).trans b_0
  replace b_f0 := (z3.frozen (p := ⟨w.heap.size, 0, none⟩) (by simp only []; omega)).trans b_f0
  replace p_0 := (z3.cell (p := ⟨w.heap.size + 1, 0, none⟩) (by simp only []; omega)).trans p_0
  replace p_f0 := (z3.frozen (p := ⟨w.heap.size + 1, 0, none⟩) (by simp only []; omega)).trans p_f0
  have e3 : w2.heap.size = w.heap.size + 1 + 1 := by omega
  have r_0 : w3.cell? ⟨w2.heap.size, 0, none⟩ = some (.string ⟨#[]⟩) := by rw [hw3]; exact box_cell (Below.refl _ _) rfl
  have r_1 : w3.cell? ⟨w2.heap.size, 1, none⟩ = some (.int .i64 0) := by rw [hw3]; exact box_cell (Below.refl _ _) rfl
  have r_2 : w3.cell? ⟨w2.heap.size, 2, none⟩ = some (.slice none 0 0) := by rw [hw3]; exact box_cell (Below.refl _ _) rfl
  rw [e3] at r_0 r_1 r_2
  have r_f0 : w3.frozen? ⟨w2.heap.size, 0, none⟩ = false := by rw [hw3]; exact box_frozen (Below.refl _ _)
  have r_f1 : w3.frozen? ⟨w2.heap.size, 1, none⟩ = false := by rw [hw3]; exact box_frozen (Below.refl _ _)
  have r_f2 : w3.frozen? ⟨w2.heap.size, 2, none⟩ = false := by rw [hw3]; exact box_frozen (Below.refl _ _)
  rw [e3] at r_f0 r_f1 r_f2
  have raw3_e_0 := e_0
  have raw3_e_1 := e_1
  have raw3_e_2 := e_2
  have raw3_b_0 := b_0
  have raw3_p_0 := p_0
  have raw3_r_0 := r_0
  have raw3_r_1 := r_1
  have raw3_r_2 := r_2
  rw [hw3, hw2, hw1] at raw3_e_0 raw3_e_1 raw3_e_2 raw3_b_0 raw3_p_0 raw3_r_0 raw3_r_1 raw3_r_2
  go_wp2_with fail
  rw [← hw1]
  rw [← hw2]
  rw [← hw3]
  clear hw3 hw2 hw1
  clear old1_e_0 old1_e_1 old1_e_2 raw1_e_0 raw1_e_1 raw1_e_2 raw1_b_0 raw2_e_0 raw2_e_1 raw2_e_2 raw2_b_0 raw2_p_0 raw3_e_0 raw3_e_1 raw3_e_2 raw3_b_0 raw3_p_0 raw3_r_0 raw3_r_1 raw3_r_2
  refine (HC.out _ _ hb3 p_0 rfl).mono ?_
  rintro e w9 ⟨rfl, z9⟩
  have s4 := z9.size
  have hb4 := on hb3 z9
  replace e_0 := (z9.cell (p := ⟨b1, o1 + k * 3, none⟩) (by simp only []; omega)).trans e_0
  replace e_1 := (z9.cell (p := ⟨b1, o1 + k * 3 + 1, none⟩) (by simp only []; omega)).trans e_1
  replace e_2 := (z9.cell (p := ⟨b1, o1 + k * 3 + 2, none⟩) (by simp only []; omega)).trans e_2
  replace b_0 := (z9.cell (p := ⟨w.heap.size, 0, none⟩) (by simp only []; omega)).trans b_0
  replace b_f0 := (z9.frozen (p := ⟨w.heap.size, 0, none⟩) (by simp only []; omega)).trans b_f0
  replace p_0 := (z9.cell (p := ⟨w.heap.size + 1, 0, none⟩) (by simp only []; omega)).trans p_0
  replace p_f0 := (z9.frozen (p := ⟨w.heap.size + 1, 0, none⟩) (by simp only []; omega)).trans p_f0
  replace r_0 := (z9.cell (p := ⟨w.heap.size + 1 + 1, 0, none⟩) (by simp only []; omega)).trans r_0
  replace r_1 := (z9.cell (p := ⟨w.heap.size + 1 + 1, 1, none⟩) (by simp only []; omega)).trans r_1
  replace r_2 := (z9.cell (p := ⟨w.heap.size + 1 + 1, 2, none⟩) (by simp only []; omega)).trans r_2
  replace r_f0 := (z9.frozen (p := ⟨w.heap.size + 1 + 1, 0, none⟩) (by simp only []; omega)).trans r_f0
  replace r_f1 := (z9.frozen (p := ⟨w.heap.size + 1 + 1, 1, none⟩) (by simp only []; omega)).trans r_f1
  replace r_f2 := (z9.frozen (p := ⟨w.heap.size + 1 + 1, 2, none⟩) (by simp only []; omega)).trans r_f2
  go_wp2_with fail
  refine (HV.out _ hb4).mono ?_
  rintro e w10 ⟨rfl, z10⟩
  have s5 := z10.size
  have hb5 := on hb4 z10
  replace e_0 := (z10.cell (p := ⟨b1, o1 + k * 3, none⟩) (by simp only []; omega)).trans e_0
  replace e_1 := (z10.cell (p := ⟨b1, o1 + k * 3 + 1, none⟩) (by simp only []; omega)).trans e_1
  replace e_2 := (z10.cell (p := ⟨b1, o1 + k * 3 + 2, none⟩) (by simp only []; omega)).trans e_2
  replace b_0 := (z10.cell (p := ⟨w.heap.size, 0, none⟩) (by simp only []; omega)).trans b_0
  replace b_f0 := (z10.frozen (p := ⟨w.heap.size, 0, none⟩) (by simp only []; omega)).trans b_f0
  replace p_0 := (z10.cell (p := ⟨w.heap.size + 1, 0, none⟩) (by simp only []; omega)).trans p_0
  replace p_f0 := (z10.frozen (p := ⟨w.heap.size + 1, 0, none⟩) (by simp only []; omega)).trans p_f0
  replace r_0 := (z10.cell (p := ⟨w.heap.size + 1 + 1, 0, none⟩) (by simp only []; omega)).trans r_0
  replace r_1 := (z10.cell (p := ⟨w.heap.size + 1 + 1, 1, none⟩) (by simp only []; omega)).trans r_1
  replace r_2 := (z10.cell (p := ⟨w.heap.size + 1 + 1, 2, none⟩) (by simp only []; omega)).trans r_2
  replace r_f0 := (z10.frozen (p := ⟨w.heap.size + 1 + 1, 0, none⟩) (by simp only []; omega)).trans r_f0
  replace r_f1 := (z10.frozen (p := ⟨w.heap.size + 1 + 1, 1, none⟩) (by simp only []; omega)).trans r_f1
  replace r_f2 := (z10.frozen (p := ⟨w.heap.size + 1 + 1, 2, none⟩) (by simp only []; omega)).trans r_f2
  go_wp2_with fail
  refine (HP.out _ hb5).mono ?_
  rintro e w11 ⟨ds, rfl, ho, z11⟩
  obtain ⟨vb, vn, vc, rfl⟩ := oT_form ho
  simp only at ho
  have s6 := z11.size
  have hb6 := on hb5 z11
  replace e_0 := (z11.cell (p := ⟨b1, o1 + k * 3, none⟩) (by simp only []; omega)).trans e_0
  replace e_1 := (z11.cell (p := ⟨b1, o1 + k * 3 + 1, none⟩) (by simp only []; omega)).trans e_1
  replace e_2 := (z11.cell (p := ⟨b1, o1 + k * 3 + 2, none⟩) (by simp only []; omega)).trans e_2
  replace b_0 := (z11.cell (p := ⟨w.heap.size, 0, none⟩) (by simp only []; omega)).trans b_0
  replace b_f0 := (z11.frozen (p := ⟨w.heap.size, 0, none⟩) (by simp only []; omega)).trans b_f0
  replace p_0 := (z11.cell (p := ⟨w.heap.size + 1, 0, none⟩) (by simp only []; omega)).trans p_0
  replace p_f0 := (z11.frozen (p := ⟨w.heap.size + 1, 0, none⟩) (by simp only []; omega)).trans p_f0
  replace r_0 := (z11.cell (p := ⟨w.heap.size + 1 + 1, 0, none⟩) (by simp only []; omega)).trans r_0
  replace r_1 := (z11.cell (p := ⟨w.heap.size + 1 + 1, 1, none⟩) (by simp only []; omega)).trans r_1
  replace r_2 := (z11.cell (p := ⟨w.heap.size + 1 + 1, 2, none⟩) (by simp only []; omega)).trans r_2
  replace r_f0 := (z11.frozen (p := ⟨w.heap.size + 1 + 1, 0, none⟩) (by simp only []; omega)).trans r_f0
  replace r_f1 := (z11.frozen (p := ⟨w.heap.size + 1 + 1, 1, none⟩) (by simp only []; omega)).trans r_f1
  replace r_f2 := (z11.frozen (p := ⟨w.heap.size + 1 + 1, 2, none⟩) (by simp only []; omega)).trans r_f2
  go_wp2_with fail
  refine bodyPost_ret (v := .tuple #[.agg #[.string s, .int .i64 i, .slice vb vn vc], .bool true]) (by simp [results, Tryz.results85, go_sem, r_0, r_1, r_2, r_f0, r_f1, r_f2]) rfl ⟨_, rfl, ?_, ?_⟩
  · refine Own.mono (lo := w10.heap.size) (hi := w11.heap.size) ?_ (by omega) (by simp [World.setCell])
    repeat (refine Own.setOut ?_ rfl (by simp only []; omega))
    exact ho
  · repeat (refine Below.setCell ?_ (by simp only []; omega) _)
    exact hb6

end Go.Proofs.YtkipgbgkhffkkaaGreat

/- Contracts: the variables of a mask. -/
namespace Go.Proofs.YtkipgbgkhffkkaaGreat
open Go.RowKit
set_option linter.unusedVariables false
set_option linter.unusedSimpArgs false
set_option synthInstance.maxSize 2000
set_option synthInstance.maxHeartbeats 400000

set_option maxHeartbeats 1000000 in
theorem l7Bits_any (cs : List Value) (x : DQ) (K n : Nat) (w : World) (h : rQ.rep w cs x) (hq : QOk x n) (hK : K < 16) :
    Calls Tryz.prog 96 #[.agg cs.toArray, .int .i64 K] w fun e w' => e = .returned (.int .i64 (bitsOf x K)) ∧ Below w.heap.size w w' := by
  obtain ⟨ub, un, uc, rfl, hi, g1⟩ := rQ_open h
  clear h hi
  obtain ⟨i, xs⟩ := x
  simp only at g1
  have t0 := rS_sl g1
  have hl := t0.len
  have hn4 := hq.le
  have hl4 := hq.len
  simp only at hl4
  have hun : un ≤ 4 := by omega
  have HQ := Lib.hid hq
  have HB := Lib.hid (show bitsOf (i, xs) K = qbits K 0 0 (xs.drop 0) by simp [bitsOf])
  clear hq hl4
  have hb0 : Below w.heap.size w w := Below.refl _ _
  go_enter Tryz.func96, Tryz.ntmps96
  obtain ⟨w1, hw1⟩ : ∃ W, W = w.alloc (.cells #[.int .i64 i, .slice ub un uc] 38) := ⟨_, rfl⟩
  have z1 : Below w.heap.size w w1 := by rw [hw1]; exact (Below.refl _ _).alloc (Nat.le_refl _) _
  have s1 : w1.heap.size = w.heap.size + 1 := by rw [hw1]; simp
  have hb1 := on hb0 z1
  have b_0 : w1.cell? ⟨w.heap.size, 0, none⟩ = some (.int .i64 i) := by rw [hw1]; exact box_cell (Below.refl _ _) rfl
  have b_1 : w1.cell? ⟨w.heap.size, 1, none⟩ = some (.slice ub un uc) := by rw [hw1]; exact box_cell (Below.refl _ _) rfl
  have raw1_b_0 := b_0
  have raw1_b_1 := b_1
  rw [hw1] at raw1_b_0 raw1_b_1
  go_wp2_with fail
  rw [← hw1]
  clear hw1
  clear raw1_b_0 raw1_b_1
  go_loopw [5, 6] (fun s k wr => ∃ j m : Nat, j ≤ un ∧ m < 2 ^ n ∧ k = .int .i64 j ∧ s = .int .i64 m ∧ Hid (bitsOf (i, xs) K = qbits K m j (xs.drop j)) ∧ Drew w1 wr) (fun _ k _ => un - (intOf k).toNat)
  case atStart => exact ⟨0, 0, Nat.zero_le _, Nat.two_pow_pos _, rfl, rfl, HB.out, Drew.refl _⟩
  case round =>
    obtain ⟨j, m, hj, hm, rfl, rfl, hE, hdr⟩ := hrel
    obtain ⟨wo, rfl⟩ : ∃ W, W = wr := ⟨_, rfl⟩
    have hlc := hdr
    replace hdr : Below w1.heap.size w1 wo := hdr.below _
    have s2 := hdr.size
    have hb2 := on hb1 hdr
    replace b_0 := (hdr.cell (p := ⟨w.heap.size, 0, none⟩) (by simp only []; omega)).trans b_0
    replace b_1 := (hdr.cell (p := ⟨w.heap.size, 1, none⟩) (by simp only []; omega)).trans b_1
    by_cases hlt : j < un
    · obtain ⟨b1, o1, cs, x, rfl, hx, hr, hc⟩ := t0.at hlt
      obtain ⟨s, vs⟩ := x
      obtain ⟨vb, vn, vc, rfl, hs, g2⟩ := rA_open hr
      simp only at hs g2
      have i0 := rI_ints g2
      have hvl := i0.len
      have hvs := i0.small
      have e_lt : b1 < w.heap.size := cell_lt (hc 0 _ rfl)
      have e_0 : wo.cell? ⟨b1, o1 + j * 2, none⟩ = some (.string s) := (hb2.cell (p := ⟨b1, o1 + j * 2, none⟩) e_lt).trans (by have h9 := hc 0 _ rfl; rw [← Nat.add_assoc] at h9; exact h9)
      have e_1 : wo.cell? ⟨b1, o1 + j * 2 + 1, none⟩ = some (.slice vb vn vc) := (hb2.cell (p := ⟨b1, o1 + j * 2 + 1, none⟩) e_lt).trans (by have h9 := hc 1 _ rfl; rw [← Nat.add_assoc] at h9; exact h9)
      have HA := Lib.hid (hE.out.trans (qbits_at hx.out))
      have HV := Lib.hid (HQ.out.vars _ (List.mem_of_getElem? hx.out))
      clear hc t0 hr hl hx hE HB
      simp only at HA HV
      have hbt := bit_test K j (by omega)
      cases hb : bitAt K j with
      | true =>
        rw [hb] at HA hbt
        replace HA : Hid (bitsOf (i, xs) K = qbits K (vbits m (vs.drop 0)) (j + 1) (xs.drop (j + 1))) := Lib.hid (by rw [HA.out]; simp)
        clear hb
        go_wp2_with fail
        go_loopw [5, 7] (fun s k wr => ∃ i' m : Nat, i' ≤ vn ∧ m < 2 ^ n ∧ k = .int .i64 i' ∧ s = .int .i64 m ∧ Hid (bitsOf (i, xs) K = qbits K (vbits m (vs.drop i')) (j + 1) (xs.drop (j + 1))) ∧ Drew wo wr) (fun _ k _ => vn - (intOf k).toNat)
        case atStart => exact ⟨0, m, Nat.zero_le _, hm, rfl, rfl, HA.out, Drew.refl _⟩
        case round =>
          obtain ⟨i', m, hi, hm, rfl, rfl, hE, hdr⟩ := hrel
          have hlo := hdr
          replace hdr : Below wo.heap.size wo wr := hdr.below _
          have s3 := hdr.size
          have hb3 := on hb2 hdr
          replace b_0 := (hdr.cell (p := ⟨w.heap.size, 0, none⟩) (by simp only []; omega)).trans b_0
          replace b_1 := (hdr.cell (p := ⟨w.heap.size, 1, none⟩) (by simp only []; omega)).trans b_1
          replace e_0 := (hdr.cell (p := ⟨b1, o1 + j * 2, none⟩) (by simp only []; omega)).trans e_0
          replace e_1 := (hdr.cell (p := ⟨b1, o1 + j * 2 + 1, none⟩) (by simp only []; omega)).trans e_1
          have hm16 := pow_le16 hn4
          by_cases hlv : i' < vn
          · obtain ⟨b2, o2, v, rfl, hc, hv, hv1, hv2⟩ := i0.get hlv
            have v0_lt : b2 < w.heap.size := cell_lt hc
            have v0 : wr.cell? ⟨b2, o2 + i', none⟩ = some (.int .i64 v) := (hb3.cell (p := ⟨b2, o2 + i', none⟩) v0_lt).trans hc
            clear hc
            have hvr := HV.out v (by rw [← hv.out]; exact List.getD_eq_getElem?_getD (l := vs) ▸ (by rw [List.getElem?_eq_getElem (by omega)]; exact List.getElem_mem _))
            obtain ⟨v, rfl⟩ := Int.eq_ofNat_of_zero_le hvr.1
            have hvn : v < n := by omega
            have HE := Lib.hid (hE.out.trans (show _ = qbits K (vbits (m ||| 2 ^ v) (vs.drop (i' + 1))) (j + 1) (xs.drop (j + 1)) by rw [vbits_at (by omega) hv.out]))
            have hmo := or_lt hm hvn
            clear i0 hvl hvr hv hE
            go_wp2_with fail
            go_roundw
            case rel => exact ⟨i' + 1, m ||| 2 ^ v, by omega, hmo, by go_num, by show Value.int _ _ = _; rw [or_pow (by omega) (by omega)], HE.out, hlo⟩
            case measure => simp [intOf]; omega
          · have HE := Lib.hid (show bitsOf (i, xs) K = qbits K m (j + 1) (xs.drop (j + 1)) by rw [hE.out, vbits_end (by omega)])
            clear i0 hvl hE
            go_wp2_with fail
            go_roundw
            case rel => exact ⟨j + 1, m, by omega, hm, by go_num, rfl, HE.out, hlc.trans hlo⟩
            case measure => simp [intOf]; omega
      | false =>
        rw [hb] at HA hbt
        replace HA : Hid (bitsOf (i, xs) K = qbits K m (j + 1) (xs.drop (j + 1))) := Lib.hid (by rw [HA.out]; simp)
        clear hb
        go_wp2_with fail
        go_loopw [5, 7] (fun s k wr => k = .int .i64 0 ∧ s = .int .i64 m ∧ wr = wo) (fun _ _ _ => 0)
        case atStart => exact ⟨rfl, rfl, rfl⟩
        case round =>
          obtain ⟨rfl, rfl, rfl⟩ := hrel
          clear i0 hvl
          by_cases hv0 : 0 < vn
          all_goals
            go_wp2_with fail
            go_roundw
            case rel => exact ⟨j + 1, m, by omega, hm, by go_num, rfl, HA.out, hlc⟩
            case measure => simp [intOf]; omega
    · have HE := Lib.hid (hE.out.trans (qbits_end (by omega)))
      clear t0 hl hE HB
      go_wp2_with fail
      go_ret
      exact ⟨ret_int (by rw [HE.out]), hb2⟩

set_option maxHeartbeats 1000000 in
theorem l7List_any (M : Nat) (w : World) (hM : M < 16) :
    Calls Tryz.prog 95 #[.int .i64 M] w fun e w' => ∃ b n c, e = .returned (.slice b n c) ∧ OwnInts w.heap.size w' (.slice b n c) n (bitsTo M 4) ∧ Below w.heap.size w w' := by
  go_enter Tryz.func95, Tryz.ntmps95
  go_wp2
  go_loopw [3, 4] (fun v i wr => ∃ (j : Nat), j ≤ 4 ∧ i = .int .i64 j ∧ ∃ n, OwnInts w.heap.size wr v n (bitsTo M j) ∧ Below w.heap.size w wr) (fun _ i _ => 4 - (intOf i).toNat)
  case atStart => exact ⟨0, Nat.zero_le _, rfl, 0, own_empty (Nat.le_refl _), (Below.refl _ _).alloc (Nat.le_refl _) _⟩
  case round =>
    obtain ⟨j, hj, rfl, n, hown, hbl⟩ := hrel
    have hsz := hbl.size
    have hn4 : n ≤ 4 := by have := hown.len; have := bitsTo_len M j; omega
    by_cases hlt : j < 4
    · cases hbit : bitAt M j with
      | true =>
        have ht := bit_test M j (by omega)
        rw [hbit] at ht
        have HB := Lib.hid hbit
        clear hbit
        go_wp2_with ((at_builtin; refine wpList_app1 _ _ _ _ _ _ hown hbl hsz ⟨by omega, by omega⟩ (by omega) rfl rfl rfl rfl ?_; intro v' w1 hown' hb' hsz'))
        rw [← bitsTo_yes HB.out] at hown'
        go_roundw
        case rel => exact ⟨j + 1, by omega, by go_num, n + 1, hown', hb'⟩
        case measure => simp [intOf]; omega
      | false =>
        have ht := bit_test M j (by omega)
        rw [hbit] at ht
        rw [← bitsTo_no hbit] at hown
        have HO := Lib.hid hown
        clear hbit hown
        go_wp2_with fail
        go_roundw
        case rel => exact ⟨j + 1, by omega, by go_num, n, HO.out, hbl⟩
        case measure => simp [intOf]; omega
    · obtain rfl : j = 4 := by omega
      obtain ⟨a, cap, rfl, _⟩ := own_form hown.row
      go_wp2
      go_ret
      exact ⟨_, _, _, rfl, hown, hbl⟩

set_option maxHeartbeats 1000000 in
theorem maskVars_spec (cs : List Value) (x : DQ) (k : Int) (w : World) (h : rQ.rep w cs x) :
    Calls Tryz.prog 55 #[.agg cs.toArray, .int .i64 k] w fun e w' => ∃ u, e = .returned u ∧ Own oI w.heap.size w'.heap.size w' [u] (maskVars x k) ∧ Below w.heap.size w w' := by
  obtain ⟨ub, un, uc, rfl⟩ := rQ_form h
  have hb0 : Below w.heap.size w w := Below.refl _ _
  go_enter Tryz.func55, Tryz.ntmps55
  obtain ⟨w1, hw1⟩ : ∃ W, W = w.alloc (.cells #[.int .i64 x.1, .slice ub un uc] 38) := ⟨_, rfl⟩
  have z1 : Below w.heap.size w w1 := by rw [hw1]; exact (Below.refl _ _).alloc (Nat.le_refl _) _
  have s1 : w1.heap.size = w.heap.size + 1 := by rw [hw1]; simp
  have hb1 := on hb0 z1
  have b_0 : w1.cell? ⟨w.heap.size, 0, none⟩ = some (.int .i64 x.1) := by rw [hw1]; exact box_cell (Below.refl _ _) rfl
  have b_1 : w1.cell? ⟨w.heap.size, 1, none⟩ = some (.slice ub un uc) := by rw [hw1]; exact box_cell (Below.refl _ _) rfl
  have raw1_b_0 := b_0
  have raw1_b_1 := b_1
  rw [hw1] at raw1_b_0 raw1_b_1
  go_wp2_with fail
  rw [← hw1]
  clear hw1
  clear raw1_b_0 raw1_b_1
  refine (maskOk_spec _ x k _ (rQ.mono h hb1)).mono ?_
  rintro e w2 ⟨rfl, z2⟩
  have s3 := z2.size
  have hb3 := on hb1 z2
  replace b_0 := (z2.cell (p := ⟨w.heap.size, 0, none⟩) (by simp only []; omega)).trans b_0
  replace b_1 := (z2.cell (p := ⟨w.heap.size, 1, none⟩) (by simp only []; omega)).trans b_1
  by_cases hv : maskOkB x k = true
  case neg =>
    replace hv : maskOkB x k = false := by simpa using hv
    have HE := Lib.hid (maskVars_no hv)
    go_wp2_with fail
    go_ret
    exact ⟨_, rfl, by rw [HE.out]; exact ((own_empty (Nat.le_refl _)).own).mono (by omega) (Nat.le_refl _), hb3.trans ((Below.refl _ _).alloc (by omega) _)⟩
  obtain ⟨K, rfl, hK⟩ := maskOkB_lt hv
  obtain ⟨n, hq⟩ := QOk.of (maskOkB_valid hv)
  have HE := Lib.hid (maskVars_yes hv)
  have HK := pow_le16 hq.len
  have hK16 : K < 16 := by omega
  clear hK HK
  go_wp2_with fail
  refine (l7Bits_any _ x K n _ (rQ.mono h hb3) hq hK16).mono ?_
  rintro e w4 ⟨rfl, z4⟩
  have s5 := z4.size
  have hb5 := on hb3 z4
  replace b_0 := (z4.cell (p := ⟨w.heap.size, 0, none⟩) (by simp only []; omega)).trans b_0
  replace b_1 := (z4.cell (p := ⟨w.heap.size, 1, none⟩) (by simp only []; omega)).trans b_1
  have hb16 : bitsOf x K < 16 := Nat.lt_of_lt_of_le (hq.bits_lt K) (pow_le16 hq.le)
  have HQ := Lib.hid hq
  clear hq
  go_wp2_with fail
  refine (l7List_any _ _ hb16).mono ?_
  rintro e w9 ⟨b, n9, c, rfl, ho, z9⟩
  have s6 := z9.size
  have hb6 := on hb5 z9
  replace b_0 := (z9.cell (p := ⟨w.heap.size, 0, none⟩) (by simp only []; omega)).trans b_0
  replace b_1 := (z9.cell (p := ⟨w.heap.size, 1, none⟩) (by simp only []; omega)).trans b_1
  go_wp2_with fail
  go_ret
  exact ⟨_, rfl, by rw [HE.out]; exact ho.own.mono (by omega) (Nat.le_refl _), hb6⟩

end Go.Proofs.YtkipgbgkhffkkaaGreat

/- Contracts: the reference's search for the rows of an answer. -/
namespace Go.Proofs.YtkipgbgkhffkkaaGreat
open Go.RowKit
set_option linter.unusedVariables false
set_option linter.unusedSimpArgs false
set_option synthInstance.maxSize 2000
set_option synthInstance.maxHeartbeats 400000

/-- Tables and atoms, side by side. -/
def zipRA (ts : List DT) (zs : List DA) : List RA := List.zipWith (fun t a => (t.2.2, a.2)) ts zs
theorem zipRA_get {ts : List DT} {zs : List DA} {i : Nat} {t : DT} {a : DA} (h : ts[i]? = some t) (h' : zs[i]? = some a) : (zipRA ts zs)[i]? = some (t.2.2, a.2) := by
  simp [zipRA, List.getElem?_zipWith, h, h']
theorem zipRA_len {ts : List DT} {zs : List DA} (h : ts.length = zs.length) : (zipRA ts zs).length = ts.length := by
  simp [zipRA, h]
def walkTo (L : List RA) (vars : List Int) (k : Nat) (row : List Int) (m : Nat) : List (List Int) := (List.range m).flatMap (fun v : Nat => walkE L vars k (row ++ [(v : Int)]))
theorem walkTo_succ (L : List RA) (vars : List Int) (k : Nat) (row : List Int) (m : Nat) : walkTo L vars k row (m + 1) = walkTo L vars k row m ++ walkE L vars k (row ++ [(m : Int)]) := by
  simp [walkTo, List.range_succ]
theorem walkTo_len {L : List RA} {vars : List Int} {k : Nat} {row : List Int} (hk : k ≤ 3) : ∀ m, m ≤ 10 → (walkTo L vars k row m).length ≤ m * 1000
  | 0, _ => by simp [walkTo]
  | m + 1, h => by
    rw [walkTo_succ, List.length_append]
    have h1 := walkTo_len (L := L) (vars := vars) (row := row) hk m (by omega)
    have h2 := walkE_len L vars k (row ++ [(m : Int)])
    have h3 : 10 ^ k ≤ 10 ^ 3 := Nat.pow_le_pow_right (by omega) hk
    omega
theorem walkE_no {L : List RA} {vars row : List Int} {k : Nat} (h : fitsAll L vars row = false) : walkE L vars k row = [] := by
  cases k <;> simp [walkE, h]
theorem walkE_zero {L : List RA} {vars row : List Int} (h : fitsAll L vars row = true) : walkE L vars 0 row = [row] := by simp [walkE, h]
theorem walkE_succ {L : List RA} {vars row : List Int} {k : Nat} (h : fitsAll L vars row = true) : walkE L vars (k + 1) row = walkTo L vars k row 10 := by simp [walkE, h, walkTo]
theorem own_noneII {W : World} {g lo : Nat} (hg : W.heap.size = g) (hl : lo ≤ g) : Own oII lo (W.alloc (.cells #[] 30)).heap.size (W.alloc (.cells #[] 30)) [.slice (some ⟨g, 0, none⟩) 0 0] [] := by
  subst hg
  exact ((Acc.empty (E := 30) (o := oI) (S := W.heap.size) (hi := W.heap.size + 1) (W := W) rfl (by omega)).own hl hl (by simp)).mono (Nat.le_refl _) (Nat.le_refl _)
/-- A slice of one row, made. -/
theorem own_oneII {W : World} {lo h1 : Nat} {x : List Int} {v : Value} (h : Own oI lo h1 W [v] x) (hh : h1 ≤ W.heap.size) (hl : lo ≤ W.heap.size) : Own oII lo (W.alloc (.cells #[v] 30)).heap.size (W.alloc (.cells #[v] 30)) [.slice (some ⟨W.heap.size, 0, none⟩) 1 1] [x] := by
  obtain ⟨fp, h2, h3, h4⟩ := h
  have hb : Below W.heap.size W (W.alloc (.cells #[v] 30)) := (Below.refl _ _).alloc (Nat.le_refl _) _
  refine ⟨bl (.slice (some ⟨W.heap.size, 0, none⟩) 1 1) ++ [fp].flatten, ⟨_, [[v]], [fp], rfl, rfl, ?_, ⟨oI.frame h2 (fun k hk => hb.block k (by have := h4 k hk; omega)), trivial⟩⟩, ?_, ?_⟩
  · exact ⟨rfl, .inr ⟨W.heap.size, 1, #[v], rfl, Nat.zero_le _, heap_alloc_new W _, Nat.le_refl _, by unfold maxLen; omega, rfl, rfl⟩⟩
  · simp only [bl, Value.ownBlock, Option.toList_some, List.flatten_cons, List.flatten_nil, List.append_nil, List.singleton_append, List.nodup_cons]
    exact ⟨fun hm => by have := h4 _ hm; omega, h3⟩
  · intro k hk
    simp only [bl, Value.ownBlock, Option.toList_some, List.flatten_cons, List.flatten_nil, List.append_nil, List.singleton_append, List.mem_cons] at hk
    rcases hk with rfl | hk
    · simp; omega
    · have := h4 k hk; simp; omega

theorem Acc.some {α : Type} {E : TypeId} {o : OS α} {lo S hi : Nat} {w : World} {v : Value} {xs : List α} (h : Acc E o lo S hi w v xs) (hv : v ≠ .slice none 0 0) : ∃ g n c, v = .slice (some ⟨g, 0, none⟩) n c := by
  obtain ⟨fp, ⟨v1, css, fps, hv1, _, h1, _⟩, _⟩ := h
  simp at hv1
  subst hv1
  rcases h1.2 with ⟨h2, _⟩ | ⟨g, cap, cur, h2, _⟩
  · exact absurd h2 hv
  · exact ⟨g, _, cap, h2⟩

set_option maxRecDepth 100000 in
set_option maxHeartbeats 4000000 in
theorem walk_any (lb ab vb : Option Addr) (ln lc an ac vn vc : Nat) (ts : List DT) (zs : List DA) (vars : List Int) (hlen : ts.length = zs.length) (hfit : ∀ (i : Nat) (t : DT) (a : DA), ts[i]? = some t → zs[i]? = some a → ∀ r ∈ t.2.2, r.length = a.2.length) (hv4 : vars.length ≤ 4) :
    ∀ (k : Nat) (rb : Option Addr) (rn rc : Nat) (row : List Int) (w : World), Sl rT w lb ln ts → Sl rA w ab an zs → Ints w vb vn vars → Ints w rb rn row → row.length + k = vars.length →
    Calls Tryz.prog 56 #[.slice lb ln lc, .slice ab an ac, .slice vb vn vc, .slice rb rn rc] w fun e w' => ∃ g n c, e = .returned (.slice (some ⟨g, 0, none⟩) n c) ∧ Own oII w.heap.size w'.heap.size w' [.slice (some ⟨g, 0, none⟩) n c] (walkE (zipRA ts zs) vars k row) ∧ Below w.heap.size w w' := by
  intro k
  induction k with
  | zero =>
    intro rb rn rc row w ht ha hv hr hrk
    have hl := ht.len
    have hn := ht.small
    have hal := ha.len
    have hvl := hv.len
    have hrl := hr.len
    have hrn := hr.small
    have HFIT := Lib.hid hfit
    have HF := Lib.hid (fun cs ds t x W (hW : Below w.heap.size w W) (h1 : rT.rep W cs t) (h2 : rA.rep W ds x) (h3 : ∀ r ∈ t.2.2, r.length = x.2.length) => fits_any cs ds t x vb rb vn vc rn rc vars row W h1 h2 (hv.below hW) (hr.below hW) (by omega) h3)
    obtain ⟨F, hF⟩ : ∃ F, fitsAll (zipRA ts zs) vars row = F := ⟨_, rfl⟩
    have HE0 : Hid (F = false → walkE (zipRA ts zs) vars 0 row = []) := Lib.hid (fun h => walkE_no (hF.trans h))
    have HE1 : Hid (F = true → walkE (zipRA ts zs) vars 0 row = [row]) := Lib.hid (fun h => walkE_zero (hF.trans h))
    have HF0 : Hid (F = ((zipRA ts zs).drop 0).all (fitsB vars row)) := Lib.hid (by rw [← hF]; rfl)
    have HZ : Hid (∀ (i : Nat) (t : DT) (a : DA), ts[i]? = some t → zs[i]? = some a → (zipRA ts zs)[i]? = some (t.2.2, a.2)) := Lib.hid (fun i t a h1 h2 => zipRA_get h1 h2)
    have HZL := Lib.hid (zipRA_len hlen)
    obtain ⟨E, hE⟩ : ∃ E, walkE (zipRA ts zs) vars 0 row = E := ⟨_, rfl⟩
    rw [hE] at HE0 HE1 ⊢
    obtain ⟨L, hL⟩ : ∃ L, zipRA ts zs = L := ⟨_, rfl⟩
    rw [hL] at HF0 HZ HZL
    clear hF hE hL hfit
    have hb0 : Below w.heap.size w w := Below.refl _ _
    go_enter Tryz.func56, Tryz.ntmps56
    go_wp2_with fail
    go_loopw [9] (fun i wr => ∃ j : Nat, j ≤ ln ∧ i = .int .i64 j ∧ Hid (F = (L.drop j).all (fitsB vars row)) ∧ Below w.heap.size w wr) (fun i _ => ln - (intOf i).toNat)
    case atStart => exact ⟨0, Nat.zero_le _, rfl, HF0.out, Below.refl _ _⟩
    case round =>
      obtain ⟨j, hj, rfl, hG, hdr⟩ := hrel
      obtain ⟨wo, rfl⟩ : ∃ W, W = wr := ⟨_, rfl⟩
      clear HF0
      have s1 := hdr.size
      have hb1 := on hb0 hdr
      by_cases hlt : j < ln
      · obtain ⟨b1, o1, cs, t, rfl, hx, hrt, hc⟩ := ht.at hlt
        obtain ⟨b2, o2, ds, x, rfl, hx2, hrx, hc2⟩ := ha.at (show j < an by omega)
        have hfj := HFIT.out j t x hx.out hx2.out
        have HS := Lib.hid (hG.out.trans (by rw [drop_at (HZ.out j t x hx.out hx2.out), List.all_cons]))
        obtain ⟨q, hq⟩ : ∃ q, fitsB vars row (t.2.2, x.2) = q := ⟨_, rfl⟩
        have HFJ := Lib.hid (fun W (hW : Below w.heap.size w W) => HF.out cs ds t x W hW (rT.mono hrt hW) (rA.mono hrx hW) hfj)
        rw [hq] at HS
        rw [hq] at HFJ
        obtain ⟨s, ar, rows⟩ := t
        obtain ⟨ub, un, uc, rfl, _, _, _⟩ := rT_open hrt
        obtain ⟨m1, av⟩ := x
        obtain ⟨xb, xn, xc, rfl, _, _⟩ := rA_open hrx
        have e_lt : b1 < w.heap.size := cell_lt (hc 0 _ rfl)
        have e_0 : wo.cell? ⟨b1, o1 + j * 3, none⟩ = some (.string s) := (hb1.cell (p := ⟨b1, o1 + j * 3, none⟩) e_lt).trans (by have h9 := hc 0 _ rfl; rw [← Nat.add_assoc] at h9; exact h9)
        have e_1 : wo.cell? ⟨b1, o1 + j * 3 + 1, none⟩ = some (.int .i64 ar) := (hb1.cell (p := ⟨b1, o1 + j * 3 + 1, none⟩) e_lt).trans (by have h9 := hc 1 _ rfl; rw [← Nat.add_assoc] at h9; exact h9)
        have e_2 : wo.cell? ⟨b1, o1 + j * 3 + 2, none⟩ = some (.slice ub un uc) := (hb1.cell (p := ⟨b1, o1 + j * 3 + 2, none⟩) e_lt).trans (by have h9 := hc 2 _ rfl; rw [← Nat.add_assoc] at h9; exact h9)
        have f_lt : b2 < w.heap.size := cell_lt (hc2 0 _ rfl)
        have f_0 : wo.cell? ⟨b2, o2 + j * 2, none⟩ = some (.string m1) := (hb1.cell (p := ⟨b2, o2 + j * 2, none⟩) f_lt).trans (by have h9 := hc2 0 _ rfl; rw [← Nat.add_assoc] at h9; exact h9)
        have f_1 : wo.cell? ⟨b2, o2 + j * 2 + 1, none⟩ = some (.slice xb xn xc) := (hb1.cell (p := ⟨b2, o2 + j * 2 + 1, none⟩) f_lt).trans (by have h9 := hc2 1 _ rfl; rw [← Nat.add_assoc] at h9; exact h9)
        have hjan : j < an := by omega
        clear hG hx hrt hc hx2 hrx hc2 hfj hq HFIT HF ht ha hv hr hlen
        go_wp2_with fail
        first | (go_region_held3 (fun W => W.cell? ⟨b1, o1 + j * 3, none⟩ = some (.string s) ∧ W.cell? ⟨b1, o1 + j * 3 + 1, none⟩ = some (.int .i64 ar) ∧ W.cell? ⟨b1, o1 + j * 3 + 2, none⟩ = some (.slice ub un uc) ∧ W.cell? ⟨b2, o2 + j * 2, none⟩ = some (.string m1) ∧ W.cell? ⟨b2, o2 + j * 2 + 1, none⟩ = some (.slice xb xn xc)) (first | exact ⟨e_0, e_1, e_2, f_0, f_1⟩ | assumption) (first | (go_at_call 97; (with_reducible refine (HFJ.out _ hb1.drew).mono ?_); rintro e w2 ⟨rfl, z2⟩; replace z2 : Below wo.heap.size wo w2 := on (Below.refl _ _).drew z2; have sz2 := z2.size; have hS2 := (⟨(z2.cell (p := ⟨b1, o1 + j * 3, none⟩) (by simp only []; omega)).trans e_0, (z2.cell (p := ⟨b1, o1 + j * 3 + 1, none⟩) (by simp only []; omega)).trans e_1, (z2.cell (p := ⟨b1, o1 + j * 3 + 2, none⟩) (by simp only []; omega)).trans e_2, (z2.cell (p := ⟨b2, o2 + j * 2, none⟩) (by simp only []; omega)).trans f_0, (z2.cell (p := ⟨b2, o2 + j * 2 + 1, none⟩) (by simp only []; omega)).trans f_1⟩ : (fun W => W.cell? ⟨b1, o1 + j * 3, none⟩ = some (.string s) ∧ W.cell? ⟨b1, o1 + j * 3 + 1, none⟩ = some (.int .i64 ar) ∧ W.cell? ⟨b1, o1 + j * 3 + 2, none⟩ = some (.slice ub un uc) ∧ W.cell? ⟨b2, o2 + j * 2, none⟩ = some (.string m1) ∧ W.cell? ⟨b2, o2 + j * 2 + 1, none⟩ = some (.slice xb xn xc)) w2); have hx2 := on hb1 z2))) | fail "held"
        replace z2 : Below wo.heap.size wo w2 := z2
        clear hS2 hx2
        have s3 := z2.size
        have hb3 := on hb1 z2
        replace e_0 := (z2.cell (p := ⟨b1, o1 + j * 3, none⟩) (by simp only []; omega)).trans e_0
        replace e_1 := (z2.cell (p := ⟨b1, o1 + j * 3 + 1, none⟩) (by simp only []; omega)).trans e_1
        replace e_2 := (z2.cell (p := ⟨b1, o1 + j * 3 + 2, none⟩) (by simp only []; omega)).trans e_2
        replace f_0 := (z2.cell (p := ⟨b2, o2 + j * 2, none⟩) (by simp only []; omega)).trans f_0
        replace f_1 := (z2.cell (p := ⟨b2, o2 + j * 2 + 1, none⟩) (by simp only []; omega)).trans f_1
        cases q with
        | false =>
          have HE : Hid (E = []) := Lib.hid (HE0.out (by rw [HS.out]; rfl))
          clear HS HE0 HE1
          go_wp2_with fail
          go_ret
          refine ⟨_, _, _, rfl, ?_, (hb3).alloc (by omega) _⟩
          rw [HE.out]
          exact own_noneII rfl (by omega)
        | true =>
          have HN : Hid (F = (L.drop (j + 1)).all (fitsB vars row)) := Lib.hid (by rw [HS.out, Bool.true_and])
          clear HS
          go_wp2_with fail
          go_roundw
          case rel => exact ⟨j + 1, by omega, by go_num, HN.out, hb3⟩
          case measure => simp [intOf]; omega
      · have HE : Hid (E = [row]) := Lib.hid (HE1.out (by rw [hG.out, List.drop_eq_nil_of_le (by rw [HZL.out]; omega)]; rfl))
        have hvr : (rn : Int) = (vn : Int) := by omega
        have hd : ((rn : Int) == (vn : Int)) = true := by rw [beq_iff_eq]; exact hvr
        have hri := hr.below hb1
        obtain ⟨v1, w1, hr1, ho1, hbw1, hsz1⟩ := run_copyI wo _ 30 rn rc rb row hri (by omega) rfl
        obtain ⟨c1, c2, c3, rfl⟩ := oI_form1 ho1
        have HO := Lib.hid (own_oneII (lo := w.heap.size) (ho1.mono (by omega) (Nat.le_refl _)) (Nat.le_refl _) (by omega))
        have HB9 := Lib.hid (((hb1).trans (hbw1.mono (by omega))).alloc (B := w.heap.size) (by omega) (.cells #[.slice c1 c2 c3] 30))
        clear ho1 hri HE0 HE1 hG HF HFIT ht ha hv hr
        go_wp2_with ((at_builtin; refine wpList_app_run hr1 rfl rfl rfl rfl rfl ?_))
        go_ret
        exact ⟨_, _, _, rfl, by rw [HE.out]; exact HO.out, HB9.out⟩
  | succ k ih =>
    intro rb rn rc row w ht ha hv hr hrk
    have hl := ht.len
    have hn := ht.small
    have hal := ha.len
    have hvl := hv.len
    have hrl := hr.len
    have hrn := hr.small
    have HFIT := Lib.hid hfit
    have HF := Lib.hid (fun cs ds t x W (hW : Below w.heap.size w W) (h1 : rT.rep W cs t) (h2 : rA.rep W ds x) (h3 : ∀ r ∈ t.2.2, r.length = x.2.length) => fits_any cs ds t x vb rb vn vc rn rc vars row W h1 h2 (hv.below hW) (hr.below hW) (by omega) h3)
    obtain ⟨F, hF⟩ : ∃ F, fitsAll (zipRA ts zs) vars row = F := ⟨_, rfl⟩
    have HE0 : Hid (F = false → walkE (zipRA ts zs) vars (k + 1) row = []) := Lib.hid (fun h => walkE_no (hF.trans h))
    have HE1 : Hid (F = true → walkE (zipRA ts zs) vars (k + 1) row = walkTo (zipRA ts zs) vars k row 10) := Lib.hid (fun h => walkE_succ (hF.trans h))
    have HF0 : Hid (F = ((zipRA ts zs).drop 0).all (fitsB vars row)) := Lib.hid (by rw [← hF]; rfl)
    have HZ : Hid (∀ (i : Nat) (t : DT) (a : DA), ts[i]? = some t → zs[i]? = some a → (zipRA ts zs)[i]? = some (t.2.2, a.2)) := Lib.hid (fun i t a h1 h2 => zipRA_get h1 h2)
    have HZL := Lib.hid (zipRA_len hlen)
    obtain ⟨E, hE⟩ : ∃ E, walkE (zipRA ts zs) vars (k + 1) row = E := ⟨_, rfl⟩
    rw [hE] at HE0 HE1 ⊢
    obtain ⟨L, hL⟩ : ∃ L, zipRA ts zs = L := ⟨_, rfl⟩
    rw [hL] at HF0 HZ HZL HE1
    simp only [hL] at ih
    clear hF hE hL hfit
    have hb0 : Below w.heap.size w w := Below.refl _ _
    go_enter Tryz.func56, Tryz.ntmps56
    go_wp2_with fail
    go_loopw [9] (fun i wr => ∃ j : Nat, j ≤ ln ∧ i = .int .i64 j ∧ Hid (F = (L.drop j).all (fitsB vars row)) ∧ Below w.heap.size w wr) (fun i _ => ln - (intOf i).toNat)
    case atStart => exact ⟨0, Nat.zero_le _, rfl, HF0.out, Below.refl _ _⟩
    case round =>
      obtain ⟨j, hj, rfl, hG, hdr⟩ := hrel
      obtain ⟨wo, rfl⟩ : ∃ W, W = wr := ⟨_, rfl⟩
      clear HF0
      have s4 := hdr.size
      have hb4 := on hb0 hdr
      by_cases hlt : j < ln
      · obtain ⟨b1, o1, cs, t, rfl, hx, hrt, hc⟩ := ht.at hlt
        obtain ⟨b2, o2, ds, x, rfl, hx2, hrx, hc2⟩ := ha.at (show j < an by omega)
        have hfj := HFIT.out j t x hx.out hx2.out
        have HS := Lib.hid (hG.out.trans (by rw [drop_at (HZ.out j t x hx.out hx2.out), List.all_cons]))
        obtain ⟨q, hq⟩ : ∃ q, fitsB vars row (t.2.2, x.2) = q := ⟨_, rfl⟩
        have HFJ := Lib.hid (fun W (hW : Below w.heap.size w W) => HF.out cs ds t x W hW (rT.mono hrt hW) (rA.mono hrx hW) hfj)
        rw [hq] at HS
        rw [hq] at HFJ
        obtain ⟨s, ar, rows⟩ := t
        obtain ⟨ub, un, uc, rfl, _, _, _⟩ := rT_open hrt
        obtain ⟨m1, av⟩ := x
        obtain ⟨xb, xn, xc, rfl, _, _⟩ := rA_open hrx
        have e_lt : b1 < w.heap.size := cell_lt (hc 0 _ rfl)
        have e_0 : wo.cell? ⟨b1, o1 + j * 3, none⟩ = some (.string s) := (hb4.cell (p := ⟨b1, o1 + j * 3, none⟩) e_lt).trans (by have h9 := hc 0 _ rfl; rw [← Nat.add_assoc] at h9; exact h9)
        have e_1 : wo.cell? ⟨b1, o1 + j * 3 + 1, none⟩ = some (.int .i64 ar) := (hb4.cell (p := ⟨b1, o1 + j * 3 + 1, none⟩) e_lt).trans (by have h9 := hc 1 _ rfl; rw [← Nat.add_assoc] at h9; exact h9)
        have e_2 : wo.cell? ⟨b1, o1 + j * 3 + 2, none⟩ = some (.slice ub un uc) := (hb4.cell (p := ⟨b1, o1 + j * 3 + 2, none⟩) e_lt).trans (by have h9 := hc 2 _ rfl; rw [← Nat.add_assoc] at h9; exact h9)
        have f_lt : b2 < w.heap.size := cell_lt (hc2 0 _ rfl)
        have f_0 : wo.cell? ⟨b2, o2 + j * 2, none⟩ = some (.string m1) := (hb4.cell (p := ⟨b2, o2 + j * 2, none⟩) f_lt).trans (by have h9 := hc2 0 _ rfl; rw [← Nat.add_assoc] at h9; exact h9)
        have f_1 : wo.cell? ⟨b2, o2 + j * 2 + 1, none⟩ = some (.slice xb xn xc) := (hb4.cell (p := ⟨b2, o2 + j * 2 + 1, none⟩) f_lt).trans (by have h9 := hc2 1 _ rfl; rw [← Nat.add_assoc] at h9; exact h9)
        have hjan : j < an := by omega
        clear hG hx hrt hc hx2 hrx hc2 hfj hq HFIT HF ht ha hv hr hlen ih
        go_wp2_with fail
        first | (go_region_held3 (fun W => W.cell? ⟨b1, o1 + j * 3, none⟩ = some (.string s) ∧ W.cell? ⟨b1, o1 + j * 3 + 1, none⟩ = some (.int .i64 ar) ∧ W.cell? ⟨b1, o1 + j * 3 + 2, none⟩ = some (.slice ub un uc) ∧ W.cell? ⟨b2, o2 + j * 2, none⟩ = some (.string m1) ∧ W.cell? ⟨b2, o2 + j * 2 + 1, none⟩ = some (.slice xb xn xc)) (first | exact ⟨e_0, e_1, e_2, f_0, f_1⟩ | assumption) (first | (go_at_call 97; (with_reducible refine (HFJ.out _ hb4.drew).mono ?_); rintro e w5 ⟨rfl, z5⟩; replace z5 : Below wo.heap.size wo w5 := on (Below.refl _ _).drew z5; have sz5 := z5.size; have hS5 := (⟨(z5.cell (p := ⟨b1, o1 + j * 3, none⟩) (by simp only []; omega)).trans e_0, (z5.cell (p := ⟨b1, o1 + j * 3 + 1, none⟩) (by simp only []; omega)).trans e_1, (z5.cell (p := ⟨b1, o1 + j * 3 + 2, none⟩) (by simp only []; omega)).trans e_2, (z5.cell (p := ⟨b2, o2 + j * 2, none⟩) (by simp only []; omega)).trans f_0, (z5.cell (p := ⟨b2, o2 + j * 2 + 1, none⟩) (by simp only []; omega)).trans f_1⟩ : (fun W => W.cell? ⟨b1, o1 + j * 3, none⟩ = some (.string s) ∧ W.cell? ⟨b1, o1 + j * 3 + 1, none⟩ = some (.int .i64 ar) ∧ W.cell? ⟨b1, o1 + j * 3 + 2, none⟩ = some (.slice ub un uc) ∧ W.cell? ⟨b2, o2 + j * 2, none⟩ = some (.string m1) ∧ W.cell? ⟨b2, o2 + j * 2 + 1, none⟩ = some (.slice xb xn xc)) w5); have hx5 := on hb4 z5))) | fail "held"
        replace z5 : Below wo.heap.size wo w5 := z5
        clear hS5 hx5
        have s6 := z5.size
        have hb6 := on hb4 z5
        replace e_0 := (z5.cell (p := ⟨b1, o1 + j * 3, none⟩) (by simp only []; omega)).trans e_0
        replace e_1 := (z5.cell (p := ⟨b1, o1 + j * 3 + 1, none⟩) (by simp only []; omega)).trans e_1
        replace e_2 := (z5.cell (p := ⟨b1, o1 + j * 3 + 2, none⟩) (by simp only []; omega)).trans e_2
        replace f_0 := (z5.cell (p := ⟨b2, o2 + j * 2, none⟩) (by simp only []; omega)).trans f_0
        replace f_1 := (z5.cell (p := ⟨b2, o2 + j * 2 + 1, none⟩) (by simp only []; omega)).trans f_1
        cases q with
        | false =>
          have HE : Hid (E = []) := Lib.hid (HE0.out (by rw [HS.out]; rfl))
          clear HS HE0 HE1
          go_wp2_with fail
          go_ret
          refine ⟨_, _, _, rfl, ?_, (hb6).alloc (by omega) _⟩
          rw [HE.out]
          exact own_noneII rfl (by omega)
        | true =>
          have HN : Hid (F = (L.drop (j + 1)).all (fitsB vars row)) := Lib.hid (by rw [HS.out, Bool.true_and])
          clear HS
          go_wp2_with fail
          go_roundw
          case rel => exact ⟨j + 1, by omega, by go_num, HN.out, hb6⟩
          case measure => simp [intOf]; omega
      · have HE : Hid (E = walkTo L vars k row 10) := Lib.hid (HE1.out (by rw [hG.out, List.drop_eq_nil_of_le (by rw [HZL.out]; omega)]; rfl))
        have hne : ¬ (rn : Int) = (vn : Int) := by omega
        have hd : ((rn : Int) == (vn : Int)) = false := by rw [beq_eq_false_iff_ne]; exact hne
        have HT := Lib.hid (fun W (hW : Below w.heap.size w W) => ht.below hW)
        have HA := Lib.hid (fun W (hW : Below w.heap.size w W) => ha.below hW)
        have HV := Lib.hid (fun W (hW : Below w.heap.size w W) => hv.below hW)
        have HR := Lib.hid (fun W (hW : Below w.heap.size w W) => hr.below hW)
        have HIH := Lib.hid ih
        have hk3 : k ≤ 3 := by omega
        clear HE0 HE1 hG HF HFIT ht ha hv hr ih
        obtain ⟨w7, hw7⟩ : ∃ W, W = wo.alloc (.cells #[] 30) := ⟨_, rfl⟩
        have z7 : Below wo.heap.size wo w7 := by rw [hw7]; exact (Below.refl _ _).alloc (Nat.le_refl _) _
        have s7 : w7.heap.size = wo.heap.size + 1 := by rw [hw7]; simp
        have hb7 := on hb4 z7
        have he : ∀ S, Acc 30 oI wo.heap.size S w7.heap.size w7 (.slice (some ⟨wo.heap.size, 0, none⟩) 0 0) [] := fun S => by rw [hw7]; exact Acc.empty (by omega) (by first | (simp; done) | (simp; omega))
        go_wp2_with fail
        rw [← hw7]
        clear hw7
        go_loopw [10, 11] (fun v k' wr => ∃ (j g n c : Nat), j ≤ 10 ∧ k' = .int .i64 j ∧ v = .slice (some ⟨g, 0, none⟩) n c ∧ Acc 30 oI wo.heap.size w7.heap.size wr.heap.size wr (.slice (some ⟨g, 0, none⟩) n c) (walkTo L vars k row j) ∧ Turn wo.heap.size (wo.heap.size + 1) w7 wr) (fun _ k' _ => 10 - (intOf k').toNat)
        case atStart => exact ⟨0, _, _, _, by omega, rfl, rfl, (he _).wide (Nat.le_refl _) (by omega), turn_refl _ _ _⟩
        case round =>
          obtain ⟨j, g, n, c, hj, rfl, rfl, hacc, hdr⟩ := hrel
          have hlc := hdr
          have s8 := hdr.size
          have hb8 := hb7.trans ((hdr.below (by omega)).mono (by omega))
          by_cases hltj : j < 10
          · have hjj : (j : Int) ≤ 9 := by omega
            have hjd : decide ((j : Int) ≤ 9) = true := decide_eq_true hjj
            obtain ⟨v1, w1, hr1, ho1, hbw1, hsz1⟩ := run_copyI wr _ 30 rn rc rb row (HR.out _ hb8) (by omega) rfl
            obtain ⟨c1, c2, c3, rfl⟩ := oI_form1 ho1
            obtain ⟨a2, n2, p2, w2, hr2, ho2, hbw2, hsz2⟩ := own_num 30 ho1 (r := (j : Int)) ⟨by omega, by omega⟩ (Nat.le_refl _) (by omega) (by omega) rfl
            have hb2 : Below wr.heap.size wr w2 := hbw1.trans hbw2
            have hB2 : Below w.heap.size w w2 := (hb8).trans (hb2.mono (by omega))
            have hI2 := rI_ints (ho2.rd reads_I)
            have HI := Lib.hid (HIH.out _ _ p2 _ w2 (HT.out _ hB2) (HA.out _ hB2) (HV.out _ hB2) hI2 (by rw [List.length_append]; simp; omega))
            have hacc2 := hacc.below hb2 (Nat.le_refl _)
            have ht2 := hlc.trans (turn_below hb2 (Nat.le_refl _))
            clear hI2 ho2 ho1
            go_wp2_with (first | (at_builtin; refine wpList_app_run hr1 rfl rfl rfl rfl rfl ?_) | (at_builtin; refine wpList_app_run hr2 rfl rfl rfl rfl rfl ?_))
            refine HI.out.mono ?_
            rintro e w3 ⟨g3, n3, p3, rfl, o3, z3⟩
            have sz2 := hb2.size
            have sz3 := z3.size
            have hacc3 := hacc2.below z3 (by omega)
            have ht3 := ht2.trans (turn_below z3 (by omega))
            have hwl := walkTo_len (L := L) (vars := vars) (row := row) hk3 j (by omega)
            have hwe := walkE_len L vars k (row ++ [(j : Int)])
            have hp3 : 10 ^ k ≤ 10 ^ 3 := Nat.pow_le_pow_right (by omega) hk3
            obtain ⟨v4, w4, hr4, hacc4, ht4, hsz4, hnil⟩ := run_acc_many Tryz.underlying47 infoI rfl (by decide) (by decide) rfl one_I 47 _ _ _ _ _ _ hacc3 o3 (by omega) (by omega) ht3 rfl (by omega) (by omega)
            rw [← walkTo_succ] at hacc4
            obtain ⟨g4, n4, c4, rfl⟩ := hacc4.some (fun h9 => by have := (hnil.1 h9).1; simp at this)
            have HA4 := Lib.hid hacc4
            have HT4 := Lib.hid ht4
            clear hacc hacc2 hacc3 hacc4 ht2 ht3 ht4 o3 hnil
            go_wp2_with ((at_builtin; refine wpList_app_run hr4 rfl rfl rfl rfl rfl ?_))
            go_roundw
            case rel => exact ⟨j + 1, g4, n4, c4, by omega, by go_num, rfl, HA4.out, HT4.out⟩
            case measure => simp [intOf]; omega
          · have hj10 : j = 10 := by omega
            have hjd : decide ((j : Int) ≤ 9) = false := decide_eq_false (by omega)
            have hjn : ¬ (j : Int) ≤ 9 := by omega
            rw [hj10, ← HE.out] at hacc
            have HO := Lib.hid (hacc.own (B := w.heap.size) (by omega) (by omega) (Nat.le_refl _))
            clear hacc hj10
            go_wp2_with fail
            go_ret
            exact ⟨_, _, _, rfl, HO.out, hb8⟩

end Go.Proofs.YtkipgbgkhffkkaaGreat

/- Contracts: tables looked up (3), the reference. -/
namespace Go.Proofs.YtkipgbgkhffkkaaGreat
open Go.RowKit Go.Sort
set_option linter.unusedVariables false
set_option linter.unusedSimpArgs false
set_option synthInstance.maxSize 2000
set_option synthInstance.maxHeartbeats 400000

theorem look_none_valid {db : DDb} {name : ByteArray} (h : look db name = none) (hv : validDb db = true) : idxFrom name 0 db = -1 := by
  rcases look_none_idx h with h1 | ⟨k, h1, h2⟩
  · exact h1
  · rw [hv] at h2; cases h2

set_option maxHeartbeats 1000000 in
theorem lookS_none (cs : List Value) (db : DDb) (name : ByteArray) (w : World) (h : rDb.rep w cs db) (hL : look db name = none) :
    Calls Tryz.prog 36 #[.agg cs.toArray, .string name] w fun e w' => e = .returned (.tuple #[.agg noT, .bool false]) ∧ Below w.heap.size w w' := by
  obtain ⟨ub, un, uc, rfl, g1⟩ := rDb_open h
  have hval := fun W (hW : Below w.heap.size w W) => validDb_spec [.slice ub un uc] db W (rDb.mono h hW)
  have t1 := rS_sl g1
  have hl := t1.len
  have hn := t1.small
  have HL := Lib.hid hl
  obtain ⟨q, hq⟩ : ∃ q, validDb db = q := ⟨_, rfl⟩
  simp only [hq] at hval
  have HV := Lib.hid hval
  have HQ : Hid (q = true → idxFrom name 0 db = -1) := Lib.hid (fun h9 => look_none_valid hL (hq.trans h9))
  have HE0 : Hid (idxFrom name 0 db = idxFrom name 0 (db.drop 0)) := rfl
  clear hval hL hq h g1 hl
  have hb0 : Below w.heap.size w w := Below.refl _ _
  go_enter Tryz.func36, Tryz.ntmps36
  obtain ⟨w1, hw1⟩ : ∃ W, W = w.alloc (.cells #[.slice ub un uc] 34) := ⟨_, rfl⟩
  have z1 : Below w.heap.size w w1 := by rw [hw1]; exact (Below.refl _ _).alloc (Nat.le_refl _) _
  have s1 : w1.heap.size = w.heap.size + 1 := by rw [hw1]; simp
  have hb1 := on hb0 z1
  have b_0 : w1.cell? ⟨w.heap.size, 0, none⟩ = some (.slice ub un uc) := by rw [hw1]; exact box_cell (Below.refl _ _) rfl
  have b_f0 : w1.frozen? ⟨w.heap.size, 0, none⟩ = false := by rw [hw1]; exact box_frozen (Below.refl _ _)
  have raw1_b_0 := b_0
  rw [hw1] at raw1_b_0
  obtain ⟨w2, hw2⟩ : ∃ W, W = w1.alloc (.cells #[.string ⟨#[]⟩, .int .i64 0, .slice none 0 0] 65) := ⟨_, rfl⟩
  have z2 : Below w1.heap.size w1 w2 := by rw [hw2]; exact (Below.refl _ _).alloc (Nat.le_refl _) _
  have s2 : w2.heap.size = w1.heap.size + 1 := by rw [hw2]; simp
  have hb2 := on hb1 z2
  replace b_0 := (z2.cell (p := ⟨w.heap.size, 0, none⟩) (by simp only []; omega)).trans b_0
  replace b_f0 := (z2.frozen (p := ⟨w.heap.size, 0, none⟩) (by simp only []; omega)).trans b_f0
  have e2 : w1.heap.size = w.heap.size + 1 := by omega
  have r_0 : w2.cell? ⟨w1.heap.size, 0, none⟩ = some (.string ⟨#[]⟩) := by rw [hw2]; exact box_cell (Below.refl _ _) rfl
  have r_1 : w2.cell? ⟨w1.heap.size, 1, none⟩ = some (.int .i64 0) := by rw [hw2]; exact box_cell (Below.refl _ _) rfl
  have r_2 : w2.cell? ⟨w1.heap.size, 2, none⟩ = some (.slice none 0 0) := by rw [hw2]; exact box_cell (Below.refl _ _) rfl
  rw [e2] at r_0 r_1 r_2
  have r_f0 : w2.frozen? ⟨w1.heap.size, 0, none⟩ = false := by rw [hw2]; exact box_frozen (Below.refl _ _)
  have r_f1 : w2.frozen? ⟨w1.heap.size, 1, none⟩ = false := by rw [hw2]; exact box_frozen (Below.refl _ _)
  have r_f2 : w2.frozen? ⟨w1.heap.size, 2, none⟩ = false := by rw [hw2]; exact box_frozen (Below.refl _ _)
  rw [e2] at r_f0 r_f1 r_f2
  have raw2_b_0 := b_0
  have raw2_r_0 := r_0
  have raw2_r_1 := r_1
  have raw2_r_2 := r_2
  rw [hw2, hw1] at raw2_b_0 raw2_r_0 raw2_r_1 raw2_r_2
  go_wp2_with fail
  rw [← hw1]
  rw [← hw2]
  clear hw2 hw1
  clear raw1_b_0 raw2_b_0 raw2_r_0 raw2_r_1 raw2_r_2
  go_loopw [6] (fun k wr => ∃ j : Nat, j ≤ un ∧ k = .int .i64 j ∧ Hid (idxFrom name 0 db = idxFrom name j (db.drop j)) ∧ Below w2.heap.size w2 wr) (fun k _ => un - (intOf k).toNat)
  case atStart => exact ⟨0, Nat.zero_le _, rfl, HE0.out, Below.refl _ _⟩
  case round =>
    obtain ⟨j, hj, rfl, hE, hdr⟩ := hrel
    obtain ⟨wo, rfl⟩ : ∃ W, W = wr := ⟨_, rfl⟩
    have hlc := hdr
    have s3 := hdr.size
    have hb3 := on hb2 hdr
    replace b_0 := (hdr.cell (p := ⟨w.heap.size, 0, none⟩) (by simp only []; omega)).trans b_0
    replace b_f0 := (hdr.frozen (p := ⟨w.heap.size, 0, none⟩) (by simp only []; omega)).trans b_f0
    replace r_0 := (hdr.cell (p := ⟨w.heap.size + 1, 0, none⟩) (by simp only []; omega)).trans r_0
    replace r_1 := (hdr.cell (p := ⟨w.heap.size + 1, 1, none⟩) (by simp only []; omega)).trans r_1
    replace r_2 := (hdr.cell (p := ⟨w.heap.size + 1, 2, none⟩) (by simp only []; omega)).trans r_2
    replace r_f0 := (hdr.frozen (p := ⟨w.heap.size + 1, 0, none⟩) (by simp only []; omega)).trans r_f0
    replace r_f1 := (hdr.frozen (p := ⟨w.heap.size + 1, 1, none⟩) (by simp only []; omega)).trans r_f1
    replace r_f2 := (hdr.frozen (p := ⟨w.heap.size + 1, 2, none⟩) (by simp only []; omega)).trans r_f2
    by_cases hlt : j < un
    · go_wp2_with fail
      refine (HV.out _ hb3).mono ?_
      rintro e w9 ⟨rfl, z9⟩
      have s4 := z9.size
      have hb4 := on hb3 z9
      replace b_0 := (z9.cell (p := ⟨w.heap.size, 0, none⟩) (by simp only []; omega)).trans b_0
      replace b_f0 := (z9.frozen (p := ⟨w.heap.size, 0, none⟩) (by simp only []; omega)).trans b_f0
      replace r_0 := (z9.cell (p := ⟨w.heap.size + 1, 0, none⟩) (by simp only []; omega)).trans r_0
      replace r_1 := (z9.cell (p := ⟨w.heap.size + 1, 1, none⟩) (by simp only []; omega)).trans r_1
      replace r_2 := (z9.cell (p := ⟨w.heap.size + 1, 2, none⟩) (by simp only []; omega)).trans r_2
      replace r_f0 := (z9.frozen (p := ⟨w.heap.size + 1, 0, none⟩) (by simp only []; omega)).trans r_f0
      replace r_f1 := (z9.frozen (p := ⟨w.heap.size + 1, 1, none⟩) (by simp only []; omega)).trans r_f1
      replace r_f2 := (z9.frozen (p := ⟨w.heap.size + 1, 2, none⟩) (by simp only []; omega)).trans r_f2
      replace hlc := on hlc z9
      cases q with
      | false =>
        go_wp2_with fail
        refine bodyPost_ret (v := .tuple #[.agg noT, .bool false]) (by simp [results, Tryz.results36, go_sem, noT, r_0, r_1, r_2, r_f0, r_f1, r_f2]) rfl ⟨rfl, ?_⟩
        repeat (refine Below.setCell ?_ (by simp only []; omega) _)
        exact hb4
      | true =>
        obtain ⟨b1, o1, cs, t, rfl, hx, hr, hc⟩ := t1.at hlt
        have hne : t.1 ≠ name := fun h9 => by have h8 := hE.out.trans (idxFrom_yes hx.out h9); rw [HQ.out rfl] at h8; omega
        have HE : Hid (idxFrom name 0 db = idxFrom name (j + 1) (db.drop (j + 1))) := Lib.hid (hE.out.trans (idxFrom_no hx.out hne))
        have hq9 := bytes_ne hne
        obtain ⟨s, i, rows⟩ := t
        obtain ⟨tb, tn, tc, rfl, hs, hi, g2⟩ := rT_open hr
        simp only at hs hi g2 hq9
        have e_lt : b1 < w.heap.size := cell_lt (hc 0 _ rfl)
        have e_0 : w9.cell? ⟨b1, o1 + j * 3, none⟩ = some (.string s) := (hb4.cell (p := ⟨b1, o1 + j * 3, none⟩) e_lt).trans (by have h9 := hc 0 _ rfl; rw [← Nat.add_assoc] at h9; exact h9)
        have e_1 : w9.cell? ⟨b1, o1 + j * 3 + 1, none⟩ = some (.int .i64 i) := (hb4.cell (p := ⟨b1, o1 + j * 3 + 1, none⟩) e_lt).trans (by have h9 := hc 1 _ rfl; rw [← Nat.add_assoc] at h9; exact h9)
        have e_2 : w9.cell? ⟨b1, o1 + j * 3 + 2, none⟩ = some (.slice tb tn tc) := (hb4.cell (p := ⟨b1, o1 + j * 3 + 2, none⟩) e_lt).trans (by have h9 := hc 2 _ rfl; rw [← Nat.add_assoc] at h9; exact h9)
        clear hE hx hr hc g2 t1 hs hi hne
        go_wp2_with fail
        go_roundw
        case rel => exact ⟨j + 1, by omega, by go_num, HE.out, hlc⟩
        case measure => simp [intOf]; omega
    · go_wp2_with fail
      refine bodyPost_ret (v := .tuple #[.agg noT, .bool false]) (by simp [results, Tryz.results36, go_sem, noT, r_0, r_1, r_2, r_f0, r_f1, r_f2]) rfl ⟨rfl, ?_⟩
      repeat (refine Below.setCell ?_ (by simp only []; omega) _)
      exact hb3

set_option maxHeartbeats 1000000 in
theorem lookS_some (cs : List Value) (db : DDb) (name : ByteArray) (t : DT) (w : World) (h : rDb.rep w cs db) (hL : look db name = some t) :
    Calls Tryz.prog 36 #[.agg cs.toArray, .string name] w fun e w' => ∃ ds, e = .returned (.tuple #[.agg ds.toArray, .bool true]) ∧ Own oT w.heap.size w'.heap.size w' ds t ∧ Below w.heap.size w w' := by
  obtain ⟨ub, un, uc, rfl, g1⟩ := rDb_open h
  have hval := fun W (hW : Below w.heap.size w W) => validDb_spec [.slice ub un uc] db W (rDb.mono h hW)
  have hbk := (look_ok hL).bulk
  obtain ⟨k, HI, hk, hv⟩ := look_some_idx hL
  have t1 := rS_sl g1
  have hl := t1.len
  have hn := t1.small
  have hkn : k < un := by rw [← hl]; exact (List.getElem?_eq_some_iff.1 hk).1
  have HL := Lib.hid hl
  simp only [hv] at hval
  have HV := Lib.hid hval
  have HK := Lib.hid hk
  have HI := Lib.hid HI
  have HE0 : Hid (idxFrom name 0 db = idxFrom name 0 (db.drop 0)) := rfl
  clear hval hL hv hk h g1 hl
  have hb0 : Below w.heap.size w w := Below.refl _ _
  go_enter Tryz.func36, Tryz.ntmps36
  obtain ⟨w1, hw1⟩ : ∃ W, W = w.alloc (.cells #[.slice ub un uc] 34) := ⟨_, rfl⟩
  have z1 : Below w.heap.size w w1 := by rw [hw1]; exact (Below.refl _ _).alloc (Nat.le_refl _) _
  have s1 : w1.heap.size = w.heap.size + 1 := by rw [hw1]; simp
  have hb1 := on hb0 z1
  have b_0 : w1.cell? ⟨w.heap.size, 0, none⟩ = some (.slice ub un uc) := by rw [hw1]; exact box_cell (Below.refl _ _) rfl
  have b_f0 : w1.frozen? ⟨w.heap.size, 0, none⟩ = false := by rw [hw1]; exact box_frozen (Below.refl _ _)
  have raw1_b_0 := b_0
  rw [hw1] at raw1_b_0
  obtain ⟨w2, hw2⟩ : ∃ W, W = w1.alloc (.cells #[.string ⟨#[]⟩, .int .i64 0, .slice none 0 0] 65) := ⟨_, rfl⟩
  have z2 : Below w1.heap.size w1 w2 := by rw [hw2]; exact (Below.refl _ _).alloc (Nat.le_refl _) _
  have s2 : w2.heap.size = w1.heap.size + 1 := by rw [hw2]; simp
  have hb2 := on hb1 z2
  replace b_0 := (z2.cell (p := ⟨w.heap.size, 0, none⟩) (by simp only []; omega)).trans b_0
  replace b_f0 := (z2.frozen (p := ⟨w.heap.size, 0, none⟩) (by simp only []; omega)).trans b_f0
  have e2 : w1.heap.size = w.heap.size + 1 := by omega
  have r_0 : w2.cell? ⟨w1.heap.size, 0, none⟩ = some (.string ⟨#[]⟩) := by rw [hw2]; exact box_cell (Below.refl _ _) rfl
  have r_1 : w2.cell? ⟨w1.heap.size, 1, none⟩ = some (.int .i64 0) := by rw [hw2]; exact box_cell (Below.refl _ _) rfl
  have r_2 : w2.cell? ⟨w1.heap.size, 2, none⟩ = some (.slice none 0 0) := by rw [hw2]; exact box_cell (Below.refl _ _) rfl
  rw [e2] at r_0 r_1 r_2
  have r_f0 : w2.frozen? ⟨w1.heap.size, 0, none⟩ = false := by rw [hw2]; exact box_frozen (Below.refl _ _)
  have r_f1 : w2.frozen? ⟨w1.heap.size, 1, none⟩ = false := by rw [hw2]; exact box_frozen (Below.refl _ _)
  have r_f2 : w2.frozen? ⟨w1.heap.size, 2, none⟩ = false := by rw [hw2]; exact box_frozen (Below.refl _ _)
  rw [e2] at r_f0 r_f1 r_f2
  have raw2_b_0 := b_0
  have raw2_r_0 := r_0
  have raw2_r_1 := r_1
  have raw2_r_2 := r_2
  rw [hw2, hw1] at raw2_b_0 raw2_r_0 raw2_r_1 raw2_r_2
  go_wp2_with fail
  rw [← hw1]
  rw [← hw2]
  clear hw2 hw1
  clear raw1_b_0 raw2_b_0 raw2_r_0 raw2_r_1 raw2_r_2
  go_loopw [6] (fun k wr => ∃ j : Nat, j ≤ un ∧ k = .int .i64 j ∧ Hid (idxFrom name 0 db = idxFrom name j (db.drop j)) ∧ Below w2.heap.size w2 wr) (fun k _ => un - (intOf k).toNat)
  case atStart => exact ⟨0, Nat.zero_le _, rfl, HE0.out, Below.refl _ _⟩
  case round =>
    obtain ⟨j, hj, rfl, hE, hdr⟩ := hrel
    obtain ⟨wo, rfl⟩ : ∃ W, W = wr := ⟨_, rfl⟩
    have hlc := hdr
    have s3 := hdr.size
    have hb3 := on hb2 hdr
    replace b_0 := (hdr.cell (p := ⟨w.heap.size, 0, none⟩) (by simp only []; omega)).trans b_0
    replace b_f0 := (hdr.frozen (p := ⟨w.heap.size, 0, none⟩) (by simp only []; omega)).trans b_f0
    replace r_0 := (hdr.cell (p := ⟨w.heap.size + 1, 0, none⟩) (by simp only []; omega)).trans r_0
    replace r_1 := (hdr.cell (p := ⟨w.heap.size + 1, 1, none⟩) (by simp only []; omega)).trans r_1
    replace r_2 := (hdr.cell (p := ⟨w.heap.size + 1, 2, none⟩) (by simp only []; omega)).trans r_2
    replace r_f0 := (hdr.frozen (p := ⟨w.heap.size + 1, 0, none⟩) (by simp only []; omega)).trans r_f0
    replace r_f1 := (hdr.frozen (p := ⟨w.heap.size + 1, 1, none⟩) (by simp only []; omega)).trans r_f1
    replace r_f2 := (hdr.frozen (p := ⟨w.heap.size + 1, 2, none⟩) (by simp only []; omega)).trans r_f2
    by_cases hlt : j < un
    · go_wp2_with fail
      refine (HV.out _ hb3).mono ?_
      rintro e w9 ⟨rfl, z9⟩
      have s4 := z9.size
      have hb4 := on hb3 z9
      replace b_0 := (z9.cell (p := ⟨w.heap.size, 0, none⟩) (by simp only []; omega)).trans b_0
      replace b_f0 := (z9.frozen (p := ⟨w.heap.size, 0, none⟩) (by simp only []; omega)).trans b_f0
      replace r_0 := (z9.cell (p := ⟨w.heap.size + 1, 0, none⟩) (by simp only []; omega)).trans r_0
      replace r_1 := (z9.cell (p := ⟨w.heap.size + 1, 1, none⟩) (by simp only []; omega)).trans r_1
      replace r_2 := (z9.cell (p := ⟨w.heap.size + 1, 2, none⟩) (by simp only []; omega)).trans r_2
      replace r_f0 := (z9.frozen (p := ⟨w.heap.size + 1, 0, none⟩) (by simp only []; omega)).trans r_f0
      replace r_f1 := (z9.frozen (p := ⟨w.heap.size + 1, 1, none⟩) (by simp only []; omega)).trans r_f1
      replace r_f2 := (z9.frozen (p := ⟨w.heap.size + 1, 2, none⟩) (by simp only []; omega)).trans r_f2
      replace hlc := on hlc z9
      obtain ⟨b1, o1, cs, t', rfl, hx, hr, hc⟩ := t1.at hlt
      by_cases hne : t'.1 = name
      · have h8 := hE.out.trans (idxFrom_yes hx.out hne)
        rw [HI.out] at h8
        obtain rfl : k = j := by omega
        obtain rfl : t' = t := by have h9 := hx.out; rw [HK.out] at h9; exact (Option.some.inj h9).symm
        have hcp := fun W (hW : Below w.heap.size w W) => l4Copy_any cs t' W (rT.mono hr hW) (by omega)
        have hq9 : (t'.1.toList == name.toList) = true := by rw [hne]; simp
        obtain ⟨s, i, rows⟩ := t'
        obtain ⟨tb, tn, tc, rfl, hs, hi, g2⟩ := rT_open hr
        simp only at hs hi g2 hcp hq9
        have HP := Lib.hid hcp
        have e_lt : b1 < w.heap.size := cell_lt (hc 0 _ rfl)
        have e_0 : w9.cell? ⟨b1, o1 + k * 3, none⟩ = some (.string s) := (hb4.cell (p := ⟨b1, o1 + k * 3, none⟩) e_lt).trans (by have h9 := hc 0 _ rfl; rw [← Nat.add_assoc] at h9; exact h9)
        have e_1 : w9.cell? ⟨b1, o1 + k * 3 + 1, none⟩ = some (.int .i64 i) := (hb4.cell (p := ⟨b1, o1 + k * 3 + 1, none⟩) e_lt).trans (by have h9 := hc 1 _ rfl; rw [← Nat.add_assoc] at h9; exact h9)
        have e_2 : w9.cell? ⟨b1, o1 + k * 3 + 2, none⟩ = some (.slice tb tn tc) := (hb4.cell (p := ⟨b1, o1 + k * 3 + 2, none⟩) e_lt).trans (by have h9 := hc 2 _ rfl; rw [← Nat.add_assoc] at h9; exact h9)
        clear hcp hE hx hr hc g2 t1 hs hi hne h8
        go_wp2_with fail
        refine (HP.out _ hb4).mono ?_
        rintro e w11 ⟨ds, rfl, ho, z11⟩
        obtain ⟨vb, vn, vc, rfl⟩ := oT_form ho
        simp only at ho
        have s5 := z11.size
        have hb5 := on hb4 z11
        replace b_0 := (z11.cell (p := ⟨w.heap.size, 0, none⟩) (by simp only []; omega)).trans b_0
        replace b_f0 := (z11.frozen (p := ⟨w.heap.size, 0, none⟩) (by simp only []; omega)).trans b_f0
        replace r_0 := (z11.cell (p := ⟨w.heap.size + 1, 0, none⟩) (by simp only []; omega)).trans r_0
        replace r_1 := (z11.cell (p := ⟨w.heap.size + 1, 1, none⟩) (by simp only []; omega)).trans r_1
        replace r_2 := (z11.cell (p := ⟨w.heap.size + 1, 2, none⟩) (by simp only []; omega)).trans r_2
        replace r_f0 := (z11.frozen (p := ⟨w.heap.size + 1, 0, none⟩) (by simp only []; omega)).trans r_f0
        replace r_f1 := (z11.frozen (p := ⟨w.heap.size + 1, 1, none⟩) (by simp only []; omega)).trans r_f1
        replace r_f2 := (z11.frozen (p := ⟨w.heap.size + 1, 2, none⟩) (by simp only []; omega)).trans r_f2
        replace hlc := on hlc z11
        replace e_0 := (z11.cell (p := ⟨b1, o1 + k * 3, none⟩) (by simp only []; omega)).trans e_0
        replace e_1 := (z11.cell (p := ⟨b1, o1 + k * 3 + 1, none⟩) (by simp only []; omega)).trans e_1
        replace e_2 := (z11.cell (p := ⟨b1, o1 + k * 3 + 2, none⟩) (by simp only []; omega)).trans e_2
        go_wp2_with fail
        refine bodyPost_ret (v := .tuple #[.agg #[.string s, .int .i64 i, .slice vb vn vc], .bool true]) (by simp [results, Tryz.results36, go_sem, r_0, r_1, r_2, r_f0, r_f1, r_f2]) rfl ⟨_, rfl, ?_, ?_⟩
        · refine Own.mono (lo := w9.heap.size) (hi := w11.heap.size) ?_ (by omega) (by simp [World.setCell])
          repeat (refine Own.setOut ?_ rfl (by simp only []; omega))
          exact ho
        · repeat (refine Below.setCell ?_ (by simp only []; omega) _)
          exact hb5
      · have HE : Hid (idxFrom name 0 db = idxFrom name (j + 1) (db.drop (j + 1))) := Lib.hid (hE.out.trans (idxFrom_no hx.out hne))
        have hq9 := bytes_ne hne
        obtain ⟨s, i, rows⟩ := t'
        obtain ⟨tb, tn, tc, rfl, hs, hi, g2⟩ := rT_open hr
        simp only at hs hi g2 hq9
        have e_lt : b1 < w.heap.size := cell_lt (hc 0 _ rfl)
        have e_0 : w9.cell? ⟨b1, o1 + j * 3, none⟩ = some (.string s) := (hb4.cell (p := ⟨b1, o1 + j * 3, none⟩) e_lt).trans (by have h9 := hc 0 _ rfl; rw [← Nat.add_assoc] at h9; exact h9)
        have e_1 : w9.cell? ⟨b1, o1 + j * 3 + 1, none⟩ = some (.int .i64 i) := (hb4.cell (p := ⟨b1, o1 + j * 3 + 1, none⟩) e_lt).trans (by have h9 := hc 1 _ rfl; rw [← Nat.add_assoc] at h9; exact h9)
        have e_2 : w9.cell? ⟨b1, o1 + j * 3 + 2, none⟩ = some (.slice tb tn tc) := (hb4.cell (p := ⟨b1, o1 + j * 3 + 2, none⟩) e_lt).trans (by have h9 := hc 2 _ rfl; rw [← Nat.add_assoc] at h9; exact h9)
        clear hE hx hr hc g2 t1 hs hi hne
        go_wp2_with fail
        go_roundw
        case rel => exact ⟨j + 1, by omega, by go_num, HE.out, hlc⟩
        case measure => simp [intOf]; omega
    · have h8 := hE.out.trans (idxFrom_end (by have := HL.out; omega))
      rw [HI.out] at h8
      omega

end Go.Proofs.YtkipgbgkhffkkaaGreat

/- Contracts: the variables of a mask, by the program; shared variables. -/
namespace Go.Proofs.YtkipgbgkhffkkaaGreat
open Go.RowKit
set_option linter.unusedVariables false
set_option linter.unusedSimpArgs false
set_option synthInstance.maxSize 2000
set_option synthInstance.maxHeartbeats 400000

theorem own_empty' {B : Nat} {W : World} {g : Nat} (hB : B ≤ W.heap.size) (hg : W.heap.size = g) : OwnInts B (W.alloc (.cells #[] 3)) (.slice (some ⟨g, 0, none⟩) 0 0) 0 [] := by
  subst hg; exact own_empty hB

theorem wpList_app1g {B : Nat} {w0 W : World} {ops : Array Oper} {rest : List Oper} {o : Oper} {a : Act} {Q : Exit → Act → World → Prop}
    (s x : Operand) (v : Value) (n g : Nat) (xs : List Int) (u : Int)
    (hown : OwnInts B W v n xs) (hb : Below B w0 W) (hB : B ≤ W.heap.size) (hu : I64 u) (hn : n ≤ 1000000000000) (hg : W.heap.size = g)
    (hgd : o.guard = none) (ho : o.op = .call { callee := .builtin .append, args := #[s, x], argTypes := #[30, 30] })
    (hs : a.eval s = v) (hx : a.eval x = .slice (some ⟨g, 0, none⟩) 1 1)
    (h : ∀ v' w', OwnInts B w' v' (n + 1) (xs ++ [u]) → Below B w0 w' → B ≤ w'.heap.size → wpList Tryz.prog ops Q rest (a.put o.dst v') w') :
    wpList Tryz.prog ops Q (o :: rest) a (W.alloc (.cells #[.int .i64 u] 3)) := by
  subst hg
  exact wpList_app1 s x v n xs u hown hb hB hu hn hgd ho hs hx h

set_option maxHeartbeats 2000000 in
theorem variables_any (cs : List Value) (x : DQ) (K n : Nat) (w : World) (h : rQ.rep w cs x) (hq : QOk x n) (hK : K < 16) :
    Calls Tryz.prog 87 #[.agg cs.toArray, .int .i64 K] w fun e w' => ∃ u, e = .returned u ∧ Own oI w.heap.size w'.heap.size w' [u] (varsOf x K) ∧ Below w.heap.size w w' := by
  obtain ⟨ub, un, uc, rfl, hi, g1⟩ := rQ_open h
  clear h hi
  obtain ⟨i, xs⟩ := x
  simp only at g1
  have t0 := rS_sl g1
  have hl := t0.len
  have hn4 := hq.le
  have hl4 := hq.len
  have hcnt := hq.cnt
  simp only at hl4 hcnt
  subst hcnt
  have hun : un ≤ 4 := by omega
  have HQ := Lib.hid hq
  obtain ⟨M, hM⟩ : ∃ M, M = bitsOf ((n : Int), xs) K := ⟨_, rfl⟩
  have HV := Lib.hid (show bitsTo M n = varsOf ((n : Int), xs) K by rw [hq.varsOf K, hM])
  have HS := Lib.hid (show ∀ v, bitAt M v = someFrom K v 0 (xs.drop 0) by intro v; rw [hM]; exact hq.some K v)
  clear hq hl4 hM
  have hb0 : Below w.heap.size w w := Below.refl _ _
  go_enter Tryz.func87, Tryz.ntmps87
  obtain ⟨w1, hw1⟩ : ∃ W, W = w.alloc (.cells #[.int .i64 n, .slice ub un uc] 38) := ⟨_, rfl⟩
  have z1 : Below w.heap.size w w1 := by rw [hw1]; exact (Below.refl _ _).alloc (Nat.le_refl _) _
  have s1 : w1.heap.size = w.heap.size + 1 := by rw [hw1]; simp
  have hb1 := on hb0 z1
  have b_0 : w1.cell? ⟨w.heap.size, 0, none⟩ = some (.int .i64 n) := by rw [hw1]; exact box_cell (Below.refl _ _) rfl
  have b_1 : w1.cell? ⟨w.heap.size, 1, none⟩ = some (.slice ub un uc) := by rw [hw1]; exact box_cell (Below.refl _ _) rfl
  have raw1_b_0 := b_0
  have raw1_b_1 := b_1
  rw [hw1] at raw1_b_0 raw1_b_1
  go_wp2_with fail
  rw [← hw1]
  clear hw1
  clear raw1_b_0 raw1_b_1
  go_loopw [5, 6] (fun s k wr => ∃ j q : Nat, j ≤ n ∧ k = .int .i64 j ∧ OwnInts w1.heap.size wr s q (bitsTo M j) ∧ Below w1.heap.size w1 wr) (fun _ k _ => n - (intOf k).toNat)
  case atStart => exact ⟨0, 0, Nat.zero_le _, rfl, own_empty' (Nat.le_refl _) (by omega), (Below.refl _ _).alloc (Nat.le_refl _) _⟩
  case round =>
    obtain ⟨j, q, hj, rfl, hown, hdr⟩ := hrel
    obtain ⟨wo, rfl⟩ : ∃ W, W = wr := ⟨_, rfl⟩
    have hlc := hdr
    have s2 := hdr.size
    have hb2 := on hb1 hdr
    replace b_0 := (hdr.cell (p := ⟨w.heap.size, 0, none⟩) (by simp only []; omega)).trans b_0
    replace b_1 := (hdr.cell (p := ⟨w.heap.size, 1, none⟩) (by simp only []; omega)).trans b_1
    have hq4 : q ≤ 4 := by have := hown.len; have := bitsTo_len M j; omega
    by_cases hlt : j < n
    · go_wp2_with fail
      obtain ⟨a, cap, rfl, hqs, hqa⟩ := own_form hown.row
      go_loopw [5, 19] (fun s k wr => ∃ i' : Nat, i' ≤ un ∧ k = .int .i64 i' ∧ s = .slice a q cap ∧ Hid (bitAt M j = someFrom K j i' (xs.drop i')) ∧ Below wo.heap.size wo wr) (fun _ k _ => un - (intOf k).toNat)
      case atStart => exact ⟨0, Nat.zero_le _, rfl, rfl, HS.out j, Below.refl _ _⟩
      case round =>
        obtain ⟨i', hi, rfl, rfl, hE, hdr⟩ := hrel
        have hld := hdr
        have s3 := hdr.size
        have hb3 := on hb2 hdr
        replace b_0 := (hdr.cell (p := ⟨w.heap.size, 0, none⟩) (by simp only []; omega)).trans b_0
        replace b_1 := (hdr.cell (p := ⟨w.heap.size, 1, none⟩) (by simp only []; omega)).trans b_1
        replace hlc := on hlc hdr
        replace hown := hown.below hdr
        by_cases hlv : i' < un
        · obtain ⟨b1, o1, cs, x, rfl, hx, hr, hc⟩ := t0.at hlv
          obtain ⟨s, vs⟩ := x
          obtain ⟨vb, vn, vc, rfl, hs, g2⟩ := rA_open hr
          simp only at hs g2
          have e_lt : b1 < w.heap.size := cell_lt (hc 0 _ rfl)
          have e_0 : wr.cell? ⟨b1, o1 + i' * 2, none⟩ = some (.string s) := (hb3.cell (p := ⟨b1, o1 + i' * 2, none⟩) e_lt).trans (by have h9 := hc 0 _ rfl; rw [← Nat.add_assoc] at h9; exact h9)
          have e_1 : wr.cell? ⟨b1, o1 + i' * 2 + 1, none⟩ = some (.slice vb vn vc) := (hb3.cell (p := ⟨b1, o1 + i' * 2 + 1, none⟩) e_lt).trans (by have h9 := hc 1 _ rfl; rw [← Nat.add_assoc] at h9; exact h9)
          have HA := Lib.hid (hE.out.trans (someFrom_at hx.out))
          clear hc t0 hr hl hx hE HV HS
          simp only at HA
          obtain ⟨w4, hw4⟩ : ∃ W, W = wr.alloc (.cells #[.string s, .slice vb vn vc] 69) := ⟨_, rfl⟩
          have z4 : Below wr.heap.size wr w4 := by rw [hw4]; exact (Below.refl _ _).alloc (Nat.le_refl _) _
          have s4 : w4.heap.size = wr.heap.size + 1 := by rw [hw4]; simp
          have hb4 := on hb3 z4
          have old4_b_0 := b_0
          have old4_b_1 := b_1
          have old4_e_0 := e_0
          have old4_e_1 := e_1
          replace b_0 := (z4.cell (p := ⟨w.heap.size, 0, none⟩) (by simp only []; omega)).trans b_0
          replace b_1 := (z4.cell (p := ⟨w.heap.size, 1, none⟩) (by simp only []; omega)).trans b_1
          replace hlc := on hlc z4
          replace hown := hown.below z4
          replace hld := on hld z4
          replace e_0 := (z4.cell (p := ⟨b1, o1 + i' * 2, none⟩) (by simp only []; omega)).trans e_0
          replace e_1 := (z4.cell (p := ⟨b1, o1 + i' * 2 + 1, none⟩) (by simp only []; omega)).trans e_1
          have p_0 : w4.cell? ⟨wr.heap.size, 0, none⟩ = some (.string s) := by rw [hw4]; exact box_cell (Below.refl _ _) rfl
          have p_1 : w4.cell? ⟨wr.heap.size, 1, none⟩ = some (.slice vb vn vc) := by rw [hw4]; exact box_cell (Below.refl _ _) rfl
          have raw4_b_0 := b_0
          have raw4_b_1 := b_1
          have raw4_e_0 := e_0
          have raw4_e_1 := e_1
          have raw4_p_0 := p_0
          have raw4_p_1 := p_1
          rw [hw4] at raw4_b_0 raw4_b_1 raw4_e_0 raw4_e_1 raw4_p_0 raw4_p_1
          have hbt := bit_test K i' (by omega)
          have hlt2 : (j : Int) < n := by omega
          cases hb : bitAt K i' with
          | true =>
            rw [hb] at HA hbt
            have i0 := (rI_ints g2).below hb4
            clear hb
            go_wp2_with fail
            rw [← hw4]
            clear hw4
            clear old4_b_0 old4_b_1 old4_e_0 old4_e_1 raw4_b_0 raw4_b_1 raw4_e_0 raw4_e_1 raw4_p_0 raw4_p_1
            refine (contains_any _ _ _ _ _ _ i0).mono ?_
            rintro e w' ⟨rfl, rfl⟩
            obtain ⟨t, ht⟩ : ∃ t, t = has vs (j : Int) := ⟨_, rfl⟩
            rw [← ht] at HA ⊢
            clear ht i0
            cases t with
            | true =>
              have HB := Lib.hid (bitsTo_yes (show bitAt M j = true by rw [HA.out]; simp))
              have hsz := hlc.size
              go_wp2_with ((at_builtin; refine wpList_app1g _ _ _ _ _ _ _ hown hlc hsz ⟨by omega, by omega⟩ (by omega) (by omega) rfl rfl rfl rfl ?_; intro v' w9 hown' hb' hsz'))
              rw [← HB.out] at hown'
              go_roundw
              case rel => exact ⟨j + 1, q + 1, by omega, by go_num, hown', hb'⟩
              case measure => simp [intOf]; omega
            | false =>
              have HE := Lib.hid (show bitAt M j = someFrom K j (i' + 1) (xs.drop (i' + 1)) by rw [HA.out]; simp)
              go_wp2_with fail
              go_roundw
              case rel => exact ⟨i' + 1, by omega, by go_num, rfl, HE.out, hld⟩
              case measure => simp [intOf]; omega
          | false =>
            rw [hb] at HA hbt
            have HE := Lib.hid (show bitAt M j = someFrom K j (i' + 1) (xs.drop (i' + 1)) by rw [HA.out]; simp)
            clear hb HA
            go_wp2_with fail
            rw [← hw4]
            clear hw4
            clear old4_b_0 old4_b_1 old4_e_0 old4_e_1 raw4_b_0 raw4_b_1 raw4_e_0 raw4_e_1 raw4_p_0 raw4_p_1
            go_roundw
            case rel => exact ⟨i' + 1, by omega, by go_num, rfl, HE.out, hld⟩
            case measure => simp [intOf]; omega
        · rw [← bitsTo_no (hE.out.trans (someFrom_end (by omega)))] at hown
          have HO := Lib.hid hown
          clear t0 hl hE hown
          go_wp2_with fail
          go_roundw
          case rel => exact ⟨j + 1, q, by omega, by go_num, HO.out, hlc⟩
          case measure => simp [intOf]; omega
    · obtain rfl : j = n := by omega
      obtain ⟨a, cap, rfl, _⟩ := own_form hown.row
      rw [HV.out] at hown
      have HO := Lib.hid (show Own oI w.heap.size wo.heap.size wo [.slice a q cap] _ from hown.own.mono (by omega) (Nat.le_refl _))
      clear t0 hl hown
      go_wp2_with fail
      go_ret
      exact ⟨_, rfl, HO.out, hb2⟩

theorem maskVars_cnt (q : DQ) (k : Int) : cnt_I (maskVars q k) ≤ 4 := maskVars_len q k

set_option maxHeartbeats 1000000 in
theorem both_any (u v : Value) (xs ys : List Int) (w : World) (h : rI.rep w [u] xs) (h' : rI.rep w [v] ys) (hn : xs.length ≤ 1048576) :
    Calls Tryz.prog 146 #[u, v] w fun e w' => ∃ u, e = .returned u ∧ Own oI w.heap.size w'.heap.size w' [u] (both xs ys) ∧ Below w.heap.size w w' := by
  obtain ⟨a, cap, rfl, _, _, hi⟩ := rI_open h
  obtain ⟨a', cap', rfl, _, _, hi'⟩ := rI_open h'
  clear h h'
  obtain ⟨n, hl⟩ : ∃ n, xs.length = n := ⟨_, rfl⟩
  rw [hl] at hi hn ⊢
  go_enter Tryz.func146, Tryz.ntmps146
  go_wp2
  go_loopw [5, 11] (fun v i wr => ∃ (j : Nat), j ≤ n ∧ i = .int .i64 j ∧ ∃ q, OwnInts w.heap.size wr v q (both (xs.take j) ys) ∧ Below w.heap.size w wr) (fun _ i _ => n - (intOf i).toNat)
  case atStart => exact ⟨0, Nat.zero_le _, rfl, 0, by rw [List.take_zero]; exact own_empty (Nat.le_refl _), (Below.refl _ _).alloc (Nat.le_refl _) _⟩
  case round =>
    obtain ⟨j, hj, rfl, q, hown, hbl⟩ := hrel
    have hsz := hbl.size
    replace hi := hi.below hbl
    replace hi' := hi'.below hbl
    have hq : q ≤ 1048576 := by have := hown.len; have := both_len (xs.take j) ys; have : (xs.take j).length ≤ j := List.length_take_le _ _; omega
    by_cases hlt : j < n
    · obtain ⟨b1, off, x, rfl, hc, hx, hx1, hx2⟩ := hi.get hlt
      have hcall := contains_any _ _ cap' _ x _ hi'
      obtain ⟨t, ht⟩ : ∃ t, t = has ys x := ⟨_, rfl⟩
      rw [← ht] at hcall
      have HC := Lib.hid hcall
      clear hcall
      cases t with
      | true =>
        have HB := Lib.hid (both_yes (show j < xs.length by omega) hx.out ht.symm)
        clear ht hi hl
        go_wp2_with (first
          | (go_at_call 122; refine (HC.out).mono ?_; rintro e w' ⟨rfl, rfl⟩)
          | (at_builtin; refine wpList_app1 _ _ _ _ _ _ hown hbl hsz ⟨by omega, by omega⟩ (by omega) rfl rfl rfl rfl ?_; intro v' w1 hown' hb' hsz'))
        rw [← HB.out] at hown'
        go_roundw
        case rel => exact ⟨j + 1, by omega, by go_num, q + 1, hown', hb'⟩
        case measure => simp [intOf]; omega
      | false =>
        rw [← both_no (show j < xs.length by omega) hx.out ht.symm] at hown
        have HO := Lib.hid hown
        clear ht hi hl hown
        go_wp2_with (first
          | (go_at_call 122; refine (HC.out).mono ?_; rintro e w' ⟨rfl, rfl⟩))
        go_roundw
        case rel => exact ⟨j + 1, by omega, by go_num, q, HO.out, hbl⟩
        case measure => simp [intOf]; omega
    · obtain rfl : j = n := by omega
      obtain ⟨a', cap2, rfl, _⟩ := own_form hown.row
      rw [both_end (by omega)] at hown
      have HO := Lib.hid hown
      clear hown hi hi' hl
      go_wp2
      go_ret
      exact ⟨_, rfl, HO.out.own, hbl⟩

end Go.Proofs.YtkipgbgkhffkkaaGreat

/- Contracts: tables looked up (4): one contract a side. -/
namespace Go.Proofs.YtkipgbgkhffkkaaGreat
open Go.RowKit Go.Sort
set_option linter.unusedVariables false
set_option linter.unusedSimpArgs false
set_option synthInstance.maxSize 2000
set_option synthInstance.maxHeartbeats 400000

/-- The table that is handed back. -/
def lookT (o : Option DT) : DT := o.getD (⟨#[]⟩, 0, [])
theorem lookT_ar {db : DDb} {name : ByteArray} : 0 ≤ (lookT (look db name)).2.1 ∧ (lookT (look db name)).2.1 ≤ 3 := by
  cases h : look db name with
  | none => simp [lookT]
  | some t => have := (look_ok h).ar; simp only [lookT, Option.getD_some]; omega
theorem own_noT (lo hi : Nat) (w : World) : Own oT lo hi w [.string ⟨#[]⟩, .int .i64 0, .slice none 0 0] (⟨#[]⟩, 0, []) :=
  oT_mk (x := (⟨#[]⟩, 0, [])) (by decide) (show I64 0 from by unfold I64; omega) (l2 := lo) (m2 := hi) (Acc.nil (lo := lo) (S := lo) (hi := hi) |>.own (Nat.le_refl _) (Nat.le_refl _) (Nat.le_refl _)) (Nat.le_refl _) (Nat.le_refl _)

theorem lookI_any (cs : List Value) (db : DDb) (name : ByteArray) (w : World) (h : rDb.rep w cs db) :
    Calls Tryz.prog 85 #[.agg cs.toArray, .string name] w fun e w' => ∃ vb vn vc, e = .returned (.tuple #[.agg #[.string (lookT (look db name)).1, .int .i64 (lookT (look db name)).2.1, .slice vb vn vc], .bool (look db name).isSome]) ∧ Own oT w.heap.size w'.heap.size w' [.string (lookT (look db name)).1, .int .i64 (lookT (look db name)).2.1, .slice vb vn vc] (lookT (look db name)) ∧ Below w.heap.size w w' := by
  cases hL : look db name with
  | none =>
    refine (lookI_none cs db name w h hL).mono ?_
    rintro e w1 ⟨rfl, z⟩
    exact ⟨none, 0, 0, rfl, own_noT _ _ _, z⟩
  | some t =>
    refine (lookI_some cs db name t w h hL).mono ?_
    rintro e w1 ⟨ds, rfl, ho, z⟩
    obtain ⟨vb, vn, vc, rfl⟩ := oT_form ho
    exact ⟨vb, vn, vc, rfl, ho, z⟩

theorem lookS_any (cs : List Value) (db : DDb) (name : ByteArray) (w : World) (h : rDb.rep w cs db) :
    Calls Tryz.prog 36 #[.agg cs.toArray, .string name] w fun e w' => ∃ vb vn vc, e = .returned (.tuple #[.agg #[.string (lookT (look db name)).1, .int .i64 (lookT (look db name)).2.1, .slice vb vn vc], .bool (look db name).isSome]) ∧ Own oT w.heap.size w'.heap.size w' [.string (lookT (look db name)).1, .int .i64 (lookT (look db name)).2.1, .slice vb vn vc] (lookT (look db name)) ∧ Below w.heap.size w w' := by
  cases hL : look db name with
  | none =>
    refine (lookS_none cs db name w h hL).mono ?_
    rintro e w1 ⟨rfl, z⟩
    exact ⟨none, 0, 0, rfl, own_noT _ _ _, z⟩
  | some t =>
    refine (lookS_some cs db name t w h hL).mono ?_
    rintro e w1 ⟨ds, rfl, ho, z⟩
    obtain ⟨vb, vn, vc, rfl⟩ := oT_form ho
    exact ⟨vb, vn, vc, rfl, ho, z⟩

end Go.Proofs.YtkipgbgkhffkkaaGreat

/- Contracts: neighbors and connected masks. -/
namespace Go.Proofs.YtkipgbgkhffkkaaGreat
open Go.RowKit
set_option linter.unusedVariables false
set_option linter.unusedSimpArgs false
set_option synthInstance.maxSize 2000
set_option synthInstance.maxHeartbeats 400000

set_option maxHeartbeats 2000000 in
theorem neighbors_any (cs : List Value) (x : DQ) (K n : Nat) (w : World) (h : rQ.rep w cs x) (hq : QOk x n) (hK : K < 16) :
    Calls Tryz.prog 128 #[.agg cs.toArray, .int .i64 K] w fun e w' => e = .returned (.int .i64 (near x K)) ∧ Below w.heap.size w w' := by
  obtain ⟨ub, un, uc, rfl, hi, g1⟩ := rQ_open h
  clear hi
  have t0 := rS_sl g1
  have hl := t0.len
  have hl4 := hq.len
  have hun : un ≤ 4 := by omega
  have HQ := Lib.hid hq
  have HB := Lib.hid (show near x K = nearFrom K (bitsOf x K) 0 0 (x.2.drop 0) by simp [near])
  clear hl4
  have hb0 : Below w.heap.size w w := Below.refl _ _
  go_enter Tryz.func128, Tryz.ntmps128
  obtain ⟨w1, hw1⟩ : ∃ W, W = w.alloc (.cells #[.int .i64 x.1, .slice ub un uc] 38) := ⟨_, rfl⟩
  have z1 : Below w.heap.size w w1 := by rw [hw1]; exact (Below.refl _ _).alloc (Nat.le_refl _) _
  have s1 : w1.heap.size = w.heap.size + 1 := by rw [hw1]; simp
  have hb1 := on hb0 z1
  have b_0 : w1.cell? ⟨w.heap.size, 0, none⟩ = some (.int .i64 x.1) := by rw [hw1]; exact box_cell (Below.refl _ _) rfl
  have b_1 : w1.cell? ⟨w.heap.size, 1, none⟩ = some (.slice ub un uc) := by rw [hw1]; exact box_cell (Below.refl _ _) rfl
  have raw1_b_0 := b_0
  have raw1_b_1 := b_1
  rw [hw1] at raw1_b_0 raw1_b_1
  go_wp2_with fail
  rw [← hw1]
  clear hw1
  clear raw1_b_0 raw1_b_1
  refine (variables_any _ x K n _ (rQ.mono h hb1) hq hK).mono ?_
  rintro e w9 ⟨u, rfl, ho, z9⟩
  obtain ⟨vb9, vn9, vc9, rfl⟩ := oI_form1 ho
  have s2 := z9.size
  have hb2 := on hb1 z9
  replace b_0 := (z9.cell (p := ⟨w.heap.size, 0, none⟩) (by simp only []; omega)).trans b_0
  replace b_1 := (z9.cell (p := ⟨w.heap.size, 1, none⟩) (by simp only []; omega)).trans b_1
  clear hq
  go_wp2_with fail
  go_loopw [6, 15] (fun s k wr => ∃ j m : Nat, j ≤ un ∧ m < 2 ^ un ∧ k = .int .i64 j ∧ s = .int .i64 m ∧ Hid (near x K = nearFrom K (bitsOf x K) m j (x.2.drop j)) ∧ Below w9.heap.size w9 wr) (fun _ k _ => un - (intOf k).toNat)
  case atStart => exact ⟨0, 0, Nat.zero_le _, Nat.two_pow_pos _, rfl, rfl, HB.out, Below.refl _ _⟩
  case round =>
    obtain ⟨j, m, hj, hm, rfl, rfl, hE, hdr⟩ := hrel
    obtain ⟨wo, rfl⟩ : ∃ W, W = wr := ⟨_, rfl⟩
    have hlc := hdr
    have s3 := hdr.size
    have hb3 := on hb2 hdr
    replace b_0 := (hdr.cell (p := ⟨w.heap.size, 0, none⟩) (by simp only []; omega)).trans b_0
    replace b_1 := (hdr.cell (p := ⟨w.heap.size, 1, none⟩) (by simp only []; omega)).trans b_1
    replace ho := ho.below hdr (by omega)
    have hm16 := pow_le16 hun
    by_cases hlt : j < un
    · obtain ⟨b1, o1, cs, y, rfl, hx, hr, hc⟩ := t0.at hlt
      obtain ⟨s, vs⟩ := y
      obtain ⟨vb, vn, vc, rfl, hs, g2⟩ := rA_open hr
      simp only at hs g2
      have e_lt : b1 < w.heap.size := cell_lt (hc 0 _ rfl)
      have e_0 : wo.cell? ⟨b1, o1 + j * 2, none⟩ = some (.string s) := (hb3.cell (p := ⟨b1, o1 + j * 2, none⟩) e_lt).trans (by have h9 := hc 0 _ rfl; rw [← Nat.add_assoc] at h9; exact h9)
      have e_1 : wo.cell? ⟨b1, o1 + j * 2 + 1, none⟩ = some (.slice vb vn vc) := (hb3.cell (p := ⟨b1, o1 + j * 2 + 1, none⟩) e_lt).trans (by have h9 := hc 1 _ rfl; rw [← Nat.add_assoc] at h9; exact h9)
      have HA := Lib.hid (hE.out.trans (nearFrom_at hx.out))
      have HX := Lib.hid (List.mem_of_getElem? hx.out)
      have HV := Lib.hid (both_pos HQ.out HX.out K)
      have HVL := Lib.hid (HQ.out.vlen _ HX.out)
      clear hc t0 hr hl hx hE HB
      simp only at HA HV HVL
      obtain ⟨w4, hw4⟩ : ∃ W, W = wo.alloc (.cells #[.string s, .slice vb vn vc] 69) := ⟨_, rfl⟩
      have z4 : Below wo.heap.size wo w4 := by rw [hw4]; exact (Below.refl _ _).alloc (Nat.le_refl _) _
      have s4 : w4.heap.size = wo.heap.size + 1 := by rw [hw4]; simp
      have hb4 := on hb3 z4
      have old4_b_0 := b_0
      have old4_b_1 := b_1
      have old4_e_0 := e_0
      have old4_e_1 := e_1
      replace b_0 := (z4.cell (p := ⟨w.heap.size, 0, none⟩) (by simp only []; omega)).trans b_0
      replace b_1 := (z4.cell (p := ⟨w.heap.size, 1, none⟩) (by simp only []; omega)).trans b_1
      replace ho := ho.below z4 (by omega)
      replace hlc := on hlc z4
      replace e_0 := (z4.cell (p := ⟨b1, o1 + j * 2, none⟩) (by simp only []; omega)).trans e_0
      replace e_1 := (z4.cell (p := ⟨b1, o1 + j * 2 + 1, none⟩) (by simp only []; omega)).trans e_1
      have p_0 : w4.cell? ⟨wo.heap.size, 0, none⟩ = some (.string s) := by rw [hw4]; exact box_cell (Below.refl _ _) rfl
      have p_1 : w4.cell? ⟨wo.heap.size, 1, none⟩ = some (.slice vb vn vc) := by rw [hw4]; exact box_cell (Below.refl _ _) rfl
      have raw4_b_0 := b_0
      have raw4_b_1 := b_1
      have raw4_e_0 := e_0
      have raw4_e_1 := e_1
      have raw4_p_0 := p_0
      have raw4_p_1 := p_1
      rw [hw4] at raw4_b_0 raw4_b_1 raw4_e_0 raw4_e_1 raw4_p_0 raw4_p_1
      have hbt := bit_test0 K j (by omega)
      cases hb : bitAt K j with
      | true =>
        rw [hb] at HA hbt
        replace HA : Hid (near x K = nearFrom K (bitsOf x K) m (j + 1) (x.2.drop (j + 1))) := Lib.hid (by rw [HA.out]; simp)
        simp only [Bool.not_true] at hbt
        clear hb
        go_wp2_with fail
        rw [← hw4]
        clear hw4
        clear old4_b_0 old4_b_1 old4_e_0 old4_e_1 raw4_b_0 raw4_b_1 raw4_e_0 raw4_e_1 raw4_p_0 raw4_p_1
        go_roundw
        case rel => exact ⟨j + 1, m, by omega, hm, by go_num, rfl, HA.out, hlc⟩
        case measure => simp [intOf]; omega
      | false =>
        rw [hb] at HA hbt
        simp only [Bool.not_false, Bool.true_and] at HA hbt
        clear hb
        go_wp2_with fail
        rw [← hw4]
        clear hw4
        clear old4_b_0 old4_b_1 old4_e_0 old4_e_1 raw4_b_0 raw4_b_1 raw4_e_0 raw4_e_1 raw4_p_0 raw4_p_1
        refine (both_any _ _ vs (varsOf x K) _ (rI.mono g2 hb4) (ho.rd reads_I) (by have := HVL.out; omega)).mono ?_
        rintro e w8 ⟨u, rfl, ho2, z8⟩
        obtain ⟨vb8, vn8, vc8, rfl⟩ := oI_form1 ho2
        have hv8 := (rI_ints (ho2.rd reads_I)).len
        have s5 := z8.size
        have hb5 := on hb4 z8
        replace b_0 := (z8.cell (p := ⟨w.heap.size, 0, none⟩) (by simp only []; omega)).trans b_0
        replace b_1 := (z8.cell (p := ⟨w.heap.size, 1, none⟩) (by simp only []; omega)).trans b_1
        replace ho := ho.below z8 (by omega)
        replace hlc := on hlc z8
        replace e_0 := (z8.cell (p := ⟨b1, o1 + j * 2, none⟩) (by simp only []; omega)).trans e_0
        replace e_1 := (z8.cell (p := ⟨b1, o1 + j * 2 + 1, none⟩) (by simp only []; omega)).trans e_1
        replace p_0 := (z8.cell (p := ⟨wo.heap.size, 0, none⟩) (by simp only []; omega)).trans p_0
        replace p_1 := (z8.cell (p := ⟨wo.heap.size, 1, none⟩) (by simp only []; omega)).trans p_1
        obtain ⟨t, ht⟩ : ∃ t, t = decide (vbits 0 vs &&& bitsOf x K ≠ 0) := ⟨_, rfl⟩
        have hd : decide (0 < vn8) = t := by rw [ht, ← HV.out, hv8]
        rw [← ht] at HA
        have HT := Lib.hid ht
        clear ht hv8 ho2
        cases t with
        | true =>
          replace HA : Hid (near x K = nearFrom K (bitsOf x K) (m ||| 2 ^ j) (j + 1) (x.2.drop (j + 1))) := Lib.hid (by rw [HA.out]; simp)
          have hmo := or_lt hm hlt
          go_wp2_with fail
          go_roundw
          case rel => exact ⟨j + 1, m ||| 2 ^ j, by omega, hmo, by go_num, by show Value.int _ _ = _; rw [or_pow (by omega) (by omega)], HA.out, hlc⟩
          case measure => simp [intOf]; omega
        | false =>
          replace HA : Hid (near x K = nearFrom K (bitsOf x K) m (j + 1) (x.2.drop (j + 1))) := Lib.hid (by rw [HA.out]; simp)
          go_wp2_with fail
          go_roundw
          case rel => exact ⟨j + 1, m, by omega, hm, by go_num, rfl, HA.out, hlc⟩
          case measure => simp [intOf]; omega
    · have HE := Lib.hid (hE.out.trans (nearFrom_end (by omega)))
      clear t0 hl hE HB ho
      go_wp2_with fail
      go_ret
      exact ⟨ret_int (by rw [HE.out]), hb3⟩

set_option maxHeartbeats 2000000 in
theorem l8Near_any (cs : List Value) (x : DQ) (K n : Nat) (w : World) (h : rQ.rep w cs x) (hq : QOk x n) (hK : K < 16) :
    Calls Tryz.prog 118 #[.agg cs.toArray, .int .i64 K] w fun e w' => e = .returned (.int .i64 (near x K)) ∧ Below w.heap.size w w' := by
  obtain ⟨ub, un, uc, rfl, hi, g1⟩ := rQ_open h
  clear hi
  have t0 := rS_sl g1
  have hl := t0.len
  have hl4 := hq.len
  have hun : un ≤ 4 := by omega
  have HQ := Lib.hid hq
  have HB := Lib.hid (show near x K = nearFrom K (bitsOf x K) 0 0 (x.2.drop 0) by simp [near])
  have hB16 : bitsOf x K < 16 := Nat.lt_of_lt_of_le (hq.bits_lt K) (pow_le16 hq.le)
  clear hl4
  have hb0 : Below w.heap.size w w := Below.refl _ _
  go_enter Tryz.func118, Tryz.ntmps118
  obtain ⟨w1, hw1⟩ : ∃ W, W = w.alloc (.cells #[.int .i64 x.1, .slice ub un uc] 38) := ⟨_, rfl⟩
  have z1 : Below w.heap.size w w1 := by rw [hw1]; exact (Below.refl _ _).alloc (Nat.le_refl _) _
  have s1 : w1.heap.size = w.heap.size + 1 := by rw [hw1]; simp
  have hb1 := on hb0 z1
  have b_0 : w1.cell? ⟨w.heap.size, 0, none⟩ = some (.int .i64 x.1) := by rw [hw1]; exact box_cell (Below.refl _ _) rfl
  have b_1 : w1.cell? ⟨w.heap.size, 1, none⟩ = some (.slice ub un uc) := by rw [hw1]; exact box_cell (Below.refl _ _) rfl
  have raw1_b_0 := b_0
  have raw1_b_1 := b_1
  rw [hw1] at raw1_b_0 raw1_b_1
  go_wp2_with fail
  rw [← hw1]
  clear hw1
  clear raw1_b_0 raw1_b_1
  refine (l7Bits_any _ x K n _ (rQ.mono h hb1) hq hK).mono ?_
  rintro e w2 ⟨rfl, z2⟩
  have s3 := z2.size
  have hb3 := on hb1 z2
  replace b_0 := (z2.cell (p := ⟨w.heap.size, 0, none⟩) (by simp only []; omega)).trans b_0
  replace b_1 := (z2.cell (p := ⟨w.heap.size, 1, none⟩) (by simp only []; omega)).trans b_1
  clear hq
  obtain ⟨B, hB⟩ : ∃ B, B = bitsOf x K := ⟨_, rfl⟩
  rw [← hB] at HB hB16 ⊢
  clear hB
  go_wp2_with fail
  go_loopw [5, 7] (fun s k wr => ∃ j m : Nat, j ≤ un ∧ m < 2 ^ un ∧ k = .int .i64 j ∧ s = .int .i64 m ∧ Hid (near x K = nearFrom K B m j (x.2.drop j)) ∧ Below w2.heap.size w2 wr) (fun _ k _ => un - (intOf k).toNat)
  case atStart => exact ⟨0, 0, Nat.zero_le _, Nat.two_pow_pos _, rfl, rfl, HB.out, Below.refl _ _⟩
  case round =>
    obtain ⟨j, m, hj, hm, rfl, rfl, hE, hdr⟩ := hrel
    obtain ⟨wo, rfl⟩ : ∃ W, W = wr := ⟨_, rfl⟩
    have hlc := hdr
    have s4 := hdr.size
    have hb4 := on hb3 hdr
    replace b_0 := (hdr.cell (p := ⟨w.heap.size, 0, none⟩) (by simp only []; omega)).trans b_0
    replace b_1 := (hdr.cell (p := ⟨w.heap.size, 1, none⟩) (by simp only []; omega)).trans b_1
    have hm16 := pow_le16 hun
    by_cases hlt : j < un
    · obtain ⟨y, hy⟩ : ∃ y, x.2[j]? = some y := ⟨_, List.getElem?_eq_getElem (by omega)⟩
      have HA := Lib.hid (hE.out.trans (nearFrom_at hy))
      have HP := Lib.hid (bitsOf_pow hy)
      have hP16 : bitsOf x (2 ^ j) < 16 := Nat.lt_of_lt_of_le (HQ.out.bits_lt _) (pow_le16 HQ.out.le)
      clear t0 hl hE HB hy
      have hbt := bit_test0 K j (by omega)
      cases hb : bitAt K j with
      | true =>
        rw [hb] at HA hbt
        replace HA : Hid (near x K = nearFrom K B m (j + 1) (x.2.drop (j + 1))) := Lib.hid (by rw [HA.out]; simp)
        simp only [Bool.not_true] at hbt
        clear hb
        go_wp2_with fail
        go_quiet (fail)
        go_wp2_with fail
        go_roundw
        case rel => exact ⟨j + 1, m, by omega, hm, by go_num, rfl, HA.out, hlc.trans (Drew.below ⟨_, rfl⟩ _)⟩
        case measure => simp [intOf]; omega
      | false =>
        rw [hb] at HA hbt
        simp only [Bool.not_false, Bool.true_and] at HA hbt
        rw [← HP.out] at HA
        clear hb HP
        have h2j : 2 ^ j < 16 := Nat.lt_of_lt_of_le (Nat.pow_lt_pow_right (by decide) hlt) hm16
        have hw1 := wrap_pow (show j ≤ 16 by omega)
        obtain ⟨J, hJ⟩ : ∃ J, J = 2 ^ j := ⟨_, rfl⟩
        obtain ⟨C, hC⟩ : ∃ C, C = bitsOf x (2 ^ j) := ⟨_, rfl⟩
        have hJ16 : J < 16 := by rw [hJ]; exact h2j
        have hcall := fun W (hW : rQ.rep W [.int .i64 x.1, .slice ub un uc] x) => l7Bits_any _ x J n W hW HQ.out hJ16
        rw [← hC] at HA hP16
        rw [← hJ] at hC hw1
        clear h2j
        have hw2 := hw1
        rw [← IntWalk.i64_left] at hw2
        rw [← hC] at hcall
        have hba := bits_and_nat C B (by omega) (by omega)
        obtain ⟨t, ht⟩ : ∃ t, t = decide (C &&& B ≠ 0) := ⟨_, rfl⟩
        have hne : (((C &&& B : Nat) : Int) != 0) = t := by
          rw [ht, Bool.eq_iff_iff]
          simp
        rw [← ht] at HA
        have HC := Lib.hid hcall
        have HJ := Lib.hid hJ
        clear hcall ht hC hJ
        go_wp2_with fail
        go_region_held3 (fun W => W.cell? ⟨w.heap.size, 0, none⟩ = some (.int .i64 x.1) ∧ W.cell? ⟨w.heap.size, 1, none⟩ = some (.slice ub un uc)) (first | exact ⟨b_0, b_1⟩ | assumption) (first | (go_at_call 96; (with_reducible refine (HC.out _ (rQ.mono h hb4.drew)).mono ?_); rintro e w5 ⟨rfl, z5⟩; replace z5 : Below wo.heap.size wo w5 := on (Below.refl _ _).drew z5; have sz5 := z5.size; have hS5 := (⟨(z5.cell (p := ⟨w.heap.size, 0, none⟩) (by simp only []; omega)).trans b_0, (z5.cell (p := ⟨w.heap.size, 1, none⟩) (by simp only []; omega)).trans b_1⟩ : (fun W => W.cell? ⟨w.heap.size, 0, none⟩ = some (.int .i64 x.1) ∧ W.cell? ⟨w.heap.size, 1, none⟩ = some (.slice ub un uc)) w5); have hx5 := on hb4 z5))
        replace z5 : Below wo.heap.size wo w5 := z5
        clear hS5 hx5
        have s6 := z5.size
        have hb6 := on hb4 z5
        replace b_0 := (z5.cell (p := ⟨w.heap.size, 0, none⟩) (by simp only []; omega)).trans b_0
        replace b_1 := (z5.cell (p := ⟨w.heap.size, 1, none⟩) (by simp only []; omega)).trans b_1
        replace hlc := on hlc z5
        clear hw2
        cases t with
        | true =>
          replace HA : Hid (near x K = nearFrom K B (m ||| 2 ^ j) (j + 1) (x.2.drop (j + 1))) := Lib.hid (by rw [HA.out]; simp)
          have hmo := or_lt hm hlt
          clear hba hne
          go_wp2_with fail
          go_roundw
          case rel => exact ⟨j + 1, m ||| 2 ^ j, by omega, hmo, by go_num, by show Value.int _ _ = _; rw [← hw1, or_pow (by omega) (by omega)], HA.out, hlc⟩
          case measure => simp [intOf]; omega
        | false =>
          replace HA : Hid (near x K = nearFrom K B m (j + 1) (x.2.drop (j + 1))) := Lib.hid (by rw [HA.out]; simp)
          clear hba hne hw1
          go_wp2_with fail
          go_roundw
          case rel => exact ⟨j + 1, m, by omega, hm, by go_num, rfl, HA.out, hlc⟩
          case measure => simp [intOf]; omega
    · have HE := Lib.hid (hE.out.trans (nearFrom_end (by omega)))
      clear t0 hl hE HB
      go_wp2_with fail
      go_ret
      exact ⟨ret_int (by rw [HE.out]), hb4⟩

end Go.Proofs.YtkipgbgkhffkkaaGreat

/- Contracts: connected masks. -/
namespace Go.Proofs.YtkipgbgkhffkkaaGreat
open Go.RowKit
set_option linter.unusedVariables false
set_option linter.unusedSimpArgs false
set_option synthInstance.maxSize 2000
set_option synthInstance.maxHeartbeats 400000

theorem low_int : ∀ K, K < 16 → bits .and .i64 ((K : Nat) : Int) (-((K : Nat) : Int)) = ((lowB K : Nat) : Int) := by decide +kernel
theorem low_zero : ∀ K : Nat, K < 16 → K ≠ 0 → ((K : Int) == 0) = false := by
  intro K _ h; rw [beq_eq_false_iff_ne]; omega

set_option maxHeartbeats 2000000 in
theorem connected_any (cs : List Value) (x : DQ) (K n : Nat) (w : World) (h : rQ.rep w cs x) (hq : QOk x n) (hK : K < 2 ^ x.2.length) :
    Calls Tryz.prog 86 #[.agg cs.toArray, .int .i64 K] w fun e w' => e = .returned (.bool (conn x K)) ∧ Below w.heap.size w w' := by
  obtain ⟨ub, un, uc, rfl⟩ := rQ_form h
  have hb0 : Below w.heap.size w w := Below.refl _ _
  have hl4 := hq.len
  have hK16 : K < 16 := Nat.lt_of_lt_of_le hK (pow_le16 hl4)
  have HQ := Lib.hid hq
  have HK := Lib.hid hK
  clear hq hK
  by_cases h0 : K = 0
  · subst h0
    have HE := Lib.hid (show conn x 0 = false by simp [conn])
    go_enter Tryz.func86, Tryz.ntmps86
    obtain ⟨w1, hw1⟩ : ∃ W, W = w.alloc (.cells #[.int .i64 x.1, .slice ub un uc] 38) := ⟨_, rfl⟩
    have z1 : Below w.heap.size w w1 := by rw [hw1]; exact (Below.refl _ _).alloc (Nat.le_refl _) _
    have s1 : w1.heap.size = w.heap.size + 1 := by rw [hw1]; simp
    have hb1 := on hb0 z1
    have b_0 : w1.cell? ⟨w.heap.size, 0, none⟩ = some (.int .i64 x.1) := by rw [hw1]; exact box_cell (Below.refl _ _) rfl
    have b_1 : w1.cell? ⟨w.heap.size, 1, none⟩ = some (.slice ub un uc) := by rw [hw1]; exact box_cell (Below.refl _ _) rfl
    have raw1_b_0 := b_0
    have raw1_b_1 := b_1
    rw [hw1] at raw1_b_0 raw1_b_1
    go_wp2_with fail
    go_ret
    exact ⟨ret_bool HE.out.symm, by first | exact hb1 | (rw [hw1] at hb1; exact hb1)⟩
  have HC := Lib.hid (show conn x K = joined x K by simp [conn, h0])
  have hz := low_zero K hK16 h0
  have hlow := low_int K hK16
  obtain ⟨l1, l2, l3⟩ := low_facts K hK16
  have l4 := l3 h0
  obtain ⟨L, hL⟩ : ∃ L, L = lowB K := ⟨_, rfl⟩
  rw [← hL] at hlow l1 l2 l4
  have HJ := Lib.hid (show joined x K = decide (iterM x K x.2.length L = K) by rw [joined, hL])
  have L1 := Lib.hid l1
  have L4 := Lib.hid l4
  clear h0 l1 l3 l4 hL
  have hlp := HQ.out.lpos
  go_enter Tryz.func86, Tryz.ntmps86
  obtain ⟨w2, hw2⟩ : ∃ W, W = w.alloc (.cells #[.int .i64 x.1, .slice ub un uc] 38) := ⟨_, rfl⟩
  have z2 : Below w.heap.size w w2 := by rw [hw2]; exact (Below.refl _ _).alloc (Nat.le_refl _) _
  have s2 : w2.heap.size = w.heap.size + 1 := by rw [hw2]; simp
  have hb2 := on hb0 z2
  have b_0 : w2.cell? ⟨w.heap.size, 0, none⟩ = some (.int .i64 x.1) := by rw [hw2]; exact box_cell (Below.refl _ _) rfl
  have b_1 : w2.cell? ⟨w.heap.size, 1, none⟩ = some (.slice ub un uc) := by rw [hw2]; exact box_cell (Below.refl _ _) rfl
  have raw2_b_0 := b_0
  have raw2_b_1 := b_1
  rw [hw2] at raw2_b_0 raw2_b_1
  go_wp2_with fail
  rw [← hw2]
  clear hw2
  clear raw2_b_0 raw2_b_1
  clear hlow
  go_loopw [5, 6] (fun s _ wr => ∃ g i : Nat, g < 16 ∧ i + 1 ≤ x.2.length ∧ s = .int .i64 g ∧ Hid (g ||| K = K ∧ i + 1 ≤ pc g) ∧ Hid (iterM x K x.2.length L = iterM x K (x.2.length - i) g) ∧ Below w2.heap.size w2 wr) (fun s _ _ => 16 - (intOf s).toNat)
  case atStart => exact ⟨L, 0, l2, hlp, rfl, Lib.hid ⟨L1.out, by rw [L4.out]; exact Nat.le_refl _⟩, rfl, Below.refl _ _⟩
  case round =>
    obtain ⟨g, i, hg, hi, rfl, hP, hE, hdr⟩ := hrel
    have hlc := hdr
    have s3 := hdr.size
    have hb3 := on hb2 hdr
    replace b_0 := (hdr.cell (p := ⟨w.heap.size, 0, none⟩) (by simp only []; omega)).trans b_0
    replace b_1 := (hdr.cell (p := ⟨w.heap.size, 1, none⟩) (by simp only []; omega)).trans b_1
    go_wp2_with fail
    refine (neighbors_any _ x g n _ (rQ.mono h hb3) HQ.out hg).mono ?_
    rintro e w4 ⟨rfl, z4⟩
    have s5 := z4.size
    have hb5 := on hb3 z4
    replace b_0 := (z4.cell (p := ⟨w.heap.size, 0, none⟩) (by simp only []; omega)).trans b_0
    replace b_1 := (z4.cell (p := ⟨w.heap.size, 1, none⟩) (by simp only []; omega)).trans b_1
    replace hlc := on hlc z4
    obtain ⟨N, hN⟩ : ∃ N, N = near x g := ⟨_, rfl⟩
    rw [← hN]
    have hN16 : N < 16 := by rw [hN]; exact Nat.lt_of_lt_of_le (near_lt x g) (pow_le16 hl4)
    have hS : stepM x K g = g ||| (N &&& K) := by rw [hN]; rfl
    have hS16 : stepM x K g < 16 := stepM_lt hl4 hg
    have ha := bits_and_nat N K (by omega) (by omega)
    have hNK : N &&& K < 16 := Nat.lt_of_le_of_lt Nat.and_le_left hN16
    have ho := bits_or_nat g (N &&& K) (by omega) (by omega)
    rw [← hS] at ho
    obtain ⟨S, hSS⟩ : ∃ S, S = stepM x K g := ⟨_, rfl⟩
    rw [← hSS] at ho hS16
    have HS := Lib.hid hSS
    clear hS hN hSS hNK
    by_cases hst : S = g
    · have HE := Lib.hid (show decide ((g : Int) = (K : Int)) = conn x K by
        rw [HC.out, HJ.out, hE.out, iterM_fix (HS.out.symm.trans hst)]
        rw [Bool.eq_iff_iff]; simp only [decide_eq_true_eq]; omega)
      rw [hst] at ho
      clear hst
      go_wp2_with fail
      go_ret
      exact ⟨ret_bool (by rw [← HE.out]; rfl), hb5⟩
    · have hroom := step_room hl4 hg HK.out hP.out.1 hP.out.2 (fun e => hst (HS.out.trans e))
      rw [← HS.out] at hroom
      have HP2 : Hid (S ||| K = K ∧ (i + 1) + 1 ≤ pc S) := Lib.hid ⟨by rw [HS.out]; exact stepM_sub hl4 hg hK16 hP.out.1, by omega⟩
      have HE2 : Hid (iterM x K x.2.length L = iterM x K (x.2.length - (i + 1)) S) := Lib.hid (by
        rw [hE.out, show x.2.length - i = (x.2.length - (i + 1)) + 1 by omega, iterM, ← HS.out])
      have hr2 := hroom.2
      have hgS : g < S := by
        have h1 : g ≤ S := by rw [HS.out]; exact Nat.left_le_or
        omega
      have hne : ((S : Int) == (g : Int)) = false := by rw [beq_eq_false_iff_ne]; omega
      clear hroom hst
      go_wp2_with fail
      go_roundw
      case rel => exact ⟨S, i + 1, hS16, by omega, rfl, HP2, HE2, hlc⟩
      case measure => simp [intOf]; omega

set_option maxHeartbeats 2000000 in
theorem joined_any (cs : List Value) (x : DQ) (K n : Nat) (w : World) (h : rQ.rep w cs x) (hq : QOk x n) (hK : K < 2 ^ x.2.length) :
    Calls Tryz.prog 81 #[.agg cs.toArray, .int .i64 K] w fun e w' => e = .returned (.bool (joined x K)) ∧ Below w.heap.size w w' := by
  obtain ⟨ub, un, uc, rfl, hi, g1⟩ := rQ_open h
  have hl := (rS_sl g1).len
  clear hi g1
  have hb0 : Below w.heap.size w w := Below.refl _ _
  have hl4 := hq.len
  have hK16 : K < 16 := Nat.lt_of_lt_of_le hK (pow_le16 hl4)
  have HQ := Lib.hid hq
  clear hq hK
  have hlow := low_int K hK16
  obtain ⟨l1, l2, l3⟩ := low_facts K hK16
  obtain ⟨L, hL⟩ : ∃ L, L = lowB K := ⟨_, rfl⟩
  rw [← hL] at hlow l2
  have HJ := Lib.hid (show joined x K = decide (iterM x K un L = K) by rw [joined, hL, hl])
  have hun : un ≤ 4 := by omega
  clear l1 l3 hL hl
  go_enter Tryz.func81, Tryz.ntmps81
  obtain ⟨w1, hw1⟩ : ∃ W, W = w.alloc (.cells #[.int .i64 x.1, .slice ub un uc] 38) := ⟨_, rfl⟩
  have z1 : Below w.heap.size w w1 := by rw [hw1]; exact (Below.refl _ _).alloc (Nat.le_refl _) _
  have s1 : w1.heap.size = w.heap.size + 1 := by rw [hw1]; simp
  have hb1 := on hb0 z1
  have b_0 : w1.cell? ⟨w.heap.size, 0, none⟩ = some (.int .i64 x.1) := by rw [hw1]; exact box_cell (Below.refl _ _) rfl
  have b_1 : w1.cell? ⟨w.heap.size, 1, none⟩ = some (.slice ub un uc) := by rw [hw1]; exact box_cell (Below.refl _ _) rfl
  have raw1_b_0 := b_0
  have raw1_b_1 := b_1
  rw [hw1] at raw1_b_0 raw1_b_1
  go_wp2_with fail
  rw [← hw1]
  clear hw1
  clear raw1_b_0 raw1_b_1
  clear hlow
  go_loopw [5, 6] (fun s k wr => ∃ g i : Nat, g < 16 ∧ i ≤ un ∧ k = .int .i64 i ∧ s = .int .i64 g ∧ Hid (iterM x K un L = iterM x K (un - i) g) ∧ Below w1.heap.size w1 wr) (fun _ k _ => un - (intOf k).toNat)
  case atStart => exact ⟨L, 0, l2, Nat.zero_le _, rfl, rfl, rfl, Below.refl _ _⟩
  case round =>
    obtain ⟨g, i, hg, hi, rfl, rfl, hE, hdr⟩ := hrel
    have hlc := hdr
    have s2 := hdr.size
    have hb2 := on hb1 hdr
    replace b_0 := (hdr.cell (p := ⟨w.heap.size, 0, none⟩) (by simp only []; omega)).trans b_0
    replace b_1 := (hdr.cell (p := ⟨w.heap.size, 1, none⟩) (by simp only []; omega)).trans b_1
    by_cases hlt : i < un
    · go_wp2_with fail
      refine (l8Near_any _ x g n _ (rQ.mono h hb2) HQ.out hg).mono ?_
      rintro e w3 ⟨rfl, z3⟩
      have s4 := z3.size
      have hb4 := on hb2 z3
      replace b_0 := (z3.cell (p := ⟨w.heap.size, 0, none⟩) (by simp only []; omega)).trans b_0
      replace b_1 := (z3.cell (p := ⟨w.heap.size, 1, none⟩) (by simp only []; omega)).trans b_1
      replace hlc := on hlc z3
      obtain ⟨N, hN⟩ : ∃ N, N = near x g := ⟨_, rfl⟩
      rw [← hN]
      have hN16 : N < 16 := by rw [hN]; exact Nat.lt_of_lt_of_le (near_lt x g) (pow_le16 hl4)
      have hS : stepM x K g = g ||| (N &&& K) := by rw [hN]; rfl
      have hS16 : stepM x K g < 16 := stepM_lt hl4 hg
      have ha := bits_and_nat N K (by omega) (by omega)
      have hNK : N &&& K < 16 := Nat.lt_of_le_of_lt Nat.and_le_left hN16
      have ho := bits_or_nat g (N &&& K) (by omega) (by omega)
      rw [← hS] at ho
      obtain ⟨S, hSS⟩ : ∃ S, S = stepM x K g := ⟨_, rfl⟩
      rw [← hSS] at ho hS16
      have HE2 : Hid (iterM x K un L = iterM x K (un - (i + 1)) S) := Lib.hid (by
        rw [hE.out, show un - i = (un - (i + 1)) + 1 by omega, iterM, ← hSS])
      clear hS hN hSS hNK
      go_wp2_with fail
      go_roundw
      case rel => exact ⟨S, i + 1, hS16, by omega, by go_num, rfl, HE2, hlc⟩
      case measure => simp [intOf]; omega
    · have HE := Lib.hid (show decide ((g : Int) = (K : Int)) = joined x K by
        rw [HJ.out, hE.out, show un - i = 0 by omega]
        show _ = decide (g = K)
        rw [Bool.eq_iff_iff]; simp only [decide_eq_true_eq]; omega)
      go_wp2_with fail
      go_ret
      exact ⟨ret_bool (by rw [← HE.out]; rfl), hb2⟩

end Go.Proofs.YtkipgbgkhffkkaaGreat
