/- Contracts: tables looked up (2). -/
import Derived.Test.YthhbmbkecaffeaaLook
namespace Go.Proofs.Ythhbmbkecaffeaa
open Go.RowKit Go.Sort
set_option linter.unusedVariables false
set_option linter.unusedSimpArgs false
set_option synthInstance.maxSize 2000
set_option synthInstance.maxHeartbeats 400000

set_option maxHeartbeats 1000000 in
theorem indexT_any (ub : Option Addr) (un uc : Nat) (x : List DT) (name : ByteArray) (p : Addr) (w : World) (h : rTl.rep w [.slice ub un uc] x) (hp : w.cell? p = some (.string name)) (hps : p.spot = none) :
    Calls Try.prog 109 #[.slice ub un uc, .func (.func 110) #[] #[.pointer (some p)]] w fun e w' => e = .returned (.int .i64 (idxFrom name 0 x)) ∧ Below w.heap.size w w' := by
  have t1 := rS_sl h
  have hl := t1.len
  have hn := t1.small
  have HV : Hid (idxFrom name 0 x = idxFrom name 0 (x.drop 0)) := rfl
  have HL := Lib.hid hl
  obtain ⟨pb, po, ps⟩ := p
  simp only at hps
  subst hps
  have hplt : pb < w.heap.size := cell_lt hp
  clear h
  have hb0 : Below w.heap.size w w := Below.refl _ _
  have c0 : w.cell? ⟨pb, po, none⟩ = some (.string name) := hp
  clear hp
  go_enter Try.func109, Try.ntmps109
  go_wp2_with fail
  go_loopw [8] (fun k wr => ∃ j : Nat, j ≤ un ∧ k = .int .i64 j ∧ Hid (idxFrom name 0 x = idxFrom name j (x.drop j)) ∧ Below w.heap.size w wr) (fun k _ => un - (intOf k).toNat)
  case atStart => exact ⟨0, Nat.zero_le _, rfl, HV.out, Below.refl _ _⟩
  case round =>
    obtain ⟨j, hj, rfl, hE, hdr⟩ := hrel
    obtain ⟨wo, rfl⟩ : ∃ W, W = wr := ⟨_, rfl⟩
    have hlc := hdr
    have s1 := hdr.size
    have hb1 := on hb0 hdr
    replace c0 := (hdr.cell (p := ⟨pb, po, none⟩) (by simp only []; omega)).trans c0
    by_cases hlt : j < un
    · obtain ⟨b1, o1, cs, t, rfl, hx, hr, hc⟩ := t1.at hlt
      have hcall := fun W (hW : Below w.heap.size w W) hq => lookFn_any cs t name ⟨pb, po, none⟩ W (rT.mono hr hW) hq rfl
      by_cases hne : t.1 = name
      · have HE : Hid (idxFrom name 0 x = (j : Int)) := Lib.hid (hE.out.trans (idxFrom_yes hx.out hne))
        have hd : decide (t.1 = name) = true := decide_eq_true hne
        simp only [hd] at hcall
        have HC := Lib.hid hcall
        obtain ⟨s, i, rows⟩ := t
        obtain ⟨tb, tn, tc, rfl, hs, hi, g2⟩ := rT_open hr
        simp only at hs hi g2 HC
        have e_lt : b1 < w.heap.size := cell_lt (hc 0 _ rfl)
        have e_0 : wo.cell? ⟨b1, o1 + j * 3, none⟩ = some (.string s) := (hb1.cell (p := ⟨b1, o1 + j * 3, none⟩) e_lt).trans (by have h9 := hc 0 _ rfl; rw [← Nat.add_assoc] at h9; exact h9)
        have e_1 : wo.cell? ⟨b1, o1 + j * 3 + 1, none⟩ = some (.int .i64 i) := (hb1.cell (p := ⟨b1, o1 + j * 3 + 1, none⟩) e_lt).trans (by have h9 := hc 1 _ rfl; rw [← Nat.add_assoc] at h9; exact h9)
        have e_2 : wo.cell? ⟨b1, o1 + j * 3 + 2, none⟩ = some (.slice tb tn tc) := (hb1.cell (p := ⟨b1, o1 + j * 3 + 2, none⟩) e_lt).trans (by have h9 := hc 2 _ rfl; rw [← Nat.add_assoc] at h9; exact h9)
        clear hcall hd hne hE HV hx hr hc g2 hl t1 hs hi
        go_wp2_with (go_at_call 110; refine (HC.out _ hb1 c0).mono ?_; rintro e w8 ⟨rfl, z8⟩)
        have s2 := z8.size
        have hb2 := on hb1 z8
        replace c0 := (z8.cell (p := ⟨pb, po, none⟩) (by simp only []; omega)).trans c0
        replace hlc := on hlc z8
        replace e_0 := (z8.cell (p := ⟨b1, o1 + j * 3, none⟩) (by simp only []; omega)).trans e_0
        replace e_1 := (z8.cell (p := ⟨b1, o1 + j * 3 + 1, none⟩) (by simp only []; omega)).trans e_1
        replace e_2 := (z8.cell (p := ⟨b1, o1 + j * 3 + 2, none⟩) (by simp only []; omega)).trans e_2
        go_wp2_with fail
        go_ret
        exact ⟨by rw [HE.out]; rfl, hb2⟩
      · have HE : Hid (idxFrom name 0 x = idxFrom name (j + 1) (x.drop (j + 1))) := Lib.hid (hE.out.trans (idxFrom_no hx.out hne))
        have hd : decide (t.1 = name) = false := decide_eq_false hne
        simp only [hd] at hcall
        have HC := Lib.hid hcall
        obtain ⟨s, i, rows⟩ := t
        obtain ⟨tb, tn, tc, rfl, hs, hi, g2⟩ := rT_open hr
        simp only at hs hi g2 HC
        have e_lt : b1 < w.heap.size := cell_lt (hc 0 _ rfl)
        have e_0 : wo.cell? ⟨b1, o1 + j * 3, none⟩ = some (.string s) := (hb1.cell (p := ⟨b1, o1 + j * 3, none⟩) e_lt).trans (by have h9 := hc 0 _ rfl; rw [← Nat.add_assoc] at h9; exact h9)
        have e_1 : wo.cell? ⟨b1, o1 + j * 3 + 1, none⟩ = some (.int .i64 i) := (hb1.cell (p := ⟨b1, o1 + j * 3 + 1, none⟩) e_lt).trans (by have h9 := hc 1 _ rfl; rw [← Nat.add_assoc] at h9; exact h9)
        have e_2 : wo.cell? ⟨b1, o1 + j * 3 + 2, none⟩ = some (.slice tb tn tc) := (hb1.cell (p := ⟨b1, o1 + j * 3 + 2, none⟩) e_lt).trans (by have h9 := hc 2 _ rfl; rw [← Nat.add_assoc] at h9; exact h9)
        clear hcall hd hne hE HV hx hr hc g2 hl t1 hs hi
        go_wp2_with (go_at_call 110; refine (HC.out _ hb1 c0).mono ?_; rintro e w8 ⟨rfl, z8⟩)
        have s3 := z8.size
        have hb3 := on hb1 z8
        replace c0 := (z8.cell (p := ⟨pb, po, none⟩) (by simp only []; omega)).trans c0
        replace hlc := on hlc z8
        replace e_0 := (z8.cell (p := ⟨b1, o1 + j * 3, none⟩) (by simp only []; omega)).trans e_0
        replace e_1 := (z8.cell (p := ⟨b1, o1 + j * 3 + 1, none⟩) (by simp only []; omega)).trans e_1
        replace e_2 := (z8.cell (p := ⟨b1, o1 + j * 3 + 2, none⟩) (by simp only []; omega)).trans e_2
        go_wp2_with fail
        go_roundw
        case rel => exact ⟨j + 1, by omega, by go_num, HE.out, hlc⟩
        case measure => simp [intOf]; omega
    · have HE : Hid (idxFrom name 0 x = -1) := Lib.hid (hE.out.trans (idxFrom_end (by have := HL.out; omega)))
      clear t1 hl hE HV
      go_wp2_with fail
      go_ret
      exact ⟨by rw [HE.out]; rfl, hb1⟩

theorem look_some_idx {db : DDb} {name : ByteArray} {t : DT} (h : look db name = some t) : ∃ k : Nat, idxFrom name 0 db = (k : Int) ∧ db[k]? = some t ∧ validDb db = true := by
  unfold look at h
  split at h
  · rename_i hv
    rcases @idx_find name db 0 with ⟨_, h2⟩ | ⟨k, u, h1, h2, h3⟩
    · rw [h2] at h; cases h
    · rw [h3] at h
      obtain rfl := Option.some.inj h
      exact ⟨k, by simpa using h1, h2, hv⟩
  · cases h
theorem look_none_idx {db : DDb} {name : ByteArray} (h : look db name = none) : idxFrom name 0 db = -1 ∨ ∃ k : Nat, idxFrom name 0 db = (k : Int) ∧ validDb db = false := by
  unfold look at h
  rcases @idx_find name db 0 with ⟨h1, _⟩ | ⟨k, u, h1, h2, h3⟩
  · exact .inl h1
  · split at h
    · rw [h3] at h; cases h
    · rename_i hv
      exact .inr ⟨k, by simpa using h1, by simpa using hv⟩
/-- The table that is handed back where there is none. -/
abbrev noT : Array Value := #[.string ⟨#[]⟩, .int .i64 0, .slice none 0 0]

set_option maxHeartbeats 1000000 in
theorem lookI_none (cs : List Value) (db : DDb) (name : ByteArray) (w : World) (h : rDb.rep w cs db) (hL : look db name = none) :
    Calls Try.prog 68 #[.agg cs.toArray, .string name] w fun e w' => e = .returned (.tuple #[.agg noT, .bool false]) ∧ Below w.heap.size w w' := by
  obtain ⟨ub, un, uc, rfl, g1⟩ := rDb_open h
  have hcall := fun W p (hW : Below w.heap.size w W) hq hs => indexT_any ub un uc db name p W (rTl.mono g1 hW) hq hs
  have hval := fun W (hW : Below w.heap.size w W) => validDb_impl [.slice ub un uc] db W (rDb.mono h hW)
  clear h g1
  rcases look_none_idx hL with HI | ⟨k, HI, hv⟩
  · simp only [HI] at hcall
    have HC := Lib.hid hcall
    clear hcall hval HI hL
    have hb0 : Below w.heap.size w w := Below.refl _ _
    go_enter Try.func68, Try.ntmps68
    obtain ⟨w1, hw1⟩ : ∃ W, W = w.alloc (.cells #[.slice ub un uc] 49) := ⟨_, rfl⟩
    have z1 : Below w.heap.size w w1 := by rw [hw1]; exact (Below.refl _ _).alloc (Nat.le_refl _) _
    have s1 : w1.heap.size = w.heap.size + 1 := by rw [hw1]; simp
    have hb1 := on hb0 z1
    have b_0 : w1.cell? ⟨w.heap.size, 0, none⟩ = some (.slice ub un uc) := by rw [hw1]; exact box_cell (Below.refl _ _) rfl
    have b_f0 : w1.frozen? ⟨w.heap.size, 0, none⟩ = false := by rw [hw1]; exact box_frozen (Below.refl _ _)
    have raw1_b_0 := b_0
    rw [hw1] at raw1_b_0
    obtain ⟨w2, hw2⟩ : ∃ W, W = w1.alloc (.cells #[.string name] 9) := ⟨_, rfl⟩
    have z2 : Below w1.heap.size w1 w2 := by rw [hw2]; exact (Below.refl _ _).alloc (Nat.le_refl _) _
    have s2 : w2.heap.size = w1.heap.size + 1 := by rw [hw2]; simp
    have hb2 := on hb1 z2
    replace b_0 := (z2.cell (p := ⟨w.heap.size, 0, none⟩) (by simp only []; omega)).trans b_0
    replace b_f0 := (z2.frozen (p := ⟨w.heap.size, 0, none⟩) (by simp only []; omega)).trans b_f0
    have e2 : w1.heap.size = w.heap.size + 1 := by omega
    have p_0 : w2.cell? ⟨w1.heap.size, 0, none⟩ = some (.string name) := by rw [hw2]; exact box_cell (Below.refl _ _) rfl
    rw [e2] at p_0
    have p_f0 : w2.frozen? ⟨w1.heap.size, 0, none⟩ = false := by rw [hw2]; exact box_frozen (Below.refl _ _)
    rw [e2] at p_f0
    have raw2_b_0 := b_0
    have raw2_p_0 := p_0
    rw [hw2, hw1] at raw2_b_0 raw2_p_0
    obtain ⟨w3, hw3⟩ : ∃ W, W = w2.alloc (.cells #[.string ⟨#[]⟩, .int .i64 0, .slice none 0 0] 91) := ⟨_, rfl⟩
    have z3 : Below w2.heap.size w2 w3 := by rw [hw3]; exact (Below.refl _ _).alloc (Nat.le_refl _) _
    have s3 : w3.heap.size = w2.heap.size + 1 := by rw [hw3]; simp
    have hb3 := on hb2 z3
    replace b_0 := (z3.cell (p := ⟨w.heap.size, 0, none⟩) (by simp only []; omega)).trans b_0
    replace b_f0 := (z3.frozen (p := ⟨w.heap.size, 0, none⟩) (by simp only []; omega)).trans b_f0
    replace p_0 := (z3.cell (p := ⟨w.heap.size + 1, 0, none⟩) (by simp only []; omega)).trans p_0
    replace p_f0 := (z3.frozen (p := ⟨w.heap.size + 1, 0, none⟩) (by simp only []; omega)).trans p_f0
    have e3 : w2.heap.size = w.heap.size + 1 + 1 := by omega
    have r_0 : w3.cell? ⟨w2.heap.size, 0, none⟩ = some (.string ⟨#[]⟩) := by rw [hw3]; exact box_cell (Below.refl _ _) rfl
    have r_1 : w3.cell? ⟨w2.heap.size, 1, none⟩ = some (.int .i64 0) := by rw [hw3]; exact box_cell (Below.refl _ _) rfl
    have r_2 : w3.cell? ⟨w2.heap.size, 2, none⟩ = some (.slice none 0 0) := by rw [hw3]; exact box_cell (Below.refl _ _) rfl
    rw [e3] at r_0 r_1 r_2
    have r_f0 : w3.frozen? ⟨w2.heap.size, 0, none⟩ = false := by rw [hw3]; exact box_frozen (Below.refl _ _)
    have r_f1 : w3.frozen? ⟨w2.heap.size, 1, none⟩ = false := by rw [hw3]; exact box_frozen (Below.refl _ _)
    have r_f2 : w3.frozen? ⟨w2.heap.size, 2, none⟩ = false := by rw [hw3]; exact box_frozen (Below.refl _ _)
    rw [e3] at r_f0 r_f1 r_f2
    have raw3_b_0 := b_0
    have raw3_p_0 := p_0
    have raw3_r_0 := r_0
    have raw3_r_1 := r_1
    have raw3_r_2 := r_2
    rw [hw3, hw2, hw1] at raw3_b_0 raw3_p_0 raw3_r_0 raw3_r_1 raw3_r_2
    go_wp2_with fail
    rw [← hw1]
    rw [← hw2]
    rw [← hw3]
    clear hw3 hw2 hw1
    clear raw1_b_0 raw2_b_0 raw2_p_0 raw3_b_0 raw3_p_0 raw3_r_0 raw3_r_1 raw3_r_2
    refine (HC.out _ _ hb3 p_0 rfl).mono ?_
    rintro e w9 ⟨rfl, z9⟩
    have s4 := z9.size
    have hb4 := on hb3 z9
    replace b_0 := (z9.cell (p := ⟨w.heap.size, 0, none⟩) (by simp only []; omega)).trans b_0
    replace b_f0 := (z9.frozen (p := ⟨w.heap.size, 0, none⟩) (by simp only []; omega)).trans b_f0
    replace p_0 := (z9.cell (p := ⟨w.heap.size + 1, 0, none⟩) (by simp only []; omega)).trans p_0
    replace p_f0 := (z9.frozen (p := ⟨w.heap.size + 1, 0, none⟩) (by simp only []; omega)).trans p_f0
    replace r_0 := (z9.cell (p := ⟨w.heap.size + 1 + 1, 0, none⟩) (by simp only []; omega)).trans r_0
    replace r_1 := (z9.cell (p := ⟨w.heap.size + 1 + 1, 1, none⟩) (by simp only []; omega)).trans r_1
    replace r_2 := (z9.cell (p := ⟨w.heap.size + 1 + 1, 2, none⟩) (by simp only []; omega)).trans r_2
    replace r_f0 := (z9.frozen (p := ⟨w.heap.size + 1 + 1, 0, none⟩) (by simp only []; omega)).trans r_f0
    replace r_f1 := (z9.frozen (p := ⟨w.heap.size + 1 + 1, 1, none⟩) (by simp only []; omega)).trans r_f1
    replace r_f2 := (z9.frozen (p := ⟨w.heap.size + 1 + 1, 2, none⟩) (by simp only []; omega)).trans r_f2
    go_wp2_with fail
    refine bodyPost_ret (v := .tuple #[.agg noT, .bool false]) (by simp [results, Try.results68, go_sem, noT, r_0, r_1, r_2, r_f0, r_f1, r_f2]) rfl ⟨rfl, ?_⟩
    repeat (refine Below.setCell ?_ (by simp only []; omega) _)
    exact hb4
  · simp only [HI] at hcall
    simp only [hv] at hval
    have HC := Lib.hid hcall
    have HV := Lib.hid hval
    clear hcall hval HI hL hv
    have hb0 : Below w.heap.size w w := Below.refl _ _
    go_enter Try.func68, Try.ntmps68
    obtain ⟨w5, hw5⟩ : ∃ W, W = w.alloc (.cells #[.slice ub un uc] 49) := ⟨_, rfl⟩
    have z5 : Below w.heap.size w w5 := by rw [hw5]; exact (Below.refl _ _).alloc (Nat.le_refl _) _
    have s5 : w5.heap.size = w.heap.size + 1 := by rw [hw5]; simp
    have hb5 := on hb0 z5
    have b_0 : w5.cell? ⟨w.heap.size, 0, none⟩ = some (.slice ub un uc) := by rw [hw5]; exact box_cell (Below.refl _ _) rfl
    have b_f0 : w5.frozen? ⟨w.heap.size, 0, none⟩ = false := by rw [hw5]; exact box_frozen (Below.refl _ _)
    have raw5_b_0 := b_0
    rw [hw5] at raw5_b_0
    obtain ⟨w6, hw6⟩ : ∃ W, W = w5.alloc (.cells #[.string name] 9) := ⟨_, rfl⟩
    have z6 : Below w5.heap.size w5 w6 := by rw [hw6]; exact (Below.refl _ _).alloc (Nat.le_refl _) _
    have s6 : w6.heap.size = w5.heap.size + 1 := by rw [hw6]; simp
    have hb6 := on hb5 z6
    replace b_0 := (z6.cell (p := ⟨w.heap.size, 0, none⟩) (by simp only []; omega)).trans b_0
    replace b_f0 := (z6.frozen (p := ⟨w.heap.size, 0, none⟩) (by simp only []; omega)).trans b_f0
    have e6 : w5.heap.size = w.heap.size + 1 := by omega
    have p_0 : w6.cell? ⟨w5.heap.size, 0, none⟩ = some (.string name) := by rw [hw6]; exact box_cell (Below.refl _ _) rfl
    rw [e6] at p_0
    have p_f0 : w6.frozen? ⟨w5.heap.size, 0, none⟩ = false := by rw [hw6]; exact box_frozen (Below.refl _ _)
    rw [e6] at p_f0
    have raw6_b_0 := b_0
    have raw6_p_0 := p_0
    rw [hw6, hw5] at raw6_b_0 raw6_p_0
    obtain ⟨w7, hw7⟩ : ∃ W, W = w6.alloc (.cells #[.string ⟨#[]⟩, .int .i64 0, .slice none 0 0] 91) := ⟨_, rfl⟩
    have z7 : Below w6.heap.size w6 w7 := by rw [hw7]; exact (Below.refl _ _).alloc (Nat.le_refl _) _
    have s7 : w7.heap.size = w6.heap.size + 1 := by rw [hw7]; simp
    have hb7 := on hb6 z7
    replace b_0 := (z7.cell (p := ⟨w.heap.size, 0, none⟩) (by simp only []; omega)).trans b_0
    replace b_f0 := (z7.frozen (p := ⟨w.heap.size, 0, none⟩) (by simp only []; omega)).trans b_f0
    replace p_0 := (z7.cell (p := ⟨w.heap.size + 1, 0, none⟩) (by simp only []; omega)).trans p_0
    replace p_f0 := (z7.frozen (p := ⟨w.heap.size + 1, 0, none⟩) (by simp only []; omega)).trans p_f0
    have e7 : w6.heap.size = w.heap.size + 1 + 1 := by omega
    have r_0 : w7.cell? ⟨w6.heap.size, 0, none⟩ = some (.string ⟨#[]⟩) := by rw [hw7]; exact box_cell (Below.refl _ _) rfl
    have r_1 : w7.cell? ⟨w6.heap.size, 1, none⟩ = some (.int .i64 0) := by rw [hw7]; exact box_cell (Below.refl _ _) rfl
    have r_2 : w7.cell? ⟨w6.heap.size, 2, none⟩ = some (.slice none 0 0) := by rw [hw7]; exact box_cell (Below.refl _ _) rfl
    rw [e7] at r_0 r_1 r_2
    have r_f0 : w7.frozen? ⟨w6.heap.size, 0, none⟩ = false := by rw [hw7]; exact box_frozen (Below.refl _ _)
    have r_f1 : w7.frozen? ⟨w6.heap.size, 1, none⟩ = false := by rw [hw7]; exact box_frozen (Below.refl _ _)
    have r_f2 : w7.frozen? ⟨w6.heap.size, 2, none⟩ = false := by rw [hw7]; exact box_frozen (Below.refl _ _)
    rw [e7] at r_f0 r_f1 r_f2
    have raw7_b_0 := b_0
    have raw7_p_0 := p_0
    have raw7_r_0 := r_0
    have raw7_r_1 := r_1
    have raw7_r_2 := r_2
    rw [hw7, hw6, hw5] at raw7_b_0 raw7_p_0 raw7_r_0 raw7_r_1 raw7_r_2
    go_wp2_with fail
    rw [← hw5]
    rw [← hw6]
    rw [← hw7]
    clear hw7 hw6 hw5
    clear raw5_b_0 raw6_b_0 raw6_p_0 raw7_b_0 raw7_p_0 raw7_r_0 raw7_r_1 raw7_r_2
    refine (HC.out _ _ hb7 p_0 rfl).mono ?_
    rintro e w9 ⟨rfl, z9⟩
    have s8 := z9.size
    have hb8 := on hb7 z9
    replace b_0 := (z9.cell (p := ⟨w.heap.size, 0, none⟩) (by simp only []; omega)).trans b_0
    replace b_f0 := (z9.frozen (p := ⟨w.heap.size, 0, none⟩) (by simp only []; omega)).trans b_f0
    replace p_0 := (z9.cell (p := ⟨w.heap.size + 1, 0, none⟩) (by simp only []; omega)).trans p_0
    replace p_f0 := (z9.frozen (p := ⟨w.heap.size + 1, 0, none⟩) (by simp only []; omega)).trans p_f0
    replace r_0 := (z9.cell (p := ⟨w.heap.size + 1 + 1, 0, none⟩) (by simp only []; omega)).trans r_0
    replace r_1 := (z9.cell (p := ⟨w.heap.size + 1 + 1, 1, none⟩) (by simp only []; omega)).trans r_1
    replace r_2 := (z9.cell (p := ⟨w.heap.size + 1 + 1, 2, none⟩) (by simp only []; omega)).trans r_2
    replace r_f0 := (z9.frozen (p := ⟨w.heap.size + 1 + 1, 0, none⟩) (by simp only []; omega)).trans r_f0
    replace r_f1 := (z9.frozen (p := ⟨w.heap.size + 1 + 1, 1, none⟩) (by simp only []; omega)).trans r_f1
    replace r_f2 := (z9.frozen (p := ⟨w.heap.size + 1 + 1, 2, none⟩) (by simp only []; omega)).trans r_f2
    go_wp2_with fail
    refine (HV.out _ hb8).mono ?_
    rintro e w10 ⟨rfl, z10⟩
    have s9 := z10.size
    have hb9 := on hb8 z10
    replace b_0 := (z10.cell (p := ⟨w.heap.size, 0, none⟩) (by simp only []; omega)).trans b_0
    replace b_f0 := (z10.frozen (p := ⟨w.heap.size, 0, none⟩) (by simp only []; omega)).trans b_f0
    replace p_0 := (z10.cell (p := ⟨w.heap.size + 1, 0, none⟩) (by simp only []; omega)).trans p_0
    replace p_f0 := (z10.frozen (p := ⟨w.heap.size + 1, 0, none⟩) (by simp only []; omega)).trans p_f0
    replace r_0 := (z10.cell (p := ⟨w.heap.size + 1 + 1, 0, none⟩) (by simp only []; omega)).trans r_0
    replace r_1 := (z10.cell (p := ⟨w.heap.size + 1 + 1, 1, none⟩) (by simp only []; omega)).trans r_1
    replace r_2 := (z10.cell (p := ⟨w.heap.size + 1 + 1, 2, none⟩) (by simp only []; omega)).trans r_2
    replace r_f0 := (z10.frozen (p := ⟨w.heap.size + 1 + 1, 0, none⟩) (by simp only []; omega)).trans r_f0
    replace r_f1 := (z10.frozen (p := ⟨w.heap.size + 1 + 1, 1, none⟩) (by simp only []; omega)).trans r_f1
    replace r_f2 := (z10.frozen (p := ⟨w.heap.size + 1 + 1, 2, none⟩) (by simp only []; omega)).trans r_f2
    go_wp2_with fail
    refine bodyPost_ret (v := .tuple #[.agg noT, .bool false]) (by simp [results, Try.results68, go_sem, noT, r_0, r_1, r_2, r_f0, r_f1, r_f2]) rfl ⟨rfl, ?_⟩
    repeat (refine Below.setCell ?_ (by simp only []; omega) _)
    exact hb9

set_option maxHeartbeats 1000000 in
theorem lookI_some (cs : List Value) (db : DDb) (name : ByteArray) (t : DT) (w : World) (h : rDb.rep w cs db) (hL : look db name = some t) :
    Calls Try.prog 68 #[.agg cs.toArray, .string name] w fun e w' => ∃ ds, e = .returned (.tuple #[.agg ds.toArray, .bool true]) ∧ Own oT w.heap.size w'.heap.size w' ds t ∧ Below w.heap.size w w' := by
  obtain ⟨ub, un, uc, rfl, g1⟩ := rDb_open h
  have hcall := fun W p (hW : Below w.heap.size w W) hq hs => indexT_any ub un uc db name p W (rTl.mono g1 hW) hq hs
  have hval := fun W (hW : Below w.heap.size w W) => validDb_impl [.slice ub un uc] db W (rDb.mono h hW)
  have hbk := (look_ok hL).bulk
  obtain ⟨k, HI, hk, hv⟩ := look_some_idx hL
  have t1 := rS_sl g1
  have hl := t1.len
  have hn := t1.small
  have hlt : k < un := by rw [← hl]; exact (List.getElem?_eq_some_iff.1 hk).1
  simp only [HI] at hcall
  simp only [hv] at hval
  obtain ⟨b1, o1, cs, t', rfl, hx, hr, hc⟩ := t1.at hlt
  obtain rfl : t' = t := by have h9 := hx.out; rw [hk] at h9; exact (Option.some.inj h9).symm
  have hcp := fun W (hW : Below w.heap.size w W) => copyTable_any cs t' W (rT.mono hr hW) (by omega)
  have HC := Lib.hid hcall
  have HV := Lib.hid hval
  obtain ⟨s, i, rows⟩ := t'
  obtain ⟨tb, tn, tc, rfl, hs, hi, g2⟩ := rT_open hr
  simp only at hs hi g2 hcp
  have HP := Lib.hid hcp
  clear hcall hval HI hL hv hcp h g1 hbk hk hx hr g2 t1 hl
  have hb0 : Below w.heap.size w w := Below.refl _ _
  have e_lt : b1 < w.heap.size := cell_lt (hc 0 _ rfl)
  have e_0 : w.cell? ⟨b1, o1 + k * 3, none⟩ = some (.string s) := (hb0.cell (p := ⟨b1, o1 + k * 3, none⟩) e_lt).trans (by have h9 := hc 0 _ rfl; rw [← Nat.add_assoc] at h9; exact h9)
  have e_1 : w.cell? ⟨b1, o1 + k * 3 + 1, none⟩ = some (.int .i64 i) := (hb0.cell (p := ⟨b1, o1 + k * 3 + 1, none⟩) e_lt).trans (by have h9 := hc 1 _ rfl; rw [← Nat.add_assoc] at h9; exact h9)
  have e_2 : w.cell? ⟨b1, o1 + k * 3 + 2, none⟩ = some (.slice tb tn tc) := (hb0.cell (p := ⟨b1, o1 + k * 3 + 2, none⟩) e_lt).trans (by have h9 := hc 2 _ rfl; rw [← Nat.add_assoc] at h9; exact h9)
  clear hc
  go_enter Try.func68, Try.ntmps68
  obtain ⟨w1, hw1⟩ : ∃ W, W = w.alloc (.cells #[.slice (some ⟨b1, o1, none⟩) un uc] 49) := ⟨_, rfl⟩
  have z1 : Below w.heap.size w w1 := by rw [hw1]; exact (Below.refl _ _).alloc (Nat.le_refl _) _
  have s1 : w1.heap.size = w.heap.size + 1 := by rw [hw1]; simp
  have hb1 := on hb0 z1
  have old1_e_0 := e_0
  have old1_e_1 := e_1
  have old1_e_2 := e_2
  replace e_0 := (z1.cell (p := ⟨b1, o1 + k * 3, none⟩) (by simp only []; omega)).trans e_0
  replace e_1 := (z1.cell (p := ⟨b1, o1 + k * 3 + 1, none⟩) (by simp only []; omega)).trans e_1
  replace e_2 := (z1.cell (p := ⟨b1, o1 + k * 3 + 2, none⟩) (by simp only []; omega)).trans e_2
  have b_0 : w1.cell? ⟨w.heap.size, 0, none⟩ = some (.slice (some ⟨b1, o1, none⟩) un uc) := by rw [hw1]; exact box_cell (Below.refl _ _) rfl
  have b_f0 : w1.frozen? ⟨w.heap.size, 0, none⟩ = false := by rw [hw1]; exact box_frozen (Below.refl _ _)
  have raw1_e_0 := e_0
  have raw1_e_1 := e_1
  have raw1_e_2 := e_2
  have raw1_b_0 := b_0
  rw [hw1] at raw1_e_0 raw1_e_1 raw1_e_2 raw1_b_0
  obtain ⟨w2, hw2⟩ : ∃ W, W = w1.alloc (.cells #[.string name] 9) := ⟨_, rfl⟩
  have z2 : Below w1.heap.size w1 w2 := by rw [hw2]; exact (Below.refl _ _).alloc (Nat.le_refl _) _
  have s2 : w2.heap.size = w1.heap.size + 1 := by rw [hw2]; simp
  have hb2 := on hb1 z2
  replace e_0 := (z2.cell (p := ⟨b1, o1 + k * 3, none⟩) (by simp only []; omega)).trans e_0
  replace e_1 := (z2.cell (p := ⟨b1, o1 + k * 3 + 1, none⟩) (by simp only []; omega)).trans e_1
  replace e_2 := (z2.cell (p := ⟨b1, o1 + k * 3 + 2, none⟩) (by simp only []; omega)).trans e_2
  replace b_0 := (z2.cell (p := ⟨w.heap.size, 0, none⟩) (by simp only []; omega)).trans b_0
  replace b_f0 := (z2.frozen (p := ⟨w.heap.size, 0, none⟩) (by simp only []; omega)).trans b_f0
  have e2 : w1.heap.size = w.heap.size + 1 := by omega
  have p_0 : w2.cell? ⟨w1.heap.size, 0, none⟩ = some (.string name) := by rw [hw2]; exact box_cell (Below.refl _ _) rfl
  rw [e2] at p_0
  have p_f0 : w2.frozen? ⟨w1.heap.size, 0, none⟩ = false := by rw [hw2]; exact box_frozen (Below.refl _ _)
  rw [e2] at p_f0
  have raw2_e_0 := e_0
  have raw2_e_1 := e_1
  have raw2_e_2 := e_2
  have raw2_b_0 := b_0
  have raw2_p_0 := p_0
  rw [hw2, hw1] at raw2_e_0 raw2_e_1 raw2_e_2 raw2_b_0 raw2_p_0
  obtain ⟨w3, hw3⟩ : ∃ W, W = w2.alloc (.cells #[.string ⟨#[]⟩, .int .i64 0, .slice none 0 0] 91) := ⟨_, rfl⟩
  have z3 : Below w2.heap.size w2 w3 := by rw [hw3]; exact (Below.refl _ _).alloc (Nat.le_refl _) _
  have s3 : w3.heap.size = w2.heap.size + 1 := by rw [hw3]; simp
  have hb3 := on hb2 z3
  replace e_0 := (z3.cell (p := ⟨b1, o1 + k * 3, none⟩) (by simp only []; omega)).trans e_0
  replace e_1 := (z3.cell (p := ⟨b1, o1 + k * 3 + 1, none⟩) (by simp only []; omega)).trans e_1
  replace e_2 := (z3.cell (p := ⟨b1, o1 + k * 3 + 2, none⟩) (by simp only []; omega)).trans e_2
  replace b_0 := (z3.cell (p := ⟨w.heap.size, 0, none⟩) (by simp only []; omega)).trans b_0
  replace b_f0 := (z3.frozen (p := ⟨w.heap.size, 0, none⟩) (by simp only []; omega)).trans b_f0
  replace p_0 := (z3.cell (p := ⟨w.heap.size + 1, 0, none⟩) (by simp only []; omega)).trans p_0
  replace p_f0 := (z3.frozen (p := ⟨w.heap.size + 1, 0, none⟩) (by simp only []; omega)).trans p_f0
  have e3 : w2.heap.size = w.heap.size + 1 + 1 := by omega
  have r_0 : w3.cell? ⟨w2.heap.size, 0, none⟩ = some (.string ⟨#[]⟩) := by rw [hw3]; exact box_cell (Below.refl _ _) rfl
  have r_1 : w3.cell? ⟨w2.heap.size, 1, none⟩ = some (.int .i64 0) := by rw [hw3]; exact box_cell (Below.refl _ _) rfl
  have r_2 : w3.cell? ⟨w2.heap.size, 2, none⟩ = some (.slice none 0 0) := by rw [hw3]; exact box_cell (Below.refl _ _) rfl
  rw [e3] at r_0 r_1 r_2
  have r_f0 : w3.frozen? ⟨w2.heap.size, 0, none⟩ = false := by rw [hw3]; exact box_frozen (Below.refl _ _)
  have r_f1 : w3.frozen? ⟨w2.heap.size, 1, none⟩ = false := by rw [hw3]; exact box_frozen (Below.refl _ _)
  have r_f2 : w3.frozen? ⟨w2.heap.size, 2, none⟩ = false := by rw [hw3]; exact box_frozen (Below.refl _ _)
  rw [e3] at r_f0 r_f1 r_f2
  have raw3_e_0 := e_0
  have raw3_e_1 := e_1
  have raw3_e_2 := e_2
  have raw3_b_0 := b_0
  have raw3_p_0 := p_0
  have raw3_r_0 := r_0
  have raw3_r_1 := r_1
  have raw3_r_2 := r_2
  rw [hw3, hw2, hw1] at raw3_e_0 raw3_e_1 raw3_e_2 raw3_b_0 raw3_p_0 raw3_r_0 raw3_r_1 raw3_r_2
  go_wp2_with fail
  rw [← hw1]
  rw [← hw2]
  rw [← hw3]
  clear hw3 hw2 hw1
  clear old1_e_0 old1_e_1 old1_e_2 raw1_e_0 raw1_e_1 raw1_e_2 raw1_b_0 raw2_e_0 raw2_e_1 raw2_e_2 raw2_b_0 raw2_p_0 raw3_e_0 raw3_e_1 raw3_e_2 raw3_b_0 raw3_p_0 raw3_r_0 raw3_r_1 raw3_r_2
  refine (HC.out _ _ hb3 p_0 rfl).mono ?_
  rintro e w9 ⟨rfl, z9⟩
  have s4 := z9.size
  have hb4 := on hb3 z9
  replace e_0 := (z9.cell (p := ⟨b1, o1 + k * 3, none⟩) (by simp only []; omega)).trans e_0
  replace e_1 := (z9.cell (p := ⟨b1, o1 + k * 3 + 1, none⟩) (by simp only []; omega)).trans e_1
  replace e_2 := (z9.cell (p := ⟨b1, o1 + k * 3 + 2, none⟩) (by simp only []; omega)).trans e_2
  replace b_0 := (z9.cell (p := ⟨w.heap.size, 0, none⟩) (by simp only []; omega)).trans b_0
  replace b_f0 := (z9.frozen (p := ⟨w.heap.size, 0, none⟩) (by simp only []; omega)).trans b_f0
  replace p_0 := (z9.cell (p := ⟨w.heap.size + 1, 0, none⟩) (by simp only []; omega)).trans p_0
  replace p_f0 := (z9.frozen (p := ⟨w.heap.size + 1, 0, none⟩) (by simp only []; omega)).trans p_f0
  replace r_0 := (z9.cell (p := ⟨w.heap.size + 1 + 1, 0, none⟩) (by simp only []; omega)).trans r_0
  replace r_1 := (z9.cell (p := ⟨w.heap.size + 1 + 1, 1, none⟩) (by simp only []; omega)).trans r_1
  replace r_2 := (z9.cell (p := ⟨w.heap.size + 1 + 1, 2, none⟩) (by simp only []; omega)).trans r_2
  replace r_f0 := (z9.frozen (p := ⟨w.heap.size + 1 + 1, 0, none⟩) (by simp only []; omega)).trans r_f0
  replace r_f1 := (z9.frozen (p := ⟨w.heap.size + 1 + 1, 1, none⟩) (by simp only []; omega)).trans r_f1
  replace r_f2 := (z9.frozen (p := ⟨w.heap.size + 1 + 1, 2, none⟩) (by simp only []; omega)).trans r_f2
  go_wp2_with fail
  refine (HV.out _ hb4).mono ?_
  rintro e w10 ⟨rfl, z10⟩
  have s5 := z10.size
  have hb5 := on hb4 z10
  replace e_0 := (z10.cell (p := ⟨b1, o1 + k * 3, none⟩) (by simp only []; omega)).trans e_0
  replace e_1 := (z10.cell (p := ⟨b1, o1 + k * 3 + 1, none⟩) (by simp only []; omega)).trans e_1
  replace e_2 := (z10.cell (p := ⟨b1, o1 + k * 3 + 2, none⟩) (by simp only []; omega)).trans e_2
  replace b_0 := (z10.cell (p := ⟨w.heap.size, 0, none⟩) (by simp only []; omega)).trans b_0
  replace b_f0 := (z10.frozen (p := ⟨w.heap.size, 0, none⟩) (by simp only []; omega)).trans b_f0
  replace p_0 := (z10.cell (p := ⟨w.heap.size + 1, 0, none⟩) (by simp only []; omega)).trans p_0
  replace p_f0 := (z10.frozen (p := ⟨w.heap.size + 1, 0, none⟩) (by simp only []; omega)).trans p_f0
  replace r_0 := (z10.cell (p := ⟨w.heap.size + 1 + 1, 0, none⟩) (by simp only []; omega)).trans r_0
  replace r_1 := (z10.cell (p := ⟨w.heap.size + 1 + 1, 1, none⟩) (by simp only []; omega)).trans r_1
  replace r_2 := (z10.cell (p := ⟨w.heap.size + 1 + 1, 2, none⟩) (by simp only []; omega)).trans r_2
  replace r_f0 := (z10.frozen (p := ⟨w.heap.size + 1 + 1, 0, none⟩) (by simp only []; omega)).trans r_f0
  replace r_f1 := (z10.frozen (p := ⟨w.heap.size + 1 + 1, 1, none⟩) (by simp only []; omega)).trans r_f1
  replace r_f2 := (z10.frozen (p := ⟨w.heap.size + 1 + 1, 2, none⟩) (by simp only []; omega)).trans r_f2
  go_wp2_with fail
  refine (HP.out _ hb5).mono ?_
  rintro e w11 ⟨ds, rfl, ho, z11⟩
  obtain ⟨vb, vn, vc, rfl⟩ := oT_form ho
  simp only at ho
  have s6 := z11.size
  have hb6 := on hb5 z11
  replace e_0 := (z11.cell (p := ⟨b1, o1 + k * 3, none⟩) (by simp only []; omega)).trans e_0
  replace e_1 := (z11.cell (p := ⟨b1, o1 + k * 3 + 1, none⟩) (by simp only []; omega)).trans e_1
  replace e_2 := (z11.cell (p := ⟨b1, o1 + k * 3 + 2, none⟩) (by simp only []; omega)).trans e_2
  replace b_0 := (z11.cell (p := ⟨w.heap.size, 0, none⟩) (by simp only []; omega)).trans b_0
  replace b_f0 := (z11.frozen (p := ⟨w.heap.size, 0, none⟩) (by simp only []; omega)).trans b_f0
  replace p_0 := (z11.cell (p := ⟨w.heap.size + 1, 0, none⟩) (by simp only []; omega)).trans p_0
  replace p_f0 := (z11.frozen (p := ⟨w.heap.size + 1, 0, none⟩) (by simp only []; omega)).trans p_f0
  replace r_0 := (z11.cell (p := ⟨w.heap.size + 1 + 1, 0, none⟩) (by simp only []; omega)).trans r_0
  replace r_1 := (z11.cell (p := ⟨w.heap.size + 1 + 1, 1, none⟩) (by simp only []; omega)).trans r_1
  replace r_2 := (z11.cell (p := ⟨w.heap.size + 1 + 1, 2, none⟩) (by simp only []; omega)).trans r_2
  replace r_f0 := (z11.frozen (p := ⟨w.heap.size + 1 + 1, 0, none⟩) (by simp only []; omega)).trans r_f0
  replace r_f1 := (z11.frozen (p := ⟨w.heap.size + 1 + 1, 1, none⟩) (by simp only []; omega)).trans r_f1
  replace r_f2 := (z11.frozen (p := ⟨w.heap.size + 1 + 1, 2, none⟩) (by simp only []; omega)).trans r_f2
  go_wp2_with fail
  refine bodyPost_ret (v := .tuple #[.agg #[.string s, .int .i64 i, .slice vb vn vc], .bool true]) (by simp [results, Try.results68, go_sem, r_0, r_1, r_2, r_f0, r_f1, r_f2]) rfl ⟨_, rfl, ?_, ?_⟩
  · refine Own.mono (lo := w10.heap.size) (hi := w11.heap.size) ?_ (by omega) (by simp [World.setCell])
    repeat (refine Own.setOut ?_ rfl (by simp only []; omega))
    exact ho
  · repeat (refine Below.setCell ?_ (by simp only []; omega) _)
    exact hb6

end Go.Proofs.Ythhbmbkecaffeaa
