/- Texts joined for one claim: Draw18, Draw19, Draw21. -/
import Derived.Test.YtpgfkjcekhifiaaGreatDoorQ82ec8cd535
import Derived.Test.YtpgfkjcekhifiaaGreatDoorQ66776059ca
import Derived.Test.YtpgfkjcekhifiaaGreatDoorQ6748bab5ad
import Derived.Test.YtpgfkjcekhifiaaGreatDoorQad0dd18062
import Derived.Test.YtpgfkjcekhifiaaGreatDoorQ172172a568
import Derived.Deep.RegionHeld3
import Derived.Deep.DeepCutAuto

namespace Go.Proofs.YtpgfkjcekhifiaaGreatDoor

open Go.RowKit

set_option linter.unusedVariables false

set_option linter.unusedSimpArgs false

set_option synthInstance.maxSize 2000

set_option synthInstance.maxHeartbeats 400000

theorem tcl {lo hi : Nat} {w w' : World} {b k : Nat} {r : Option Value} (h : Turn lo hi w w') (e : w.cell? ⟨b, k, none⟩ = r) (h1 : b < w.heap.size := by omega) (h2 : b < lo ∨ hi ≤ b := by omega) : w'.cell? ⟨b, k, none⟩ = r := (h.cell (p := ⟨b, k, none⟩) h1 h2).trans e

theorem tfr {lo hi : Nat} {w w' : World} {b k : Nat} {r : Bool} (h : Turn lo hi w w') (e : w.frozen? ⟨b, k, none⟩ = r) (h1 : b < w.heap.size := by omega) (h2 : b < lo ∨ hi ≤ b := by omega) : w'.frozen? ⟨b, k, none⟩ = r := (h.frozen (p := ⟨b, k, none⟩) h1 h2).trans e

theorem bcl {B : Nat} {w w' : World} {b k : Nat} {r : Option Value} (h : Below B w w') (e : w.cell? ⟨b, k, none⟩ = r) (h1 : b < B := by omega) : w'.cell? ⟨b, k, none⟩ = r := (h.cell (p := ⟨b, k, none⟩) h1).trans e

theorem bfr {B : Nat} {w w' : World} {b k : Nat} {r : Bool} (h : Below B w w') (e : w.frozen? ⟨b, k, none⟩ = r) (h1 : b < B := by omega) : w'.frozen? ⟨b, k, none⟩ = r := (h.frozen (p := ⟨b, k, none⟩) h1).trans e

theorem step_appD {ops : Array Oper} {o : Oper} {a : Act} {K : Act → World → Prop} {Q : Exit → Act → World → Prop} {E : Prop} {w w' : World} {s x : Operand} {t t' : TypeId} {vs vx v' : Value}
    {ty : TypeId} (hrun : (Builtin.append_ #[t, t'] ty #[vs, vx]).run Tryz.prog w = .ok v' w') (hty : o.type = ty) (hgd : o.guard = none)
    (ho : o.op = .call { callee := .builtin .append, args := #[s, x], argTypes := #[t, t'] }) (hs : a.eval s = vs) (hx : a.eval x = vx)
    (h : K (a.put o.dst v') w') :
    if Region.wanted o (yielded ops a.tmps) = true then Oper.wp Tryz.prog o a w K Q else E := by
  have hw : Region.wanted o (yielded ops a.tmps) = true := by simp [Region.wanted, hgd]
  rw [if_pos hw]
  unfold Oper.wp execOp
  simp only [ho, resolve, invoke, builtin, Sem.run_bind, Sem.run_pure, Result.andThen_ok, List.map_toArray, List.map_cons, List.map_nil, hs, hx, hty, hrun]
  exact h

theorem lit5 (W : World) {kk : Nat} (h : kk < 5) : ∃ s : ByteArray, s.size ≤ 5 ∧ (W.alloc (.cells #[.string (ByteArray.mk #[114]), .string (ByteArray.mk #[115]), .string (ByteArray.mk #[116]), .string (ByteArray.mk #[117]), .string (ByteArray.mk #[118])] 9)).cell? ⟨W.heap.size, kk, none⟩ = some (.string s) := by
  rcases (by omega : kk = 0 ∨ kk = 1 ∨ kk = 2 ∨ kk = 3 ∨ kk = 4) with rfl | rfl | rfl | rfl | rfl <;> exact ⟨_, by decide, box_cell (Below.refl _ _) rfl⟩

def DepOut (w w' : World) (cb : Nat) (ba : Option Addr) (bn bc : Nat) (e : Ending) : Prop :=
  ∃ (nm : ByteArray) (b : Option Addr) (n c : Nat) (t : Int) (x : DDp), e = .returned (.agg #[.string nm, .slice b n c, .int .i64 t]) ∧ Own oDp w.heap.size w'.heap.size w' [.string nm, .slice b n c, .int .i64 t] x ∧ (x.1.size ≤ 5 ∧ x.2.1.length ≤ 4) ∧ Cur w' cb ba bn bc ∧ Turn cb (cb + 1) w w'

theorem cl_off {w w' : World} {p q : Addr} {u v : Value} (hw : w' = w.setCell p u) (h : p.block ≠ q.block) (hq : w.cell? q = some v) : w'.cell? q = some v := by
  subst hw
  refine (World.cell?_of_block (a := q) ?_).trans hq
  rw [Below.heap_setCell _ _ _ _ (by omega)]

def DS (w : World) (cb : Nat) (ba : Option Addr) (bn bc FB lo : Nat) (nm : ByteArray) (b : Option Addr) (n c : Nat) (xs : List Int) (t : Int) (W : World) : Prop :=
  (W.cell? ⟨FB, 0, none⟩ = some (.string nm) ∧ W.cell? ⟨FB, 1, none⟩ = some (.slice b n c) ∧ W.cell? ⟨FB, 2, none⟩ = some (.int .i64 t)) ∧
  (W.frozen? ⟨FB, 0, none⟩ = false ∧ W.frozen? ⟨FB, 1, none⟩ = false ∧ W.frozen? ⟨FB, 2, none⟩ = false) ∧
  (W.cell? ⟨w.heap.size, 0, none⟩ = some (.string (ByteArray.mk #[])) ∧ W.cell? ⟨w.heap.size, 1, none⟩ = some (.slice none 0 0) ∧ W.cell? ⟨w.heap.size, 2, none⟩ = some (.int .i64 0)) ∧
  (W.frozen? ⟨w.heap.size, 0, none⟩ = false ∧ W.frozen? ⟨w.heap.size, 1, none⟩ = false ∧ W.frozen? ⟨w.heap.size, 2, none⟩ = false) ∧
  Own oI lo W.heap.size W [.slice b n c] xs ∧ (w.heap.size + 1 ≤ FB ∧ FB < lo ∧ lo ≤ W.heap.size ∧ cb < w.heap.size) ∧ Cur W cb ba bn bc ∧ Turn cb (cb + 1) w W

theorem turn_of_below {lo hi C : Nat} {w a b : World} (h : Turn lo hi w a) (z : Below C a b) (hC : w.heap.size ≤ C) : Turn lo hi w b := turn_on' h (z.mono hC)

section

variable {w W W' Wn : World} {cb bn bc FB lo n c n' c' : Nat} {ba b b' : Option Addr} {nm : ByteArray} {xs ys : List Int} {t t' : Int}

theorem DS.turn (h : DS w cb ba bn bc FB lo nm b n c xs t W) (z : Turn cb (cb + 1) W W') (hc : Cur W' cb ba bn bc) : DS w cb ba bn bc FB lo nm b n c xs t W' := by
  obtain ⟨⟨f0, f1, f2⟩, ⟨g0, g1, g2⟩, ⟨r0, r1, r2⟩, ⟨s0, s1, s2⟩, ho, hl, _, ht⟩ := h
  have hz := z.size
  exact ⟨⟨tcl z f0, tcl z f1, tcl z f2⟩, ⟨tfr z g0, tfr z g1, tfr z g2⟩, ⟨tcl z r0, tcl z r1, tcl z r2⟩, ⟨tfr z s0, tfr z s1, tfr z s2⟩, (ho.turn z (by omega)).mono (Nat.le_refl _) hz, by omega, hc, ht.trans z⟩

theorem DS.cur (h : DS w cb ba bn bc FB lo nm b n c xs t W) : Cur W cb ba bn bc := h.2.2.2.2.2.2.1

theorem DS.own (h : DS w cb ba bn bc FB lo nm b n c xs t W) : Own oI lo W.heap.size W [.slice b n c] xs := h.2.2.2.2.1

theorem DS.lims (h : DS w cb ba bn bc FB lo nm b n c xs t W) : w.heap.size + 1 ≤ FB ∧ FB < lo ∧ lo ≤ W.heap.size ∧ cb < w.heap.size := h.2.2.2.2.2.1

theorem DS.below (h : DS w cb ba bn bc FB lo nm b n c xs t W) (z : Below W.heap.size W W') : DS w cb ba bn bc FB lo nm b n c xs t W' := by
  have hl := h.lims
  exact h.turn (turn_below z (Nat.le_refl _)) (h.cur.below' z (by omega))

theorem DS.put (h : DS w cb ba bn bc FB lo nm b n c xs t W) (z : Below lo W Wn) (ho : Own oI lo Wn.heap.size Wn [.slice b' n' c'] ys) : DS w cb ba bn bc FB lo nm b' n' c' ys t (Wn.setCell ⟨FB, 1, none⟩ (.slice b' n' c')) := by
  obtain ⟨⟨f0, f1, f2⟩, ⟨g0, g1, g2⟩, ⟨r0, r1, r2⟩, ⟨s0, s1, s2⟩, _, hl, hc, ht⟩ := h
  have hz := z.size
  have f0' := bcl z f0
  have f1' := bcl z f1
  have f2' := bcl z f2
  have g0' := bfr z g0
  have g1' := bfr z g1
  have g2' := bfr z g2
  have zz : Below FB W (Wn.setCell ⟨FB, 1, none⟩ (.slice b' n' c')) := Below.setCell (z.mono (by omega)) (by simp only []; omega) _
  have sz : (Wn.setCell ⟨FB, 1, none⟩ (.slice b' n' c')).heap.size = Wn.heap.size := by simp [World.setCell]
  refine ⟨⟨?_, ?_, ?_⟩, ⟨?_, ?_, ?_⟩, ⟨?_, ?_, ?_⟩, ⟨?_, ?_, ?_⟩, ?_, by omega, hc.below' zz (by omega), turn_of_below ht zz (by omega)⟩
  · simp [go_sem, f0', f1', f2']
  · simp [go_sem, f0', f1', f2']
  · simp [go_sem, f0', f1', f2']
  · simp [go_sem, g0', g1', g2']
  · simp [go_sem, g0', g1', g2']
  · simp [go_sem, g0', g1', g2']
  · exact bcl zz r0
  · exact bcl zz r1
  · exact bcl zz r2
  · exact bfr zz s0
  · exact bfr zz s1
  · exact bfr zz s2
  · rw [sz]; exact own_off ho rfl (by simp only []; omega)

theorem DS.to (h : DS w cb ba bn bc FB lo nm b n c xs t W) : DS w cb ba bn bc FB lo nm b n c xs t' (W.setCell ⟨FB, 2, none⟩ (.int .i64 t')) := by
  obtain ⟨⟨f0, f1, f2⟩, ⟨g0, g1, g2⟩, ⟨r0, r1, r2⟩, ⟨s0, s1, s2⟩, ho, hl, hc, ht⟩ := h
  have zz : Below FB W (W.setCell ⟨FB, 2, none⟩ (.int .i64 t')) := Below.setCell (Below.refl _ _) (by simp only []; omega) _
  have sz : (W.setCell ⟨FB, 2, none⟩ (.int .i64 t')).heap.size = W.heap.size := by simp [World.setCell]
  refine ⟨⟨?_, ?_, ?_⟩, ⟨?_, ?_, ?_⟩, ⟨?_, ?_, ?_⟩, ⟨?_, ?_, ?_⟩, ?_, by omega, hc.below' zz (by omega), turn_of_below ht zz (by omega)⟩
  · simp [go_sem, f0, f1, f2]
  · simp [go_sem, f0, f1, f2]
  · simp [go_sem, f0, f1, f2]
  · simp [go_sem, g0, g1, g2]
  · simp [go_sem, g0, g1, g2]
  · simp [go_sem, g0, g1, g2]
  · exact bcl zz r0
  · exact bcl zz r1
  · exact bcl zz r2
  · exact bfr zz s0
  · exact bfr zz s1
  · exact bfr zz s2
  · rw [sz]; exact own_off ho rfl (by simp only []; omega)

theorem DS.fin (h : DS w cb ba bn bc FB lo nm b n c xs t W) (h1 : nm.size ≤ 5) (h2 : xs.length ≤ 4) (h3 : I64 t) : DepOut w (((W.setCell ⟨w.heap.size, 0, none⟩ (.string nm)).setCell ⟨w.heap.size, 1, none⟩ (.slice b n c)).setCell ⟨w.heap.size, 2, none⟩ (.int .i64 t)) cb ba bn bc (.returned (.agg #[.string nm, .slice b n c, .int .i64 t])) := by
  have ho := h.own
  have hl := h.lims
  have ht := h.2.2.2.2.2.2.2
  have zz : Below w.heap.size W (((W.setCell ⟨w.heap.size, 0, none⟩ (.string nm)).setCell ⟨w.heap.size, 1, none⟩ (.slice b n c)).setCell ⟨w.heap.size, 2, none⟩ (.int .i64 t)) := by
    repeat (refine Below.setCell ?_ (by simp only []; omega) _)
    exact Below.refl _ _
  have sz : (((W.setCell ⟨w.heap.size, 0, none⟩ (.string nm)).setCell ⟨w.heap.size, 1, none⟩ (.slice b n c)).setCell ⟨w.heap.size, 2, none⟩ (.int .i64 t)).heap.size = W.heap.size := by simp [World.setCell]
  refine ⟨nm, b, n, c, t, (nm, xs, t), rfl, oDp_mk (x := (nm, xs, t)) (lo := w.heap.size) (by show nm.size ≤ _; omega) (own_off (own_off (own_off ho rfl (by simp only []; omega)) rfl (by simp only []; omega)) rfl (by simp only []; omega)) h3 (by omega) (by omega), ⟨h1, h2⟩, h.cur.below' zz (by omega), turn_on' ht zz⟩

end

set_option maxRecDepth 100000 in
set_option maxHeartbeats 16000000 in
theorem l12Dep_any (w : World) (cb : Nat) (ba : Option Addr) (bn bc : Nat) (HC : Cur w cb ba bn bc) (hcb : cb < w.heap.size) :
    Calls Tryz.prog 27 #[.pointer (some ⟨cb, 0, none⟩)] w fun e w' => DepOut w w' cb ba bn bc e := by
  have ht0 : Turn cb (cb + 1) w w := (Kept.refl cb (cb + 1) w).turn
  go_enter Tryz.func27, Tryz.ntmps27
  obtain ⟨w1, hw1⟩ : ∃ W, W = w.alloc (.cells #[.string (ByteArray.mk #[]), .slice none 0 0, .int .i64 0] 29) := ⟨_, rfl⟩
  have z1 : Below w.heap.size w w1 := by rw [hw1]; exact (Below.refl _ _).alloc (Nat.le_refl _) _
  have s1 : w1.heap.size = w.heap.size + 1 := by rw [hw1]; simp
  have hb1 := turn_on' ht0 (z1.mono (by omega))
  replace HC := HC.below' z1 (by omega)
  have R_0 : w1.cell? ⟨w.heap.size, 0, none⟩ = some (.string (ByteArray.mk #[])) := by rw [hw1]; exact box_cell (Below.refl _ _) rfl
  have R_1 : w1.cell? ⟨w.heap.size, 1, none⟩ = some (.slice none 0 0) := by rw [hw1]; exact box_cell (Below.refl _ _) rfl
  have R_2 : w1.cell? ⟨w.heap.size, 2, none⟩ = some (.int .i64 0) := by rw [hw1]; exact box_cell (Below.refl _ _) rfl
  have R_f0 : w1.frozen? ⟨w.heap.size, 0, none⟩ = false := by rw [hw1]; exact box_frozen (Below.refl _ _)
  have R_f1 : w1.frozen? ⟨w.heap.size, 1, none⟩ = false := by rw [hw1]; exact box_frozen (Below.refl _ _)
  have R_f2 : w1.frozen? ⟨w.heap.size, 2, none⟩ = false := by rw [hw1]; exact box_frozen (Below.refl _ _)
  have raw1_R_0 := R_0
  have raw1_R_1 := R_1
  have raw1_R_2 := R_2
  have raw1_R_f0 := R_f0
  have raw1_R_f1 := R_f1
  have raw1_R_f2 := R_f2
  rw [hw1] at raw1_R_0 raw1_R_1 raw1_R_2 raw1_R_f0 raw1_R_f1 raw1_R_f2
  go_wp2_with fail
  rw [← hw1]
  clear hw1
  clear raw1_R_0 raw1_R_1 raw1_R_2 raw1_R_f0 raw1_R_f1 raw1_R_f2
  have HC_o := HC
  clear HC
  refine (l1Below_any _ cb ba bn bc 5 (by omega) HC_o).mono ?_
  rintro e w2 ⟨k, rfl, hq0, hq1, hq2, HC, z2⟩
  clear HC_o
  have s3 := Nat.le_of_eq z2.size
  have s3' := Nat.le_of_eq z2.size.symm
  replace z2 := z2.turn
  have hb3 := hb1.trans z2
  replace R_0 := txc z2 R_0
  replace R_1 := txc z2 R_1
  replace R_2 := txc z2 R_2
  replace R_f0 := txf z2 R_f0
  replace R_f1 := txf z2 R_f1
  replace R_f2 := txf z2 R_f2
  obtain ⟨kk, rfl⟩ := Int.eq_ofNat_of_zero_le hq0
  have hkk : kk < 5 := by omega
  have hkI : (kk : Int) < 5 := by omega
  clear hq0 hq1 hq2
  obtain ⟨w4, hw4⟩ : ∃ W, W = w2.alloc (.cells #[.int .i64 2, .int .i64 2, .int .i64 2, .int .i64 3, .int .i64 1] 3) := ⟨_, rfl⟩
  have z4 : Below w2.heap.size w2 w4 := by rw [hw4]; exact (Below.refl _ _).alloc (Nat.le_refl _) _
  have s4 : w4.heap.size = w2.heap.size + 1 := by rw [hw4]; simp
  have hb4 := turn_on' hb3 (z4.mono (by omega))
  have old4_R_0 := R_0
  have old4_R_1 := R_1
  have old4_R_2 := R_2
  replace HC := HC.below' z4 (by omega)
  replace R_0 := bxc z4 R_0
  replace R_1 := bxc z4 R_1
  replace R_2 := bxc z4 R_2
  replace R_f0 := bxf z4 R_f0
  replace R_f1 := bxf z4 R_f1
  replace R_f2 := bxf z4 R_f2
  have P_0 : w4.cell? ⟨w2.heap.size, 0, none⟩ = some (.int .i64 2) := by rw [hw4]; exact box_cell (Below.refl _ _) rfl
  have P_1 : w4.cell? ⟨w2.heap.size, 1, none⟩ = some (.int .i64 2) := by rw [hw4]; exact box_cell (Below.refl _ _) rfl
  have P_2 : w4.cell? ⟨w2.heap.size, 2, none⟩ = some (.int .i64 2) := by rw [hw4]; exact box_cell (Below.refl _ _) rfl
  have P_3 : w4.cell? ⟨w2.heap.size, 3, none⟩ = some (.int .i64 3) := by rw [hw4]; exact box_cell (Below.refl _ _) rfl
  have P_4 : w4.cell? ⟨w2.heap.size, 4, none⟩ = some (.int .i64 1) := by rw [hw4]; exact box_cell (Below.refl _ _) rfl
  have raw4_R_0 := R_0
  have raw4_R_1 := R_1
  have raw4_R_2 := R_2
  have raw4_R_f0 := R_f0
  have raw4_R_f1 := R_f1
  have raw4_R_f2 := R_f2
  have raw4_P_0 := P_0
  have raw4_P_1 := P_1
  have raw4_P_2 := P_2
  have raw4_P_3 := P_3
  have raw4_P_4 := P_4
  rw [hw4] at raw4_R_0 raw4_R_1 raw4_R_2 raw4_R_f0 raw4_R_f1 raw4_R_f2 raw4_P_0 raw4_P_1 raw4_P_2 raw4_P_3 raw4_P_4
  have HM : ∃ m : Nat, (1 ≤ m ∧ m ≤ 3) ∧ w4.cell? ⟨w2.heap.size, kk, none⟩ = some (.int .i64 (m : Int)) := by
    rcases (by omega : kk = 0 ∨ kk = 1 ∨ kk = 2 ∨ kk = 3 ∨ kk = 4) with rfl | rfl | rfl | rfl | rfl
    · exact ⟨2, by omega, P_0⟩
    · exact ⟨2, by omega, P_1⟩
    · exact ⟨2, by omega, P_2⟩
    · exact ⟨3, by omega, P_3⟩
    · exact ⟨1, by omega, P_4⟩
  obtain ⟨m, hm13, Pk⟩ := HM
  have rawPk := Pk
  rw [hw4] at rawPk
  clear P_0 P_1 P_2 P_3 P_4
  go_wp2_with fail
  rw [← hw4]
  clear hw4
  clear old4_R_0 old4_R_1 old4_R_2 raw4_R_0 raw4_R_1 raw4_R_2 raw4_R_f0 raw4_R_f1 raw4_R_f2 raw4_P_0 raw4_P_1 raw4_P_2 raw4_P_3 raw4_P_4
  obtain ⟨wb, rfl⟩ : ∃ W, W = w4 := ⟨_, rfl⟩
  have TB := Lib.hid (turn_refl cb (cb + 1) wb)
  have hwb : w.heap.size + 1 ≤ wb.heap.size := by omega
  have hcw : cb < wb.heap.size := by omega
  clear s4
  go_cut [5] (fun t5 wx => ∃ (FB : Nat) (nm : ByteArray) (t : Int), t5 = .pointer (some ⟨FB, 0, none⟩) ∧ nm.size ≤ 5 ∧ (0 ≤ t ∧ t ≤ 3) ∧ (wb.heap.size ≤ FB ∧ FB < wx.heap.size) ∧ wx.cell? ⟨FB, 0, none⟩ = some (.string nm) ∧ wx.cell? ⟨FB, 1, none⟩ = some (.slice none 0 0) ∧ wx.cell? ⟨FB, 2, none⟩ = some (.int .i64 t) ∧ (wx.frozen? ⟨FB, 0, none⟩ = false ∧ wx.frozen? ⟨FB, 1, none⟩ = false ∧ wx.frozen? ⟨FB, 2, none⟩ = false) ∧ Cur wx cb ba bn bc ∧ Turn cb (cb + 1) wb wx)
  case first =>
    have hdr : Below wb.heap.size wb wb.drew := (Below.refl _ _).drew
    refine wp_region_noPanic ?_
    refine wp_region_held_drew (S := (fun W => True)) (by kernel_rfl) ?hS5 (fun hHeld => ?_)
    case hS5 => trivial
    refine wpAnyH_take (i := 1) (v := ?v1_6) rfl (by kernel_rfl) (by kernel_rfl) (by kernel_rfl) (fun _ _ _ h => h) (Or.inl ⟨by rfl, ?hy1_6⟩) (by assumption) ?rest1_6
    case hy1_6 => intro w hSw; (try dsimp only at hSw); go_simp; (try with_reducible rfl)
    try simp only [Act.put, lgA, lgB, lgC, lgD, lgE, lgF]
    refine wpAnyH_take (i := 4) (v := ?v4_7) rfl (by kernel_rfl) (by kernel_rfl) (by kernel_rfl) (fun _ _ _ h => h) (Or.inl ⟨by rfl, ?hy4_7⟩) (by assumption) ?rest4_7
    case hy4_7 => intro w hSw; (try dsimp only at hSw); go_simp; (try with_reducible rfl)
    try simp only [Act.put, lgA, lgB, lgC, lgD, lgE, lgF]
    refine wpAnyH_take (i := 5) (v := ?v5_8) rfl (by kernel_rfl) (by kernel_rfl) (by kernel_rfl) (fun _ _ _ h => h) (Or.inl ⟨by rfl, ?hy5_8⟩) (by assumption) ?rest5_8
    case hy5_8 => intro w hSw; (try dsimp only at hSw); go_simp; (try with_reducible rfl)
    try simp only [Act.put, lgA, lgB, lgC, lgD, lgE, lgF]
    refine wpAnyH_ready (rs := [0, 6, 8]) (by kernel_rfl) (by simp) ?_
    refine AllReadyH.cons rfl (fun K9 hK9 => ?_) (AllReadyH.cons rfl (fun K9 hK9 => ?_) (AllReadyH.cons rfl (fun K9 hK9 => ?_) AllReadyH.nil))
    · skip
      go_simp
      obtain ⟨x1, hX⟩ : ∃ W, W = (wb.alloc (.cells #[.string (ByteArray.mk #[114]), .string (ByteArray.mk #[115]), .string (ByteArray.mk #[116]), .string (ByteArray.mk #[117]), .string (ByteArray.mk #[118])] 9)).drew := ⟨_, rfl⟩
      rw [← hX]
      have HS : ∃ s : ByteArray, s.size ≤ 5 ∧ x1.cell? ⟨wb.heap.size, kk, none⟩ = some (.string s) := by rw [hX]; exact lit5 wb hkk
      obtain ⟨nm, hnm, N0⟩ := HS
      have zx1 : Below wb.heap.size wb x1 := by rw [hX]; exact ((Below.refl _ _).alloc (Nat.le_refl _) _).drew
      have sx1 : wb.heap.size + 1 ≤ x1.heap.size := by rw [hX]; simp
      clear hX
      have tx1 := turn_on' TB.out (zx1.mono (by omega))
      have cx1 := HC.below' zx1 (by omega)
      refine hK9.out _ _ trivial (fun hHeld => ?_)
      clear hK9 K9
      try simp only [Act.put, lgA, lgB, lgC, lgD, lgE, lgF]
      refine wpAnyH_take (i := 2) (v := ?v2_9) rfl (by kernel_rfl) (by kernel_rfl) (by kernel_rfl) (fun _ _ _ h => h) (Or.inl ⟨by rfl, ?hy2_9⟩) (by assumption) ?rest2_9
      case hy2_9 => intro w hSw; (try dsimp only at hSw); go_simp; (try with_reducible rfl)
      try simp only [Act.put, lgA, lgB, lgC, lgD, lgE, lgF]
      refine wpAnyH_ready (rs := [3, 6, 8]) (by kernel_rfl) (by simp) ?_
      refine AllReadyH.cons rfl (fun K9 hK9 => ?_) (AllReadyH.cons rfl (fun K9 hK9 => ?_) (AllReadyH.cons rfl (fun K9 hK9 => ?_) AllReadyH.nil))
      · skip
        go_simp
        refine hK9.out _ _ trivial (fun hHeld => ?_)
        clear hK9 K9
        try simp only [Act.put, lgA, lgB, lgC, lgD, lgE, lgF]
        refine wpAnyH_ready (rs := [6, 8]) (by kernel_rfl) (by simp) ?_
        refine AllReadyH.cons rfl (fun K9 hK9 => ?_) (AllReadyH.cons rfl (fun K9 hK9 => ?_) AllReadyH.nil)
        · skip
          go_simp
          refine (l1Below_any _ cb ba bn bc (m : Int) (by omega) (cx1)).mono ?_
          rintro e x2 ⟨t, rfl, q0, q1, q2, cx2, kx2⟩
          have yx2 := kx2.turn
          have tx2 := (tx1).trans yx2
          have sx2 := yx2.size
          have ht3 : 0 ≤ t ∧ t ≤ 3 := by omega
          clear q0 q1 q2 kx2
          replace N0 := tcl yx2 N0
          refine hK9.out _ _ trivial (fun hHeld => ?_)
          clear hK9 K9
          try simp only [Act.put, lgA, lgB, lgC, lgD, lgE, lgF]
          refine wpAnyH_take (i := 7) (v := ?v7_10) rfl (by kernel_rfl) (by kernel_rfl) (by kernel_rfl) (fun _ _ _ h => h) (Or.inl ⟨by rfl, ?hy7_10⟩) (by assumption) ?rest7_10
          case hy7_10 => intro w hSw; (try dsimp only at hSw); go_simp; (try with_reducible rfl)
          try simp only [Act.put, lgA, lgB, lgC, lgD, lgE, lgF]
          refine wpAnyH_ready (rs := [8]) (by kernel_rfl) (by simp) ?_
          refine AllReadyH.cons rfl (fun K9 hK9 => ?_) AllReadyH.nil
          go_simp
          obtain ⟨x3, hX⟩ : ∃ W, W = (x2.alloc (.cells #[.string (ByteArray.mk #[]), .slice none 0 0, .int .i64 0] 29)) := ⟨_, rfl⟩
          rw [← hX]
          have f_0 : x3.cell? ⟨x2.heap.size, 0, none⟩ = some (.string (ByteArray.mk #[])) := by rw [hX]; show (World.alloc x2 _).cell? ⟨x2.heap.size, 0, none⟩ = _; exact box_cell (Below.refl _ _) rfl
          have g_0 : x3.frozen? ⟨x2.heap.size, 0, none⟩ = false := by rw [hX]; show (World.alloc x2 _).frozen? ⟨x2.heap.size, 0, none⟩ = _; exact box_frozen (Below.refl _ _)
          have f_1 : x3.cell? ⟨x2.heap.size, 1, none⟩ = some (.slice none 0 0) := by rw [hX]; show (World.alloc x2 _).cell? ⟨x2.heap.size, 1, none⟩ = _; exact box_cell (Below.refl _ _) rfl
          have g_1 : x3.frozen? ⟨x2.heap.size, 1, none⟩ = false := by rw [hX]; show (World.alloc x2 _).frozen? ⟨x2.heap.size, 1, none⟩ = _; exact box_frozen (Below.refl _ _)
          have f_2 : x3.cell? ⟨x2.heap.size, 2, none⟩ = some (.int .i64 0) := by rw [hX]; show (World.alloc x2 _).cell? ⟨x2.heap.size, 2, none⟩ = _; exact box_cell (Below.refl _ _) rfl
          have g_2 : x3.frozen? ⟨x2.heap.size, 2, none⟩ = false := by rw [hX]; show (World.alloc x2 _).frozen? ⟨x2.heap.size, 2, none⟩ = _; exact box_frozen (Below.refl _ _)
          have zx3 : Below x2.heap.size x2 x3 := by rw [hX]; exact (Below.refl _ _).alloc (Nat.le_refl _) _
          have sx3 : x2.heap.size + 1 ≤ x3.heap.size := by rw [hX]; simp
          clear hX
          have tx3 := turn_on' tx2 (zx3.mono (by omega))
          have cx3 := cx2.below' zx3 (by omega)
          replace N0 := bcl zx3 N0
          refine hK9.out _ _ trivial (fun hHeld => ?_)
          clear hK9 K9
          try simp only [Act.put, lgA, lgB, lgC, lgD, lgE, lgF]
          refine wpAnyH_ready (rs := [9]) (by kernel_rfl) (by simp) ?_
          refine AllReadyH.cons rfl (fun K9 hK9 => ?_) AllReadyH.nil
          go_simp
          obtain ⟨v0, hv0⟩ : ∃ W, W = x3.setCell ⟨x2.heap.size, 0, none⟩ (.string nm) := ⟨_, rfl⟩
          obtain ⟨v1, hv1⟩ : ∃ W, W = v0.setCell ⟨x2.heap.size, 1, none⟩ (.slice none 0 0) := ⟨_, rfl⟩
          obtain ⟨v2, hv2⟩ : ∃ W, W = v1.setCell ⟨x2.heap.size, 2, none⟩ (.int .i64 t) := ⟨_, rfl⟩
          rw [← hv0, ← hv1, ← hv2]
          have zF : Below x2.heap.size x3 v2 := by
            rw [hv2, hv1, hv0]
            repeat (refine Below.setCell ?_ (by simp only []; omega) _)
            exact Below.refl _ _
          have F_0 : v2.cell? ⟨x2.heap.size, 0, none⟩ = some (.string nm) := by rw [hv2, hv1, hv0]; simp [go_sem, f_0, f_1, f_2]
          have F_1 : v2.cell? ⟨x2.heap.size, 1, none⟩ = some (.slice none 0 0) := by rw [hv2, hv1, hv0]; simp [go_sem, f_0, f_1, f_2]
          have F_2 : v2.cell? ⟨x2.heap.size, 2, none⟩ = some (.int .i64 t) := by rw [hv2, hv1, hv0]; simp [go_sem, f_0, f_1, f_2]
          have G_0 : v2.frozen? ⟨x2.heap.size, 0, none⟩ = false := by rw [hv2, hv1, hv0]; simp [go_sem, g_0, g_1, g_2]
          have G_1 : v2.frozen? ⟨x2.heap.size, 1, none⟩ = false := by rw [hv2, hv1, hv0]; simp [go_sem, g_0, g_1, g_2]
          have G_2 : v2.frozen? ⟨x2.heap.size, 2, none⟩ = false := by rw [hv2, hv1, hv0]; simp [go_sem, g_0, g_1, g_2]
          have sF : x3.heap.size ≤ v2.heap.size := by rw [hv2, hv1, hv0]; simp [World.setCell]
          have tF := turn_on' tx3 (zF.mono (by omega))
          have cF := cx3.below' zF (by omega)
          clear hv2 hv1 hv0 f_0 f_1 f_2 g_0 g_1 g_2
          refine hK9.out _ _ trivial (fun hHeld => ?_)
          clear hK9 K9
          try simp only [Act.put, lgA, lgB, lgC, lgD, lgE, lgF]
          refine wpAnyH_done (by kernel_rfl) ?_ _
          refine NoPanic.normal ?_
          go_wp2_with fail
          go_meet
          case rel => exact ⟨x2.heap.size, nm, t, rfl, hnm, ht3, ⟨by omega, by omega⟩, F_0, F_1, F_2, ⟨G_0, G_1, G_2⟩, cF, tF⟩
        · skip
          go_simp
          obtain ⟨x2, hX⟩ : ∃ W, W = (x1.alloc (.cells #[.string (ByteArray.mk #[]), .slice none 0 0, .int .i64 0] 29)) := ⟨_, rfl⟩
          rw [← hX]
          have f_0 : x2.cell? ⟨x1.heap.size, 0, none⟩ = some (.string (ByteArray.mk #[])) := by rw [hX]; show (World.alloc x1 _).cell? ⟨x1.heap.size, 0, none⟩ = _; exact box_cell (Below.refl _ _) rfl
          have g_0 : x2.frozen? ⟨x1.heap.size, 0, none⟩ = false := by rw [hX]; show (World.alloc x1 _).frozen? ⟨x1.heap.size, 0, none⟩ = _; exact box_frozen (Below.refl _ _)
          have f_1 : x2.cell? ⟨x1.heap.size, 1, none⟩ = some (.slice none 0 0) := by rw [hX]; show (World.alloc x1 _).cell? ⟨x1.heap.size, 1, none⟩ = _; exact box_cell (Below.refl _ _) rfl
          have g_1 : x2.frozen? ⟨x1.heap.size, 1, none⟩ = false := by rw [hX]; show (World.alloc x1 _).frozen? ⟨x1.heap.size, 1, none⟩ = _; exact box_frozen (Below.refl _ _)
          have f_2 : x2.cell? ⟨x1.heap.size, 2, none⟩ = some (.int .i64 0) := by rw [hX]; show (World.alloc x1 _).cell? ⟨x1.heap.size, 2, none⟩ = _; exact box_cell (Below.refl _ _) rfl
          have g_2 : x2.frozen? ⟨x1.heap.size, 2, none⟩ = false := by rw [hX]; show (World.alloc x1 _).frozen? ⟨x1.heap.size, 2, none⟩ = _; exact box_frozen (Below.refl _ _)
          have zx2 : Below x1.heap.size x1 x2 := by rw [hX]; exact (Below.refl _ _).alloc (Nat.le_refl _) _
          have sx2 : x1.heap.size + 1 ≤ x2.heap.size := by rw [hX]; simp
          clear hX
          have tx2 := turn_on' tx1 (zx2.mono (by omega))
          have cx2 := cx1.below' zx2 (by omega)
          replace N0 := bcl zx2 N0
          refine hK9.out _ _ trivial (fun hHeld => ?_)
          clear hK9 K9
          try simp only [Act.put, lgA, lgB, lgC, lgD, lgE, lgF]
          refine wpAnyH_ready (rs := [6]) (by kernel_rfl) (by simp) ?_
          refine AllReadyH.cons rfl (fun K9 hK9 => ?_) AllReadyH.nil
          go_simp
          refine (l1Below_any _ cb ba bn bc (m : Int) (by omega) (cx2)).mono ?_
          rintro e x3 ⟨t, rfl, q0, q1, q2, cx3, kx3⟩
          have yx3 := kx3.turn
          have tx3 := (tx2).trans yx3
          have sx3 := yx3.size
          have ht3 : 0 ≤ t ∧ t ≤ 3 := by omega
          clear q0 q1 q2 kx3
          replace N0 := tcl yx3 N0
          replace f_0 := tcl yx3 f_0
          replace g_0 := tfr yx3 g_0
          replace f_1 := tcl yx3 f_1
          replace g_1 := tfr yx3 g_1
          replace f_2 := tcl yx3 f_2
          replace g_2 := tfr yx3 g_2
          refine hK9.out _ _ trivial (fun hHeld => ?_)
          clear hK9 K9
          try simp only [Act.put, lgA, lgB, lgC, lgD, lgE, lgF]
          refine wpAnyH_take (i := 7) (v := ?v7_11) rfl (by kernel_rfl) (by kernel_rfl) (by kernel_rfl) (fun _ _ _ h => h) (Or.inl ⟨by rfl, ?hy7_11⟩) (by assumption) ?rest7_11
          case hy7_11 => intro w hSw; (try dsimp only at hSw); go_simp; (try with_reducible rfl)
          try simp only [Act.put, lgA, lgB, lgC, lgD, lgE, lgF]
          refine wpAnyH_ready (rs := [9]) (by kernel_rfl) (by simp) ?_
          refine AllReadyH.cons rfl (fun K9 hK9 => ?_) AllReadyH.nil
          go_simp
          obtain ⟨v0, hv0⟩ : ∃ W, W = x3.setCell ⟨x1.heap.size, 0, none⟩ (.string nm) := ⟨_, rfl⟩
          obtain ⟨v1, hv1⟩ : ∃ W, W = v0.setCell ⟨x1.heap.size, 1, none⟩ (.slice none 0 0) := ⟨_, rfl⟩
          obtain ⟨v2, hv2⟩ : ∃ W, W = v1.setCell ⟨x1.heap.size, 2, none⟩ (.int .i64 t) := ⟨_, rfl⟩
          rw [← hv0, ← hv1, ← hv2]
          have zF : Below x1.heap.size x3 v2 := by
            rw [hv2, hv1, hv0]
            repeat (refine Below.setCell ?_ (by simp only []; omega) _)
            exact Below.refl _ _
          have F_0 : v2.cell? ⟨x1.heap.size, 0, none⟩ = some (.string nm) := by rw [hv2, hv1, hv0]; simp [go_sem, f_0, f_1, f_2]
          have F_1 : v2.cell? ⟨x1.heap.size, 1, none⟩ = some (.slice none 0 0) := by rw [hv2, hv1, hv0]; simp [go_sem, f_0, f_1, f_2]
          have F_2 : v2.cell? ⟨x1.heap.size, 2, none⟩ = some (.int .i64 t) := by rw [hv2, hv1, hv0]; simp [go_sem, f_0, f_1, f_2]
          have G_0 : v2.frozen? ⟨x1.heap.size, 0, none⟩ = false := by rw [hv2, hv1, hv0]; simp [go_sem, g_0, g_1, g_2]
          have G_1 : v2.frozen? ⟨x1.heap.size, 1, none⟩ = false := by rw [hv2, hv1, hv0]; simp [go_sem, g_0, g_1, g_2]
          have G_2 : v2.frozen? ⟨x1.heap.size, 2, none⟩ = false := by rw [hv2, hv1, hv0]; simp [go_sem, g_0, g_1, g_2]
          have sF : x3.heap.size ≤ v2.heap.size := by rw [hv2, hv1, hv0]; simp [World.setCell]
          have tF := turn_on' tx3 (zF.mono (by omega))
          have cF := cx3.below' zF (by omega)
          clear hv2 hv1 hv0 f_0 f_1 f_2 g_0 g_1 g_2
          refine hK9.out _ _ trivial (fun hHeld => ?_)
          clear hK9 K9
          try simp only [Act.put, lgA, lgB, lgC, lgD, lgE, lgF]
          refine wpAnyH_done (by kernel_rfl) ?_ _
          refine NoPanic.normal ?_
          go_wp2_with fail
          go_meet
          case rel => exact ⟨x1.heap.size, nm, t, rfl, hnm, ht3, ⟨by omega, by omega⟩, F_0, F_1, F_2, ⟨G_0, G_1, G_2⟩, cF, tF⟩
      · skip
        go_simp
        refine (l1Below_any _ cb ba bn bc (m : Int) (by omega) (cx1)).mono ?_
        rintro e x2 ⟨t, rfl, q0, q1, q2, cx2, kx2⟩
        have yx2 := kx2.turn
        have tx2 := (tx1).trans yx2
        have sx2 := yx2.size
        have ht3 : 0 ≤ t ∧ t ≤ 3 := by omega
        clear q0 q1 q2 kx2
        replace N0 := tcl yx2 N0
        refine hK9.out _ _ trivial (fun hHeld => ?_)
        clear hK9 K9
        try simp only [Act.put, lgA, lgB, lgC, lgD, lgE, lgF]
        refine wpAnyH_ready (rs := [3, 8]) (by kernel_rfl) (by simp) ?_
        refine AllReadyH.cons rfl (fun K9 hK9 => ?_) (AllReadyH.cons rfl (fun K9 hK9 => ?_) AllReadyH.nil)
        · skip
          go_simp
          refine hK9.out _ _ trivial (fun hHeld => ?_)
          clear hK9 K9
          try simp only [Act.put, lgA, lgB, lgC, lgD, lgE, lgF]
          refine wpAnyH_take (i := 7) (v := ?v7_12) rfl (by kernel_rfl) (by kernel_rfl) (by kernel_rfl) (fun _ _ _ h => h) (Or.inl ⟨by rfl, ?hy7_12⟩) (by assumption) ?rest7_12
          case hy7_12 => intro w hSw; (try dsimp only at hSw); go_simp; (try with_reducible rfl)
          try simp only [Act.put, lgA, lgB, lgC, lgD, lgE, lgF]
          refine wpAnyH_ready (rs := [8]) (by kernel_rfl) (by simp) ?_
          refine AllReadyH.cons rfl (fun K9 hK9 => ?_) AllReadyH.nil
          go_simp
          obtain ⟨x3, hX⟩ : ∃ W, W = (x2.alloc (.cells #[.string (ByteArray.mk #[]), .slice none 0 0, .int .i64 0] 29)) := ⟨_, rfl⟩
          rw [← hX]
          have f_0 : x3.cell? ⟨x2.heap.size, 0, none⟩ = some (.string (ByteArray.mk #[])) := by rw [hX]; show (World.alloc x2 _).cell? ⟨x2.heap.size, 0, none⟩ = _; exact box_cell (Below.refl _ _) rfl
          have g_0 : x3.frozen? ⟨x2.heap.size, 0, none⟩ = false := by rw [hX]; show (World.alloc x2 _).frozen? ⟨x2.heap.size, 0, none⟩ = _; exact box_frozen (Below.refl _ _)
          have f_1 : x3.cell? ⟨x2.heap.size, 1, none⟩ = some (.slice none 0 0) := by rw [hX]; show (World.alloc x2 _).cell? ⟨x2.heap.size, 1, none⟩ = _; exact box_cell (Below.refl _ _) rfl
          have g_1 : x3.frozen? ⟨x2.heap.size, 1, none⟩ = false := by rw [hX]; show (World.alloc x2 _).frozen? ⟨x2.heap.size, 1, none⟩ = _; exact box_frozen (Below.refl _ _)
          have f_2 : x3.cell? ⟨x2.heap.size, 2, none⟩ = some (.int .i64 0) := by rw [hX]; show (World.alloc x2 _).cell? ⟨x2.heap.size, 2, none⟩ = _; exact box_cell (Below.refl _ _) rfl
          have g_2 : x3.frozen? ⟨x2.heap.size, 2, none⟩ = false := by rw [hX]; show (World.alloc x2 _).frozen? ⟨x2.heap.size, 2, none⟩ = _; exact box_frozen (Below.refl _ _)
          have zx3 : Below x2.heap.size x2 x3 := by rw [hX]; exact (Below.refl _ _).alloc (Nat.le_refl _) _
          have sx3 : x2.heap.size + 1 ≤ x3.heap.size := by rw [hX]; simp
          clear hX
          have tx3 := turn_on' tx2 (zx3.mono (by omega))
          have cx3 := cx2.below' zx3 (by omega)
          replace N0 := bcl zx3 N0
          refine hK9.out _ _ trivial (fun hHeld => ?_)
          clear hK9 K9
          try simp only [Act.put, lgA, lgB, lgC, lgD, lgE, lgF]
          refine wpAnyH_ready (rs := [9]) (by kernel_rfl) (by simp) ?_
          refine AllReadyH.cons rfl (fun K9 hK9 => ?_) AllReadyH.nil
          go_simp
          obtain ⟨v0, hv0⟩ : ∃ W, W = x3.setCell ⟨x2.heap.size, 0, none⟩ (.string nm) := ⟨_, rfl⟩
          obtain ⟨v1, hv1⟩ : ∃ W, W = v0.setCell ⟨x2.heap.size, 1, none⟩ (.slice none 0 0) := ⟨_, rfl⟩
          obtain ⟨v2, hv2⟩ : ∃ W, W = v1.setCell ⟨x2.heap.size, 2, none⟩ (.int .i64 t) := ⟨_, rfl⟩
          rw [← hv0, ← hv1, ← hv2]
          have zF : Below x2.heap.size x3 v2 := by
            rw [hv2, hv1, hv0]
            repeat (refine Below.setCell ?_ (by simp only []; omega) _)
            exact Below.refl _ _
          have F_0 : v2.cell? ⟨x2.heap.size, 0, none⟩ = some (.string nm) := by rw [hv2, hv1, hv0]; simp [go_sem, f_0, f_1, f_2]
          have F_1 : v2.cell? ⟨x2.heap.size, 1, none⟩ = some (.slice none 0 0) := by rw [hv2, hv1, hv0]; simp [go_sem, f_0, f_1, f_2]
          have F_2 : v2.cell? ⟨x2.heap.size, 2, none⟩ = some (.int .i64 t) := by rw [hv2, hv1, hv0]; simp [go_sem, f_0, f_1, f_2]
          have G_0 : v2.frozen? ⟨x2.heap.size, 0, none⟩ = false := by rw [hv2, hv1, hv0]; simp [go_sem, g_0, g_1, g_2]
          have G_1 : v2.frozen? ⟨x2.heap.size, 1, none⟩ = false := by rw [hv2, hv1, hv0]; simp [go_sem, g_0, g_1, g_2]
          have G_2 : v2.frozen? ⟨x2.heap.size, 2, none⟩ = false := by rw [hv2, hv1, hv0]; simp [go_sem, g_0, g_1, g_2]
          have sF : x3.heap.size ≤ v2.heap.size := by rw [hv2, hv1, hv0]; simp [World.setCell]
          have tF := turn_on' tx3 (zF.mono (by omega))
          have cF := cx3.below' zF (by omega)
          clear hv2 hv1 hv0 f_0 f_1 f_2 g_0 g_1 g_2
          refine hK9.out _ _ trivial (fun hHeld => ?_)
          clear hK9 K9
          try simp only [Act.put, lgA, lgB, lgC, lgD, lgE, lgF]
          refine wpAnyH_done (by kernel_rfl) ?_ _
          refine NoPanic.normal ?_
          go_wp2_with fail
          go_meet
          case rel => exact ⟨x2.heap.size, nm, t, rfl, hnm, ht3, ⟨by omega, by omega⟩, F_0, F_1, F_2, ⟨G_0, G_1, G_2⟩, cF, tF⟩
        · skip
          go_simp
          obtain ⟨x3, hX⟩ : ∃ W, W = (x2.alloc (.cells #[.string (ByteArray.mk #[]), .slice none 0 0, .int .i64 0] 29)) := ⟨_, rfl⟩
          rw [← hX]
          have f_0 : x3.cell? ⟨x2.heap.size, 0, none⟩ = some (.string (ByteArray.mk #[])) := by rw [hX]; show (World.alloc x2 _).cell? ⟨x2.heap.size, 0, none⟩ = _; exact box_cell (Below.refl _ _) rfl
          have g_0 : x3.frozen? ⟨x2.heap.size, 0, none⟩ = false := by rw [hX]; show (World.alloc x2 _).frozen? ⟨x2.heap.size, 0, none⟩ = _; exact box_frozen (Below.refl _ _)
          have f_1 : x3.cell? ⟨x2.heap.size, 1, none⟩ = some (.slice none 0 0) := by rw [hX]; show (World.alloc x2 _).cell? ⟨x2.heap.size, 1, none⟩ = _; exact box_cell (Below.refl _ _) rfl
          have g_1 : x3.frozen? ⟨x2.heap.size, 1, none⟩ = false := by rw [hX]; show (World.alloc x2 _).frozen? ⟨x2.heap.size, 1, none⟩ = _; exact box_frozen (Below.refl _ _)
          have f_2 : x3.cell? ⟨x2.heap.size, 2, none⟩ = some (.int .i64 0) := by rw [hX]; show (World.alloc x2 _).cell? ⟨x2.heap.size, 2, none⟩ = _; exact box_cell (Below.refl _ _) rfl
          have g_2 : x3.frozen? ⟨x2.heap.size, 2, none⟩ = false := by rw [hX]; show (World.alloc x2 _).frozen? ⟨x2.heap.size, 2, none⟩ = _; exact box_frozen (Below.refl _ _)
          have zx3 : Below x2.heap.size x2 x3 := by rw [hX]; exact (Below.refl _ _).alloc (Nat.le_refl _) _
          have sx3 : x2.heap.size + 1 ≤ x3.heap.size := by rw [hX]; simp
          clear hX
          have tx3 := turn_on' tx2 (zx3.mono (by omega))
          have cx3 := cx2.below' zx3 (by omega)
          replace N0 := bcl zx3 N0
          refine hK9.out _ _ trivial (fun hHeld => ?_)
          clear hK9 K9
          try simp only [Act.put, lgA, lgB, lgC, lgD, lgE, lgF]
          refine wpAnyH_ready (rs := [3]) (by kernel_rfl) (by simp) ?_
          refine AllReadyH.cons rfl (fun K9 hK9 => ?_) AllReadyH.nil
          go_simp
          refine hK9.out _ _ trivial (fun hHeld => ?_)
          clear hK9 K9
          try simp only [Act.put, lgA, lgB, lgC, lgD, lgE, lgF]
          refine wpAnyH_take (i := 7) (v := ?v7_13) rfl (by kernel_rfl) (by kernel_rfl) (by kernel_rfl) (fun _ _ _ h => h) (Or.inl ⟨by rfl, ?hy7_13⟩) (by assumption) ?rest7_13
          case hy7_13 => intro w hSw; (try dsimp only at hSw); go_simp; (try with_reducible rfl)
          try simp only [Act.put, lgA, lgB, lgC, lgD, lgE, lgF]
          refine wpAnyH_ready (rs := [9]) (by kernel_rfl) (by simp) ?_
          refine AllReadyH.cons rfl (fun K9 hK9 => ?_) AllReadyH.nil
          go_simp
          obtain ⟨v0, hv0⟩ : ∃ W, W = x3.setCell ⟨x2.heap.size, 0, none⟩ (.string nm) := ⟨_, rfl⟩
          obtain ⟨v1, hv1⟩ : ∃ W, W = v0.setCell ⟨x2.heap.size, 1, none⟩ (.slice none 0 0) := ⟨_, rfl⟩
          obtain ⟨v2, hv2⟩ : ∃ W, W = v1.setCell ⟨x2.heap.size, 2, none⟩ (.int .i64 t) := ⟨_, rfl⟩
          rw [← hv0, ← hv1, ← hv2]
          have zF : Below x2.heap.size x3 v2 := by
            rw [hv2, hv1, hv0]
            repeat (refine Below.setCell ?_ (by simp only []; omega) _)
            exact Below.refl _ _
          have F_0 : v2.cell? ⟨x2.heap.size, 0, none⟩ = some (.string nm) := by rw [hv2, hv1, hv0]; simp [go_sem, f_0, f_1, f_2]
          have F_1 : v2.cell? ⟨x2.heap.size, 1, none⟩ = some (.slice none 0 0) := by rw [hv2, hv1, hv0]; simp [go_sem, f_0, f_1, f_2]
          have F_2 : v2.cell? ⟨x2.heap.size, 2, none⟩ = some (.int .i64 t) := by rw [hv2, hv1, hv0]; simp [go_sem, f_0, f_1, f_2]
          have G_0 : v2.frozen? ⟨x2.heap.size, 0, none⟩ = false := by rw [hv2, hv1, hv0]; simp [go_sem, g_0, g_1, g_2]
          have G_1 : v2.frozen? ⟨x2.heap.size, 1, none⟩ = false := by rw [hv2, hv1, hv0]; simp [go_sem, g_0, g_1, g_2]
          have G_2 : v2.frozen? ⟨x2.heap.size, 2, none⟩ = false := by rw [hv2, hv1, hv0]; simp [go_sem, g_0, g_1, g_2]
          have sF : x3.heap.size ≤ v2.heap.size := by rw [hv2, hv1, hv0]; simp [World.setCell]
          have tF := turn_on' tx3 (zF.mono (by omega))
          have cF := cx3.below' zF (by omega)
          clear hv2 hv1 hv0 f_0 f_1 f_2 g_0 g_1 g_2
          refine hK9.out _ _ trivial (fun hHeld => ?_)
          clear hK9 K9
          try simp only [Act.put, lgA, lgB, lgC, lgD, lgE, lgF]
          refine wpAnyH_done (by kernel_rfl) ?_ _
          refine NoPanic.normal ?_
          go_wp2_with fail
          go_meet
          case rel => exact ⟨x2.heap.size, nm, t, rfl, hnm, ht3, ⟨by omega, by omega⟩, F_0, F_1, F_2, ⟨G_0, G_1, G_2⟩, cF, tF⟩
      · skip
        go_simp
        obtain ⟨x2, hX⟩ : ∃ W, W = (x1.alloc (.cells #[.string (ByteArray.mk #[]), .slice none 0 0, .int .i64 0] 29)) := ⟨_, rfl⟩
        rw [← hX]
        have f_0 : x2.cell? ⟨x1.heap.size, 0, none⟩ = some (.string (ByteArray.mk #[])) := by rw [hX]; show (World.alloc x1 _).cell? ⟨x1.heap.size, 0, none⟩ = _; exact box_cell (Below.refl _ _) rfl
        have g_0 : x2.frozen? ⟨x1.heap.size, 0, none⟩ = false := by rw [hX]; show (World.alloc x1 _).frozen? ⟨x1.heap.size, 0, none⟩ = _; exact box_frozen (Below.refl _ _)
        have f_1 : x2.cell? ⟨x1.heap.size, 1, none⟩ = some (.slice none 0 0) := by rw [hX]; show (World.alloc x1 _).cell? ⟨x1.heap.size, 1, none⟩ = _; exact box_cell (Below.refl _ _) rfl
        have g_1 : x2.frozen? ⟨x1.heap.size, 1, none⟩ = false := by rw [hX]; show (World.alloc x1 _).frozen? ⟨x1.heap.size, 1, none⟩ = _; exact box_frozen (Below.refl _ _)
        have f_2 : x2.cell? ⟨x1.heap.size, 2, none⟩ = some (.int .i64 0) := by rw [hX]; show (World.alloc x1 _).cell? ⟨x1.heap.size, 2, none⟩ = _; exact box_cell (Below.refl _ _) rfl
        have g_2 : x2.frozen? ⟨x1.heap.size, 2, none⟩ = false := by rw [hX]; show (World.alloc x1 _).frozen? ⟨x1.heap.size, 2, none⟩ = _; exact box_frozen (Below.refl _ _)
        have zx2 : Below x1.heap.size x1 x2 := by rw [hX]; exact (Below.refl _ _).alloc (Nat.le_refl _) _
        have sx2 : x1.heap.size + 1 ≤ x2.heap.size := by rw [hX]; simp
        clear hX
        have tx2 := turn_on' tx1 (zx2.mono (by omega))
        have cx2 := cx1.below' zx2 (by omega)
        replace N0 := bcl zx2 N0
        refine hK9.out _ _ trivial (fun hHeld => ?_)
        clear hK9 K9
        try simp only [Act.put, lgA, lgB, lgC, lgD, lgE, lgF]
        refine wpAnyH_ready (rs := [3, 6]) (by kernel_rfl) (by simp) ?_
        refine AllReadyH.cons rfl (fun K9 hK9 => ?_) (AllReadyH.cons rfl (fun K9 hK9 => ?_) AllReadyH.nil)
        · skip
          go_simp
          refine hK9.out _ _ trivial (fun hHeld => ?_)
          clear hK9 K9
          try simp only [Act.put, lgA, lgB, lgC, lgD, lgE, lgF]
          refine wpAnyH_ready (rs := [6]) (by kernel_rfl) (by simp) ?_
          refine AllReadyH.cons rfl (fun K9 hK9 => ?_) AllReadyH.nil
          go_simp
          refine (l1Below_any _ cb ba bn bc (m : Int) (by omega) (cx2)).mono ?_
          rintro e x3 ⟨t, rfl, q0, q1, q2, cx3, kx3⟩
          have yx3 := kx3.turn
          have tx3 := (tx2).trans yx3
          have sx3 := yx3.size
          have ht3 : 0 ≤ t ∧ t ≤ 3 := by omega
          clear q0 q1 q2 kx3
          replace N0 := tcl yx3 N0
          replace f_0 := tcl yx3 f_0
          replace g_0 := tfr yx3 g_0
          replace f_1 := tcl yx3 f_1
          replace g_1 := tfr yx3 g_1
          replace f_2 := tcl yx3 f_2
          replace g_2 := tfr yx3 g_2
          refine hK9.out _ _ trivial (fun hHeld => ?_)
          clear hK9 K9
          try simp only [Act.put, lgA, lgB, lgC, lgD, lgE, lgF]
          refine wpAnyH_take (i := 7) (v := ?v7_14) rfl (by kernel_rfl) (by kernel_rfl) (by kernel_rfl) (fun _ _ _ h => h) (Or.inl ⟨by rfl, ?hy7_14⟩) (by assumption) ?rest7_14
          case hy7_14 => intro w hSw; (try dsimp only at hSw); go_simp; (try with_reducible rfl)
          try simp only [Act.put, lgA, lgB, lgC, lgD, lgE, lgF]
          refine wpAnyH_ready (rs := [9]) (by kernel_rfl) (by simp) ?_
          refine AllReadyH.cons rfl (fun K9 hK9 => ?_) AllReadyH.nil
          go_simp
          obtain ⟨v0, hv0⟩ : ∃ W, W = x3.setCell ⟨x1.heap.size, 0, none⟩ (.string nm) := ⟨_, rfl⟩
          obtain ⟨v1, hv1⟩ : ∃ W, W = v0.setCell ⟨x1.heap.size, 1, none⟩ (.slice none 0 0) := ⟨_, rfl⟩
          obtain ⟨v2, hv2⟩ : ∃ W, W = v1.setCell ⟨x1.heap.size, 2, none⟩ (.int .i64 t) := ⟨_, rfl⟩
          rw [← hv0, ← hv1, ← hv2]
          have zF : Below x1.heap.size x3 v2 := by
            rw [hv2, hv1, hv0]
            repeat (refine Below.setCell ?_ (by simp only []; omega) _)
            exact Below.refl _ _
          have F_0 : v2.cell? ⟨x1.heap.size, 0, none⟩ = some (.string nm) := by rw [hv2, hv1, hv0]; simp [go_sem, f_0, f_1, f_2]
          have F_1 : v2.cell? ⟨x1.heap.size, 1, none⟩ = some (.slice none 0 0) := by rw [hv2, hv1, hv0]; simp [go_sem, f_0, f_1, f_2]
          have F_2 : v2.cell? ⟨x1.heap.size, 2, none⟩ = some (.int .i64 t) := by rw [hv2, hv1, hv0]; simp [go_sem, f_0, f_1, f_2]
          have G_0 : v2.frozen? ⟨x1.heap.size, 0, none⟩ = false := by rw [hv2, hv1, hv0]; simp [go_sem, g_0, g_1, g_2]
          have G_1 : v2.frozen? ⟨x1.heap.size, 1, none⟩ = false := by rw [hv2, hv1, hv0]; simp [go_sem, g_0, g_1, g_2]
          have G_2 : v2.frozen? ⟨x1.heap.size, 2, none⟩ = false := by rw [hv2, hv1, hv0]; simp [go_sem, g_0, g_1, g_2]
          have sF : x3.heap.size ≤ v2.heap.size := by rw [hv2, hv1, hv0]; simp [World.setCell]
          have tF := turn_on' tx3 (zF.mono (by omega))
          have cF := cx3.below' zF (by omega)
          clear hv2 hv1 hv0 f_0 f_1 f_2 g_0 g_1 g_2
          refine hK9.out _ _ trivial (fun hHeld => ?_)
          clear hK9 K9
          try simp only [Act.put, lgA, lgB, lgC, lgD, lgE, lgF]
          refine wpAnyH_done (by kernel_rfl) ?_ _
          refine NoPanic.normal ?_
          go_wp2_with fail
          go_meet
          case rel => exact ⟨x1.heap.size, nm, t, rfl, hnm, ht3, ⟨by omega, by omega⟩, F_0, F_1, F_2, ⟨G_0, G_1, G_2⟩, cF, tF⟩
        · skip
          go_simp
          refine (l1Below_any _ cb ba bn bc (m : Int) (by omega) (cx2)).mono ?_
          rintro e x3 ⟨t, rfl, q0, q1, q2, cx3, kx3⟩
          have yx3 := kx3.turn
          have tx3 := (tx2).trans yx3
          have sx3 := yx3.size
          have ht3 : 0 ≤ t ∧ t ≤ 3 := by omega
          clear q0 q1 q2 kx3
          replace N0 := tcl yx3 N0
          replace f_0 := tcl yx3 f_0
          replace g_0 := tfr yx3 g_0
          replace f_1 := tcl yx3 f_1
          replace g_1 := tfr yx3 g_1
          replace f_2 := tcl yx3 f_2
          replace g_2 := tfr yx3 g_2
          refine hK9.out _ _ trivial (fun hHeld => ?_)
          clear hK9 K9
          try simp only [Act.put, lgA, lgB, lgC, lgD, lgE, lgF]
          refine wpAnyH_ready (rs := [3]) (by kernel_rfl) (by simp) ?_
          refine AllReadyH.cons rfl (fun K9 hK9 => ?_) AllReadyH.nil
          go_simp
          refine hK9.out _ _ trivial (fun hHeld => ?_)
          clear hK9 K9
          try simp only [Act.put, lgA, lgB, lgC, lgD, lgE, lgF]
          refine wpAnyH_take (i := 7) (v := ?v7_15) rfl (by kernel_rfl) (by kernel_rfl) (by kernel_rfl) (fun _ _ _ h => h) (Or.inl ⟨by rfl, ?hy7_15⟩) (by assumption) ?rest7_15
          case hy7_15 => intro w hSw; (try dsimp only at hSw); go_simp; (try with_reducible rfl)
          try simp only [Act.put, lgA, lgB, lgC, lgD, lgE, lgF]
          refine wpAnyH_ready (rs := [9]) (by kernel_rfl) (by simp) ?_
          refine AllReadyH.cons rfl (fun K9 hK9 => ?_) AllReadyH.nil
          go_simp
          obtain ⟨v0, hv0⟩ : ∃ W, W = x3.setCell ⟨x1.heap.size, 0, none⟩ (.string nm) := ⟨_, rfl⟩
          obtain ⟨v1, hv1⟩ : ∃ W, W = v0.setCell ⟨x1.heap.size, 1, none⟩ (.slice none 0 0) := ⟨_, rfl⟩
          obtain ⟨v2, hv2⟩ : ∃ W, W = v1.setCell ⟨x1.heap.size, 2, none⟩ (.int .i64 t) := ⟨_, rfl⟩
          rw [← hv0, ← hv1, ← hv2]
          have zF : Below x1.heap.size x3 v2 := by
            rw [hv2, hv1, hv0]
            repeat (refine Below.setCell ?_ (by simp only []; omega) _)
            exact Below.refl _ _
          have F_0 : v2.cell? ⟨x1.heap.size, 0, none⟩ = some (.string nm) := by rw [hv2, hv1, hv0]; simp [go_sem, f_0, f_1, f_2]
          have F_1 : v2.cell? ⟨x1.heap.size, 1, none⟩ = some (.slice none 0 0) := by rw [hv2, hv1, hv0]; simp [go_sem, f_0, f_1, f_2]
          have F_2 : v2.cell? ⟨x1.heap.size, 2, none⟩ = some (.int .i64 t) := by rw [hv2, hv1, hv0]; simp [go_sem, f_0, f_1, f_2]
          have G_0 : v2.frozen? ⟨x1.heap.size, 0, none⟩ = false := by rw [hv2, hv1, hv0]; simp [go_sem, g_0, g_1, g_2]
          have G_1 : v2.frozen? ⟨x1.heap.size, 1, none⟩ = false := by rw [hv2, hv1, hv0]; simp [go_sem, g_0, g_1, g_2]
          have G_2 : v2.frozen? ⟨x1.heap.size, 2, none⟩ = false := by rw [hv2, hv1, hv0]; simp [go_sem, g_0, g_1, g_2]
          have sF : x3.heap.size ≤ v2.heap.size := by rw [hv2, hv1, hv0]; simp [World.setCell]
          have tF := turn_on' tx3 (zF.mono (by omega))
          have cF := cx3.below' zF (by omega)
          clear hv2 hv1 hv0 f_0 f_1 f_2 g_0 g_1 g_2
          refine hK9.out _ _ trivial (fun hHeld => ?_)
          clear hK9 K9
          try simp only [Act.put, lgA, lgB, lgC, lgD, lgE, lgF]
          refine wpAnyH_done (by kernel_rfl) ?_ _
          refine NoPanic.normal ?_
          go_wp2_with fail
          go_meet
          case rel => exact ⟨x1.heap.size, nm, t, rfl, hnm, ht3, ⟨by omega, by omega⟩, F_0, F_1, F_2, ⟨G_0, G_1, G_2⟩, cF, tF⟩
    · skip
      go_simp
      refine (l1Below_any _ cb ba bn bc (m : Int) (by omega) (HC.below' hdr (by omega))).mono ?_
      rintro e x1 ⟨t, rfl, q0, q1, q2, cx1, kx1⟩
      have yx1 := (turn_below hdr (Nat.le_refl _)).trans kx1.turn
      have tx1 := (TB.out).trans yx1
      have sx1 := yx1.size
      have ht3 : 0 ≤ t ∧ t ≤ 3 := by omega
      clear q0 q1 q2 kx1
      refine hK9.out _ _ trivial (fun hHeld => ?_)
      clear hK9 K9
      try simp only [Act.put, lgA, lgB, lgC, lgD, lgE, lgF]
      refine wpAnyH_ready (rs := [0, 8]) (by kernel_rfl) (by simp) ?_
      refine AllReadyH.cons rfl (fun K9 hK9 => ?_) (AllReadyH.cons rfl (fun K9 hK9 => ?_) AllReadyH.nil)
      · skip
        go_simp
        obtain ⟨x2, hX⟩ : ∃ W, W = (x1.alloc (.cells #[.string (ByteArray.mk #[114]), .string (ByteArray.mk #[115]), .string (ByteArray.mk #[116]), .string (ByteArray.mk #[117]), .string (ByteArray.mk #[118])] 9)) := ⟨_, rfl⟩
        rw [← hX]
        have HS : ∃ s : ByteArray, s.size ≤ 5 ∧ x2.cell? ⟨x1.heap.size, kk, none⟩ = some (.string s) := by rw [hX]; exact lit5 x1 hkk
        obtain ⟨nm, hnm, N0⟩ := HS
        have zx2 : Below x1.heap.size x1 x2 := by rw [hX]; exact (Below.refl _ _).alloc (Nat.le_refl _) _
        have sx2 : x1.heap.size + 1 ≤ x2.heap.size := by rw [hX]; simp
        clear hX
        have tx2 := turn_on' tx1 (zx2.mono (by omega))
        have cx2 := cx1.below' zx2 (by omega)
        refine hK9.out _ _ trivial (fun hHeld => ?_)
        clear hK9 K9
        try simp only [Act.put, lgA, lgB, lgC, lgD, lgE, lgF]
        refine wpAnyH_take (i := 2) (v := ?v2_16) rfl (by kernel_rfl) (by kernel_rfl) (by kernel_rfl) (fun _ _ _ h => h) (Or.inl ⟨by rfl, ?hy2_16⟩) (by assumption) ?rest2_16
        case hy2_16 => intro w hSw; (try dsimp only at hSw); go_simp; (try with_reducible rfl)
        try simp only [Act.put, lgA, lgB, lgC, lgD, lgE, lgF]
        refine wpAnyH_ready (rs := [3, 8]) (by kernel_rfl) (by simp) ?_
        refine AllReadyH.cons rfl (fun K9 hK9 => ?_) (AllReadyH.cons rfl (fun K9 hK9 => ?_) AllReadyH.nil)
        · skip
          go_simp
          refine hK9.out _ _ trivial (fun hHeld => ?_)
          clear hK9 K9
          try simp only [Act.put, lgA, lgB, lgC, lgD, lgE, lgF]
          refine wpAnyH_take (i := 7) (v := ?v7_17) rfl (by kernel_rfl) (by kernel_rfl) (by kernel_rfl) (fun _ _ _ h => h) (Or.inl ⟨by rfl, ?hy7_17⟩) (by assumption) ?rest7_17
          case hy7_17 => intro w hSw; (try dsimp only at hSw); go_simp; (try with_reducible rfl)
          try simp only [Act.put, lgA, lgB, lgC, lgD, lgE, lgF]
          refine wpAnyH_ready (rs := [8]) (by kernel_rfl) (by simp) ?_
          refine AllReadyH.cons rfl (fun K9 hK9 => ?_) AllReadyH.nil
          go_simp
          obtain ⟨x3, hX⟩ : ∃ W, W = (x2.alloc (.cells #[.string (ByteArray.mk #[]), .slice none 0 0, .int .i64 0] 29)) := ⟨_, rfl⟩
          rw [← hX]
          have f_0 : x3.cell? ⟨x2.heap.size, 0, none⟩ = some (.string (ByteArray.mk #[])) := by rw [hX]; show (World.alloc x2 _).cell? ⟨x2.heap.size, 0, none⟩ = _; exact box_cell (Below.refl _ _) rfl
          have g_0 : x3.frozen? ⟨x2.heap.size, 0, none⟩ = false := by rw [hX]; show (World.alloc x2 _).frozen? ⟨x2.heap.size, 0, none⟩ = _; exact box_frozen (Below.refl _ _)
          have f_1 : x3.cell? ⟨x2.heap.size, 1, none⟩ = some (.slice none 0 0) := by rw [hX]; show (World.alloc x2 _).cell? ⟨x2.heap.size, 1, none⟩ = _; exact box_cell (Below.refl _ _) rfl
          have g_1 : x3.frozen? ⟨x2.heap.size, 1, none⟩ = false := by rw [hX]; show (World.alloc x2 _).frozen? ⟨x2.heap.size, 1, none⟩ = _; exact box_frozen (Below.refl _ _)
          have f_2 : x3.cell? ⟨x2.heap.size, 2, none⟩ = some (.int .i64 0) := by rw [hX]; show (World.alloc x2 _).cell? ⟨x2.heap.size, 2, none⟩ = _; exact box_cell (Below.refl _ _) rfl
          have g_2 : x3.frozen? ⟨x2.heap.size, 2, none⟩ = false := by rw [hX]; show (World.alloc x2 _).frozen? ⟨x2.heap.size, 2, none⟩ = _; exact box_frozen (Below.refl _ _)
          have zx3 : Below x2.heap.size x2 x3 := by rw [hX]; exact (Below.refl _ _).alloc (Nat.le_refl _) _
          have sx3 : x2.heap.size + 1 ≤ x3.heap.size := by rw [hX]; simp
          clear hX
          have tx3 := turn_on' tx2 (zx3.mono (by omega))
          have cx3 := cx2.below' zx3 (by omega)
          replace N0 := bcl zx3 N0
          refine hK9.out _ _ trivial (fun hHeld => ?_)
          clear hK9 K9
          try simp only [Act.put, lgA, lgB, lgC, lgD, lgE, lgF]
          refine wpAnyH_ready (rs := [9]) (by kernel_rfl) (by simp) ?_
          refine AllReadyH.cons rfl (fun K9 hK9 => ?_) AllReadyH.nil
          go_simp
          obtain ⟨v0, hv0⟩ : ∃ W, W = x3.setCell ⟨x2.heap.size, 0, none⟩ (.string nm) := ⟨_, rfl⟩
          obtain ⟨v1, hv1⟩ : ∃ W, W = v0.setCell ⟨x2.heap.size, 1, none⟩ (.slice none 0 0) := ⟨_, rfl⟩
          obtain ⟨v2, hv2⟩ : ∃ W, W = v1.setCell ⟨x2.heap.size, 2, none⟩ (.int .i64 t) := ⟨_, rfl⟩
          rw [← hv0, ← hv1, ← hv2]
          have zF : Below x2.heap.size x3 v2 := by
            rw [hv2, hv1, hv0]
            repeat (refine Below.setCell ?_ (by simp only []; omega) _)
            exact Below.refl _ _
          have F_0 : v2.cell? ⟨x2.heap.size, 0, none⟩ = some (.string nm) := by rw [hv2, hv1, hv0]; simp [go_sem, f_0, f_1, f_2]
          have F_1 : v2.cell? ⟨x2.heap.size, 1, none⟩ = some (.slice none 0 0) := by rw [hv2, hv1, hv0]; simp [go_sem, f_0, f_1, f_2]
          have F_2 : v2.cell? ⟨x2.heap.size, 2, none⟩ = some (.int .i64 t) := by rw [hv2, hv1, hv0]; simp [go_sem, f_0, f_1, f_2]
          have G_0 : v2.frozen? ⟨x2.heap.size, 0, none⟩ = false := by rw [hv2, hv1, hv0]; simp [go_sem, g_0, g_1, g_2]
          have G_1 : v2.frozen? ⟨x2.heap.size, 1, none⟩ = false := by rw [hv2, hv1, hv0]; simp [go_sem, g_0, g_1, g_2]
          have G_2 : v2.frozen? ⟨x2.heap.size, 2, none⟩ = false := by rw [hv2, hv1, hv0]; simp [go_sem, g_0, g_1, g_2]
          have sF : x3.heap.size ≤ v2.heap.size := by rw [hv2, hv1, hv0]; simp [World.setCell]
          have tF := turn_on' tx3 (zF.mono (by omega))
          have cF := cx3.below' zF (by omega)
          clear hv2 hv1 hv0 f_0 f_1 f_2 g_0 g_1 g_2
          refine hK9.out _ _ trivial (fun hHeld => ?_)
          clear hK9 K9
          try simp only [Act.put, lgA, lgB, lgC, lgD, lgE, lgF]
          refine wpAnyH_done (by kernel_rfl) ?_ _
          refine NoPanic.normal ?_
          go_wp2_with fail
          go_meet
          case rel => exact ⟨x2.heap.size, nm, t, rfl, hnm, ht3, ⟨by omega, by omega⟩, F_0, F_1, F_2, ⟨G_0, G_1, G_2⟩, cF, tF⟩
        · skip
          go_simp
          obtain ⟨x3, hX⟩ : ∃ W, W = (x2.alloc (.cells #[.string (ByteArray.mk #[]), .slice none 0 0, .int .i64 0] 29)) := ⟨_, rfl⟩
          rw [← hX]
          have f_0 : x3.cell? ⟨x2.heap.size, 0, none⟩ = some (.string (ByteArray.mk #[])) := by rw [hX]; show (World.alloc x2 _).cell? ⟨x2.heap.size, 0, none⟩ = _; exact box_cell (Below.refl _ _) rfl
          have g_0 : x3.frozen? ⟨x2.heap.size, 0, none⟩ = false := by rw [hX]; show (World.alloc x2 _).frozen? ⟨x2.heap.size, 0, none⟩ = _; exact box_frozen (Below.refl _ _)
          have f_1 : x3.cell? ⟨x2.heap.size, 1, none⟩ = some (.slice none 0 0) := by rw [hX]; show (World.alloc x2 _).cell? ⟨x2.heap.size, 1, none⟩ = _; exact box_cell (Below.refl _ _) rfl
          have g_1 : x3.frozen? ⟨x2.heap.size, 1, none⟩ = false := by rw [hX]; show (World.alloc x2 _).frozen? ⟨x2.heap.size, 1, none⟩ = _; exact box_frozen (Below.refl _ _)
          have f_2 : x3.cell? ⟨x2.heap.size, 2, none⟩ = some (.int .i64 0) := by rw [hX]; show (World.alloc x2 _).cell? ⟨x2.heap.size, 2, none⟩ = _; exact box_cell (Below.refl _ _) rfl
          have g_2 : x3.frozen? ⟨x2.heap.size, 2, none⟩ = false := by rw [hX]; show (World.alloc x2 _).frozen? ⟨x2.heap.size, 2, none⟩ = _; exact box_frozen (Below.refl _ _)
          have zx3 : Below x2.heap.size x2 x3 := by rw [hX]; exact (Below.refl _ _).alloc (Nat.le_refl _) _
          have sx3 : x2.heap.size + 1 ≤ x3.heap.size := by rw [hX]; simp
          clear hX
          have tx3 := turn_on' tx2 (zx3.mono (by omega))
          have cx3 := cx2.below' zx3 (by omega)
          replace N0 := bcl zx3 N0
          refine hK9.out _ _ trivial (fun hHeld => ?_)
          clear hK9 K9
          try simp only [Act.put, lgA, lgB, lgC, lgD, lgE, lgF]
          refine wpAnyH_ready (rs := [3]) (by kernel_rfl) (by simp) ?_
          refine AllReadyH.cons rfl (fun K9 hK9 => ?_) AllReadyH.nil
          go_simp
          refine hK9.out _ _ trivial (fun hHeld => ?_)
          clear hK9 K9
          try simp only [Act.put, lgA, lgB, lgC, lgD, lgE, lgF]
          refine wpAnyH_take (i := 7) (v := ?v7_18) rfl (by kernel_rfl) (by kernel_rfl) (by kernel_rfl) (fun _ _ _ h => h) (Or.inl ⟨by rfl, ?hy7_18⟩) (by assumption) ?rest7_18
          case hy7_18 => intro w hSw; (try dsimp only at hSw); go_simp; (try with_reducible rfl)
          try simp only [Act.put, lgA, lgB, lgC, lgD, lgE, lgF]
          refine wpAnyH_ready (rs := [9]) (by kernel_rfl) (by simp) ?_
          refine AllReadyH.cons rfl (fun K9 hK9 => ?_) AllReadyH.nil
          go_simp
          obtain ⟨v0, hv0⟩ : ∃ W, W = x3.setCell ⟨x2.heap.size, 0, none⟩ (.string nm) := ⟨_, rfl⟩
          obtain ⟨v1, hv1⟩ : ∃ W, W = v0.setCell ⟨x2.heap.size, 1, none⟩ (.slice none 0 0) := ⟨_, rfl⟩
          obtain ⟨v2, hv2⟩ : ∃ W, W = v1.setCell ⟨x2.heap.size, 2, none⟩ (.int .i64 t) := ⟨_, rfl⟩
          rw [← hv0, ← hv1, ← hv2]
          have zF : Below x2.heap.size x3 v2 := by
            rw [hv2, hv1, hv0]
            repeat (refine Below.setCell ?_ (by simp only []; omega) _)
            exact Below.refl _ _
          have F_0 : v2.cell? ⟨x2.heap.size, 0, none⟩ = some (.string nm) := by rw [hv2, hv1, hv0]; simp [go_sem, f_0, f_1, f_2]
          have F_1 : v2.cell? ⟨x2.heap.size, 1, none⟩ = some (.slice none 0 0) := by rw [hv2, hv1, hv0]; simp [go_sem, f_0, f_1, f_2]
          have F_2 : v2.cell? ⟨x2.heap.size, 2, none⟩ = some (.int .i64 t) := by rw [hv2, hv1, hv0]; simp [go_sem, f_0, f_1, f_2]
          have G_0 : v2.frozen? ⟨x2.heap.size, 0, none⟩ = false := by rw [hv2, hv1, hv0]; simp [go_sem, g_0, g_1, g_2]
          have G_1 : v2.frozen? ⟨x2.heap.size, 1, none⟩ = false := by rw [hv2, hv1, hv0]; simp [go_sem, g_0, g_1, g_2]
          have G_2 : v2.frozen? ⟨x2.heap.size, 2, none⟩ = false := by rw [hv2, hv1, hv0]; simp [go_sem, g_0, g_1, g_2]
          have sF : x3.heap.size ≤ v2.heap.size := by rw [hv2, hv1, hv0]; simp [World.setCell]
          have tF := turn_on' tx3 (zF.mono (by omega))
          have cF := cx3.below' zF (by omega)
          clear hv2 hv1 hv0 f_0 f_1 f_2 g_0 g_1 g_2
          refine hK9.out _ _ trivial (fun hHeld => ?_)
          clear hK9 K9
          try simp only [Act.put, lgA, lgB, lgC, lgD, lgE, lgF]
          refine wpAnyH_done (by kernel_rfl) ?_ _
          refine NoPanic.normal ?_
          go_wp2_with fail
          go_meet
          case rel => exact ⟨x2.heap.size, nm, t, rfl, hnm, ht3, ⟨by omega, by omega⟩, F_0, F_1, F_2, ⟨G_0, G_1, G_2⟩, cF, tF⟩
      · skip
        go_simp
        obtain ⟨x2, hX⟩ : ∃ W, W = (x1.alloc (.cells #[.string (ByteArray.mk #[]), .slice none 0 0, .int .i64 0] 29)) := ⟨_, rfl⟩
        rw [← hX]
        have f_0 : x2.cell? ⟨x1.heap.size, 0, none⟩ = some (.string (ByteArray.mk #[])) := by rw [hX]; show (World.alloc x1 _).cell? ⟨x1.heap.size, 0, none⟩ = _; exact box_cell (Below.refl _ _) rfl
        have g_0 : x2.frozen? ⟨x1.heap.size, 0, none⟩ = false := by rw [hX]; show (World.alloc x1 _).frozen? ⟨x1.heap.size, 0, none⟩ = _; exact box_frozen (Below.refl _ _)
        have f_1 : x2.cell? ⟨x1.heap.size, 1, none⟩ = some (.slice none 0 0) := by rw [hX]; show (World.alloc x1 _).cell? ⟨x1.heap.size, 1, none⟩ = _; exact box_cell (Below.refl _ _) rfl
        have g_1 : x2.frozen? ⟨x1.heap.size, 1, none⟩ = false := by rw [hX]; show (World.alloc x1 _).frozen? ⟨x1.heap.size, 1, none⟩ = _; exact box_frozen (Below.refl _ _)
        have f_2 : x2.cell? ⟨x1.heap.size, 2, none⟩ = some (.int .i64 0) := by rw [hX]; show (World.alloc x1 _).cell? ⟨x1.heap.size, 2, none⟩ = _; exact box_cell (Below.refl _ _) rfl
        have g_2 : x2.frozen? ⟨x1.heap.size, 2, none⟩ = false := by rw [hX]; show (World.alloc x1 _).frozen? ⟨x1.heap.size, 2, none⟩ = _; exact box_frozen (Below.refl _ _)
        have zx2 : Below x1.heap.size x1 x2 := by rw [hX]; exact (Below.refl _ _).alloc (Nat.le_refl _) _
        have sx2 : x1.heap.size + 1 ≤ x2.heap.size := by rw [hX]; simp
        clear hX
        have tx2 := turn_on' tx1 (zx2.mono (by omega))
        have cx2 := cx1.below' zx2 (by omega)
        refine hK9.out _ _ trivial (fun hHeld => ?_)
        clear hK9 K9
        try simp only [Act.put, lgA, lgB, lgC, lgD, lgE, lgF]
        refine wpAnyH_ready (rs := [0]) (by kernel_rfl) (by simp) ?_
        refine AllReadyH.cons rfl (fun K9 hK9 => ?_) AllReadyH.nil
        go_simp
        obtain ⟨x3, hX⟩ : ∃ W, W = (x2.alloc (.cells #[.string (ByteArray.mk #[114]), .string (ByteArray.mk #[115]), .string (ByteArray.mk #[116]), .string (ByteArray.mk #[117]), .string (ByteArray.mk #[118])] 9)) := ⟨_, rfl⟩
        rw [← hX]
        have HS : ∃ s : ByteArray, s.size ≤ 5 ∧ x3.cell? ⟨x2.heap.size, kk, none⟩ = some (.string s) := by rw [hX]; exact lit5 x2 hkk
        obtain ⟨nm, hnm, N0⟩ := HS
        have zx3 : Below x2.heap.size x2 x3 := by rw [hX]; exact (Below.refl _ _).alloc (Nat.le_refl _) _
        have sx3 : x2.heap.size + 1 ≤ x3.heap.size := by rw [hX]; simp
        clear hX
        have tx3 := turn_on' tx2 (zx3.mono (by omega))
        have cx3 := cx2.below' zx3 (by omega)
        replace f_0 := bcl zx3 f_0
        replace g_0 := bfr zx3 g_0
        replace f_1 := bcl zx3 f_1
        replace g_1 := bfr zx3 g_1
        replace f_2 := bcl zx3 f_2
        replace g_2 := bfr zx3 g_2
        refine hK9.out _ _ trivial (fun hHeld => ?_)
        clear hK9 K9
        try simp only [Act.put, lgA, lgB, lgC, lgD, lgE, lgF]
        refine wpAnyH_take (i := 2) (v := ?v2_19) rfl (by kernel_rfl) (by kernel_rfl) (by kernel_rfl) (fun _ _ _ h => h) (Or.inl ⟨by rfl, ?hy2_19⟩) (by assumption) ?rest2_19
        case hy2_19 => intro w hSw; (try dsimp only at hSw); go_simp; (try with_reducible rfl)
        try simp only [Act.put, lgA, lgB, lgC, lgD, lgE, lgF]
        refine wpAnyH_ready (rs := [3]) (by kernel_rfl) (by simp) ?_
        refine AllReadyH.cons rfl (fun K9 hK9 => ?_) AllReadyH.nil
        go_simp
        refine hK9.out _ _ trivial (fun hHeld => ?_)
        clear hK9 K9
        try simp only [Act.put, lgA, lgB, lgC, lgD, lgE, lgF]
        refine wpAnyH_take (i := 7) (v := ?v7_20) rfl (by kernel_rfl) (by kernel_rfl) (by kernel_rfl) (fun _ _ _ h => h) (Or.inl ⟨by rfl, ?hy7_20⟩) (by assumption) ?rest7_20
        case hy7_20 => intro w hSw; (try dsimp only at hSw); go_simp; (try with_reducible rfl)
        try simp only [Act.put, lgA, lgB, lgC, lgD, lgE, lgF]
        refine wpAnyH_ready (rs := [9]) (by kernel_rfl) (by simp) ?_
        refine AllReadyH.cons rfl (fun K9 hK9 => ?_) AllReadyH.nil
        go_simp
        obtain ⟨v0, hv0⟩ : ∃ W, W = x3.setCell ⟨x1.heap.size, 0, none⟩ (.string nm) := ⟨_, rfl⟩
        obtain ⟨v1, hv1⟩ : ∃ W, W = v0.setCell ⟨x1.heap.size, 1, none⟩ (.slice none 0 0) := ⟨_, rfl⟩
        obtain ⟨v2, hv2⟩ : ∃ W, W = v1.setCell ⟨x1.heap.size, 2, none⟩ (.int .i64 t) := ⟨_, rfl⟩
        rw [← hv0, ← hv1, ← hv2]
        have zF : Below x1.heap.size x3 v2 := by
          rw [hv2, hv1, hv0]
          repeat (refine Below.setCell ?_ (by simp only []; omega) _)
          exact Below.refl _ _
        have F_0 : v2.cell? ⟨x1.heap.size, 0, none⟩ = some (.string nm) := by rw [hv2, hv1, hv0]; simp [go_sem, f_0, f_1, f_2]
        have F_1 : v2.cell? ⟨x1.heap.size, 1, none⟩ = some (.slice none 0 0) := by rw [hv2, hv1, hv0]; simp [go_sem, f_0, f_1, f_2]
        have F_2 : v2.cell? ⟨x1.heap.size, 2, none⟩ = some (.int .i64 t) := by rw [hv2, hv1, hv0]; simp [go_sem, f_0, f_1, f_2]
        have G_0 : v2.frozen? ⟨x1.heap.size, 0, none⟩ = false := by rw [hv2, hv1, hv0]; simp [go_sem, g_0, g_1, g_2]
        have G_1 : v2.frozen? ⟨x1.heap.size, 1, none⟩ = false := by rw [hv2, hv1, hv0]; simp [go_sem, g_0, g_1, g_2]
        have G_2 : v2.frozen? ⟨x1.heap.size, 2, none⟩ = false := by rw [hv2, hv1, hv0]; simp [go_sem, g_0, g_1, g_2]
        have sF : x3.heap.size ≤ v2.heap.size := by rw [hv2, hv1, hv0]; simp [World.setCell]
        have tF := turn_on' tx3 (zF.mono (by omega))
        have cF := cx3.below' zF (by omega)
        clear hv2 hv1 hv0 f_0 f_1 f_2 g_0 g_1 g_2
        refine hK9.out _ _ trivial (fun hHeld => ?_)
        clear hK9 K9
        try simp only [Act.put, lgA, lgB, lgC, lgD, lgE, lgF]
        refine wpAnyH_done (by kernel_rfl) ?_ _
        refine NoPanic.normal ?_
        go_wp2_with fail
        go_meet
        case rel => exact ⟨x1.heap.size, nm, t, rfl, hnm, ht3, ⟨by omega, by omega⟩, F_0, F_1, F_2, ⟨G_0, G_1, G_2⟩, cF, tF⟩
    · skip
      go_simp
      obtain ⟨x1, hX⟩ : ∃ W, W = (wb.alloc (.cells #[.string (ByteArray.mk #[]), .slice none 0 0, .int .i64 0] 29)).drew := ⟨_, rfl⟩
      rw [← hX]
      have f_0 : x1.cell? ⟨wb.heap.size, 0, none⟩ = some (.string (ByteArray.mk #[])) := by rw [hX]; show (World.alloc wb _).cell? ⟨wb.heap.size, 0, none⟩ = _; exact box_cell (Below.refl _ _) rfl
      have g_0 : x1.frozen? ⟨wb.heap.size, 0, none⟩ = false := by rw [hX]; show (World.alloc wb _).frozen? ⟨wb.heap.size, 0, none⟩ = _; exact box_frozen (Below.refl _ _)
      have f_1 : x1.cell? ⟨wb.heap.size, 1, none⟩ = some (.slice none 0 0) := by rw [hX]; show (World.alloc wb _).cell? ⟨wb.heap.size, 1, none⟩ = _; exact box_cell (Below.refl _ _) rfl
      have g_1 : x1.frozen? ⟨wb.heap.size, 1, none⟩ = false := by rw [hX]; show (World.alloc wb _).frozen? ⟨wb.heap.size, 1, none⟩ = _; exact box_frozen (Below.refl _ _)
      have f_2 : x1.cell? ⟨wb.heap.size, 2, none⟩ = some (.int .i64 0) := by rw [hX]; show (World.alloc wb _).cell? ⟨wb.heap.size, 2, none⟩ = _; exact box_cell (Below.refl _ _) rfl
      have g_2 : x1.frozen? ⟨wb.heap.size, 2, none⟩ = false := by rw [hX]; show (World.alloc wb _).frozen? ⟨wb.heap.size, 2, none⟩ = _; exact box_frozen (Below.refl _ _)
      have zx1 : Below wb.heap.size wb x1 := by rw [hX]; exact ((Below.refl _ _).alloc (Nat.le_refl _) _).drew
      have sx1 : wb.heap.size + 1 ≤ x1.heap.size := by rw [hX]; simp
      clear hX
      have tx1 := turn_on' TB.out (zx1.mono (by omega))
      have cx1 := HC.below' zx1 (by omega)
      refine hK9.out _ _ trivial (fun hHeld => ?_)
      clear hK9 K9
      try simp only [Act.put, lgA, lgB, lgC, lgD, lgE, lgF]
      refine wpAnyH_ready (rs := [0, 6]) (by kernel_rfl) (by simp) ?_
      refine AllReadyH.cons rfl (fun K9 hK9 => ?_) (AllReadyH.cons rfl (fun K9 hK9 => ?_) AllReadyH.nil)
      · skip
        go_simp
        obtain ⟨x2, hX⟩ : ∃ W, W = (x1.alloc (.cells #[.string (ByteArray.mk #[114]), .string (ByteArray.mk #[115]), .string (ByteArray.mk #[116]), .string (ByteArray.mk #[117]), .string (ByteArray.mk #[118])] 9)) := ⟨_, rfl⟩
        rw [← hX]
        have HS : ∃ s : ByteArray, s.size ≤ 5 ∧ x2.cell? ⟨x1.heap.size, kk, none⟩ = some (.string s) := by rw [hX]; exact lit5 x1 hkk
        obtain ⟨nm, hnm, N0⟩ := HS
        have zx2 : Below x1.heap.size x1 x2 := by rw [hX]; exact (Below.refl _ _).alloc (Nat.le_refl _) _
        have sx2 : x1.heap.size + 1 ≤ x2.heap.size := by rw [hX]; simp
        clear hX
        have tx2 := turn_on' tx1 (zx2.mono (by omega))
        have cx2 := cx1.below' zx2 (by omega)
        replace f_0 := bcl zx2 f_0
        replace g_0 := bfr zx2 g_0
        replace f_1 := bcl zx2 f_1
        replace g_1 := bfr zx2 g_1
        replace f_2 := bcl zx2 f_2
        replace g_2 := bfr zx2 g_2
        refine hK9.out _ _ trivial (fun hHeld => ?_)
        clear hK9 K9
        try simp only [Act.put, lgA, lgB, lgC, lgD, lgE, lgF]
        refine wpAnyH_take (i := 2) (v := ?v2_21) rfl (by kernel_rfl) (by kernel_rfl) (by kernel_rfl) (fun _ _ _ h => h) (Or.inl ⟨by rfl, ?hy2_21⟩) (by assumption) ?rest2_21
        case hy2_21 => intro w hSw; (try dsimp only at hSw); go_simp; (try with_reducible rfl)
        try simp only [Act.put, lgA, lgB, lgC, lgD, lgE, lgF]
        refine wpAnyH_ready (rs := [3, 6]) (by kernel_rfl) (by simp) ?_
        refine AllReadyH.cons rfl (fun K9 hK9 => ?_) (AllReadyH.cons rfl (fun K9 hK9 => ?_) AllReadyH.nil)
        · skip
          go_simp
          refine hK9.out _ _ trivial (fun hHeld => ?_)
          clear hK9 K9
          try simp only [Act.put, lgA, lgB, lgC, lgD, lgE, lgF]
          refine wpAnyH_ready (rs := [6]) (by kernel_rfl) (by simp) ?_
          refine AllReadyH.cons rfl (fun K9 hK9 => ?_) AllReadyH.nil
          go_simp
          refine (l1Below_any _ cb ba bn bc (m : Int) (by omega) (cx2)).mono ?_
          rintro e x3 ⟨t, rfl, q0, q1, q2, cx3, kx3⟩
          have yx3 := kx3.turn
          have tx3 := (tx2).trans yx3
          have sx3 := yx3.size
          have ht3 : 0 ≤ t ∧ t ≤ 3 := by omega
          clear q0 q1 q2 kx3
          replace N0 := tcl yx3 N0
          replace f_0 := tcl yx3 f_0
          replace g_0 := tfr yx3 g_0
          replace f_1 := tcl yx3 f_1
          replace g_1 := tfr yx3 g_1
          replace f_2 := tcl yx3 f_2
          replace g_2 := tfr yx3 g_2
          refine hK9.out _ _ trivial (fun hHeld => ?_)
          clear hK9 K9
          try simp only [Act.put, lgA, lgB, lgC, lgD, lgE, lgF]
          refine wpAnyH_take (i := 7) (v := ?v7_22) rfl (by kernel_rfl) (by kernel_rfl) (by kernel_rfl) (fun _ _ _ h => h) (Or.inl ⟨by rfl, ?hy7_22⟩) (by assumption) ?rest7_22
          case hy7_22 => intro w hSw; (try dsimp only at hSw); go_simp; (try with_reducible rfl)
          try simp only [Act.put, lgA, lgB, lgC, lgD, lgE, lgF]
          refine wpAnyH_ready (rs := [9]) (by kernel_rfl) (by simp) ?_
          refine AllReadyH.cons rfl (fun K9 hK9 => ?_) AllReadyH.nil
          go_simp
          obtain ⟨v0, hv0⟩ : ∃ W, W = x3.setCell ⟨wb.heap.size, 0, none⟩ (.string nm) := ⟨_, rfl⟩
          obtain ⟨v1, hv1⟩ : ∃ W, W = v0.setCell ⟨wb.heap.size, 1, none⟩ (.slice none 0 0) := ⟨_, rfl⟩
          obtain ⟨v2, hv2⟩ : ∃ W, W = v1.setCell ⟨wb.heap.size, 2, none⟩ (.int .i64 t) := ⟨_, rfl⟩
          rw [← hv0, ← hv1, ← hv2]
          have zF : Below wb.heap.size x3 v2 := by
            rw [hv2, hv1, hv0]
            repeat (refine Below.setCell ?_ (by simp only []; omega) _)
            exact Below.refl _ _
          have F_0 : v2.cell? ⟨wb.heap.size, 0, none⟩ = some (.string nm) := by rw [hv2, hv1, hv0]; simp [go_sem, f_0, f_1, f_2]
          have F_1 : v2.cell? ⟨wb.heap.size, 1, none⟩ = some (.slice none 0 0) := by rw [hv2, hv1, hv0]; simp [go_sem, f_0, f_1, f_2]
          have F_2 : v2.cell? ⟨wb.heap.size, 2, none⟩ = some (.int .i64 t) := by rw [hv2, hv1, hv0]; simp [go_sem, f_0, f_1, f_2]
          have G_0 : v2.frozen? ⟨wb.heap.size, 0, none⟩ = false := by rw [hv2, hv1, hv0]; simp [go_sem, g_0, g_1, g_2]
          have G_1 : v2.frozen? ⟨wb.heap.size, 1, none⟩ = false := by rw [hv2, hv1, hv0]; simp [go_sem, g_0, g_1, g_2]
          have G_2 : v2.frozen? ⟨wb.heap.size, 2, none⟩ = false := by rw [hv2, hv1, hv0]; simp [go_sem, g_0, g_1, g_2]
          have sF : x3.heap.size ≤ v2.heap.size := by rw [hv2, hv1, hv0]; simp [World.setCell]
          have tF := turn_on' tx3 (zF.mono (by omega))
          have cF := cx3.below' zF (by omega)
          clear hv2 hv1 hv0 f_0 f_1 f_2 g_0 g_1 g_2
          refine hK9.out _ _ trivial (fun hHeld => ?_)
          clear hK9 K9
          try simp only [Act.put, lgA, lgB, lgC, lgD, lgE, lgF]
          refine wpAnyH_done (by kernel_rfl) ?_ _
          refine NoPanic.normal ?_
          go_wp2_with fail
          go_meet
          case rel => exact ⟨wb.heap.size, nm, t, rfl, hnm, ht3, ⟨by omega, by omega⟩, F_0, F_1, F_2, ⟨G_0, G_1, G_2⟩, cF, tF⟩
        · skip
          go_simp
          refine (l1Below_any _ cb ba bn bc (m : Int) (by omega) (cx2)).mono ?_
          rintro e x3 ⟨t, rfl, q0, q1, q2, cx3, kx3⟩
          have yx3 := kx3.turn
          have tx3 := (tx2).trans yx3
          have sx3 := yx3.size
          have ht3 : 0 ≤ t ∧ t ≤ 3 := by omega
          clear q0 q1 q2 kx3
          replace N0 := tcl yx3 N0
          replace f_0 := tcl yx3 f_0
          replace g_0 := tfr yx3 g_0
          replace f_1 := tcl yx3 f_1
          replace g_1 := tfr yx3 g_1
          replace f_2 := tcl yx3 f_2
          replace g_2 := tfr yx3 g_2
          refine hK9.out _ _ trivial (fun hHeld => ?_)
          clear hK9 K9
          try simp only [Act.put, lgA, lgB, lgC, lgD, lgE, lgF]
          refine wpAnyH_ready (rs := [3]) (by kernel_rfl) (by simp) ?_
          refine AllReadyH.cons rfl (fun K9 hK9 => ?_) AllReadyH.nil
          go_simp
          refine hK9.out _ _ trivial (fun hHeld => ?_)
          clear hK9 K9
          try simp only [Act.put, lgA, lgB, lgC, lgD, lgE, lgF]
          refine wpAnyH_take (i := 7) (v := ?v7_23) rfl (by kernel_rfl) (by kernel_rfl) (by kernel_rfl) (fun _ _ _ h => h) (Or.inl ⟨by rfl, ?hy7_23⟩) (by assumption) ?rest7_23
          case hy7_23 => intro w hSw; (try dsimp only at hSw); go_simp; (try with_reducible rfl)
          try simp only [Act.put, lgA, lgB, lgC, lgD, lgE, lgF]
          refine wpAnyH_ready (rs := [9]) (by kernel_rfl) (by simp) ?_
          refine AllReadyH.cons rfl (fun K9 hK9 => ?_) AllReadyH.nil
          go_simp
          obtain ⟨v0, hv0⟩ : ∃ W, W = x3.setCell ⟨wb.heap.size, 0, none⟩ (.string nm) := ⟨_, rfl⟩
          obtain ⟨v1, hv1⟩ : ∃ W, W = v0.setCell ⟨wb.heap.size, 1, none⟩ (.slice none 0 0) := ⟨_, rfl⟩
          obtain ⟨v2, hv2⟩ : ∃ W, W = v1.setCell ⟨wb.heap.size, 2, none⟩ (.int .i64 t) := ⟨_, rfl⟩
          rw [← hv0, ← hv1, ← hv2]
          have zF : Below wb.heap.size x3 v2 := by
            rw [hv2, hv1, hv0]
            repeat (refine Below.setCell ?_ (by simp only []; omega) _)
            exact Below.refl _ _
          have F_0 : v2.cell? ⟨wb.heap.size, 0, none⟩ = some (.string nm) := by rw [hv2, hv1, hv0]; simp [go_sem, f_0, f_1, f_2]
          have F_1 : v2.cell? ⟨wb.heap.size, 1, none⟩ = some (.slice none 0 0) := by rw [hv2, hv1, hv0]; simp [go_sem, f_0, f_1, f_2]
          have F_2 : v2.cell? ⟨wb.heap.size, 2, none⟩ = some (.int .i64 t) := by rw [hv2, hv1, hv0]; simp [go_sem, f_0, f_1, f_2]
          have G_0 : v2.frozen? ⟨wb.heap.size, 0, none⟩ = false := by rw [hv2, hv1, hv0]; simp [go_sem, g_0, g_1, g_2]
          have G_1 : v2.frozen? ⟨wb.heap.size, 1, none⟩ = false := by rw [hv2, hv1, hv0]; simp [go_sem, g_0, g_1, g_2]
          have G_2 : v2.frozen? ⟨wb.heap.size, 2, none⟩ = false := by rw [hv2, hv1, hv0]; simp [go_sem, g_0, g_1, g_2]
          have sF : x3.heap.size ≤ v2.heap.size := by rw [hv2, hv1, hv0]; simp [World.setCell]
          have tF := turn_on' tx3 (zF.mono (by omega))
          have cF := cx3.below' zF (by omega)
          clear hv2 hv1 hv0 f_0 f_1 f_2 g_0 g_1 g_2
          refine hK9.out _ _ trivial (fun hHeld => ?_)
          clear hK9 K9
          try simp only [Act.put, lgA, lgB, lgC, lgD, lgE, lgF]
          refine wpAnyH_done (by kernel_rfl) ?_ _
          refine NoPanic.normal ?_
          go_wp2_with fail
          go_meet
          case rel => exact ⟨wb.heap.size, nm, t, rfl, hnm, ht3, ⟨by omega, by omega⟩, F_0, F_1, F_2, ⟨G_0, G_1, G_2⟩, cF, tF⟩
      · skip
        go_simp
        refine (l1Below_any _ cb ba bn bc (m : Int) (by omega) (cx1)).mono ?_
        rintro e x2 ⟨t, rfl, q0, q1, q2, cx2, kx2⟩
        have yx2 := kx2.turn
        have tx2 := (tx1).trans yx2
        have sx2 := yx2.size
        have ht3 : 0 ≤ t ∧ t ≤ 3 := by omega
        clear q0 q1 q2 kx2
        replace f_0 := tcl yx2 f_0
        replace g_0 := tfr yx2 g_0
        replace f_1 := tcl yx2 f_1
        replace g_1 := tfr yx2 g_1
        replace f_2 := tcl yx2 f_2
        replace g_2 := tfr yx2 g_2
        refine hK9.out _ _ trivial (fun hHeld => ?_)
        clear hK9 K9
        try simp only [Act.put, lgA, lgB, lgC, lgD, lgE, lgF]
        refine wpAnyH_ready (rs := [0]) (by kernel_rfl) (by simp) ?_
        refine AllReadyH.cons rfl (fun K9 hK9 => ?_) AllReadyH.nil
        go_simp
        obtain ⟨x3, hX⟩ : ∃ W, W = (x2.alloc (.cells #[.string (ByteArray.mk #[114]), .string (ByteArray.mk #[115]), .string (ByteArray.mk #[116]), .string (ByteArray.mk #[117]), .string (ByteArray.mk #[118])] 9)) := ⟨_, rfl⟩
        rw [← hX]
        have HS : ∃ s : ByteArray, s.size ≤ 5 ∧ x3.cell? ⟨x2.heap.size, kk, none⟩ = some (.string s) := by rw [hX]; exact lit5 x2 hkk
        obtain ⟨nm, hnm, N0⟩ := HS
        have zx3 : Below x2.heap.size x2 x3 := by rw [hX]; exact (Below.refl _ _).alloc (Nat.le_refl _) _
        have sx3 : x2.heap.size + 1 ≤ x3.heap.size := by rw [hX]; simp
        clear hX
        have tx3 := turn_on' tx2 (zx3.mono (by omega))
        have cx3 := cx2.below' zx3 (by omega)
        replace f_0 := bcl zx3 f_0
        replace g_0 := bfr zx3 g_0
        replace f_1 := bcl zx3 f_1
        replace g_1 := bfr zx3 g_1
        replace f_2 := bcl zx3 f_2
        replace g_2 := bfr zx3 g_2
        refine hK9.out _ _ trivial (fun hHeld => ?_)
        clear hK9 K9
        try simp only [Act.put, lgA, lgB, lgC, lgD, lgE, lgF]
        refine wpAnyH_take (i := 2) (v := ?v2_24) rfl (by kernel_rfl) (by kernel_rfl) (by kernel_rfl) (fun _ _ _ h => h) (Or.inl ⟨by rfl, ?hy2_24⟩) (by assumption) ?rest2_24
        case hy2_24 => intro w hSw; (try dsimp only at hSw); go_simp; (try with_reducible rfl)
        try simp only [Act.put, lgA, lgB, lgC, lgD, lgE, lgF]
        refine wpAnyH_ready (rs := [3]) (by kernel_rfl) (by simp) ?_
        refine AllReadyH.cons rfl (fun K9 hK9 => ?_) AllReadyH.nil
        go_simp
        refine hK9.out _ _ trivial (fun hHeld => ?_)
        clear hK9 K9
        try simp only [Act.put, lgA, lgB, lgC, lgD, lgE, lgF]
        refine wpAnyH_take (i := 7) (v := ?v7_25) rfl (by kernel_rfl) (by kernel_rfl) (by kernel_rfl) (fun _ _ _ h => h) (Or.inl ⟨by rfl, ?hy7_25⟩) (by assumption) ?rest7_25
        case hy7_25 => intro w hSw; (try dsimp only at hSw); go_simp; (try with_reducible rfl)
        try simp only [Act.put, lgA, lgB, lgC, lgD, lgE, lgF]
        refine wpAnyH_ready (rs := [9]) (by kernel_rfl) (by simp) ?_
        refine AllReadyH.cons rfl (fun K9 hK9 => ?_) AllReadyH.nil
        go_simp
        obtain ⟨v0, hv0⟩ : ∃ W, W = x3.setCell ⟨wb.heap.size, 0, none⟩ (.string nm) := ⟨_, rfl⟩
        obtain ⟨v1, hv1⟩ : ∃ W, W = v0.setCell ⟨wb.heap.size, 1, none⟩ (.slice none 0 0) := ⟨_, rfl⟩
        obtain ⟨v2, hv2⟩ : ∃ W, W = v1.setCell ⟨wb.heap.size, 2, none⟩ (.int .i64 t) := ⟨_, rfl⟩
        rw [← hv0, ← hv1, ← hv2]
        have zF : Below wb.heap.size x3 v2 := by
          rw [hv2, hv1, hv0]
          repeat (refine Below.setCell ?_ (by simp only []; omega) _)
          exact Below.refl _ _
        have F_0 : v2.cell? ⟨wb.heap.size, 0, none⟩ = some (.string nm) := by rw [hv2, hv1, hv0]; simp [go_sem, f_0, f_1, f_2]
        have F_1 : v2.cell? ⟨wb.heap.size, 1, none⟩ = some (.slice none 0 0) := by rw [hv2, hv1, hv0]; simp [go_sem, f_0, f_1, f_2]
        have F_2 : v2.cell? ⟨wb.heap.size, 2, none⟩ = some (.int .i64 t) := by rw [hv2, hv1, hv0]; simp [go_sem, f_0, f_1, f_2]
        have G_0 : v2.frozen? ⟨wb.heap.size, 0, none⟩ = false := by rw [hv2, hv1, hv0]; simp [go_sem, g_0, g_1, g_2]
        have G_1 : v2.frozen? ⟨wb.heap.size, 1, none⟩ = false := by rw [hv2, hv1, hv0]; simp [go_sem, g_0, g_1, g_2]
        have G_2 : v2.frozen? ⟨wb.heap.size, 2, none⟩ = false := by rw [hv2, hv1, hv0]; simp [go_sem, g_0, g_1, g_2]
        have sF : x3.heap.size ≤ v2.heap.size := by rw [hv2, hv1, hv0]; simp [World.setCell]
        have tF := turn_on' tx3 (zF.mono (by omega))
        have cF := cx3.below' zF (by omega)
        clear hv2 hv1 hv0 f_0 f_1 f_2 g_0 g_1 g_2
        refine hK9.out _ _ trivial (fun hHeld => ?_)
        clear hK9 K9
        try simp only [Act.put, lgA, lgB, lgC, lgD, lgE, lgF]
        refine wpAnyH_done (by kernel_rfl) ?_ _
        refine NoPanic.normal ?_
        go_wp2_with fail
        go_meet
        case rel => exact ⟨wb.heap.size, nm, t, rfl, hnm, ht3, ⟨by omega, by omega⟩, F_0, F_1, F_2, ⟨G_0, G_1, G_2⟩, cF, tF⟩
  case rest =>
    obtain ⟨FB, nm, t, rfl, hnm, ht3, ⟨hF1, hF2⟩, F_0, F_1, F_2, ⟨G_0, G_1, G_2⟩, HC2, TC⟩ := hcut
    have hDS : DS w cb ba bn bc FB wc.heap.size nm none 0 0 [] t wc := ⟨⟨F_0, F_1, F_2⟩, ⟨G_0, G_1, G_2⟩, ⟨tcl TC R_0, tcl TC R_1, tcl TC R_2⟩, ⟨tfr TC R_f0, tfr TC R_f1, tfr TC R_f2⟩, own_nil_S, by omega, HC2, hb4.trans TC⟩
    obtain ⟨lo, hlo⟩ : ∃ q, q = wc.heap.size := ⟨_, rfl⟩
    rw [← hlo] at hDS
    have hm3 : m ≤ 3 := by omega
    have ht64 : I64 t := ⟨by omega, by omega⟩
    have HDS := Lib.hid hDS
    clear F_0 F_1 F_2 G_0 G_1 G_2 HC2 TC hDS HC TB R_0 R_1 R_2 R_f0 R_f1 R_f2 hlo hF1 hF2 hm13 Pk hkk hkI ht3 hwb hcw hb4 ht0
    try clear yx1
    try clear yx3
    try clear zx2
    try clear sF
    try clear zF
    try clear sx3
    try clear zx3
    try clear sx2
    try clear yx2
    try clear sx1
    try clear zx1
    try clear hb4
    try clear s4
    try clear z4
    try clear hb3
    try clear s3
    try clear z2
    try clear hb1
    try clear s1
    try clear z1
    try clear sz
    try clear zz
    go_wp2_with fail
    go_loopw [6] (fun t6 wr => ∃ (i n c : Nat) (b : Option Addr) (xs : List Int), i ≤ m ∧ t6 = .int .i64 (i : Int) ∧ xs.length ≤ i ∧ Hid (DS w cb ba bn bc FB lo nm b n c xs t wr)) (fun t6 _ => m - (intOf t6).toNat)
    case atStart => exact ⟨0, 0, 0, none, [], Nat.zero_le _, rfl, Nat.le_refl _, HDS⟩
    case round =>
      clear HDS
      obtain ⟨i, n, c, b, xs, him, rfl, hxl, HD⟩ := hrel
      obtain ⟨wj, rfl⟩ : ∃ W, W = wr := ⟨_, rfl⟩
      obtain ⟨⟨f0, f1, f2⟩, ⟨g0, g1, g2⟩, _⟩ := HD.out
      have gI := Lib.hid (show FB < lo ∧ lo ≤ wj.heap.size from ⟨HD.out.lims.2.1, HD.out.lims.2.2.1⟩)
      by_cases hi : i < m
      · have hiI : (i : Int) < (m : Int) := by omega
        by_cases hit : (i : Int) = t
        · subst hit
          go_wp2_with fail
          go_roundw
          case rel => exact ⟨i + 1, n, c, b, xs, by omega, by go_num, by omega, HD⟩
          case measure => simp [intOf]; omega
        · have hne : ((i : Int) == t) = false := by rw [beq_eq_false_iff_ne]; exact hit
          have hne2 : ((i : Int) != t) = true := by rw [bne, hne]; rfl
          have HON := Lib.hid (l1Once_any wj cb ba bn bc 2 (by omega) HD.out.cur)
          go_wp2_with fail
          refine HON.out.mono ?_
          rintro e w1 ⟨u, rfl, hc1, hk1⟩
          have HD1 := Lib.hid (HD.out.turn hk1.turn hc1)
          clear HON hc1 hk1 f0 f1 f2 g0 g1 g2
          obtain ⟨⟨f0, f1, f2⟩, ⟨g0, g1, g2⟩, _⟩ := HD1.out
          cases u with
          | false =>
            go_wp2_with fail
            go_roundw
            case rel => exact ⟨i + 1, n, c, b, xs, by omega, by go_num, by omega, HD1⟩
            case measure => simp [intOf]; omega
          | true =>
            have hl := HD1.out.lims
            obtain ⟨na, nn, nc, wn, hrn, on, hbn, hzn⟩ := own_num 27 HD1.out.own (r := (i : Int)) ⟨by omega, by omega⟩ (Nat.le_refl _) (by omega) (by omega) rfl
            have HDN := Lib.hid (HD1.out.put hbn on)
            have f1n := bcl hbn f1
            have g1n := bfr hbn g1
            clear f0 f2 g0 g1 g2 hl on hbn hzn
            go_wp2_with ((at_builtin; refine wpList_app_run hrn rfl rfl rfl rfl rfl ?_))
            go_roundw
            case rel => exact ⟨i + 1, nn, nc, na, xs ++ [(i : Int)], by omega, by go_num, by rw [List.length_append]; simp; omega, HDN⟩
            case measure => simp [intOf]; omega
      · have hiI : ¬ (i : Int) < (m : Int) := by omega
        have HON := Lib.hid (l1Once_any wj cb ba bn bc 14 (by omega) HD.out.cur)
        go_wp2_with fail
        refine HON.out.mono ?_
        rintro e w1 ⟨u, rfl, hc1, hk1⟩
        have HD1 := Lib.hid (HD.out.turn hk1.turn hc1)
        clear HON hc1 hk1 f0 f1 f2 g0 g1 g2 HD gI
        have hx3 : xs.length ≤ 3 := by omega
        cases u with
        | false =>
          obtain ⟨wa, rfl⟩ : ∃ W, W = w1 := ⟨_, rfl⟩
          obtain ⟨tt, htt64, HDT⟩ : ∃ tt, I64 tt ∧ Hid (DS w cb ba bn bc FB lo nm b n c xs tt wa) := ⟨t, ht64, HD1⟩
          clear HD1 ht64
          have HON3 := Lib.hid (l1Once_any wa cb ba bn bc 16 (by omega) HDT.out.cur)
          go_wp2_with fail
          refine HON3.out.mono ?_
          rintro e w3 ⟨u3, rfl, hc3, hk3⟩
          have HD3 := Lib.hid (HDT.out.turn hk3.turn hc3)
          clear HON3 hc3 hk3 HDT
          have hl := HD3.out.lims
          cases u3 with
          | false =>
            obtain ⟨⟨f0, f1, f2⟩, ⟨g0, g1, g2⟩, ⟨r0, r1, r2⟩, ⟨s0, s1, s2⟩, _⟩ := HD3.out
            have HFIN := Lib.hid (HD3.out.fin hnm (by omega) htt64)
            clear HD3
            go_wp2_with fail
            refine bodyPost_ret (v := .agg #[.string nm, .slice b n c, .int .i64 tt]) (by simp [results, Tryz.results27, go_sem, r0, r1, r2, s0, s1, s2]) rfl HFIN.out
          | true =>
            obtain ⟨f1, e1⟩ : ∃ (h : w3.cell? ⟨FB, 1, none⟩ = some (.slice b n c)), True := ⟨HD3.out.1.2.1, trivial⟩
            clear e1
            go_wp2_with fail
            have hdr : Below w3.heap.size w3 w3.drew := (Below.refl _ _).drew
            refine wp_region_noPanic ?_
            refine wp_region_held_drew (S := (fun W => True)) (by kernel_rfl) ?hS26 (fun hHeld => ?_)
            case hS26 => trivial
            refine wpAnyH_take (i := 0) (v := ?v0_27) rfl (by kernel_rfl) (by kernel_rfl) (by kernel_rfl) (fun _ _ _ h => h) (Or.inl ⟨by rfl, ?hy0_27⟩) (by assumption) ?rest0_27
            case hy0_27 => intro w hSw; (try dsimp only at hSw); go_simp; (try with_reducible rfl)
            try simp only [Act.put, lgA, lgB, lgC, lgD, lgE, lgF]
            refine wpAnyH_take (i := 2) (v := ?v2_28) rfl (by kernel_rfl) (by kernel_rfl) (by kernel_rfl) (fun _ _ _ h => h) (Or.inl ⟨by rfl, ?hy2_28⟩) (by assumption) ?rest2_28
            case hy2_28 => intro w hSw; (try dsimp only at hSw); go_simp; (try with_reducible rfl)
            try simp only [Act.put, lgA, lgB, lgC, lgD, lgE, lgF]
            refine wpAnyH_ready (rs := [1, 3]) (by kernel_rfl) (by simp) ?_
            refine AllReadyH.cons rfl (fun K9 hK9 => ?_) (AllReadyH.cons rfl (fun K9 hK9 => ?_) AllReadyH.nil)
            · skip
              go_simp
              refine hK9.out _ _ trivial (fun hHeld => ?_)
              clear hK9 K9
              try simp only [Act.put, lgA, lgB, lgC, lgD, lgE, lgF]
              refine wpAnyH_ready (rs := [3]) (by kernel_rfl) (by simp) ?_
              refine AllReadyH.cons rfl (fun K9 hK9 => ?_) AllReadyH.nil
              go_simp
              have h4 := ints_litD w3 [-1, 0, 3, 9223372036854775807] (i64_litsD (by decide)) (by simp)
              obtain ⟨y1, hX⟩ : ∃ W, W = (w3.alloc (.cells #[.int .i64 (-1), .int .i64 0, .int .i64 3, .int .i64 9223372036854775807] 3)).drew := ⟨_, rfl⟩
              rw [← hX]
              have z1 : Below w3.heap.size w3 y1 := by rw [hX]; exact ((Below.refl _ _).alloc (Nat.le_refl _) _).drew
              replace h4 : Ints y1 (some ⟨w3.heap.size, 0, none⟩) 4 [-1, 0, 3, 9223372036854775807] := by rw [hX]; exact h4.below ((Below.refl _ _).drew)
              clear hX
              have HD4 := Lib.hid (HD3.out.below z1)
              replace f1 := HD4.out.1.2.1
              clear HD3 z1
              refine hK9.out _ _ trivial (fun hHeld => ?_)
              clear hK9 K9
              try simp only [Act.put, lgA, lgB, lgC, lgD, lgE, lgF]
              refine wpAnyH_ready (rs := [4]) (by kernel_rfl) (by simp) ?_
              refine AllReadyH.cons rfl (fun K9 hK9 => ?_) AllReadyH.nil
              go_simp
              refine (l1PickInt_any y1 cb ba bn bc w3.heap.size 4 4 [-1, 0, 3, 9223372036854775807] (by omega) (by omega) h4 (by omega) HD4.out.cur).mono ?_
              rintro e y2 ⟨y, rfl, hy, hc4, hk4⟩
              have hy64 : I64 y := i64_litsD (by decide) y hy
              have HD5 := Lib.hid (HD4.out.turn hk4.turn hc4)
              replace f1 := HD5.out.1.2.1
              clear HD4 hc4 hk4 hy h4
              refine hK9.out _ _ trivial (fun hHeld => ?_)
              clear hK9 K9
              try simp only [Act.put, lgA, lgB, lgC, lgD, lgE, lgF]
              refine wpAnyH_ready (rs := [5]) (by kernel_rfl) (by simp) ?_
              refine AllReadyH.cons rfl (fun K9 hK9 => ?_) AllReadyH.nil
              go_simp
              have hl5 := HD5.out.lims
              obtain ⟨na, nn, nc, wn, hrn, on, hbn, hzn⟩ := own_num 27 HD5.out.own hy64 (Nat.le_refl _) (by omega) (by omega) rfl
              obtain ⟨y3, hX⟩ : ∃ W, W = y2.alloc (.cells #[.int .i64 y] 3) := ⟨_, rfl⟩
              have z3 : Below y2.heap.size y2 y3 := by rw [hX]; exact (Below.refl _ _).alloc (Nat.le_refl _) _
              rw [← hX] at hrn ⊢
              have g1n := bfr hbn HD5.out.2.1.2.1
              have f1n := bcl hbn f1
              replace f1 := bcl z3 f1
              have HDP := Lib.hid (HD5.out.put hbn on)
              have hxl5 : (xs ++ [y]).length ≤ 4 := by rw [List.length_append]; simp; omega
              clear hX z3 hbn on hzn HD5 hy64 hl5
              refine hK9.out _ _ trivial (fun hHeld => ?_)
              clear hK9 K9
              try simp only [Act.put, lgA, lgB, lgC, lgD, lgE, lgF]
              refine wpAnyH_ready (rs := [6]) (by kernel_rfl) (by simp) ?_
              refine AllReadyH.cons rfl (fun K9 hK9 => ?_) AllReadyH.nil
              refine step_appD hrn rfl rfl rfl rfl rfl ?_
              clear f1
              refine hK9.out _ _ trivial (fun hHeld => ?_)
              clear hK9 K9
              try simp only [Act.put, lgA, lgB, lgC, lgD, lgE, lgF]
              refine wpAnyH_take (i := 7) (v := ?v7_29) rfl (by kernel_rfl) (by kernel_rfl) (by kernel_rfl) (fun _ _ _ h => h) (Or.inl ⟨by rfl, ?hy7_29⟩) (by assumption) ?rest7_29
              case hy7_29 => intro w hSw; (try dsimp only at hSw); go_simp; (try with_reducible rfl)
              try simp only [Act.put, lgA, lgB, lgC, lgD, lgE, lgF]
              refine wpAnyH_ready (rs := [8]) (by kernel_rfl) (by simp) ?_
              refine AllReadyH.cons rfl (fun K9 hK9 => ?_) AllReadyH.nil
              go_simp
              clear f1n g1n hrn
              obtain ⟨wz, hwz⟩ : ∃ W, W = wn.setCell ⟨FB, 1, none⟩ (.slice na nn nc) := ⟨_, rfl⟩
              rw [← hwz] at HDP ⊢
              clear hwz
              obtain ⟨zs, hzs⟩ : ∃ q, q = xs ++ [y] := ⟨_, rfl⟩
              rw [← hzs] at HDP hxl5
              clear hzs
              obtain ⟨⟨f0, f1, f2⟩, ⟨g0, g1, g2⟩, ⟨r0, r1, r2⟩, ⟨s0, s1, s2⟩, _⟩ := HDP.out
              have HFIN := Lib.hid (HDP.out.fin hnm hxl5 htt64)
              clear HDP
              refine hK9.out _ _ trivial (fun hHeld => ?_)
              clear hK9 K9
              try simp only [Act.put, lgA, lgB, lgC, lgD, lgE, lgF]
              refine wpAnyH_done (by kernel_rfl) ?_ _
              refine NoPanic.normal ?_
              go_wp2_with fail
              refine bodyPost_ret (v := .agg #[.string nm, .slice na nn nc, .int .i64 tt]) (by simp [results, Tryz.results27, go_sem, r0, r1, r2, s0, s1, s2]) rfl HFIN.out
            · skip
              go_simp
              have h4 := ints_litD w3 [-1, 0, 3, 9223372036854775807] (i64_litsD (by decide)) (by simp)
              obtain ⟨y1, hX⟩ : ∃ W, W = (w3.alloc (.cells #[.int .i64 (-1), .int .i64 0, .int .i64 3, .int .i64 9223372036854775807] 3)).drew := ⟨_, rfl⟩
              rw [← hX]
              have z1 : Below w3.heap.size w3 y1 := by rw [hX]; exact ((Below.refl _ _).alloc (Nat.le_refl _) _).drew
              replace h4 : Ints y1 (some ⟨w3.heap.size, 0, none⟩) 4 [-1, 0, 3, 9223372036854775807] := by rw [hX]; exact h4.below ((Below.refl _ _).drew)
              clear hX
              have HD4 := Lib.hid (HD3.out.below z1)
              replace f1 := HD4.out.1.2.1
              clear HD3 z1
              refine hK9.out _ _ trivial (fun hHeld => ?_)
              clear hK9 K9
              try simp only [Act.put, lgA, lgB, lgC, lgD, lgE, lgF]
              refine wpAnyH_ready (rs := [1, 4]) (by kernel_rfl) (by simp) ?_
              refine AllReadyH.cons rfl (fun K9 hK9 => ?_) (AllReadyH.cons rfl (fun K9 hK9 => ?_) AllReadyH.nil)
              · skip
                go_simp
                refine hK9.out _ _ trivial (fun hHeld => ?_)
                clear hK9 K9
                try simp only [Act.put, lgA, lgB, lgC, lgD, lgE, lgF]
                refine wpAnyH_ready (rs := [4]) (by kernel_rfl) (by simp) ?_
                refine AllReadyH.cons rfl (fun K9 hK9 => ?_) AllReadyH.nil
                go_simp
                refine (l1PickInt_any y1 cb ba bn bc w3.heap.size 4 4 [-1, 0, 3, 9223372036854775807] (by omega) (by omega) h4 (by omega) HD4.out.cur).mono ?_
                rintro e y2 ⟨y, rfl, hy, hc4, hk4⟩
                have hy64 : I64 y := i64_litsD (by decide) y hy
                have HD5 := Lib.hid (HD4.out.turn hk4.turn hc4)
                replace f1 := HD5.out.1.2.1
                clear HD4 hc4 hk4 hy h4
                refine hK9.out _ _ trivial (fun hHeld => ?_)
                clear hK9 K9
                try simp only [Act.put, lgA, lgB, lgC, lgD, lgE, lgF]
                refine wpAnyH_ready (rs := [5]) (by kernel_rfl) (by simp) ?_
                refine AllReadyH.cons rfl (fun K9 hK9 => ?_) AllReadyH.nil
                go_simp
                have hl5 := HD5.out.lims
                obtain ⟨na, nn, nc, wn, hrn, on, hbn, hzn⟩ := own_num 27 HD5.out.own hy64 (Nat.le_refl _) (by omega) (by omega) rfl
                obtain ⟨y3, hX⟩ : ∃ W, W = y2.alloc (.cells #[.int .i64 y] 3) := ⟨_, rfl⟩
                have z3 : Below y2.heap.size y2 y3 := by rw [hX]; exact (Below.refl _ _).alloc (Nat.le_refl _) _
                rw [← hX] at hrn ⊢
                have g1n := bfr hbn HD5.out.2.1.2.1
                have f1n := bcl hbn f1
                replace f1 := bcl z3 f1
                have HDP := Lib.hid (HD5.out.put hbn on)
                have hxl5 : (xs ++ [y]).length ≤ 4 := by rw [List.length_append]; simp; omega
                clear hX z3 hbn on hzn HD5 hy64 hl5
                refine hK9.out _ _ trivial (fun hHeld => ?_)
                clear hK9 K9
                try simp only [Act.put, lgA, lgB, lgC, lgD, lgE, lgF]
                refine wpAnyH_ready (rs := [6]) (by kernel_rfl) (by simp) ?_
                refine AllReadyH.cons rfl (fun K9 hK9 => ?_) AllReadyH.nil
                refine step_appD hrn rfl rfl rfl rfl rfl ?_
                clear f1
                refine hK9.out _ _ trivial (fun hHeld => ?_)
                clear hK9 K9
                try simp only [Act.put, lgA, lgB, lgC, lgD, lgE, lgF]
                refine wpAnyH_take (i := 7) (v := ?v7_30) rfl (by kernel_rfl) (by kernel_rfl) (by kernel_rfl) (fun _ _ _ h => h) (Or.inl ⟨by rfl, ?hy7_30⟩) (by assumption) ?rest7_30
                case hy7_30 => intro w hSw; (try dsimp only at hSw); go_simp; (try with_reducible rfl)
                try simp only [Act.put, lgA, lgB, lgC, lgD, lgE, lgF]
                refine wpAnyH_ready (rs := [8]) (by kernel_rfl) (by simp) ?_
                refine AllReadyH.cons rfl (fun K9 hK9 => ?_) AllReadyH.nil
                go_simp
                clear f1n g1n hrn
                obtain ⟨wz, hwz⟩ : ∃ W, W = wn.setCell ⟨FB, 1, none⟩ (.slice na nn nc) := ⟨_, rfl⟩
                rw [← hwz] at HDP ⊢
                clear hwz
                obtain ⟨zs, hzs⟩ : ∃ q, q = xs ++ [y] := ⟨_, rfl⟩
                rw [← hzs] at HDP hxl5
                clear hzs
                obtain ⟨⟨f0, f1, f2⟩, ⟨g0, g1, g2⟩, ⟨r0, r1, r2⟩, ⟨s0, s1, s2⟩, _⟩ := HDP.out
                have HFIN := Lib.hid (HDP.out.fin hnm hxl5 htt64)
                clear HDP
                refine hK9.out _ _ trivial (fun hHeld => ?_)
                clear hK9 K9
                try simp only [Act.put, lgA, lgB, lgC, lgD, lgE, lgF]
                refine wpAnyH_done (by kernel_rfl) ?_ _
                refine NoPanic.normal ?_
                go_wp2_with fail
                refine bodyPost_ret (v := .agg #[.string nm, .slice na nn nc, .int .i64 tt]) (by simp [results, Tryz.results27, go_sem, r0, r1, r2, s0, s1, s2]) rfl HFIN.out
              · skip
                go_simp
                refine (l1PickInt_any y1 cb ba bn bc w3.heap.size 4 4 [-1, 0, 3, 9223372036854775807] (by omega) (by omega) h4 (by omega) HD4.out.cur).mono ?_
                rintro e y2 ⟨y, rfl, hy, hc4, hk4⟩
                have hy64 : I64 y := i64_litsD (by decide) y hy
                have HD5 := Lib.hid (HD4.out.turn hk4.turn hc4)
                replace f1 := HD5.out.1.2.1
                clear HD4 hc4 hk4 hy h4
                refine hK9.out _ _ trivial (fun hHeld => ?_)
                clear hK9 K9
                try simp only [Act.put, lgA, lgB, lgC, lgD, lgE, lgF]
                refine wpAnyH_ready (rs := [1, 5]) (by kernel_rfl) (by simp) ?_
                refine AllReadyH.cons rfl (fun K9 hK9 => ?_) (AllReadyH.cons rfl (fun K9 hK9 => ?_) AllReadyH.nil)
                · skip
                  go_simp
                  refine hK9.out _ _ trivial (fun hHeld => ?_)
                  clear hK9 K9
                  try simp only [Act.put, lgA, lgB, lgC, lgD, lgE, lgF]
                  refine wpAnyH_ready (rs := [5]) (by kernel_rfl) (by simp) ?_
                  refine AllReadyH.cons rfl (fun K9 hK9 => ?_) AllReadyH.nil
                  go_simp
                  have hl5 := HD5.out.lims
                  obtain ⟨na, nn, nc, wn, hrn, on, hbn, hzn⟩ := own_num 27 HD5.out.own hy64 (Nat.le_refl _) (by omega) (by omega) rfl
                  obtain ⟨y3, hX⟩ : ∃ W, W = y2.alloc (.cells #[.int .i64 y] 3) := ⟨_, rfl⟩
                  have z3 : Below y2.heap.size y2 y3 := by rw [hX]; exact (Below.refl _ _).alloc (Nat.le_refl _) _
                  rw [← hX] at hrn ⊢
                  have g1n := bfr hbn HD5.out.2.1.2.1
                  have f1n := bcl hbn f1
                  replace f1 := bcl z3 f1
                  have HDP := Lib.hid (HD5.out.put hbn on)
                  have hxl5 : (xs ++ [y]).length ≤ 4 := by rw [List.length_append]; simp; omega
                  clear hX z3 hbn on hzn HD5 hy64 hl5
                  refine hK9.out _ _ trivial (fun hHeld => ?_)
                  clear hK9 K9
                  try simp only [Act.put, lgA, lgB, lgC, lgD, lgE, lgF]
                  refine wpAnyH_ready (rs := [6]) (by kernel_rfl) (by simp) ?_
                  refine AllReadyH.cons rfl (fun K9 hK9 => ?_) AllReadyH.nil
                  refine step_appD hrn rfl rfl rfl rfl rfl ?_
                  clear f1
                  refine hK9.out _ _ trivial (fun hHeld => ?_)
                  clear hK9 K9
                  try simp only [Act.put, lgA, lgB, lgC, lgD, lgE, lgF]
                  refine wpAnyH_take (i := 7) (v := ?v7_31) rfl (by kernel_rfl) (by kernel_rfl) (by kernel_rfl) (fun _ _ _ h => h) (Or.inl ⟨by rfl, ?hy7_31⟩) (by assumption) ?rest7_31
                  case hy7_31 => intro w hSw; (try dsimp only at hSw); go_simp; (try with_reducible rfl)
                  try simp only [Act.put, lgA, lgB, lgC, lgD, lgE, lgF]
                  refine wpAnyH_ready (rs := [8]) (by kernel_rfl) (by simp) ?_
                  refine AllReadyH.cons rfl (fun K9 hK9 => ?_) AllReadyH.nil
                  go_simp
                  clear f1n g1n hrn
                  obtain ⟨wz, hwz⟩ : ∃ W, W = wn.setCell ⟨FB, 1, none⟩ (.slice na nn nc) := ⟨_, rfl⟩
                  rw [← hwz] at HDP ⊢
                  clear hwz
                  obtain ⟨zs, hzs⟩ : ∃ q, q = xs ++ [y] := ⟨_, rfl⟩
                  rw [← hzs] at HDP hxl5
                  clear hzs
                  obtain ⟨⟨f0, f1, f2⟩, ⟨g0, g1, g2⟩, ⟨r0, r1, r2⟩, ⟨s0, s1, s2⟩, _⟩ := HDP.out
                  have HFIN := Lib.hid (HDP.out.fin hnm hxl5 htt64)
                  clear HDP
                  refine hK9.out _ _ trivial (fun hHeld => ?_)
                  clear hK9 K9
                  try simp only [Act.put, lgA, lgB, lgC, lgD, lgE, lgF]
                  refine wpAnyH_done (by kernel_rfl) ?_ _
                  refine NoPanic.normal ?_
                  go_wp2_with fail
                  refine bodyPost_ret (v := .agg #[.string nm, .slice na nn nc, .int .i64 tt]) (by simp [results, Tryz.results27, go_sem, r0, r1, r2, s0, s1, s2]) rfl HFIN.out
                · skip
                  go_simp
                  have hl5 := HD5.out.lims
                  obtain ⟨na, nn, nc, wn, hrn, on, hbn, hzn⟩ := own_num 27 HD5.out.own hy64 (Nat.le_refl _) (by omega) (by omega) rfl
                  obtain ⟨y3, hX⟩ : ∃ W, W = y2.alloc (.cells #[.int .i64 y] 3) := ⟨_, rfl⟩
                  have z3 : Below y2.heap.size y2 y3 := by rw [hX]; exact (Below.refl _ _).alloc (Nat.le_refl _) _
                  rw [← hX] at hrn ⊢
                  have g1n := bfr hbn HD5.out.2.1.2.1
                  have f1n := bcl hbn f1
                  replace f1 := bcl z3 f1
                  have HDP := Lib.hid (HD5.out.put hbn on)
                  have hxl5 : (xs ++ [y]).length ≤ 4 := by rw [List.length_append]; simp; omega
                  clear hX z3 hbn on hzn HD5 hy64 hl5
                  refine hK9.out _ _ trivial (fun hHeld => ?_)
                  clear hK9 K9
                  try simp only [Act.put, lgA, lgB, lgC, lgD, lgE, lgF]
                  refine wpAnyH_ready (rs := [1]) (by kernel_rfl) (by simp) ?_
                  refine AllReadyH.cons rfl (fun K9 hK9 => ?_) AllReadyH.nil
                  go_simp
                  refine hK9.out _ _ trivial (fun hHeld => ?_)
                  clear hK9 K9
                  try simp only [Act.put, lgA, lgB, lgC, lgD, lgE, lgF]
                  refine wpAnyH_ready (rs := [6]) (by kernel_rfl) (by simp) ?_
                  refine AllReadyH.cons rfl (fun K9 hK9 => ?_) AllReadyH.nil
                  refine step_appD hrn rfl rfl rfl rfl rfl ?_
                  clear f1
                  refine hK9.out _ _ trivial (fun hHeld => ?_)
                  clear hK9 K9
                  try simp only [Act.put, lgA, lgB, lgC, lgD, lgE, lgF]
                  refine wpAnyH_take (i := 7) (v := ?v7_32) rfl (by kernel_rfl) (by kernel_rfl) (by kernel_rfl) (fun _ _ _ h => h) (Or.inl ⟨by rfl, ?hy7_32⟩) (by assumption) ?rest7_32
                  case hy7_32 => intro w hSw; (try dsimp only at hSw); go_simp; (try with_reducible rfl)
                  try simp only [Act.put, lgA, lgB, lgC, lgD, lgE, lgF]
                  refine wpAnyH_ready (rs := [8]) (by kernel_rfl) (by simp) ?_
                  refine AllReadyH.cons rfl (fun K9 hK9 => ?_) AllReadyH.nil
                  go_simp
                  clear f1n g1n hrn
                  obtain ⟨wz, hwz⟩ : ∃ W, W = wn.setCell ⟨FB, 1, none⟩ (.slice na nn nc) := ⟨_, rfl⟩
                  rw [← hwz] at HDP ⊢
                  clear hwz
                  obtain ⟨zs, hzs⟩ : ∃ q, q = xs ++ [y] := ⟨_, rfl⟩
                  rw [← hzs] at HDP hxl5
                  clear hzs
                  obtain ⟨⟨f0, f1, f2⟩, ⟨g0, g1, g2⟩, ⟨r0, r1, r2⟩, ⟨s0, s1, s2⟩, _⟩ := HDP.out
                  have HFIN := Lib.hid (HDP.out.fin hnm hxl5 htt64)
                  clear HDP
                  refine hK9.out _ _ trivial (fun hHeld => ?_)
                  clear hK9 K9
                  try simp only [Act.put, lgA, lgB, lgC, lgD, lgE, lgF]
                  refine wpAnyH_done (by kernel_rfl) ?_ _
                  refine NoPanic.normal ?_
                  go_wp2_with fail
                  refine bodyPost_ret (v := .agg #[.string nm, .slice na nn nc, .int .i64 tt]) (by simp [results, Tryz.results27, go_sem, r0, r1, r2, s0, s1, s2]) rfl HFIN.out
        | true =>
          obtain ⟨⟨f0, f1, f2⟩, ⟨g0, g1, g2⟩, _⟩ := HD1.out
          have hl := HD1.out.lims
          have h2 := ints_litD w1 [-1, 3, 0] (i64_litsD (by decide)) (by simp)
          obtain ⟨wL, hwL⟩ : ∃ W, W = w1.alloc (.cells #[.int .i64 (-1), .int .i64 3, .int .i64 0] 3) := ⟨_, rfl⟩
          have zL : Below w1.heap.size w1 wL := by rw [hwL]; exact (Below.refl _ _).alloc (Nat.le_refl _) _
          replace h2 : Ints wL (some ⟨w1.heap.size, 0, none⟩) 3 [-1, 3, 0] := by rw [hwL]; exact h2
          have HDL := Lib.hid (HD1.out.below zL)
          have HPI := Lib.hid (l1PickInt_any wL cb ba bn bc w1.heap.size 3 3 [-1, 3, 0] (by omega) (by omega) h2 (by omega) HDL.out.cur)
          clear f0 f1 f2 g0 g1 g2 hl h2 zL HD1
          go_wp2_with fail
          rw [← hwL]
          clear hwL
          refine HPI.out.mono ?_
          rintro e w2 ⟨y, rfl, hy, hc2, hk2⟩
          have hy64 : I64 y := i64_litsD (by decide) y hy
          have HD2 := Lib.hid (HDL.out.turn hk2.turn hc2)
          clear HPI HDL hc2 hk2 hy
          obtain ⟨⟨f0, f1, f2⟩, ⟨g0, g1, g2⟩, _⟩ := HD2.out
          have HDT := Lib.hid (HD2.out.to (t' := y))
          clear HD2 f0 f1 g0 g1 ht64
          obtain ⟨wa, hwS⟩ : ∃ W, W = w2.setCell ⟨FB, 2, none⟩ (.int .i64 y) := ⟨_, rfl⟩
          rw [← hwS] at HDT
          have HON3 := Lib.hid (l1Once_any wa cb ba bn bc 16 (by omega) HDT.out.cur)
          obtain ⟨tt, htt⟩ : ∃ q, q = y := ⟨_, rfl⟩
          have htt64 : I64 tt := by rw [htt]; exact hy64
          rw [← htt] at HDT
          clear hy64
          go_wp2_with fail
          rw [← hwS]
          clear hwS f2 g2 htt
          refine HON3.out.mono ?_
          rintro e w3 ⟨u3, rfl, hc3, hk3⟩
          have HD3 := Lib.hid (HDT.out.turn hk3.turn hc3)
          clear HON3 hc3 hk3 HDT
          have hl := HD3.out.lims
          cases u3 with
          | false =>
            obtain ⟨⟨f0, f1, f2⟩, ⟨g0, g1, g2⟩, ⟨r0, r1, r2⟩, ⟨s0, s1, s2⟩, _⟩ := HD3.out
            have HFIN := Lib.hid (HD3.out.fin hnm (by omega) htt64)
            clear HD3
            go_wp2_with fail
            refine bodyPost_ret (v := .agg #[.string nm, .slice b n c, .int .i64 tt]) (by simp [results, Tryz.results27, go_sem, r0, r1, r2, s0, s1, s2]) rfl HFIN.out
          | true =>
            obtain ⟨f1, e1⟩ : ∃ (h : w3.cell? ⟨FB, 1, none⟩ = some (.slice b n c)), True := ⟨HD3.out.1.2.1, trivial⟩
            clear e1
            go_wp2_with fail
            have hdr : Below w3.heap.size w3 w3.drew := (Below.refl _ _).drew
            refine wp_region_noPanic ?_
            refine wp_region_held_drew (S := (fun W => True)) (by kernel_rfl) ?hS33 (fun hHeld => ?_)
            case hS33 => trivial
            refine wpAnyH_take (i := 0) (v := ?v0_34) rfl (by kernel_rfl) (by kernel_rfl) (by kernel_rfl) (fun _ _ _ h => h) (Or.inl ⟨by rfl, ?hy0_34⟩) (by assumption) ?rest0_34
            case hy0_34 => intro w hSw; (try dsimp only at hSw); go_simp; (try with_reducible rfl)
            try simp only [Act.put, lgA, lgB, lgC, lgD, lgE, lgF]
            refine wpAnyH_take (i := 2) (v := ?v2_35) rfl (by kernel_rfl) (by kernel_rfl) (by kernel_rfl) (fun _ _ _ h => h) (Or.inl ⟨by rfl, ?hy2_35⟩) (by assumption) ?rest2_35
            case hy2_35 => intro w hSw; (try dsimp only at hSw); go_simp; (try with_reducible rfl)
            try simp only [Act.put, lgA, lgB, lgC, lgD, lgE, lgF]
            refine wpAnyH_ready (rs := [1, 3]) (by kernel_rfl) (by simp) ?_
            refine AllReadyH.cons rfl (fun K9 hK9 => ?_) (AllReadyH.cons rfl (fun K9 hK9 => ?_) AllReadyH.nil)
            · skip
              go_simp
              refine hK9.out _ _ trivial (fun hHeld => ?_)
              clear hK9 K9
              try simp only [Act.put, lgA, lgB, lgC, lgD, lgE, lgF]
              refine wpAnyH_ready (rs := [3]) (by kernel_rfl) (by simp) ?_
              refine AllReadyH.cons rfl (fun K9 hK9 => ?_) AllReadyH.nil
              go_simp
              have h4 := ints_litD w3 [-1, 0, 3, 9223372036854775807] (i64_litsD (by decide)) (by simp)
              obtain ⟨y1, hX⟩ : ∃ W, W = (w3.alloc (.cells #[.int .i64 (-1), .int .i64 0, .int .i64 3, .int .i64 9223372036854775807] 3)).drew := ⟨_, rfl⟩
              rw [← hX]
              have z1 : Below w3.heap.size w3 y1 := by rw [hX]; exact ((Below.refl _ _).alloc (Nat.le_refl _) _).drew
              replace h4 : Ints y1 (some ⟨w3.heap.size, 0, none⟩) 4 [-1, 0, 3, 9223372036854775807] := by rw [hX]; exact h4.below ((Below.refl _ _).drew)
              clear hX
              have HD4 := Lib.hid (HD3.out.below z1)
              replace f1 := HD4.out.1.2.1
              clear HD3 z1
              refine hK9.out _ _ trivial (fun hHeld => ?_)
              clear hK9 K9
              try simp only [Act.put, lgA, lgB, lgC, lgD, lgE, lgF]
              refine wpAnyH_ready (rs := [4]) (by kernel_rfl) (by simp) ?_
              refine AllReadyH.cons rfl (fun K9 hK9 => ?_) AllReadyH.nil
              go_simp
              refine (l1PickInt_any y1 cb ba bn bc w3.heap.size 4 4 [-1, 0, 3, 9223372036854775807] (by omega) (by omega) h4 (by omega) HD4.out.cur).mono ?_
              rintro e y2 ⟨y, rfl, hy, hc4, hk4⟩
              have hy64 : I64 y := i64_litsD (by decide) y hy
              have HD5 := Lib.hid (HD4.out.turn hk4.turn hc4)
              replace f1 := HD5.out.1.2.1
              clear HD4 hc4 hk4 hy h4
              refine hK9.out _ _ trivial (fun hHeld => ?_)
              clear hK9 K9
              try simp only [Act.put, lgA, lgB, lgC, lgD, lgE, lgF]
              refine wpAnyH_ready (rs := [5]) (by kernel_rfl) (by simp) ?_
              refine AllReadyH.cons rfl (fun K9 hK9 => ?_) AllReadyH.nil
              go_simp
              have hl5 := HD5.out.lims
              obtain ⟨na, nn, nc, wn, hrn, on, hbn, hzn⟩ := own_num 27 HD5.out.own hy64 (Nat.le_refl _) (by omega) (by omega) rfl
              obtain ⟨y3, hX⟩ : ∃ W, W = y2.alloc (.cells #[.int .i64 y] 3) := ⟨_, rfl⟩
              have z3 : Below y2.heap.size y2 y3 := by rw [hX]; exact (Below.refl _ _).alloc (Nat.le_refl _) _
              rw [← hX] at hrn ⊢
              have g1n := bfr hbn HD5.out.2.1.2.1
              have f1n := bcl hbn f1
              replace f1 := bcl z3 f1
              have HDP := Lib.hid (HD5.out.put hbn on)
              have hxl5 : (xs ++ [y]).length ≤ 4 := by rw [List.length_append]; simp; omega
              clear hX z3 hbn on hzn HD5 hy64 hl5
              refine hK9.out _ _ trivial (fun hHeld => ?_)
              clear hK9 K9
              try simp only [Act.put, lgA, lgB, lgC, lgD, lgE, lgF]
              refine wpAnyH_ready (rs := [6]) (by kernel_rfl) (by simp) ?_
              refine AllReadyH.cons rfl (fun K9 hK9 => ?_) AllReadyH.nil
              refine step_appD hrn rfl rfl rfl rfl rfl ?_
              clear f1
              refine hK9.out _ _ trivial (fun hHeld => ?_)
              clear hK9 K9
              try simp only [Act.put, lgA, lgB, lgC, lgD, lgE, lgF]
              refine wpAnyH_take (i := 7) (v := ?v7_36) rfl (by kernel_rfl) (by kernel_rfl) (by kernel_rfl) (fun _ _ _ h => h) (Or.inl ⟨by rfl, ?hy7_36⟩) (by assumption) ?rest7_36
              case hy7_36 => intro w hSw; (try dsimp only at hSw); go_simp; (try with_reducible rfl)
              try simp only [Act.put, lgA, lgB, lgC, lgD, lgE, lgF]
              refine wpAnyH_ready (rs := [8]) (by kernel_rfl) (by simp) ?_
              refine AllReadyH.cons rfl (fun K9 hK9 => ?_) AllReadyH.nil
              go_simp
              clear f1n g1n hrn
              obtain ⟨wz, hwz⟩ : ∃ W, W = wn.setCell ⟨FB, 1, none⟩ (.slice na nn nc) := ⟨_, rfl⟩
              rw [← hwz] at HDP ⊢
              clear hwz
              obtain ⟨zs, hzs⟩ : ∃ q, q = xs ++ [y] := ⟨_, rfl⟩
              rw [← hzs] at HDP hxl5
              clear hzs
              obtain ⟨⟨f0, f1, f2⟩, ⟨g0, g1, g2⟩, ⟨r0, r1, r2⟩, ⟨s0, s1, s2⟩, _⟩ := HDP.out
              have HFIN := Lib.hid (HDP.out.fin hnm hxl5 htt64)
              clear HDP
              refine hK9.out _ _ trivial (fun hHeld => ?_)
              clear hK9 K9
              try simp only [Act.put, lgA, lgB, lgC, lgD, lgE, lgF]
              refine wpAnyH_done (by kernel_rfl) ?_ _
              refine NoPanic.normal ?_
              go_wp2_with fail
              refine bodyPost_ret (v := .agg #[.string nm, .slice na nn nc, .int .i64 tt]) (by simp [results, Tryz.results27, go_sem, r0, r1, r2, s0, s1, s2]) rfl HFIN.out
            · skip
              go_simp
              have h4 := ints_litD w3 [-1, 0, 3, 9223372036854775807] (i64_litsD (by decide)) (by simp)
              obtain ⟨y1, hX⟩ : ∃ W, W = (w3.alloc (.cells #[.int .i64 (-1), .int .i64 0, .int .i64 3, .int .i64 9223372036854775807] 3)).drew := ⟨_, rfl⟩
              rw [← hX]
              have z1 : Below w3.heap.size w3 y1 := by rw [hX]; exact ((Below.refl _ _).alloc (Nat.le_refl _) _).drew
              replace h4 : Ints y1 (some ⟨w3.heap.size, 0, none⟩) 4 [-1, 0, 3, 9223372036854775807] := by rw [hX]; exact h4.below ((Below.refl _ _).drew)
              clear hX
              have HD4 := Lib.hid (HD3.out.below z1)
              replace f1 := HD4.out.1.2.1
              clear HD3 z1
              refine hK9.out _ _ trivial (fun hHeld => ?_)
              clear hK9 K9
              try simp only [Act.put, lgA, lgB, lgC, lgD, lgE, lgF]
              refine wpAnyH_ready (rs := [1, 4]) (by kernel_rfl) (by simp) ?_
              refine AllReadyH.cons rfl (fun K9 hK9 => ?_) (AllReadyH.cons rfl (fun K9 hK9 => ?_) AllReadyH.nil)
              · skip
                go_simp
                refine hK9.out _ _ trivial (fun hHeld => ?_)
                clear hK9 K9
                try simp only [Act.put, lgA, lgB, lgC, lgD, lgE, lgF]
                refine wpAnyH_ready (rs := [4]) (by kernel_rfl) (by simp) ?_
                refine AllReadyH.cons rfl (fun K9 hK9 => ?_) AllReadyH.nil
                go_simp
                refine (l1PickInt_any y1 cb ba bn bc w3.heap.size 4 4 [-1, 0, 3, 9223372036854775807] (by omega) (by omega) h4 (by omega) HD4.out.cur).mono ?_
                rintro e y2 ⟨y, rfl, hy, hc4, hk4⟩
                have hy64 : I64 y := i64_litsD (by decide) y hy
                have HD5 := Lib.hid (HD4.out.turn hk4.turn hc4)
                replace f1 := HD5.out.1.2.1
                clear HD4 hc4 hk4 hy h4
                refine hK9.out _ _ trivial (fun hHeld => ?_)
                clear hK9 K9
                try simp only [Act.put, lgA, lgB, lgC, lgD, lgE, lgF]
                refine wpAnyH_ready (rs := [5]) (by kernel_rfl) (by simp) ?_
                refine AllReadyH.cons rfl (fun K9 hK9 => ?_) AllReadyH.nil
                go_simp
                have hl5 := HD5.out.lims
                obtain ⟨na, nn, nc, wn, hrn, on, hbn, hzn⟩ := own_num 27 HD5.out.own hy64 (Nat.le_refl _) (by omega) (by omega) rfl
                obtain ⟨y3, hX⟩ : ∃ W, W = y2.alloc (.cells #[.int .i64 y] 3) := ⟨_, rfl⟩
                have z3 : Below y2.heap.size y2 y3 := by rw [hX]; exact (Below.refl _ _).alloc (Nat.le_refl _) _
                rw [← hX] at hrn ⊢
                have g1n := bfr hbn HD5.out.2.1.2.1
                have f1n := bcl hbn f1
                replace f1 := bcl z3 f1
                have HDP := Lib.hid (HD5.out.put hbn on)
                have hxl5 : (xs ++ [y]).length ≤ 4 := by rw [List.length_append]; simp; omega
                clear hX z3 hbn on hzn HD5 hy64 hl5
                refine hK9.out _ _ trivial (fun hHeld => ?_)
                clear hK9 K9
                try simp only [Act.put, lgA, lgB, lgC, lgD, lgE, lgF]
                refine wpAnyH_ready (rs := [6]) (by kernel_rfl) (by simp) ?_
                refine AllReadyH.cons rfl (fun K9 hK9 => ?_) AllReadyH.nil
                refine step_appD hrn rfl rfl rfl rfl rfl ?_
                clear f1
                refine hK9.out _ _ trivial (fun hHeld => ?_)
                clear hK9 K9
                try simp only [Act.put, lgA, lgB, lgC, lgD, lgE, lgF]
                refine wpAnyH_take (i := 7) (v := ?v7_37) rfl (by kernel_rfl) (by kernel_rfl) (by kernel_rfl) (fun _ _ _ h => h) (Or.inl ⟨by rfl, ?hy7_37⟩) (by assumption) ?rest7_37
                case hy7_37 => intro w hSw; (try dsimp only at hSw); go_simp; (try with_reducible rfl)
                try simp only [Act.put, lgA, lgB, lgC, lgD, lgE, lgF]
                refine wpAnyH_ready (rs := [8]) (by kernel_rfl) (by simp) ?_
                refine AllReadyH.cons rfl (fun K9 hK9 => ?_) AllReadyH.nil
                go_simp
                clear f1n g1n hrn
                obtain ⟨wz, hwz⟩ : ∃ W, W = wn.setCell ⟨FB, 1, none⟩ (.slice na nn nc) := ⟨_, rfl⟩
                rw [← hwz] at HDP ⊢
                clear hwz
                obtain ⟨zs, hzs⟩ : ∃ q, q = xs ++ [y] := ⟨_, rfl⟩
                rw [← hzs] at HDP hxl5
                clear hzs
                obtain ⟨⟨f0, f1, f2⟩, ⟨g0, g1, g2⟩, ⟨r0, r1, r2⟩, ⟨s0, s1, s2⟩, _⟩ := HDP.out
                have HFIN := Lib.hid (HDP.out.fin hnm hxl5 htt64)
                clear HDP
                refine hK9.out _ _ trivial (fun hHeld => ?_)
                clear hK9 K9
                try simp only [Act.put, lgA, lgB, lgC, lgD, lgE, lgF]
                refine wpAnyH_done (by kernel_rfl) ?_ _
                refine NoPanic.normal ?_
                go_wp2_with fail
                refine bodyPost_ret (v := .agg #[.string nm, .slice na nn nc, .int .i64 tt]) (by simp [results, Tryz.results27, go_sem, r0, r1, r2, s0, s1, s2]) rfl HFIN.out
              · skip
                go_simp
                refine (l1PickInt_any y1 cb ba bn bc w3.heap.size 4 4 [-1, 0, 3, 9223372036854775807] (by omega) (by omega) h4 (by omega) HD4.out.cur).mono ?_
                rintro e y2 ⟨y, rfl, hy, hc4, hk4⟩
                have hy64 : I64 y := i64_litsD (by decide) y hy
                have HD5 := Lib.hid (HD4.out.turn hk4.turn hc4)
                replace f1 := HD5.out.1.2.1
                clear HD4 hc4 hk4 hy h4
                refine hK9.out _ _ trivial (fun hHeld => ?_)
                clear hK9 K9
                try simp only [Act.put, lgA, lgB, lgC, lgD, lgE, lgF]
                refine wpAnyH_ready (rs := [1, 5]) (by kernel_rfl) (by simp) ?_
                refine AllReadyH.cons rfl (fun K9 hK9 => ?_) (AllReadyH.cons rfl (fun K9 hK9 => ?_) AllReadyH.nil)
                · skip
                  go_simp
                  refine hK9.out _ _ trivial (fun hHeld => ?_)
                  clear hK9 K9
                  try simp only [Act.put, lgA, lgB, lgC, lgD, lgE, lgF]
                  refine wpAnyH_ready (rs := [5]) (by kernel_rfl) (by simp) ?_
                  refine AllReadyH.cons rfl (fun K9 hK9 => ?_) AllReadyH.nil
                  go_simp
                  have hl5 := HD5.out.lims
                  obtain ⟨na, nn, nc, wn, hrn, on, hbn, hzn⟩ := own_num 27 HD5.out.own hy64 (Nat.le_refl _) (by omega) (by omega) rfl
                  obtain ⟨y3, hX⟩ : ∃ W, W = y2.alloc (.cells #[.int .i64 y] 3) := ⟨_, rfl⟩
                  have z3 : Below y2.heap.size y2 y3 := by rw [hX]; exact (Below.refl _ _).alloc (Nat.le_refl _) _
                  rw [← hX] at hrn ⊢
                  have g1n := bfr hbn HD5.out.2.1.2.1
                  have f1n := bcl hbn f1
                  replace f1 := bcl z3 f1
                  have HDP := Lib.hid (HD5.out.put hbn on)
                  have hxl5 : (xs ++ [y]).length ≤ 4 := by rw [List.length_append]; simp; omega
                  clear hX z3 hbn on hzn HD5 hy64 hl5
                  refine hK9.out _ _ trivial (fun hHeld => ?_)
                  clear hK9 K9
                  try simp only [Act.put, lgA, lgB, lgC, lgD, lgE, lgF]
                  refine wpAnyH_ready (rs := [6]) (by kernel_rfl) (by simp) ?_
                  refine AllReadyH.cons rfl (fun K9 hK9 => ?_) AllReadyH.nil
                  refine step_appD hrn rfl rfl rfl rfl rfl ?_
                  clear f1
                  refine hK9.out _ _ trivial (fun hHeld => ?_)
                  clear hK9 K9
                  try simp only [Act.put, lgA, lgB, lgC, lgD, lgE, lgF]
                  refine wpAnyH_take (i := 7) (v := ?v7_38) rfl (by kernel_rfl) (by kernel_rfl) (by kernel_rfl) (fun _ _ _ h => h) (Or.inl ⟨by rfl, ?hy7_38⟩) (by assumption) ?rest7_38
                  case hy7_38 => intro w hSw; (try dsimp only at hSw); go_simp; (try with_reducible rfl)
                  try simp only [Act.put, lgA, lgB, lgC, lgD, lgE, lgF]
                  refine wpAnyH_ready (rs := [8]) (by kernel_rfl) (by simp) ?_
                  refine AllReadyH.cons rfl (fun K9 hK9 => ?_) AllReadyH.nil
                  go_simp
                  clear f1n g1n hrn
                  obtain ⟨wz, hwz⟩ : ∃ W, W = wn.setCell ⟨FB, 1, none⟩ (.slice na nn nc) := ⟨_, rfl⟩
                  rw [← hwz] at HDP ⊢
                  clear hwz
                  obtain ⟨zs, hzs⟩ : ∃ q, q = xs ++ [y] := ⟨_, rfl⟩
                  rw [← hzs] at HDP hxl5
                  clear hzs
                  obtain ⟨⟨f0, f1, f2⟩, ⟨g0, g1, g2⟩, ⟨r0, r1, r2⟩, ⟨s0, s1, s2⟩, _⟩ := HDP.out
                  have HFIN := Lib.hid (HDP.out.fin hnm hxl5 htt64)
                  clear HDP
                  refine hK9.out _ _ trivial (fun hHeld => ?_)
                  clear hK9 K9
                  try simp only [Act.put, lgA, lgB, lgC, lgD, lgE, lgF]
                  refine wpAnyH_done (by kernel_rfl) ?_ _
                  refine NoPanic.normal ?_
                  go_wp2_with fail
                  refine bodyPost_ret (v := .agg #[.string nm, .slice na nn nc, .int .i64 tt]) (by simp [results, Tryz.results27, go_sem, r0, r1, r2, s0, s1, s2]) rfl HFIN.out
                · skip
                  go_simp
                  have hl5 := HD5.out.lims
                  obtain ⟨na, nn, nc, wn, hrn, on, hbn, hzn⟩ := own_num 27 HD5.out.own hy64 (Nat.le_refl _) (by omega) (by omega) rfl
                  obtain ⟨y3, hX⟩ : ∃ W, W = y2.alloc (.cells #[.int .i64 y] 3) := ⟨_, rfl⟩
                  have z3 : Below y2.heap.size y2 y3 := by rw [hX]; exact (Below.refl _ _).alloc (Nat.le_refl _) _
                  rw [← hX] at hrn ⊢
                  have g1n := bfr hbn HD5.out.2.1.2.1
                  have f1n := bcl hbn f1
                  replace f1 := bcl z3 f1
                  have HDP := Lib.hid (HD5.out.put hbn on)
                  have hxl5 : (xs ++ [y]).length ≤ 4 := by rw [List.length_append]; simp; omega
                  clear hX z3 hbn on hzn HD5 hy64 hl5
                  refine hK9.out _ _ trivial (fun hHeld => ?_)
                  clear hK9 K9
                  try simp only [Act.put, lgA, lgB, lgC, lgD, lgE, lgF]
                  refine wpAnyH_ready (rs := [1]) (by kernel_rfl) (by simp) ?_
                  refine AllReadyH.cons rfl (fun K9 hK9 => ?_) AllReadyH.nil
                  go_simp
                  refine hK9.out _ _ trivial (fun hHeld => ?_)
                  clear hK9 K9
                  try simp only [Act.put, lgA, lgB, lgC, lgD, lgE, lgF]
                  refine wpAnyH_ready (rs := [6]) (by kernel_rfl) (by simp) ?_
                  refine AllReadyH.cons rfl (fun K9 hK9 => ?_) AllReadyH.nil
                  refine step_appD hrn rfl rfl rfl rfl rfl ?_
                  clear f1
                  refine hK9.out _ _ trivial (fun hHeld => ?_)
                  clear hK9 K9
                  try simp only [Act.put, lgA, lgB, lgC, lgD, lgE, lgF]
                  refine wpAnyH_take (i := 7) (v := ?v7_39) rfl (by kernel_rfl) (by kernel_rfl) (by kernel_rfl) (fun _ _ _ h => h) (Or.inl ⟨by rfl, ?hy7_39⟩) (by assumption) ?rest7_39
                  case hy7_39 => intro w hSw; (try dsimp only at hSw); go_simp; (try with_reducible rfl)
                  try simp only [Act.put, lgA, lgB, lgC, lgD, lgE, lgF]
                  refine wpAnyH_ready (rs := [8]) (by kernel_rfl) (by simp) ?_
                  refine AllReadyH.cons rfl (fun K9 hK9 => ?_) AllReadyH.nil
                  go_simp
                  clear f1n g1n hrn
                  obtain ⟨wz, hwz⟩ : ∃ W, W = wn.setCell ⟨FB, 1, none⟩ (.slice na nn nc) := ⟨_, rfl⟩
                  rw [← hwz] at HDP ⊢
                  clear hwz
                  obtain ⟨zs, hzs⟩ : ∃ q, q = xs ++ [y] := ⟨_, rfl⟩
                  rw [← hzs] at HDP hxl5
                  clear hzs
                  obtain ⟨⟨f0, f1, f2⟩, ⟨g0, g1, g2⟩, ⟨r0, r1, r2⟩, ⟨s0, s1, s2⟩, _⟩ := HDP.out
                  have HFIN := Lib.hid (HDP.out.fin hnm hxl5 htt64)
                  clear HDP
                  refine hK9.out _ _ trivial (fun hHeld => ?_)
                  clear hK9 K9
                  try simp only [Act.put, lgA, lgB, lgC, lgD, lgE, lgF]
                  refine wpAnyH_done (by kernel_rfl) ?_ _
                  refine NoPanic.normal ?_
                  go_wp2_with fail
                  refine bodyPost_ret (v := .agg #[.string nm, .slice na nn nc, .int .i64 tt]) (by simp [results, Tryz.results27, go_sem, r0, r1, r2, s0, s1, s2]) rfl HFIN.out

  end Go.Proofs.YtpgfkjcekhifiaaGreatDoor

namespace Go.Proofs.YtpgfkjcekhifiaaGreatDoor

open Go.RowKit

set_option linter.unusedVariables false

set_option linter.unusedSimpArgs false

set_option synthInstance.maxSize 2000

set_option synthInstance.maxHeartbeats 400000

theorem infoDp : (Tryz.prog.info? 29).map (fun i => (i.zero, i.size, i.bytes)) = some (some (.agg #[.string ⟨#[]⟩, .slice none 0 0, .int .i64 0]), 3, 48) := by kernel_rfl

theorem own_dep {lo hi h1 h2 : Nat} {W W1 : World} {v : Value} {ys : List DDp} {cs : List Value} {r : DDp} (ty : TypeId) (h : Own oDl lo hi W [v] ys) (hr : Own oDp h1 h2 W cs r) (hh2 : h2 ≤ W.heap.size) (hlo : lo ≤ hi) (hh1 : hi ≤ h1) (hhi : h1 ≤ h2) (hn : ys.length ≤ 1000000) (hW1 : W1 = W.alloc (.cells cs.toArray 29)) :
    ∃ a n c w', (Builtin.append_ #[35, 35] ty #[v, .slice (some ⟨W.heap.size, 0, none⟩) 1 1]).run Tryz.prog W1 = .ok (.slice a n c) w' ∧ Own oDl lo w'.heap.size w' [.slice a n c] (ys ++ [r]) ∧ Below lo W w' ∧ W.heap.size < w'.heap.size := by
  have hrr := hr
  obtain ⟨fu, a2, a4, a9⟩ := h
  obtain ⟨fr, b2, b4, b9⟩ := hr
  obtain ⟨a, n, c, w', fu', hrun, c1, c2, c3, c4, ⟨c5, c6, c7⟩, c8⟩ := run_app_fp (W := W) (W1 := W1) Tryz.underlying35 infoDp rfl (by decide) (by decide) (o' := oDp) rfl ty v ys cs r fu fr a2 a4 b2 b4 (fun k hk hk2 => by have := a9 k hk2; have := b9 k hk; omega) (by
    obtain ⟨q1, q2, q3, e⟩ := oDp_form hrr
    subst e
    intro z hz
    simp only [List.mem_cons, List.not_mem_nil, or_false] at hz
    rcases hz with rfl | rfl | rfl <;> rfl) (by omega) hW1
  refine ⟨a, n, c, w', hrun, ⟨fu', c1, c2, fun k hk => ?_⟩, ⟨c5, c6, c7, by omega, fun k hk => c8 k (by omega) (fun hk2 => by have := a9 k hk2; omega)⟩, c4⟩
  rcases c3 k hk with h9 | h9 | h9
  · have := a9 k h9; omega
  · have := b9 k h9; omega
  · omega

def SmallDs (ds : List DDp) : Prop := ∀ d ∈ ds, d.1.size ≤ 5 ∧ d.2.1.length ≤ 4

theorem small_snoc {ds : List DDp} {x : DDp} (h : SmallDs ds) (hx : x.1.size ≤ 5 ∧ x.2.1.length ≤ 4) : SmallDs (ds ++ [x]) := fun d hd => by
  rcases List.mem_append.1 hd with hd | hd
  · exact h d hd
  · rw [List.mem_singleton] at hd; subst hd; exact hx

def DepsOut (w w' : World) (cb : Nat) (ba : Option Addr) (bn bc : Nat) (e : Ending) : Prop :=
  ∃ (b : Option Addr) (n c : Nat) (ds : List DDp), e = .returned (.slice b n c) ∧ Own oDl w.heap.size w'.heap.size w' [.slice b n c] ds ∧ (ds.length ≤ 3 ∧ SmallDs ds) ∧ Cur w' cb ba bn bc ∧ Turn cb (cb + 1) w w'

set_option maxRecDepth 100000 in
set_option maxHeartbeats 4000000 in
theorem l12Deps_any (w : World) (cb : Nat) (ba : Option Addr) (bn bc : Nat) (HC : Cur w cb ba bn bc) (hcb : cb < w.heap.size) :
    Calls Tryz.prog 40 #[.pointer (some ⟨cb, 0, none⟩)] w fun e w' => DepsOut w w' cb ba bn bc e := by
  have hba : Below w.heap.size w (w.alloc (.cells #[] 29)) := (Below.refl _ _).alloc (Nat.le_refl _) _
  have HO0 : Hid (Own oDl w.heap.size (w.alloc (.cells #[] 29)).heap.size (w.alloc (.cells #[] 29)) [.slice (some ⟨w.heap.size, 0, none⟩) 0 0] []) := Lib.hid ((own_empty_S (Nat.le_refl w.heap.size)).mono (Nat.le_refl _) (by simp))
  have HT0 : Hid (Turn cb (cb + 1) w (w.alloc (.cells #[] 29))) := Lib.hid (turn_below hba (Nat.le_refl _))
  have HB0 := Lib.hid (l1Below_any (w.alloc (.cells #[] 29)) cb ba bn bc 4 (by omega) (HC.below' hba hcb))
  clear HC hba
  go_enter Tryz.func40, Tryz.ntmps40
  go_wp2_with fail
  refine HB0.out.mono ?_
  rintro e w1 ⟨k, rfl, hk0, hk1, hk2, hc1, hkk⟩
  obtain ⟨q, rfl⟩ := Int.eq_ofNat_of_zero_le hk0
  have hq : q ≤ 3 := by have := hk1 (by omega); omega
  have HO1 := Lib.hid ((HO0.out.kept hkk (.inr (by omega))).mono (Nat.le_refl _) (Nat.le_of_eq hkk.size.symm))
  have HT1 := Lib.hid (HT0.out.trans hkk.turn)
  have HC1 := Lib.hid hc1
  clear HO0 HT0 HB0 hkk hc1 hk0 hk1 hk2
  go_wp2_with fail
  go_loopw [3, 4] (fun v i wr => ∃ (j n c : Nat) (b : Option Addr) (ds : List DDp), j ≤ 3 ∧ i = .int .i64 (j : Int) ∧ v = .slice b n c ∧ Own oDl w.heap.size wr.heap.size wr [.slice b n c] ds ∧ ds.length + j ≤ 3 ∧ SmallDs ds ∧ Cur wr cb ba bn bc ∧ Turn cb (cb + 1) w wr) (fun _ i _ => (intOf i).toNat)
  case atStart => exact ⟨q, 0, 0, _, [], hq, rfl, rfl, HO1.out, by simpa using hq, (fun d hd => by cases hd), HC1.out, HT1.out⟩
  case round =>
    clear HO1 HT1 HC1 hq
    obtain ⟨j, n, c, b, ds, hj, rfl, rfl, ho, hdl, hds, hcur, ht⟩ := hrel
    have hts := ht.size
    obtain ⟨wo, rfl⟩ : ∃ W, W = wr := ⟨_, rfl⟩
    by_cases hlt : 0 < j
    · have hji : (0 : Int) < (j : Int) := by omega
      have HDP := Lib.hid (l12Dep_any wo cb ba bn bc hcur (by omega))
      have HOW := Lib.hid ho
      have HTT := Lib.hid ht
      clear hcur ho ht
      go_wp2_with fail
      refine HDP.out.mono ?_
      rintro e w2 ⟨nm, b2, n2, c2, t2, x, rfl, oD, hx, hc2, ht2⟩
      have o2 := HOW.out.turn ht2 (by omega)
      have t3 := HTT.out.trans ht2
      have s2 := ht2.size
      obtain ⟨na, nn, nc, wn, hrn, on_, hbn, hzn⟩ := own_dep 35 o2 oD (Nat.le_refl _) hts (Nat.le_refl _) s2 (by omega) rfl
      have HCN := Lib.hid (hc2.below' hbn hcb)
      have TN := Lib.hid (turn_on' t3 hbn)
      have ON := Lib.hid on_
      have HSN := Lib.hid (small_snoc hds hx)
      clear o2 t3 on_ hc2 ht2 hbn oD hx hds HDP HOW HTT
      go_wp2_with ((at_builtin; refine wpList_app_run hrn rfl rfl rfl rfl rfl ?_))
      go_roundw
      case rel => exact ⟨j - 1, nn, nc, na, ds ++ [x], by omega, by go_num, rfl, ON.out, by rw [List.length_append]; simp; omega, HSN.out, HCN.out, TN.out⟩
      case measure => simp [intOf]; omega
    · have hji : ¬ ((0 : Int) < (j : Int)) := by omega
      have HOW := Lib.hid ho
      have HTT := Lib.hid ht
      have HCC := Lib.hid hcur
      have HSS := Lib.hid hds
      clear hcur ho ht hds
      go_wp2_with fail
      go_ret
      exact ⟨_, _, _, ds, rfl, HOW.out, ⟨by omega, HSS.out⟩, HCC.out, HTT.out⟩

end Go.Proofs.YtpgfkjcekhifiaaGreatDoor

namespace Go.Proofs.YtpgfkjcekhifiaaGreatDoor

open Go.RowKit

set_option linter.unusedVariables false

set_option linter.unusedSimpArgs false

set_option synthInstance.maxSize 2000

set_option synthInstance.maxHeartbeats 400000

theorem bytes_at' {w w' : World} {n : Nat} {a : Option Addr} (h : Bytes w w.heap.size a n) (hb : Below w.heap.size w w') : Bytes w' w'.heap.size a n :=
  ⟨h.small, fun i hi => by
    obtain ⟨b, off, v, e1, e2, e3, e4⟩ := h.cell i hi
    have := hb.size
    exact ⟨b, off, v, e1, by omega, (hb.cell (p := ⟨b, off + i, none⟩) e2).trans e3, e4⟩⟩

def DrawnVi (w w' : World) (e : Ending) : Prop :=
  ∃ (b : Option Addr) (n c : Nat) (db : List DT) (nm : ByteArray) (fb : Option Addr) (fn fc : Nat) (t : Int) (x : DDp), e = .returned (.tuple #[.agg #[.slice b n c], .agg #[.string nm, .slice fb fn fc, .int .i64 t]]) ∧ rDb.rep w' [.slice b n c] db ∧ rDp.rep w' [.string nm, .slice fb fn fc, .int .i64 t] x ∧ Below w.heap.size w w'

set_option maxRecDepth 100000 in
set_option maxHeartbeats 4000000 in
theorem drawViol_any (w : World) (ba : Option Addr) (bn bc : Nat) (hn : bn ≤ 2000000) (h : Bytes w w.heap.size ba bn) :
    Calls Tryz.prog 5 #[.slice ba bn bc] w fun e w' => DrawnVi w w' e := by
  have hb0 : Below w.heap.size w w := Below.refl _ _
  go_enter Tryz.func5, Tryz.ntmps5
  obtain ⟨w1, hw1⟩ : ∃ W, W = w.alloc (.cells #[.slice none 0 0] 26) := ⟨_, rfl⟩
  have z1 : Below w.heap.size w w1 := by rw [hw1]; exact (Below.refl _ _).alloc (Nat.le_refl _) _
  have s1 : w1.heap.size = w.heap.size + 1 := by rw [hw1]; simp
  have hb1 := on hb0 z1
  have R_0 : w1.cell? ⟨w.heap.size, 0, none⟩ = some (.slice none 0 0) := by rw [hw1]; exact box_cell (Below.refl _ _) rfl
  have R_f0 : w1.frozen? ⟨w.heap.size, 0, none⟩ = false := by rw [hw1]; exact box_frozen (Below.refl _ _)
  have raw1_R_0 := R_0
  have raw1_R_f0 := R_f0
  rw [hw1] at raw1_R_0 raw1_R_f0
  obtain ⟨w2, hw2⟩ : ∃ W, W = w1.alloc (.cells #[.string (ByteArray.mk #[]), .slice none 0 0, .int .i64 0] 29) := ⟨_, rfl⟩
  have z2 : Below w1.heap.size w1 w2 := by rw [hw2]; exact (Below.refl _ _).alloc (Nat.le_refl _) _
  have s2 : w2.heap.size = w1.heap.size + 1 := by rw [hw2]; simp
  have hb2 := on hb1 z2
  replace R_0 := bxc z2 R_0
  replace R_f0 := bxf z2 R_f0
  have e2 : w1.heap.size = w.heap.size + 1 := by omega
  have Q_0 : w2.cell? ⟨w1.heap.size, 0, none⟩ = some (.string (ByteArray.mk #[])) := by rw [hw2]; exact box_cell (Below.refl _ _) rfl
  have Q_1 : w2.cell? ⟨w1.heap.size, 1, none⟩ = some (.slice none 0 0) := by rw [hw2]; exact box_cell (Below.refl _ _) rfl
  have Q_2 : w2.cell? ⟨w1.heap.size, 2, none⟩ = some (.int .i64 0) := by rw [hw2]; exact box_cell (Below.refl _ _) rfl
  rw [e2] at Q_0 Q_1 Q_2
  have Q_f0 : w2.frozen? ⟨w1.heap.size, 0, none⟩ = false := by rw [hw2]; exact box_frozen (Below.refl _ _)
  have Q_f1 : w2.frozen? ⟨w1.heap.size, 1, none⟩ = false := by rw [hw2]; exact box_frozen (Below.refl _ _)
  have Q_f2 : w2.frozen? ⟨w1.heap.size, 2, none⟩ = false := by rw [hw2]; exact box_frozen (Below.refl _ _)
  rw [e2] at Q_f0 Q_f1 Q_f2
  have raw2_R_0 := R_0
  have raw2_R_f0 := R_f0
  have raw2_Q_0 := Q_0
  have raw2_Q_1 := Q_1
  have raw2_Q_2 := Q_2
  have raw2_Q_f0 := Q_f0
  have raw2_Q_f1 := Q_f1
  have raw2_Q_f2 := Q_f2
  rw [hw2, hw1] at raw2_R_0 raw2_R_f0 raw2_Q_0 raw2_Q_1 raw2_Q_2 raw2_Q_f0 raw2_Q_f1 raw2_Q_f2
  have HBY := Lib.hid (bytes_at' h hb2)
  clear h
  go_wp2_with fail
  rw [← hw1]
  rw [← hw2]
  clear hw2 hw1
  clear raw1_R_0 raw1_R_f0 raw2_R_0 raw2_R_f0 raw2_Q_0 raw2_Q_1 raw2_Q_2 raw2_Q_f0 raw2_Q_f1 raw2_Q_f2
  refine (l1New_any _ ba bn bc hn HBY.out).mono ?_
  rintro e w3 ⟨cb, rfl, HC, z3, hcb1, hcb2⟩
  have s4 := z3.size
  have hb4 := on hb2 z3
  replace R_0 := bxc z3 R_0
  replace R_f0 := bxf z3 R_f0
  replace Q_0 := bxc z3 Q_0
  replace Q_1 := bxc z3 Q_1
  replace Q_2 := bxc z3 Q_2
  replace Q_f0 := bxf z3 Q_f0
  replace Q_f1 := bxf z3 Q_f1
  replace Q_f2 := bxf z3 Q_f2
  clear HBY
  go_wp2_with fail
  obtain ⟨lo4, hlo4⟩ : ∃ q, q = w3.heap.size := ⟨_, rfl⟩
  have HC_o := HC
  clear HC
  refine (l5Any_any _ cb ba bn bc HC_o (by omega)).mono ?_
  rintro e w5 ⟨b, n, c, db, rfl, ho, HC, z5⟩
  clear HC_o
  have s6 := z5.size
  have hb6 := hb4.trans ((z5.below (by omega)).mono (by omega))
  replace R_0 := txc z5 R_0
  replace R_f0 := txf z5 R_f0
  replace Q_0 := txc z5 Q_0
  replace Q_1 := txc z5 Q_1
  replace Q_2 := txc z5 Q_2
  replace Q_f0 := txf z5 Q_f0
  replace Q_f1 := txf z5 Q_f1
  replace Q_f2 := txf z5 Q_f2
  rw [← hlo4] at ho
  obtain ⟨hi5, hhi5⟩ : ∃ q, q = w5.heap.size := ⟨_, rfl⟩
  rw [← hhi5] at ho
  have hlh : w.heap.size + 1 + 1 ≤ lo4 ∧ cb + 1 ≤ lo4 := by omega
  have hlh2 : lo4 ≤ hi5 := by omega
  obtain ⟨w7, hw7⟩ : ∃ W, W = w5.alloc (.cells #[.slice b n c] 26) := ⟨_, rfl⟩
  have z7 : Below w5.heap.size w5 w7 := by rw [hw7]; exact (Below.refl _ _).alloc (Nat.le_refl _) _
  have s7 : w7.heap.size = w5.heap.size + 1 := by rw [hw7]; simp
  have hb7 := on hb6 z7
  have old7_R_0 := R_0
  have old7_Q_0 := Q_0
  have old7_Q_1 := Q_1
  have old7_Q_2 := Q_2
  replace R_0 := bxc z7 R_0
  replace R_f0 := bxf z7 R_f0
  replace Q_0 := bxc z7 Q_0
  replace Q_1 := bxc z7 Q_1
  replace Q_2 := bxc z7 Q_2
  replace Q_f0 := bxf z7 Q_f0
  replace Q_f1 := bxf z7 Q_f1
  replace Q_f2 := bxf z7 Q_f2
  replace HC := HC.below' z7 (by omega)
  replace ho := ho.below z7 (by omega)
  have X_0 : w7.cell? ⟨w5.heap.size, 0, none⟩ = some (.slice b n c) := by rw [hw7]; exact box_cell (Below.refl _ _) rfl
  have raw7_R_0 := R_0
  have raw7_R_f0 := R_f0
  have raw7_Q_0 := Q_0
  have raw7_Q_1 := Q_1
  have raw7_Q_2 := Q_2
  have raw7_Q_f0 := Q_f0
  have raw7_Q_f1 := Q_f1
  have raw7_Q_f2 := Q_f2
  have raw7_X_0 := X_0
  rw [hw7] at raw7_R_0 raw7_R_f0 raw7_Q_0 raw7_Q_1 raw7_Q_2 raw7_Q_f0 raw7_Q_f1 raw7_Q_f2 raw7_X_0
  go_wp2_with fail
  rw [← hw7]
  clear hw7
  clear old7_R_0 old7_Q_0 old7_Q_1 old7_Q_2 raw7_R_0 raw7_R_f0 raw7_Q_0 raw7_Q_1 raw7_Q_2 raw7_Q_f0 raw7_Q_f1 raw7_Q_f2 raw7_X_0
  have hdr : Below w7.heap.size w7 w7.drew := (Below.refl _ _).drew
  refine wp_region_noPanic ?_
  refine wp_region_held_drew (S := (fun W => W.cell? ⟨w5.heap.size, 0, none⟩ = some (.slice b n c))) (by kernel_rfl) ?hS8 (fun hHeld => ?_)
  case hS8 => exact X_0
  refine wpAnyH_take (i := 0) (v := ?v0_9) rfl (by kernel_rfl) (by kernel_rfl) (by kernel_rfl) (fun _ _ _ h => h) (Or.inl ⟨by rfl, ?hy0_9⟩) (by assumption) ?rest0_9
  case hy0_9 => intro w hSw; (try dsimp only at hSw); go_simp; (try with_reducible rfl)
  try simp only [Act.put, lgA, lgB, lgC, lgD, lgE, lgF]
  refine wpAnyH_take (i := 1) (v := ?v1_10) rfl (by kernel_rfl) (by kernel_rfl) (by kernel_rfl) (fun _ _ _ h => h) (Or.inl ⟨by rfl, ?hy1_10⟩) (by assumption) ?rest1_10
  case hy1_10 => intro w hSw; (try dsimp only at hSw); go_simp; (try with_reducible rfl)
  try simp only [Act.put, lgA, lgB, lgC, lgD, lgE, lgF]
  obtain ⟨lo8, hlo8⟩ : ∃ q, q = w7.heap.size := ⟨_, rfl⟩
  have hlo8' : w5.heap.size + 1 ≤ lo8 := by omega
  refine wpAnyH_ready (rs := [2]) (by kernel_rfl) (by simp) ?_
  refine AllReadyH.cons rfl (fun K9 hK9 => ?_) AllReadyH.nil
  go_simp
  refine (l12Dep_any _ cb ba bn bc (HC.below' hdr (by omega)) (show cb < w7.heap.size by omega)).mono ?_
  rintro e wA ⟨nm, fb, fn, fc, t, x, rfl, oD, hxs, HC2, tA⟩
  replace oD : Own oDp w7.heap.size wA.heap.size wA [.string nm, .slice fb fn fc, .int .i64 t] x := oD
  rw [← hlo8] at oD
  replace tA : Turn cb (cb + 1) w7 wA := (turn_below hdr (Nat.le_refl _)).trans tA
  have sA := tA.size
  have hbA := hb7.trans ((tA.below (by omega)).mono (by omega))
  have hoA := ho.turn tA (by omega)
  have x2 := txc tA X_0
  have aR_0 := txc tA R_0
  have aR_f0 := txf tA R_f0
  have aQ_0 := txc tA Q_0
  have aQ_f0 := txf tA Q_f0
  have aQ_1 := txc tA Q_1
  have aQ_f1 := txf tA Q_f1
  have aQ_2 := txc tA Q_2
  have aQ_f2 := txf tA Q_f2
  clear X_0 R_0 R_f0 Q_0 Q_f0 Q_1 Q_f1 Q_2 Q_f2 tA ho HC HC2 hxs
  refine hK9.out _ _ x2 (fun hHeld => ?_)
  clear hK9 K9
  try simp only [Act.put, lgA, lgB, lgC, lgD, lgE, lgF]
  refine wpAnyH_ready (rs := [3]) (by kernel_rfl) (by simp) ?_
  refine AllReadyH.cons rfl (fun K9 hK9 => ?_) AllReadyH.nil
  go_simp
  obtain ⟨wE, hwE⟩ : ∃ W, W = wA.setCell ⟨w.heap.size, 0, none⟩ (.slice b n c) := ⟨_, rfl⟩
  rw [← hwE]
  have x3 : wE.cell? ⟨w5.heap.size, 0, none⟩ = some (.slice b n c) := by rw [hwE]; exact (World.cell?_of_block (a := ⟨w5.heap.size, 0, none⟩) (Below.heap_setCell _ _ _ _ (by simp only []; omega))).trans x2
  have eR_0 : wE.cell? ⟨w.heap.size, 0, none⟩ = some (.slice b n c) := by rw [hwE]; simp [go_sem, aR_0, aQ_0, aQ_1, aQ_2]
  have eR_f0 : wE.frozen? ⟨w.heap.size, 0, none⟩ = false := by rw [hwE]; simp [go_sem, aR_f0, aQ_f0, aQ_f1, aQ_f2]
  have eQ_0 : wE.cell? ⟨w.heap.size + 1, 0, none⟩ = some (.string (ByteArray.mk #[])) := by rw [hwE]; simp [go_sem, aR_0, aQ_0, aQ_1, aQ_2]
  have eQ_f0 : wE.frozen? ⟨w.heap.size + 1, 0, none⟩ = false := by rw [hwE]; simp [go_sem, aR_f0, aQ_f0, aQ_f1, aQ_f2]
  have eQ_1 : wE.cell? ⟨w.heap.size + 1, 1, none⟩ = some (.slice none 0 0) := by rw [hwE]; simp [go_sem, aR_0, aQ_0, aQ_1, aQ_2]
  have eQ_f1 : wE.frozen? ⟨w.heap.size + 1, 1, none⟩ = false := by rw [hwE]; simp [go_sem, aR_f0, aQ_f0, aQ_f1, aQ_f2]
  have eQ_2 : wE.cell? ⟨w.heap.size + 1, 2, none⟩ = some (.int .i64 0) := by rw [hwE]; simp [go_sem, aR_0, aQ_0, aQ_1, aQ_2]
  have eQ_f2 : wE.frozen? ⟨w.heap.size + 1, 2, none⟩ = false := by rw [hwE]; simp [go_sem, aR_f0, aQ_f0, aQ_f1, aQ_f2]
  have hoE : DrawnDb lo4 hi5 wE b n c db := hoA.off hwE (by simp only []; omega)
  have oDE : Own oDp lo8 wA.heap.size wE [.string nm, .slice fb fn fc, .int .i64 t] x := own_off oD hwE (by simp only []; omega)
  have sE : wE.heap.size = wA.heap.size := by rw [hwE]; simp [World.setCell]
  have hbE : Below w.heap.size w wE := by rw [hwE]; exact Below.setCell hbA (by simp only []; omega) _
  clear hwE hoA oD x2 aR_0 aR_f0 aQ_0 aQ_f0 aQ_1 aQ_f1 aQ_2 aQ_f2
  refine hK9.out _ _ x3 (fun hHeld => ?_)
  clear hK9 K9
  try simp only [Act.put, lgA, lgB, lgC, lgD, lgE, lgF]
  refine wpAnyH_ready (rs := [4]) (by kernel_rfl) (by simp) ?_
  refine AllReadyH.cons rfl (fun K9 hK9 => ?_) AllReadyH.nil
  go_simp
  obtain ⟨v0, hv0⟩ : ∃ W, W = wE.setCell ⟨w.heap.size + 1, 0, none⟩ (.string nm) := ⟨_, rfl⟩
  obtain ⟨v1, hv1⟩ : ∃ W, W = v0.setCell ⟨w.heap.size + 1, 1, none⟩ (.slice fb fn fc) := ⟨_, rfl⟩
  obtain ⟨wF, hwF⟩ : ∃ W, W = v1.setCell ⟨w.heap.size + 1, 2, none⟩ (.int .i64 t) := ⟨_, rfl⟩
  rw [← hv0, ← hv1, ← hwF]
  have zF : Below (w.heap.size + 1) wE wF := by
    rw [hwF, hv1, hv0]
    repeat (refine Below.setCell ?_ (by simp only []; omega) _)
    exact Below.refl _ _
  have sF : wF.heap.size = wE.heap.size := by rw [hwF, hv1, hv0]; simp [World.setCell]
  have hbF : Below w.heap.size w wF := hbE.trans (zF.mono (by omega))
  have hoF : DrawnDb lo4 hi5 wF b n c db := ((hoE.off hv0 (by simp only []; omega)).off hv1 (by simp only []; omega)).off hwF (by simp only []; omega)
  have oDF : Own oDp lo8 wA.heap.size wF [.string nm, .slice fb fn fc, .int .i64 t] x := own_off (own_off (own_off oDE hv0 (by simp only []; omega)) hv1 (by simp only []; omega)) hwF (by simp only []; omega)
  have x4 : wF.cell? ⟨w5.heap.size, 0, none⟩ = some (.slice b n c) := by
    rw [hwF, hv1, hv0]
    refine (World.cell?_of_block (a := ⟨w5.heap.size, 0, none⟩) ?_).trans x3
    rw [Below.heap_setCell _ _ _ _ (by simp only []; omega), Below.heap_setCell _ _ _ _ (by simp only []; omega), Below.heap_setCell _ _ _ _ (by simp only []; omega)]
  have fR_0 : wF.cell? ⟨w.heap.size, 0, none⟩ = some (.slice b n c) := by rw [hwF, hv1, hv0]; simp [go_sem, eR_0, eQ_0, eQ_1, eQ_2]
  have fR_f0 : wF.frozen? ⟨w.heap.size, 0, none⟩ = false := by rw [hwF, hv1, hv0]; simp [go_sem, eR_f0, eQ_f0, eQ_f1, eQ_f2]
  have fQ_0 : wF.cell? ⟨w.heap.size + 1, 0, none⟩ = some (.string nm) := by rw [hwF, hv1, hv0]; simp [go_sem, eR_0, eQ_0, eQ_1, eQ_2]
  have fQ_f0 : wF.frozen? ⟨w.heap.size + 1, 0, none⟩ = false := by rw [hwF, hv1, hv0]; simp [go_sem, eR_f0, eQ_f0, eQ_f1, eQ_f2]
  have fQ_1 : wF.cell? ⟨w.heap.size + 1, 1, none⟩ = some (.slice fb fn fc) := by rw [hwF, hv1, hv0]; simp [go_sem, eR_0, eQ_0, eQ_1, eQ_2]
  have fQ_f1 : wF.frozen? ⟨w.heap.size + 1, 1, none⟩ = false := by rw [hwF, hv1, hv0]; simp [go_sem, eR_f0, eQ_f0, eQ_f1, eQ_f2]
  have fQ_2 : wF.cell? ⟨w.heap.size + 1, 2, none⟩ = some (.int .i64 t) := by rw [hwF, hv1, hv0]; simp [go_sem, eR_0, eQ_0, eQ_1, eQ_2]
  have fQ_f2 : wF.frozen? ⟨w.heap.size + 1, 2, none⟩ = false := by rw [hwF, hv1, hv0]; simp [go_sem, eR_f0, eQ_f0, eQ_f1, eQ_f2]
  have hrd := hoF.rd
  have hrx := oDF.rd reads_Dp
  clear hv0 hv1 hwF zF hoE oDE hoF oDF x3 eR_0 eR_f0 eQ_0 eQ_f0 eQ_1 eQ_f1 eQ_2 eQ_f2
  refine hK9.out _ _ x4 (fun hHeld => ?_)
  clear hK9 K9
  try simp only [Act.put, lgA, lgB, lgC, lgD, lgE, lgF]
  refine wpAnyH_done (by kernel_rfl) ?_ _
  refine NoPanic.normal ?_
  go_wp2_with fail
  refine bodyPost_ret (v := .tuple #[.agg #[.slice b n c], .agg #[.string nm, .slice fb fn fc, .int .i64 t]]) (by simp [results, Tryz.results5, go_sem, fR_0, fR_f0, fQ_0, fQ_f0, fQ_1, fQ_f1, fQ_2, fQ_f2]) rfl ⟨b, n, c, db, nm, fb, fn, fc, t, x, rfl, hrd, hrx, hbF⟩

end Go.Proofs.YtpgfkjcekhifiaaGreatDoor
