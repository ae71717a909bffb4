/- Texts joined for one claim: MinI, MinJ, MinS. -/
import Derived.Test.YtpgfkjcekhifiaaGreatDoorQcff871a16e
import Derived.Test.YtpgfkjcekhifiaaGreatDoorQ92c501f38f
import Derived.Test.YtpgfkjcekhifiaaGreatDoorQe58ef1fdfa
import Derived.Test.YtpgfkjcekhifiaaGreatDoorQ172172a568
import Derived.Deep.LoopGhost
import Derived.Deep.RegionHeld3

namespace Go.Proofs.YtpgfkjcekhifiaaGreatDoor

open Go.RowKit

set_option linter.unusedVariables false

set_option linter.unusedSimpArgs false

set_option synthInstance.maxSize 2000

set_option synthInstance.maxHeartbeats 400000

def ints (ks : List Nat) : List Int := ks.map (fun (k : Nat) => (k : Int))

theorem ints_get {ks : List Nat} {j : Nat} {x : Int} (hj : j < ks.length) (h : (ints ks).getD j 0 = x) : ∃ k : Nat, x = (k : Int) ∧ ks[j]? = some k := by
  refine ⟨ks[j], ?_, List.getElem?_eq_getElem hj⟩
  rw [← h, List.getD_eq_getElem?_getD, ints, List.getElem?_map, List.getElem?_eq_getElem hj]; rfl

def subFrom (s j : Nat) : List Nat → Int
  | [] => -1
  | k :: t => if decide (k &&& s = k) then (j : Int) else subFrom s (j + 1) t

theorem subFrom_at {s j : Nat} {ks : List Nat} {k : Nat} (h : ks[j]? = some k) : subFrom s j (ks.drop j) = if decide (k &&& s = k) then (j : Int) else subFrom s (j + 1) (ks.drop (j + 1)) := by
  obtain ⟨h1, rfl⟩ := List.getElem?_eq_some_iff.1 h
  rw [List.drop_eq_getElem_cons h1]; rfl

theorem subFrom_end {s j : Nat} {ks : List Nat} (h : ks.length ≤ j) : subFrom s j (ks.drop j) = -1 := by
  rw [List.drop_eq_nil_of_le h]; rfl

theorem subFrom_all {s : Nat} : ∀ {ks : List Nat} {j : Nat}, decide (0 ≤ subFrom s j ks) = !ks.all (fun k => !decide (k &&& s = k))
  | [], j => by simp [subFrom]
  | k :: t, j => by
    unfold subFrom
    by_cases h : k &&& s = k
    · simp [h]
    · simp only [h, decide_false, Bool.false_eq_true, if_false, List.all_cons, Bool.not_false, Bool.true_and]; exact subFrom_all

theorem minFn_any (k s cb : Nat) (w : World) (hk : k < 1000) (hs : s < 1000) (hc : w.cell? ⟨cb, 0, none⟩ = some (.int .i64 (s : Int))) :
    Calls Tryz.prog 50 #[.int .i64 (k : Int), .pointer (some ⟨cb, 0, none⟩)] w fun e w' => e = .returned (.bool (decide (k &&& s = k))) ∧ w = w' := by
  have hb := bits_and_nat k s (by omega) (by omega)
  have HE : Hid ((((k &&& s : Nat) : Int) == (k : Int)) = decide (k &&& s = k)) := Lib.hid (by rw [Bool.eq_iff_iff, beq_iff_eq, decide_eq_true_eq]; omega)
  go_enter Tryz.func50, Tryz.ntmps50
  go_wp2_with fail
  go_ret
  exact ⟨ret_bool HE.out, rfl⟩

set_option maxHeartbeats 1000000 in
theorem minIdx_any (a : Option Addr) (n cap : Nat) (ks : List Nat) (s cb : Nat) (w : World) (h : Ints w a n (ints ks)) (h8 : ∀ k ∈ ks, k < 1000) (hs : s < 1000) (hcb : w.cell? ⟨cb, 0, none⟩ = some (.int .i64 (s : Int))) :
    Calls Tryz.prog 77 #[.slice a n cap, .func (.func 50) #[] #[.pointer (some ⟨cb, 0, none⟩)]] w fun e w' => e = .returned (.int .i64 (subFrom s 0 ks)) ∧ w = w' := by
  have hl := h.len
  have hn := h.small
  have hl2 : ks.length = n := by rw [← hl]; simp [ints]
  have HV : Hid (subFrom s 0 ks = subFrom s 0 (ks.drop 0)) := rfl
  have H8 := Lib.hid h8
  have HCB := Lib.hid hcb
  clear h8 hcb
  have hb0 : Below w.heap.size w w := Below.refl _ _
  go_enter Tryz.func77, Tryz.ntmps77
  go_wp2_with fail
  go_loopw [8] (fun k wr => ∃ j : Nat, j ≤ n ∧ k = .int .i64 j ∧ Hid (subFrom s 0 ks = subFrom s j (ks.drop j)) ∧ w = wr) (fun k _ => n - (intOf k).toNat)
  case atStart => exact ⟨0, Nat.zero_le _, rfl, HV.out, rfl⟩
  case round =>
    obtain ⟨j, hj, rfl, hE, rfl⟩ := hrel
    by_cases hlt : j < n
    · obtain ⟨b0, o0, x, rfl, hc, hx, _, _⟩ := h.get hlt
      obtain ⟨k, rfl, hk⟩ := ints_get (by omega) hx.out
      have c0_lt : b0 < w.heap.size := cell_lt hc
      have c0 : w.cell? ⟨b0, o0 + j, none⟩ = some (.int .i64 (k:Int)) := (hb0.cell (p := ⟨b0, o0 + j, none⟩) c0_lt).trans hc
      have HA := Lib.hid (hE.out.trans (subFrom_at hk))
      have hcall := minFn_any k s cb w (H8.out k (List.mem_of_getElem? hk)) hs HCB.out
      obtain ⟨t, ht⟩ : ∃ t, t = decide (k &&& s = k) := ⟨_, rfl⟩
      rw [← ht] at HA hcall
      have HC := Lib.hid hcall
      clear hE HV hl hl2 h hcall ht hx hc hk
      cases t with
      | false =>
        have HE := Lib.hid (show subFrom s 0 ks = subFrom s (j + 1) (ks.drop (j + 1)) by rw [HA.out]; rfl)
        go_wp2_with (go_at_call 50; refine HC.out.mono ?_; rintro e w' ⟨rfl, rfl⟩)
        go_roundw
        case rel => exact ⟨j + 1, by omega, by go_num, HE.out, trivial⟩
        case measure => simp [intOf]; omega
      | true =>
        have HE := Lib.hid (show subFrom s 0 ks = (j : Int) by rw [HA.out]; rfl)
        go_wp2_with (go_at_call 50; refine HC.out.mono ?_; rintro e w' ⟨rfl, rfl⟩)
        go_ret
        exact ⟨ret_int HE.out.symm, rfl⟩
    · have HE := Lib.hid (hE.out.trans (subFrom_end (by omega)))
      clear hE HV hl hl2 h
      go_wp2_with fail
      go_ret
      exact ⟨ret_int HE.out.symm, rfl⟩

theorem minHas_any (a : Option Addr) (n cap : Nat) (ks : List Nat) (s cb : Nat) (w : World) (h : Ints w a n (ints ks)) (h8 : ∀ k ∈ ks, k < 1000) (hs : s < 1000) (hcb : w.cell? ⟨cb, 0, none⟩ = some (.int .i64 (s : Int))) :
    Calls Tryz.prog 44 #[.slice a n cap, .func (.func 50) #[] #[.pointer (some ⟨cb, 0, none⟩)]] w fun e w' => e = .returned (.bool (!ks.all (fun k => !decide (k &&& s = k)))) ∧ w = w' := by
  have H := Lib.hid (subFrom_all (s := s) (ks := ks) (j := 0))
  have HC := Lib.hid (minIdx_any a n cap ks s cb w h h8 hs hcb)
  clear h h8 hcb
  go_enter Tryz.func44, Tryz.ntmps44
  go_wp2_with (go_at_call 77; refine HC.out.mono ?_; rintro e w' ⟨rfl, rfl⟩)
  go_ret
  exact ⟨ret_bool H.out, rfl⟩

def setsOf (ks : List Nat) : List (List Int) := ks.map (fun m => bitsTo m 3)

theorem setsOf_snoc (ks : List Nat) (s : Nat) : setsOf (ks ++ [s]) = setsOf ks ++ [bitsTo s 3] := by simp [setsOf]

theorem ints_snoc (ks : List Nat) (s : Nat) : ints (ks ++ [s]) = ints ks ++ [(s : Int)] := by simp [ints]

theorem two_next {LO cb : Nat} {W : World} {v u : Value} {xs : List (List Int)} {ys : List Int} (x : Value) (h : Two LO W.heap.size cb W v u xs ys) :
    Two LO (W.alloc (.cells #[x] 3)).heap.size W.heap.size (W.alloc (.cells #[x] 3)) v u xs ys ∧ (W.alloc (.cells #[x] 3)).cell? ⟨W.heap.size, 0, none⟩ = some x ∧ (W.alloc (.cells #[x] 3)).frozen? ⟨W.heap.size, 0, none⟩ = false := by
  have hb : Below W.heap.size W (W.alloc (.cells #[x] 3)) := (Below.refl _ _).alloc (Nat.le_refl _) _
  refine ⟨((h.below hb (Nat.le_refl _)).recb (.inl (Nat.le_refl _))).mono (by simp), box_cell (Below.refl _ _) rfl, box_frozen (Below.refl _ _)⟩

end Go.Proofs.YtpgfkjcekhifiaaGreatDoor

namespace Go.Proofs.YtpgfkjcekhifiaaGreatDoor

open Go.RowKit

set_option linter.unusedVariables false

set_option linter.unusedSimpArgs false

set_option synthInstance.maxSize 2000

set_option synthInstance.maxHeartbeats 400000

set_option maxRecDepth 100000 in
set_option maxHeartbeats 4000000 in
theorem minKeys_impl (u0 : Value) (cs : List Value) (ds : List DDp) (t : DT) (w : World) (h : rDl.rep w [u0] ds) (ht : rT.rep w cs t) (hb : bulk_Dl ds ≤ 1048576) :
    Calls Tryz.prog 16 #[u0, .agg cs.toArray] w fun e w' => ∃ u, e = .returned u ∧ Own oII w.heap.size w'.heap.size w' [u] (minKeys ds t) ∧ Below w.heap.size w w' := by
  obtain ⟨a, n, c, hv⟩ := rS_form h
  simp at hv; subst hv
  have HVT := Lib.hid (fun W (hW : Below w.heap.size w W) => validT_impl _ t W (rT.mono ht hW))
  have HIK := Lib.hid (fun (v : Value) (xs : List Int) W (hW : Below w.heap.size w W) (hx : rI.rep W [v] xs) => isKey_impl _ v cs ds t xs W (rDl.mono h hW) (rT.mono ht hW) hx hb)
  obtain ⟨ub, un, uc, rfl, hs, hi, g1⟩ := rT_open ht
  obtain ⟨key, hkey⟩ : ∃ key, key = keyM ds t := ⟨_, rfl⟩
  have HMK : Hid (minKeys ds t = if validT t then setsOf (minTo key (2 ^ t.2.1.toNat)) else []) := Lib.hid (by rw [hkey]; rfl)
  have HKE : Hid (∀ m, isKey ds t (bitsTo m 3) = key m) := Lib.hid (fun m => by rw [hkey]; rfl)
  have HAR : Hid (validT t = true → 1 ≤ t.2.1 ∧ t.2.1 ≤ 3) := Lib.hid (fun h => (TOk.of h).ar)
  obtain ⟨mk, hmk⟩ : ∃ mk, minKeys ds t = mk := ⟨_, rfl⟩
  rw [hmk] at HMK ⊢
  have HIK2 := Lib.hid (fun (v : Value) (m : Nat) W (hW : Below w.heap.size w W) (hx : rI.rep W [v] (bitsTo m 3)) => by have h9 := HIK.out v _ W hW hx; rw [HKE.out m] at h9; exact h9)
  obtain ⟨s, ar, rows⟩ := t
  simp only at hs hi g1 HVT HMK HAR HIK2
  obtain ⟨V, hV⟩ : ∃ V, validT (s, ar, rows) = V := ⟨_, rfl⟩
  rw [hV] at HVT HMK HAR
  clear hV h ht g1 hs hi hkey hmk HIK HKE
  have hb0 : Below w.heap.size w w := Below.refl _ _
  go_enter Tryz.func16, Tryz.ntmps16
  obtain ⟨w1, hw1⟩ : ∃ W, W = w.alloc (.cells #[.string s, .int .i64 ar, .slice ub un uc] 41) := ⟨_, rfl⟩
  have z1 : Below w.heap.size w w1 := by rw [hw1]; exact (Below.refl _ _).alloc (Nat.le_refl _) _
  have s1 : w1.heap.size = w.heap.size + 1 := by rw [hw1]; simp
  have hb1 := on hb0 z1
  have t_0 : w1.cell? ⟨w.heap.size, 0, none⟩ = some (.string s) := by rw [hw1]; exact box_cell (Below.refl _ _) rfl
  have t_1 : w1.cell? ⟨w.heap.size, 1, none⟩ = some (.int .i64 ar) := by rw [hw1]; exact box_cell (Below.refl _ _) rfl
  have t_2 : w1.cell? ⟨w.heap.size, 2, none⟩ = some (.slice ub un uc) := by rw [hw1]; exact box_cell (Below.refl _ _) rfl
  have raw1_t_0 := t_0
  have raw1_t_1 := t_1
  have raw1_t_2 := t_2
  rw [hw1] at raw1_t_0 raw1_t_1 raw1_t_2
  go_wp2_with fail
  rw [← hw1]
  clear hw1
  clear raw1_t_0 raw1_t_1 raw1_t_2
  refine (HVT.out _ hb1).mono ?_
  rintro e w9 ⟨rfl, z9⟩
  have s2 := z9.size
  have hb2 := on hb1 z9
  replace t_0 := bxc z9 t_0
  replace t_1 := bxc z9 t_1
  replace t_2 := bxc z9 t_2
  cases V with
  | false =>
    have HE : Hid (mk = []) := Lib.hid (by rw [HMK.out]; rfl)
    go_wp2_with fail
    go_ret
    exact ⟨_, rfl, by rw [HE.out]; exact own_nil_S.mono (Nat.le_refl _) (by omega), hb2⟩
  | true =>
    have hA := HAR.out rfl
    obtain ⟨N, rfl⟩ : ∃ N : Nat, ar = (N : Int) := ⟨ar.toNat, by omega⟩
    rw [Int.toNat_natCast] at HMK
    have hN3 : N ≤ 3 := by omega
    obtain ⟨P, hP⟩ : ∃ P, P = 2 ^ N := ⟨_, rfl⟩
    have hP8 : 2 ≤ P ∧ P ≤ 8 := by
      rw [hP]
      rcases (by omega : N = 1 ∨ N = 2 ∨ N = 3) with rfl | rfl | rfl <;> decide
    have hw : wrap64 ((2 : Int) ^ N) = (P : Int) := by
      rw [hP]
      rcases (by omega : N = 1 ∨ N = 2 ∨ N = 3) with rfl | rfl | rfl <;> (unfold wrap64; decide)
    rw [← hP] at HMK
    clear HVT HAR hA hP
    have tt0 := t_0
    have tt1 := t_1
    have tt2 := t_2
    obtain ⟨w3, hw3⟩ : ∃ W, W = w9.alloc (.cells #[] 27) := ⟨_, rfl⟩
    have z3 : Below w9.heap.size w9 w3 := by rw [hw3]; exact (Below.refl _ _).alloc (Nat.le_refl _) _
    have s3 : w3.heap.size = w9.heap.size + 1 := by rw [hw3]; simp
    have hb3 := on hb2 z3
    replace t_0 := bxc z3 t_0
    replace t_1 := bxc z3 t_1
    replace t_2 := bxc z3 t_2
    have ho : ∀ S, Acc 27 oI w9.heap.size S w3.heap.size w3 (.slice (some ⟨w9.heap.size, 0, none⟩) 0 0) [] := fun S => by rw [hw3]; exact Acc.empty (by omega) (by first | (simp; done) | (simp; omega))
    have raw3_t_0 := t_0
    have raw3_t_1 := t_1
    have raw3_t_2 := t_2
    rw [hw3] at raw3_t_0 raw3_t_1 raw3_t_2
    obtain ⟨w4, hw4⟩ : ∃ W, W = w3.alloc (.cells #[] 3) := ⟨_, rfl⟩
    have z4 : Below w3.heap.size w3 w4 := by rw [hw4]; exact (Below.refl _ _).alloc (Nat.le_refl _) _
    have s4 : w4.heap.size = w3.heap.size + 1 := by rw [hw4]; simp
    have hb4 := on hb3 z4
    replace t_0 := bxc z4 t_0
    replace t_1 := bxc z4 t_1
    replace t_2 := bxc z4 t_2
    replace ho := fun S => (ho S).below z4 (by omega)
    have hk : ∀ S, Acc 3 O.int w3.heap.size S w4.heap.size w4 (.slice (some ⟨w9.heap.size + 1, 0, none⟩) 0 0) [] := fun S => by rw [hw4]; exact Acc.empty (by omega) (by first | (simp; done) | (simp; omega))
    have raw4_t_0 := t_0
    have raw4_t_1 := t_1
    have raw4_t_2 := t_2
    rw [hw4, hw3] at raw4_t_0 raw4_t_1 raw4_t_2
    obtain ⟨w5, hw5⟩ : ∃ W, W = w4.alloc (.cells #[.int .i64 0] 3) := ⟨_, rfl⟩
    have z5 : Below w4.heap.size w4 w5 := by rw [hw5]; exact (Below.refl _ _).alloc (Nat.le_refl _) _
    have s5 : w5.heap.size = w4.heap.size + 1 := by rw [hw5]; simp
    have hb5 := on hb4 z5
    replace t_0 := bxc z5 t_0
    replace t_1 := bxc z5 t_1
    replace t_2 := bxc z5 t_2
    replace ho := fun S => (ho S).below z5 (by omega)
    replace hk := fun S => (hk S).below z5 (by omega)
    have e5 : w4.heap.size = w9.heap.size + 1 + 1 := by omega
    have c_0 : w5.cell? ⟨w4.heap.size, 0, none⟩ = some (.int .i64 0) := by rw [hw5]; exact box_cell (Below.refl _ _) rfl
    rw [e5] at c_0
    have c_f0 : w5.frozen? ⟨w4.heap.size, 0, none⟩ = false := by rw [hw5]; exact box_frozen (Below.refl _ _)
    rw [e5] at c_f0
    have raw5_t_0 := t_0
    have raw5_t_1 := t_1
    have raw5_t_2 := t_2
    have raw5_c_0 := c_0
    rw [hw5, hw4, hw3] at raw5_t_0 raw5_t_1 raw5_t_2 raw5_c_0
    have hTwo : Two w9.heap.size w5.heap.size (w9.heap.size + 1 + 1) w5 (.slice (some ⟨w9.heap.size, 0, none⟩) 0 0) (.slice (some ⟨w9.heap.size + 1, 0, none⟩) 0 0) (setsOf (minTo key 0)) (ints (minTo key 0)) := by
      have o1 := (ho w5.heap.size).own (B := w9.heap.size) (hi' := w9.heap.size + 1) (Nat.le_refl _) (by omega) (by omega)
      have o2 := (hk w5.heap.size).own (B := w9.heap.size + 1) (hi' := w9.heap.size + 2) (by omega) (by omega) (by omega)
      exact (Two.mk o1 o2 (.inr (Nat.le_refl _)) (by omega) (by omega)).mono (by omega)
    have hbT : Below w9.heap.size w9 w5 := (z3.trans (z4.mono (by omega))).trans (z5.mono (by omega))
    clear ho hk
    go_wp2_with fail
    rw [← hw3]
    rw [← hw4]
    rw [← hw5]
    clear hw5 hw4 hw3
    clear raw3_t_0 raw3_t_1 raw3_t_2 raw4_t_0 raw4_t_1 raw4_t_2 raw5_t_0 raw5_t_1 raw5_t_2 raw5_c_0
    go_loopg [5, 6, 7] P (fun g v u p wr => ∃ (m cb : Nat), g = P - m ∧ m ≤ P ∧ p = .pointer (some ⟨cb, 0, none⟩) ∧ wr.cell? ⟨cb, 0, none⟩ = some (.int .i64 (m : Int)) ∧ wr.frozen? ⟨cb, 0, none⟩ = false ∧ cb < wr.heap.size ∧ Two w9.heap.size wr.heap.size cb wr v u (setsOf (minTo key m)) (ints (minTo key m)) ∧ Below w9.heap.size w9 wr)
    case atStart => exact ⟨0, _, by omega, Nat.zero_le _, rfl, c_0, c_f0, by omega, hTwo, hbT⟩
    case round =>
      obtain ⟨m, cb, rfl, hm, rfl, hc, hf, hcb, hTw, hdr⟩ := hrel
      have hlc := hdr
      clear hTwo hbT
      clear c_0 c_f0
      clear t_0 t_1 t_2
      have t_0 := tt0
      have t_1 := tt1
      have t_2 := tt2
      have hTa := hb2
      clear tt0 tt1 tt2
      have s6 := hdr.size
      have hb6 := on hTa hdr
      replace t_0 := bxc hdr t_0
      replace t_1 := bxc hdr t_1
      replace t_2 := bxc hdr t_2
      have cc := hc
      obtain ⟨va, vn, vc, rfl⟩ := oII_form1 hTw.fst
      obtain ⟨ka, kn, kc, rfl⟩ := oI_form1 hTw.snd
      have hmn := minTo_len (key := key) m
      have hml : (minTo key m).length ≤ 8 := by omega
      have HLT := Lib.hid (fun k (h9 : k ∈ minTo key m) => show k < 1000 by have := minTo_lt h9; omega)
      clear hc hmn
      by_cases hlt : m < P
      · have hd9 : decide (m < P) = true := by simpa using hlt
        go_wp2_with fail
        refine wp_region_quiet_lit (by kernel_rfl) (by kernel_rfl) ?_
        repeat (go_big_quiet_step (fail))
        refine wpQuiet_nil ?_
        intro W8 hW8
        replace hW8 : Drew wr W8 := hW8
        have hf8 : W8.frozen? ⟨cb, 0, none⟩ = false := ((hW8.below wr.heap.size).frozen (p := ⟨cb, 0, none⟩) hcb).trans hf
        replace hW8 : Below wr.heap.size wr W8 := hW8.below _
        have s7 := hW8.size
        have hb7 := on hb6 hW8
        replace t_0 := bxc hW8 t_0
        replace t_1 := bxc hW8 t_1
        replace t_2 := bxc hW8 t_2
        replace hlc := on hlc hW8
        replace hTw := hTw.below hW8 (by omega)
        replace cc := bxc hW8 cc
        have hcb8 : cb < W8.heap.size := by omega
        have hh9 := minHas_any ka kn kc (minTo key m) m cb W8 (rI_ints (hTw.snd.rd reads_I)) HLT.out (by omega) cc
        obtain ⟨al, hal⟩ : ∃ al, (minTo key m).all (fun k => !decide (k &&& m = k)) = al := ⟨_, rfl⟩
        rw [hal] at hh9
        have HH9 := Lib.hid hh9
        have HAL := Lib.hid hal
        clear hh9 hal hd9
        cases al with
        | false =>
          have HN : Hid (minTo key (m + 1) = minTo key m) := Lib.hid (minTo_no1 HAL.out)
          go_wp2_with (go_at_call 44; refine HH9.out.mono ?_; rintro e w' ⟨rfl, rfl⟩)
          refine wp_region_noPanic ?_
          refine wp_region_held_drew (S := (fun W => W.cell? ⟨w.heap.size, 0, none⟩ = some (.string s) ∧ W.cell? ⟨w.heap.size, 1, none⟩ = some (.int .i64 (N : Int)) ∧ W.cell? ⟨w.heap.size, 2, none⟩ = some (.slice ub un uc) ∧ W.cell? ⟨cb, 0, none⟩ = some (.int .i64 (m : Int)))) (by kernel_rfl) ?hS8 (fun hHeld => ?_)
          case hS8 => exact ⟨t_0, t_1, t_2, cc⟩
          refine wpAnyH_take (i := 0) (v := ?v0_9) rfl (by kernel_rfl) (by kernel_rfl) (by kernel_rfl) (fun _ _ _ h => h) (Or.inl ⟨by rfl, ?hy0_9⟩) (by assumption) ?rest0_9
          case hy0_9 => intro w hSw; (try dsimp only at hSw); go_simp; (try with_reducible rfl)
          try simp only [Act.put, lgA, lgB, lgC, lgD, lgE, lgF]
          refine wpAnyH_take (i := 1) (v := ?v1_10) rfl (by kernel_rfl) (by kernel_rfl) (by kernel_rfl) (fun _ _ _ h => h) (Or.inl ⟨by rfl, ?hy1_10⟩) (by assumption) ?rest1_10
          case hy1_10 => intro w hSw; (try dsimp only at hSw); go_simp; (try with_reducible rfl)
          try simp only [Act.put, lgA, lgB, lgC, lgD, lgE, lgF]
          refine wpAnyH_take (i := 2) (v := undef) rfl (by kernel_rfl) (by kernel_rfl) (by kernel_rfl) (fun _ _ _ h => h) (Or.inr ⟨by rfl, rfl⟩) (by assumption) ?_
          try simp only [Act.put, lgA, lgB, lgC, lgD, lgE, lgF]
          refine wpAnyH_take (i := 3) (v := undef) rfl (by kernel_rfl) (by kernel_rfl) (by kernel_rfl) (fun _ _ _ h => h) (Or.inr ⟨by rfl, rfl⟩) (by assumption) ?_
          try simp only [Act.put, lgA, lgB, lgC, lgD, lgE, lgF]
          refine wpAnyH_take (i := 4) (v := undef) rfl (by kernel_rfl) (by kernel_rfl) (by kernel_rfl) (fun _ _ _ h => h) (Or.inr ⟨by rfl, rfl⟩) (by assumption) ?_
          try simp only [Act.put, lgA, lgB, lgC, lgD, lgE, lgF]
          refine wpAnyH_take (i := 5) (v := undef) rfl (by kernel_rfl) (by kernel_rfl) (by kernel_rfl) (fun _ _ _ h => h) (Or.inr ⟨by rfl, rfl⟩) (by assumption) ?_
          try simp only [Act.put, lgA, lgB, lgC, lgD, lgE, lgF]
          refine wpAnyH_take (i := 6) (v := undef) rfl (by kernel_rfl) (by kernel_rfl) (by kernel_rfl) (fun _ _ _ h => h) (Or.inr ⟨by rfl, rfl⟩) (by assumption) ?_
          try simp only [Act.put, lgA, lgB, lgC, lgD, lgE, lgF]
          refine wpAnyH_take (i := 7) (v := ?v7_11) rfl (by kernel_rfl) (by kernel_rfl) (by kernel_rfl) (fun _ _ _ h => h) (Or.inl ⟨by rfl, ?hy7_11⟩) (by assumption) ?rest7_11
          case hy7_11 => intro w hSw; (try dsimp only at hSw); go_simp; (try with_reducible rfl)
          try simp only [Act.put, lgA, lgB, lgC, lgD, lgE, lgF]
          refine wpAnyH_done (by kernel_rfl) ?_ _
          refine NoPanic.normal ?_
          have hd8 : Below W8.heap.size W8 W8.drew := (Below.refl _ _).drew
          obtain ⟨W9, hW9⟩ : ∃ W, W = W8.drew := ⟨_, rfl⟩
          rw [← hW9] at hd8
          have cc9 : W9.cell? ⟨cb, 0, none⟩ = some (.int .i64 (m : Int)) := (hd8.cell (p := ⟨cb, 0, none⟩) hcb8).trans cc
          have hz9 : W8.heap.size ≤ W9.heap.size := hd8.size
          rw [← hW9]
          clear hW9 HH9
          have hn9 := two_next (.int .i64 ((m : Int) + 1)) ((hTw.below hd8 (by omega)).mono (show _ ≤ W9.heap.size by omega))
          have hl9 : Below w9.heap.size w9 (W9.alloc (.cells #[.int .i64 ((m : Int) + 1)] 3)) := (hlc.trans (hd8.mono (by omega))).alloc (by omega) _
          have HN9 := Lib.hid hn9
          have HL9 := Lib.hid hl9
          clear hn9 hl9 hTw
          go_wp2_with fail
          go_roundg (P - (m + 1))
          case measure => omega
          case rel => exact ⟨m + 1, W9.heap.size, rfl, by omega, rfl, by simp, HN9.out.2.2, by simp, by rw [HN.out]; exact HN9.out.1, HL9.out⟩
        | true =>
          obtain ⟨kk, hkk⟩ : ∃ kk, key m = kk := ⟨_, rfl⟩
          have HK1 : Hid (∀ (v : Value) W, Below w.heap.size w W → rI.rep W [v] (bitsTo m 3) → Calls Tryz.prog 19 #[.slice a n c, .agg #[.string s, .int .i64 (N : Int), .slice ub un uc], v] W fun e w' => e = .returned (.bool kk) ∧ Below W.heap.size W w') := Lib.hid (fun v W h1 h2 => by rw [← hkk]; exact HIK2.out v m W h1 h2)
          have HKK := Lib.hid hkk
          clear hkk
          have hb8 := hb7
          go_wp2_with (go_at_call 44; refine HH9.out.mono ?_; rintro e w' ⟨rfl, rfl⟩)
          clear HH9
          refine wp_region_noPanic ?_
          refine wp_region_held_drew (S := (fun W => W.cell? ⟨w.heap.size, 0, none⟩ = some (.string s) ∧ W.cell? ⟨w.heap.size, 1, none⟩ = some (.int .i64 (N : Int)) ∧ W.cell? ⟨w.heap.size, 2, none⟩ = some (.slice ub un uc) ∧ W.cell? ⟨cb, 0, none⟩ = some (.int .i64 (m : Int)))) (by kernel_rfl) ?hS12 (fun hHeld => ?_)
          case hS12 => exact ⟨t_0, t_1, t_2, cc⟩
          refine wpAnyH_take (i := 0) (v := ?v0_13) rfl (by kernel_rfl) (by kernel_rfl) (by kernel_rfl) (fun _ _ _ h => h) (Or.inl ⟨by rfl, ?hy0_13⟩) (by assumption) ?rest0_13
          case hy0_13 => intro w hSw; (try dsimp only at hSw); go_simp; (try with_reducible rfl)
          try simp only [Act.put, lgA, lgB, lgC, lgD, lgE, lgF]
          refine wpAnyH_take (i := 1) (v := ?v1_14) rfl (by kernel_rfl) (by kernel_rfl) (by kernel_rfl) (fun _ _ _ h => h) (Or.inl ⟨by rfl, ?hy1_14⟩) (by assumption) ?rest1_14
          case hy1_14 => intro w hSw; (try dsimp only at hSw); go_simp; (try with_reducible rfl)
          try simp only [Act.put, lgA, lgB, lgC, lgD, lgE, lgF]
          refine wpAnyH_take (i := 2) (v := ?v2_15) rfl (by kernel_rfl) (by kernel_rfl) (by kernel_rfl) (fun _ _ _ h => h) (Or.inl ⟨by rfl, ?hy2_15⟩) (by assumption) ?rest2_15
          case hy2_15 => intro w hSw; (try dsimp only at hSw); go_simp; (try with_reducible rfl)
          try simp only [Act.put, lgA, lgB, lgC, lgD, lgE, lgF]
          refine wpAnyH_take (i := 3) (v := ?v3_16) rfl (by kernel_rfl) (by kernel_rfl) (by kernel_rfl) (fun _ _ _ h => h) (Or.inl ⟨by rfl, ?hy3_16⟩) (by assumption) ?rest3_16
          case hy3_16 => intro w hSw; (try dsimp only at hSw); go_simp; (try with_reducible rfl)
          try simp only [Act.put, lgA, lgB, lgC, lgD, lgE, lgF]
          refine wpAnyH_take (i := 4) (v := ?v4_17) rfl (by kernel_rfl) (by kernel_rfl) (by kernel_rfl) (fun _ _ _ h => h) (Or.inl ⟨by rfl, ?hy4_17⟩) (by assumption) ?rest4_17
          case hy4_17 => intro w hSw; (try dsimp only at hSw); go_simp; (try with_reducible rfl)
          try simp only [Act.put, lgA, lgB, lgC, lgD, lgE, lgF]
          refine wpAnyH_ready (rs := [5]) (by kernel_rfl) (by simp) ?_
          refine AllReadyH.cons rfl (fun K hK => ?_) AllReadyH.nil
          go_simp; (refine (bitsOf_any m _ (by omega)).mono ?_); rintro e wA ⟨bb, bn, bc, rfl, ob, zA⟩; replace zA : Below W8.heap.size W8 wA := on (Below.refl _ _).drew zA; have sA := zA.size; have hbA := on hb8 zA; have hSA := (⟨(zA.cell (p := ⟨w.heap.size, 0, none⟩) (by simp only []; omega)).trans t_0, (zA.cell (p := ⟨w.heap.size, 1, none⟩) (by simp only []; omega)).trans t_1, (zA.cell (p := ⟨w.heap.size, 2, none⟩) (by simp only []; omega)).trans t_2, (zA.cell (p := ⟨cb, 0, none⟩) (by simp only []; omega)).trans cc⟩ : (fun W => W.cell? ⟨w.heap.size, 0, none⟩ = some (.string s) ∧ W.cell? ⟨w.heap.size, 1, none⟩ = some (.int .i64 (N : Int)) ∧ W.cell? ⟨w.heap.size, 2, none⟩ = some (.slice ub un uc) ∧ W.cell? ⟨cb, 0, none⟩ = some (.int .i64 (m : Int))) wA)
          refine hK.out _ _ ?_ (fun hHeld => ?_)
          · exact hSA
          clear hK K
          try simp only [Act.put, List.setIfInBounds_toArray, List.set_cons_zero, List.set_cons_succ]
          refine wpAnyH_ready (rs := [6]) (by kernel_rfl) (by simp) ?_
          refine AllReadyH.cons rfl (fun K hK => ?_) AllReadyH.nil
          go_simp; (refine (HK1.out _ _ hbA (ob.own.rd reads_I)).mono ?_); rintro e wB ⟨rfl, zB⟩; have sB := zB.size; have hbB := on hbA zB; have hSB := (⟨(zB.cell (p := ⟨w.heap.size, 0, none⟩) (by simp only []; omega)).trans hSA.1, (zB.cell (p := ⟨w.heap.size, 1, none⟩) (by simp only []; omega)).trans hSA.2.1, (zB.cell (p := ⟨w.heap.size, 2, none⟩) (by simp only []; omega)).trans hSA.2.2.1, (zB.cell (p := ⟨cb, 0, none⟩) (by simp only []; omega)).trans hSA.2.2.2⟩ : (fun W => W.cell? ⟨w.heap.size, 0, none⟩ = some (.string s) ∧ W.cell? ⟨w.heap.size, 1, none⟩ = some (.int .i64 (N : Int)) ∧ W.cell? ⟨w.heap.size, 2, none⟩ = some (.slice ub un uc) ∧ W.cell? ⟨cb, 0, none⟩ = some (.int .i64 (m : Int))) wB)
          refine hK.out _ _ ?_ (fun hHeld => ?_)
          · exact hSB
          clear hK K
          try simp only [Act.put, List.setIfInBounds_toArray, List.set_cons_zero, List.set_cons_succ]
          refine wpAnyH_take (i := 7) (v := ?v7_18) rfl (by kernel_rfl) (by kernel_rfl) (by kernel_rfl) (fun _ _ _ h => h) (Or.inl ⟨by rfl, ?hy7_18⟩) (by assumption) ?rest7_18
          case hy7_18 => intro w hSw; (try dsimp only at hSw); go_simp; (try with_reducible rfl)
          try simp only [Act.put, lgA, lgB, lgC, lgD, lgE, lgF]
          refine wpAnyH_done (by kernel_rfl) ?_ _
          refine NoPanic.normal ?_
          have z8B := on zA zB
          have ccB := hSB.2.2.2
          have hTB := (hTw.below z8B (by omega)).mono (show _ ≤ wB.heap.size by omega)
          have hlB := hlc.trans (z8B.mono (by omega))
          clear hTw hSA hSB ob HK1
          cases kk with
          | false =>
            have HN : Hid (minTo key (m + 1) = minTo key m) := Lib.hid (minTo_no2 HKK.out)
            have hn9 := two_next (.int .i64 ((m : Int) + 1)) hTB
            have hl9 : Below w9.heap.size w9 (wB.alloc (.cells #[.int .i64 ((m : Int) + 1)] 3)) := hlB.alloc (by omega) _
            have HN9 := Lib.hid hn9
            have HL9 := Lib.hid hl9
            clear hn9 hl9 hTB
            go_wp2_with fail
            go_roundg (P - (m + 1))
            case measure => omega
            case rel => exact ⟨m + 1, wB.heap.size, rfl, by omega, rfl, by simp, HN9.out.2.2, by simp, by rw [HN.out]; exact HN9.out.1, HL9.out⟩
          | true =>
            have HN : Hid (minTo key (m + 1) = minTo key m ++ [m]) := Lib.hid (minTo_yes HAL.out HKK.out)
            have hcbB : cb < wB.heap.size := by omega
            obtain ⟨ka2, kn2, kc2, wk, hrk, hTk, hbk, hzk, hck⟩ := Two.num 27 hTB (r := (m : Int)) ⟨by omega, by omega⟩ (Nat.le_refl _) hcbB (by omega) (by simp [ints]; omega) rfl
            have cck : wk.cell? ⟨cb, 0, none⟩ = some (.int .i64 (m : Int)) := (World.cell?_of_block (a := ⟨cb, 0, none⟩) hck).trans ccB
            go_wp2_with ((at_builtin; refine wpList_app_run hrk rfl rfl rfl rfl rfl ?_))
            refine (bitsOf_any m wk (by omega)).mono ?_
            rintro e wL ⟨lb, ln, lc, rfl, ol, zL⟩
            have sL := zL.size
            obtain ⟨va2, vn2, vc2, wO, hrO, hTO, hbO, hzO, hcO⟩ := Two.row 39 (hTk.below zL (Nat.le_refl _)) ol.own rfl (Nat.le_refl _) sL (Nat.le_refl _) (show cb < wk.heap.size by omega) (by omega) (by simp [setsOf]; omega) rfl
            have ccL : wL.cell? ⟨cb, 0, none⟩ = some (.int .i64 (m : Int)) := (zL.cell (p := ⟨cb, 0, none⟩) (by simp only []; omega)).trans cck
            have ccO : wO.cell? ⟨cb, 0, none⟩ = some (.int .i64 (m : Int)) := (World.cell?_of_block (a := ⟨cb, 0, none⟩) hcO).trans ccL
            have hlO := ((hlB.trans hbk).trans (zL.mono (by omega))).trans hbO
            have hn9 := two_next (.int .i64 ((m : Int) + 1)) hTO
            have hl9 : Below w9.heap.size w9 (wO.alloc (.cells #[.int .i64 ((m : Int) + 1)] 3)) := hlO.alloc (by omega) _
            rw [← setsOf_snoc, ← ints_snoc, ← HN.out] at hn9
            have HN9 := Lib.hid hn9
            have HL9 := Lib.hid hl9
            clear hn9 hl9 hTO hTk hTB ol
            go_wp2_with ((at_builtin; refine wpList_app_run hrO rfl rfl rfl rfl rfl ?_))
            go_roundg (P - (m + 1))
            case measure => omega
            case rel => exact ⟨m + 1, wO.heap.size, rfl, by omega, rfl, by simp, HN9.out.2.2, by simp, HN9.out.1, HL9.out⟩
      · have hmP : m = P := by omega
        have hd9 : decide (m < P) = false := by simpa using hlt
        have HE : Hid (mk = setsOf (minTo key m)) := Lib.hid (by rw [HMK.out, hmP]; rfl)
        go_wp2_with fail
        refine wp_region_quiet_lit (by kernel_rfl) (by kernel_rfl) ?_
        repeat (go_big_quiet_step (fail))
        refine wpQuiet_nil ?_
        intro W8 hW8
        replace hW8 : Drew wr W8 := hW8
        replace hW8 : Below wr.heap.size wr W8 := hW8.below _
        have s19 := hW8.size
        have hb19 := on hb6 hW8
        replace t_0 := bxc hW8 t_0
        replace t_1 := bxc hW8 t_1
        replace t_2 := bxc hW8 t_2
        replace hlc := on hlc hW8
        replace hTw := hTw.below hW8 (by omega)
        replace cc := bxc hW8 cc
        have HO := Lib.hid (hTw.fst.mono (lo' := w.heap.size) (hi' := W8.heap.size) (by omega) (by omega))
        clear hTw hmP
        go_wp2_with fail
        go_ret
        exact ⟨_, rfl, by rw [HE.out]; exact HO.out, hb19⟩

end Go.Proofs.YtpgfkjcekhifiaaGreatDoor

namespace Go.Proofs.YtpgfkjcekhifiaaGreatDoor

open Go.RowKit

set_option linter.unusedVariables false

set_option linter.unusedSimpArgs false

set_option synthInstance.maxSize 2000

set_option synthInstance.maxHeartbeats 400000

theorem min_no {key : Nat → Bool} {m : Nat} {al kk : Bool} (h : (minTo key m).all (fun k => !decide (k &&& m = k)) = al) (h' : key m = kk) (h1 : false = (kk && al)) : minTo key (m + 1) = minTo key m := by
  cases al
  · exact minTo_no1 h
  · rw [Bool.and_true] at h1; exact minTo_no2 (h'.trans h1.symm)

theorem min_yes {key : Nat → Bool} {m : Nat} {al kk : Bool} (h : (minTo key m).all (fun k => !decide (k &&& m = k)) = al) (h' : key m = kk) (h1 : true = (kk && al)) : minTo key (m + 1) = minTo key m ++ [m] := by
  cases al
  · rw [Bool.and_false] at h1; cases h1
  · rw [Bool.and_true] at h1; exact minTo_yes h (h'.trans h1.symm)

theorem wrap_pow3' {j : Nat} (h : j < 3) : IntKind.i64.wrap ((2 : Int) ^ j) = ((2 ^ j : Nat) : Int) := by
  rcases (by omega : j = 0 ∨ j = 1 ∨ j = 2) with rfl | rfl | rfl <;> rfl

theorem l12Set_sub (m Q : Nat) (h : Q ≤ m) (hm : m < 9223372036854775808) (w : World) :
    Calls Tryz.prog 53 #[.int .i64 ((m : Int) - (Q : Int))] w fun e w' => ∃ b n c, e = .returned (.slice b n c) ∧ OwnInts w.heap.size w' (.slice b n c) n (bitsTo (m - Q) 3) ∧ Below w.heap.size w w' := by
  have h9 := l12Set_any (m - Q) w (by omega)
  rw [show ((m - Q : Nat) : Int) = (m : Int) - (Q : Int) by omega] at h9
  exact h9

theorem less_of {m j : Nat} (hm : m < 8) (hj : j < 3) (h : bitAt m j = true) : 2 ^ j ≤ m := by
  have h9 := (less_sub ⟨m, hm⟩ ⟨j, hj⟩ h).1
  simpa using h9

set_option maxRecDepth 100000 in
set_option maxHeartbeats 4000000 in
theorem minKeys_spec (u0 : Value) (cs : List Value) (ds : List DDp) (t : DT) (w : World) (h : rDl.rep w [u0] ds) (ht : rT.rep w cs t) :
    Calls Tryz.prog 18 #[u0, .agg cs.toArray] w fun e w' => ∃ u, e = .returned u ∧ Own oII w.heap.size w'.heap.size w' [u] (minKeys ds t) ∧ Below w.heap.size w w' := by
  obtain ⟨a, n, c, hv⟩ := rS_form h
  simp at hv; subst hv
  have HVT := Lib.hid (fun W (hW : Below w.heap.size w W) => validT_spec _ t W (rT.mono ht hW))
  have HIK := Lib.hid (fun (v : Value) (xs : List Int) W (hW : Below w.heap.size w W) (hx : rI.rep W [v] xs) => isKey_spec _ v cs ds t xs W (rDl.mono h hW) (rT.mono ht hW) hx)
  obtain ⟨ub, un, uc, rfl, hs, hi, g1⟩ := rT_open ht
  obtain ⟨key, hkey⟩ : ∃ key, key = keyM ds t := ⟨_, rfl⟩
  have HMK : Hid (minKeys ds t = if validT t then setsOf (minTo key (2 ^ t.2.1.toNat)) else []) := Lib.hid (by rw [hkey]; rfl)
  have HKE : Hid (∀ m, isKey ds t (bitsTo m 3) = key m) := Lib.hid (fun m => by rw [hkey]; rfl)
  have HAR : Hid (validT t = true → 1 ≤ t.2.1 ∧ t.2.1 ≤ 3) := Lib.hid (fun h => (TOk.of h).ar)
  obtain ⟨mk, hmk⟩ : ∃ mk, minKeys ds t = mk := ⟨_, rfl⟩
  rw [hmk] at HMK ⊢
  have HIK2 := Lib.hid (fun (v : Value) (m : Nat) W (hW : Below w.heap.size w W) (hx : rI.rep W [v] (bitsTo m 3)) => by have h9 := HIK.out v _ W hW hx; rw [HKE.out m] at h9; exact h9)
  obtain ⟨s, ar, rows⟩ := t
  simp only at hs hi g1 HVT HMK HAR HIK2
  obtain ⟨V, hV⟩ : ∃ V, validT (s, ar, rows) = V := ⟨_, rfl⟩
  rw [hV] at HVT HMK HAR
  clear hV h ht g1 hs hi hkey hmk HIK HKE
  have hb0 : Below w.heap.size w w := Below.refl _ _
  go_enter Tryz.func18, Tryz.ntmps18
  obtain ⟨w1, hw1⟩ : ∃ W, W = w.alloc (.cells #[.string s, .int .i64 ar, .slice ub un uc] 41) := ⟨_, rfl⟩
  have z1 : Below w.heap.size w w1 := by rw [hw1]; exact (Below.refl _ _).alloc (Nat.le_refl _) _
  have s1 : w1.heap.size = w.heap.size + 1 := by rw [hw1]; simp
  have hb1 := on hb0 z1
  have t_0 : w1.cell? ⟨w.heap.size, 0, none⟩ = some (.string s) := by rw [hw1]; exact box_cell (Below.refl _ _) rfl
  have t_1 : w1.cell? ⟨w.heap.size, 1, none⟩ = some (.int .i64 ar) := by rw [hw1]; exact box_cell (Below.refl _ _) rfl
  have t_2 : w1.cell? ⟨w.heap.size, 2, none⟩ = some (.slice ub un uc) := by rw [hw1]; exact box_cell (Below.refl _ _) rfl
  have raw1_t_0 := t_0
  have raw1_t_1 := t_1
  have raw1_t_2 := t_2
  rw [hw1] at raw1_t_0 raw1_t_1 raw1_t_2
  obtain ⟨w2, hw2⟩ : ∃ W, W = w1.alloc (.cells #[] 27) := ⟨_, rfl⟩
  have z2 : Below w1.heap.size w1 w2 := by rw [hw2]; exact (Below.refl _ _).alloc (Nat.le_refl _) _
  have s2 : w2.heap.size = w1.heap.size + 1 := by rw [hw2]; simp
  have hb2 := on hb1 z2
  replace t_0 := bxc z2 t_0
  replace t_1 := bxc z2 t_1
  replace t_2 := bxc z2 t_2
  have ho : ∀ S, Acc 27 oI w1.heap.size S w2.heap.size w2 (.slice (some ⟨w.heap.size + 1, 0, none⟩) 0 0) [] := fun S => by rw [hw2]; exact Acc.empty (by omega) (by first | (simp; done) | (simp; omega))
  have raw2_t_0 := t_0
  have raw2_t_1 := t_1
  have raw2_t_2 := t_2
  rw [hw2, hw1] at raw2_t_0 raw2_t_1 raw2_t_2
  obtain ⟨w3, hw3⟩ : ∃ W, W = w2.alloc (.cells #[] 3) := ⟨_, rfl⟩
  have z3 : Below w2.heap.size w2 w3 := by rw [hw3]; exact (Below.refl _ _).alloc (Nat.le_refl _) _
  have s3 : w3.heap.size = w2.heap.size + 1 := by rw [hw3]; simp
  have hb3 := on hb2 z3
  replace t_0 := bxc z3 t_0
  replace t_1 := bxc z3 t_1
  replace t_2 := bxc z3 t_2
  replace ho := fun S => (ho S).below z3 (by omega)
  have hk : ∀ S, Acc 3 O.int w2.heap.size S w3.heap.size w3 (.slice (some ⟨w.heap.size + 1 + 1, 0, none⟩) 0 0) [] := fun S => by rw [hw3]; exact Acc.empty (by omega) (by first | (simp; done) | (simp; omega))
  have raw3_t_0 := t_0
  have raw3_t_1 := t_1
  have raw3_t_2 := t_2
  rw [hw3, hw2, hw1] at raw3_t_0 raw3_t_1 raw3_t_2
  have o1 := (ho w3.heap.size).own (B := w1.heap.size) (hi' := w1.heap.size + 1) (Nat.le_refl _) (by omega) (by omega)
  have o2 := (hk w3.heap.size).own (B := w1.heap.size + 1) (hi' := w1.heap.size + 2) (by omega) (by omega) (by omega)
  have hTw : Two w1.heap.size w3.heap.size w.heap.size w3 (.slice (some ⟨w.heap.size + 1, 0, none⟩) 0 0) (.slice (some ⟨w.heap.size + 1 + 1, 0, none⟩) 0 0) (setsOf (minTo key 0)) (ints (minTo key 0)) := by
    exact Two.mono (hi := w1.heap.size + 2) (Two.mk (mid := w1.heap.size + 1) o1 o2 (.inl (by omega)) (by omega) (by omega)) (by omega)
  have hbT : Below w1.heap.size w1 w3 := z2.trans (z3.mono (by omega))
  clear o1 o2 ho hk
  go_wp2_with fail
  rw [← hw1]
  rw [← hw2]
  rw [← hw3]
  clear hw3 hw2 hw1
  clear raw1_t_0 raw1_t_1 raw1_t_2 raw2_t_0 raw2_t_1 raw2_t_2 raw3_t_0 raw3_t_1 raw3_t_2
  refine (HVT.out _ hb3).mono ?_
  rintro e w9 ⟨rfl, z9⟩
  have s4 := z9.size
  have hb4 := on hb3 z9
  replace t_0 := bxc z9 t_0
  replace t_1 := bxc z9 t_1
  replace t_2 := bxc z9 t_2
  replace hTw := hTw.below z9 (by omega)
  replace hbT := on hbT z9
  cases V with
  | false =>
    have HE : Hid (mk = []) := Lib.hid (by rw [HMK.out]; rfl)
    have HO := Lib.hid (hTw.fst.mono (lo' := w.heap.size) (hi' := w9.heap.size) (by omega) (by omega))
    clear hTw
    go_wp2_with fail
    go_ret
    exact ⟨_, rfl, by rw [HE.out]; exact HO.out, hb4⟩
  | true =>
    have hA := HAR.out rfl
    obtain ⟨N, rfl⟩ : ∃ N : Nat, ar = (N : Int) := ⟨ar.toNat, by omega⟩
    rw [Int.toNat_natCast] at HMK
    have hN3 : N ≤ 3 := by omega
    obtain ⟨P, hP⟩ : ∃ P, P = 2 ^ N := ⟨_, rfl⟩
    have hP8 : 2 ≤ P ∧ P ≤ 8 := by
      rw [hP]
      rcases (by omega : N = 1 ∨ N = 2 ∨ N = 3) with rfl | rfl | rfl <;> decide
    have hw : wrap64 ((2 : Int) ^ N) = (P : Int) := by
      rw [hP]
      rcases (by omega : N = 1 ∨ N = 2 ∨ N = 3) with rfl | rfl | rfl <;> (unfold wrap64; decide)
    rw [← hP] at HMK
    clear HVT HAR hA hP
    go_wp2_with fail
    have hcur : Below w9.heap.size w9 w9 := Below.refl _ _
    have HTw0 : Two w1.heap.size w9.heap.size w.heap.size w9 (.slice (some ⟨w.heap.size + 1, 0, none⟩) 0 0) (.slice (some ⟨w.heap.size + 1 + 1, 0, none⟩) 0 0) (setsOf (minTo key 0)) (ints (minTo key 0)) := hTw.mono (by omega)
    have hbT0 := hbT
    have t0a := t_0
    have t1a := t_1
    have t2a := t_2
    clear hTw
    go_loopw [5, 6, 7] (fun v u p wr => ∃ m : Nat, m ≤ P ∧ p = .int .i64 m ∧ Two w1.heap.size wr.heap.size w.heap.size wr v u (setsOf (minTo key m)) (ints (minTo key m)) ∧ (wr.cell? ⟨w.heap.size, 0, none⟩ = some (.string s) ∧ wr.cell? ⟨w.heap.size, 1, none⟩ = some (.int .i64 (N : Int)) ∧ wr.cell? ⟨w.heap.size, 2, none⟩ = some (.slice ub un uc)) ∧ Below w.heap.size w wr ∧ w1.heap.size ≤ wr.heap.size) (fun _ _ p _ => P - (intOf p).toNat)
    case atStart => exact ⟨0, Nat.zero_le _, rfl, HTw0, ⟨t_0, t_1, t_2⟩, hb4, by omega⟩
    case round =>
      obtain ⟨m, hm, rfl, hTw, ⟨u_0, u_1, u_2⟩, hdr, hTs⟩ := hrel
      clear HTw0 hbT0 t0a t1a t2a hcur
      clear t_0 t_1 t_2 hbT
      obtain ⟨wo, rfl⟩ : ∃ W, W = wr := ⟨_, rfl⟩
      obtain ⟨va, vn, vc, rfl⟩ := oII_form1 hTw.fst
      obtain ⟨ka, kn, kc, rfl⟩ := oI_form1 hTw.snd
      have hmn := minTo_len (key := key) m
      have hml : (minTo key m).length ≤ 8 := by omega
      have swo := hdr.size
      by_cases hlt : m < P
      · have hw0 : w.heap.size < wo.heap.size := by omega
        obtain ⟨kk, hkk⟩ : ∃ kk, key m = kk := ⟨_, rfl⟩
        have HKK := Lib.hid hkk
        have HK1 : Hid (∀ (v : Value) W, Below w.heap.size w W → rI.rep W [v] (bitsTo m 3) → Calls Tryz.prog 52 #[.slice a n c, .agg #[.string s, .int .i64 (N : Int), .slice ub un uc], v] W fun e w' => e = .returned (.bool kk) ∧ Below W.heap.size W w') := Lib.hid (fun v W h1 h2 => by rw [← hkk]; exact HIK2.out v m W h1 h2)
        clear hkk
        go_wp2_with fail
        refine wp_region_noPanic ?_
        refine wp_region_held_drew (S := (fun W => W.cell? ⟨w.heap.size, 0, none⟩ = some (.string s) ∧ W.cell? ⟨w.heap.size, 1, none⟩ = some (.int .i64 (N : Int)) ∧ W.cell? ⟨w.heap.size, 2, none⟩ = some (.slice ub un uc))) (by kernel_rfl) ?hS5 (fun hHeld => ?_)
        case hS5 => exact ⟨u_0, u_1, u_2⟩
        refine wpAnyH_take (i := 0) (v := ?v0_6) rfl (by kernel_rfl) (by kernel_rfl) (by kernel_rfl) (fun _ _ _ h => h) (Or.inl ⟨by rfl, ?hy0_6⟩) (by assumption) ?rest0_6
        case hy0_6 => intro w hSw; (try dsimp only at hSw); go_simp; (try with_reducible rfl)
        try simp only [Act.put, lgA, lgB, lgC, lgD, lgE, lgF]
        refine wpAnyH_take (i := 1) (v := ?v1_7) rfl (by kernel_rfl) (by kernel_rfl) (by kernel_rfl) (fun _ _ _ h => h) (Or.inl ⟨by rfl, ?hy1_7⟩) (by assumption) ?rest1_7
        case hy1_7 => intro w hSw; (try dsimp only at hSw); go_simp; (try with_reducible rfl)
        try simp only [Act.put, lgA, lgB, lgC, lgD, lgE, lgF]
        refine wpAnyH_take (i := 2) (v := ?v2_8) rfl (by kernel_rfl) (by kernel_rfl) (by kernel_rfl) (fun _ _ _ h => h) (Or.inl ⟨by rfl, ?hy2_8⟩) (by assumption) ?rest2_8
        case hy2_8 => intro w hSw; (try dsimp only at hSw); go_simp; (try with_reducible rfl)
        try simp only [Act.put, lgA, lgB, lgC, lgD, lgE, lgF]
        refine wpAnyH_ready (rs := [3]) (by kernel_rfl) (by simp) ?_
        refine AllReadyH.cons rfl (fun K hK => ?_) AllReadyH.nil
        go_simp; (refine (l12Set_any m _ (by omega)).mono ?_); rintro e wA ⟨bb, bn, bc, rfl, ob, zA⟩; replace zA : Below wo.heap.size wo wA := on (Below.refl _ _).drew zA; have sA := zA.size; have hbA := on hdr zA; have hSA := (⟨(zA.cell (p := ⟨w.heap.size, 0, none⟩) (by simp only []; omega)).trans u_0, (zA.cell (p := ⟨w.heap.size, 1, none⟩) (by simp only []; omega)).trans u_1, (zA.cell (p := ⟨w.heap.size, 2, none⟩) (by simp only []; omega)).trans u_2⟩ : (fun W => W.cell? ⟨w.heap.size, 0, none⟩ = some (.string s) ∧ W.cell? ⟨w.heap.size, 1, none⟩ = some (.int .i64 (N : Int)) ∧ W.cell? ⟨w.heap.size, 2, none⟩ = some (.slice ub un uc)) wA)
        refine hK.out _ _ ?_ (fun hHeld => ?_)
        · exact hSA
        clear hK K
        try simp only [Act.put, List.setIfInBounds_toArray, List.set_cons_zero, List.set_cons_succ]
        refine wpAnyH_ready (rs := [4]) (by kernel_rfl) (by simp) ?_
        refine AllReadyH.cons rfl (fun K hK => ?_) AllReadyH.nil
        go_simp; (refine (HK1.out _ _ hbA (ob.own.rd reads_I)).mono ?_); rintro e wB ⟨rfl, zB⟩; have sB := zB.size; have hbB := on hbA zB; have hSB := (⟨(zB.cell (p := ⟨w.heap.size, 0, none⟩) (by simp only []; omega)).trans hSA.1, (zB.cell (p := ⟨w.heap.size, 1, none⟩) (by simp only []; omega)).trans hSA.2.1, (zB.cell (p := ⟨w.heap.size, 2, none⟩) (by simp only []; omega)).trans hSA.2.2⟩ : (fun W => W.cell? ⟨w.heap.size, 0, none⟩ = some (.string s) ∧ W.cell? ⟨w.heap.size, 1, none⟩ = some (.int .i64 (N : Int)) ∧ W.cell? ⟨w.heap.size, 2, none⟩ = some (.slice ub un uc)) wB)
        refine hK.out _ _ ?_ (fun hHeld => ?_)
        · exact hSB
        clear hK K
        try simp only [Act.put, List.setIfInBounds_toArray, List.set_cons_zero, List.set_cons_succ]
        refine wpAnyH_take (i := 5) (v := ?v5_9) rfl (by kernel_rfl) (by kernel_rfl) (by kernel_rfl) (fun _ _ _ h => h) (Or.inl ⟨by rfl, ?hy5_9⟩) (by assumption) ?rest5_9
        case hy5_9 => intro w hSw; (try dsimp only at hSw); go_simp; (try with_reducible rfl)
        try simp only [Act.put, lgA, lgB, lgC, lgD, lgE, lgF]
        refine wpAnyH_done (by kernel_rfl) ?_ _
        refine NoPanic.normal ?_
        have zoB := on zA zB
        have hTB := (hTw.below zoB (Nat.le_refl _)).mono (show _ ≤ wB.heap.size by omega)
        obtain ⟨v_0, v_1, v_2⟩ := hSB
        have iks := rI_ints (hTB.snd.rd reads_I)
        have hkl : (minTo key m).length = kn := by have := iks.len; simpa [ints] using this
        have hkn8 : kn ≤ 8 := by omega
        have hB9 := hbB
        obtain ⟨pf, hpf⟩ : ∃ pf : Nat → Bool, pf = fun k => !decide (k &&& m = k) := ⟨_, rfl⟩
        have HPF := Lib.hid (show ∀ k, pf k = !decide (k &&& m = k) from fun k => by rw [hpf])
        obtain ⟨al, hal⟩ : ∃ al, (minTo key m).all pf = al := ⟨_, rfl⟩
        have HAL := Lib.hid hal
        have HAL0 : Hid ((minTo key m).all (fun k => !decide (k &&& m = k)) = al) := Lib.hid (by rw [← hal, hpf])
        have HPY : Hid (al = true → partsFrom key m N (N - 0) 0 = true) := Lib.hid (fun h9 => parts_yes (by omega) hN3 (by rw [← h9, ← hal, hpf]) N 0 (by omega))
        have HLT := Lib.hid (fun k (h9 : k ∈ minTo key m) => show k < 1000 by have := minTo_lt h9; omega)
        have H0 : Hid ((kk && (minTo key m).all pf) = (kk && ((minTo key m).drop 0).all pf)) := Lib.hid (by rw [List.drop_zero])
        clear hTw u_0 u_1 u_2 hSA ob hpf hal HK1 hmn
        go_wp2_with fail
        go_loopw [8, 9] (fun b i wr => ∃ (j : Nat) (q : Bool), j ≤ kn ∧ i = .int .i64 j ∧ b = .bool q ∧ Hid ((kk && (minTo key m).all pf) = (q && ((minTo key m).drop j).all pf)) ∧ Drew wB wr) (fun _ i _ => kn - (intOf i).toNat)
        case atStart => exact ⟨0, kk, Nat.zero_le _, rfl, rfl, H0.out, Drew.refl _⟩
        case round =>
          obtain ⟨j, q, hj, rfl, rfl, hQ, hdd⟩ := hrel
          have hdd9 := hdd
          clear H0
          by_cases hltj : j < kn
          · obtain ⟨b9, o9, x, rfl, hcx, hx, _, _⟩ := iks.get hltj
            obtain ⟨k, rfl, hk⟩ := ints_get (by omega) hx.out
            have cx : wr.cell? ⟨b9, o9 + j, none⟩ = some (.int .i64 (k : Int)) := (hdd.cell _).trans hcx
            have hk9 := HLT.out k (List.mem_of_getElem? hk)
            have HQ2 : Hid ((kk && (minTo key m).all pf) = ((q && pf k) && ((minTo key m).drop (j + 1)).all pf)) := Lib.hid (by rw [hQ.out, drop_at hk, List.all_cons, Bool.and_assoc])
            have hban := bits_and_nat k m (by omega) (by omega)
            have hne9 : (((k &&& m : Nat) : Int) != (k : Int)) = pf k := by rw [HPF.out, Bool.eq_iff_iff, bne_iff_ne]; simp; omega
            obtain ⟨pk, hpk⟩ : ∃ pk, pf k = pk := ⟨_, rfl⟩
            rw [hpk] at hne9 HQ2
            have hjk : (j : Int) < (kn : Int) := by omega
            clear hQ hcx hx hk hpk iks hdd hkl
            cases q with
            | false =>
              go_wp2_with fail
              go_quiet (fail)
              go_wp2_with fail
              go_roundw
              case rel => exact ⟨j + 1, false, by omega, by go_num, rfl, HQ2.out, hdd9.step _⟩
              case measure => simp [intOf]; omega
            | true =>
              go_wp2_with fail
              go_quiet (fail)
              clear hban hne9
              go_wp2_with fail
              go_roundw
              case rel => exact ⟨j + 1, pk, by omega, by go_num, rfl, HQ2.out, hdd9.step _⟩
              case measure => simp [intOf]; omega
          · have HC0 : Hid ((kk && al) = q) := Lib.hid (by rw [← HAL.out, hQ.out, List.drop_eq_nil_of_le (by omega)]; simp)
            obtain ⟨wc, rfl⟩ : ∃ W, W = wr := ⟨_, rfl⟩
            have hTC := hTB.below (hdd.below wB.heap.size) (Nat.le_refl _)
            have hsz := hdd.size
            replace hsz : wB.heap.size ≤ wc.heap.size := by omega
            have hbC := onD hbB hdd
            replace hTC := hTC.mono hsz
            replace v_0 := (hdd.cell _).trans v_0
            replace v_1 := (hdd.cell _).trans v_1
            replace v_2 := (hdd.cell _).trans v_2
            clear hQ hTB iks hkl hdd hdd9
            have HP0 : Hid ((q && partsFrom key m N (N - 0) 0) = (q && partsFrom key m N (N - 0) 0)) := Lib.hid rfl
            have hwc : Below wc.heap.size wc wc := Below.refl _ _
            have hww : w.heap.size < wc.heap.size := by omega
            go_wp2_with fail
            go_loopw [8, 10] (fun b i wr => ∃ (j : Nat) (r : Bool), j ≤ N ∧ i = .int .i64 j ∧ b = .bool r ∧ Hid ((q && partsFrom key m N (N - 0) 0) = (r && partsFrom key m N (N - j) j)) ∧ Below wc.heap.size wc wr) (fun _ i _ => N - (intOf i).toNat)
            case atStart => exact ⟨0, q, Nat.zero_le _, rfl, rfl, rfl, hwc⟩
            case round =>
              obtain ⟨j, r, hj, rfl, rfl, hR, hdr3⟩ := hrel
              clear HP0 hwc
              have h3s := hdr3.size
              have y_0 := (hdr3.cell (p := ⟨w.heap.size, 0, none⟩) hww).trans v_0
              have y_1 := (hdr3.cell (p := ⟨w.heap.size, 1, none⟩) hww).trans v_1
              have y_2 := (hdr3.cell (p := ⟨w.heap.size, 2, none⟩) hww).trans v_2
              have hb3 := on hbC hdr3
              by_cases hltj : j < N
              · have HR2 : Hid ((q && partsFrom key m N (N - 0) 0) = (r && ((!bitAt m j || !key (m - 2 ^ j)) && partsFrom key m N (N - (j + 1)) (j + 1)))) := Lib.hid (by rw [hR.out, parts_at hltj])
                have ht := bit_test0 m j (by omega)
                obtain ⟨bt, hbt⟩ : ∃ bt, bitAt m j = bt := ⟨_, rfl⟩
                rw [hbt] at ht HR2
                have HBT := Lib.hid hbt
                have hdrw := hdr3
                clear hR hbt v_0 v_1 v_2 hdr3
                cases r with
                | false =>
                  have HN3 : Hid ((q && partsFrom key m N (N - 0) 0) = (false && partsFrom key m N (N - (j + 1)) (j + 1))) := Lib.hid (by rw [HR2.out]; simp)
                  go_wp2_with fail
                  go_quiet (fail)
                  go_wp2_with fail
                  go_roundw
                  case rel => exact ⟨j + 1, false, by omega, by go_num, rfl, HN3.out, on hdrw (Drew.below ⟨_, rfl⟩ _)⟩
                  case measure => simp [intOf]; omega
                | true =>
                  cases bt with
                  | false =>
                    have HN3 : Hid ((q && partsFrom key m N (N - 0) 0) = (true && partsFrom key m N (N - (j + 1)) (j + 1))) := Lib.hid (by rw [HR2.out]; simp)
                    go_wp2_with fail
                    go_quiet (fail)
                    go_wp2_with fail
                    go_roundw
                    case rel => exact ⟨j + 1, true, by omega, by go_num, rfl, HN3.out, on hdrw (Drew.below ⟨_, rfl⟩ _)⟩
                    case measure => simp [intOf]; omega
                  | true =>
                    obtain ⟨Q, hQ9⟩ : ∃ Q, Q = 2 ^ j := ⟨_, rfl⟩
                    have hQm : Q ≤ m := by rw [hQ9]; exact less_of (by omega) (by omega) HBT.out
                    have hwj : IntKind.i64.wrap ((2 : Int) ^ j) = (Q : Int) := by rw [hQ9]; exact wrap_pow3' (by omega)
                    have hws : IntKind.i64.wrap ((m : Int) - (Q : Int)) = (m : Int) - (Q : Int) := IntWalk.i64_in _ (by constructor <;> (clear hwj; omega))
                    have HLSet := Lib.hid (fun W => l12Set_sub m Q hQm (by omega) W)
                    obtain ⟨kq, hkq⟩ : ∃ kq, key (m - Q) = kq := ⟨_, rfl⟩
                    have HK2 : Hid (∀ (v : Value) W, Below w.heap.size w W → rI.rep W [v] (bitsTo (m - Q) 3) → Calls Tryz.prog 52 #[.slice a n c, .agg #[.string s, .int .i64 (N : Int), .slice ub un uc], v] W fun e w' => e = .returned (.bool kq) ∧ Below W.heap.size W w') := Lib.hid (fun v W h1 h2 => by rw [← hkq]; exact HIK2.out v (m - Q) W h1 h2)
                    have HN3 : Hid ((q && partsFrom key m N (N - 0) 0) = (!kq && partsFrom key m N (N - (j + 1)) (j + 1))) := Lib.hid (by
                      have h9 := HR2.out
                      rw [← hQ9, hkq] at h9
                      rw [Bool.not_true, Bool.false_or, Bool.true_and] at h9
                      exact h9)
                    have hQi : (Q : Int) ≤ (m : Int) := Int.ofNat_le.2 hQm
                    clear hQ9 hkq HR2
                    go_wp2_with fail
                    refine wp_region_noPanic ?_
                    refine wp_region_held_drew (S := (fun W => W.cell? ⟨w.heap.size, 0, none⟩ = some (.string s) ∧ W.cell? ⟨w.heap.size, 1, none⟩ = some (.int .i64 (N : Int)) ∧ W.cell? ⟨w.heap.size, 2, none⟩ = some (.slice ub un uc))) (by kernel_rfl) ?hS10 (fun hHeld => ?_)
                    case hS10 => exact ⟨y_0, y_1, y_2⟩
                    refine wpAnyH_take (i := 0) (v := ?v0_11) rfl (by kernel_rfl) (by kernel_rfl) (by kernel_rfl) (fun _ _ _ h => h) (Or.inl ⟨by rfl, ?hy0_11⟩) (by assumption) ?rest0_11
                    case hy0_11 => intro w hSw; (try dsimp only at hSw); go_simp; (try with_reducible rfl)
                    try simp only [Act.put, lgA, lgB, lgC, lgD, lgE, lgF]
                    refine wpAnyH_take (i := 1) (v := ?v1_12) rfl (by kernel_rfl) (by kernel_rfl) (by kernel_rfl) (fun _ _ _ h => h) (Or.inl ⟨by rfl, ?hy1_12⟩) (by assumption) ?rest1_12
                    case hy1_12 => intro w hSw; (try dsimp only at hSw); go_simp; (try with_reducible rfl)
                    try simp only [Act.put, lgA, lgB, lgC, lgD, lgE, lgF]
                    refine wpAnyH_take (i := 2) (v := ?v2_13) rfl (by kernel_rfl) (by kernel_rfl) (by kernel_rfl) (fun _ _ _ h => h) (Or.inl ⟨by rfl, ?hy2_13⟩) (by assumption) ?rest2_13
                    case hy2_13 => intro w hSw; (try dsimp only at hSw); go_simp; (try with_reducible rfl)
                    try simp only [Act.put, lgA, lgB, lgC, lgD, lgE, lgF]
                    refine wpAnyH_take (i := 3) (v := ?v3_14) rfl (by kernel_rfl) (by kernel_rfl) (by kernel_rfl) (fun _ _ _ h => h) (Or.inl ⟨by rfl, ?hy3_14⟩) (by assumption) ?rest3_14
                    case hy3_14 => intro w hSw; (try dsimp only at hSw); go_simp; (try with_reducible rfl)
                    try simp only [Act.put, lgA, lgB, lgC, lgD, lgE, lgF]
                    refine wpAnyH_take (i := 4) (v := ?v4_15) rfl (by kernel_rfl) (by kernel_rfl) (by kernel_rfl) (fun _ _ _ h => h) (Or.inl ⟨by rfl, ?hy4_15⟩) (by assumption) ?rest4_15
                    case hy4_15 => intro w hSw; (try dsimp only at hSw); go_simp; (try with_reducible rfl)
                    try simp only [Act.put, lgA, lgB, lgC, lgD, lgE, lgF]
                    refine wpAnyH_take (i := 5) (v := ?v5_16) rfl (by kernel_rfl) (by kernel_rfl) (by kernel_rfl) (fun _ _ _ h => h) (Or.inl ⟨by rfl, ?hy5_16⟩) (by assumption) ?rest5_16
                    case hy5_16 => intro w hSw; (try dsimp only at hSw); go_simp; (try with_reducible rfl)
                    try simp only [Act.put, lgA, lgB, lgC, lgD, lgE, lgF]
                    refine wpAnyH_take (i := 6) (v := ?v6_17) rfl (by kernel_rfl) (by kernel_rfl) (by kernel_rfl) (fun _ _ _ h => h) (Or.inl ⟨by rfl, ?hy6_17⟩) (by assumption) ?rest6_17
                    case hy6_17 => intro w hSw; (try dsimp only at hSw); go_simp; (try with_reducible rfl)
                    try simp only [Act.put, lgA, lgB, lgC, lgD, lgE, lgF]
                    refine wpAnyH_take (i := 7) (v := ?v7_18) rfl (by kernel_rfl) (by kernel_rfl) (by kernel_rfl) (fun _ _ _ h => h) (Or.inl ⟨by rfl, ?hy7_18⟩) (by assumption) ?rest7_18
                    case hy7_18 => intro w hSw; (try dsimp only at hSw); go_simp; (try with_reducible rfl)
                    try simp only [Act.put, lgA, lgB, lgC, lgD, lgE, lgF]
                    refine wpAnyH_take (i := 8) (v := ?v8_19) rfl (by kernel_rfl) (by kernel_rfl) (by kernel_rfl) (fun _ _ _ h => h) (Or.inl ⟨by rfl, ?hy8_19⟩) (by assumption) ?rest8_19
                    case hy8_19 => intro w hSw; (try dsimp only at hSw); go_simp; (try with_reducible rfl)
                    try simp only [Act.put, lgA, lgB, lgC, lgD, lgE, lgF]
                    refine wpAnyH_take (i := 9) (v := ?v9_20) rfl (by kernel_rfl) (by kernel_rfl) (by kernel_rfl) (fun _ _ _ h => h) (Or.inl ⟨by rfl, ?hy9_20⟩) (by assumption) ?rest9_20
                    case hy9_20 => intro w hSw; (try dsimp only at hSw); go_simp; (try with_reducible rfl)
                    try simp only [Act.put, lgA, lgB, lgC, lgD, lgE, lgF]
                    refine wpAnyH_take (i := 10) (v := ?v10_21) rfl (by kernel_rfl) (by kernel_rfl) (by kernel_rfl) (fun _ _ _ h => h) (Or.inl ⟨by rfl, ?hy10_21⟩) (by assumption) ?rest10_21
                    case hy10_21 => intro w hSw; (try dsimp only at hSw); go_simp; (try with_reducible rfl)
                    try simp only [Act.put, lgA, lgB, lgC, lgD, lgE, lgF]
                    refine wpAnyH_take (i := 11) (v := ?v11_22) rfl (by kernel_rfl) (by kernel_rfl) (by kernel_rfl) (fun _ _ _ h => h) (Or.inl ⟨by rfl, ?hy11_22⟩) (by assumption) ?rest11_22
                    case hy11_22 => intro w hSw; (try dsimp only at hSw); go_simp; (try with_reducible rfl)
                    try simp only [Act.put, lgA, lgB, lgC, lgD, lgE, lgF]
                    refine wpAnyH_take (i := 12) (v := ?v12_23) rfl (by kernel_rfl) (by kernel_rfl) (by kernel_rfl) (fun _ _ _ h => h) (Or.inl ⟨by rfl, ?hy12_23⟩) (by assumption) ?rest12_23
                    case hy12_23 => intro w hSw; (try dsimp only at hSw); go_simp; (try with_reducible rfl)
                    try simp only [Act.put, lgA, lgB, lgC, lgD, lgE, lgF]
                    refine wpAnyH_take (i := 13) (v := ?v13_24) rfl (by kernel_rfl) (by kernel_rfl) (by kernel_rfl) (fun _ _ _ h => h) (Or.inl ⟨by rfl, ?hy13_24⟩) (by assumption) ?rest13_24
                    case hy13_24 => intro w hSw; (try dsimp only at hSw); go_simp; (try with_reducible rfl)
                    try simp only [Act.put, lgA, lgB, lgC, lgD, lgE, lgF]
                    clear hwj hws ht
                    refine wpAnyH_ready (rs := [14]) (by kernel_rfl) (by simp) ?_
                    refine AllReadyH.cons rfl (fun K hK => ?_) AllReadyH.nil
                    go_simp; (refine (HLSet.out _).mono ?_); rintro e wD ⟨lb, ln, lc, rfl, ol, zD⟩; replace zD : Below wr.heap.size wr wD := on (Below.refl _ _).drew zD; have sD := zD.size; have hbD := on hb3 zD; have hSD := (⟨(zD.cell (p := ⟨w.heap.size, 0, none⟩) (by simp only []; omega)).trans y_0, (zD.cell (p := ⟨w.heap.size, 1, none⟩) (by simp only []; omega)).trans y_1, (zD.cell (p := ⟨w.heap.size, 2, none⟩) (by simp only []; omega)).trans y_2⟩ : (fun W => W.cell? ⟨w.heap.size, 0, none⟩ = some (.string s) ∧ W.cell? ⟨w.heap.size, 1, none⟩ = some (.int .i64 (N : Int)) ∧ W.cell? ⟨w.heap.size, 2, none⟩ = some (.slice ub un uc)) wD)
                    refine hK.out _ _ ?_ (fun hHeld => ?_)
                    · exact hSD
                    clear hK K
                    try simp only [Act.put, List.setIfInBounds_toArray, List.set_cons_zero, List.set_cons_succ]
                    refine wpAnyH_ready (rs := [15]) (by kernel_rfl) (by simp) ?_
                    refine AllReadyH.cons rfl (fun K hK => ?_) AllReadyH.nil
                    go_simp; (refine (HK2.out _ _ hbD (ol.own.rd reads_I)).mono ?_); rintro e wE ⟨rfl, zE⟩; have sE := zE.size; have hbE := on hbD zE; have hSE := (⟨(zE.cell (p := ⟨w.heap.size, 0, none⟩) (by simp only []; omega)).trans hSD.1, (zE.cell (p := ⟨w.heap.size, 1, none⟩) (by simp only []; omega)).trans hSD.2.1, (zE.cell (p := ⟨w.heap.size, 2, none⟩) (by simp only []; omega)).trans hSD.2.2⟩ : (fun W => W.cell? ⟨w.heap.size, 0, none⟩ = some (.string s) ∧ W.cell? ⟨w.heap.size, 1, none⟩ = some (.int .i64 (N : Int)) ∧ W.cell? ⟨w.heap.size, 2, none⟩ = some (.slice ub un uc)) wE)
                    refine hK.out _ _ ?_ (fun hHeld => ?_)
                    · exact hSE
                    clear hK K
                    try simp only [Act.put, List.setIfInBounds_toArray, List.set_cons_zero, List.set_cons_succ]
                    refine wpAnyH_take (i := 16) (v := ?v16_25) rfl (by kernel_rfl) (by kernel_rfl) (by kernel_rfl) (fun _ _ _ h => h) (Or.inl ⟨by rfl, ?hy16_25⟩) (by assumption) ?rest16_25
                    case hy16_25 => intro w hSw; (try dsimp only at hSw); go_simp; (try with_reducible rfl)
                    try simp only [Act.put, lgA, lgB, lgC, lgD, lgE, lgF]
                    refine wpAnyH_take (i := 17) (v := ?v17_26) rfl (by kernel_rfl) (by kernel_rfl) (by kernel_rfl) (fun _ _ _ h => h) (Or.inl ⟨by rfl, ?hy17_26⟩) (by assumption) ?rest17_26
                    case hy17_26 => intro w hSw; (try dsimp only at hSw); go_simp; (try with_reducible rfl)
                    try simp only [Act.put, lgA, lgB, lgC, lgD, lgE, lgF]
                    refine wpAnyH_take (i := 18) (v := ?v18_27) rfl (by kernel_rfl) (by kernel_rfl) (by kernel_rfl) (fun _ _ _ h => h) (Or.inl ⟨by rfl, ?hy18_27⟩) (by assumption) ?rest18_27
                    case hy18_27 => intro w hSw; (try dsimp only at hSw); go_simp; (try with_reducible rfl)
                    try simp only [Act.put, lgA, lgB, lgC, lgD, lgE, lgF]
                    refine wpAnyH_take (i := 19) (v := ?v19_28) rfl (by kernel_rfl) (by kernel_rfl) (by kernel_rfl) (fun _ _ _ h => h) (Or.inl ⟨by rfl, ?hy19_28⟩) (by assumption) ?rest19_28
                    case hy19_28 => intro w hSw; (try dsimp only at hSw); go_simp; (try with_reducible rfl)
                    try simp only [Act.put, lgA, lgB, lgC, lgD, lgE, lgF]
                    refine wpAnyH_done (by kernel_rfl) ?_ _
                    refine NoPanic.normal ?_
                    have hdE := on hdrw (on zD zE)
                    clear hSD hSE
                    go_wp2_with fail
                    go_roundw
                    case rel => exact ⟨j + 1, !kq, by omega, by go_num, by simp, HN3.out, hdE⟩
                    case measure => simp [intOf]; omega
              · have hF : (q && partsFrom key m N (N - 0) 0) = r := by rw [hR.out, parts_end (by omega)]; simp
                have hTr := (hTC.below hdr3 (Nat.le_refl _)).mono h3s
                have HR9 : Hid (r = (kk && al)) := Lib.hid (by
                  have h1 := HC0.out
                  have h2 := HPY.out
                  rw [← hF, ← h1]
                  cases al
                  · simp
                  · rw [h2 rfl]; simp)
                clear hF hR
                cases r with
                | false =>
                  have HN : Hid (minTo key (m + 1) = minTo key m) := Lib.hid (min_no HAL0.out HKK.out HR9.out)
                  have HT9 := Lib.hid hTr
                  clear hTr hTC
                  go_wp2_with fail
                  go_roundw
                  case rel => exact ⟨m + 1, by omega, by go_num, by rw [HN.out]; exact HT9.out, ⟨y_0, y_1, y_2⟩, hb3, by omega⟩
                  case measure => simp [intOf]; omega
                | true =>
                  have HN : Hid (minTo key (m + 1) = minTo key m ++ [m]) := Lib.hid (min_yes HAL0.out HKK.out HR9.out)
                  go_wp2_with fail
                  refine (l12Set_any m _ (by omega)).mono ?_
                  rintro e wL ⟨lb, ln, lc, rfl, ol, zL⟩
                  have sL := zL.size
                  obtain ⟨va2, vn2, vc2, wO, hrO, hTO, hbO, hzO, hcO⟩ := Two.row 39 (hTr.below zL (Nat.le_refl _)) ol.own rfl (Nat.le_refl _) sL (Nat.le_refl _) (show w.heap.size < wr.heap.size by omega) (by omega) (by simp [setsOf]; omega) rfl
                  obtain ⟨ka2, kn2, kc2, wk, hrk, hTk, hbk, hzk, hck⟩ := Two.num 27 hTO (r := (m : Int)) ⟨by omega, by omega⟩ (Nat.le_refl _) (by omega) (by omega) (by simp [ints]; omega) rfl
                  have hT1 : w.heap.size < w1.heap.size := by omega
                  have cellk : ∀ (i : Nat) (x : Value), wr.cell? ⟨w.heap.size, i, none⟩ = some x → wk.cell? ⟨w.heap.size, i, none⟩ = some x := fun i x hx => (hbk.cell (p := ⟨w.heap.size, i, none⟩) hT1).trans ((hbO.cell (p := ⟨w.heap.size, i, none⟩) hT1).trans ((zL.cell (p := ⟨w.heap.size, i, none⟩) (show w.heap.size < wr.heap.size by omega)).trans hx))
                  have k_0 := cellk 0 _ y_0
                  have k_1 := cellk 1 _ y_1
                  have k_2 := cellk 2 _ y_2
                  rw [← setsOf_snoc, ← ints_snoc, ← HN.out] at hTk
                  have HT9 := Lib.hid hTk
                  have HB9 := Lib.hid (((hb3.trans (zL.mono (by omega))).trans (hbO.mono (by omega))).trans (hbk.mono (by omega)) : Below w.heap.size w wk)
                  clear hTr hTC hTO hTk ol cellk
                  go_wp2_with (first | (at_builtin; refine wpList_app_run hrO rfl rfl rfl rfl rfl ?_) | (at_builtin; refine wpList_app_run hrk rfl rfl rfl rfl rfl ?_))
                  go_roundw
                  case rel => exact ⟨m + 1, by omega, by go_num, HT9.out, ⟨k_0, k_1, k_2⟩, HB9.out, by omega⟩
                  case measure => simp [intOf]; omega
      · have hmP : m = P := by omega
        have HE : Hid (mk = setsOf (minTo key m)) := Lib.hid (by rw [HMK.out, hmP]; rfl)
        have HO := Lib.hid (hTw.fst.mono (lo' := w.heap.size) (hi' := wo.heap.size) (by omega) (by omega))
        clear hTw hmP
        go_wp2_with fail
        go_ret
        exact ⟨_, rfl, by rw [HE.out]; exact HO.out, hdr⟩

end Go.Proofs.YtpgfkjcekhifiaaGreatDoor
