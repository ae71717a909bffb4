/- Texts joined for one claim: Fits, Look, Many, MaskC, RepI, Sorted, Look2, MaskV, WalkW. -/
import Derived.Test.YtkipgbgkhffkkaaQce0aae1cc0
import Derived.Deep.RegionHeld3
import Derived.Laws.IdiomCopy
import Derived.Shelf.SlSortCmp.NoneTotal

/- Contracts: whether a row of a table agrees with the first values of an answer, by the reference. -/
namespace Go.Proofs.Ytkipgbgkhffkkaa
open Go.RowKit
set_option linter.unusedVariables false
set_option linter.unusedSimpArgs false
set_option synthInstance.maxSize 2000
set_option synthInstance.maxHeartbeats 400000

theorem allFrom_at {f : Nat → Bool} {k n : Nat} (h : k < n) : ((List.range n).drop k).all f = (f k && ((List.range n).drop (k + 1)).all f) := by
  rw [drop_at (List.getElem?_range h), List.all_cons]
theorem allFrom_end {f : Nat → Bool} {k n : Nat} (h : n ≤ k) : ((List.range n).drop k).all f = true := by
  rw [List.drop_eq_nil_of_le (by simpa using h)]; rfl
theorem anyFrom_at {α : Type} {f : α → Bool} {xs : List α} {j : Nat} {x : α} (h : xs[j]? = some x) : (xs.drop j).any f = (f x || (xs.drop (j + 1)).any f) := by
  rw [drop_at h, List.any_cons]
theorem anyFrom_end {α : Type} {f : α → Bool} {xs : List α} {j : Nat} (h : xs.length ≤ j) : (xs.drop j).any f = false := by
  rw [List.drop_eq_nil_of_le h]; rfl

set_option maxRecDepth 100000 in
set_option maxHeartbeats 4000000 in
theorem fits_any (cs ds : List Value) (t : DT) (x : DA) (vb rb : Option Addr) (vn vc rn rc : Nat) (vars row : List Int) (w : World) (ht : rT.rep w cs t) (hx : rA.rep w ds x) (hv : Ints w vb vn vars) (hr : Ints w rb rn row) (hrv : rn ≤ vn) (hrow : ∀ r ∈ t.2.2, r.length = x.2.length) :
    Calls Try.prog 141 #[.agg cs.toArray, .agg ds.toArray, .slice vb vn vc, .slice rb rn rc] w fun e w' => e = .returned (.bool (fitsB vars row (t.2.2, x.2))) ∧ Below w.heap.size w w' := by
  obtain ⟨ub, un, uc, rfl, hs, hi, g1⟩ := rT_open ht
  obtain ⟨ab, an, ac, rfl, hs2, g2⟩ := rA_open hx
  obtain ⟨s, ar, rows⟩ := t
  obtain ⟨m1, av⟩ := x
  simp only at hs hi g1 hs2 g2 hrow
  have t0 := rS_sl g1
  have i0 := rI_ints g2
  have hl := t0.len
  have hn := t0.small
  have hal := i0.len
  have han := i0.small
  have hvl := hv.len
  have hrl := hr.len
  have hvn := hv.small
  have hrn := hr.small
  have HR := Lib.hid hrow
  obtain ⟨F, hF⟩ : ∃ F, fitsB vars row (rows, av) = F := ⟨_, rfl⟩
  have HF : Hid (F = (rows.drop 0).any (agree av vars row)) := Lib.hid (by rw [← hF]; rfl)
  show Calls Try.prog 141 _ w fun e w' => e = .returned (.bool (fitsB vars row (rows, av))) ∧ Below w.heap.size w w'
  rw [hF]
  clear ht hx hs hi g1 hs2 g2 hrow hF
  have hb0 : Below w.heap.size w w := Below.refl _ _
  go_enter Try.func141, Try.ntmps141
  obtain ⟨w1, hw1⟩ : ∃ W, W = w.alloc (.cells #[.string s, .int .i64 ar, .slice ub un uc] 54) := ⟨_, rfl⟩
  have z1 : Below w.heap.size w w1 := by rw [hw1]; exact (Below.refl _ _).alloc (Nat.le_refl _) _
  have s1 : w1.heap.size = w.heap.size + 1 := by rw [hw1]; simp
  have hb1 := on hb0 z1
  have t_0 : w1.cell? ⟨w.heap.size, 0, none⟩ = some (.string s) := by rw [hw1]; exact box_cell (Below.refl _ _) rfl
  have t_1 : w1.cell? ⟨w.heap.size, 1, none⟩ = some (.int .i64 ar) := by rw [hw1]; exact box_cell (Below.refl _ _) rfl
  have t_2 : w1.cell? ⟨w.heap.size, 2, none⟩ = some (.slice ub un uc) := by rw [hw1]; exact box_cell (Below.refl _ _) rfl
  have raw1_t_0 := t_0
  have raw1_t_1 := t_1
  have raw1_t_2 := t_2
  rw [hw1] at raw1_t_0 raw1_t_1 raw1_t_2
  obtain ⟨w2, hw2⟩ : ∃ W, W = w1.alloc (.cells #[.string m1, .slice ab an ac] 110) := ⟨_, rfl⟩
  have z2 : Below w1.heap.size w1 w2 := by rw [hw2]; exact (Below.refl _ _).alloc (Nat.le_refl _) _
  have s2 : w2.heap.size = w1.heap.size + 1 := by rw [hw2]; simp
  have hb2 := on hb1 z2
  replace t_0 := (z2.cell (p := ⟨w.heap.size, 0, none⟩) (by simp only []; omega)).trans t_0
  replace t_1 := (z2.cell (p := ⟨w.heap.size, 1, none⟩) (by simp only []; omega)).trans t_1
  replace t_2 := (z2.cell (p := ⟨w.heap.size, 2, none⟩) (by simp only []; omega)).trans t_2
  have e2 : w1.heap.size = w.heap.size + 1 := by omega
  have x_0 : w2.cell? ⟨w1.heap.size, 0, none⟩ = some (.string m1) := by rw [hw2]; exact box_cell (Below.refl _ _) rfl
  have x_1 : w2.cell? ⟨w1.heap.size, 1, none⟩ = some (.slice ab an ac) := by rw [hw2]; exact box_cell (Below.refl _ _) rfl
  rw [e2] at x_0 x_1
  have raw2_t_0 := t_0
  have raw2_t_1 := t_1
  have raw2_t_2 := t_2
  have raw2_x_0 := x_0
  have raw2_x_1 := x_1
  rw [hw2, hw1] at raw2_t_0 raw2_t_1 raw2_t_2 raw2_x_0 raw2_x_1
  go_wp2_with fail
  rw [← hw1]
  rw [← hw2]
  clear hw2 hw1
  clear raw1_t_0 raw1_t_1 raw1_t_2 raw2_t_0 raw2_t_1 raw2_t_2 raw2_x_0 raw2_x_1
  go_loopw [9] (fun k wr => ∃ j : Nat, j ≤ un ∧ k = .int .i64 j ∧ Hid (F = (rows.drop j).any (agree av vars row)) ∧ Drew w2 wr) (fun k _ => un - (intOf k).toNat)
  case atStart => exact ⟨0, Nat.zero_le _, rfl, HF.out, Drew.refl _⟩
  case round =>
    obtain ⟨i, hi, rfl, hE, hdr⟩ := hrel
    obtain ⟨wo, rfl⟩ : ∃ W, W = wr := ⟨_, rfl⟩
    have hlo := hdr
    clear HF
    replace hdr : Below w2.heap.size w2 wo := hdr.below _
    have s3 := hdr.size
    have hb3 := on hb2 hdr
    replace t_0 := (hdr.cell (p := ⟨w.heap.size, 0, none⟩) (by simp only []; omega)).trans t_0
    replace t_1 := (hdr.cell (p := ⟨w.heap.size, 1, none⟩) (by simp only []; omega)).trans t_1
    replace t_2 := (hdr.cell (p := ⟨w.heap.size, 2, none⟩) (by simp only []; omega)).trans t_2
    replace x_0 := (hdr.cell (p := ⟨w.heap.size + 1, 0, none⟩) (by simp only []; omega)).trans x_0
    replace x_1 := (hdr.cell (p := ⟨w.heap.size + 1, 1, none⟩) (by simp only []; omega)).trans x_1
    by_cases hlt : i < un
    · obtain ⟨b1, o1, yb, yn, yc, y, rfl, hcy, hy, iy, _⟩ := t0.row hlt
      have hyl := iy.len
      have hya : yn = an := by have := HR.out y (List.mem_of_getElem? hy.out); omega
      have y0 : wo.cell? ⟨b1, o1 + i, none⟩ = some (.slice yb yn yc) := ((hb3).cell (p := ⟨b1, o1 + i, none⟩) (cell_lt hcy)).trans hcy
      have hyb1 : b1 < w.heap.size := cell_lt hcy
      have HA := Lib.hid (hE.out.trans (anyFrom_at hy.out))
      obtain ⟨A, hA⟩ : ∃ A, agree av vars row y = A := ⟨_, rfl⟩
      rw [hA] at HA
      have HA0 : Hid (A = (true && ((List.range av.length).drop 0).all (agreeK av vars row y))) := Lib.hid (by rw [← hA, Bool.true_and]; rfl)
      clear hE hcy hy hA hyl
      go_wp2_with fail
      go_loopw [10, 11] (fun s k wr => ∃ (q : Nat) (b : Bool), q ≤ an ∧ s = .bool b ∧ k = .int .i64 q ∧ Hid (A = (b && ((List.range av.length).drop q).all (agreeK av vars row y))) ∧ Drew wo wr) (fun _ k _ => an - (intOf k).toNat)
      case atStart => exact ⟨0, true, Nat.zero_le _, rfl, rfl, HA0.out, Drew.refl _⟩
      case round =>
        obtain ⟨k, q, hk, rfl, rfl, hG, hdr⟩ := hrel
        obtain ⟨wk, rfl⟩ : ∃ W, W = wr := ⟨_, rfl⟩
        have hlk := hdr
        clear HA0
        replace hdr : Below wo.heap.size wo wk := hdr.below _
        have s4 := hdr.size
        have hb4 := on hb3 hdr
        replace t_0 := (hdr.cell (p := ⟨w.heap.size, 0, none⟩) (by simp only []; omega)).trans t_0
        replace t_1 := (hdr.cell (p := ⟨w.heap.size, 1, none⟩) (by simp only []; omega)).trans t_1
        replace t_2 := (hdr.cell (p := ⟨w.heap.size, 2, none⟩) (by simp only []; omega)).trans t_2
        replace x_0 := (hdr.cell (p := ⟨w.heap.size + 1, 0, none⟩) (by simp only []; omega)).trans x_0
        replace x_1 := (hdr.cell (p := ⟨w.heap.size + 1, 1, none⟩) (by simp only []; omega)).trans x_1
        replace y0 := (hdr.cell (p := ⟨b1, o1 + i, none⟩) (by simp only []; omega)).trans y0
        by_cases hltk : k < an
        · obtain ⟨b2, o2, u, rfl, hcu, hu, hu1, hu2⟩ := i0.get hltk
          have hub2 : b2 < w.heap.size := cell_lt hcu
          have u0 : wk.cell? ⟨b2, o2 + k, none⟩ = some (.int .i64 u) := ((hb4).cell (p := ⟨b2, o2 + k, none⟩) (cell_lt hcu)).trans hcu
          obtain ⟨b3, o3, z, rfl, hcz, hz, hz1, hz2⟩ := iy.get (show k < yn by omega)
          have hzb3 : b3 < w.heap.size := cell_lt hcz
          have z0 : wk.cell? ⟨b3, o3 + k, none⟩ = some (.int .i64 z) := ((hb4).cell (p := ⟨b3, o3 + k, none⟩) (cell_lt hcz)).trans hcz
          have HK := Lib.hid (hG.out.trans (by rw [allFrom_at (show k < av.length by omega), ← Bool.and_assoc]))
          obtain ⟨B, hB⟩ : ∃ B, (q && agreeK av vars row y k) = B := ⟨_, rfl⟩
          rw [hB] at HK
          have HB0 : Hid (B = (q && ((List.range row.length).drop 0).all (agreeJ av vars row y k))) := Lib.hid (by rw [← hB]; rfl)
          have hky : k < yn := by omega
          clear hG hcu hcz hB
          go_wp2_with fail
          go_loopw [10, 12] (fun s k' wr => ∃ (p : Nat) (b : Bool), p ≤ rn ∧ s = .bool b ∧ k' = .int .i64 p ∧ Hid (B = (b && ((List.range row.length).drop p).all (agreeJ av vars row y k))) ∧ Drew wk wr) (fun _ k' _ => rn - (intOf k').toNat)
          case atStart => exact ⟨0, q, Nat.zero_le _, rfl, rfl, HB0.out, Drew.refl _⟩
          case round =>
            obtain ⟨j, b, hj, rfl, rfl, hH, hdr⟩ := hrel
            have hlj := hdr
            clear HB0
            replace hdr : Below wk.heap.size wk wr := hdr.below _
            have s5 := hdr.size
            have hb5 := on hb4 hdr
            replace t_0 := (hdr.cell (p := ⟨w.heap.size, 0, none⟩) (by simp only []; omega)).trans t_0
            replace t_1 := (hdr.cell (p := ⟨w.heap.size, 1, none⟩) (by simp only []; omega)).trans t_1
            replace t_2 := (hdr.cell (p := ⟨w.heap.size, 2, none⟩) (by simp only []; omega)).trans t_2
            replace x_0 := (hdr.cell (p := ⟨w.heap.size + 1, 0, none⟩) (by simp only []; omega)).trans x_0
            replace x_1 := (hdr.cell (p := ⟨w.heap.size + 1, 1, none⟩) (by simp only []; omega)).trans x_1
            replace y0 := (hdr.cell (p := ⟨b1, o1 + i, none⟩) (by simp only []; omega)).trans y0
            replace u0 := (hdr.cell (p := ⟨b2, o2 + k, none⟩) (by simp only []; omega)).trans u0
            replace z0 := (hdr.cell (p := ⟨b3, o3 + k, none⟩) (by simp only []; omega)).trans z0
            by_cases hltj : j < rn
            · obtain ⟨b4, o4, g, rfl, hcg, hg, hg1, hg2⟩ := hv.get (show j < vn by omega)
              have hgb4 : b4 < w.heap.size := cell_lt hcg
              have g0 : wr.cell? ⟨b4, o4 + j, none⟩ = some (.int .i64 g) := ((hb5).cell (p := ⟨b4, o4 + j, none⟩) (cell_lt hcg)).trans hcg
              obtain ⟨b5, o5, r, rfl, hcr, hr9, hr1, hr2⟩ := hr.get hltj
              have hrb5 : b5 < w.heap.size := cell_lt hcr
              have r0 : wr.cell? ⟨b5, o5 + j, none⟩ = some (.int .i64 r) := ((hb5).cell (p := ⟨b5, o5 + j, none⟩) (cell_lt hcr)).trans hcr
              have HS : Hid (B = ((b && (!decide (g = u) || decide (r = z))) && ((List.range row.length).drop (j + 1)).all (agreeJ av vars row y k))) := Lib.hid (by rw [hH.out, allFrom_at (show j < row.length by omega), ← Bool.and_assoc, agreeJ, hg.out, hu.out, hr9.out, hz.out])
              clear hH hcg hcr hg hr9
              have hjv : (j : Int) < (vn : Int) := by omega
              cases b with
              | false =>
                have HN : Hid (B = (false && ((List.range row.length).drop (j + 1)).all (agreeJ av vars row y k))) := Lib.hid (by rw [HS.out, Bool.false_and])
                clear HS
                go_wp2_with fail
                go_quiet (fail)
                go_wp2_with fail
                go_roundw
                case rel => exact ⟨j + 1, false, by omega, rfl, by go_num, HN.out, hlj.step _⟩
                case measure => simp [intOf]; omega
              | true =>
                by_cases hgu : g = u
                · by_cases hrz : r = z
                  · have HN : Hid (B = (true && ((List.range row.length).drop (j + 1)).all (agreeJ av vars row y k))) := Lib.hid (by rw [HS.out, decide_eq_true hrz, Bool.or_true, Bool.and_true])
                    have d1 : (g != u) = false := by simp [hgu]
                    have d2 : (r == z) = true := by simp [hrz]
                    clear HS hgu hrz
                    go_wp2_with fail
                    go_quiet (fail)
                    go_wp2_with fail
                    go_roundw
                    case rel => exact ⟨j + 1, true, by omega, rfl, by go_num, HN.out, hlj.step _⟩
                    case measure => simp [intOf]; omega
                  · have HN : Hid (B = (false && ((List.range row.length).drop (j + 1)).all (agreeJ av vars row y k))) := Lib.hid (by rw [HS.out, decide_eq_true hgu, decide_eq_false hrz]; rfl)
                    have d1 : (g != u) = false := by simp [hgu]
                    have d2 : (r == z) = false := by simp [hrz]
                    clear HS hgu hrz
                    go_wp2_with fail
                    go_quiet (fail)
                    go_wp2_with fail
                    go_roundw
                    case rel => exact ⟨j + 1, false, by omega, rfl, by go_num, HN.out, hlj.step _⟩
                    case measure => simp [intOf]; omega
                · have HN : Hid (B = (true && ((List.range row.length).drop (j + 1)).all (agreeJ av vars row y k))) := Lib.hid (by rw [HS.out, decide_eq_false hgu]; rfl)
                  have d1 : (g != u) = true := by simp [hgu]
                  clear HS hgu
                  go_wp2_with fail
                  go_quiet (fail)
                  go_wp2_with fail
                  go_roundw
                  case rel => exact ⟨j + 1, true, by omega, rfl, by go_num, HN.out, hlj.step _⟩
                  case measure => simp [intOf]; omega
            · have HN : Hid (A = (b && ((List.range av.length).drop (k + 1)).all (agreeK av vars row y))) := Lib.hid (by rw [HK.out, hH.out, allFrom_end (by omega), Bool.and_true])
              clear hH HK
              go_wp2_with fail
              go_roundw
              case rel => exact ⟨k + 1, b, by omega, rfl, by go_num, HN.out, hlk.trans hlj⟩
              case measure => simp [intOf]; omega
        · have HN : Hid (A = q) := Lib.hid (by rw [hG.out, allFrom_end (by omega), Bool.and_true])
          clear hG
          cases q with
          | true =>
            have HE : Hid (F = true) := Lib.hid (by rw [HA.out, HN.out]; rfl)
            clear HA HN
            go_wp2_with fail
            go_ret
            exact ⟨ret_bool HE.out.symm, hb4⟩
          | false =>
            have HE : Hid (F = (rows.drop (i + 1)).any (agree av vars row)) := Lib.hid (by rw [HA.out, HN.out]; rfl)
            clear HA HN
            go_wp2_with fail
            go_roundw
            case rel => exact ⟨i + 1, by omega, by go_num, HE.out, hlo.trans hlk⟩
            case measure => simp [intOf]; omega
    · have HE : Hid (F = false) := Lib.hid (by rw [hE.out, anyFrom_end (by omega)])
      clear hE
      go_wp2_with fail
      go_ret
      exact ⟨ret_bool HE.out.symm, hb3⟩

end Go.Proofs.Ytkipgbgkhffkkaa

/- Contracts: tables looked up. -/
namespace Go.Proofs.Ytkipgbgkhffkkaa
open Go.RowKit Go.Sort
set_option linter.unusedVariables false
set_option linter.unusedSimpArgs false
set_option synthInstance.maxSize 2000
set_option synthInstance.maxHeartbeats 400000

/-- The place of the first table of a name, from place j on; -1 if there is none. -/
def idxFrom (name : ByteArray) (j : Nat) : List DT → Int
  | [] => -1
  | t :: r => if t.1 = name then (j : Int) else idxFrom name (j + 1) r
/-- The table of a name. -/
def look (db : DDb) (name : ByteArray) : Option DT := if validDb db then db.find? (fun t => decide (t.1 = name)) else none
theorem idxFrom_yes {name : ByteArray} {j : Nat} {xs : List DT} {t : DT} (h : xs[j]? = some t) (hn : t.1 = name) : idxFrom name j (xs.drop j) = (j : Int) := by
  rw [drop_at h, idxFrom, if_pos hn]
theorem idxFrom_no {name : ByteArray} {j : Nat} {xs : List DT} {t : DT} (h : xs[j]? = some t) (hn : t.1 ≠ name) : idxFrom name j (xs.drop j) = idxFrom name (j + 1) (xs.drop (j + 1)) := by
  rw [drop_at h, idxFrom, if_neg hn]
theorem idxFrom_end {name : ByteArray} {j : Nat} {xs : List DT} (h : xs.length ≤ j) : idxFrom name j (xs.drop j) = -1 := by
  rw [List.drop_eq_nil_of_le h]; rfl
/-- What the place says. -/
theorem idx_find {name : ByteArray} : ∀ {xs : List DT} {j : Nat}, (idxFrom name j xs = -1 ∧ xs.find? (fun t => decide (t.1 = name)) = none) ∨ ∃ k t, idxFrom name j xs = ((j + k : Nat) : Int) ∧ xs[k]? = some t ∧ xs.find? (fun t => decide (t.1 = name)) = some t
  | [], j => .inl ⟨rfl, rfl⟩
  | t :: r, j => by
    by_cases h : t.1 = name
    · exact .inr ⟨0, t, by simp [idxFrom, h], rfl, by simp [h]⟩
    · rcases @idx_find name r (j + 1) with ⟨h1, h2⟩ | ⟨k, u, h1, h2, h3⟩
      · exact .inl ⟨by rw [idxFrom, if_neg h]; exact h1, by simp [h, h2]⟩
      · exact .inr ⟨k + 1, u, by rw [idxFrom, if_neg h, h1]; omega, by simpa using h2, by simp [h, h3]⟩
theorem dbFrom_mem : ∀ {xs : List DT} {p : Option ByteArray}, dbFrom p xs = true → ∀ t ∈ xs, validT t = true
  | [], _, _, t, ht => by cases ht
  | x :: r, p, h, t, ht => by
    simp only [dbFrom, Bool.and_eq_true] at h
    rcases List.mem_cons.1 ht with rfl | ht
    · exact h.1
    · exact dbFrom_mem h.2.2 t ht
theorem rowsB_mem {n : Int} {rows : List (List Int)} (h : rowsB n rows = true) : ∀ r ∈ rows, (r.length : Int) = n ∧ ∀ v ∈ r, 0 ≤ v ∧ v ≤ 9 := by
  intro r hr
  have h1 := (List.all_eq_true.1 h) r hr
  simp only [rowB, Bool.and_eq_true, decide_eq_true_eq, List.all_eq_true, betw] at h1
  exact ⟨h1.2, fun v hv => h1.1 v hv⟩
/-- What a valid table is known to hold. -/
structure TOk (t : DT) : Prop where
  name : nameB t.1 = true
  ar : 1 ≤ t.2.1 ∧ t.2.1 ≤ 3
  len : t.2.2.length ≤ 8
  row : ∀ r ∈ t.2.2, (r.length : Int) = t.2.1 ∧ ∀ v ∈ r, 0 ≤ v ∧ v ≤ 9
  asc : ascB t.2.2 = true
theorem TOk.of {t : DT} (h : validT t = true) : TOk t := by
  simp only [validT, Bool.and_eq_true, decide_eq_true_eq, betw] at h
  exact ⟨h.1, h.2.1, h.2.2.1, rowsB_mem h.2.2.2.1, h.2.2.2.2⟩
theorem sumBy_bound {α : Type} {f : α → Nat} {B : Nat} : ∀ {xs : List α}, (∀ x ∈ xs, f x ≤ B) → sumBy f xs ≤ xs.length * B
  | [], _ => by simp [sumBy]
  | x :: t, h => by
    have h1 := h x (by simp)
    have h2 := sumBy_bound (fun y hy => h y (List.mem_cons_of_mem x hy))
    simp only [sumBy, List.map_cons, List.sum_cons, List.length_cons, Nat.add_mul, Nat.one_mul] at h2 ⊢
    omega
theorem TOk.bulk {t : DT} (h : TOk t) : bulk_T t ≤ 100 := by
  have h1 : t.1.size = 1 := by have := h.name; simp only [nameB, Bool.and_eq_true, decide_eq_true_eq] at this; exact this.1
  have h2 := h.ar
  have h3 := h.len
  have h4 : sumBy bulk_I t.2.2 ≤ t.2.2.length * 3 := sumBy_bound (fun r hr => by have := (h.row r hr).1; unfold bulk_I; omega)
  have h5 := Nat.mul_le_mul_right 3 h3
  unfold bulk_T bulk_II
  omega
theorem look_ok {db : DDb} {name : ByteArray} {t : DT} (h : look db name = some t) : TOk t := by
  unfold look at h
  split at h
  · rename_i hv
    simp only [validDb, Bool.and_eq_true] at hv
    exact TOk.of (dbFrom_mem hv.1 t (List.mem_of_find?_eq_some h))
  · cases h
theorem look_name {db : DDb} {name : ByteArray} {t : DT} (h : look db name = some t) : t.1 = name := by
  unfold look at h
  split at h
  · have := List.find?_some h; simpa using this
  · cases h

set_option maxHeartbeats 400000 in
theorem lookFn_any (cs : List Value) (t : DT) (name : ByteArray) (p : Addr) (w : World) (h : rT.rep w cs t) (hp : w.cell? p = some (.string name)) (hps : p.spot = none) :
    Calls Try.prog 166 #[.agg cs.toArray, .pointer (some p)] w fun e w' => e = .returned (.bool (decide (t.1 = name))) ∧ Below w.heap.size w w' := by
  obtain ⟨ub, un, uc, rfl, hs, hi, g1⟩ := rT_open h
  obtain ⟨pb, po, ps⟩ := p
  simp only at hps
  subst hps
  have hlt : pb < w.heap.size := cell_lt hp
  clear h g1
  have hb0 : Below w.heap.size w w := Below.refl _ _
  have c0 : w.cell? ⟨pb, po, none⟩ = some (.string name) := hp
  clear hp
  go_enter Try.func166, Try.ntmps166
  obtain ⟨w1, hw1⟩ : ∃ W, W = w.alloc (.cells #[.string t.1, .int .i64 t.2.1, .slice ub un uc] 54) := ⟨_, rfl⟩
  have z1 : Below w.heap.size w w1 := by rw [hw1]; exact (Below.refl _ _).alloc (Nat.le_refl _) _
  have s1 : w1.heap.size = w.heap.size + 1 := by rw [hw1]; simp
  have hb1 := on hb0 z1
  have old1_c0 := c0
  replace c0 := (z1.cell (p := ⟨pb, po, none⟩) (by simp only []; omega)).trans c0
  have b_0 : w1.cell? ⟨w.heap.size, 0, none⟩ = some (.string t.1) := by rw [hw1]; exact box_cell (Below.refl _ _) rfl
  have b_1 : w1.cell? ⟨w.heap.size, 1, none⟩ = some (.int .i64 t.2.1) := by rw [hw1]; exact box_cell (Below.refl _ _) rfl
  have b_2 : w1.cell? ⟨w.heap.size, 2, none⟩ = some (.slice ub un uc) := by rw [hw1]; exact box_cell (Below.refl _ _) rfl
  have raw1_c0 := c0
  have raw1_b_0 := b_0
  have raw1_b_1 := b_1
  have raw1_b_2 := b_2
  rw [hw1] at raw1_c0 raw1_b_0 raw1_b_1 raw1_b_2
  by_cases e : t.1 = name
  · have HE := Lib.hid (show (t.1.toList == name.toList) = true by rw [e]; simp)
    have HD := Lib.hid (decide_eq_true e)
    clear e
    have hq := HE.out
    go_wp2_with fail
    go_ret
    exact ⟨ret_bool HD.out.symm, by first | exact hb1 | (rw [hw1] at hb1; exact hb1)⟩
  · have hq := bytes_ne e
    have HD := Lib.hid (decide_eq_false e)
    clear e
    go_wp2_with fail
    go_ret
    exact ⟨ret_bool HD.out.symm, by first | exact hb1 | (rw [hw1] at hb1; exact hb1)⟩

end Go.Proofs.Ytkipgbgkhffkkaa

/- A slice of the call's own onto which all elements of another one are appended. -/
namespace Go.Proofs.Ytkipgbgkhffkkaa
open Go.RowKit
set_option linter.unusedVariables false
set_option linter.unusedSimpArgs false

theorem OS.rows_app {α : Type} (o : OS α) {w : World} {cs' : List (List Value)} {ys : List α} {fs' : List (List Nat)} (hy : o.rows w cs' ys fs') : ∀ {css : List (List Value)} {xs : List α} {fps : List (List Nat)}, o.rows w css xs fps → o.rows w (css ++ cs') (xs ++ ys) (fps ++ fs')
  | [], [], [], _ => hy
  | _ :: _, _ :: _, _ :: _, h => ⟨h.1, o.rows_app hy h.2⟩

/-- append of all elements of a slice of one's own, run. -/
theorem run_app_many {α : Type} {T E size bytes : Nat} {z : Value} (hT : Try.prog.underlying T = some (.slice E)) (hE : (Try.prog.info? E).map (fun i => (i.zero, i.size, i.bytes)) = some (some z, size, bytes)) (hz : z.cells.size = size) (hpos : 0 < size) (hby : bytes ≤ 1000)
    {o' : OS α} (hsz : o'.size = size) (hone' : ∀ {W : World} {c : List Value} {y : α} {f : List Nat}, o'.rep W c y f → ∀ u ∈ c, u.oneCell' = true) {W : World} (ty : TypeId) (v : Value) (xs : List α) (g m cu : Nat) (ys : List α) (fv fu : List Nat)
    (hv : (O.slice E o').rep W [v] xs fv) (hnd : fv.Nodup) (hu : (O.slice E o').rep W [.slice (some ⟨g, 0, none⟩) m cu] ys fu) (hynd : fu.Nodup) (hdis : ∀ k ∈ fu, k ∉ fv) (hn : xs.length + ys.length ≤ 100000000) :
    ∃ v' w' fv', (Builtin.append_ #[T, T] ty #[v, .slice (some ⟨g, 0, none⟩) m cu]).run Try.prog W = .ok v' w' ∧ (O.slice E o').rep w' [v'] (xs ++ ys) fv' ∧ fv'.Nodup ∧ (∀ k ∈ fv', k ∈ fv ∨ k ∈ fu ∨ (W.heap.size ≤ k ∧ k < w'.heap.size)) ∧ W.heap.size ≤ w'.heap.size ∧ (w'.os = W.os ∧ w'.tape = W.tape ∧ w'.output = W.output) ∧ (∀ k, k < W.heap.size → k ∉ fv → w'.heap[k]? = W.heap[k]?) ∧ (v' = .slice none 0 0 ↔ v = .slice none 0 0 ∧ m = 0) := by
  obtain ⟨i, hi, hz0, hz1, hz2⟩ := info_parts hE
  have hlt9 := (O.slice E o').lt hv
  have hlu9 := (O.slice E o').lt hu
  obtain ⟨v1, css, fps, hv1, rfl, hrow, hrows⟩ := hv
  simp at hv1
  subst hv1
  obtain ⟨u1, cst, fpt, hu1, rfl, hrowu, hrowsu⟩ := hu
  simp at hu1
  subst hu1
  rw [hsz] at hrow hrowu
  obtain ⟨_, _, hform, _⟩ := own_form hrowu
  simp at hform
  have hm : m = ys.length := hform.2.1
  subst hm
  have hnl := List.nodup_append.1 hnd
  have hnu := List.nodup_append.1 hynd
  have hby2 : (xs.length + ys.length) * bytes ≤ 140737488355328 := Nat.le_trans (Nat.mul_le_mul (show xs.length + ys.length ≤ 100000001 by omega) hby) (by decide)
  have hcells : ∀ j u, cst.flatten[j]? = some u → W.cell? ((⟨g, 0, none⟩ : Addr).add j) = some u := fun j u hju => by
    obtain ⟨g2, hg2, hc2⟩ := own_cell hrowu j u hju
    simp at hg2
    subst hg2
    rw [add_zero_addr]
    exact hc2
  have hone : ∀ u ∈ cst.flatten, u.oneCell' = true := by
    intro u hu
    obtain ⟨c, hc, huc⟩ := List.mem_flatten.1 hu
    obtain ⟨i9, hi9, rfl⟩ := List.mem_iff_getElem.1 hc
    have hl9 := o'.rows_len hrowsu
    obtain ⟨c2, f2, h1, h2, h3⟩ := o'.rows_get hrowsu i9 _ (List.getElem?_eq_getElem (by omega))
    rw [List.getElem?_eq_getElem hi9] at h1
    simp at h1
    subst h1
    exact hone' h3 u huc
  obtain ⟨v', w', hrun, h3, h4, h6, h5⟩ := run_append_own_at (P := Try.prog) W 0 T ty E i z size bytes hT hi hz0 hz1 hz2 hz hpos v xs.length css.flatten hrow ⟨g, 0, none⟩ ys.length cu cst.flatten hrowu.1 hcells hone (by unfold maxLen; omega) hby2 (Nat.zero_le _)
  have hsz' := h4.size
  have hv' : ∀ k ∈ bl v', k ∈ bl v ∨ k = W.heap.size := by
    intro k hk
    have hk' : v'.ownBlock = some k := by simpa [bl] using hk
    rcases h5 with h5 | h5
    · left; simp only [bl]; rw [← h5, hk']; simp
    · right
      rw [h5] at hk'
      simp at hk'
      omega
  have hkeep : ∀ k, k < W.heap.size → k ∉ bl v → w'.heap[k]? = W.heap[k]? := by
    intro k hk hn
    exact h4.block k hk (fun e => hn (by simp only [bl]; rw [← e]; simp))
  refine ⟨v', w', bl v' ++ (fps ++ fpt).flatten, hrun, ⟨_, css ++ cst, fps ++ fpt, rfl, rfl, ?_, ?_⟩, ?_, ?_, hsz', ⟨h4.os, h4.tape, h4.output⟩, fun k hk hx => hkeep k hk (fun hb => hx (List.mem_append_left _ hb)), h6⟩
  · rw [hsz, List.length_append, List.flatten_append]; exact h3
  · have hk1 : ∀ k, k ∈ fps.flatten → w'.heap[k]? = W.heap[k]? := fun k hk => hkeep k (hlt9 k (List.mem_append_right _ hk)) (fun hb => hnl.2.2 k hb k hk rfl)
    have hk2 : ∀ k, k ∈ fpt.flatten → w'.heap[k]? = W.heap[k]? := fun k hk => hkeep k (hlu9 k (List.mem_append_right _ hk)) (fun hb => hdis k (List.mem_append_right _ hk) (List.mem_append_left _ hb))
    exact o'.rows_app (o'.rows_frame hrowsu hk2) (o'.rows_frame hrows hk1)
  · rw [List.flatten_append, List.nodup_append]
    refine ⟨by unfold bl; cases v'.ownBlock <;> simp, ?_, ?_⟩
    · rw [List.nodup_append]
      refine ⟨hnl.2.1, hnu.2.1, ?_⟩
      intro p hp q hq e
      subst e
      exact hdis p (List.mem_append_right _ hq) (List.mem_append_right _ hp)
    · intro p hp q hq e
      subst e
      rcases hv' p hp with h8 | h8
      · rcases List.mem_append.1 hq with hq | hq
        · exact hnl.2.2 p h8 p hq rfl
        · exact hdis p (List.mem_append_right _ hq) (List.mem_append_left _ h8)
      · rcases List.mem_append.1 hq with hq | hq
        · have := hlt9 p (List.mem_append_right _ hq); omega
        · have := hlu9 p (List.mem_append_right _ hq); omega
  · intro k hk
    rcases List.mem_append.1 hk with hk | hk
    · rcases hv' k hk with h8 | h8
      · exact .inl (List.mem_append_left _ h8)
      · have h9 := (h3.lt k (by simpa [bl] using hk)).2
        exact .inr (.inr (by omega))
    · simp only [List.flatten_append, List.mem_append] at hk
      rcases hk with hk | hk
      · exact .inl (List.mem_append_right _ hk)
      · exact .inr (.inl (List.mem_append_right _ hk))

/-- In a loop that appends to a slice: all elements of another one go in. -/
theorem run_acc_many {α : Type} {T E size bytes : Nat} {z : Value} (hT : Try.prog.underlying T = some (.slice E)) (hE : (Try.prog.info? E).map (fun i => (i.zero, i.size, i.bytes)) = some (some z, size, bytes)) (hz : z.cells.size = size) (hpos : 0 < size) (hby : bytes ≤ 1000)
    {o' : OS α} (hsz : o'.size = size) (hone' : ∀ {W : World} {c : List Value} {y : α} {f : List Nat}, o'.rep W c y f → ∀ u ∈ c, u.oneCell' = true) {lo S hi9 h1 h2 : Nat} {W0 W : World} (ty : TypeId) (v : Value) (xs : List α) (g m cu : Nat) (ys : List α)
    (hown : Acc E o' lo S hi9 W v xs) (hy : Own (O.slice E o') h1 h2 W [.slice (some ⟨g, 0, none⟩) m cu] ys) (hS1 : S ≤ h1) (hhi : hi9 ≤ h1) (ht : Turn lo (lo + 1) W0 W) (hS : W0.heap.size = S) (hlo : lo < S) (hn : xs.length + ys.length ≤ 100000000) :
    ∃ v' w', (Builtin.append_ #[T, T] ty #[v, .slice (some ⟨g, 0, none⟩) m cu]).run Try.prog W = .ok v' w' ∧ Acc E o' lo S w'.heap.size w' v' (xs ++ ys) ∧ Turn lo (lo + 1) W0 w' ∧ W.heap.size ≤ w'.heap.size ∧ (v' = .slice none 0 0 ↔ v = .slice none 0 0 ∧ m = 0) := by
  obtain ⟨fv, hv, hnd, hlim⟩ := hown
  obtain ⟨fu, hu, hund, hulim⟩ := hy
  have hts := ht.size
  have hlu := (O.slice E o').lt hu
  have hlv := (O.slice E o').lt hv
  obtain ⟨v', w', fv', hrun, c1, c2, c3, c4, ⟨c5, c6, c7⟩, c8, c9⟩ := run_app_many (W := W) hT hE hz hpos hby hsz hone' ty v xs g m cu ys fv fu hv hnd hu hund (fun k hk hk2 => by have := hulim k hk; have := hlim k hk2; omega) hn
  refine ⟨v', w', hrun, ⟨fv', c1, c2, fun k hk => ?_⟩, ⟨c5.trans ht.os, c6.trans ht.tape, c7.trans ht.output, by omega, fun k hk hx => ?_⟩, c4, c9⟩
  · rcases c3 k hk with h | h | h
    · have := hlim k h; have := hlv k h; omega
    · have := hulim k h; have := hlu k h; omega
    · omega
  · rw [c8 k (by omega) (fun hb => by have := hlim k hb; omega)]
    exact ht.block k hk hx
theorem one_I {W : World} {c : List Value} {y : List Int} {f : List Nat} (h : oI.rep W c y f) : ∀ u ∈ c, u.oneCell' = true := by
  obtain ⟨a, cap, rfl, _⟩ := oI_own h
  intro u hu
  simp at hu
  subst hu
  rfl

/-- A number goes into a slice of one's own. -/
theorem own_num {lo hi : Nat} {W W1 : World} {v : Value} {ys : List Int} {r : Int} (ty : TypeId) (h : Own oI lo hi W [v] ys) (hr : I64 r) (hh2 : hi ≤ W.heap.size) (hlo : lo ≤ hi) (hn : ys.length ≤ 1000000) (hW1 : W1 = W.alloc (.cells #[.int .i64 r] 3)) :
    ∃ a n c w', (Builtin.append_ #[44, 44] ty #[v, .slice (some ⟨W.heap.size, 0, none⟩) 1 1]).run Try.prog W1 = .ok (.slice a n c) w' ∧ Own oI lo w'.heap.size w' [.slice a n c] (ys ++ [r]) ∧ Below lo W w' ∧ W.heap.size < w'.heap.size := by
  obtain ⟨fu, a2, a4, a9⟩ := h
  obtain ⟨a, n, c, w', fu', hrun, c1, c2, c3, c4, ⟨c5, c6, c7⟩, c8⟩ := run_app_fp (W := W) (W1 := W1) Try.underlying44 infoInt rfl (by decide) (by decide) rfl ty v ys [.int .i64 r] r fu [] a2 a4 (o' := O.int) ⟨rfl, hr, rfl⟩ (by simp) (fun k hk => by cases hk) (by intro z hz; simp at hz; subst hz; rfl) (by omega) hW1
  refine ⟨a, n, c, w', hrun, ⟨fu', c1, c2, fun k hk => ?_⟩, ⟨c5, c6, c7, by omega, fun k hk => c8 k (by omega) (fun hk2 => by have := a9 k hk2; omega)⟩, c4⟩
  rcases c3 k hk with h9 | h9 | h9
  · have := a9 k h9; omega
  · cases h9
  · omega

/-- A shape that is read in a world of old, as one that owns nothing. -/
def O.at {α : Type} (r : RS α) (W0 : World) : OS α :=
  ⟨r.size, fun _ cs x fp => r.rep W0 cs x ∧ fp = [], fun h => r.len h.1, fun h _ => h, fun h k hk => by rw [h.2] at hk; cases hk⟩
/-- A slice of one's own whose elements are read in a world of old. -/
theorem at_reads {α : Type} {E : TypeId} {r : RS α} {W0 w : World} {v : Value} {xs : List α} {fp : List Nat} (h : (O.slice E (O.at r W0)).rep w [v] xs fp) (hb : Below W0.heap.size W0 w) : (R.slice r).rep w [v] xs := by
  have key : Reads (O.at r W0) ⟨r.size, fun _ cs x => r.rep W0 cs x, fun h => r.len h, fun h _ => h⟩ := ⟨rfl, fun h => h.1⟩
  obtain ⟨a, n, cap, h1, h2, h3, h4⟩ := (Reads.slice E key).2 h
  refine ⟨a, n, cap, h1, h2, h3, h4.len, h4.small, fun i x hx => ?_⟩
  obtain ⟨b, off, cs, ha, hr, hc⟩ := h4.elem i x hx
  exact ⟨b, off, cs, ha, r.mono hr hb, hc⟩

/-- Two slices of the call's own that grow side by side. -/
def Duo {α β : Type} (E1 : TypeId) (o1 : OS α) (E2 : TypeId) (o2 : OS β) (lo hi : Nat) (w : World) (v u : Value) (xs : List α) (ys : List β) : Prop :=
  ∃ fv fu, (O.slice E1 o1).rep w [v] xs fv ∧ (O.slice E2 o2).rep w [u] ys fu ∧ fv.Nodup ∧ fu.Nodup ∧ (∀ k ∈ fv, k ∉ fu) ∧ (∀ k ∈ fv, lo ≤ k ∧ k < hi) ∧ (∀ k ∈ fu, lo ≤ k ∧ k < hi)
section
variable {α β : Type} {E1 : TypeId} {o1 : OS α} {E2 : TypeId} {o2 : OS β} {lo hi : Nat} {w : World} {v u : Value} {xs : List α} {ys : List β}
theorem Duo.mono {lo' hi' : Nat} (h : Duo E1 o1 E2 o2 lo hi w v u xs ys) (hl : lo' ≤ lo) (hh : hi ≤ hi') : Duo E1 o1 E2 o2 lo' hi' w v u xs ys := by
  obtain ⟨fv, fu, h1, h2, h3, h4, h5, h8, h9⟩ := h
  exact ⟨fv, fu, h1, h2, h3, h4, h5, fun k hk => by have := h8 k hk; omega, fun k hk => by have := h9 k hk; omega⟩
theorem Duo.frame {w' : World} (h : Duo E1 o1 E2 o2 lo hi w v u xs ys) (hb : ∀ k, lo ≤ k → k < hi → w'.heap[k]? = w.heap[k]?) : Duo E1 o1 E2 o2 lo hi w' v u xs ys := by
  obtain ⟨fv, fu, h1, h2, h3, h4, h5, h8, h9⟩ := h
  exact ⟨fv, fu, (O.slice E1 o1).frame h1 (fun k hk => hb k (h8 k hk).1 (h8 k hk).2), (O.slice E2 o2).frame h2 (fun k hk => hb k (h9 k hk).1 (h9 k hk).2), h3, h4, h5, h8, h9⟩
theorem Duo.below {w' : World} {C : Nat} (h : Duo E1 o1 E2 o2 lo hi w v u xs ys) (hb : Below C w w') (hC : hi ≤ C) : Duo E1 o1 E2 o2 lo hi w' v u xs ys :=
  h.frame fun k _ hk => hb.block k (by omega)
theorem Duo.fst (h : Duo E1 o1 E2 o2 lo hi w v u xs ys) : Own (O.slice E1 o1) lo hi w [v] xs := by
  obtain ⟨fv, fu, h1, h2, h3, h4, h5, h8, h9⟩ := h
  exact ⟨fv, h1, h3, h8⟩
theorem Duo.snd (h : Duo E1 o1 E2 o2 lo hi w v u xs ys) : Own (O.slice E2 o2) lo hi w [u] ys := by
  obtain ⟨fv, fu, h1, h2, h3, h4, h5, h8, h9⟩ := h
  exact ⟨fu, h2, h4, h9⟩
theorem Duo.mk {mid : Nat} (h : Own (O.slice E1 o1) lo mid w [v] xs) (k : Own (O.slice E2 o2) mid hi w [u] ys) (h1 : lo ≤ mid) (h2 : mid ≤ hi) : Duo E1 o1 E2 o2 lo hi w v u xs ys := by
  obtain ⟨fv, a1, a2, a3⟩ := h
  obtain ⟨fu, b1, b2, b3⟩ := k
  exact ⟨fv, fu, a1, b1, a2, b2, fun k hk hk2 => by have := a3 k hk; have := b3 k hk2; omega, fun k hk => by have := a3 k hk; omega, fun k hk => by have := b3 k hk; omega⟩
theorem Duo.swap (h : Duo E1 o1 E2 o2 lo hi w v u xs ys) : Duo E2 o2 E1 o1 lo hi w u v ys xs := by
  obtain ⟨fv, fu, h1, h2, h3, h4, h5, h8, h9⟩ := h
  exact ⟨fu, fv, h2, h1, h4, h3, fun k hk hk2 => h5 k hk2 hk, h9, h8⟩
end
/-- One more in the first. -/
theorem Duo.one {α β : Type} {T E1 size bytes : Nat} {z : Value} (hT : Try.prog.underlying T = some (.slice E1)) (hE : (Try.prog.info? E1).map (fun i => (i.zero, i.size, i.bytes)) = some (some z, size, bytes)) (hz : z.cells.size = size) (hpos : 0 < size) (hby : bytes ≤ 1000)
    {o1 : OS α} (hsz : o1.size = size) {E2 : TypeId} {o2 : OS β} {lo hi h1 h2 : Nat} {W W1 : World} {v u : Value} {xs : List α} {ys : List β} (ty : TypeId) (c : List Value) (y : α) (h : Duo E1 o1 E2 o2 lo hi W v u xs ys) (hy : Own o1 h1 h2 W c y) (hone : ∀ u ∈ c, u.oneCell' = true) (hh1 : hi ≤ h1) (hlo : lo ≤ hi) (hhi : hi ≤ W.heap.size) (hn : xs.length ≤ 100000000) (hW1 : W1 = W.alloc (.cells c.toArray E1)) :
    ∃ a n cp w', (Builtin.append_ #[T, T] ty #[v, .slice (some ⟨W.heap.size, 0, none⟩) 1 1]).run Try.prog W1 = .ok (.slice a n cp) w' ∧ Duo E1 o1 E2 o2 lo w'.heap.size w' (.slice a n cp) u (xs ++ [y]) ys ∧ Below lo W w' ∧ W.heap.size < w'.heap.size := by
  obtain ⟨fv, fu, a1, a2, a3, a4, a5, a8, a9⟩ := h
  obtain ⟨fy, b1, b2, b3⟩ := hy
  have hyl := o1.lt b1
  obtain ⟨a, n, cp, w', fv', hr, c1, c2, c3, c4, ⟨c5, c6, c7⟩, c8⟩ := run_app_fp (W := W) (W1 := W1) hT hE hz hpos hby hsz ty v xs c y fv fy a1 a3 b1 b2 (fun k hk hk2 => by have := b3 k hk; have := a8 k hk2; omega) hone hn hW1
  refine ⟨a, n, cp, w', hr, ⟨fv', fu, c1, (O.slice E2 o2).frame a2 (fun k hk => c8 k (by have := a9 k hk; omega) (fun hk2 => a5 k hk2 hk)), c2, a4, fun k hk hk2 => ?_, fun k hk => ?_, fun k hk => by have := a9 k hk; omega⟩, ⟨c5, c6, c7, by omega, fun k hk => c8 k (by omega) (fun hk2 => by have := a8 k hk2; omega)⟩, c4⟩
  · have := a9 k hk2
    rcases c3 k hk with h9 | h9 | h9
    · exact a5 k h9 hk2
    · have := b3 k h9; omega
    · omega
  · rcases c3 k hk with h9 | h9 | h9
    · have := a8 k h9; omega
    · have := b3 k h9; have := hyl k h9; omega
    · omega

end Go.Proofs.Ytkipgbgkhffkkaa

/- Contracts: masks of a query, and their variables. -/
namespace Go.Proofs.Ytkipgbgkhffkkaa
open Go.RowKit
set_option linter.unusedVariables false
set_option linter.unusedSimpArgs false
set_option synthInstance.maxSize 2000
set_option synthInstance.maxHeartbeats 400000

theorem full_int {n : Nat} (hn : n ≤ 16) : wrap64 (wrap64 ((2 : Int) ^ n) - 1) = ((2 ^ n - 1 : Nat) : Int) := by
  have h1 := Nat.pow_le_pow_right (show 0 < 2 by omega) hn
  have h2 := Nat.two_pow_pos n
  rw [wrap_pow hn]
  generalize 2 ^ n = p at h1 h2
  rw [IntWalk.wrap64_in _ ⟨by omega, by omega⟩]
  omega
theorem fullMask_no {q : DQ} (h : validQ q = false) : fullMask q = 0 := by simp [fullMask, h]
theorem fullMask_yes {q : DQ} (h : validQ q = true) : fullMask q = ((2 ^ q.2.length - 1 : Nat) : Int) := by simp [fullMask, h]

set_option maxHeartbeats 800000 in
theorem fullMask_impl (cs : List Value) (x : DQ) (w : World) (h : rQ.rep w cs x) :
    Calls Try.prog 40 #[.agg cs.toArray] w fun e w' => e = .returned (.int .i64 (fullMask x)) ∧ Below w.heap.size w w' := by
  obtain ⟨ub, un, uc, rfl, hi, g1⟩ := rQ_open h
  have hl := (rS_sl g1).len
  clear g1 hi
  have hb0 : Below w.heap.size w w := Below.refl _ _
  go_enter Try.func40, Try.ntmps40
  obtain ⟨w1, hw1⟩ : ∃ W, W = w.alloc (.cells #[.int .i64 x.1, .slice ub un uc] 37) := ⟨_, rfl⟩
  have z1 : Below w.heap.size w w1 := by rw [hw1]; exact (Below.refl _ _).alloc (Nat.le_refl _) _
  have s1 : w1.heap.size = w.heap.size + 1 := by rw [hw1]; simp
  have hb1 := on hb0 z1
  have b_0 : w1.cell? ⟨w.heap.size, 0, none⟩ = some (.int .i64 x.1) := by rw [hw1]; exact box_cell (Below.refl _ _) rfl
  have b_1 : w1.cell? ⟨w.heap.size, 1, none⟩ = some (.slice ub un uc) := by rw [hw1]; exact box_cell (Below.refl _ _) rfl
  have raw1_b_0 := b_0
  have raw1_b_1 := b_1
  rw [hw1] at raw1_b_0 raw1_b_1
  go_wp2_with fail
  rw [← hw1]
  clear hw1
  clear raw1_b_0 raw1_b_1
  refine (validQ_impl _ x _ (rQ.mono h hb1)).mono ?_
  rintro e w2 ⟨rfl, z2⟩
  have s3 := z2.size
  have hb3 := on hb1 z2
  replace b_0 := (z2.cell (p := ⟨w.heap.size, 0, none⟩) (by simp only []; omega)).trans b_0
  replace b_1 := (z2.cell (p := ⟨w.heap.size, 1, none⟩) (by simp only []; omega)).trans b_1
  by_cases hv : validQ x = true
  case neg =>
    replace hv : validQ x = false := by simpa using hv
    have HE := Lib.hid (fullMask_no hv)
    clear hl
    go_wp2_with fail
    go_ret
    exact ⟨ret_int HE.out.symm, hb3⟩
  have h9 : un ≤ 16 := by obtain ⟨n, hq⟩ := QOk.of hv; have := hq.len; omega
  have HE := Lib.hid (show wrap64 (wrap64 ((2 : Int) ^ un) - 1) = fullMask x by rw [full_int h9, fullMask_yes hv, hl])
  clear hl
  go_wp2_with fail
  go_ret
  exact ⟨ret_int HE.out, hb3⟩

set_option maxHeartbeats 800000 in
theorem fullMask_spec (cs : List Value) (x : DQ) (w : World) (h : rQ.rep w cs x) :
    Calls Try.prog 41 #[.agg cs.toArray] w fun e w' => e = .returned (.int .i64 (fullMask x)) ∧ Below w.heap.size w w' := by
  obtain ⟨ub, un, uc, rfl, hi, g1⟩ := rQ_open h
  have hl := (rS_sl g1).len
  clear g1 hi
  have hb0 : Below w.heap.size w w := Below.refl _ _
  go_enter Try.func41, Try.ntmps41
  obtain ⟨w1, hw1⟩ : ∃ W, W = w.alloc (.cells #[.int .i64 x.1, .slice ub un uc] 37) := ⟨_, rfl⟩
  have z1 : Below w.heap.size w w1 := by rw [hw1]; exact (Below.refl _ _).alloc (Nat.le_refl _) _
  have s1 : w1.heap.size = w.heap.size + 1 := by rw [hw1]; simp
  have hb1 := on hb0 z1
  have b_0 : w1.cell? ⟨w.heap.size, 0, none⟩ = some (.int .i64 x.1) := by rw [hw1]; exact box_cell (Below.refl _ _) rfl
  have b_1 : w1.cell? ⟨w.heap.size, 1, none⟩ = some (.slice ub un uc) := by rw [hw1]; exact box_cell (Below.refl _ _) rfl
  have raw1_b_0 := b_0
  have raw1_b_1 := b_1
  rw [hw1] at raw1_b_0 raw1_b_1
  go_wp2_with fail
  rw [← hw1]
  clear hw1
  clear raw1_b_0 raw1_b_1
  refine (validQ_spec _ x _ (rQ.mono h hb1)).mono ?_
  rintro e w2 ⟨rfl, z2⟩
  have s3 := z2.size
  have hb3 := on hb1 z2
  replace b_0 := (z2.cell (p := ⟨w.heap.size, 0, none⟩) (by simp only []; omega)).trans b_0
  replace b_1 := (z2.cell (p := ⟨w.heap.size, 1, none⟩) (by simp only []; omega)).trans b_1
  by_cases hv : validQ x = true
  case neg =>
    replace hv : validQ x = false := by simpa using hv
    have HE := Lib.hid (fullMask_no hv)
    clear hl
    go_wp2_with fail
    go_ret
    exact ⟨ret_int HE.out.symm, hb3⟩
  have h9 : un ≤ 16 := by obtain ⟨n, hq⟩ := QOk.of hv; have := hq.len; omega
  have HE := Lib.hid (show wrap64 (wrap64 ((2 : Int) ^ un) - 1) = fullMask x by rw [full_int h9, fullMask_yes hv, hl])
  clear hl
  go_wp2_with fail
  go_ret
  exact ⟨ret_int HE.out, hb3⟩

set_option maxHeartbeats 800000 in
theorem maskOk_impl (cs : List Value) (x : DQ) (k : Int) (w : World) (h : rQ.rep w cs x) :
    Calls Try.prog 84 #[.agg cs.toArray, .int .i64 k] w fun e w' => e = .returned (.bool (maskOkB x k)) ∧ Below w.heap.size w w' := by
  obtain ⟨ub, un, uc, rfl, hi, g1⟩ := rQ_open h
  have hl := (rS_sl g1).len
  clear g1 hi
  have hb0 : Below w.heap.size w w := Below.refl _ _
  go_enter Try.func84, Try.ntmps84
  obtain ⟨w1, hw1⟩ : ∃ W, W = w.alloc (.cells #[.int .i64 x.1, .slice ub un uc] 37) := ⟨_, rfl⟩
  have z1 : Below w.heap.size w w1 := by rw [hw1]; exact (Below.refl _ _).alloc (Nat.le_refl _) _
  have s1 : w1.heap.size = w.heap.size + 1 := by rw [hw1]; simp
  have hb1 := on hb0 z1
  have b_0 : w1.cell? ⟨w.heap.size, 0, none⟩ = some (.int .i64 x.1) := by rw [hw1]; exact box_cell (Below.refl _ _) rfl
  have b_1 : w1.cell? ⟨w.heap.size, 1, none⟩ = some (.slice ub un uc) := by rw [hw1]; exact box_cell (Below.refl _ _) rfl
  have raw1_b_0 := b_0
  have raw1_b_1 := b_1
  rw [hw1] at raw1_b_0 raw1_b_1
  go_wp2_with fail
  rw [← hw1]
  clear hw1
  clear raw1_b_0 raw1_b_1
  refine (validQ_impl _ x _ (rQ.mono h hb1)).mono ?_
  rintro e w2 ⟨rfl, z2⟩
  have s3 := z2.size
  have hb3 := on hb1 z2
  replace b_0 := (z2.cell (p := ⟨w.heap.size, 0, none⟩) (by simp only []; omega)).trans b_0
  replace b_1 := (z2.cell (p := ⟨w.heap.size, 1, none⟩) (by simp only []; omega)).trans b_1
  by_cases hv : validQ x = true
  case neg =>
    replace hv : validQ x = false := by simpa using hv
    have HE := Lib.hid (show maskOkB x k = false by simp [maskOkB, hv])
    clear hl
    go_wp2_with fail
    go_ret
    exact ⟨ret_bool HE.out.symm, hb3⟩
  have h9 : un ≤ 16 := by obtain ⟨n, hq⟩ := QOk.of hv; have := hq.len; omega
  have HE := Lib.hid (show betw k 0 (wrap64 (wrap64 ((2 : Int) ^ un) - 1)) = maskOkB x k by rw [full_int h9, ← hl]; simp [maskOkB, hv])
  clear hl
  go_wp2_with fail
  refine (within_any _ _ _ _).mono ?_
  rintro e w' ⟨rfl, rfl⟩
  obtain ⟨t, ht⟩ : ∃ t, t = betw k 0 (wrap64 (wrap64 ((2 : Int) ^ un) - 1)) := ⟨_, rfl⟩
  rw [← ht] at HE ⊢
  clear ht
  go_wp2_with fail
  go_ret
  exact ⟨ret_bool HE.out, hb3⟩

set_option maxHeartbeats 800000 in
theorem maskOk_spec (cs : List Value) (x : DQ) (k : Int) (w : World) (h : rQ.rep w cs x) :
    Calls Try.prog 85 #[.agg cs.toArray, .int .i64 k] w fun e w' => e = .returned (.bool (maskOkB x k)) ∧ Below w.heap.size w w' := by
  obtain ⟨ub, un, uc, rfl, hi, g1⟩ := rQ_open h
  have hl := (rS_sl g1).len
  clear g1 hi
  have hb0 : Below w.heap.size w w := Below.refl _ _
  go_enter Try.func85, Try.ntmps85
  obtain ⟨w1, hw1⟩ : ∃ W, W = w.alloc (.cells #[.int .i64 x.1, .slice ub un uc] 37) := ⟨_, rfl⟩
  have z1 : Below w.heap.size w w1 := by rw [hw1]; exact (Below.refl _ _).alloc (Nat.le_refl _) _
  have s1 : w1.heap.size = w.heap.size + 1 := by rw [hw1]; simp
  have hb1 := on hb0 z1
  have b_0 : w1.cell? ⟨w.heap.size, 0, none⟩ = some (.int .i64 x.1) := by rw [hw1]; exact box_cell (Below.refl _ _) rfl
  have b_1 : w1.cell? ⟨w.heap.size, 1, none⟩ = some (.slice ub un uc) := by rw [hw1]; exact box_cell (Below.refl _ _) rfl
  have raw1_b_0 := b_0
  have raw1_b_1 := b_1
  rw [hw1] at raw1_b_0 raw1_b_1
  go_wp2_with fail
  rw [← hw1]
  clear hw1
  clear raw1_b_0 raw1_b_1
  refine (validQ_spec _ x _ (rQ.mono h hb1)).mono ?_
  rintro e w2 ⟨rfl, z2⟩
  have s3 := z2.size
  have hb3 := on hb1 z2
  replace b_0 := (z2.cell (p := ⟨w.heap.size, 0, none⟩) (by simp only []; omega)).trans b_0
  replace b_1 := (z2.cell (p := ⟨w.heap.size, 1, none⟩) (by simp only []; omega)).trans b_1
  by_cases hv : validQ x = true
  case neg =>
    replace hv : validQ x = false := by simpa using hv
    have HE := Lib.hid (show maskOkB x k = false by simp [maskOkB, hv])
    clear hl
    go_wp2_with fail
    go_ret
    exact ⟨ret_bool HE.out.symm, hb3⟩
  have h9 : un ≤ 16 := by obtain ⟨n, hq⟩ := QOk.of hv; have := hq.len; omega
  have HE := Lib.hid (show betw k 0 (wrap64 (wrap64 ((2 : Int) ^ un) - 1)) = maskOkB x k by rw [full_int h9, ← hl]; simp [maskOkB, hv])
  clear hl
  go_wp2_with fail
  refine (l1In_any _ _ _ _).mono ?_
  rintro e w' ⟨rfl, rfl⟩
  obtain ⟨t, ht⟩ : ∃ t, t = betw k 0 (wrap64 (wrap64 ((2 : Int) ^ un) - 1)) := ⟨_, rfl⟩
  rw [← ht] at HE ⊢
  clear ht
  go_wp2_with fail
  go_ret
  exact ⟨ret_bool HE.out, hb3⟩

end Go.Proofs.Ytkipgbgkhffkkaa

/- Contracts: the library's bits.Mul and slices.Repeat, as the program calls them: one number, at most four times. -/
namespace Go.Proofs.Ytkipgbgkhffkkaa
open Go.RowKit
set_option linter.unusedVariables false
set_option linter.unusedSimpArgs false

theorem mul64_any (c : Nat) (h1 : 1 ≤ c) (h4 : c ≤ 4) (w : World) :
    Calls Try.prog 187 #[.int .u64 1, .int .u64 (c : Int)] w fun e w' => e = .returned (.tuple #[.int .u64 0, .int .u64 (c : Int)]) ∧ w = w' := by
  rcases (by omega : c = 1 ∨ c = 2 ∨ c = 3 ∨ c = 4) with rfl | rfl | rfl | rfl
  · go_enter Try.func187, Try.ntmps187
    go_wp2_with fail
    refine bodyPost_ret (v := .tuple #[.int .u64 0, .int .u64 1]) (by simp [results, Try.results187, go_sem] <;> decide) rfl ⟨rfl, rfl⟩
  · go_enter Try.func187, Try.ntmps187
    go_wp2_with fail
    refine bodyPost_ret (v := .tuple #[.int .u64 0, .int .u64 2]) (by simp [results, Try.results187, go_sem] <;> decide) rfl ⟨rfl, rfl⟩
  · go_enter Try.func187, Try.ntmps187
    go_wp2_with fail
    refine bodyPost_ret (v := .tuple #[.int .u64 0, .int .u64 3]) (by simp [results, Try.results187, go_sem] <;> decide) rfl ⟨rfl, rfl⟩
  · go_enter Try.func187, Try.ntmps187
    go_wp2_with fail
    refine bodyPost_ret (v := .tuple #[.int .u64 0, .int .u64 4]) (by simp [results, Try.results187, go_sem] <;> decide) rfl ⟨rfl, rfl⟩

theorem mul_any (c : Nat) (h1 : 1 ≤ c) (h4 : c ≤ 4) (w : World) :
    Calls Try.prog 169 #[.int .u64 1, .int .u64 (c : Int)] w fun e w' => e = .returned (.tuple #[.int .u64 0, .int .u64 (c : Int)]) ∧ w = w' := by
  have HM := Lib.hid (mul64_any c h1 h4 w)
  go_enter Try.func169, Try.ntmps169
  go_wp2_with fail
  refine HM.out.mono ?_
  rintro e w' ⟨rfl, rfl⟩
  go_wp2_with fail
  refine bodyPost_ret (v := .tuple #[.int .u64 0, .int .u64 (c : Int)]) (by simp [results, Try.results169, go_sem]) rfl ⟨rfl, rfl⟩

theorem setCells_kit (g : Nat) : ∀ (cs : List Value) (w : World) (i : Nat), w.setCells g i cs = setCells w g i cs
  | [], _, _ => rfl
  | c :: cs, w, i => by rw [World.setCells, setCells, setCells_kit g cs]
/-- copy inside a region or beside it, by its run. -/
theorem step_copy {ops : Array Oper} {o : Oper} {a : Act} {K : Act → World → Prop} {Q : Exit → Act → World → Prop} {E : Prop} {w w' : World} {s x : Operand} {t t' : TypeId} {vs vx v' : Value}
    {ty : TypeId} (hrun : (Builtin.copy_ #[t, t'] ty #[vs, vx]).run Try.prog w = .ok v' w') (hty : o.type = ty) (hgd : o.guard = none)
    (ho : o.op = .call { callee := .builtin .copy, args := #[s, x], argTypes := #[t, t'] }) (hs : a.eval s = vs) (hx : a.eval x = vx)
    (h : K (a.put o.dst v') w') :
    if Region.wanted o (yielded ops a.tmps) = true then Oper.wp Try.prog o a w K Q else E := by
  have hw : Region.wanted o (yielded ops a.tmps) = true := by simp [Region.wanted, hgd]
  rw [if_pos hw]
  unfold Oper.wp execOp
  simp only [ho, resolve, invoke, builtin, Sem.run_bind, Sem.run_pure, Result.andThen_ok, List.map_toArray, List.map_cons, List.map_nil, hs, hx, hty, hrun]
  exact h
theorem wpList_copy_run' {W W' : World} {ops : Array Oper} {rest : List Oper} {o : Oper} {a : Act} {Q : Exit → Act → World → Prop} {s x : Operand} {t t' ty : TypeId} {vs vx v' : Value}
    (hrun : (Builtin.copy_ #[t, t'] ty #[vs, vx]).run Try.prog W = .ok v' W') (hty : o.type = ty) (hgd : o.guard = none)
    (ho : o.op = .call { callee := .builtin .copy, args := #[s, x], argTypes := #[t, t'] }) (hs : a.eval s = vs) (hx : a.eval x = vx)
    (h : wpList Try.prog ops Q rest (a.put o.dst v') W') : wpList Try.prog ops Q (o :: rest) a W := by
  refine wpList_plain hgd fun K hK => ?_
  unfold Oper.wp execOp
  simp only [ho, resolve, invoke, builtin, Sem.run_bind, Sem.run_pure, Result.andThen_ok, List.map_toArray, List.map_cons, List.map_nil, hs, hx, hty, hrun]
  exact hK _ _ h
theorem infoInt1 : (Try.prog.info? 3).map (·.size) = some 1 := by
  obtain ⟨i, hi, _, hz, _⟩ := info_parts infoInt
  rw [hi]; simp [hz]

/-- Block g: n numbers x, then noughts, c cells in all. -/
def RepB (w : World) (g c n : Nat) (x : Int) : Prop := n ≤ c ∧ w.heap[g]? = some (.cells ((List.replicate n (Value.int .i64 x)) ++ List.replicate (c - n) (Value.int .i64 0)).toArray 3)
theorem RepB.cell {w : World} {g c n : Nat} {x : Int} (h : RepB w g c n x) {j : Nat} (hj : j < n) : w.cell? ⟨g, j, none⟩ = some (.int .i64 x) := by
  obtain ⟨hn, h⟩ := h
  simp only [World.cell?, h]
  rw [List.getElem?_toArray, List.getElem?_append_left (by simp; omega)]
  simp [hj]
theorem RepB.isS {w : World} {g c n : Nat} {x : Int} (h : RepB w g c n x) {j : Nat} (hj : j < c) : (w.cell? ⟨g, j, none⟩).isSome = true := by
  obtain ⟨hn, h⟩ := h
  simp only [World.cell?, h]
  rw [List.getElem?_toArray, List.getElem?_eq_getElem (by simp; omega)]
  rfl
theorem RepB.frozen {w : World} {g c n : Nat} {x : Int} (h : RepB w g c n x) (j : Nat) : w.frozen? ⟨g, j, none⟩ = false := by
  simp [World.frozen?, h.2]
theorem RepB.put {w : World} {g c n m : Nat} {x : Int} (h : RepB w g c n x) (hm : n + m ≤ c) : RepB (w.setCells g n (List.replicate m (.int .i64 x))) g c (n + m) x := by
  refine ⟨hm, ?_⟩
  rw [setCells_kit]
  have h2 := h.2
  rw [show c - n = m + (c - (n + m)) by omega, ← List.replicate_append_replicate] at h2
  rw [setCells_block g _ (List.replicate m (.int .i64 x)) w n (List.replicate n (.int .i64 x)) (List.replicate (c - (n + m)) (.int .i64 0)) (List.replicate m (.int .i64 0)) h2 (by simp) (by simp)]
  rw [← List.replicate_append_replicate, List.append_assoc]
theorem RepB.below {w : World} {g c n m : Nat} {x : Int} {B : Nat} (hB : B ≤ g) : Below B w (w.setCells g n (List.replicate m (.int .i64 x))) := by
  rw [setCells_kit]
  have h := setCells_only g (List.replicate m (.int .i64 x)) w n
  exact ⟨h.os, h.tape, h.output, Nat.le_of_eq h.size.symm, fun k hk => h.block k (by simp; omega)⟩
theorem RepB.of_own {w : World} {g c B : Nat} {x : Int} (h : w.ownsRow B 3 1 (.slice (some ⟨g, 0, none⟩) c c) c ((List.replicate c 0).map (Value.int .i64))) : RepB w g c 0 x := by
  rcases h.2 with ⟨hv, _⟩ | ⟨g', cap, cur, hv, _, hg, _, _, hcs, htake⟩
  · simp at hv
  · simp at hv
    obtain ⟨rfl, rfl⟩ := hv
    refine ⟨Nat.zero_le _, ?_⟩
    rw [hg]
    have e1 : cur.toList = (List.replicate c 0).map (Value.int .i64) := by
      rw [← htake, List.take_of_length_le (by simp [hcs])]
    have e3 : cur = ((List.replicate c (0 : Int)).map (Value.int .i64)).toArray := by rw [← e1]
    rw [e3]
    simp
theorem RepB.own {w : World} {g c B : Nat} {x : Int} (h : RepB w g c c x) (hx : I64 x) (hB : B ≤ g) (hc : c ≤ 1000 := by omega) : Own oI B w.heap.size w [.slice (some ⟨g, 0, none⟩) c c] (List.replicate c x) := by
  have h2 : w.ownsRow B 3 1 (.slice (some ⟨g, 0, none⟩) c c) c ((List.replicate c x).map (Value.int .i64)) := by
    refine ⟨by simp, .inr ⟨g, c, _, rfl, hB, h.2, Nat.le_refl _, by unfold maxLen; omega, by simp, by simp⟩⟩
  exact OwnInts.own ⟨by simp, h2, fun y hy => by rw [List.mem_replicate] at hy; rw [hy.2]; exact hx⟩
/-- The run of 'copy(new[n:], new[:n])'. -/
theorem run_copy_rep {w : World} {g c n k cap : Nat} {x : Int} (ty : TypeId) (h : RepB w g c n x) (hk : k ≤ n) (hkc : n + Nat.min k (c - n) ≤ c) :
    (Builtin.copy_ #[44, 44] ty #[.slice (some ⟨g, n, none⟩) (c - n) cap, .slice (some ⟨g, 0, none⟩) k c]).run Try.prog w = .ok (goInt (Nat.min k (c - n))) (w.setCells g n (List.replicate (Nat.min k (c - n)) (.int .i64 x))) := by
  have hmk : Nat.min k (c - n) ≤ k := Nat.min_le_left _ _
  have h9 := run_copy_cells (P := Try.prog) w 44 44 ty 3 g n (c - n) cap ⟨g, 0, none⟩ k c (List.replicate (Nat.min k (c - n)) (.int .i64 x)) Try.underlying44 infoInt1 (by simp) (fun j v hv => by
    rw [add_zero_addr]
    have hj : j < Nat.min k (c - n) := by have := (List.getElem?_eq_some_iff.1 hv).1; simpa using this
    rw [List.getElem?_replicate, if_pos hj] at hv
    simp at hv
    subst hv
    exact h.cell (by omega)) (fun j hj => h.isS (by simp at hj; omega)) (fun j hj => h.frozen _) (by intro v hv; rw [List.mem_replicate] at hv; rw [hv.2]; rfl)
  simpa using h9
/-- The run of 'copy(new, x)' for a slice of one number. -/
theorem run_copy_one {w : World} {g c : Nat} {x : Int} {a : Addr} (ty : TypeId) (h : RepB w g c 0 x) (hc : 1 ≤ c) (ha : w.cell? a = some (.int .i64 x)) (hs : a.spot = none) :
    (Builtin.copy_ #[44, 44] ty #[.slice (some ⟨g, 0, none⟩) c c, .slice (some a) 1 1]).run Try.prog w = .ok (.int .i64 1) (w.setCells g 0 (List.replicate 1 (.int .i64 x))) := by
  obtain ⟨b, o, s⟩ := a
  simp at hs
  subst hs
  have h9 := run_copy_cells (P := Try.prog) w 44 44 ty 3 g 0 c c ⟨b, o, none⟩ 1 1 (List.replicate 1 (.int .i64 x)) Try.underlying44 infoInt1 (by simp [Nat.min_def]; omega) (fun j v hv => by
    cases j with
    | zero => simp at hv; subst hv; rw [Addr.add_lit]; exact ha
    | succ j => simp at hv) (fun j hj => h.isS (by simp at hj; omega)) (fun j hj => h.frozen _) (by intro v hv; rw [List.mem_replicate] at hv; rw [hv.2]; rfl)
  simpa [goInt] using h9

set_option maxRecDepth 100000 in
set_option maxHeartbeats 1000000 in
theorem repeat_any (g0 : Nat) (c : Nat) (x : Int) (w : World) (h1 : 1 ≤ c) (h4 : c ≤ 4) (hx : I64 x) (hg : w.cell? ⟨g0, 0, none⟩ = some (.int .i64 x)) :
    Calls Try.prog 145 #[.slice (some ⟨g0, 0, none⟩) 1 1, .int .i64 (c : Int)] w fun e w' => ∃ b n q, e = .returned (.slice b n q) ∧ Own oI w.heap.size w'.heap.size w' [.slice b n q] (List.replicate c x) ∧ Below w.heap.size w w' := by
  have HM := Lib.hid (mul_any c h1 h4 w)
  have hg0 : g0 < w.heap.size := cell_lt hg
  have hc0 : ¬ (c : Int) < 0 := by omega
  have hcw : IntKind.u64.wrap (c : Int) = (c : Int) := by
    rcases (by omega : c = 1 ∨ c = 2 ∨ c = 3 ∨ c = 4) with rfl | rfl | rfl | rfl <;> decide
  have hcb : ¬ (9223372036854775807 : Int) < (c : Int) := by omega
  have hcv : IntKind.i64.wrap (c : Int) = (c : Int) := by
    rcases (by omega : c = 1 ∨ c = 2 ∨ c = 3 ∨ c = 4) with rfl | rfl | rfl | rfl <;> decide
  go_enter Try.func145, Try.ntmps145
  go_wp2_with fail
  refine HM.out.mono ?_
  rintro e w' ⟨rfl, rfl⟩
  go_wp2_with (at_make; refine wpList_mk _ _ c (by omega) rfl rfl rfl rfl ?_; intro w1 hp1 hb1 hz1; have hR0 := RepB.of_own (x := x) hp1; have hr1 := run_copy_one 3 hR0 h1 ((hb1.cell (p := ⟨g0, 0, none⟩) hg0).trans hg) rfl; have hR1 := hR0.put (m := 1) (by omega); have hB1 := hb1.trans (RepB.below (w := w1) (g := w.heap.size) (c := c) (n := 0) (m := 1) (x := x) (Nat.le_refl _)); obtain ⟨w2, hw2⟩ : ∃ W, W = w1.setCells w.heap.size 0 (List.replicate 1 (.int .i64 x)) := ⟨_, rfl⟩; rw [← hw2] at hr1 hR1 hB1; clear hp1 hR0 hw2)
  go_wp2_with (at_builtin; refine wpList_copy_run' hr1 rfl rfl rfl rfl rfl ?_)
  go_loopw [8] (fun n wr => ∃ k : Nat, 1 ≤ k ∧ k ≤ c ∧ n = .int .i64 k ∧ RepB wr w.heap.size c k x ∧ Below w.heap.size w wr) (fun n _ => c - (intOf n).toNat)
  case atStart => exact ⟨1, by omega, h1, rfl, hR1, hB1⟩
  case round =>
    obtain ⟨k, hk1, hkc, rfl, hR, hB⟩ := hrel
    clear hr1 hR1 hB1 hb1 HM
    by_cases hlt : k < c
    · obtain ⟨m, hm9, hml, hmr, hmp⟩ : ∃ m, Nat.min k (c - k) = m ∧ m ≤ k ∧ m ≤ c - k ∧ 1 ≤ m := ⟨_, rfl, Nat.min_le_left _ _, Nat.min_le_right _ _, Nat.le_min.2 ⟨by omega, by omega⟩⟩
      have hcne : ¬ c = k := by omega
      have hRd : RepB wr.drew w.heap.size c k x := hR
      have hBd : Below w.heap.size w wr.drew := hB.drew
      have hrk := run_copy_rep (cap := c - k) 3 hRd (Nat.le_refl k) (by rw [hm9]; omega)
      rw [hm9] at hrk
      have hRN := Lib.hid (hRd.put (m := m) (by omega))
      have hBN := Lib.hid (hBd.trans (RepB.below (w := wr.drew) (g := w.heap.size) (c := c) (n := k) (m := m) (x := x) (Nat.le_refl _)))
      obtain ⟨wn, hwn⟩ : ∃ W, W = wr.drew.setCells w.heap.size k (List.replicate m (.int .i64 x)) := ⟨_, rfl⟩
      rw [← hwn] at hrk hRN hBN
      have hkm : IntKind.i64.wrap ((k : Int) + (m : Int)) = ((k + m : Nat) : Int) := by rw [IntWalk.i64_in _ (by constructor <;> omega)]; omega
      clear hm9 hwn hR hB hRd hBd
      go_wp2_with fail
      refine wp_region_noPanic ?_
      refine wp_region_held_drew (S := (fun _ => True)) (by kernel_rfl) ?hS1 (fun hHeld => ?_)
      case hS1 => trivial
      refine wpAnyH_take (i := 0) (v := ?v0_2) rfl (by kernel_rfl) (by kernel_rfl) (by kernel_rfl) (fun _ _ _ h => h) (Or.inl ⟨by rfl, ?hy0_2⟩) (by assumption) ?rest0_2
      case hy0_2 => intro w hSw; (try dsimp only at hSw); go_simp; (try with_reducible rfl)
      try simp only [Act.put, List.getElem_toArray, List.getElem_cons_succ, List.getElem_cons_zero, List.setIfInBounds_toArray, List.set_cons_zero, List.set_cons_succ]
      refine wpAnyH_take (i := 1) (v := ?v1_3) rfl (by kernel_rfl) (by kernel_rfl) (by kernel_rfl) (fun _ _ _ h => h) (Or.inl ⟨by rfl, ?hy1_3⟩) (by assumption) ?rest1_3
      case hy1_3 => intro w hSw; (try dsimp only at hSw); go_simp; (try with_reducible rfl)
      try simp only [Act.put, List.getElem_toArray, List.getElem_cons_succ, List.getElem_cons_zero, List.setIfInBounds_toArray, List.set_cons_zero, List.set_cons_succ]
      refine wpAnyH_take (i := 2) (v := ?v2_4) rfl (by kernel_rfl) (by kernel_rfl) (by kernel_rfl) (fun _ _ _ h => h) (Or.inl ⟨by rfl, ?hy2_4⟩) (by assumption) ?rest2_4
      case hy2_4 => intro w hSw; (try dsimp only at hSw); go_simp; (try with_reducible rfl)
      try simp only [Act.put, List.getElem_toArray, List.getElem_cons_succ, List.getElem_cons_zero, List.setIfInBounds_toArray, List.set_cons_zero, List.set_cons_succ]
      refine wpAnyH_take (i := 3) (v := ?v3_5) rfl (by kernel_rfl) (by kernel_rfl) (by kernel_rfl) (fun _ _ _ h => h) (Or.inl ⟨by rfl, ?hy3_5⟩) (by assumption) ?rest3_5
      case hy3_5 => intro w hSw; (try dsimp only at hSw); go_simp; (try with_reducible rfl)
      try simp only [Act.put, List.getElem_toArray, List.getElem_cons_succ, List.getElem_cons_zero, List.setIfInBounds_toArray, List.set_cons_zero, List.set_cons_succ]
      refine wpAnyH_take (i := 4) (v := ?v4_6) rfl (by kernel_rfl) (by kernel_rfl) (by kernel_rfl) (fun _ _ _ h => h) (Or.inl ⟨by rfl, ?hy4_6⟩) (by assumption) ?rest4_6
      case hy4_6 => intro w hSw; (try dsimp only at hSw); go_simp; (try with_reducible rfl)
      try simp only [Act.put, List.getElem_toArray, List.getElem_cons_succ, List.getElem_cons_zero, List.setIfInBounds_toArray, List.set_cons_zero, List.set_cons_succ]
      refine wpAnyH_take (i := 5) (v := ?v5_7) rfl (by kernel_rfl) (by kernel_rfl) (by kernel_rfl) (fun _ _ _ h => h) (Or.inl ⟨by rfl, ?hy5_7⟩) (by assumption) ?rest5_7
      case hy5_7 => intro w hSw; (try dsimp only at hSw); go_simp; (try with_reducible rfl)
      try simp only [Act.put, List.getElem_toArray, List.getElem_cons_succ, List.getElem_cons_zero, List.setIfInBounds_toArray, List.set_cons_zero, List.set_cons_succ]
      refine wpAnyH_take (i := 6) (v := ?v6_8) rfl (by kernel_rfl) (by kernel_rfl) (by kernel_rfl) (fun _ _ _ h => h) (Or.inl ⟨by rfl, ?hy6_8⟩) (by assumption) ?rest6_8
      case hy6_8 => intro w hSw; (try dsimp only at hSw); go_simp; (try with_reducible rfl)
      try simp only [Act.put, List.getElem_toArray, List.getElem_cons_succ, List.getElem_cons_zero, List.setIfInBounds_toArray, List.set_cons_zero, List.set_cons_succ]
      refine wpAnyH_ready (rs := [7]) (by kernel_rfl) (by simp) ?_
      refine AllReadyH.cons rfl (fun K hK => ?_) AllReadyH.nil
      refine step_copy hrk (by rfl) (by rfl) (by rfl) (by rfl) (by rfl) ?_
      refine hK.out _ _ ?_ (fun hHeld => ?_)
      · trivial
      clear hK K
      try simp only [Act.put, List.setIfInBounds_toArray, List.set_cons_zero, List.set_cons_succ]
      refine wpAnyH_take (i := 8) (v := ?v8_9) rfl (by kernel_rfl) (by kernel_rfl) (by kernel_rfl) (fun _ _ _ h => h) (Or.inl ⟨by rfl, ?hy8_9⟩) (by assumption) ?rest8_9
      case hy8_9 => intro w hSw; (try dsimp only at hSw); go_simp; (try with_reducible rfl)
      try simp only [Act.put, List.getElem_toArray, List.getElem_cons_succ, List.getElem_cons_zero, List.setIfInBounds_toArray, List.set_cons_zero, List.set_cons_succ]
      refine wpAnyH_take (i := 9) (v := ?v9_10) rfl (by kernel_rfl) (by kernel_rfl) (by kernel_rfl) (fun _ _ _ h => h) (Or.inl ⟨by rfl, ?hy9_10⟩) (by assumption) ?rest9_10
      case hy9_10 => intro w hSw; (try dsimp only at hSw); go_simp; (try with_reducible rfl)
      try simp only [Act.put, List.getElem_toArray, List.getElem_cons_succ, List.getElem_cons_zero, List.setIfInBounds_toArray, List.set_cons_zero, List.set_cons_succ]
      refine wpAnyH_done (by kernel_rfl) ?_ _
      refine NoPanic.normal ?_
      go_wp2_with fail
      go_roundw
      case rel => exact ⟨k + m, by omega, by omega, by first | rfl | rw [hkm] | go_num, hRN.out, hBN.out⟩
      case measure => (try rw [hkm]); simp [intOf]; omega
    · obtain rfl : k = c := by omega
      have HO := Lib.hid (hR.own hx (B := w.heap.size) (Nat.le_refl _))
      go_wp2_with fail
      go_ret
      exact ⟨_, _, _, rfl, HO.out, hB⟩

end Go.Proofs.Ytkipgbgkhffkkaa

/- Contracts: rows sorted, each once (impl.sorted). -/
namespace Go.Proofs.Ytkipgbgkhffkkaa
open Go.RowKit Go.Sort
set_option linter.unusedVariables false
set_option linter.unusedSimpArgs false
set_option synthInstance.maxSize 2000
set_option synthInstance.maxHeartbeats 400000

theorem compF_nil (w : World) :
    Calls Try.prog 135 #[.slice none 0 0, .func (.func 136) #[] #[]] w fun e w' => e = .returned (.slice none 0 0) ∧ w' = w := by
  go_enter Try.func135, Try.ntmps135
  go_wp2_with fail
  go_ret
  exact ⟨rfl, rfl⟩

set_option maxHeartbeats 2000000 in
theorem sorted_any (v : Value) (rows : List (List Int)) (w : World) (h : rII.rep w [v] rows) (hn : bulk_II rows ≤ 100000000) :
    Calls Try.prog 98 #[v] w fun e w' => ∃ u, e = .returned u ∧ Own oII w.heap.size w'.heap.size w' [u] (canon rows) ∧ Below w.heap.size w w' := by
  have HC := Lib.hid (copyRows_any v rows w h hn)
  clear h
  go_enter Try.func98, Try.ntmps98
  go_wp2_with fail
  refine HC.out.mono ?_
  rintro e w1 ⟨u, rfl, ho, z1⟩
  have s1 := z1.size
  obtain ⟨a, n, c, rfl⟩ := oII_form1 ho
  rcases own_nilptr ho with ⟨rfl, rfl, rfl, rfl⟩ | ⟨g, rfl, hln⟩
  · have HO := Lib.hid ho
    clear ho
    go_wp2_with fail
    refine (Go.Proofs.AnyF.slices_SortFunc_none { Try.laysSlF6_f133 with } none 0 _ w1).mono ?_
    rintro e w' ⟨rfl, rfl⟩
    go_wp2_with fail
    refine (compF_nil _).mono ?_
    rintro e w' ⟨rfl, rfl⟩
    go_wp2_with fail
    go_ret
    exact ⟨_, rfl, by simpa [canon] using HO.out, z1⟩
  · obtain ⟨d, hd, hdl, hat, hg, hnd, hbd⟩ := rows_open ho
    have hgl : w.heap.size ≤ g := (hbd g (by simp)).1
    have hn9 : n ≤ 1000000000 := by
      have : rows.length ≤ bulk_II rows := by unfold bulk_II; omega
      omega
    have hsort := Try.slices_SortFunc El.v (fun x => x.one) cfE (swoE w1 g) 134 #[] g 0 c d.toArray w1 (enters_of Try.func134 (by kernel_rfl) rfl) cmpLays hat.holds hg (by simp; omega)
    rw [List.size_toArray, hdl] at hsort
    have HS := Lib.hid hsort
    clear hsort ho
    go_wp2_with fail
    refine HS.out.mono ?_
    rintro e w2 ⟨rfl, d', m, os, hp, hs, rfl⟩
    obtain ⟨hp1, hp2⟩ := permIn_all (d := d) (d' := d') (by rw [List.size_toArray, hdl]; exact hp)
    obtain ⟨hat2, hbut⟩ := At.sort (n := m) (d' := d'.toList) os hat hg (by simp; omega)
    rw [Array.toArray_toList] at hat2 hbut
    have hbl := sortW_below (lo := w.heap.size) (m := m) d' os s1 hgl
    obtain ⟨W, hW⟩ : ∃ W, W = Go.Proofs.sortWorld El.v w1 g 0 m d' os := ⟨_, rfl⟩
    rw [← hW] at hat2 hbut hbl ⊢
    have sW : w1.heap.size ≤ W.heap.size := by rw [hW]; exact (sortW_below (lo := 0) (m := m) d' os (Nat.zero_le _) (Nat.zero_le _)).size
    have HCF := Lib.hid (compF_any d'.toList W hat2 hbut sW hg n (by simp; omega) hn9)
    have HP := Lib.hid hp1
    have HSP := Lib.hid (sorted_pair (d' := d') (by rw [hp2, hdl]; exact hs))
    clear hW hat2 hat hp hs HS HC
    go_wp2_with fail
    refine HCF.out.mono ?_
    rintro e w3 ⟨rfl, hat3, hT⟩
    have hln2 : d'.toList.length = n := by simp; omega
    have hmap : (dedTo El.xs d'.toList n).map El.xs = canon rows := by
      rw [dedTo_map (by omega), List.take_of_length_le (by simp; omega)]
      refine dedup_canon (HSP.out.imp fun h => by omega) fun z => ?_
      rw [← hd]
      exact (HP.out.map El.xs).mem_iff
    have hsub : (dedTo El.xs d'.toList n).Sublist d'.toList := by
      have := dedTo_sub El.xs d'.toList n
      rwa [List.take_of_length_le (by omega)] at this
    have hfp : (fps (dedTo El.xs d'.toList n)).Sublist (fps d'.toList) := fps_sub hsub
    have hfq := fps_perm HP.out
    have hnd2 : (g :: fps d'.toList).Nodup := (List.Perm.nodup_iff (hfq.cons g)).2 hnd
    have key := rows_close (lo := w.heap.size) (hi := w1.heap.size) hat3 (Turn.but hbut sW hT) (hnd2.sublist (hfp.cons_cons g)) (fun k hk => by
      rcases List.mem_cons.1 hk with rfl | hk
      · exact hbd k (by simp)
      · exact hbd k (List.mem_cons_of_mem _ (hfq.mem_iff.1 (hfp.subset hk))))
    rw [hmap] at key
    have hs3 := hT.size
    have HK := Lib.hid (key.mono (Nat.le_refl _) (show w1.heap.size ≤ w3.heap.size by omega))
    have HB := Lib.hid (((z1.trans hbl).trans ((hT.below (by omega)).mono hgl) : Below w.heap.size w w3))
    clear key hmap hsub hfp hfq hnd2 hat3 HCF
    go_wp2_with fail
    go_ret
    exact ⟨_, rfl, HK.out, HB.out⟩

end Go.Proofs.Ytkipgbgkhffkkaa

/- Contracts: tables looked up (2). -/
namespace Go.Proofs.Ytkipgbgkhffkkaa
open Go.RowKit Go.Sort
set_option linter.unusedVariables false
set_option linter.unusedSimpArgs false
set_option synthInstance.maxSize 2000
set_option synthInstance.maxHeartbeats 400000

set_option maxHeartbeats 1000000 in
theorem indexT_any (ub : Option Addr) (un uc : Nat) (x : List DT) (name : ByteArray) (p : Addr) (w : World) (h : rTl.rep w [.slice ub un uc] x) (hp : w.cell? p = some (.string name)) (hps : p.spot = none) :
    Calls Try.prog 165 #[.slice ub un uc, .func (.func 166) #[] #[.pointer (some p)]] w fun e w' => e = .returned (.int .i64 (idxFrom name 0 x)) ∧ Below w.heap.size w w' := by
  have t1 := rS_sl h
  have hl := t1.len
  have hn := t1.small
  have HV : Hid (idxFrom name 0 x = idxFrom name 0 (x.drop 0)) := rfl
  have HL := Lib.hid hl
  obtain ⟨pb, po, ps⟩ := p
  simp only at hps
  subst hps
  have hplt : pb < w.heap.size := cell_lt hp
  clear h
  have hb0 : Below w.heap.size w w := Below.refl _ _
  have c0 : w.cell? ⟨pb, po, none⟩ = some (.string name) := hp
  clear hp
  go_enter Try.func165, Try.ntmps165
  go_wp2_with fail
  go_loopw [8] (fun k wr => ∃ j : Nat, j ≤ un ∧ k = .int .i64 j ∧ Hid (idxFrom name 0 x = idxFrom name j (x.drop j)) ∧ Below w.heap.size w wr) (fun k _ => un - (intOf k).toNat)
  case atStart => exact ⟨0, Nat.zero_le _, rfl, HV.out, Below.refl _ _⟩
  case round =>
    obtain ⟨j, hj, rfl, hE, hdr⟩ := hrel
    obtain ⟨wo, rfl⟩ : ∃ W, W = wr := ⟨_, rfl⟩
    have hlc := hdr
    have s1 := hdr.size
    have hb1 := on hb0 hdr
    replace c0 := (hdr.cell (p := ⟨pb, po, none⟩) (by simp only []; omega)).trans c0
    by_cases hlt : j < un
    · obtain ⟨b1, o1, cs, t, rfl, hx, hr, hc⟩ := t1.at hlt
      have hcall := fun W (hW : Below w.heap.size w W) hq => lookFn_any cs t name ⟨pb, po, none⟩ W (rT.mono hr hW) hq rfl
      by_cases hne : t.1 = name
      · have HE : Hid (idxFrom name 0 x = (j : Int)) := Lib.hid (hE.out.trans (idxFrom_yes hx.out hne))
        have hd : decide (t.1 = name) = true := decide_eq_true hne
        simp only [hd] at hcall
        have HC := Lib.hid hcall
        obtain ⟨s, i, rows⟩ := t
        obtain ⟨tb, tn, tc, rfl, hs, hi, g2⟩ := rT_open hr
        simp only at hs hi g2 HC
        have e_lt : b1 < w.heap.size := cell_lt (hc 0 _ rfl)
        have e_0 : wo.cell? ⟨b1, o1 + j * 3, none⟩ = some (.string s) := (hb1.cell (p := ⟨b1, o1 + j * 3, none⟩) e_lt).trans (by have h9 := hc 0 _ rfl; rw [← Nat.add_assoc] at h9; exact h9)
        have e_1 : wo.cell? ⟨b1, o1 + j * 3 + 1, none⟩ = some (.int .i64 i) := (hb1.cell (p := ⟨b1, o1 + j * 3 + 1, none⟩) e_lt).trans (by have h9 := hc 1 _ rfl; rw [← Nat.add_assoc] at h9; exact h9)
        have e_2 : wo.cell? ⟨b1, o1 + j * 3 + 2, none⟩ = some (.slice tb tn tc) := (hb1.cell (p := ⟨b1, o1 + j * 3 + 2, none⟩) e_lt).trans (by have h9 := hc 2 _ rfl; rw [← Nat.add_assoc] at h9; exact h9)
        clear hcall hd hne hE HV hx hr hc g2 hl t1 hs hi
        go_wp2_with (go_at_call 166; refine (HC.out _ hb1 c0).mono ?_; rintro e w8 ⟨rfl, z8⟩)
        have s2 := z8.size
        have hb2 := on hb1 z8
        replace c0 := (z8.cell (p := ⟨pb, po, none⟩) (by simp only []; omega)).trans c0
        replace hlc := on hlc z8
        replace e_0 := (z8.cell (p := ⟨b1, o1 + j * 3, none⟩) (by simp only []; omega)).trans e_0
        replace e_1 := (z8.cell (p := ⟨b1, o1 + j * 3 + 1, none⟩) (by simp only []; omega)).trans e_1
        replace e_2 := (z8.cell (p := ⟨b1, o1 + j * 3 + 2, none⟩) (by simp only []; omega)).trans e_2
        go_wp2_with fail
        go_ret
        exact ⟨by rw [HE.out]; rfl, hb2⟩
      · have HE : Hid (idxFrom name 0 x = idxFrom name (j + 1) (x.drop (j + 1))) := Lib.hid (hE.out.trans (idxFrom_no hx.out hne))
        have hd : decide (t.1 = name) = false := decide_eq_false hne
        simp only [hd] at hcall
        have HC := Lib.hid hcall
        obtain ⟨s, i, rows⟩ := t
        obtain ⟨tb, tn, tc, rfl, hs, hi, g2⟩ := rT_open hr
        simp only at hs hi g2 HC
        have e_lt : b1 < w.heap.size := cell_lt (hc 0 _ rfl)
        have e_0 : wo.cell? ⟨b1, o1 + j * 3, none⟩ = some (.string s) := (hb1.cell (p := ⟨b1, o1 + j * 3, none⟩) e_lt).trans (by have h9 := hc 0 _ rfl; rw [← Nat.add_assoc] at h9; exact h9)
        have e_1 : wo.cell? ⟨b1, o1 + j * 3 + 1, none⟩ = some (.int .i64 i) := (hb1.cell (p := ⟨b1, o1 + j * 3 + 1, none⟩) e_lt).trans (by have h9 := hc 1 _ rfl; rw [← Nat.add_assoc] at h9; exact h9)
        have e_2 : wo.cell? ⟨b1, o1 + j * 3 + 2, none⟩ = some (.slice tb tn tc) := (hb1.cell (p := ⟨b1, o1 + j * 3 + 2, none⟩) e_lt).trans (by have h9 := hc 2 _ rfl; rw [← Nat.add_assoc] at h9; exact h9)
        clear hcall hd hne hE HV hx hr hc g2 hl t1 hs hi
        go_wp2_with (go_at_call 166; refine (HC.out _ hb1 c0).mono ?_; rintro e w8 ⟨rfl, z8⟩)
        have s3 := z8.size
        have hb3 := on hb1 z8
        replace c0 := (z8.cell (p := ⟨pb, po, none⟩) (by simp only []; omega)).trans c0
        replace hlc := on hlc z8
        replace e_0 := (z8.cell (p := ⟨b1, o1 + j * 3, none⟩) (by simp only []; omega)).trans e_0
        replace e_1 := (z8.cell (p := ⟨b1, o1 + j * 3 + 1, none⟩) (by simp only []; omega)).trans e_1
        replace e_2 := (z8.cell (p := ⟨b1, o1 + j * 3 + 2, none⟩) (by simp only []; omega)).trans e_2
        go_wp2_with fail
        go_roundw
        case rel => exact ⟨j + 1, by omega, by go_num, HE.out, hlc⟩
        case measure => simp [intOf]; omega
    · have HE : Hid (idxFrom name 0 x = -1) := Lib.hid (hE.out.trans (idxFrom_end (by have := HL.out; omega)))
      clear t1 hl hE HV
      go_wp2_with fail
      go_ret
      exact ⟨by rw [HE.out]; rfl, hb1⟩

theorem look_some_idx {db : DDb} {name : ByteArray} {t : DT} (h : look db name = some t) : ∃ k : Nat, idxFrom name 0 db = (k : Int) ∧ db[k]? = some t ∧ validDb db = true := by
  unfold look at h
  split at h
  · rename_i hv
    rcases @idx_find name db 0 with ⟨_, h2⟩ | ⟨k, u, h1, h2, h3⟩
    · rw [h2] at h; cases h
    · rw [h3] at h
      obtain rfl := Option.some.inj h
      exact ⟨k, by simpa using h1, h2, hv⟩
  · cases h
theorem look_none_idx {db : DDb} {name : ByteArray} (h : look db name = none) : idxFrom name 0 db = -1 ∨ ∃ k : Nat, idxFrom name 0 db = (k : Int) ∧ validDb db = false := by
  unfold look at h
  rcases @idx_find name db 0 with ⟨h1, _⟩ | ⟨k, u, h1, h2, h3⟩
  · exact .inl h1
  · split at h
    · rw [h3] at h; cases h
    · rename_i hv
      exact .inr ⟨k, by simpa using h1, by simpa using hv⟩
/-- The table that is handed back where there is none. -/
abbrev noT : Array Value := #[.string ⟨#[]⟩, .int .i64 0, .slice none 0 0]

set_option maxHeartbeats 1000000 in
theorem lookI_none (cs : List Value) (db : DDb) (name : ByteArray) (w : World) (h : rDb.rep w cs db) (hL : look db name = none) :
    Calls Try.prog 144 #[.agg cs.toArray, .string name] w fun e w' => e = .returned (.tuple #[.agg noT, .bool false]) ∧ Below w.heap.size w w' := by
  obtain ⟨ub, un, uc, rfl, g1⟩ := rDb_open h
  have hcall := fun W p (hW : Below w.heap.size w W) hq hs => indexT_any ub un uc db name p W (rTl.mono g1 hW) hq hs
  have hval := fun W (hW : Below w.heap.size w W) => validDb_impl [.slice ub un uc] db W (rDb.mono h hW)
  clear h g1
  rcases look_none_idx hL with HI | ⟨k, HI, hv⟩
  · simp only [HI] at hcall
    have HC := Lib.hid hcall
    clear hcall hval HI hL
    have hb0 : Below w.heap.size w w := Below.refl _ _
    go_enter Try.func144, Try.ntmps144
    obtain ⟨w1, hw1⟩ : ∃ W, W = w.alloc (.cells #[.slice ub un uc] 33) := ⟨_, rfl⟩
    have z1 : Below w.heap.size w w1 := by rw [hw1]; exact (Below.refl _ _).alloc (Nat.le_refl _) _
    have s1 : w1.heap.size = w.heap.size + 1 := by rw [hw1]; simp
    have hb1 := on hb0 z1
    have b_0 : w1.cell? ⟨w.heap.size, 0, none⟩ = some (.slice ub un uc) := by rw [hw1]; exact box_cell (Below.refl _ _) rfl
    have b_f0 : w1.frozen? ⟨w.heap.size, 0, none⟩ = false := by rw [hw1]; exact box_frozen (Below.refl _ _)
    have raw1_b_0 := b_0
    rw [hw1] at raw1_b_0
    obtain ⟨w2, hw2⟩ : ∃ W, W = w1.alloc (.cells #[.string name] 9) := ⟨_, rfl⟩
    have z2 : Below w1.heap.size w1 w2 := by rw [hw2]; exact (Below.refl _ _).alloc (Nat.le_refl _) _
    have s2 : w2.heap.size = w1.heap.size + 1 := by rw [hw2]; simp
    have hb2 := on hb1 z2
    replace b_0 := (z2.cell (p := ⟨w.heap.size, 0, none⟩) (by simp only []; omega)).trans b_0
    replace b_f0 := (z2.frozen (p := ⟨w.heap.size, 0, none⟩) (by simp only []; omega)).trans b_f0
    have e2 : w1.heap.size = w.heap.size + 1 := by omega
    have p_0 : w2.cell? ⟨w1.heap.size, 0, none⟩ = some (.string name) := by rw [hw2]; exact box_cell (Below.refl _ _) rfl
    rw [e2] at p_0
    have p_f0 : w2.frozen? ⟨w1.heap.size, 0, none⟩ = false := by rw [hw2]; exact box_frozen (Below.refl _ _)
    rw [e2] at p_f0
    have raw2_b_0 := b_0
    have raw2_p_0 := p_0
    rw [hw2, hw1] at raw2_b_0 raw2_p_0
    obtain ⟨w3, hw3⟩ : ∃ W, W = w2.alloc (.cells #[.string ⟨#[]⟩, .int .i64 0, .slice none 0 0] 54) := ⟨_, rfl⟩
    have z3 : Below w2.heap.size w2 w3 := by rw [hw3]; exact (Below.refl _ _).alloc (Nat.le_refl _) _
    have s3 : w3.heap.size = w2.heap.size + 1 := by rw [hw3]; simp
    have hb3 := on hb2 z3
    replace b_0 := (z3.cell (p := ⟨w.heap.size, 0, none⟩) (by simp only []; omega)).trans b_0
    replace b_f0 := (z3.frozen (p := ⟨w.heap.size, 0, none⟩) (by simp only []; omega)).trans b_f0
    replace p_0 := (z3.cell (p := ⟨w.heap.size + 1, 0, none⟩) (by simp only []; omega)).trans p_0
    replace p_f0 := (z3.frozen (p := ⟨w.heap.size + 1, 0, none⟩) (by simp only []; omega)).trans p_f0
    have e3 : w2.heap.size = w.heap.size + 1 + 1 := by omega
    have r_0 : w3.cell? ⟨w2.heap.size, 0, none⟩ = some (.string ⟨#[]⟩) := by rw [hw3]; exact box_cell (Below.refl _ _) rfl
    have r_1 : w3.cell? ⟨w2.heap.size, 1, none⟩ = some (.int .i64 0) := by rw [hw3]; exact box_cell (Below.refl _ _) rfl
    have r_2 : w3.cell? ⟨w2.heap.size, 2, none⟩ = some (.slice none 0 0) := by rw [hw3]; exact box_cell (Below.refl _ _) rfl
    rw [e3] at r_0 r_1 r_2
    have r_f0 : w3.frozen? ⟨w2.heap.size, 0, none⟩ = false := by rw [hw3]; exact box_frozen (Below.refl _ _)
    have r_f1 : w3.frozen? ⟨w2.heap.size, 1, none⟩ = false := by rw [hw3]; exact box_frozen (Below.refl _ _)
    have r_f2 : w3.frozen? ⟨w2.heap.size, 2, none⟩ = false := by rw [hw3]; exact box_frozen (Below.refl _ _)
    rw [e3] at r_f0 r_f1 r_f2
    have raw3_b_0 := b_0
    have raw3_p_0 := p_0
    have raw3_r_0 := r_0
    have raw3_r_1 := r_1
    have raw3_r_2 := r_2
    rw [hw3, hw2, hw1] at raw3_b_0 raw3_p_0 raw3_r_0 raw3_r_1 raw3_r_2
    go_wp2_with fail
    rw [← hw1]
    rw [← hw2]
    rw [← hw3]
    clear hw3 hw2 hw1
    clear raw1_b_0 raw2_b_0 raw2_p_0 raw3_b_0 raw3_p_0 raw3_r_0 raw3_r_1 raw3_r_2
    refine (HC.out _ _ hb3 p_0 rfl).mono ?_
    rintro e w9 ⟨rfl, z9⟩
    have s4 := z9.size
    have hb4 := on hb3 z9
    replace b_0 := (z9.cell (p := ⟨w.heap.size, 0, none⟩) (by simp only []; omega)).trans b_0
    replace b_f0 := (z9.frozen (p := ⟨w.heap.size, 0, none⟩) (by simp only []; omega)).trans b_f0
    replace p_0 := (z9.cell (p := ⟨w.heap.size + 1, 0, none⟩) (by simp only []; omega)).trans p_0
    replace p_f0 := (z9.frozen (p := ⟨w.heap.size + 1, 0, none⟩) (by simp only []; omega)).trans p_f0
    replace r_0 := (z9.cell (p := ⟨w.heap.size + 1 + 1, 0, none⟩) (by simp only []; omega)).trans r_0
    replace r_1 := (z9.cell (p := ⟨w.heap.size + 1 + 1, 1, none⟩) (by simp only []; omega)).trans r_1
    replace r_2 := (z9.cell (p := ⟨w.heap.size + 1 + 1, 2, none⟩) (by simp only []; omega)).trans r_2
    replace r_f0 := (z9.frozen (p := ⟨w.heap.size + 1 + 1, 0, none⟩) (by simp only []; omega)).trans r_f0
    replace r_f1 := (z9.frozen (p := ⟨w.heap.size + 1 + 1, 1, none⟩) (by simp only []; omega)).trans r_f1
    replace r_f2 := (z9.frozen (p := ⟨w.heap.size + 1 + 1, 2, none⟩) (by simp only []; omega)).trans r_f2
    go_wp2_with fail
    refine bodyPost_ret (v := .tuple #[.agg noT, .bool false]) (by simp [results, Try.results144, go_sem, noT, r_0, r_1, r_2, r_f0, r_f1, r_f2]) rfl ⟨rfl, ?_⟩
    repeat (refine Below.setCell ?_ (by simp only []; omega) _)
    exact hb4
  · simp only [HI] at hcall
    simp only [hv] at hval
    have HC := Lib.hid hcall
    have HV := Lib.hid hval
    clear hcall hval HI hL hv
    have hb0 : Below w.heap.size w w := Below.refl _ _
    go_enter Try.func144, Try.ntmps144
    obtain ⟨w5, hw5⟩ : ∃ W, W = w.alloc (.cells #[.slice ub un uc] 33) := ⟨_, rfl⟩
    have z5 : Below w.heap.size w w5 := by rw [hw5]; exact (Below.refl _ _).alloc (Nat.le_refl _) _
    have s5 : w5.heap.size = w.heap.size + 1 := by rw [hw5]; simp
    have hb5 := on hb0 z5
    have b_0 : w5.cell? ⟨w.heap.size, 0, none⟩ = some (.slice ub un uc) := by rw [hw5]; exact box_cell (Below.refl _ _) rfl
    have b_f0 : w5.frozen? ⟨w.heap.size, 0, none⟩ = false := by rw [hw5]; exact box_frozen (Below.refl _ _)
    have raw5_b_0 := b_0
    rw [hw5] at raw5_b_0
    obtain ⟨w6, hw6⟩ : ∃ W, W = w5.alloc (.cells #[.string name] 9) := ⟨_, rfl⟩
    have z6 : Below w5.heap.size w5 w6 := by rw [hw6]; exact (Below.refl _ _).alloc (Nat.le_refl _) _
    have s6 : w6.heap.size = w5.heap.size + 1 := by rw [hw6]; simp
    have hb6 := on hb5 z6
    replace b_0 := (z6.cell (p := ⟨w.heap.size, 0, none⟩) (by simp only []; omega)).trans b_0
    replace b_f0 := (z6.frozen (p := ⟨w.heap.size, 0, none⟩) (by simp only []; omega)).trans b_f0
    have e6 : w5.heap.size = w.heap.size + 1 := by omega
    have p_0 : w6.cell? ⟨w5.heap.size, 0, none⟩ = some (.string name) := by rw [hw6]; exact box_cell (Below.refl _ _) rfl
    rw [e6] at p_0
    have p_f0 : w6.frozen? ⟨w5.heap.size, 0, none⟩ = false := by rw [hw6]; exact box_frozen (Below.refl _ _)
    rw [e6] at p_f0
    have raw6_b_0 := b_0
    have raw6_p_0 := p_0
    rw [hw6, hw5] at raw6_b_0 raw6_p_0
    obtain ⟨w7, hw7⟩ : ∃ W, W = w6.alloc (.cells #[.string ⟨#[]⟩, .int .i64 0, .slice none 0 0] 54) := ⟨_, rfl⟩
    have z7 : Below w6.heap.size w6 w7 := by rw [hw7]; exact (Below.refl _ _).alloc (Nat.le_refl _) _
    have s7 : w7.heap.size = w6.heap.size + 1 := by rw [hw7]; simp
    have hb7 := on hb6 z7
    replace b_0 := (z7.cell (p := ⟨w.heap.size, 0, none⟩) (by simp only []; omega)).trans b_0
    replace b_f0 := (z7.frozen (p := ⟨w.heap.size, 0, none⟩) (by simp only []; omega)).trans b_f0
    replace p_0 := (z7.cell (p := ⟨w.heap.size + 1, 0, none⟩) (by simp only []; omega)).trans p_0
    replace p_f0 := (z7.frozen (p := ⟨w.heap.size + 1, 0, none⟩) (by simp only []; omega)).trans p_f0
    have e7 : w6.heap.size = w.heap.size + 1 + 1 := by omega
    have r_0 : w7.cell? ⟨w6.heap.size, 0, none⟩ = some (.string ⟨#[]⟩) := by rw [hw7]; exact box_cell (Below.refl _ _) rfl
    have r_1 : w7.cell? ⟨w6.heap.size, 1, none⟩ = some (.int .i64 0) := by rw [hw7]; exact box_cell (Below.refl _ _) rfl
    have r_2 : w7.cell? ⟨w6.heap.size, 2, none⟩ = some (.slice none 0 0) := by rw [hw7]; exact box_cell (Below.refl _ _) rfl
    rw [e7] at r_0 r_1 r_2
    have r_f0 : w7.frozen? ⟨w6.heap.size, 0, none⟩ = false := by rw [hw7]; exact box_frozen (Below.refl _ _)
    have r_f1 : w7.frozen? ⟨w6.heap.size, 1, none⟩ = false := by rw [hw7]; exact box_frozen (Below.refl _ _)
    have r_f2 : w7.frozen? ⟨w6.heap.size, 2, none⟩ = false := by rw [hw7]; exact box_frozen (Below.refl _ _)
    rw [e7] at r_f0 r_f1 r_f2
    have raw7_b_0 := b_0
    have raw7_p_0 := p_0
    have raw7_r_0 := r_0
    have raw7_r_1 := r_1
    have raw7_r_2 := r_2
    rw [hw7, hw6, hw5] at raw7_b_0 raw7_p_0 raw7_r_0 raw7_r_1 raw7_r_2
    go_wp2_with fail
    rw [← hw5]
    rw [← hw6]
    rw [← hw7]
    clear hw7 hw6 hw5
    clear raw5_b_0 raw6_b_0 raw6_p_0 raw7_b_0 raw7_p_0 raw7_r_0 raw7_r_1 raw7_r_2
    refine (HC.out _ _ hb7 p_0 rfl).mono ?_
    rintro e w9 ⟨rfl, z9⟩
    have s8 := z9.size
    have hb8 := on hb7 z9
    replace b_0 := (z9.cell (p := ⟨w.heap.size, 0, none⟩) (by simp only []; omega)).trans b_0
    replace b_f0 := (z9.frozen (p := ⟨w.heap.size, 0, none⟩) (by simp only []; omega)).trans b_f0
    replace p_0 := (z9.cell (p := ⟨w.heap.size + 1, 0, none⟩) (by simp only []; omega)).trans p_0
    replace p_f0 := (z9.frozen (p := ⟨w.heap.size + 1, 0, none⟩) (by simp only []; omega)).trans p_f0
    replace r_0 := (z9.cell (p := ⟨w.heap.size + 1 + 1, 0, none⟩) (by simp only []; omega)).trans r_0
    replace r_1 := (z9.cell (p := ⟨w.heap.size + 1 + 1, 1, none⟩) (by simp only []; omega)).trans r_1
    replace r_2 := (z9.cell (p := ⟨w.heap.size + 1 + 1, 2, none⟩) (by simp only []; omega)).trans r_2
    replace r_f0 := (z9.frozen (p := ⟨w.heap.size + 1 + 1, 0, none⟩) (by simp only []; omega)).trans r_f0
    replace r_f1 := (z9.frozen (p := ⟨w.heap.size + 1 + 1, 1, none⟩) (by simp only []; omega)).trans r_f1
    replace r_f2 := (z9.frozen (p := ⟨w.heap.size + 1 + 1, 2, none⟩) (by simp only []; omega)).trans r_f2
    go_wp2_with fail
    refine (HV.out _ hb8).mono ?_
    rintro e w10 ⟨rfl, z10⟩
    have s9 := z10.size
    have hb9 := on hb8 z10
    replace b_0 := (z10.cell (p := ⟨w.heap.size, 0, none⟩) (by simp only []; omega)).trans b_0
    replace b_f0 := (z10.frozen (p := ⟨w.heap.size, 0, none⟩) (by simp only []; omega)).trans b_f0
    replace p_0 := (z10.cell (p := ⟨w.heap.size + 1, 0, none⟩) (by simp only []; omega)).trans p_0
    replace p_f0 := (z10.frozen (p := ⟨w.heap.size + 1, 0, none⟩) (by simp only []; omega)).trans p_f0
    replace r_0 := (z10.cell (p := ⟨w.heap.size + 1 + 1, 0, none⟩) (by simp only []; omega)).trans r_0
    replace r_1 := (z10.cell (p := ⟨w.heap.size + 1 + 1, 1, none⟩) (by simp only []; omega)).trans r_1
    replace r_2 := (z10.cell (p := ⟨w.heap.size + 1 + 1, 2, none⟩) (by simp only []; omega)).trans r_2
    replace r_f0 := (z10.frozen (p := ⟨w.heap.size + 1 + 1, 0, none⟩) (by simp only []; omega)).trans r_f0
    replace r_f1 := (z10.frozen (p := ⟨w.heap.size + 1 + 1, 1, none⟩) (by simp only []; omega)).trans r_f1
    replace r_f2 := (z10.frozen (p := ⟨w.heap.size + 1 + 1, 2, none⟩) (by simp only []; omega)).trans r_f2
    go_wp2_with fail
    refine bodyPost_ret (v := .tuple #[.agg noT, .bool false]) (by simp [results, Try.results144, go_sem, noT, r_0, r_1, r_2, r_f0, r_f1, r_f2]) rfl ⟨rfl, ?_⟩
    repeat (refine Below.setCell ?_ (by simp only []; omega) _)
    exact hb9

set_option maxHeartbeats 1000000 in
theorem lookI_some (cs : List Value) (db : DDb) (name : ByteArray) (t : DT) (w : World) (h : rDb.rep w cs db) (hL : look db name = some t) :
    Calls Try.prog 144 #[.agg cs.toArray, .string name] w fun e w' => ∃ ds, e = .returned (.tuple #[.agg ds.toArray, .bool true]) ∧ Own oT w.heap.size w'.heap.size w' ds t ∧ Below w.heap.size w w' := by
  obtain ⟨ub, un, uc, rfl, g1⟩ := rDb_open h
  have hcall := fun W p (hW : Below w.heap.size w W) hq hs => indexT_any ub un uc db name p W (rTl.mono g1 hW) hq hs
  have hval := fun W (hW : Below w.heap.size w W) => validDb_impl [.slice ub un uc] db W (rDb.mono h hW)
  have hbk := (look_ok hL).bulk
  obtain ⟨k, HI, hk, hv⟩ := look_some_idx hL
  have t1 := rS_sl g1
  have hl := t1.len
  have hn := t1.small
  have hlt : k < un := by rw [← hl]; exact (List.getElem?_eq_some_iff.1 hk).1
  simp only [HI] at hcall
  simp only [hv] at hval
  obtain ⟨b1, o1, cs, t', rfl, hx, hr, hc⟩ := t1.at hlt
  obtain rfl : t' = t := by have h9 := hx.out; rw [hk] at h9; exact (Option.some.inj h9).symm
  have hcp := fun W (hW : Below w.heap.size w W) => copyTable_any cs t' W (rT.mono hr hW) (by omega)
  have HC := Lib.hid hcall
  have HV := Lib.hid hval
  obtain ⟨s, i, rows⟩ := t'
  obtain ⟨tb, tn, tc, rfl, hs, hi, g2⟩ := rT_open hr
  simp only at hs hi g2 hcp
  have HP := Lib.hid hcp
  clear hcall hval HI hL hv hcp h g1 hbk hk hx hr g2 t1 hl
  have hb0 : Below w.heap.size w w := Below.refl _ _
  have e_lt : b1 < w.heap.size := cell_lt (hc 0 _ rfl)
  have e_0 : w.cell? ⟨b1, o1 + k * 3, none⟩ = some (.string s) := (hb0.cell (p := ⟨b1, o1 + k * 3, none⟩) e_lt).trans (by have h9 := hc 0 _ rfl; rw [← Nat.add_assoc] at h9; exact h9)
  have e_1 : w.cell? ⟨b1, o1 + k * 3 + 1, none⟩ = some (.int .i64 i) := (hb0.cell (p := ⟨b1, o1 + k * 3 + 1, none⟩) e_lt).trans (by have h9 := hc 1 _ rfl; rw [← Nat.add_assoc] at h9; exact h9)
  have e_2 : w.cell? ⟨b1, o1 + k * 3 + 2, none⟩ = some (.slice tb tn tc) := (hb0.cell (p := ⟨b1, o1 + k * 3 + 2, none⟩) e_lt).trans (by have h9 := hc 2 _ rfl; rw [← Nat.add_assoc] at h9; exact h9)
  clear hc
  go_enter Try.func144, Try.ntmps144
  obtain ⟨w1, hw1⟩ : ∃ W, W = w.alloc (.cells #[.slice (some ⟨b1, o1, none⟩) un uc] 33) := ⟨_, rfl⟩
  have z1 : Below w.heap.size w w1 := by rw [hw1]; exact (Below.refl _ _).alloc (Nat.le_refl _) _
  have s1 : w1.heap.size = w.heap.size + 1 := by rw [hw1]; simp
  have hb1 := on hb0 z1
  have old1_e_0 := e_0
  have old1_e_1 := e_1
  have old1_e_2 := e_2
  replace e_0 := (z1.cell (p := ⟨b1, o1 + k * 3, none⟩) (by simp only []; omega)).trans e_0
  replace e_1 := (z1.cell (p := ⟨b1, o1 + k * 3 + 1, none⟩) (by simp only []; omega)).trans e_1
  replace e_2 := (z1.cell (p := ⟨b1, o1 + k * 3 + 2, none⟩) (by simp only []; omega)).trans e_2
  have b_0 : w1.cell? ⟨w.heap.size, 0, none⟩ = some (.slice (some ⟨b1, o1, none⟩) un uc) := by rw [hw1]; exact box_cell (Below.refl _ _) rfl
  have b_f0 : w1.frozen? ⟨w.heap.size, 0, none⟩ = false := by rw [hw1]; exact box_frozen (Below.refl _ _)
  have raw1_e_0 := e_0
  have raw1_e_1 := e_1
  have raw1_e_2 := e_2
  have raw1_b_0 := b_0
  rw [hw1] at raw1_e_0 raw1_e_1 raw1_e_2 raw1_b_0
  obtain ⟨w2, hw2⟩ : ∃ W, W = w1.alloc (.cells #[.string name] 9) := ⟨_, rfl⟩
  have z2 : Below w1.heap.size w1 w2 := by rw [hw2]; exact (Below.refl _ _).alloc (Nat.le_refl _) _
  have s2 : w2.heap.size = w1.heap.size + 1 := by rw [hw2]; simp
  have hb2 := on hb1 z2
  replace e_0 := (z2.cell (p := ⟨b1, o1 + k * 3, none⟩) (by simp only []; omega)).trans e_0
  replace e_1 := (z2.cell (p := ⟨b1, o1 + k * 3 + 1, none⟩) (by simp only []; omega)).trans e_1
  replace e_2 := (z2.cell (p := ⟨b1, o1 + k * 3 + 2, none⟩) (by simp only []; omega)).trans e_2
  replace b_0 := (z2.cell (p := ⟨w.heap.size, 0, none⟩) (by simp only []; omega)).trans b_0
  replace b_f0 := (z2.frozen (p := ⟨w.heap.size, 0, none⟩) (by simp only []; omega)).trans b_f0
  have e2 : w1.heap.size = w.heap.size + 1 := by omega
  have p_0 : w2.cell? ⟨w1.heap.size, 0, none⟩ = some (.string name) := by rw [hw2]; exact box_cell (Below.refl _ _) rfl
  rw [e2] at p_0
  have p_f0 : w2.frozen? ⟨w1.heap.size, 0, none⟩ = false := by rw [hw2]; exact box_frozen (Below.refl _ _)
  rw [e2] at p_f0
  have raw2_e_0 := e_0
  have raw2_e_1 := e_1
  have raw2_e_2 := e_2
  have raw2_b_0 := b_0
  have raw2_p_0 := p_0
  rw [hw2, hw1] at raw2_e_0 raw2_e_1 raw2_e_2 raw2_b_0 raw2_p_0
  obtain ⟨w3, hw3⟩ : ∃ W, W = w2.alloc (.cells #[.string ⟨#[]⟩, .int .i64 0, .slice none 0 0] 54) := ⟨_, rfl⟩
  have z3 : Below w2.heap.size w2 w3 := by rw [hw3]; exact (Below.refl _ _).alloc (Nat.le_refl _) _
  have s3 : w3.heap.size = w2.heap.size + 1 := by rw [hw3]; simp
  have hb3 := on hb2 z3
  replace e_0 := (z3.cell (p := ⟨b1, o1 + k * 3, none⟩) (by simp only []; omega)).trans e_0
  replace e_1 := (z3.cell (p := ⟨b1, o1 + k * 3 + 1, none⟩) (by simp only []; omega)).trans e_1
  replace e_2 := (z3.cell (p := ⟨b1, o1 + k * 3 + 2, none⟩) (by simp only []; omega)).trans e_2
  replace b_0 := (z3.cell (p := ⟨w.heap.size, 0, none⟩) (by simp only []; omega)).trans b_0
  replace b_f0 := (z3.frozen (p := ⟨w.heap.size, 0, none⟩) (by simp only []; omega)).trans b_f0
  replace p_0 := (z3.cell (p := ⟨w.heap.size + 1, 0, none⟩) (by simp only []; omega)).trans p_0
  replace p_f0 := (z3.frozen (p := ⟨w.heap.size + 1, 0, none⟩) (by simp only []; omega)).trans p_f0
  have e3 : w2.heap.size = w.heap.size + 1 + 1 := by omega
  have r_0 : w3.cell? ⟨w2.heap.size, 0, none⟩ = some (.string ⟨#[]⟩) := by rw [hw3]; exact box_cell (Below.refl _ _) rfl
  have r_1 : w3.cell? ⟨w2.heap.size, 1, none⟩ = some (.int .i64 0) := by rw [hw3]; exact box_cell (Below.refl _ _) rfl
  have r_2 : w3.cell? ⟨w2.heap.size, 2, none⟩ = some (.slice none 0 0) := by rw [hw3]; exact box_cell (Below.refl _ _) rfl
  rw [e3] at r_0 r_1 r_2
  have r_f0 : w3.frozen? ⟨w2.heap.size, 0, none⟩ = false := by rw [hw3]; exact box_frozen (Below.refl _ _)
  have r_f1 : w3.frozen? ⟨w2.heap.size, 1, none⟩ = false := by rw [hw3]; exact box_frozen (Below.refl _ _)
  have r_f2 : w3.frozen? ⟨w2.heap.size, 2, none⟩ = false := by rw [hw3]; exact box_frozen (Below.refl _ _)
  rw [e3] at r_f0 r_f1 r_f2
  have raw3_e_0 := e_0
  have raw3_e_1 := e_1
  have raw3_e_2 := e_2
  have raw3_b_0 := b_0
  have raw3_p_0 := p_0
  have raw3_r_0 := r_0
  have raw3_r_1 := r_1
  have raw3_r_2 := r_2
  rw [hw3, hw2, hw1] at raw3_e_0 raw3_e_1 raw3_e_2 raw3_b_0 raw3_p_0 raw3_r_0 raw3_r_1 raw3_r_2
  go_wp2_with fail
  rw [← hw1]
  rw [← hw2]
  rw [← hw3]
  clear hw3 hw2 hw1
  clear old1_e_0 old1_e_1 old1_e_2 raw1_e_0 raw1_e_1 raw1_e_2 raw1_b_0 raw2_e_0 raw2_e_1 raw2_e_2 raw2_b_0 raw2_p_0 raw3_e_0 raw3_e_1 raw3_e_2 raw3_b_0 raw3_p_0 raw3_r_0 raw3_r_1 raw3_r_2
  refine (HC.out _ _ hb3 p_0 rfl).mono ?_
  rintro e w9 ⟨rfl, z9⟩
  have s4 := z9.size
  have hb4 := on hb3 z9
  replace e_0 := (z9.cell (p := ⟨b1, o1 + k * 3, none⟩) (by simp only []; omega)).trans e_0
  replace e_1 := (z9.cell (p := ⟨b1, o1 + k * 3 + 1, none⟩) (by simp only []; omega)).trans e_1
  replace e_2 := (z9.cell (p := ⟨b1, o1 + k * 3 + 2, none⟩) (by simp only []; omega)).trans e_2
  replace b_0 := (z9.cell (p := ⟨w.heap.size, 0, none⟩) (by simp only []; omega)).trans b_0
  replace b_f0 := (z9.frozen (p := ⟨w.heap.size, 0, none⟩) (by simp only []; omega)).trans b_f0
  replace p_0 := (z9.cell (p := ⟨w.heap.size + 1, 0, none⟩) (by simp only []; omega)).trans p_0
  replace p_f0 := (z9.frozen (p := ⟨w.heap.size + 1, 0, none⟩) (by simp only []; omega)).trans p_f0
  replace r_0 := (z9.cell (p := ⟨w.heap.size + 1 + 1, 0, none⟩) (by simp only []; omega)).trans r_0
  replace r_1 := (z9.cell (p := ⟨w.heap.size + 1 + 1, 1, none⟩) (by simp only []; omega)).trans r_1
  replace r_2 := (z9.cell (p := ⟨w.heap.size + 1 + 1, 2, none⟩) (by simp only []; omega)).trans r_2
  replace r_f0 := (z9.frozen (p := ⟨w.heap.size + 1 + 1, 0, none⟩) (by simp only []; omega)).trans r_f0
  replace r_f1 := (z9.frozen (p := ⟨w.heap.size + 1 + 1, 1, none⟩) (by simp only []; omega)).trans r_f1
  replace r_f2 := (z9.frozen (p := ⟨w.heap.size + 1 + 1, 2, none⟩) (by simp only []; omega)).trans r_f2
  go_wp2_with fail
  refine (HV.out _ hb4).mono ?_
  rintro e w10 ⟨rfl, z10⟩
  have s5 := z10.size
  have hb5 := on hb4 z10
  replace e_0 := (z10.cell (p := ⟨b1, o1 + k * 3, none⟩) (by simp only []; omega)).trans e_0
  replace e_1 := (z10.cell (p := ⟨b1, o1 + k * 3 + 1, none⟩) (by simp only []; omega)).trans e_1
  replace e_2 := (z10.cell (p := ⟨b1, o1 + k * 3 + 2, none⟩) (by simp only []; omega)).trans e_2
  replace b_0 := (z10.cell (p := ⟨w.heap.size, 0, none⟩) (by simp only []; omega)).trans b_0
  replace b_f0 := (z10.frozen (p := ⟨w.heap.size, 0, none⟩) (by simp only []; omega)).trans b_f0
  replace p_0 := (z10.cell (p := ⟨w.heap.size + 1, 0, none⟩) (by simp only []; omega)).trans p_0
  replace p_f0 := (z10.frozen (p := ⟨w.heap.size + 1, 0, none⟩) (by simp only []; omega)).trans p_f0
  replace r_0 := (z10.cell (p := ⟨w.heap.size + 1 + 1, 0, none⟩) (by simp only []; omega)).trans r_0
  replace r_1 := (z10.cell (p := ⟨w.heap.size + 1 + 1, 1, none⟩) (by simp only []; omega)).trans r_1
  replace r_2 := (z10.cell (p := ⟨w.heap.size + 1 + 1, 2, none⟩) (by simp only []; omega)).trans r_2
  replace r_f0 := (z10.frozen (p := ⟨w.heap.size + 1 + 1, 0, none⟩) (by simp only []; omega)).trans r_f0
  replace r_f1 := (z10.frozen (p := ⟨w.heap.size + 1 + 1, 1, none⟩) (by simp only []; omega)).trans r_f1
  replace r_f2 := (z10.frozen (p := ⟨w.heap.size + 1 + 1, 2, none⟩) (by simp only []; omega)).trans r_f2
  go_wp2_with fail
  refine (HP.out _ hb5).mono ?_
  rintro e w11 ⟨ds, rfl, ho, z11⟩
  obtain ⟨vb, vn, vc, rfl⟩ := oT_form ho
  simp only at ho
  have s6 := z11.size
  have hb6 := on hb5 z11
  replace e_0 := (z11.cell (p := ⟨b1, o1 + k * 3, none⟩) (by simp only []; omega)).trans e_0
  replace e_1 := (z11.cell (p := ⟨b1, o1 + k * 3 + 1, none⟩) (by simp only []; omega)).trans e_1
  replace e_2 := (z11.cell (p := ⟨b1, o1 + k * 3 + 2, none⟩) (by simp only []; omega)).trans e_2
  replace b_0 := (z11.cell (p := ⟨w.heap.size, 0, none⟩) (by simp only []; omega)).trans b_0
  replace b_f0 := (z11.frozen (p := ⟨w.heap.size, 0, none⟩) (by simp only []; omega)).trans b_f0
  replace p_0 := (z11.cell (p := ⟨w.heap.size + 1, 0, none⟩) (by simp only []; omega)).trans p_0
  replace p_f0 := (z11.frozen (p := ⟨w.heap.size + 1, 0, none⟩) (by simp only []; omega)).trans p_f0
  replace r_0 := (z11.cell (p := ⟨w.heap.size + 1 + 1, 0, none⟩) (by simp only []; omega)).trans r_0
  replace r_1 := (z11.cell (p := ⟨w.heap.size + 1 + 1, 1, none⟩) (by simp only []; omega)).trans r_1
  replace r_2 := (z11.cell (p := ⟨w.heap.size + 1 + 1, 2, none⟩) (by simp only []; omega)).trans r_2
  replace r_f0 := (z11.frozen (p := ⟨w.heap.size + 1 + 1, 0, none⟩) (by simp only []; omega)).trans r_f0
  replace r_f1 := (z11.frozen (p := ⟨w.heap.size + 1 + 1, 1, none⟩) (by simp only []; omega)).trans r_f1
  replace r_f2 := (z11.frozen (p := ⟨w.heap.size + 1 + 1, 2, none⟩) (by simp only []; omega)).trans r_f2
  go_wp2_with fail
  refine bodyPost_ret (v := .tuple #[.agg #[.string s, .int .i64 i, .slice vb vn vc], .bool true]) (by simp [results, Try.results144, go_sem, r_0, r_1, r_2, r_f0, r_f1, r_f2]) rfl ⟨_, rfl, ?_, ?_⟩
  · refine Own.mono (lo := w10.heap.size) (hi := w11.heap.size) ?_ (by omega) (by simp [World.setCell])
    repeat (refine Own.setOut ?_ rfl (by simp only []; omega))
    exact ho
  · repeat (refine Below.setCell ?_ (by simp only []; omega) _)
    exact hb6

end Go.Proofs.Ytkipgbgkhffkkaa

/- Contracts: the variables of a mask. -/
namespace Go.Proofs.Ytkipgbgkhffkkaa
open Go.RowKit
set_option linter.unusedVariables false
set_option linter.unusedSimpArgs false
set_option synthInstance.maxSize 2000
set_option synthInstance.maxHeartbeats 400000

set_option maxHeartbeats 1000000 in
theorem l7Bits_any (cs : List Value) (x : DQ) (K n : Nat) (w : World) (h : rQ.rep w cs x) (hq : QOk x n) (hK : K < 16) :
    Calls Try.prog 125 #[.agg cs.toArray, .int .i64 K] w fun e w' => e = .returned (.int .i64 (bitsOf x K)) ∧ Below w.heap.size w w' := by
  obtain ⟨ub, un, uc, rfl, hi, g1⟩ := rQ_open h
  clear h hi
  obtain ⟨i, xs⟩ := x
  simp only at g1
  have t0 := rS_sl g1
  have hl := t0.len
  have hn4 := hq.le
  have hl4 := hq.len
  simp only at hl4
  have hun : un ≤ 4 := by omega
  have HQ := Lib.hid hq
  have HB := Lib.hid (show bitsOf (i, xs) K = qbits K 0 0 (xs.drop 0) by simp [bitsOf])
  clear hq hl4
  have hb0 : Below w.heap.size w w := Below.refl _ _
  go_enter Try.func125, Try.ntmps125
  obtain ⟨w1, hw1⟩ : ∃ W, W = w.alloc (.cells #[.int .i64 i, .slice ub un uc] 37) := ⟨_, rfl⟩
  have z1 : Below w.heap.size w w1 := by rw [hw1]; exact (Below.refl _ _).alloc (Nat.le_refl _) _
  have s1 : w1.heap.size = w.heap.size + 1 := by rw [hw1]; simp
  have hb1 := on hb0 z1
  have b_0 : w1.cell? ⟨w.heap.size, 0, none⟩ = some (.int .i64 i) := by rw [hw1]; exact box_cell (Below.refl _ _) rfl
  have b_1 : w1.cell? ⟨w.heap.size, 1, none⟩ = some (.slice ub un uc) := by rw [hw1]; exact box_cell (Below.refl _ _) rfl
  have raw1_b_0 := b_0
  have raw1_b_1 := b_1
  rw [hw1] at raw1_b_0 raw1_b_1
  go_wp2_with fail
  rw [← hw1]
  clear hw1
  clear raw1_b_0 raw1_b_1
  go_loopw [5, 6] (fun s k wr => ∃ j m : Nat, j ≤ un ∧ m < 2 ^ n ∧ k = .int .i64 j ∧ s = .int .i64 m ∧ Hid (bitsOf (i, xs) K = qbits K m j (xs.drop j)) ∧ Drew w1 wr) (fun _ k _ => un - (intOf k).toNat)
  case atStart => exact ⟨0, 0, Nat.zero_le _, Nat.two_pow_pos _, rfl, rfl, HB.out, Drew.refl _⟩
  case round =>
    obtain ⟨j, m, hj, hm, rfl, rfl, hE, hdr⟩ := hrel
    obtain ⟨wo, rfl⟩ : ∃ W, W = wr := ⟨_, rfl⟩
    have hlc := hdr
    replace hdr : Below w1.heap.size w1 wo := hdr.below _
    have s2 := hdr.size
    have hb2 := on hb1 hdr
    replace b_0 := (hdr.cell (p := ⟨w.heap.size, 0, none⟩) (by simp only []; omega)).trans b_0
    replace b_1 := (hdr.cell (p := ⟨w.heap.size, 1, none⟩) (by simp only []; omega)).trans b_1
    by_cases hlt : j < un
    · obtain ⟨b1, o1, cs, x, rfl, hx, hr, hc⟩ := t0.at hlt
      obtain ⟨s, vs⟩ := x
      obtain ⟨vb, vn, vc, rfl, hs, g2⟩ := rA_open hr
      simp only at hs g2
      have i0 := rI_ints g2
      have hvl := i0.len
      have hvs := i0.small
      have e_lt : b1 < w.heap.size := cell_lt (hc 0 _ rfl)
      have e_0 : wo.cell? ⟨b1, o1 + j * 2, none⟩ = some (.string s) := (hb2.cell (p := ⟨b1, o1 + j * 2, none⟩) e_lt).trans (by have h9 := hc 0 _ rfl; rw [← Nat.add_assoc] at h9; exact h9)
      have e_1 : wo.cell? ⟨b1, o1 + j * 2 + 1, none⟩ = some (.slice vb vn vc) := (hb2.cell (p := ⟨b1, o1 + j * 2 + 1, none⟩) e_lt).trans (by have h9 := hc 1 _ rfl; rw [← Nat.add_assoc] at h9; exact h9)
      have HA := Lib.hid (hE.out.trans (qbits_at hx.out))
      have HV := Lib.hid (HQ.out.vars _ (List.mem_of_getElem? hx.out))
      clear hc t0 hr hl hx hE HB
      simp only at HA HV
      have hbt := bit_test K j (by omega)
      cases hb : bitAt K j with
      | true =>
        rw [hb] at HA hbt
        replace HA : Hid (bitsOf (i, xs) K = qbits K (vbits m (vs.drop 0)) (j + 1) (xs.drop (j + 1))) := Lib.hid (by rw [HA.out]; simp)
        clear hb
        go_wp2_with fail
        go_loopw [5, 7] (fun s k wr => ∃ i' m : Nat, i' ≤ vn ∧ m < 2 ^ n ∧ k = .int .i64 i' ∧ s = .int .i64 m ∧ Hid (bitsOf (i, xs) K = qbits K (vbits m (vs.drop i')) (j + 1) (xs.drop (j + 1))) ∧ Drew wo wr) (fun _ k _ => vn - (intOf k).toNat)
        case atStart => exact ⟨0, m, Nat.zero_le _, hm, rfl, rfl, HA.out, Drew.refl _⟩
        case round =>
          obtain ⟨i', m, hi, hm, rfl, rfl, hE, hdr⟩ := hrel
          have hlo := hdr
          replace hdr : Below wo.heap.size wo wr := hdr.below _
          have s3 := hdr.size
          have hb3 := on hb2 hdr
          replace b_0 := (hdr.cell (p := ⟨w.heap.size, 0, none⟩) (by simp only []; omega)).trans b_0
          replace b_1 := (hdr.cell (p := ⟨w.heap.size, 1, none⟩) (by simp only []; omega)).trans b_1
          replace e_0 := (hdr.cell (p := ⟨b1, o1 + j * 2, none⟩) (by simp only []; omega)).trans e_0
          replace e_1 := (hdr.cell (p := ⟨b1, o1 + j * 2 + 1, none⟩) (by simp only []; omega)).trans e_1
          have hm16 := pow_le16 hn4
          by_cases hlv : i' < vn
          · obtain ⟨b2, o2, v, rfl, hc, hv, hv1, hv2⟩ := i0.get hlv
            have v0_lt : b2 < w.heap.size := cell_lt hc
            have v0 : wr.cell? ⟨b2, o2 + i', none⟩ = some (.int .i64 v) := (hb3.cell (p := ⟨b2, o2 + i', none⟩) v0_lt).trans hc
            clear hc
            have hvr := HV.out v (by rw [← hv.out]; exact List.getD_eq_getElem?_getD (l := vs) ▸ (by rw [List.getElem?_eq_getElem (by omega)]; exact List.getElem_mem _))
            obtain ⟨v, rfl⟩ := Int.eq_ofNat_of_zero_le hvr.1
            have hvn : v < n := by omega
            have HE := Lib.hid (hE.out.trans (show _ = qbits K (vbits (m ||| 2 ^ v) (vs.drop (i' + 1))) (j + 1) (xs.drop (j + 1)) by rw [vbits_at (by omega) hv.out]))
            have hmo := or_lt hm hvn
            clear i0 hvl hvr hv hE
            go_wp2_with fail
            go_roundw
            case rel => exact ⟨i' + 1, m ||| 2 ^ v, by omega, hmo, by go_num, by show Value.int _ _ = _; rw [or_pow (by omega) (by omega)], HE.out, hlo⟩
            case measure => simp [intOf]; omega
          · have HE := Lib.hid (show bitsOf (i, xs) K = qbits K m (j + 1) (xs.drop (j + 1)) by rw [hE.out, vbits_end (by omega)])
            clear i0 hvl hE
            go_wp2_with fail
            go_roundw
            case rel => exact ⟨j + 1, m, by omega, hm, by go_num, rfl, HE.out, hlc.trans hlo⟩
            case measure => simp [intOf]; omega
      | false =>
        rw [hb] at HA hbt
        replace HA : Hid (bitsOf (i, xs) K = qbits K m (j + 1) (xs.drop (j + 1))) := Lib.hid (by rw [HA.out]; simp)
        clear hb
        go_wp2_with fail
        go_loopw [5, 7] (fun s k wr => k = .int .i64 0 ∧ s = .int .i64 m ∧ wr = wo) (fun _ _ _ => 0)
        case atStart => exact ⟨rfl, rfl, rfl⟩
        case round =>
          obtain ⟨rfl, rfl, rfl⟩ := hrel
          clear i0 hvl
          by_cases hv0 : 0 < vn
          all_goals
            go_wp2_with fail
            go_roundw
            case rel => exact ⟨j + 1, m, by omega, hm, by go_num, rfl, HA.out, hlc⟩
            case measure => simp [intOf]; omega
    · have HE := Lib.hid (hE.out.trans (qbits_end (by omega)))
      clear t0 hl hE HB
      go_wp2_with fail
      go_ret
      exact ⟨ret_int (by rw [HE.out]), hb2⟩

set_option maxHeartbeats 1000000 in
theorem l7List_any (M : Nat) (w : World) (hM : M < 16) :
    Calls Try.prog 124 #[.int .i64 M] w fun e w' => ∃ b n c, e = .returned (.slice b n c) ∧ OwnInts w.heap.size w' (.slice b n c) n (bitsTo M 4) ∧ Below w.heap.size w w' := by
  go_enter Try.func124, Try.ntmps124
  go_wp2
  go_loopw [3, 4] (fun v i wr => ∃ (j : Nat), j ≤ 4 ∧ i = .int .i64 j ∧ ∃ n, OwnInts w.heap.size wr v n (bitsTo M j) ∧ Below w.heap.size w wr) (fun _ i _ => 4 - (intOf i).toNat)
  case atStart => exact ⟨0, Nat.zero_le _, rfl, 0, own_empty (Nat.le_refl _), (Below.refl _ _).alloc (Nat.le_refl _) _⟩
  case round =>
    obtain ⟨j, hj, rfl, n, hown, hbl⟩ := hrel
    have hsz := hbl.size
    have hn4 : n ≤ 4 := by have := hown.len; have := bitsTo_len M j; omega
    by_cases hlt : j < 4
    · cases hbit : bitAt M j with
      | true =>
        have ht := bit_test M j (by omega)
        rw [hbit] at ht
        have HB := Lib.hid hbit
        clear hbit
        go_wp2_with ((at_builtin; refine wpList_app1 _ _ _ _ _ _ hown hbl hsz ⟨by omega, by omega⟩ (by omega) rfl rfl rfl rfl ?_; intro v' w1 hown' hb' hsz'))
        rw [← bitsTo_yes HB.out] at hown'
        go_roundw
        case rel => exact ⟨j + 1, by omega, by go_num, n + 1, hown', hb'⟩
        case measure => simp [intOf]; omega
      | false =>
        have ht := bit_test M j (by omega)
        rw [hbit] at ht
        rw [← bitsTo_no hbit] at hown
        have HO := Lib.hid hown
        clear hbit hown
        go_wp2_with fail
        go_roundw
        case rel => exact ⟨j + 1, by omega, by go_num, n, HO.out, hbl⟩
        case measure => simp [intOf]; omega
    · obtain rfl : j = 4 := by omega
      obtain ⟨a, cap, rfl, _⟩ := own_form hown.row
      go_wp2
      go_ret
      exact ⟨_, _, _, rfl, hown, hbl⟩

set_option maxHeartbeats 1000000 in
theorem maskVars_spec (cs : List Value) (x : DQ) (k : Int) (w : World) (h : rQ.rep w cs x) :
    Calls Try.prog 88 #[.agg cs.toArray, .int .i64 k] w fun e w' => ∃ u, e = .returned u ∧ Own oI w.heap.size w'.heap.size w' [u] (maskVars x k) ∧ Below w.heap.size w w' := by
  obtain ⟨ub, un, uc, rfl⟩ := rQ_form h
  have hb0 : Below w.heap.size w w := Below.refl _ _
  go_enter Try.func88, Try.ntmps88
  obtain ⟨w1, hw1⟩ : ∃ W, W = w.alloc (.cells #[.int .i64 x.1, .slice ub un uc] 37) := ⟨_, rfl⟩
  have z1 : Below w.heap.size w w1 := by rw [hw1]; exact (Below.refl _ _).alloc (Nat.le_refl _) _
  have s1 : w1.heap.size = w.heap.size + 1 := by rw [hw1]; simp
  have hb1 := on hb0 z1
  have b_0 : w1.cell? ⟨w.heap.size, 0, none⟩ = some (.int .i64 x.1) := by rw [hw1]; exact box_cell (Below.refl _ _) rfl
  have b_1 : w1.cell? ⟨w.heap.size, 1, none⟩ = some (.slice ub un uc) := by rw [hw1]; exact box_cell (Below.refl _ _) rfl
  have raw1_b_0 := b_0
  have raw1_b_1 := b_1
  rw [hw1] at raw1_b_0 raw1_b_1
  go_wp2_with fail
  rw [← hw1]
  clear hw1
  clear raw1_b_0 raw1_b_1
  refine (maskOk_spec _ x k _ (rQ.mono h hb1)).mono ?_
  rintro e w2 ⟨rfl, z2⟩
  have s3 := z2.size
  have hb3 := on hb1 z2
  replace b_0 := (z2.cell (p := ⟨w.heap.size, 0, none⟩) (by simp only []; omega)).trans b_0
  replace b_1 := (z2.cell (p := ⟨w.heap.size, 1, none⟩) (by simp only []; omega)).trans b_1
  by_cases hv : maskOkB x k = true
  case neg =>
    replace hv : maskOkB x k = false := by simpa using hv
    have HE := Lib.hid (maskVars_no hv)
    go_wp2_with fail
    go_ret
    exact ⟨_, rfl, by rw [HE.out]; exact ((own_empty (Nat.le_refl _)).own).mono (by omega) (Nat.le_refl _), hb3.trans ((Below.refl _ _).alloc (by omega) _)⟩
  obtain ⟨K, rfl, hK⟩ := maskOkB_lt hv
  obtain ⟨n, hq⟩ := QOk.of (maskOkB_valid hv)
  have HE := Lib.hid (maskVars_yes hv)
  have HK := pow_le16 hq.len
  have hK16 : K < 16 := by omega
  clear hK HK
  go_wp2_with fail
  refine (l7Bits_any _ x K n _ (rQ.mono h hb3) hq hK16).mono ?_
  rintro e w4 ⟨rfl, z4⟩
  have s5 := z4.size
  have hb5 := on hb3 z4
  replace b_0 := (z4.cell (p := ⟨w.heap.size, 0, none⟩) (by simp only []; omega)).trans b_0
  replace b_1 := (z4.cell (p := ⟨w.heap.size, 1, none⟩) (by simp only []; omega)).trans b_1
  have hb16 : bitsOf x K < 16 := Nat.lt_of_lt_of_le (hq.bits_lt K) (pow_le16 hq.le)
  have HQ := Lib.hid hq
  clear hq
  go_wp2_with fail
  refine (l7List_any _ _ hb16).mono ?_
  rintro e w9 ⟨b, n9, c, rfl, ho, z9⟩
  have s6 := z9.size
  have hb6 := on hb5 z9
  replace b_0 := (z9.cell (p := ⟨w.heap.size, 0, none⟩) (by simp only []; omega)).trans b_0
  replace b_1 := (z9.cell (p := ⟨w.heap.size, 1, none⟩) (by simp only []; omega)).trans b_1
  go_wp2_with fail
  go_ret
  exact ⟨_, rfl, by rw [HE.out]; exact ho.own.mono (by omega) (Nat.le_refl _), hb6⟩

end Go.Proofs.Ytkipgbgkhffkkaa

/- Contracts: the reference's search for the rows of an answer. -/
namespace Go.Proofs.Ytkipgbgkhffkkaa
open Go.RowKit
set_option linter.unusedVariables false
set_option linter.unusedSimpArgs false
set_option synthInstance.maxSize 2000
set_option synthInstance.maxHeartbeats 400000

/-- Tables and atoms, side by side. -/
def zipRA (ts : List DT) (zs : List DA) : List RA := List.zipWith (fun t a => (t.2.2, a.2)) ts zs
theorem zipRA_get {ts : List DT} {zs : List DA} {i : Nat} {t : DT} {a : DA} (h : ts[i]? = some t) (h' : zs[i]? = some a) : (zipRA ts zs)[i]? = some (t.2.2, a.2) := by
  simp [zipRA, List.getElem?_zipWith, h, h']
theorem zipRA_len {ts : List DT} {zs : List DA} (h : ts.length = zs.length) : (zipRA ts zs).length = ts.length := by
  simp [zipRA, h]
def walkTo (L : List RA) (vars : List Int) (k : Nat) (row : List Int) (m : Nat) : List (List Int) := (List.range m).flatMap (fun v : Nat => walkE L vars k (row ++ [(v : Int)]))
theorem walkTo_succ (L : List RA) (vars : List Int) (k : Nat) (row : List Int) (m : Nat) : walkTo L vars k row (m + 1) = walkTo L vars k row m ++ walkE L vars k (row ++ [(m : Int)]) := by
  simp [walkTo, List.range_succ]
theorem walkTo_len {L : List RA} {vars : List Int} {k : Nat} {row : List Int} (hk : k ≤ 3) : ∀ m, m ≤ 10 → (walkTo L vars k row m).length ≤ m * 1000
  | 0, _ => by simp [walkTo]
  | m + 1, h => by
    rw [walkTo_succ, List.length_append]
    have h1 := walkTo_len (L := L) (vars := vars) (row := row) hk m (by omega)
    have h2 := walkE_len L vars k (row ++ [(m : Int)])
    have h3 : 10 ^ k ≤ 10 ^ 3 := Nat.pow_le_pow_right (by omega) hk
    omega
theorem walkE_no {L : List RA} {vars row : List Int} {k : Nat} (h : fitsAll L vars row = false) : walkE L vars k row = [] := by
  cases k <;> simp [walkE, h]
theorem walkE_zero {L : List RA} {vars row : List Int} (h : fitsAll L vars row = true) : walkE L vars 0 row = [row] := by simp [walkE, h]
theorem walkE_succ {L : List RA} {vars row : List Int} {k : Nat} (h : fitsAll L vars row = true) : walkE L vars (k + 1) row = walkTo L vars k row 10 := by simp [walkE, h, walkTo]
theorem own_noneII {W : World} {g lo : Nat} (hg : W.heap.size = g) (hl : lo ≤ g) : Own oII lo (W.alloc (.cells #[] 44)).heap.size (W.alloc (.cells #[] 44)) [.slice (some ⟨g, 0, none⟩) 0 0] [] := by
  subst hg
  exact ((Acc.empty (E := 44) (o := oI) (S := W.heap.size) (hi := W.heap.size + 1) (W := W) rfl (by omega)).own hl hl (by simp)).mono (Nat.le_refl _) (Nat.le_refl _)
/-- A slice of one row, made. -/
theorem own_oneII {W : World} {lo h1 : Nat} {x : List Int} {v : Value} (h : Own oI lo h1 W [v] x) (hh : h1 ≤ W.heap.size) (hl : lo ≤ W.heap.size) : Own oII lo (W.alloc (.cells #[v] 44)).heap.size (W.alloc (.cells #[v] 44)) [.slice (some ⟨W.heap.size, 0, none⟩) 1 1] [x] := by
  obtain ⟨fp, h2, h3, h4⟩ := h
  have hb : Below W.heap.size W (W.alloc (.cells #[v] 44)) := (Below.refl _ _).alloc (Nat.le_refl _) _
  refine ⟨bl (.slice (some ⟨W.heap.size, 0, none⟩) 1 1) ++ [fp].flatten, ⟨_, [[v]], [fp], rfl, rfl, ?_, ⟨oI.frame h2 (fun k hk => hb.block k (by have := h4 k hk; omega)), trivial⟩⟩, ?_, ?_⟩
  · exact ⟨rfl, .inr ⟨W.heap.size, 1, #[v], rfl, Nat.zero_le _, heap_alloc_new W _, Nat.le_refl _, by unfold maxLen; omega, rfl, rfl⟩⟩
  · simp only [bl, Value.ownBlock, Option.toList_some, List.flatten_cons, List.flatten_nil, List.append_nil, List.singleton_append, List.nodup_cons]
    exact ⟨fun hm => by have := h4 _ hm; omega, h3⟩
  · intro k hk
    simp only [bl, Value.ownBlock, Option.toList_some, List.flatten_cons, List.flatten_nil, List.append_nil, List.singleton_append, List.mem_cons] at hk
    rcases hk with rfl | hk
    · simp; omega
    · have := h4 k hk; simp; omega

theorem Acc.some {α : Type} {E : TypeId} {o : OS α} {lo S hi : Nat} {w : World} {v : Value} {xs : List α} (h : Acc E o lo S hi w v xs) (hv : v ≠ .slice none 0 0) : ∃ g n c, v = .slice (some ⟨g, 0, none⟩) n c := by
  obtain ⟨fp, ⟨v1, css, fps, hv1, _, h1, _⟩, _⟩ := h
  simp at hv1
  subst hv1
  rcases h1.2 with ⟨h2, _⟩ | ⟨g, cap, cur, h2, _⟩
  · exact absurd h2 hv
  · exact ⟨g, _, cap, h2⟩

set_option maxRecDepth 100000 in
set_option maxHeartbeats 4000000 in
theorem walk_any (lb ab vb : Option Addr) (ln lc an ac vn vc : Nat) (ts : List DT) (zs : List DA) (vars : List Int) (hlen : ts.length = zs.length) (hfit : ∀ (i : Nat) (t : DT) (a : DA), ts[i]? = some t → zs[i]? = some a → ∀ r ∈ t.2.2, r.length = a.2.length) (hv4 : vars.length ≤ 4) :
    ∀ (k : Nat) (rb : Option Addr) (rn rc : Nat) (row : List Int) (w : World), Sl rT w lb ln ts → Sl rA w ab an zs → Ints w vb vn vars → Ints w rb rn row → row.length + k = vars.length →
    Calls Try.prog 105 #[.slice lb ln lc, .slice ab an ac, .slice vb vn vc, .slice rb rn rc] w fun e w' => ∃ g n c, e = .returned (.slice (some ⟨g, 0, none⟩) n c) ∧ Own oII w.heap.size w'.heap.size w' [.slice (some ⟨g, 0, none⟩) n c] (walkE (zipRA ts zs) vars k row) ∧ Below w.heap.size w w' := by
  intro k
  induction k with
  | zero =>
    intro rb rn rc row w ht ha hv hr hrk
    have hl := ht.len
    have hn := ht.small
    have hal := ha.len
    have hvl := hv.len
    have hrl := hr.len
    have hrn := hr.small
    have HFIT := Lib.hid hfit
    have HF := Lib.hid (fun cs ds t x W (hW : Below w.heap.size w W) (h1 : rT.rep W cs t) (h2 : rA.rep W ds x) (h3 : ∀ r ∈ t.2.2, r.length = x.2.length) => fits_any cs ds t x vb rb vn vc rn rc vars row W h1 h2 (hv.below hW) (hr.below hW) (by omega) h3)
    obtain ⟨F, hF⟩ : ∃ F, fitsAll (zipRA ts zs) vars row = F := ⟨_, rfl⟩
    have HE0 : Hid (F = false → walkE (zipRA ts zs) vars 0 row = []) := Lib.hid (fun h => walkE_no (hF.trans h))
    have HE1 : Hid (F = true → walkE (zipRA ts zs) vars 0 row = [row]) := Lib.hid (fun h => walkE_zero (hF.trans h))
    have HF0 : Hid (F = ((zipRA ts zs).drop 0).all (fitsB vars row)) := Lib.hid (by rw [← hF]; rfl)
    have HZ : Hid (∀ (i : Nat) (t : DT) (a : DA), ts[i]? = some t → zs[i]? = some a → (zipRA ts zs)[i]? = some (t.2.2, a.2)) := Lib.hid (fun i t a h1 h2 => zipRA_get h1 h2)
    have HZL := Lib.hid (zipRA_len hlen)
    obtain ⟨E, hE⟩ : ∃ E, walkE (zipRA ts zs) vars 0 row = E := ⟨_, rfl⟩
    rw [hE] at HE0 HE1 ⊢
    obtain ⟨L, hL⟩ : ∃ L, zipRA ts zs = L := ⟨_, rfl⟩
    rw [hL] at HF0 HZ HZL
    clear hF hE hL hfit
    have hb0 : Below w.heap.size w w := Below.refl _ _
    go_enter Try.func105, Try.ntmps105
    go_wp2_with fail
    go_loopw [9] (fun i wr => ∃ j : Nat, j ≤ ln ∧ i = .int .i64 j ∧ Hid (F = (L.drop j).all (fitsB vars row)) ∧ Below w.heap.size w wr) (fun i _ => ln - (intOf i).toNat)
    case atStart => exact ⟨0, Nat.zero_le _, rfl, HF0.out, Below.refl _ _⟩
    case round =>
      obtain ⟨j, hj, rfl, hG, hdr⟩ := hrel
      obtain ⟨wo, rfl⟩ : ∃ W, W = wr := ⟨_, rfl⟩
      clear HF0
      have s1 := hdr.size
      have hb1 := on hb0 hdr
      by_cases hlt : j < ln
      · obtain ⟨b1, o1, cs, t, rfl, hx, hrt, hc⟩ := ht.at hlt
        obtain ⟨b2, o2, ds, x, rfl, hx2, hrx, hc2⟩ := ha.at (show j < an by omega)
        have hfj := HFIT.out j t x hx.out hx2.out
        have HS := Lib.hid (hG.out.trans (by rw [drop_at (HZ.out j t x hx.out hx2.out), List.all_cons]))
        obtain ⟨q, hq⟩ : ∃ q, fitsB vars row (t.2.2, x.2) = q := ⟨_, rfl⟩
        have HFJ := Lib.hid (fun W (hW : Below w.heap.size w W) => HF.out cs ds t x W hW (rT.mono hrt hW) (rA.mono hrx hW) hfj)
        rw [hq] at HS
        rw [hq] at HFJ
        obtain ⟨s, ar, rows⟩ := t
        obtain ⟨ub, un, uc, rfl, _, _, _⟩ := rT_open hrt
        obtain ⟨m1, av⟩ := x
        obtain ⟨xb, xn, xc, rfl, _, _⟩ := rA_open hrx
        have e_lt : b1 < w.heap.size := cell_lt (hc 0 _ rfl)
        have e_0 : wo.cell? ⟨b1, o1 + j * 3, none⟩ = some (.string s) := (hb1.cell (p := ⟨b1, o1 + j * 3, none⟩) e_lt).trans (by have h9 := hc 0 _ rfl; rw [← Nat.add_assoc] at h9; exact h9)
        have e_1 : wo.cell? ⟨b1, o1 + j * 3 + 1, none⟩ = some (.int .i64 ar) := (hb1.cell (p := ⟨b1, o1 + j * 3 + 1, none⟩) e_lt).trans (by have h9 := hc 1 _ rfl; rw [← Nat.add_assoc] at h9; exact h9)
        have e_2 : wo.cell? ⟨b1, o1 + j * 3 + 2, none⟩ = some (.slice ub un uc) := (hb1.cell (p := ⟨b1, o1 + j * 3 + 2, none⟩) e_lt).trans (by have h9 := hc 2 _ rfl; rw [← Nat.add_assoc] at h9; exact h9)
        have f_lt : b2 < w.heap.size := cell_lt (hc2 0 _ rfl)
        have f_0 : wo.cell? ⟨b2, o2 + j * 2, none⟩ = some (.string m1) := (hb1.cell (p := ⟨b2, o2 + j * 2, none⟩) f_lt).trans (by have h9 := hc2 0 _ rfl; rw [← Nat.add_assoc] at h9; exact h9)
        have f_1 : wo.cell? ⟨b2, o2 + j * 2 + 1, none⟩ = some (.slice xb xn xc) := (hb1.cell (p := ⟨b2, o2 + j * 2 + 1, none⟩) f_lt).trans (by have h9 := hc2 1 _ rfl; rw [← Nat.add_assoc] at h9; exact h9)
        have hjan : j < an := by omega
        clear hG hx hrt hc hx2 hrx hc2 hfj hq HFIT HF ht ha hv hr hlen
        go_wp2_with fail
        first | (go_region_held3 (fun W => W.cell? ⟨b1, o1 + j * 3, none⟩ = some (.string s) ∧ W.cell? ⟨b1, o1 + j * 3 + 1, none⟩ = some (.int .i64 ar) ∧ W.cell? ⟨b1, o1 + j * 3 + 2, none⟩ = some (.slice ub un uc) ∧ W.cell? ⟨b2, o2 + j * 2, none⟩ = some (.string m1) ∧ W.cell? ⟨b2, o2 + j * 2 + 1, none⟩ = some (.slice xb xn xc)) (first | exact ⟨e_0, e_1, e_2, f_0, f_1⟩ | assumption) (first | (go_at_call 141; (with_reducible refine (HFJ.out _ hb1.drew).mono ?_); rintro e w2 ⟨rfl, z2⟩; replace z2 : Below wo.heap.size wo w2 := on (Below.refl _ _).drew z2; have sz2 := z2.size; have hS2 := (⟨(z2.cell (p := ⟨b1, o1 + j * 3, none⟩) (by simp only []; omega)).trans e_0, (z2.cell (p := ⟨b1, o1 + j * 3 + 1, none⟩) (by simp only []; omega)).trans e_1, (z2.cell (p := ⟨b1, o1 + j * 3 + 2, none⟩) (by simp only []; omega)).trans e_2, (z2.cell (p := ⟨b2, o2 + j * 2, none⟩) (by simp only []; omega)).trans f_0, (z2.cell (p := ⟨b2, o2 + j * 2 + 1, none⟩) (by simp only []; omega)).trans f_1⟩ : (fun W => W.cell? ⟨b1, o1 + j * 3, none⟩ = some (.string s) ∧ W.cell? ⟨b1, o1 + j * 3 + 1, none⟩ = some (.int .i64 ar) ∧ W.cell? ⟨b1, o1 + j * 3 + 2, none⟩ = some (.slice ub un uc) ∧ W.cell? ⟨b2, o2 + j * 2, none⟩ = some (.string m1) ∧ W.cell? ⟨b2, o2 + j * 2 + 1, none⟩ = some (.slice xb xn xc)) w2); have hx2 := on hb1 z2))) | fail "held"
        replace z2 : Below wo.heap.size wo w2 := z2
        clear hS2 hx2
        have s3 := z2.size
        have hb3 := on hb1 z2
        replace e_0 := (z2.cell (p := ⟨b1, o1 + j * 3, none⟩) (by simp only []; omega)).trans e_0
        replace e_1 := (z2.cell (p := ⟨b1, o1 + j * 3 + 1, none⟩) (by simp only []; omega)).trans e_1
        replace e_2 := (z2.cell (p := ⟨b1, o1 + j * 3 + 2, none⟩) (by simp only []; omega)).trans e_2
        replace f_0 := (z2.cell (p := ⟨b2, o2 + j * 2, none⟩) (by simp only []; omega)).trans f_0
        replace f_1 := (z2.cell (p := ⟨b2, o2 + j * 2 + 1, none⟩) (by simp only []; omega)).trans f_1
        cases q with
        | false =>
          have HE : Hid (E = []) := Lib.hid (HE0.out (by rw [HS.out]; rfl))
          clear HS HE0 HE1
          go_wp2_with fail
          go_ret
          refine ⟨_, _, _, rfl, ?_, (hb3).alloc (by omega) _⟩
          rw [HE.out]
          exact own_noneII rfl (by omega)
        | true =>
          have HN : Hid (F = (L.drop (j + 1)).all (fitsB vars row)) := Lib.hid (by rw [HS.out, Bool.true_and])
          clear HS
          go_wp2_with fail
          go_roundw
          case rel => exact ⟨j + 1, by omega, by go_num, HN.out, hb3⟩
          case measure => simp [intOf]; omega
      · have HE : Hid (E = [row]) := Lib.hid (HE1.out (by rw [hG.out, List.drop_eq_nil_of_le (by rw [HZL.out]; omega)]; rfl))
        have hvr : (rn : Int) = (vn : Int) := by omega
        have hd : ((rn : Int) == (vn : Int)) = true := by rw [beq_iff_eq]; exact hvr
        have hri := hr.below hb1
        obtain ⟨v1, w1, hr1, ho1, hbw1, hsz1⟩ := run_copyI wo _ 44 rn rc rb row hri (by omega) rfl
        obtain ⟨c1, c2, c3, rfl⟩ := oI_form1 ho1
        have HO := Lib.hid (own_oneII (lo := w.heap.size) (ho1.mono (by omega) (Nat.le_refl _)) (Nat.le_refl _) (by omega))
        have HB9 := Lib.hid (((hb1).trans (hbw1.mono (by omega))).alloc (B := w.heap.size) (by omega) (.cells #[.slice c1 c2 c3] 44))
        clear ho1 hri HE0 HE1 hG HF HFIT ht ha hv hr
        go_wp2_with ((at_builtin; refine wpList_app_run hr1 rfl rfl rfl rfl rfl ?_))
        go_ret
        exact ⟨_, _, _, rfl, by rw [HE.out]; exact HO.out, HB9.out⟩
  | succ k ih =>
    intro rb rn rc row w ht ha hv hr hrk
    have hl := ht.len
    have hn := ht.small
    have hal := ha.len
    have hvl := hv.len
    have hrl := hr.len
    have hrn := hr.small
    have HFIT := Lib.hid hfit
    have HF := Lib.hid (fun cs ds t x W (hW : Below w.heap.size w W) (h1 : rT.rep W cs t) (h2 : rA.rep W ds x) (h3 : ∀ r ∈ t.2.2, r.length = x.2.length) => fits_any cs ds t x vb rb vn vc rn rc vars row W h1 h2 (hv.below hW) (hr.below hW) (by omega) h3)
    obtain ⟨F, hF⟩ : ∃ F, fitsAll (zipRA ts zs) vars row = F := ⟨_, rfl⟩
    have HE0 : Hid (F = false → walkE (zipRA ts zs) vars (k + 1) row = []) := Lib.hid (fun h => walkE_no (hF.trans h))
    have HE1 : Hid (F = true → walkE (zipRA ts zs) vars (k + 1) row = walkTo (zipRA ts zs) vars k row 10) := Lib.hid (fun h => walkE_succ (hF.trans h))
    have HF0 : Hid (F = ((zipRA ts zs).drop 0).all (fitsB vars row)) := Lib.hid (by rw [← hF]; rfl)
    have HZ : Hid (∀ (i : Nat) (t : DT) (a : DA), ts[i]? = some t → zs[i]? = some a → (zipRA ts zs)[i]? = some (t.2.2, a.2)) := Lib.hid (fun i t a h1 h2 => zipRA_get h1 h2)
    have HZL := Lib.hid (zipRA_len hlen)
    obtain ⟨E, hE⟩ : ∃ E, walkE (zipRA ts zs) vars (k + 1) row = E := ⟨_, rfl⟩
    rw [hE] at HE0 HE1 ⊢
    obtain ⟨L, hL⟩ : ∃ L, zipRA ts zs = L := ⟨_, rfl⟩
    rw [hL] at HF0 HZ HZL HE1
    simp only [hL] at ih
    clear hF hE hL hfit
    have hb0 : Below w.heap.size w w := Below.refl _ _
    go_enter Try.func105, Try.ntmps105
    go_wp2_with fail
    go_loopw [9] (fun i wr => ∃ j : Nat, j ≤ ln ∧ i = .int .i64 j ∧ Hid (F = (L.drop j).all (fitsB vars row)) ∧ Below w.heap.size w wr) (fun i _ => ln - (intOf i).toNat)
    case atStart => exact ⟨0, Nat.zero_le _, rfl, HF0.out, Below.refl _ _⟩
    case round =>
      obtain ⟨j, hj, rfl, hG, hdr⟩ := hrel
      obtain ⟨wo, rfl⟩ : ∃ W, W = wr := ⟨_, rfl⟩
      clear HF0
      have s4 := hdr.size
      have hb4 := on hb0 hdr
      by_cases hlt : j < ln
      · obtain ⟨b1, o1, cs, t, rfl, hx, hrt, hc⟩ := ht.at hlt
        obtain ⟨b2, o2, ds, x, rfl, hx2, hrx, hc2⟩ := ha.at (show j < an by omega)
        have hfj := HFIT.out j t x hx.out hx2.out
        have HS := Lib.hid (hG.out.trans (by rw [drop_at (HZ.out j t x hx.out hx2.out), List.all_cons]))
        obtain ⟨q, hq⟩ : ∃ q, fitsB vars row (t.2.2, x.2) = q := ⟨_, rfl⟩
        have HFJ := Lib.hid (fun W (hW : Below w.heap.size w W) => HF.out cs ds t x W hW (rT.mono hrt hW) (rA.mono hrx hW) hfj)
        rw [hq] at HS
        rw [hq] at HFJ
        obtain ⟨s, ar, rows⟩ := t
        obtain ⟨ub, un, uc, rfl, _, _, _⟩ := rT_open hrt
        obtain ⟨m1, av⟩ := x
        obtain ⟨xb, xn, xc, rfl, _, _⟩ := rA_open hrx
        have e_lt : b1 < w.heap.size := cell_lt (hc 0 _ rfl)
        have e_0 : wo.cell? ⟨b1, o1 + j * 3, none⟩ = some (.string s) := (hb4.cell (p := ⟨b1, o1 + j * 3, none⟩) e_lt).trans (by have h9 := hc 0 _ rfl; rw [← Nat.add_assoc] at h9; exact h9)
        have e_1 : wo.cell? ⟨b1, o1 + j * 3 + 1, none⟩ = some (.int .i64 ar) := (hb4.cell (p := ⟨b1, o1 + j * 3 + 1, none⟩) e_lt).trans (by have h9 := hc 1 _ rfl; rw [← Nat.add_assoc] at h9; exact h9)
        have e_2 : wo.cell? ⟨b1, o1 + j * 3 + 2, none⟩ = some (.slice ub un uc) := (hb4.cell (p := ⟨b1, o1 + j * 3 + 2, none⟩) e_lt).trans (by have h9 := hc 2 _ rfl; rw [← Nat.add_assoc] at h9; exact h9)
        have f_lt : b2 < w.heap.size := cell_lt (hc2 0 _ rfl)
        have f_0 : wo.cell? ⟨b2, o2 + j * 2, none⟩ = some (.string m1) := (hb4.cell (p := ⟨b2, o2 + j * 2, none⟩) f_lt).trans (by have h9 := hc2 0 _ rfl; rw [← Nat.add_assoc] at h9; exact h9)
        have f_1 : wo.cell? ⟨b2, o2 + j * 2 + 1, none⟩ = some (.slice xb xn xc) := (hb4.cell (p := ⟨b2, o2 + j * 2 + 1, none⟩) f_lt).trans (by have h9 := hc2 1 _ rfl; rw [← Nat.add_assoc] at h9; exact h9)
        have hjan : j < an := by omega
        clear hG hx hrt hc hx2 hrx hc2 hfj hq HFIT HF ht ha hv hr hlen ih
        go_wp2_with fail
        first | (go_region_held3 (fun W => W.cell? ⟨b1, o1 + j * 3, none⟩ = some (.string s) ∧ W.cell? ⟨b1, o1 + j * 3 + 1, none⟩ = some (.int .i64 ar) ∧ W.cell? ⟨b1, o1 + j * 3 + 2, none⟩ = some (.slice ub un uc) ∧ W.cell? ⟨b2, o2 + j * 2, none⟩ = some (.string m1) ∧ W.cell? ⟨b2, o2 + j * 2 + 1, none⟩ = some (.slice xb xn xc)) (first | exact ⟨e_0, e_1, e_2, f_0, f_1⟩ | assumption) (first | (go_at_call 141; (with_reducible refine (HFJ.out _ hb4.drew).mono ?_); rintro e w5 ⟨rfl, z5⟩; replace z5 : Below wo.heap.size wo w5 := on (Below.refl _ _).drew z5; have sz5 := z5.size; have hS5 := (⟨(z5.cell (p := ⟨b1, o1 + j * 3, none⟩) (by simp only []; omega)).trans e_0, (z5.cell (p := ⟨b1, o1 + j * 3 + 1, none⟩) (by simp only []; omega)).trans e_1, (z5.cell (p := ⟨b1, o1 + j * 3 + 2, none⟩) (by simp only []; omega)).trans e_2, (z5.cell (p := ⟨b2, o2 + j * 2, none⟩) (by simp only []; omega)).trans f_0, (z5.cell (p := ⟨b2, o2 + j * 2 + 1, none⟩) (by simp only []; omega)).trans f_1⟩ : (fun W => W.cell? ⟨b1, o1 + j * 3, none⟩ = some (.string s) ∧ W.cell? ⟨b1, o1 + j * 3 + 1, none⟩ = some (.int .i64 ar) ∧ W.cell? ⟨b1, o1 + j * 3 + 2, none⟩ = some (.slice ub un uc) ∧ W.cell? ⟨b2, o2 + j * 2, none⟩ = some (.string m1) ∧ W.cell? ⟨b2, o2 + j * 2 + 1, none⟩ = some (.slice xb xn xc)) w5); have hx5 := on hb4 z5))) | fail "held"
        replace z5 : Below wo.heap.size wo w5 := z5
        clear hS5 hx5
        have s6 := z5.size
        have hb6 := on hb4 z5
        replace e_0 := (z5.cell (p := ⟨b1, o1 + j * 3, none⟩) (by simp only []; omega)).trans e_0
        replace e_1 := (z5.cell (p := ⟨b1, o1 + j * 3 + 1, none⟩) (by simp only []; omega)).trans e_1
        replace e_2 := (z5.cell (p := ⟨b1, o1 + j * 3 + 2, none⟩) (by simp only []; omega)).trans e_2
        replace f_0 := (z5.cell (p := ⟨b2, o2 + j * 2, none⟩) (by simp only []; omega)).trans f_0
        replace f_1 := (z5.cell (p := ⟨b2, o2 + j * 2 + 1, none⟩) (by simp only []; omega)).trans f_1
        cases q with
        | false =>
          have HE : Hid (E = []) := Lib.hid (HE0.out (by rw [HS.out]; rfl))
          clear HS HE0 HE1
          go_wp2_with fail
          go_ret
          refine ⟨_, _, _, rfl, ?_, (hb6).alloc (by omega) _⟩
          rw [HE.out]
          exact own_noneII rfl (by omega)
        | true =>
          have HN : Hid (F = (L.drop (j + 1)).all (fitsB vars row)) := Lib.hid (by rw [HS.out, Bool.true_and])
          clear HS
          go_wp2_with fail
          go_roundw
          case rel => exact ⟨j + 1, by omega, by go_num, HN.out, hb6⟩
          case measure => simp [intOf]; omega
      · have HE : Hid (E = walkTo L vars k row 10) := Lib.hid (HE1.out (by rw [hG.out, List.drop_eq_nil_of_le (by rw [HZL.out]; omega)]; rfl))
        have hne : ¬ (rn : Int) = (vn : Int) := by omega
        have hd : ((rn : Int) == (vn : Int)) = false := by rw [beq_eq_false_iff_ne]; exact hne
        have HT := Lib.hid (fun W (hW : Below w.heap.size w W) => ht.below hW)
        have HA := Lib.hid (fun W (hW : Below w.heap.size w W) => ha.below hW)
        have HV := Lib.hid (fun W (hW : Below w.heap.size w W) => hv.below hW)
        have HR := Lib.hid (fun W (hW : Below w.heap.size w W) => hr.below hW)
        have HIH := Lib.hid ih
        have hk3 : k ≤ 3 := by omega
        clear HE0 HE1 hG HF HFIT ht ha hv hr ih
        obtain ⟨w7, hw7⟩ : ∃ W, W = wo.alloc (.cells #[] 44) := ⟨_, rfl⟩
        have z7 : Below wo.heap.size wo w7 := by rw [hw7]; exact (Below.refl _ _).alloc (Nat.le_refl _) _
        have s7 : w7.heap.size = wo.heap.size + 1 := by rw [hw7]; simp
        have hb7 := on hb4 z7
        have he : ∀ S, Acc 44 oI wo.heap.size S w7.heap.size w7 (.slice (some ⟨wo.heap.size, 0, none⟩) 0 0) [] := fun S => by rw [hw7]; exact Acc.empty (by omega) (by first | (simp; done) | (simp; omega))
        go_wp2_with fail
        rw [← hw7]
        clear hw7
        go_loopw [10, 11] (fun v k' wr => ∃ (j g n c : Nat), j ≤ 10 ∧ k' = .int .i64 j ∧ v = .slice (some ⟨g, 0, none⟩) n c ∧ Acc 44 oI wo.heap.size w7.heap.size wr.heap.size wr (.slice (some ⟨g, 0, none⟩) n c) (walkTo L vars k row j) ∧ Turn wo.heap.size (wo.heap.size + 1) w7 wr) (fun _ k' _ => 10 - (intOf k').toNat)
        case atStart => exact ⟨0, _, _, _, by omega, rfl, rfl, (he _).wide (Nat.le_refl _) (by omega), turn_refl _ _ _⟩
        case round =>
          obtain ⟨j, g, n, c, hj, rfl, rfl, hacc, hdr⟩ := hrel
          have hlc := hdr
          have s8 := hdr.size
          have hb8 := hb7.trans ((hdr.below (by omega)).mono (by omega))
          by_cases hltj : j < 10
          · have hjj : (j : Int) ≤ 9 := by omega
            have hjd : decide ((j : Int) ≤ 9) = true := decide_eq_true hjj
            obtain ⟨v1, w1, hr1, ho1, hbw1, hsz1⟩ := run_copyI wr _ 44 rn rc rb row (HR.out _ hb8) (by omega) rfl
            obtain ⟨c1, c2, c3, rfl⟩ := oI_form1 ho1
            obtain ⟨a2, n2, p2, w2, hr2, ho2, hbw2, hsz2⟩ := own_num 44 ho1 (r := (j : Int)) ⟨by omega, by omega⟩ (Nat.le_refl _) (by omega) (by omega) rfl
            have hb2 : Below wr.heap.size wr w2 := hbw1.trans hbw2
            have hB2 : Below w.heap.size w w2 := (hb8).trans (hb2.mono (by omega))
            have hI2 := rI_ints (ho2.rd reads_I)
            have HI := Lib.hid (HIH.out _ _ p2 _ w2 (HT.out _ hB2) (HA.out _ hB2) (HV.out _ hB2) hI2 (by rw [List.length_append]; simp; omega))
            have hacc2 := hacc.below hb2 (Nat.le_refl _)
            have ht2 := hlc.trans (turn_below hb2 (Nat.le_refl _))
            clear hI2 ho2 ho1
            go_wp2_with (first | (at_builtin; refine wpList_app_run hr1 rfl rfl rfl rfl rfl ?_) | (at_builtin; refine wpList_app_run hr2 rfl rfl rfl rfl rfl ?_))
            refine HI.out.mono ?_
            rintro e w3 ⟨g3, n3, p3, rfl, o3, z3⟩
            have sz2 := hb2.size
            have sz3 := z3.size
            have hacc3 := hacc2.below z3 (by omega)
            have ht3 := ht2.trans (turn_below z3 (by omega))
            have hwl := walkTo_len (L := L) (vars := vars) (row := row) hk3 j (by omega)
            have hwe := walkE_len L vars k (row ++ [(j : Int)])
            have hp3 : 10 ^ k ≤ 10 ^ 3 := Nat.pow_le_pow_right (by omega) hk3
            obtain ⟨v4, w4, hr4, hacc4, ht4, hsz4, hnil⟩ := run_acc_many Try.underlying52 infoI rfl (by decide) (by decide) rfl one_I 52 _ _ _ _ _ _ hacc3 o3 (by omega) (by omega) ht3 rfl (by omega) (by omega)
            rw [← walkTo_succ] at hacc4
            obtain ⟨g4, n4, c4, rfl⟩ := hacc4.some (fun h9 => by have := (hnil.1 h9).1; simp at this)
            have HA4 := Lib.hid hacc4
            have HT4 := Lib.hid ht4
            clear hacc hacc2 hacc3 hacc4 ht2 ht3 ht4 o3 hnil
            go_wp2_with ((at_builtin; refine wpList_app_run hr4 rfl rfl rfl rfl rfl ?_))
            go_roundw
            case rel => exact ⟨j + 1, g4, n4, c4, by omega, by go_num, rfl, HA4.out, HT4.out⟩
            case measure => simp [intOf]; omega
          · have hj10 : j = 10 := by omega
            have hjd : decide ((j : Int) ≤ 9) = false := decide_eq_false (by omega)
            have hjn : ¬ (j : Int) ≤ 9 := by omega
            rw [hj10, ← HE.out] at hacc
            have HO := Lib.hid (hacc.own (B := w.heap.size) (by omega) (by omega) (Nat.le_refl _))
            clear hacc hj10
            go_wp2_with fail
            go_ret
            exact ⟨_, _, _, rfl, HO.out, hb8⟩

end Go.Proofs.Ytkipgbgkhffkkaa
