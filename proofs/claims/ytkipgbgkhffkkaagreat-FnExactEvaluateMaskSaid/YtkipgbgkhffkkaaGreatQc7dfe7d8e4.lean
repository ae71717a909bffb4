/- Texts joined for one claim: MAn, MII, EvalR. -/
import Derived.Test.YtkipgbgkhffkkaaGreatQfe2a32a828
import Derived.Deep.RegionHeld3

/- Marks of answers. Written by a program. -/
namespace Go.Proofs.YtkipgbgkhffkkaaGreat
open Go.RowKit
set_option linter.unusedVariables false
set_option linter.unusedSimpArgs false
set_option synthInstance.maxSize 2000
set_option synthInstance.maxHeartbeats 400000

def cnt_An (x : DAn) : Nat := cnt_I x.1 + cnt_II x.2
def mk_An (k : Int) (x : DAn) : DAn := (mk_I k x.1, mk_II (k + cnt_I x.1) x.2)
theorem cnt_le_An (x : DAn) : cnt_An x ≤ 2 * bulk_An x := by
  have h0 := cnt_le_I x.1
  have h1 := cnt_le_II x.2
  simp only [cnt_An, bulk_An]; omega

set_option maxHeartbeats 1000000 in
theorem mark_An (us : List Value) (x : DAn) (k : Int) (lo hi : Nat) (w : World) (h : Own oAn lo hi w us x) (hh : hi ≤ w.heap.size) (k0 : 1 ≤ k) (k1 : k + cnt_An x ≤ 1000000000) (hb : bulk_An x ≤ 100000000) :
    Calls Tryz.prog 23 #[.agg us.toArray, .int .i64 k] w fun e w' => e = .returned (.int .i64 (k + cnt_An x)) ∧ Own oAn lo hi w' us (mk_An k x) ∧ Turn lo hi w w' := by
  obtain ⟨fp, hrep, hfn, hfr⟩ := h
  obtain ⟨c0, d0, p0, q0, rfl, rfl, t0, t1⟩ := hrep
  obtain ⟨a0, n0, rfl⟩ := oS_len t0
  obtain ⟨a1, n1, rfl⟩ := oS_len t1
  have HN := Lib.hid hfn
  have HFR := Lib.hid hfr
  try simp only [List.nodup_append, List.nil_append, List.append_nil] at hfn
  have hn0 : p0.Nodup := by first | exact hfn | exact hfn.1 | exact hfn.2.1 | exact hfn.2.1.1 | exact hfn.2.1.2.1
  have hlt0 : ∀ p9, p9 ∈ p0 → p9 < w.heap.size := fun p9 hp9 => by have := hfr p9 (by simp [hp9]); omega
  have hn1 : q0.Nodup := by first | exact hfn | exact hfn.1 | exact hfn.2.1 | exact hfn.2.1.1 | exact hfn.2.1.2.1
  have hlt1 : ∀ p9, p9 ∈ q0 → p9 < w.heap.size := fun p9 hp9 => by have := hfr p9 (by simp [hp9]); omega
  have dj01 : ∀ p9, p9 ∈ p0 → p9 ∉ q0 := fun p9 h8 h9 => by first | exact hfn.2.2 p9 h8 p9 (by simp [h9]) rfl | exact hfn.2.1.2.2 p9 h8 p9 (by simp [h9]) rfl
  simp only [cnt_An, bulk_An] at *
  clear hfn hfr
  go_enter Tryz.func23, Tryz.ntmps23
  obtain ⟨w1, hw1⟩ : ∃ W, W = w.alloc (.cells #[.slice a0 x.1.length n0, .slice a1 x.2.length n1] 49) := ⟨_, rfl⟩
  have z1 : Below w.heap.size w w1 := by rw [hw1]; exact (Below.refl _ _).alloc (Nat.le_refl _) _
  have A1 := Alt.below (fp := p0 ++ q0) z1
  have c0 : w1.cell? ⟨w.heap.size, 0, none⟩ = some (.slice a0 x.1.length n0) := by rw [hw1]; exact box_cell (Below.refl _ _) rfl
  have c1 : w1.cell? ⟨w.heap.size, 1, none⟩ = some (.slice a1 x.2.length n1) := by rw [hw1]; exact box_cell (Below.refl _ _) rfl
  replace t0 := oI.frame t0 (fun p9 hp9 => z1.block p9 (hlt0 p9 hp9))
  replace t1 := oII.frame t1 (fun p9 hp9 => z1.block p9 (hlt1 p9 hp9))
  have hz1 := z1.size
  have hz1q : w.heap.size < w1.heap.size := by rw [hw1]; simp
  go_wp2_with fail
  rw [← hw1]
  clear hw1 z1
  refine (markI a0 x.1.length n0 x.1 p0 _ _ t0 (by omega) (by omega) (by simp only [bulk_I, cnt_I] at *; omega)).mono ?_
  rintro e w2 ⟨rfl, t0, z2⟩
  replace z2 := Alt.only z2
  have A2 := A1.trans (z2.mono (fq := p0 ++ q0) (fun p9 hp9 => by simp [hp9]))
  replace t1 := oII.frame t1 (fun p9 hp9 => z2.block p9 (Nat.lt_of_lt_of_le (hlt1 p9 hp9) A1.size) (fun h9 => dj01 p9 h9 hp9))
  have nf2 : w.heap.size ∉ p0 := fun h9 => Nat.lt_irrefl _ (hlt0 _ h9)
  replace c1 := (World.cell?_of_block (a := ⟨w.heap.size, 1, none⟩) (z2.block _ (show w.heap.size < w1.heap.size by omega) nf2)).trans c1
  have hz2 := z2.size
  clear z2
  go_wp2_with fail
  refine (markII a1 x.2.length n1 x.2 q0 _ _ t1 hn1 (by omega) (by simp only [cnt_I, cnt_II] at *; omega) (by simp only [bulk_II] at *; omega)).mono ?_
  rintro e w3 ⟨rfl, t1, z3⟩
  replace z3 := Alt.only z3
  have A3 := A2.trans (z3.mono (fq := p0 ++ q0) (fun p9 hp9 => by simp [hp9]))
  replace t0 := oI.frame t0 (fun p9 hp9 => z3.block p9 (Nat.lt_of_lt_of_le (hlt0 p9 hp9) A2.size) (dj01 p9 hp9))
  clear z3
  have HR : Hid (Own oAn lo hi w3 [.slice a0 x.1.length n0, .slice a1 x.2.length n1] (mk_An k x) ∧ Turn lo hi w w3) := ⟨⟨_, ⟨[.slice a0 x.1.length n0], [.slice a1 x.2.length n1], p0, _, rfl, rfl, t0, t1⟩, HN.out, HFR.out⟩, A3.turn HFR.out⟩
  clear t0 t1 A1 A2 A3
  go_wp2_with fail
  go_ret
  exact ⟨ret_int (by simp only [cnt_I, cnt_II] <;> omega), HR.out⟩

end Go.Proofs.YtkipgbgkhffkkaaGreat

/- Marks of slices of slices of ints, as contracts. -/
namespace Go.Proofs.YtkipgbgkhffkkaaGreat
open Go.RowKit
set_option linter.unusedVariables false
set_option linter.unusedSimpArgs false
set_option synthInstance.maxSize 2000
set_option synthInstance.maxHeartbeats 400000

theorem mark_II (u : Value) (xs : List (List Int)) (k : Int) (lo hi : Nat) (w : World) (h : Own oII lo hi w [u] xs) (hh : hi ≤ w.heap.size) (k0 : 0 ≤ k) (k1 : k + cnt_II xs ≤ 1000000000) (hb : bulk_II xs ≤ 100000000) :
    Calls Tryz.prog 59 #[u, .int .i64 k] w fun e w' => e = .returned (.int .i64 (k + cnt_II xs)) ∧ Own oII lo hi w' [u] (mk_II k xs) ∧ Turn lo hi w w' := by
  obtain ⟨fp, h1, h2, h3⟩ := h
  obtain ⟨a, cap, hv⟩ := oS_len h1
  simp at hv
  subst hv
  unfold cnt_II at *
  unfold mk_II
  refine (markII a _ cap xs fp k w h1 h2 k0 (by omega) (by unfold bulk_II at hb; omega)).mono ?_
  rintro e w' ⟨he, h4, h5⟩
  exact ⟨he, ⟨fp, h4, h2, h3⟩, (h5.kept h3).turn⟩
theorem held_II (u : Value) (xs : List (List Int)) (k : Int) (w : World) (h : rII.rep w [u] (mk_II k xs)) (k0 : 0 ≤ k) (k1 : k + cnt_II xs ≤ 1000000000) (hb : bulk_II xs ≤ 100000000) :
    Calls Tryz.prog 60 #[u, .int .i64 k] w fun e w' => e = .returned (.int .i64 (k + cnt_II xs)) ∧ w = w' := by
  obtain ⟨b, n, c, hv⟩ := rS_form h
  simp at hv
  subst hv
  have hl := (rS_sl h).len
  unfold mk_II at hl h
  rw [mkSS_len] at hl
  unfold cnt_II at *
  exact heldIntSS_any _ _ _ xs k w (rS_sl h) k0 (by omega) (by unfold bulk_II at hb; omega)

end Go.Proofs.YtkipgbgkhffkkaaGreat

/- Contracts: the answer of a whole query, and the sizes of all connected parts, both ways; the marks of answers. -/
namespace Go.Proofs.YtkipgbgkhffkkaaGreat
open Go.RowKit
set_option linter.unusedVariables false
set_option linter.unusedSimpArgs false
set_option synthInstance.maxSize 2000
set_option synthInstance.maxHeartbeats 400000

theorem evalM_bulk (db : DDb) (q : DQ) (k : Int) : cnt_An (evalM db q k) ≤ 200000 ∧ bulk_An (evalM db q k) ≤ 100000 := by
  obtain ⟨h1, h2, h3⟩ := evalM_len db q k
  have h4 : sumBy bulk_I (evalM db q k).2 ≤ (evalM db q k).2.length * 4 := sumBy_bound (fun r hr => by have := h3 r hr; unfold bulk_I; omega)
  have h5 : bulk_An (evalM db q k) ≤ 100000 := by
    unfold bulk_An bulk_II
    have : bulk_I (evalM db q k).1 ≤ 4 := h1
    omega
  have h6 := cnt_le_An (evalM db q k)
  exact ⟨by omega, h5⟩

set_option maxHeartbeats 1000000 in
theorem held_An (us : List Value) (x : DAn) (k : Int) (w : World) (h : rAn.rep w us (mk_An k x)) (k0 : 1 ≤ k) (k1 : k + cnt_An x ≤ 1000000000) (hb : bulk_An x ≤ 100000000) :
    Calls Tryz.prog 24 #[.agg us.toArray, .int .i64 k] w fun e w' => e = .returned (.int .i64 (k + cnt_An x)) ∧ Below w.heap.size w w' := by
  obtain ⟨vb, vn, vc, sb, sn, sc, rfl, g0, g1⟩ := rAn_open h
  obtain ⟨xs, ys⟩ := x
  simp only [mk_An] at g0 g1
  simp only [cnt_An] at k1 ⊢
  simp only [bulk_An] at hb
  have H0 := Lib.hid (fun W (hW : Below w.heap.size w W) => held_I _ xs k W (rI.mono g0 hW) (by omega) (by omega))
  have H1 := Lib.hid (fun W (hW : Below w.heap.size w W) => held_II _ ys (k + cnt_I xs) W (rII.mono g1 hW) (by omega) (by omega) (by omega))
  have hA : ¬ k + (cnt_I xs : Int) < 0 := by omega
  have hB : ¬ k + (cnt_I xs : Int) + (cnt_II ys : Int) < 0 := by omega
  clear h g0 g1
  have hb0 : Below w.heap.size w w := Below.refl _ _
  go_enter Tryz.func24, Tryz.ntmps24
  obtain ⟨w1, hw1⟩ : ∃ W, W = w.alloc (.cells #[.slice vb vn vc, .slice sb sn sc] 49) := ⟨_, rfl⟩
  have z1 : Below w.heap.size w w1 := by rw [hw1]; exact (Below.refl _ _).alloc (Nat.le_refl _) _
  have s1 : w1.heap.size = w.heap.size + 1 := by rw [hw1]; simp
  have hb1 := on hb0 z1
  have a_0 : w1.cell? ⟨w.heap.size, 0, none⟩ = some (.slice vb vn vc) := by rw [hw1]; exact box_cell (Below.refl _ _) rfl
  have a_1 : w1.cell? ⟨w.heap.size, 1, none⟩ = some (.slice sb sn sc) := by rw [hw1]; exact box_cell (Below.refl _ _) rfl
  have raw1_a_0 := a_0
  have raw1_a_1 := a_1
  rw [hw1] at raw1_a_0 raw1_a_1
  go_wp2_with fail
  rw [← hw1]
  clear hw1
  clear raw1_a_0 raw1_a_1
  refine (H0.out _ hb1).mono ?_
  rintro e w' ⟨rfl, rfl⟩
  go_wp2_with fail
  refine (H1.out _ hb1).mono ?_
  rintro e w' ⟨rfl, rfl⟩
  go_wp2_with fail
  go_wp2_with fail
  go_ret
  exact ⟨ret_int (by omega), hb1⟩

theorem Own.setOff {α : Type} {o : OS α} {lo hi : Nat} {w w' : World} {cs : List Value} {x : α} (h : Own o lo hi w cs x) {p : Addr} {u : Value} (hw : w' = w.setCell p u) (hp : p.block < lo ∨ hi ≤ p.block) : Own o lo hi w' cs x := by
  subst hw
  obtain ⟨fp, h1, h2, h3⟩ := h
  exact ⟨fp, o.frame h1 (fun k hk => Below.heap_setCell _ _ _ _ (by have := h3 k hk; omega)), h2, h3⟩
/-- Several ways that meet again: the rest is walked once. -/
theorem share4 {G : Nat → World → Option Addr → Nat → Nat → Option Addr → Nat → Nat → Option Addr → Nat → Nat → Option Addr → Nat → Nat → Prop} {Q : Prop} (F : Nat → World → Option Addr → Nat → Nat → Option Addr → Nat → Nat → Option Addr → Nat → Nat → Option Addr → Nat → Nat → Prop) (br : (∀ B W a b c d e f g h i j k l, F B W a b c d e f g h i j k l → G B W a b c d e f g h i j k l) → Q) (rest : ∀ B W a b c d e f g h i j k l, F B W a b c d e f g h i j k l → G B W a b c d e f g h i j k l) : Q := br rest
theorem fullMask_rng (x : DQ) : I64 (fullMask x) := by
  obtain ⟨M, h, hM, _⟩ := fullMask_nat x
  rw [h]
  constructor <;> omega

set_option maxRecDepth 100000 in
set_option maxHeartbeats 4000000 in
theorem evalQ_impl (cs ds : List Value) (db : DDb) (x : DQ) (w : World) (h : rDb.rep w cs db) (h' : rQ.rep w ds x) :
    Calls Tryz.prog 26 #[.agg cs.toArray, .agg ds.toArray] w fun e w' => ∃ us, e = .returned (.tuple #[.agg us.toArray, .bool (evalOk db x (fullMask x))]) ∧ Own oAn w.heap.size w'.heap.size w' us (evalM db x (fullMask x)) ∧ Below w.heap.size w w' := by
  have HFM := Lib.hid (fun W (hW : Below w.heap.size w W) => fullMask_impl ds x W (rQ.mono h' hW))
  have HEV := Lib.hid (fun W (hW : Below w.heap.size w W) => eval_impl cs ds db x (fullMask x) W (rDb.mono h hW) (rQ.mono h' hW) (fullMask_rng x))
  obtain ⟨ub, un, uc, rfl⟩ := rDb_form h
  obtain ⟨qb, qn, qc, rfl⟩ := rQ_form h'
  obtain ⟨fm, hfm⟩ : ∃ fm, fullMask x = fm := ⟨_, rfl⟩
  rw [hfm] at HFM HEV
  rw [hfm]
  obtain ⟨ok, hok⟩ : ∃ ok, evalOk db x fm = ok := ⟨_, rfl⟩
  obtain ⟨E, hE⟩ : ∃ E, evalM db x fm = E := ⟨_, rfl⟩
  simp only [hok, hE] at HEV
  rw [hok, hE]
  obtain ⟨vq, xs⟩ := x
  simp only at HFM HEV
  clear h h' hok hE hfm
  have hb0 : Below w.heap.size w w := Below.refl _ _
  go_enter Tryz.func26, Tryz.ntmps26
  obtain ⟨w1, hw1⟩ : ∃ W, W = w.alloc (.cells #[.slice ub un uc] 34) := ⟨_, rfl⟩
  have z1 : Below w.heap.size w w1 := by rw [hw1]; exact (Below.refl _ _).alloc (Nat.le_refl _) _
  have s1 : w1.heap.size = w.heap.size + 1 := by rw [hw1]; simp
  have hb1 := on hb0 z1
  have b_0 : w1.cell? ⟨w.heap.size, 0, none⟩ = some (.slice ub un uc) := by rw [hw1]; exact box_cell (Below.refl _ _) rfl
  have b_f0 : w1.frozen? ⟨w.heap.size, 0, none⟩ = false := by rw [hw1]; exact box_frozen (Below.refl _ _)
  have raw1_b_0 := b_0
  rw [hw1] at raw1_b_0
  obtain ⟨w2, hw2⟩ : ∃ W, W = w1.alloc (.cells #[.int .i64 vq, .slice qb qn qc] 38) := ⟨_, rfl⟩
  have z2 : Below w1.heap.size w1 w2 := by rw [hw2]; exact (Below.refl _ _).alloc (Nat.le_refl _) _
  have s2 : w2.heap.size = w1.heap.size + 1 := by rw [hw2]; simp
  have hb2 := on hb1 z2
  replace b_0 := (z2.cell (p := ⟨w.heap.size, 0, none⟩) (by simp only []; omega)).trans b_0
  replace b_f0 := (z2.frozen (p := ⟨w.heap.size, 0, none⟩) (by simp only []; omega)).trans b_f0
  have e2 : w1.heap.size = w.heap.size + 1 := by omega
  have q_0 : w2.cell? ⟨w1.heap.size, 0, none⟩ = some (.int .i64 vq) := by rw [hw2]; exact box_cell (Below.refl _ _) rfl
  have q_1 : w2.cell? ⟨w1.heap.size, 1, none⟩ = some (.slice qb qn qc) := by rw [hw2]; exact box_cell (Below.refl _ _) rfl
  rw [e2] at q_0 q_1
  have q_f0 : w2.frozen? ⟨w1.heap.size, 0, none⟩ = false := by rw [hw2]; exact box_frozen (Below.refl _ _)
  have q_f1 : w2.frozen? ⟨w1.heap.size, 1, none⟩ = false := by rw [hw2]; exact box_frozen (Below.refl _ _)
  rw [e2] at q_f0 q_f1
  have raw2_b_0 := b_0
  have raw2_q_0 := q_0
  have raw2_q_1 := q_1
  rw [hw2, hw1] at raw2_b_0 raw2_q_0 raw2_q_1
  obtain ⟨w3, hw3⟩ : ∃ W, W = w2.alloc (.cells #[.slice none 0 0, .slice none 0 0] 49) := ⟨_, rfl⟩
  have z3 : Below w2.heap.size w2 w3 := by rw [hw3]; exact (Below.refl _ _).alloc (Nat.le_refl _) _
  have s3 : w3.heap.size = w2.heap.size + 1 := by rw [hw3]; simp
  have hb3 := on hb2 z3
  replace b_0 := (z3.cell (p := ⟨w.heap.size, 0, none⟩) (by simp only []; omega)).trans b_0
  replace b_f0 := (z3.frozen (p := ⟨w.heap.size, 0, none⟩) (by simp only []; omega)).trans b_f0
  replace q_0 := (z3.cell (p := ⟨w.heap.size + 1, 0, none⟩) (by simp only []; omega)).trans q_0
  replace q_1 := (z3.cell (p := ⟨w.heap.size + 1, 1, none⟩) (by simp only []; omega)).trans q_1
  replace q_f0 := (z3.frozen (p := ⟨w.heap.size + 1, 0, none⟩) (by simp only []; omega)).trans q_f0
  replace q_f1 := (z3.frozen (p := ⟨w.heap.size + 1, 1, none⟩) (by simp only []; omega)).trans q_f1
  have e3 : w2.heap.size = w.heap.size + 1 + 1 := by omega
  have r_0 : w3.cell? ⟨w2.heap.size, 0, none⟩ = some (.slice none 0 0) := by rw [hw3]; exact box_cell (Below.refl _ _) rfl
  have r_1 : w3.cell? ⟨w2.heap.size, 1, none⟩ = some (.slice none 0 0) := by rw [hw3]; exact box_cell (Below.refl _ _) rfl
  rw [e3] at r_0 r_1
  have r_f0 : w3.frozen? ⟨w2.heap.size, 0, none⟩ = false := by rw [hw3]; exact box_frozen (Below.refl _ _)
  have r_f1 : w3.frozen? ⟨w2.heap.size, 1, none⟩ = false := by rw [hw3]; exact box_frozen (Below.refl _ _)
  rw [e3] at r_f0 r_f1
  have raw3_b_0 := b_0
  have raw3_q_0 := q_0
  have raw3_q_1 := q_1
  have raw3_r_0 := r_0
  have raw3_r_1 := r_1
  rw [hw3, hw2, hw1] at raw3_b_0 raw3_q_0 raw3_q_1 raw3_r_0 raw3_r_1
  go_wp2_with fail
  rw [← hw1]
  rw [← hw2]
  rw [← hw3]
  clear hw3 hw2 hw1
  clear raw1_b_0 raw2_b_0 raw2_q_0 raw2_q_1 raw3_b_0 raw3_q_0 raw3_q_1 raw3_r_0 raw3_r_1
  refine wp_region_noPanic ?_
  refine wp_region_held_drew (S := (fun W => W.cell? ⟨w.heap.size, 0, none⟩ = some (.slice ub un uc) ∧ W.cell? ⟨w.heap.size + 1, 0, none⟩ = some (.int .i64 vq) ∧ W.cell? ⟨w.heap.size + 1, 1, none⟩ = some (.slice qb qn qc))) (by kernel_rfl) ?hS4 (fun hHeld => ?_)
  case hS4 => exact ⟨b_0, q_0, q_1⟩
  refine wpAnyH_take (i := 0) (v := ?v0_5) rfl (by kernel_rfl) (by kernel_rfl) (by kernel_rfl) (fun _ _ _ h => h) (Or.inl ⟨by rfl, ?hy0_5⟩) (by assumption) ?rest0_5
  case hy0_5 => intro w hSw; (try dsimp only at hSw); go_simp; (try with_reducible rfl)
  try simp only [Act.put, List.getElem_toArray, List.getElem_cons_succ, List.getElem_cons_zero, List.setIfInBounds_toArray, List.set_cons_zero, List.set_cons_succ]
  refine wpAnyH_take (i := 1) (v := ?v1_6) rfl (by kernel_rfl) (by kernel_rfl) (by kernel_rfl) (fun _ _ _ h => h) (Or.inl ⟨by rfl, ?hy1_6⟩) (by assumption) ?rest1_6
  case hy1_6 => intro w hSw; (try dsimp only at hSw); go_simp; (try with_reducible rfl)
  try simp only [Act.put, List.getElem_toArray, List.getElem_cons_succ, List.getElem_cons_zero, List.setIfInBounds_toArray, List.set_cons_zero, List.set_cons_succ]
  refine wpAnyH_take (i := 2) (v := ?v2_7) rfl (by kernel_rfl) (by kernel_rfl) (by kernel_rfl) (fun _ _ _ h => h) (Or.inl ⟨by rfl, ?hy2_7⟩) (by assumption) ?rest2_7
  case hy2_7 => intro w hSw; (try dsimp only at hSw); go_simp; (try with_reducible rfl)
  try simp only [Act.put, List.getElem_toArray, List.getElem_cons_succ, List.getElem_cons_zero, List.setIfInBounds_toArray, List.set_cons_zero, List.set_cons_succ]
  refine wpAnyH_ready (rs := [3]) (by kernel_rfl) (by simp) ?_
  refine AllReadyH.cons rfl (fun K hK => ?_) AllReadyH.nil
  go_simp; (refine (HFM.out _ (hb3).drew).mono ?_); rintro e wA ⟨rfl, zA⟩; replace zA : Below w3.heap.size w3 wA := on (Below.refl _ _).drew zA; have sA := zA.size; have hbA := on hb3 zA; have hSA := (⟨(zA.cell (p := ⟨w.heap.size, 0, none⟩) (by simp only []; omega)).trans b_0, (zA.cell (p := ⟨w.heap.size + 1, 0, none⟩) (by simp only []; omega)).trans q_0, (zA.cell (p := ⟨w.heap.size + 1, 1, none⟩) (by simp only []; omega)).trans q_1⟩ : (fun W => W.cell? ⟨w.heap.size, 0, none⟩ = some (.slice ub un uc) ∧ W.cell? ⟨w.heap.size + 1, 0, none⟩ = some (.int .i64 vq) ∧ W.cell? ⟨w.heap.size + 1, 1, none⟩ = some (.slice qb qn qc)) wA)
  refine hK.out _ _ ?_ (fun hHeld => ?_)
  · exact hSA
  clear hK K
  try simp only [Act.put, List.setIfInBounds_toArray, List.set_cons_zero, List.set_cons_succ]
  refine wpAnyH_ready (rs := [4]) (by kernel_rfl) (by simp) ?_
  refine AllReadyH.cons rfl (fun K hK => ?_) AllReadyH.nil
  go_simp; (refine (HEV.out _ hbA).mono ?_); rintro e wB ⟨us, rfl, oa, zB⟩; obtain ⟨vb, vn, vc, sb, sn, sc, rfl⟩ := oAn_form oa; have sB := zB.size; have hbB := on hbA zB; have hSB := (⟨(zB.cell (p := ⟨w.heap.size, 0, none⟩) (by simp only []; omega)).trans hSA.1, (zB.cell (p := ⟨w.heap.size + 1, 0, none⟩) (by simp only []; omega)).trans hSA.2.1, (zB.cell (p := ⟨w.heap.size + 1, 1, none⟩) (by simp only []; omega)).trans hSA.2.2⟩ : (fun W => W.cell? ⟨w.heap.size, 0, none⟩ = some (.slice ub un uc) ∧ W.cell? ⟨w.heap.size + 1, 0, none⟩ = some (.int .i64 vq) ∧ W.cell? ⟨w.heap.size + 1, 1, none⟩ = some (.slice qb qn qc)) wB); have zo := on zA zB
  refine hK.out _ _ ?_ (fun hHeld => ?_)
  · exact hSB
  clear hK K
  try simp only [Act.put, List.setIfInBounds_toArray, List.set_cons_zero, List.set_cons_succ]
  have k_0 := (zo.cell (p := ⟨w.heap.size + 1 + 1, 0, none⟩) (by simp only []; omega)).trans r_0
  have k_f0 := (zo.frozen (p := ⟨w.heap.size + 1 + 1, 0, none⟩) (by simp only []; omega)).trans r_f0
  have k_1 := (zo.cell (p := ⟨w.heap.size + 1 + 1, 1, none⟩) (by simp only []; omega)).trans r_1
  have k_f1 := (zo.frozen (p := ⟨w.heap.size + 1 + 1, 1, none⟩) (by simp only []; omega)).trans r_f1
  refine wpAnyH_take (i := 5) (v := ?v5_8) rfl (by kernel_rfl) (by kernel_rfl) (by kernel_rfl) (fun _ _ _ h => h) (Or.inl ⟨by rfl, ?hy5_8⟩) (by assumption) ?rest5_8
  case hy5_8 => intro w hSw; (try dsimp only at hSw); go_simp; (try with_reducible rfl)
  try simp only [Act.put, List.getElem_toArray, List.getElem_cons_succ, List.getElem_cons_zero, List.setIfInBounds_toArray, List.set_cons_zero, List.set_cons_succ]
  refine wpAnyH_take (i := 6) (v := ?v6_9) rfl (by kernel_rfl) (by kernel_rfl) (by kernel_rfl) (fun _ _ _ h => h) (Or.inl ⟨by rfl, ?hy6_9⟩) (by assumption) ?rest6_9
  case hy6_9 => intro w hSw; (try dsimp only at hSw); go_simp; (try with_reducible rfl)
  try simp only [Act.put, List.getElem_toArray, List.getElem_cons_succ, List.getElem_cons_zero, List.setIfInBounds_toArray, List.set_cons_zero, List.set_cons_succ]
  refine wpAnyH_ready (rs := [7]) (by kernel_rfl) (by simp) ?_
  refine AllReadyH.cons rfl (fun K hK => ?_) AllReadyH.nil
  go_simp
  refine hK.out _ _ ?_ (fun hHeld => ?_)
  · exact ⟨cell_set (cell_set hSB.1 (by simp only []; omega)) (by simp only []; omega), cell_set (cell_set hSB.2.1 (by simp only []; omega)) (by simp only []; omega), cell_set (cell_set hSB.2.2 (by simp only []; omega)) (by simp only []; omega)⟩
  clear hK K
  try simp only [Act.put, List.setIfInBounds_toArray, List.set_cons_zero, List.set_cons_succ]
  refine wpAnyH_take (i := 8) (v := ?v8_10) rfl (by kernel_rfl) (by kernel_rfl) (by kernel_rfl) (fun _ _ _ h => h) (Or.inl ⟨by rfl, ?hy8_10⟩) (by assumption) ?rest8_10
  case hy8_10 => intro w hSw; (try dsimp only at hSw); go_simp; (try with_reducible rfl)
  try simp only [Act.put, List.getElem_toArray, List.getElem_cons_succ, List.getElem_cons_zero, List.setIfInBounds_toArray, List.set_cons_zero, List.set_cons_succ]
  refine wpAnyH_done (by kernel_rfl) ?_ _
  refine NoPanic.normal ?_
  have HOA := Lib.hid oa
  clear oa
  go_wp2_with fail
  refine bodyPost_ret (v := .tuple #[.agg #[.slice vb vn vc, .slice sb sn sc], .bool ok]) (by simp [results, Tryz.results26, go_sem, k_0, k_1, k_f0, k_f1]) rfl ⟨_, rfl, ?_, ?_⟩
  · refine Own.mono (lo := wA.heap.size) (hi := wB.heap.size) ?_ (by omega) (by simp [World.setCell])
    repeat (refine Own.setOut ?_ rfl (by simp only []; omega))
    exact HOA.out
  · repeat (refine Below.setCell ?_ (by simp only []; omega) _)
    exact hbB

set_option maxRecDepth 100000 in
set_option maxHeartbeats 4000000 in
theorem evalQ_spec (cs ds : List Value) (db : DDb) (x : DQ) (w : World) (h : rDb.rep w cs db) (h' : rQ.rep w ds x) :
    Calls Tryz.prog 25 #[.agg cs.toArray, .agg ds.toArray] w fun e w' => ∃ us, e = .returned (.tuple #[.agg us.toArray, .bool (evalOk db x (fullMask x))]) ∧ Own oAn w.heap.size w'.heap.size w' us (evalM db x (fullMask x)) ∧ Below w.heap.size w w' := by
  have HFM := Lib.hid (fun W (hW : Below w.heap.size w W) => fullMask_spec ds x W (rQ.mono h' hW))
  have HEV := Lib.hid (fun W (hW : Below w.heap.size w W) => eval_spec cs ds db x (fullMask x) W (rDb.mono h hW) (rQ.mono h' hW) (fullMask_rng x))
  obtain ⟨ub, un, uc, rfl⟩ := rDb_form h
  obtain ⟨qb, qn, qc, rfl⟩ := rQ_form h'
  obtain ⟨fm, hfm⟩ : ∃ fm, fullMask x = fm := ⟨_, rfl⟩
  rw [hfm] at HFM HEV
  rw [hfm]
  obtain ⟨ok, hok⟩ : ∃ ok, evalOk db x fm = ok := ⟨_, rfl⟩
  obtain ⟨E, hE⟩ : ∃ E, evalM db x fm = E := ⟨_, rfl⟩
  simp only [hok, hE] at HEV
  rw [hok, hE]
  obtain ⟨vq, xs⟩ := x
  simp only at HFM HEV
  clear h h' hok hE hfm
  have hb0 : Below w.heap.size w w := Below.refl _ _
  go_enter Tryz.func25, Tryz.ntmps25
  obtain ⟨w1, hw1⟩ : ∃ W, W = w.alloc (.cells #[.slice ub un uc] 34) := ⟨_, rfl⟩
  have z1 : Below w.heap.size w w1 := by rw [hw1]; exact (Below.refl _ _).alloc (Nat.le_refl _) _
  have s1 : w1.heap.size = w.heap.size + 1 := by rw [hw1]; simp
  have hb1 := on hb0 z1
  have b_0 : w1.cell? ⟨w.heap.size, 0, none⟩ = some (.slice ub un uc) := by rw [hw1]; exact box_cell (Below.refl _ _) rfl
  have b_f0 : w1.frozen? ⟨w.heap.size, 0, none⟩ = false := by rw [hw1]; exact box_frozen (Below.refl _ _)
  have raw1_b_0 := b_0
  rw [hw1] at raw1_b_0
  obtain ⟨w2, hw2⟩ : ∃ W, W = w1.alloc (.cells #[.int .i64 vq, .slice qb qn qc] 38) := ⟨_, rfl⟩
  have z2 : Below w1.heap.size w1 w2 := by rw [hw2]; exact (Below.refl _ _).alloc (Nat.le_refl _) _
  have s2 : w2.heap.size = w1.heap.size + 1 := by rw [hw2]; simp
  have hb2 := on hb1 z2
  replace b_0 := (z2.cell (p := ⟨w.heap.size, 0, none⟩) (by simp only []; omega)).trans b_0
  replace b_f0 := (z2.frozen (p := ⟨w.heap.size, 0, none⟩) (by simp only []; omega)).trans b_f0
  have e2 : w1.heap.size = w.heap.size + 1 := by omega
  have q_0 : w2.cell? ⟨w1.heap.size, 0, none⟩ = some (.int .i64 vq) := by rw [hw2]; exact box_cell (Below.refl _ _) rfl
  have q_1 : w2.cell? ⟨w1.heap.size, 1, none⟩ = some (.slice qb qn qc) := by rw [hw2]; exact box_cell (Below.refl _ _) rfl
  rw [e2] at q_0 q_1
  have q_f0 : w2.frozen? ⟨w1.heap.size, 0, none⟩ = false := by rw [hw2]; exact box_frozen (Below.refl _ _)
  have q_f1 : w2.frozen? ⟨w1.heap.size, 1, none⟩ = false := by rw [hw2]; exact box_frozen (Below.refl _ _)
  rw [e2] at q_f0 q_f1
  have raw2_b_0 := b_0
  have raw2_q_0 := q_0
  have raw2_q_1 := q_1
  rw [hw2, hw1] at raw2_b_0 raw2_q_0 raw2_q_1
  obtain ⟨w3, hw3⟩ : ∃ W, W = w2.alloc (.cells #[.slice none 0 0, .slice none 0 0] 49) := ⟨_, rfl⟩
  have z3 : Below w2.heap.size w2 w3 := by rw [hw3]; exact (Below.refl _ _).alloc (Nat.le_refl _) _
  have s3 : w3.heap.size = w2.heap.size + 1 := by rw [hw3]; simp
  have hb3 := on hb2 z3
  replace b_0 := (z3.cell (p := ⟨w.heap.size, 0, none⟩) (by simp only []; omega)).trans b_0
  replace b_f0 := (z3.frozen (p := ⟨w.heap.size, 0, none⟩) (by simp only []; omega)).trans b_f0
  replace q_0 := (z3.cell (p := ⟨w.heap.size + 1, 0, none⟩) (by simp only []; omega)).trans q_0
  replace q_1 := (z3.cell (p := ⟨w.heap.size + 1, 1, none⟩) (by simp only []; omega)).trans q_1
  replace q_f0 := (z3.frozen (p := ⟨w.heap.size + 1, 0, none⟩) (by simp only []; omega)).trans q_f0
  replace q_f1 := (z3.frozen (p := ⟨w.heap.size + 1, 1, none⟩) (by simp only []; omega)).trans q_f1
  have e3 : w2.heap.size = w.heap.size + 1 + 1 := by omega
  have r_0 : w3.cell? ⟨w2.heap.size, 0, none⟩ = some (.slice none 0 0) := by rw [hw3]; exact box_cell (Below.refl _ _) rfl
  have r_1 : w3.cell? ⟨w2.heap.size, 1, none⟩ = some (.slice none 0 0) := by rw [hw3]; exact box_cell (Below.refl _ _) rfl
  rw [e3] at r_0 r_1
  have r_f0 : w3.frozen? ⟨w2.heap.size, 0, none⟩ = false := by rw [hw3]; exact box_frozen (Below.refl _ _)
  have r_f1 : w3.frozen? ⟨w2.heap.size, 1, none⟩ = false := by rw [hw3]; exact box_frozen (Below.refl _ _)
  rw [e3] at r_f0 r_f1
  have raw3_b_0 := b_0
  have raw3_q_0 := q_0
  have raw3_q_1 := q_1
  have raw3_r_0 := r_0
  have raw3_r_1 := r_1
  rw [hw3, hw2, hw1] at raw3_b_0 raw3_q_0 raw3_q_1 raw3_r_0 raw3_r_1
  go_wp2_with fail
  rw [← hw1]
  rw [← hw2]
  rw [← hw3]
  clear hw3 hw2 hw1
  clear raw1_b_0 raw2_b_0 raw2_q_0 raw2_q_1 raw3_b_0 raw3_q_0 raw3_q_1 raw3_r_0 raw3_r_1
  obtain ⟨wz, rfl⟩ : ∃ W, W = w3 := ⟨_, rfl⟩
  have hz3 : w.heap.size + 3 ≤ wz.heap.size := by omega
  clear s1 s2 s3 e2 e3
  refine wp_region_noPanic ?_
  refine wp_region_held_drew (S := (fun W => W.cell? ⟨w.heap.size, 0, none⟩ = some (.slice ub un uc) ∧ W.cell? ⟨w.heap.size + 1, 0, none⟩ = some (.int .i64 vq) ∧ W.cell? ⟨w.heap.size + 1, 1, none⟩ = some (.slice qb qn qc))) (by kernel_rfl) ?hS4 (fun hHeld => ?_)
  case hS4 => exact ⟨b_0, q_0, q_1⟩
  refine wpAnyH_take (i := 0) (v := ?v0_5) rfl (by kernel_rfl) (by kernel_rfl) (by kernel_rfl) (fun _ _ _ h => h) (Or.inl ⟨by rfl, ?hy0_5⟩) (by assumption) ?rest0_5
  case hy0_5 => intro w hSw; (try dsimp only at hSw); go_simp; (try with_reducible rfl)
  try simp only [Act.put, List.getElem_toArray, List.getElem_cons_succ, List.getElem_cons_zero, List.setIfInBounds_toArray, List.set_cons_zero, List.set_cons_succ]
  refine wpAnyH_take (i := 1) (v := ?v1_6) rfl (by kernel_rfl) (by kernel_rfl) (by kernel_rfl) (fun _ _ _ h => h) (Or.inl ⟨by rfl, ?hy1_6⟩) (by assumption) ?rest1_6
  case hy1_6 => intro w hSw; (try dsimp only at hSw); go_simp; (try with_reducible rfl)
  try simp only [Act.put, List.getElem_toArray, List.getElem_cons_succ, List.getElem_cons_zero, List.setIfInBounds_toArray, List.set_cons_zero, List.set_cons_succ]
  refine wpAnyH_take (i := 2) (v := ?v2_7) rfl (by kernel_rfl) (by kernel_rfl) (by kernel_rfl) (fun _ _ _ h => h) (Or.inl ⟨by rfl, ?hy2_7⟩) (by assumption) ?rest2_7
  case hy2_7 => intro w hSw; (try dsimp only at hSw); go_simp; (try with_reducible rfl)
  try simp only [Act.put, List.getElem_toArray, List.getElem_cons_succ, List.getElem_cons_zero, List.setIfInBounds_toArray, List.set_cons_zero, List.set_cons_succ]
  refine wpAnyH_ready (rs := [3, 8]) (by kernel_rfl) (by simp) ?_
  refine AllReadyH.cons rfl (fun K hK => ?_) (AllReadyH.cons rfl (fun K hK => ?_) AllReadyH.nil)
  · skip
    go_simp
    refine (HFM.out _ ((hb3).drew)).mono ?_
    rintro e wA ⟨rfl, zA⟩
    replace zA : Below wz.heap.size wz wA := on (Below.refl _ _).drew zA
    have zAs := zA.size
    have hSwA := (⟨(zA.cell (p := ⟨w.heap.size, 0, none⟩) (by simp only []; omega)).trans b_0, (zA.cell (p := ⟨w.heap.size + 1, 0, none⟩) (by simp only []; omega)).trans q_0, (zA.cell (p := ⟨w.heap.size + 1, 1, none⟩) (by simp only []; omega)).trans q_1⟩ : (fun W => W.cell? ⟨w.heap.size, 0, none⟩ = some (.slice ub un uc) ∧ W.cell? ⟨w.heap.size + 1, 0, none⟩ = some (.int .i64 vq) ∧ W.cell? ⟨w.heap.size + 1, 1, none⟩ = some (.slice qb qn qc)) wA)
    have hbA := on hb3 zA
    refine hK.out _ _ ?_ (fun hHeld => ?_)
    · exact hSwA
    clear hK K
    try simp only [Act.put, List.setIfInBounds_toArray, List.set_cons_zero, List.set_cons_succ]
    refine wpAnyH_ready (rs := [4, 8]) (by kernel_rfl) (by simp) ?_
    refine AllReadyH.cons rfl (fun K hK => ?_) (AllReadyH.cons rfl (fun K hK => ?_) AllReadyH.nil)
    · skip
      go_simp
      refine (HEV.out _ (hbA)).mono ?_
      rintro e wB ⟨us, rfl, oa, zB⟩
      obtain ⟨vb, vn, vc, sb, sn, sc, rfl⟩ := oAn_form oa
      have zBs := zB.size
      have hSwB := (⟨(zB.cell (p := ⟨w.heap.size, 0, none⟩) (by simp only []; omega)).trans hSwA.1, (zB.cell (p := ⟨w.heap.size + 1, 0, none⟩) (by simp only []; omega)).trans hSwA.2.1, (zB.cell (p := ⟨w.heap.size + 1, 1, none⟩) (by simp only []; omega)).trans hSwA.2.2⟩ : (fun W => W.cell? ⟨w.heap.size, 0, none⟩ = some (.slice ub un uc) ∧ W.cell? ⟨w.heap.size + 1, 0, none⟩ = some (.int .i64 vq) ∧ W.cell? ⟨w.heap.size + 1, 1, none⟩ = some (.slice qb qn qc)) wB)
      have hbB := on hbA zB
      refine hK.out _ _ ?_ (fun hHeld => ?_)
      · exact hSwB
      clear hK K
      try simp only [Act.put, List.setIfInBounds_toArray, List.set_cons_zero, List.set_cons_succ]
      refine wpAnyH_take (i := 5) (v := ?v5_8) rfl (by kernel_rfl) (by kernel_rfl) (by kernel_rfl) (fun _ _ _ h => h) (Or.inl ⟨by rfl, ?hy5_8⟩) (by assumption) ?rest5_8
      case hy5_8 => intro w hSw; (try dsimp only at hSw); go_simp; (try with_reducible rfl)
      try simp only [Act.put, List.getElem_toArray, List.getElem_cons_succ, List.getElem_cons_zero, List.setIfInBounds_toArray, List.set_cons_zero, List.set_cons_succ]
      refine wpAnyH_take (i := 6) (v := ?v6_9) rfl (by kernel_rfl) (by kernel_rfl) (by kernel_rfl) (fun _ _ _ h => h) (Or.inl ⟨by rfl, ?hy6_9⟩) (by assumption) ?rest6_9
      case hy6_9 => intro w hSw; (try dsimp only at hSw); go_simp; (try with_reducible rfl)
      try simp only [Act.put, List.getElem_toArray, List.getElem_cons_succ, List.getElem_cons_zero, List.setIfInBounds_toArray, List.set_cons_zero, List.set_cons_succ]
      refine wpAnyH_take (i := 7) (v := ?v7_10) rfl (by kernel_rfl) (by kernel_rfl) (by kernel_rfl) (fun _ _ _ h => h) (Or.inl ⟨by rfl, ?hy7_10⟩) (by assumption) ?rest7_10
      case hy7_10 => intro w hSw; (try dsimp only at hSw); go_simp; (try with_reducible rfl)
      try simp only [Act.put, List.getElem_toArray, List.getElem_cons_succ, List.getElem_cons_zero, List.setIfInBounds_toArray, List.set_cons_zero, List.set_cons_succ]
      refine wpAnyH_ready (rs := [8]) (by kernel_rfl) (by simp) ?_
      refine AllReadyH.cons rfl (fun K hK => ?_) AllReadyH.nil
      go_simp
      obtain ⟨wX, hwwX⟩ : ∃ W, W = wB.alloc (.cells #[.slice none 0 0, .slice none 0 0] 49) := ⟨_, rfl⟩
      have n_0 : wX.cell? ⟨wB.heap.size, 0, none⟩ = some (.slice none 0 0) := by rw [hwwX]; exact box_cell (Below.refl _ _) rfl
      have n_1 : wX.cell? ⟨wB.heap.size, 1, none⟩ = some (.slice none 0 0) := by rw [hwwX]; exact box_cell (Below.refl _ _) rfl
      have n_f0 : wX.frozen? ⟨wB.heap.size, 0, none⟩ = false := by rw [hwwX]; exact box_frozen (Below.refl _ _)
      have n_f1 : wX.frozen? ⟨wB.heap.size, 1, none⟩ = false := by rw [hwwX]; exact box_frozen (Below.refl _ _)
      have zwX : Below wB.heap.size wB wX := by rw [hwwX]; exact (Below.refl _ _).alloc (Nat.le_refl _) _
      have zwXq : wB.heap.size < wX.heap.size := by rw [hwwX]; simp
      have hSwX := (⟨(zwX.cell (p := ⟨w.heap.size, 0, none⟩) (by simp only []; omega)).trans hSwB.1, (zwX.cell (p := ⟨w.heap.size + 1, 0, none⟩) (by simp only []; omega)).trans hSwB.2.1, (zwX.cell (p := ⟨w.heap.size + 1, 1, none⟩) (by simp only []; omega)).trans hSwB.2.2⟩ : (fun W => W.cell? ⟨w.heap.size, 0, none⟩ = some (.slice ub un uc) ∧ W.cell? ⟨w.heap.size + 1, 0, none⟩ = some (.int .i64 vq) ∧ W.cell? ⟨w.heap.size + 1, 1, none⟩ = some (.slice qb qn qc)) wX)
      rw [← hwwX]
      clear hwwX
      refine hK.out _ _ ?_ (fun hHeld => ?_)
      · exact hSwX
      clear hK K
      try simp only [Act.put, List.setIfInBounds_toArray, List.set_cons_zero, List.set_cons_succ]
      have hbX := on hbB zwX
      have k_0 := ((on (on zA zB) zwX).cell (p := ⟨w.heap.size + 1 + 1, 0, none⟩) (by simp only []; omega)).trans r_0
      have k_1 := ((on (on zA zB) zwX).cell (p := ⟨w.heap.size + 1 + 1, 1, none⟩) (by simp only []; omega)).trans r_1
      have k_f0 := ((on (on zA zB) zwX).frozen (p := ⟨w.heap.size + 1 + 1, 0, none⟩) (by simp only []; omega)).trans r_f0
      have k_f1 := ((on (on zA zB) zwX).frozen (p := ⟨w.heap.size + 1 + 1, 1, none⟩) (by simp only []; omega)).trans r_f1
      have hOX := oa.below zwX (Nat.le_refl _)
      clear oa
      have oa := hOX
      clear hOX
      refine wpAnyH_ready (rs := [9]) (by kernel_rfl) (by simp) ?_
      refine AllReadyH.cons rfl (fun K hK => ?_) AllReadyH.nil
      go_simp
      refine hK.out _ _ ?_ (fun hHeld => ?_)
      · exact ⟨cell_set (cell_set hSwX.1 (by simp only []; omega)) (by simp only []; omega), cell_set (cell_set hSwX.2.1 (by simp only []; omega)) (by simp only []; omega), cell_set (cell_set hSwX.2.2 (by simp only []; omega)) (by simp only []; omega)⟩
      clear hK K
      try simp only [Act.put, List.setIfInBounds_toArray, List.set_cons_zero, List.set_cons_succ]
      refine wpAnyH_take (i := 10) (v := ?v10_11) rfl (by kernel_rfl) (by kernel_rfl) (by kernel_rfl) (fun _ _ _ h => h) (Or.inl ⟨by rfl, ?hy10_11⟩) (by assumption) ?rest10_11
      case hy10_11 => intro w hSw; (try dsimp only at hSw); go_simp; (try with_reducible rfl)
      try simp only [Act.put, List.getElem_toArray, List.getElem_cons_succ, List.getElem_cons_zero, List.setIfInBounds_toArray, List.set_cons_zero, List.set_cons_succ]
      refine wpAnyH_done (by kernel_rfl) ?_ _
      refine NoPanic.normal ?_
      have HOA := Lib.hid oa
      clear oa
      go_wp2_with fail
      refine bodyPost_ret (v := .tuple #[.agg #[.slice vb vn vc, .slice sb sn sc], .bool ok]) (by simp [results, Tryz.results25, go_sem, k_0, k_1, k_f0, k_f1, n_0, n_1, n_f0, n_f1]) rfl ⟨_, rfl, ?_, ?_⟩
      · refine Own.mono (lo := wA.heap.size) (hi := wB.heap.size) ?_ (by omega) (by simp [World.setCell] <;> omega)
        repeat (refine Own.setOff ?_ rfl (by simp only []; omega))
        exact HOA.out
      · repeat (refine Below.setCell ?_ (by simp only []; omega) _)
        exact hbX
    · skip
      go_simp
      obtain ⟨wX, hwwX⟩ : ∃ W, W = wA.alloc (.cells #[.slice none 0 0, .slice none 0 0] 49) := ⟨_, rfl⟩
      have n_0 : wX.cell? ⟨wA.heap.size, 0, none⟩ = some (.slice none 0 0) := by rw [hwwX]; exact box_cell (Below.refl _ _) rfl
      have n_1 : wX.cell? ⟨wA.heap.size, 1, none⟩ = some (.slice none 0 0) := by rw [hwwX]; exact box_cell (Below.refl _ _) rfl
      have n_f0 : wX.frozen? ⟨wA.heap.size, 0, none⟩ = false := by rw [hwwX]; exact box_frozen (Below.refl _ _)
      have n_f1 : wX.frozen? ⟨wA.heap.size, 1, none⟩ = false := by rw [hwwX]; exact box_frozen (Below.refl _ _)
      have zwX : Below wA.heap.size wA wX := by rw [hwwX]; exact (Below.refl _ _).alloc (Nat.le_refl _) _
      have zwXq : wA.heap.size < wX.heap.size := by rw [hwwX]; simp
      have hSwX := (⟨(zwX.cell (p := ⟨w.heap.size, 0, none⟩) (by simp only []; omega)).trans hSwA.1, (zwX.cell (p := ⟨w.heap.size + 1, 0, none⟩) (by simp only []; omega)).trans hSwA.2.1, (zwX.cell (p := ⟨w.heap.size + 1, 1, none⟩) (by simp only []; omega)).trans hSwA.2.2⟩ : (fun W => W.cell? ⟨w.heap.size, 0, none⟩ = some (.slice ub un uc) ∧ W.cell? ⟨w.heap.size + 1, 0, none⟩ = some (.int .i64 vq) ∧ W.cell? ⟨w.heap.size + 1, 1, none⟩ = some (.slice qb qn qc)) wX)
      rw [← hwwX]
      clear hwwX
      refine hK.out _ _ ?_ (fun hHeld => ?_)
      · exact hSwX
      clear hK K
      try simp only [Act.put, List.setIfInBounds_toArray, List.set_cons_zero, List.set_cons_succ]
      have hbX := on hbA zwX
      refine wpAnyH_ready (rs := [4]) (by kernel_rfl) (by simp) ?_
      refine AllReadyH.cons rfl (fun K hK => ?_) AllReadyH.nil
      go_simp
      refine (HEV.out _ (hbX)).mono ?_
      rintro e wB ⟨us, rfl, oa, zB⟩
      obtain ⟨vb, vn, vc, sb, sn, sc, rfl⟩ := oAn_form oa
      have zBs := zB.size
      have hSwB := (⟨(zB.cell (p := ⟨w.heap.size, 0, none⟩) (by simp only []; omega)).trans hSwX.1, (zB.cell (p := ⟨w.heap.size + 1, 0, none⟩) (by simp only []; omega)).trans hSwX.2.1, (zB.cell (p := ⟨w.heap.size + 1, 1, none⟩) (by simp only []; omega)).trans hSwX.2.2⟩ : (fun W => W.cell? ⟨w.heap.size, 0, none⟩ = some (.slice ub un uc) ∧ W.cell? ⟨w.heap.size + 1, 0, none⟩ = some (.int .i64 vq) ∧ W.cell? ⟨w.heap.size + 1, 1, none⟩ = some (.slice qb qn qc)) wB)
      have hbB := on hbX zB
      refine hK.out _ _ ?_ (fun hHeld => ?_)
      · exact hSwB
      clear hK K
      try simp only [Act.put, List.setIfInBounds_toArray, List.set_cons_zero, List.set_cons_succ]
      replace n_0 := (zB.cell (p := ⟨wA.heap.size, 0, none⟩) (by simp only []; omega)).trans n_0
      replace n_1 := (zB.cell (p := ⟨wA.heap.size, 1, none⟩) (by simp only []; omega)).trans n_1
      replace n_f0 := (zB.frozen (p := ⟨wA.heap.size, 0, none⟩) (by simp only []; omega)).trans n_f0
      replace n_f1 := (zB.frozen (p := ⟨wA.heap.size, 1, none⟩) (by simp only []; omega)).trans n_f1
      have k_0 := ((on (on zA zwX) zB).cell (p := ⟨w.heap.size + 1 + 1, 0, none⟩) (by simp only []; omega)).trans r_0
      have k_1 := ((on (on zA zwX) zB).cell (p := ⟨w.heap.size + 1 + 1, 1, none⟩) (by simp only []; omega)).trans r_1
      have k_f0 := ((on (on zA zwX) zB).frozen (p := ⟨w.heap.size + 1 + 1, 0, none⟩) (by simp only []; omega)).trans r_f0
      have k_f1 := ((on (on zA zwX) zB).frozen (p := ⟨w.heap.size + 1 + 1, 1, none⟩) (by simp only []; omega)).trans r_f1
      refine wpAnyH_take (i := 5) (v := ?v5_12) rfl (by kernel_rfl) (by kernel_rfl) (by kernel_rfl) (fun _ _ _ h => h) (Or.inl ⟨by rfl, ?hy5_12⟩) (by assumption) ?rest5_12
      case hy5_12 => intro w hSw; (try dsimp only at hSw); go_simp; (try with_reducible rfl)
      try simp only [Act.put, List.getElem_toArray, List.getElem_cons_succ, List.getElem_cons_zero, List.setIfInBounds_toArray, List.set_cons_zero, List.set_cons_succ]
      refine wpAnyH_take (i := 6) (v := ?v6_13) rfl (by kernel_rfl) (by kernel_rfl) (by kernel_rfl) (fun _ _ _ h => h) (Or.inl ⟨by rfl, ?hy6_13⟩) (by assumption) ?rest6_13
      case hy6_13 => intro w hSw; (try dsimp only at hSw); go_simp; (try with_reducible rfl)
      try simp only [Act.put, List.getElem_toArray, List.getElem_cons_succ, List.getElem_cons_zero, List.setIfInBounds_toArray, List.set_cons_zero, List.set_cons_succ]
      refine wpAnyH_take (i := 7) (v := ?v7_14) rfl (by kernel_rfl) (by kernel_rfl) (by kernel_rfl) (fun _ _ _ h => h) (Or.inl ⟨by rfl, ?hy7_14⟩) (by assumption) ?rest7_14
      case hy7_14 => intro w hSw; (try dsimp only at hSw); go_simp; (try with_reducible rfl)
      try simp only [Act.put, List.getElem_toArray, List.getElem_cons_succ, List.getElem_cons_zero, List.setIfInBounds_toArray, List.set_cons_zero, List.set_cons_succ]
      refine wpAnyH_ready (rs := [9]) (by kernel_rfl) (by simp) ?_
      refine AllReadyH.cons rfl (fun K hK => ?_) AllReadyH.nil
      go_simp
      refine hK.out _ _ ?_ (fun hHeld => ?_)
      · exact ⟨cell_set (cell_set hSwB.1 (by simp only []; omega)) (by simp only []; omega), cell_set (cell_set hSwB.2.1 (by simp only []; omega)) (by simp only []; omega), cell_set (cell_set hSwB.2.2 (by simp only []; omega)) (by simp only []; omega)⟩
      clear hK K
      try simp only [Act.put, List.setIfInBounds_toArray, List.set_cons_zero, List.set_cons_succ]
      refine wpAnyH_take (i := 10) (v := ?v10_15) rfl (by kernel_rfl) (by kernel_rfl) (by kernel_rfl) (fun _ _ _ h => h) (Or.inl ⟨by rfl, ?hy10_15⟩) (by assumption) ?rest10_15
      case hy10_15 => intro w hSw; (try dsimp only at hSw); go_simp; (try with_reducible rfl)
      try simp only [Act.put, List.getElem_toArray, List.getElem_cons_succ, List.getElem_cons_zero, List.setIfInBounds_toArray, List.set_cons_zero, List.set_cons_succ]
      refine wpAnyH_done (by kernel_rfl) ?_ _
      refine NoPanic.normal ?_
      have HOA := Lib.hid oa
      clear oa
      go_wp2_with fail
      refine bodyPost_ret (v := .tuple #[.agg #[.slice vb vn vc, .slice sb sn sc], .bool ok]) (by simp [results, Tryz.results25, go_sem, k_0, k_1, k_f0, k_f1, n_0, n_1, n_f0, n_f1]) rfl ⟨_, rfl, ?_, ?_⟩
      · refine Own.mono (lo := wX.heap.size) (hi := wB.heap.size) ?_ (by omega) (by simp [World.setCell] <;> omega)
        repeat (refine Own.setOff ?_ rfl (by simp only []; omega))
        exact HOA.out
      · repeat (refine Below.setCell ?_ (by simp only []; omega) _)
        exact hbB
  · skip
    go_simp
    obtain ⟨wX, hwwX⟩ : ∃ W, W = (wz.alloc (.cells #[.slice none 0 0, .slice none 0 0] 49)).drew := ⟨_, rfl⟩
    have n_0 : wX.cell? ⟨wz.heap.size, 0, none⟩ = some (.slice none 0 0) := by rw [hwwX]; exact box_cell (Below.refl _ _).drew rfl
    have n_1 : wX.cell? ⟨wz.heap.size, 1, none⟩ = some (.slice none 0 0) := by rw [hwwX]; exact box_cell (Below.refl _ _).drew rfl
    have n_f0 : wX.frozen? ⟨wz.heap.size, 0, none⟩ = false := by rw [hwwX]; exact box_frozen (Below.refl _ _).drew
    have n_f1 : wX.frozen? ⟨wz.heap.size, 1, none⟩ = false := by rw [hwwX]; exact box_frozen (Below.refl _ _).drew
    have zwX : Below wz.heap.size wz wX := by rw [hwwX]; exact ((Below.refl _ _).alloc (Nat.le_refl _) _).drew
    have zwXq : wz.heap.size < wX.heap.size := by rw [hwwX]; show _ < (wz.alloc _).heap.size; simp
    have hSwX := (⟨(zwX.cell (p := ⟨w.heap.size, 0, none⟩) (by simp only []; omega)).trans b_0, (zwX.cell (p := ⟨w.heap.size + 1, 0, none⟩) (by simp only []; omega)).trans q_0, (zwX.cell (p := ⟨w.heap.size + 1, 1, none⟩) (by simp only []; omega)).trans q_1⟩ : (fun W => W.cell? ⟨w.heap.size, 0, none⟩ = some (.slice ub un uc) ∧ W.cell? ⟨w.heap.size + 1, 0, none⟩ = some (.int .i64 vq) ∧ W.cell? ⟨w.heap.size + 1, 1, none⟩ = some (.slice qb qn qc)) wX)
    first | rw [← hwwX] | (change _ ; rw [← hwwX])
    clear hwwX
    refine hK.out _ _ ?_ (fun hHeld => ?_)
    · exact hSwX
    clear hK K
    try simp only [Act.put, List.setIfInBounds_toArray, List.set_cons_zero, List.set_cons_succ]
    have hbX := on hb3 zwX
    replace n_0 : wX.cell? ⟨wz.heap.size, 0, none⟩ = some (.slice none 0 0) := n_0
    replace n_1 : wX.cell? ⟨wz.heap.size, 1, none⟩ = some (.slice none 0 0) := n_1
    replace n_f0 : wX.frozen? ⟨wz.heap.size, 0, none⟩ = false := n_f0
    replace n_f1 : wX.frozen? ⟨wz.heap.size, 1, none⟩ = false := n_f1
    refine wpAnyH_ready (rs := [3]) (by kernel_rfl) (by simp) ?_
    refine AllReadyH.cons rfl (fun K hK => ?_) AllReadyH.nil
    go_simp
    refine (HFM.out _ (hbX)).mono ?_
    rintro e wA ⟨rfl, zA⟩
    have zAs := zA.size
    have hSwA := (⟨(zA.cell (p := ⟨w.heap.size, 0, none⟩) (by simp only []; omega)).trans hSwX.1, (zA.cell (p := ⟨w.heap.size + 1, 0, none⟩) (by simp only []; omega)).trans hSwX.2.1, (zA.cell (p := ⟨w.heap.size + 1, 1, none⟩) (by simp only []; omega)).trans hSwX.2.2⟩ : (fun W => W.cell? ⟨w.heap.size, 0, none⟩ = some (.slice ub un uc) ∧ W.cell? ⟨w.heap.size + 1, 0, none⟩ = some (.int .i64 vq) ∧ W.cell? ⟨w.heap.size + 1, 1, none⟩ = some (.slice qb qn qc)) wA)
    have hbA := on hbX zA
    refine hK.out _ _ ?_ (fun hHeld => ?_)
    · exact hSwA
    clear hK K
    try simp only [Act.put, List.setIfInBounds_toArray, List.set_cons_zero, List.set_cons_succ]
    refine wpAnyH_ready (rs := [4]) (by kernel_rfl) (by simp) ?_
    refine AllReadyH.cons rfl (fun K hK => ?_) AllReadyH.nil
    go_simp
    refine (HEV.out _ (hbA)).mono ?_
    rintro e wB ⟨us, rfl, oa, zB⟩
    obtain ⟨vb, vn, vc, sb, sn, sc, rfl⟩ := oAn_form oa
    have zBs := zB.size
    have hSwB := (⟨(zB.cell (p := ⟨w.heap.size, 0, none⟩) (by simp only []; omega)).trans hSwA.1, (zB.cell (p := ⟨w.heap.size + 1, 0, none⟩) (by simp only []; omega)).trans hSwA.2.1, (zB.cell (p := ⟨w.heap.size + 1, 1, none⟩) (by simp only []; omega)).trans hSwA.2.2⟩ : (fun W => W.cell? ⟨w.heap.size, 0, none⟩ = some (.slice ub un uc) ∧ W.cell? ⟨w.heap.size + 1, 0, none⟩ = some (.int .i64 vq) ∧ W.cell? ⟨w.heap.size + 1, 1, none⟩ = some (.slice qb qn qc)) wB)
    have hbB := on hbA zB
    refine hK.out _ _ ?_ (fun hHeld => ?_)
    · exact hSwB
    clear hK K
    try simp only [Act.put, List.setIfInBounds_toArray, List.set_cons_zero, List.set_cons_succ]
    have zo := on zA zB
    replace n_0 := (zo.cell (p := ⟨wz.heap.size, 0, none⟩) (by simp only []; omega)).trans n_0
    replace n_1 := (zo.cell (p := ⟨wz.heap.size, 1, none⟩) (by simp only []; omega)).trans n_1
    replace n_f0 := (zo.frozen (p := ⟨wz.heap.size, 0, none⟩) (by simp only []; omega)).trans n_f0
    replace n_f1 := (zo.frozen (p := ⟨wz.heap.size, 1, none⟩) (by simp only []; omega)).trans n_f1
    have k_0 := ((on zwX zo).cell (p := ⟨w.heap.size + 1 + 1, 0, none⟩) (by simp only []; omega)).trans r_0
    have k_1 := ((on zwX zo).cell (p := ⟨w.heap.size + 1 + 1, 1, none⟩) (by simp only []; omega)).trans r_1
    have k_f0 := ((on zwX zo).frozen (p := ⟨w.heap.size + 1 + 1, 0, none⟩) (by simp only []; omega)).trans r_f0
    have k_f1 := ((on zwX zo).frozen (p := ⟨w.heap.size + 1 + 1, 1, none⟩) (by simp only []; omega)).trans r_f1
    refine wpAnyH_take (i := 5) (v := ?v5_16) rfl (by kernel_rfl) (by kernel_rfl) (by kernel_rfl) (fun _ _ _ h => h) (Or.inl ⟨by rfl, ?hy5_16⟩) (by assumption) ?rest5_16
    case hy5_16 => intro w hSw; (try dsimp only at hSw); go_simp; (try with_reducible rfl)
    try simp only [Act.put, List.getElem_toArray, List.getElem_cons_succ, List.getElem_cons_zero, List.setIfInBounds_toArray, List.set_cons_zero, List.set_cons_succ]
    refine wpAnyH_take (i := 6) (v := ?v6_17) rfl (by kernel_rfl) (by kernel_rfl) (by kernel_rfl) (fun _ _ _ h => h) (Or.inl ⟨by rfl, ?hy6_17⟩) (by assumption) ?rest6_17
    case hy6_17 => intro w hSw; (try dsimp only at hSw); go_simp; (try with_reducible rfl)
    try simp only [Act.put, List.getElem_toArray, List.getElem_cons_succ, List.getElem_cons_zero, List.setIfInBounds_toArray, List.set_cons_zero, List.set_cons_succ]
    refine wpAnyH_take (i := 7) (v := ?v7_18) rfl (by kernel_rfl) (by kernel_rfl) (by kernel_rfl) (fun _ _ _ h => h) (Or.inl ⟨by rfl, ?hy7_18⟩) (by assumption) ?rest7_18
    case hy7_18 => intro w hSw; (try dsimp only at hSw); go_simp; (try with_reducible rfl)
    try simp only [Act.put, List.getElem_toArray, List.getElem_cons_succ, List.getElem_cons_zero, List.setIfInBounds_toArray, List.set_cons_zero, List.set_cons_succ]
    refine wpAnyH_ready (rs := [9]) (by kernel_rfl) (by simp) ?_
    refine AllReadyH.cons rfl (fun K hK => ?_) AllReadyH.nil
    go_simp
    refine hK.out _ _ ?_ (fun hHeld => ?_)
    · exact ⟨cell_set (cell_set hSwB.1 (by simp only []; omega)) (by simp only []; omega), cell_set (cell_set hSwB.2.1 (by simp only []; omega)) (by simp only []; omega), cell_set (cell_set hSwB.2.2 (by simp only []; omega)) (by simp only []; omega)⟩
    clear hK K
    try simp only [Act.put, List.setIfInBounds_toArray, List.set_cons_zero, List.set_cons_succ]
    refine wpAnyH_take (i := 10) (v := ?v10_19) rfl (by kernel_rfl) (by kernel_rfl) (by kernel_rfl) (fun _ _ _ h => h) (Or.inl ⟨by rfl, ?hy10_19⟩) (by assumption) ?rest10_19
    case hy10_19 => intro w hSw; (try dsimp only at hSw); go_simp; (try with_reducible rfl)
    try simp only [Act.put, List.getElem_toArray, List.getElem_cons_succ, List.getElem_cons_zero, List.setIfInBounds_toArray, List.set_cons_zero, List.set_cons_succ]
    refine wpAnyH_done (by kernel_rfl) ?_ _
    refine NoPanic.normal ?_
    have HOA := Lib.hid oa
    clear oa
    go_wp2_with fail
    refine bodyPost_ret (v := .tuple #[.agg #[.slice vb vn vc, .slice sb sn sc], .bool ok]) (by simp [results, Tryz.results25, go_sem, k_0, k_1, k_f0, k_f1, n_0, n_1, n_f0, n_f1]) rfl ⟨_, rfl, ?_, ?_⟩
    · refine Own.mono (lo := wA.heap.size) (hi := wB.heap.size) ?_ (by omega) (by simp [World.setCell] <;> omega)
      repeat (refine Own.setOff ?_ rfl (by simp only []; omega))
      exact HOA.out
    · repeat (refine Below.setCell ?_ (by simp only []; omega) _)
      exact hbB

end Go.Proofs.YtkipgbgkhffkkaaGreat
