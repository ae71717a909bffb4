/- Texts joined for one claim: Copy, KQ, KTl, OAs, OT, ValidAn, ValidT, AccR, DedP, Eqs, KDb, OQ, OTl, RowMem, Sel, ValidQ, CompF. -/
import Derived.Test.YtkipgbgkhffkkaaQf5c84f8f36
import Derived.Deep.AppendSrc
import Derived.Deep.RegionHeld3
import Derived.Maps.AppendAt
import Derived.Shelf.SlSortCmp.Whole1
import Derived.Lib.SliceRun

/- Contracts: copies of rows and tables. -/
namespace Go.Proofs.Ytkipgbgkhffkkaa
open Go.RowKit Go.Sort
set_option linter.unusedVariables false
set_option linter.unusedSimpArgs false
set_option synthInstance.maxSize 2000
set_option synthInstance.maxHeartbeats 400000

theorem info_zero {e : TypeId} {z : Value} {size bytes : Nat} (h : (Try.prog.info? e).map (fun i => (i.zero, i.size, i.bytes)) = some (some z, size, bytes)) : ∃ i, Try.prog.info? e = some i ∧ i.zero = some z ∧ i.size = size ∧ i.bytes = bytes := info_parts h

/-- 'append([]int{}, xs...)', xs nil or not. -/
theorem wpList_copyI {W : World} {ops : Array Oper} {rest : List Oper} {o : Oper} {a : Act} {Q : Exit → Act → World → Prop}
    (s x : Operand) (g n c : Nat) (ad : Option Addr) (xs : List Int) (hg : W.heap.size = g) (hi : Ints (W.alloc (.cells #[] 3)) ad n xs) (hn : n ≤ 1000000000000)
    (hgd : o.guard = none) (ho : o.op = .call { callee := .builtin .append, args := #[s, x], argTypes := #[44, 44] })
    (hs : a.eval s = .slice (some ⟨g, 0, none⟩) 0 0) (hx : a.eval x = .slice ad n c)
    (h : ∀ v' w', OwnInts W.heap.size w' v' n xs → Below W.heap.size W w' → W.heap.size < w'.heap.size → wpList Try.prog ops Q rest (a.put o.dst v') w') :
    wpList Try.prog ops Q (o :: rest) a (W.alloc (.cells #[] 3)) := by
  subst hg
  obtain ⟨i, hi0, hz0, hz1, hz2⟩ := info_parts infoInt
  have hown := own_empty (Nat.le_refl W.heap.size)
  have hbl : Below W.heap.size W (W.alloc (.cells #[] 3)) := (Below.refl _ _).alloc (Nat.le_refl _) _
  cases ad with
  | none =>
    have hn0 : n = 0 := by
      rcases Nat.eq_zero_or_pos n with h0 | h0
      · exact h0
      · obtain ⟨b, off, hb, _⟩ := hi.cell 0 h0; simp at hb
    subst hn0
    have hx0 : xs = [] := List.eq_nil_of_length_eq_zero hi.len
    subst hx0
    refine wpList_plain hgd fun K hK => ?_
    have hr : (Builtin.append_ #[44, 44] o.type #[.slice (some ⟨W.heap.size, 0, none⟩) 0 0, .slice none 0 c]).run Try.prog (W.alloc (.cells #[] 3)) = .ok (.slice (some ⟨W.heap.size, 0, none⟩) 0 0) (W.alloc (.cells #[] 3)) := run_append_room_src (P := Try.prog) (W.alloc (.cells #[] 3)) 44 44 o.type 3 i Try.underlying44 hi0 W.heap.size 0 0 0 (.slice none 0 c) 0 [] (Src.ofNil _ Try.underlying44 c) (by omega) (by simp) (by simp)
    unfold Oper.wp execOp
    simp only [ho, resolve, invoke, builtin, Sem.run_bind, Sem.run_pure, Result.andThen_ok, List.map_toArray, List.map_cons, List.map_nil, hs, hx, hr]
    exact hK _ _ (h _ _ hown hbl (by simp))
  | some ad =>
    have hnews : ∀ j u, (xs.map (Value.int .i64))[j]? = some u → (W.alloc (.cells #[] 3)).cell? (ad.add j) = some u := by
      intro j u hu
      rw [List.getElem?_map] at hu
      have hj : j < n := by
        rw [← hi.len]
        rcases Nat.lt_or_ge j xs.length with h1 | h1
        · exact h1
        · rw [List.getElem?_eq_none h1] at hu; simp at hu
      obtain ⟨b, off, hb, hc⟩ := hi.cell j hj
      simp at hb
      subst hb
      rw [List.getD_eq_getElem?_getD] at hc
      rw [List.getElem?_eq_getElem (by rw [hi.len]; exact hj)] at hu hc
      simp at hu
      subst hu
      rw [Addr.add_lit]
      simpa using hc
    refine wpList_append_own _ hgd s x 44 ho W.heap.size 3 i (.int .i64 0) 1 8 Try.underlying44 hi0 hz0 hz1 hz2 rfl (by decide) _ 0 [] hs (by simpa using hown.row) ad n c (xs.map (Value.int .i64)) hx (by simp [hi.len]) hnews (by intro z hz; simp at hz; obtain ⟨y, _, rfl⟩ := hz; rfl) (by unfold maxLen; omega) (by omega) (by simp) ?_
    intro v' w' h1 h2 _
    refine h v' w' ⟨hi.len, by simpa using h1, hi.rng⟩ (hbl.grown h2 (by simp) (fun k hk => by simp [Value.ownBlock] at hk; omega)) ?_
    have := h2.size; simp at this; omega

theorem copyInts_any (v : Value) (xs : List Int) (w : World) (h : rI.rep w [v] xs) (hn : xs.length ≤ 100000000) :
    Calls Try.prog 92 #[v] w fun e w' => ∃ u, e = .returned u ∧ Own oI w.heap.size w'.heap.size w' [u] xs ∧ Below w.heap.size w w' := by
  obtain ⟨a, cap, rfl, _, _, hi⟩ := rI_open h
  have hi2 := hi.below ((Below.refl _ _).alloc (Nat.le_refl _) (.cells #[] 3))
  clear h
  go_enter Try.func92, Try.ntmps92
  go_wp2_with ((at_builtin; refine wpList_copyI _ _ _ _ _ _ xs rfl hi2 (by omega) rfl rfl rfl rfl ?_; intro v' w1 hown hb hsz))
  obtain ⟨a', cap', rfl, _⟩ := own_form hown.row
  go_wp2_with fail
  go_ret
  exact ⟨_, rfl, hown.own, hb⟩

theorem infoI : (Try.prog.info? 44).map (fun i => (i.zero, i.size, i.bytes)) = some (some (.slice none 0 0), 1, 24) := by kernel_rfl

set_option maxHeartbeats 1000000 in
theorem copyRows_any (v : Value) (xss : List (List Int)) (w : World) (h : rII.rep w [v] xss) (hn : bulk_II xss ≤ 100000000) :
    Calls Try.prog 132 #[v] w fun e w' => ∃ u, e = .returned u ∧ Own oII w.heap.size w'.heap.size w' [u] xss ∧ Below w.heap.size w w' := by
  obtain ⟨a, cap, rfl, _, _, t0⟩ := rS_open h
  clear h
  obtain ⟨n, hl⟩ : ∃ n, xss.length = n := ⟨_, rfl⟩
  rw [hl] at t0 ⊢
  have hn1 : n ≤ 100000000 := by unfold bulk_II at hn; omega
  have hrows : ∀ (j : Nat) (r : List Int), xss[j]? = some r → r.length ≤ 100000000 := fun j r hr => by
    have h9 := sumBy_mem bulk_I hr; unfold bulk_II at hn; unfold bulk_I at h9 hn; omega
  have HR := Lib.hid hrows
  clear hn hrows
  have hb0 : Below w.heap.size w w := Below.refl _ _
  go_enter Try.func132, Try.ntmps132
  obtain ⟨w1, hw1⟩ : ∃ W, W = w.alloc (.cells #[] 44) := ⟨_, rfl⟩
  have z1 : Below w.heap.size w w1 := by rw [hw1]; exact (Below.refl _ _).alloc (Nat.le_refl _) _
  have s1 : w1.heap.size = w.heap.size + 1 := by rw [hw1]; simp
  have hb1 := on hb0 z1
  have ho : ∀ S, Acc 44 oI w.heap.size S w1.heap.size w1 (.slice (some ⟨w.heap.size, 0, none⟩) 0 0) [] := fun S => by rw [hw1]; exact Acc.empty (by omega) (by first | (simp; done) | (simp; omega))
  go_wp2_with fail
  rw [← hw1]
  clear hw1
  go_loopw [3, 9] (fun v k wr => ∃ j : Nat, j ≤ n ∧ k = .int .i64 j ∧ Acc 44 oI w.heap.size w1.heap.size wr.heap.size wr v (xss.take j) ∧ Turn w.heap.size (w.heap.size + 1) w1 wr) (fun _ k _ => n - (intOf k).toNat)
  case atStart => exact ⟨0, Nat.zero_le _, rfl, by rw [List.take_zero]; exact (ho _).wide (Nat.le_refl _) (by omega), turn_refl _ _ _⟩
  case round =>
    obtain ⟨j, hj, rfl, hacc, hdr⟩ := hrel
    have hlc := hdr
    have hE0 : w1.heap.size = w.heap.size + 1 := by omega
    clear ho
    have s2 := hdr.size
    have hb2 := hb1.trans ((hdr.below (by omega)).mono (by omega))
    have hlen : (xss.take j).length ≤ j := List.length_take_le _ _
    by_cases hlt : j < n
    · obtain ⟨b0, o0, r1, m1, q1, x, rfl, hc, hx, hi, hq1, hq2⟩ := t0.row hlt
      have hclt : b0 < w.heap.size := cell_lt hc
      have c0 : wr.cell? ⟨b0, o0 + j, none⟩ = some (.slice r1 m1 q1) := (hb2.cell (p := ⟨b0, o0 + j, none⟩) hclt).trans hc
      have hrep : rI.rep w [.slice r1 m1 q1] x := rI_mk hi hq1 hq2
      have HT := Lib.hid (take_snoc' xss j x hx.out)
      have hxl := HR.out j x hx.out
      clear hc hx hi t0 hl hE0
      go_wp2_with fail
      refine (copyInts_any _ x _ (rI.mono hrep hb2) hxl).mono ?_
      rintro e w8 ⟨u, rfl, oy, z8⟩
      obtain ⟨ab, nb, cb, rfl⟩ := oI_form1 oy
      have s3 := z8.size
      have hb3 := on hb2 z8
      replace hlc := hlc.trans (turn_below z8 (Nat.le_refl _))
      replace hacc := hacc.below z8 (by omega)
      replace c0 := (z8.cell (p := ⟨b0, o0 + j, none⟩) (by simp only []; omega)).trans c0
      have hone : ∀ z ∈ [Value.slice ab nb cb], z.oneCell' = true := by intro z hz; simp at hz; subst hz; rfl
      go_wp2_with ((at_builtin; refine wpList_acc Try.underlying52 infoI rfl (by decide) (by decide) rfl _ _ _ _ [.slice ab nb cb] x hacc oy hone (by omega) (by omega) (by omega) (by omega) hlc rfl (by omega) (by omega) rfl rfl rfl rfl rfl ?_; intro v' w1 hacc' ht' hsz'))
      rw [← HT.out] at hacc'
      go_roundw
      case rel => exact ⟨j + 1, by omega, by go_num, hacc', ht'⟩
      case measure => simp [intOf]; omega
    · obtain rfl : j = n := by omega
      obtain ⟨a', n', cap2, rfl⟩ := hacc.form3
      rw [List.take_of_length_le (by omega)] at hacc
      have HO := Lib.hid (hacc.own (B := w.heap.size) (hi' := wr.heap.size) (by omega) (by omega) (by omega))
      clear hacc t0 hl
      go_wp2_with fail
      go_ret
      exact ⟨_, rfl, HO.out, hb2⟩

set_option maxHeartbeats 1000000 in
theorem copyTable_any (cs : List Value) (x : DT) (w : World) (h : rT.rep w cs x) (hn : bulk_T x ≤ 100000000) :
    Calls Try.prog 168 #[.agg cs.toArray] w fun e w' => ∃ ds, e = .returned (.agg ds.toArray) ∧ Own oT w.heap.size w'.heap.size w' ds x ∧ Below w.heap.size w w' := by
  obtain ⟨ub, un, uc, rfl, hs, hi, g1⟩ := rT_open h
  clear h
  obtain ⟨s, i, rows⟩ := x
  simp only at hs hi g1
  have hn2 : bulk_II rows ≤ 100000000 := by unfold bulk_T at hn; simp only at hn; omega
  clear hn
  have hb0 : Below w.heap.size w w := Below.refl _ _
  go_enter Try.func168, Try.ntmps168
  obtain ⟨w1, hw1⟩ : ∃ W, W = w.alloc (.cells #[.string s, .int .i64 i, .slice ub un uc] 54) := ⟨_, rfl⟩
  have z1 : Below w.heap.size w w1 := by rw [hw1]; exact (Below.refl _ _).alloc (Nat.le_refl _) _
  have s1 : w1.heap.size = w.heap.size + 1 := by rw [hw1]; simp
  have hb1 := on hb0 z1
  have b_0 : w1.cell? ⟨w.heap.size, 0, none⟩ = some (.string s) := by rw [hw1]; exact box_cell (Below.refl _ _) rfl
  have b_1 : w1.cell? ⟨w.heap.size, 1, none⟩ = some (.int .i64 i) := by rw [hw1]; exact box_cell (Below.refl _ _) rfl
  have b_2 : w1.cell? ⟨w.heap.size, 2, none⟩ = some (.slice ub un uc) := by rw [hw1]; exact box_cell (Below.refl _ _) rfl
  have b_f0 : w1.frozen? ⟨w.heap.size, 0, none⟩ = false := by rw [hw1]; exact box_frozen (Below.refl _ _)
  have b_f1 : w1.frozen? ⟨w.heap.size, 1, none⟩ = false := by rw [hw1]; exact box_frozen (Below.refl _ _)
  have b_f2 : w1.frozen? ⟨w.heap.size, 2, none⟩ = false := by rw [hw1]; exact box_frozen (Below.refl _ _)
  have raw1_b_0 := b_0
  have raw1_b_1 := b_1
  have raw1_b_2 := b_2
  rw [hw1] at raw1_b_0 raw1_b_1 raw1_b_2
  obtain ⟨w2, hw2⟩ : ∃ W, W = w1.alloc (.cells #[.string ⟨#[]⟩, .int .i64 0, .slice none 0 0] 54) := ⟨_, rfl⟩
  have z2 : Below w1.heap.size w1 w2 := by rw [hw2]; exact (Below.refl _ _).alloc (Nat.le_refl _) _
  have s2 : w2.heap.size = w1.heap.size + 1 := by rw [hw2]; simp
  have hb2 := on hb1 z2
  replace b_0 := (z2.cell (p := ⟨w.heap.size, 0, none⟩) (by simp only []; omega)).trans b_0
  replace b_1 := (z2.cell (p := ⟨w.heap.size, 1, none⟩) (by simp only []; omega)).trans b_1
  replace b_2 := (z2.cell (p := ⟨w.heap.size, 2, none⟩) (by simp only []; omega)).trans b_2
  replace b_f0 := (z2.frozen (p := ⟨w.heap.size, 0, none⟩) (by simp only []; omega)).trans b_f0
  replace b_f1 := (z2.frozen (p := ⟨w.heap.size, 1, none⟩) (by simp only []; omega)).trans b_f1
  replace b_f2 := (z2.frozen (p := ⟨w.heap.size, 2, none⟩) (by simp only []; omega)).trans b_f2
  have e2 : w1.heap.size = w.heap.size + 1 := by omega
  have r_0 : w2.cell? ⟨w1.heap.size, 0, none⟩ = some (.string ⟨#[]⟩) := by rw [hw2]; exact box_cell (Below.refl _ _) rfl
  have r_1 : w2.cell? ⟨w1.heap.size, 1, none⟩ = some (.int .i64 0) := by rw [hw2]; exact box_cell (Below.refl _ _) rfl
  have r_2 : w2.cell? ⟨w1.heap.size, 2, none⟩ = some (.slice none 0 0) := by rw [hw2]; exact box_cell (Below.refl _ _) rfl
  rw [e2] at r_0 r_1 r_2
  have r_f0 : w2.frozen? ⟨w1.heap.size, 0, none⟩ = false := by rw [hw2]; exact box_frozen (Below.refl _ _)
  have r_f1 : w2.frozen? ⟨w1.heap.size, 1, none⟩ = false := by rw [hw2]; exact box_frozen (Below.refl _ _)
  have r_f2 : w2.frozen? ⟨w1.heap.size, 2, none⟩ = false := by rw [hw2]; exact box_frozen (Below.refl _ _)
  rw [e2] at r_f0 r_f1 r_f2
  have raw2_b_0 := b_0
  have raw2_b_1 := b_1
  have raw2_b_2 := b_2
  have raw2_r_0 := r_0
  have raw2_r_1 := r_1
  have raw2_r_2 := r_2
  rw [hw2, hw1] at raw2_b_0 raw2_b_1 raw2_b_2 raw2_r_0 raw2_r_1 raw2_r_2
  go_wp2_with fail
  rw [← hw1]
  rw [← hw2]
  clear hw2 hw1
  clear raw1_b_0 raw1_b_1 raw1_b_2 raw2_b_0 raw2_b_1 raw2_b_2 raw2_r_0 raw2_r_1 raw2_r_2
  refine (copyRows_any _ rows _ (rII.mono g1 hb2) hn2).mono ?_
  rintro e w9 ⟨u, rfl, ho, z9⟩
  obtain ⟨ab, nb, cb, rfl⟩ := oII_form1 ho
  have s3 := z9.size
  have hb3 := on hb2 z9
  replace b_0 := (z9.cell (p := ⟨w.heap.size, 0, none⟩) (by simp only []; omega)).trans b_0
  replace b_1 := (z9.cell (p := ⟨w.heap.size, 1, none⟩) (by simp only []; omega)).trans b_1
  replace b_2 := (z9.cell (p := ⟨w.heap.size, 2, none⟩) (by simp only []; omega)).trans b_2
  replace b_f0 := (z9.frozen (p := ⟨w.heap.size, 0, none⟩) (by simp only []; omega)).trans b_f0
  replace b_f1 := (z9.frozen (p := ⟨w.heap.size, 1, none⟩) (by simp only []; omega)).trans b_f1
  replace b_f2 := (z9.frozen (p := ⟨w.heap.size, 2, none⟩) (by simp only []; omega)).trans b_f2
  replace r_0 := (z9.cell (p := ⟨w.heap.size + 1, 0, none⟩) (by simp only []; omega)).trans r_0
  replace r_1 := (z9.cell (p := ⟨w.heap.size + 1, 1, none⟩) (by simp only []; omega)).trans r_1
  replace r_2 := (z9.cell (p := ⟨w.heap.size + 1, 2, none⟩) (by simp only []; omega)).trans r_2
  replace r_f0 := (z9.frozen (p := ⟨w.heap.size + 1, 0, none⟩) (by simp only []; omega)).trans r_f0
  replace r_f1 := (z9.frozen (p := ⟨w.heap.size + 1, 1, none⟩) (by simp only []; omega)).trans r_f1
  replace r_f2 := (z9.frozen (p := ⟨w.heap.size + 1, 2, none⟩) (by simp only []; omega)).trans r_f2
  go_wp2_with fail
  refine bodyPost_ret (v := .agg #[.string s, .int .i64 i, .slice ab nb cb]) (by simp [results, Try.results168, go_sem, b_0, b_1, b_2, r_0, r_1, r_2, b_f0, b_f1, b_f2, r_f0, r_f1, r_f2]) rfl ⟨_, rfl, ?_, ?_⟩
  · refine oT_mk (x := (s, i, rows)) hs hi (l2 := w2.heap.size) (m2 := w9.heap.size) ?_ (by omega) (by simp [World.setCell])
    repeat (refine Own.setOut ?_ rfl (by simp only []; omega))
    exact ho
  · repeat (refine Below.setCell ?_ (by simp only []; omega) _)
    exact hb3

end Go.Proofs.Ytkipgbgkhffkkaa

/- Kind Q: shape, size, copy, comparison. Written by a program. -/
namespace Go.Proofs.Ytkipgbgkhffkkaa
open Go.RowKit
set_option linter.unusedVariables false
set_option linter.unusedSimpArgs false
set_option synthInstance.maxSize 2000
set_option synthInstance.maxHeartbeats 400000

abbrev DQ := Int × List DA
def rQ : RS DQ := R.pair R.int rAs
def oQ : OS DQ := O.pair O.int oAs
theorem reads_Q : Reads oQ rQ := Reads.pair Reads.int reads_As
theorem rQ_open {w : World} {cs : List Value} {x : DQ} (h : rQ.rep w cs x) : ∃ ub1 un1 uc1, cs = [.int .i64 x.1, .slice ub1 un1 uc1] ∧ I64 x.1 ∧ rAs.rep w [.slice ub1 un1 uc1] x.2 := by
  obtain ⟨c0a, c0b, rfl, ⟨rfl, hi0⟩, hr1⟩ := h
  obtain ⟨ub1, un1, uc1, rfl⟩ := rAs_form hr1
  exact ⟨_, _, _, rfl, hi0, hr1⟩
theorem rQ_form {w : World} {cs : List Value} {x : DQ} (h : rQ.rep w cs x) : ∃ ub1 un1 uc1, cs = [.int .i64 x.1, .slice ub1 un1 uc1] := by
  obtain ⟨ub1, un1, uc1, h1, _⟩ := rQ_open h
  exact ⟨_, _, _, h1⟩
theorem rQ_mk {w : World} {ub1 : Option Addr} {un1 uc1 : Nat} {x : DQ} (h0 : I64 x.1) (h1 : rAs.rep w [.slice ub1 un1 uc1] x.2) : rQ.rep w [.int .i64 x.1, .slice ub1 un1 uc1] x :=
  ⟨[.int .i64 x.1], [.slice ub1 un1 uc1], rfl, ⟨rfl, h0⟩, h1⟩
theorem oQ_form {lo hi : Nat} {w : World} {cs : List Value} {x : DQ} (h : Own oQ lo hi w cs x) : ∃ ub1 un1 uc1, cs = [.int .i64 x.1, .slice ub1 un1 uc1] := rQ_form (h.rd reads_Q)

theorem oQ_mk {lo hi l1 m1 : Nat} {w : World} {ub1 : Option Addr} {un1 uc1 : Nat} {x : DQ} (hi0 : I64 x.1) (ho1 : Own oAs l1 m1 w [.slice ub1 un1 uc1] x.2) (a1 : lo ≤ l1) (b1 : m1 ≤ hi)  : Own oQ lo hi w [.int .i64 x.1, .slice ub1 un1 uc1] x := by
  obtain ⟨f1, r1, n1, q1⟩ := ho1
  refine ⟨([] ++ f1), ⟨[.int .i64 x.1], [.slice ub1 un1 uc1], [], f1, rfl, rfl, ⟨rfl, hi0, rfl⟩, r1⟩, ?_, ?_⟩
  · try simp only [List.nil_append, List.append_nil]
    exact n1
  · intro p hp
    try simp only [List.nil_append, List.append_nil, List.mem_append] at hp
    have := q1 p hp; omega

def bulk_Q (x : DQ) : Nat := bulk_As x.2

set_option maxHeartbeats 1000000 in
theorem sz_Q (cs : List Value) (x : DQ) (left : Int) (w : World) (h : rQ.rep w cs x) (h0 : 0 ≤ left) (h1 : left ≤ 1048576) :
    Calls Try.prog 8 #[.agg cs.toArray, .int .i64 left] w fun e w' => e = .returned (.int .i64 (szR left (bulk_Q x))) ∧ Below w.heap.size w w' := by
  obtain ⟨ub1, un1, uc1, rfl, g0, g1⟩ := rQ_open h
  clear h
  have HE0 : Hid (szR left (bulk_Q x) = szR left (bulk_As x.2)) := rfl
  go_enter Try.func8, Try.ntmps8
  obtain ⟨w1, hw1⟩ : ∃ W, W = w.alloc (.cells #[.int .i64 x.1, .slice ub1 un1 uc1] 27) := ⟨_, rfl⟩
  have z1 : Below w.heap.size w w1 := by rw [hw1]; exact (Below.refl _ _).alloc (Nat.le_refl _) _
  have s1 : w1.heap.size = w.heap.size + 1 := by rw [hw1]; simp
  have bp_0 : w1.cell? ⟨w.heap.size, 0, none⟩ = some (.int .i64 x.1) := by rw [hw1]; exact box_cell (Below.refl _ _) rfl
  have bp_1 : w1.cell? ⟨w.heap.size, 1, none⟩ = some (.slice ub1 un1 uc1) := by rw [hw1]; exact box_cell (Below.refl _ _) rfl
  have hb1 := z1
  go_wp2_with fail
  rw [← hw1]
  clear hw1
  refine (sz_As _ (x.2) _ _ (rAs.mono g1 hb1) (by omega) (by omega)).mono ?_
  rintro e w2 ⟨rfl, z2⟩
  have s2 := z2.size
  have hb2 := on hb1 z2
  replace bp_0 := (z2.cell (p := ⟨w.heap.size, 0, none⟩) (by simp only []; omega)).trans bp_0
  replace bp_1 := (z2.cell (p := ⟨w.heap.size, 1, none⟩) (by simp only []; omega)).trans bp_1
  obtain ⟨q1, hq1⟩ : ∃ q, q = szR left (bulk_As (x.2)) := ⟨_, rfl⟩
  rw [← hq1]
  have hc1 := szR_cases left (bulk_As (x.2))
  rw [← hq1] at hc1
  clear hq1
  rcases hc1 with ⟨rfl, l1⟩ | ⟨hq1, l1⟩
  · have HE := Lib.hid (HE0.out.trans (szR_no0 l1))
    clear l1
    go_wp2_with fail
    go_ret
    exact ⟨ret_int HE.out.symm, hb2⟩
  have HE1 := Lib.hid (HE0.out.trans ((szR_yes l1).trans (by rw [hq1])) : szR left (bulk_Q x) = q1)
  have p1 : 0 ≤ q1 := by omega
  have p1b : q1 ≤ 1048576 := by omega
  clear hq1 l1
  go_wp2_with fail
  go_ret
  exact ⟨ret_int HE1.out.symm, hb2⟩

set_option maxHeartbeats 2000000 in
theorem to_Q (cs : List Value) (x : DQ) (w : World) (h : rQ.rep w cs x) (hn : bulk_Q x ≤ 1048576) :
    Calls Try.prog 11 #[.agg cs.toArray] w fun e w' => ∃ us, e = .returned (.agg us.toArray) ∧ Own oQ w.heap.size w'.heap.size w' us x ∧ Below w.heap.size w w' := by
  obtain ⟨ub1, un1, uc1, rfl, g0, g1⟩ := rQ_open h
  clear h
  unfold bulk_Q at hn
  have hn1 : bulk_As (x.2) ≤ 1048576 := by omega
  clear hn
  go_enter Try.func11, Try.ntmps11
  obtain ⟨W0, hW0⟩ : ∃ W, W = ((w.alloc (.cells #[.int .i64 x.1, .slice ub1 un1 uc1] 27)).alloc (.cells #[.int .i64 0, .slice none 0 0] 37)).alloc (.cells #[.int .i64 x.1, .slice none 0 0] 37) := ⟨_, rfl⟩
  have hB0 : Below w.heap.size w W0 := by rw [hW0]; exact (((Below.refl _ _).alloc (Nat.le_refl _) _).alloc (by simp) _).alloc (by simp <;> omega) _
  have t0 : W0.heap.size = w.heap.size + 1 + 1 + 1 := by rw [hW0]; simp
  have bp_0 : W0.cell? ⟨w.heap.size, 0, none⟩ = some (.int .i64 x.1) := by rw [hW0]; simp [go_sem, World.cell?_alloc_past]
  have bp_1 : W0.cell? ⟨w.heap.size, 1, none⟩ = some (.slice ub1 un1 uc1) := by rw [hW0]; simp [go_sem, World.cell?_alloc_past]
  have br_0 : W0.cell? ⟨w.heap.size + 1, 0, none⟩ = some (.int .i64 0) := by rw [hW0]; simp [go_sem, World.cell?_alloc_past]
  have fr_0 : W0.frozen? ⟨w.heap.size + 1, 0, none⟩ = false := by rw [hW0]; simp [go_sem, World.frozen?_alloc_past]
  have br_1 : W0.cell? ⟨w.heap.size + 1, 1, none⟩ = some (.slice none 0 0) := by rw [hW0]; simp [go_sem, World.cell?_alloc_past]
  have fr_1 : W0.frozen? ⟨w.heap.size + 1, 1, none⟩ = false := by rw [hW0]; simp [go_sem, World.frozen?_alloc_past]
  have bo_0 : W0.cell? ⟨w.heap.size + 1 + 1, 0, none⟩ = some (.int .i64 x.1) := by rw [hW0]; simp [go_sem, World.cell?_alloc_past]
  have fo_0 : W0.frozen? ⟨w.heap.size + 1 + 1, 0, none⟩ = false := by rw [hW0]; simp [go_sem, World.frozen?_alloc_past]
  have bo_1 : W0.cell? ⟨w.heap.size + 1 + 1, 1, none⟩ = some (.slice none 0 0) := by rw [hW0]; simp [go_sem, World.cell?_alloc_past]
  have fo_1 : W0.frozen? ⟨w.heap.size + 1 + 1, 1, none⟩ = false := by rw [hW0]; simp [go_sem, World.frozen?_alloc_past]
  go_wp2_with fail
  rw [← hW0]
  clear hW0
  refine (to_As _ (x.2) _ (rAs.mono g1 hB0) hn1).mono ?_
  rintro e w1 ⟨a1, rfl, ho1, z1⟩
  have s1 := z1.size
  obtain ⟨ab1, an1, ac1, rfl⟩ := oAs_form1 ho1
  have q1 := on hB0 z1
  replace bp_0 := (z1.cell (p := ⟨w.heap.size, 0, none⟩) (by simp only []; omega)).trans bp_0
  replace bp_1 := (z1.cell (p := ⟨w.heap.size, 1, none⟩) (by simp only []; omega)).trans bp_1
  replace br_0 := (z1.cell (p := ⟨w.heap.size + 1, 0, none⟩) (by simp only []; omega)).trans br_0
  replace fr_0 := (z1.frozen (p := ⟨w.heap.size + 1, 0, none⟩) (by simp only []; omega)).trans fr_0
  replace br_1 := (z1.cell (p := ⟨w.heap.size + 1, 1, none⟩) (by simp only []; omega)).trans br_1
  replace fr_1 := (z1.frozen (p := ⟨w.heap.size + 1, 1, none⟩) (by simp only []; omega)).trans fr_1
  replace bo_0 := (z1.cell (p := ⟨w.heap.size + 1 + 1, 0, none⟩) (by simp only []; omega)).trans bo_0
  replace fo_0 := (z1.frozen (p := ⟨w.heap.size + 1 + 1, 0, none⟩) (by simp only []; omega)).trans fo_0
  replace bo_1 := (z1.cell (p := ⟨w.heap.size + 1 + 1, 1, none⟩) (by simp only []; omega)).trans bo_1
  replace fo_1 := (z1.frozen (p := ⟨w.heap.size + 1 + 1, 1, none⟩) (by simp only []; omega)).trans fo_1
  go_wp2_with fail
  refine bodyPost_ret (v := .agg #[.int .i64 x.1, .slice ab1 an1 ac1]) (by simp [results, Try.results11, go_sem, br_0, br_1, bo_0, bo_1, fr_0, fr_1, fo_0, fo_1]) rfl ⟨_, rfl, ?_, ?_⟩
  · skip
    have hS1 : ∀ (W : World) (p : Addr) (u : Value), p.block < w.heap.size + 1 + 1 + 1 → Own oAs W0.heap.size w1.heap.size W [.slice ab1 an1 ac1] (x.2) → Own oAs W0.heap.size w1.heap.size (W.setCell p u) [.slice ab1 an1 ac1] (x.2) := fun W p u hp k9 => k9.setOut rfl (by omega)
    exact oQ_mk g0 (hS1 _ _ _ (by simp <;> omega) (hS1 _ _ _ (by simp <;> omega) (hS1 _ _ _ (by simp <;> omega) ho1))) (by omega) (by simp [World.setCell] <;> omega) 
  · exact (((q1.setCell (by simp <;> omega) _).setCell (by simp <;> omega) _).setCell (by simp <;> omega) _)

set_option maxHeartbeats 2000000 in
theorem eq_Q (cs ds : List Value) (x y : DQ) (w : World) (h : rQ.rep w cs x) (h' : rQ.rep w ds y) :
    Calls Try.prog 14 #[.agg cs.toArray, .agg ds.toArray] w fun e w' => e = .returned (.bool (decide (x = y))) ∧ Below w.heap.size w w' := by
  obtain ⟨ub1, un1, uc1, rfl, g0, g1⟩ := rQ_open h
  obtain ⟨vb1, vn1, vc1, rfl, k0, k1⟩ := rQ_open h'
  clear h h'
  have hb1 : Below w.heap.size w ((w.alloc (.cells #[.int .i64 x.1, .slice ub1 un1 uc1] 37)).alloc (.cells #[.int .i64 y.1, .slice vb1 vn1 vc1] 37)) := ((Below.refl _ _).alloc (Nat.le_refl _) _).alloc (by simp) _
  go_enter Try.func14, Try.ntmps14
  obtain ⟨w1, hw1⟩ : ∃ W, W = (w.alloc (.cells #[.int .i64 x.1, .slice ub1 un1 uc1] 37)).alloc (.cells #[.int .i64 y.1, .slice vb1 vn1 vc1] 37) := ⟨_, rfl⟩
  have s1 : w1.heap.size = w.heap.size + 1 + 1 := by rw [hw1]; simp
  rw [← hw1] at hb1
  have bc_0 : w1.cell? ⟨w.heap.size, 0, none⟩ = some (.int .i64 x.1) := by rw [hw1]; simp [go_sem, World.cell?_alloc_past]
  have bd_0 : w1.cell? ⟨w.heap.size + 1, 0, none⟩ = some (.int .i64 y.1) := by rw [hw1]; simp [go_sem, World.cell?_alloc_past]
  have bc_1 : w1.cell? ⟨w.heap.size, 1, none⟩ = some (.slice ub1 un1 uc1) := by rw [hw1]; simp [go_sem, World.cell?_alloc_past]
  have bd_1 : w1.cell? ⟨w.heap.size + 1, 1, none⟩ = some (.slice vb1 vn1 vc1) := by rw [hw1]; simp [go_sem, World.cell?_alloc_past]
  by_cases e0 : x.1 = y.1
  case neg =>
    have HE := Lib.hid (show decide (x = y) = false by simp only [decide_eq_false_iff_not]; intro h9; exact e0 (by rw [h9]))
    have hne := bne_iff_ne.2 e0
    clear e0
    go_wp2_with fail
    go_ret
    exact ⟨ret_bool HE.out.symm, by first | exact hb1 | (rw [hw1] at hb1; exact hb1)⟩
  have E0 := Lib.hid e0
  have hq0 : (x.1 != y.1) = false := by rw [e0]; simp
  clear e0
  go_wp2_with fail
  rw [← hw1]
  clear hw1
  refine (eq_As _ _ (x.2) (y.2) _ (rAs.mono g1 hb1) (rAs.mono k1 hb1)).mono ?_
  rintro e w2 ⟨rfl, z2⟩
  have s2 := z2.size
  have hb2 := on hb1 z2
  replace bc_0 := (z2.cell (p := ⟨w.heap.size, 0, none⟩) (by simp only []; omega)).trans bc_0
  replace bd_0 := (z2.cell (p := ⟨w.heap.size + 1, 0, none⟩) (by simp only []; omega)).trans bd_0
  replace bc_1 := (z2.cell (p := ⟨w.heap.size, 1, none⟩) (by simp only []; omega)).trans bc_1
  replace bd_1 := (z2.cell (p := ⟨w.heap.size + 1, 1, none⟩) (by simp only []; omega)).trans bd_1
  by_cases e1 : x.2 = y.2
  case neg =>
    have HE := Lib.hid (show decide (x = y) = false by simp only [decide_eq_false_iff_not]; intro h9; exact e1 (by rw [h9]))
    have hne : decide (x.2 = y.2) = false := by simpa using e1
    rw [hne]
    clear e1 hne
    go_wp2_with fail
    go_ret
    exact ⟨ret_bool HE.out.symm, hb2⟩
  have E1 := Lib.hid e1
  have hq1 : decide (x.2 = y.2) = true := by simpa using e1
  rw [hq1]
  clear e1 hq1
  have HE := Lib.hid (show decide (x = y) = true by simp only [decide_eq_true_eq]; exact Prod.ext E0.out (E1.out))
  go_wp2_with fail
  go_ret
  exact ⟨ret_bool HE.out.symm, hb2⟩

end Go.Proofs.Ytkipgbgkhffkkaa

/- Kind Tl: shape, size, copy, comparison. Written by a program. -/
namespace Go.Proofs.Ytkipgbgkhffkkaa
open Go.RowKit
set_option linter.unusedVariables false
set_option linter.unusedSimpArgs false
set_option synthInstance.maxSize 2000
set_option synthInstance.maxHeartbeats 400000

def rTl : RS (List DT) := R.slice rT
def oTl : OS (List DT) := O.slice 54 oT
theorem reads_Tl : Reads oTl rTl := Reads.slice _ reads_T
theorem rTl_form {w : World} {cs : List Value} {xs : List DT} (h : rTl.rep w cs xs) : ∃ b n c, cs = [.slice b n c] := rS_form h
theorem oTl_form1 {lo hi : Nat} {w : World} {v : Value} {xs : List DT} (h : Own oTl lo hi w [v] xs) : ∃ b n c, v = .slice b n c := oS_form1 reads_T h
def bulk_Tl (xs : List DT) : Nat := xs.length + sumBy bulk_T xs

set_option maxHeartbeats 1000000 in
theorem sz_Tl (v : Value) (xs : List DT) (left : Int) (w : World) (h : rTl.rep w [v] xs) (h0 : 0 ≤ left) (h1 : left ≤ 1048576) :
    Calls Try.prog 57 #[v, .int .i64 left] w fun e w' => e = .returned (.int .i64 (szR left (bulk_Tl xs))) ∧ Below w.heap.size w w' := by
  obtain ⟨a, cap, rfl, hn1, hn2, hi⟩ := rS_open h
  clear h
  unfold bulk_Tl
  have hsm := hi.small
  obtain ⟨n, hlen⟩ : ∃ n, xs.length = n := ⟨_, rfl⟩
  rw [hlen] at hi hsm hn1 ⊢
  by_cases hl : (n : Int) ≤ left
  case neg =>
    have HE := Lib.hid (szR_no (sumBy bulk_T xs) hl)
    clear hi
    go_enter Try.func57, Try.ntmps57
    go_wp2_with fail
    go_ret
    exact ⟨ret_int HE.out.symm, Below.refl _ _⟩
  have HE := Lib.hid (szR_add (b := sumBy bulk_T xs) hl)
  go_enter Try.func57, Try.ntmps57
  go_wp2_with fail
  go_loopw [1, 5] (fun l i wr => ∃ (j : Nat) (q : Int), j ≤ n ∧ i = .int .i64 j ∧ l = .int .i64 q ∧ 0 ≤ q ∧ q ≤ 1048576 ∧ Hid (szR left (n + sumBy bulk_T xs) = szR q (sumBy bulk_T (xs.drop j))) ∧ Below w.heap.size w wr) (fun _ i _ => n - (intOf i).toNat)
  case atStart => exact ⟨0, left - n, Nat.zero_le _, rfl, rfl, by omega, by omega, HE.out, Below.refl _ _⟩
  case round =>
    obtain ⟨j, q, hj, rfl, rfl, q0, q1, hE, hb⟩ := hrel
    clear HE
    by_cases hlt : j < n
    · obtain ⟨b, off, cs, x, rfl, hx, hr, hc⟩ := (hi.below hb).at hlt
      obtain ⟨ub2, un2, uc2, rfl⟩ := rT_form hr
      have c0 : wr.cell? ⟨b, off + j * 3, none⟩ = some (.string x.1) := by have h9 := hc 0 _ rfl; rw [← Nat.add_assoc] at h9; exact h9
      have c1 : wr.cell? ⟨b, off + j * 3 + 1, none⟩ = some (.int .i64 x.2.1) := by have h9 := hc 1 _ rfl; rw [← Nat.add_assoc] at h9; exact h9
      have c2 : wr.cell? ⟨b, off + j * 3 + 2, none⟩ = some (.slice ub2 un2 uc2) := by have h9 := hc 2 _ rfl; rw [← Nat.add_assoc] at h9; exact h9
      clear hc
      have HS := hE.out.trans (congrArg (szR q) (sumBy_drop bulk_T hx.out))
      have hcs := szR_cases q (bulk_T x)
      have hcall := sz_T _ x q wr hr q0 q1
      obtain ⟨p, hp⟩ : ∃ p, p = szR q (bulk_T x) := ⟨_, rfl⟩
      rw [← hp] at hcall hcs
      have HC := Lib.hid hcall
      clear hcall hi
      rcases hcs with ⟨rfl, l⟩ | ⟨hp2, l⟩
      · have HE := Lib.hid (HS.trans (szR_no _ l))
        clear hp HS l hE
        go_wp2_with fail
        refine HC.out.mono ?_
        rintro e w1 ⟨rfl, z1⟩
        go_wp2_with fail
        go_ret
        exact ⟨ret_int HE.out.symm, on hb z1⟩
      · have HE := Lib.hid (HS.trans ((szR_add l).trans (by rw [← hp2])) : szR left (n + sumBy bulk_T xs) = szR p (sumBy bulk_T (xs.drop (j + 1))))
        have p0 : 0 ≤ p := by omega
        have p1 : p ≤ 1048576 := by omega
        clear hp hp2 HS l hE
        go_wp2_with fail
        refine HC.out.mono ?_
        rintro e w1 ⟨rfl, z1⟩
        go_wp2_with fail
        go_roundw
        case rel => exact ⟨j + 1, p, by omega, by go_num, rfl, p0, p1, HE, on hb z1⟩
        case measure => simp [intOf]; omega
    · have HE := Lib.hid (hE.out.trans (by rw [sumBy_end _ (by omega)]; unfold szR; rw [if_pos (by omega)]; simp) : szR left (n + sumBy bulk_T xs) = q)
      clear hi hE
      go_wp2_with fail
      go_ret
      exact ⟨ret_int HE.out.symm, hb⟩

set_option maxHeartbeats 2000000 in
set_option maxRecDepth 100000 in
theorem to_Tl (v : Value) (xs : List DT) (w : World) (h : rTl.rep w [v] xs) (hn : bulk_Tl xs ≤ 1048576) :
    Calls Try.prog 60 #[v] w fun e w' => ∃ u, e = .returned u ∧ Own oTl w.heap.size w'.heap.size w' [u] xs ∧ Below w.heap.size w w' := by
  obtain ⟨a, cap, rfl, hn1, hn2, hi⟩ := rS_open h
  clear h
  unfold bulk_Tl at hn
  obtain ⟨n, hlen⟩ : ∃ n, xs.length = n := ⟨_, rfl⟩
  rw [hlen] at hi hn hn1 ⊢
  have hbk : ∀ (j : Nat) x, xs[j]? = some x → bulk_T x ≤ 1048576 := fun j x hx => by have := sumBy_mem bulk_T hx; omega
  have hn3 : n ≤ 100000000 := by omega
  clear hn
  go_enter Try.func60, Try.ntmps60
  go_wp2_with (at_make; refine wpList_mkS (size := 3) (bytes := 48) (z := .agg #[.string ⟨#[]⟩, .int .i64 0, .slice none 0 0]) rfl rfl rfl (by decide) (by decide) oT xs _ _ n hn3 rfl rfl rfl rfl ?_; intro w1 hp1 hb1 hz1)
  go_wp2_with fail
  go_loopw [4] (fun k wr => ∃ j : Nat, j ≤ n ∧ k = .int .i64 j ∧ Part 54 oT [.string ⟨#[]⟩, .int .i64 0, .slice none 0 0] w.heap.size wr w.heap.size n j xs ∧ Below w.heap.size w wr) (fun k _ => n - (intOf k).toNat)
  case atStart => exact ⟨0, Nat.zero_le _, rfl, hp1, hb1⟩
  case round =>
    obtain ⟨j, hj, rfl, hp, hb⟩ := hrel
    clear hp1 hb1
    by_cases hlt : j < n
    · obtain ⟨b, off, cs, x, rfl, hx, hr, hc⟩ := (hi.below hb).at hlt
      obtain ⟨ub2, un2, uc2, rfl⟩ := rT_form hr
      have c0 : wr.cell? ⟨b, off + j * 3, none⟩ = some (.string x.1) := by have h9 := hc 0 _ rfl; rw [← Nat.add_assoc] at h9; exact h9
      have c1 : wr.cell? ⟨b, off + j * 3 + 1, none⟩ = some (.int .i64 x.2.1) := by have h9 := hc 1 _ rfl; rw [← Nat.add_assoc] at h9; exact h9
      have c2 : wr.cell? ⟨b, off + j * 3 + 2, none⟩ = some (.slice ub2 un2 uc2) := by have h9 := hc 2 _ rfl; rw [← Nat.add_assoc] at h9; exact h9
      clear hc
      have hg : w.heap.size < wr.heap.size := by obtain ⟨_, _, _, _, _, _, _, h9⟩ := hp; exact h9
      have HC := Lib.hid (to_T _ x wr hr (hbk j x hx.out))
      have HI := Lib.hid hi
      go_wp2_with fail
      refine HC.out.mono ?_
      rintro e w1 ⟨d, rfl, ho, z1⟩
      obtain ⟨db2, dn2, dc2, rfl⟩ := oT_form ho
      have s1 := z1.size
      have hp1 : Part 54 oT [.string ⟨#[]⟩, .int .i64 0, .slice none 0 0] w.heap.size w1 w.heap.size n j xs := hp.below z1 (Nat.le_refl _)
      obtain ⟨⟨e0, f0⟩, g0⟩ := hp1.cell rfl hlt (by omega) 0 (by decide)
      replace f0 : w1.cell? ⟨w.heap.size, j * 3, none⟩ = some e0 := f0
      replace g0 : w1.frozen? ⟨w.heap.size, j * 3, none⟩ = false := g0
      obtain ⟨⟨e1, f1⟩, g1⟩ := hp1.cell rfl hlt (by omega) 1 (by decide)
      replace f1 : w1.cell? ⟨w.heap.size, j * 3 + 1, none⟩ = some e1 := f1
      replace g1 : w1.frozen? ⟨w.heap.size, j * 3 + 1, none⟩ = false := g1
      obtain ⟨⟨e2, f2⟩, g2⟩ := hp1.cell rfl hlt (by omega) 2 (by decide)
      replace f2 : w1.cell? ⟨w.heap.size, j * 3 + 2, none⟩ = some e2 := f2
      replace g2 : w1.frozen? ⟨w.heap.size, j * 3 + 2, none⟩ = false := g2
      have HP := Lib.hid (hp1.step (cs := [.string x.1, .int .i64 x.2.1, .slice db2 dn2 dc2]) rfl hlt hx.out ho hg ⟨wr, hp, Nat.le_refl _, fun p hp => z1.block p hp⟩ (Nat.le_refl _) (by omega))
      have hb1 := on hb z1
      clear ho hp hp1
      go_wp2_with fail
      go_roundw
      case rel => exact ⟨j + 1, by omega, by go_num, HP.out, (((hb1.setCell (Nat.le_refl _) _).setCell (Nat.le_refl _) _).setCell (Nat.le_refl _) _)⟩
      case measure => simp [intOf]; omega
    · have hjn : j = n := by omega
      subst hjn
      have HO := Lib.hid (hp.done hlen (by omega))
      clear hp hi
      go_wp2_with fail
      go_ret
      exact ⟨_, rfl, HO.out, hb⟩

set_option maxHeartbeats 2000000 in
theorem eq_Tl (u v : Value) (xs ys : List DT) (w : World) (h : rTl.rep w [u] xs) (h' : rTl.rep w [v] ys) :
    Calls Try.prog 63 #[u, v] w fun e w' => e = .returned (.bool (decide (xs = ys))) ∧ Below w.heap.size w w' := by
  obtain ⟨a, cap, rfl, _, _, hi⟩ := rS_open h
  obtain ⟨a', cap', rfl, _, _, hi'⟩ := rS_open h'
  clear h h'
  have hn := hi.small
  have hn' := hi'.small
  obtain ⟨n, hl⟩ : ∃ n, xs.length = n := ⟨_, rfl⟩
  obtain ⟨m, hl'⟩ : ∃ n, ys.length = n := ⟨_, rfl⟩
  rw [hl] at hi hn ⊢
  rw [hl'] at hi' hn' ⊢
  by_cases hnm : n = m
  case neg =>
    have HE := Lib.hid (show decide (xs = ys) = false by simp only [decide_eq_false_iff_not]; intro e; subst e; omega)
    have hne : ((n : Int) != (m : Int)) = true := by rw [bne_iff_ne]; omega
    clear hl hl' hi hi'
    go_enter Try.func63, Try.ntmps63
    go_wp2_with fail
    go_ret
    exact ⟨ret_bool HE.out.symm, Below.refl _ _⟩
  subst hnm
  go_enter Try.func63, Try.ntmps63
  go_wp2_with fail
  go_loopw [5] (fun k wr => ∃ j : Nat, j ≤ n ∧ k = .int .i64 j ∧ Hid (xs.take j = ys.take j) ∧ Below w.heap.size w wr) (fun k _ => n - (intOf k).toNat)
  case atStart => exact ⟨0, Nat.zero_le _, rfl, rfl, Below.refl _ _⟩
  case round =>
    obtain ⟨j, hj, rfl, hE, hb⟩ := hrel
    by_cases hlt : j < n
    · obtain ⟨b, off, cs, x, rfl, hx, hr, hc⟩ := (hi.below hb).at hlt
      obtain ⟨b', off', ds, y, rfl, hy, hr', hd⟩ := (hi'.below hb).at hlt
      obtain ⟨ub2, un2, uc2, rfl⟩ := rT_form hr
      obtain ⟨vb2, vn2, vc2, rfl⟩ := rT_form hr'
      have c0 : wr.cell? ⟨b, off + j * 3, none⟩ = some (.string x.1) := by have h9 := hc 0 _ rfl; rw [← Nat.add_assoc] at h9; exact h9
      have c1 : wr.cell? ⟨b, off + j * 3 + 1, none⟩ = some (.int .i64 x.2.1) := by have h9 := hc 1 _ rfl; rw [← Nat.add_assoc] at h9; exact h9
      have c2 : wr.cell? ⟨b, off + j * 3 + 2, none⟩ = some (.slice ub2 un2 uc2) := by have h9 := hc 2 _ rfl; rw [← Nat.add_assoc] at h9; exact h9
      have d0 : wr.cell? ⟨b', off' + j * 3, none⟩ = some (.string y.1) := by have h9 := hd 0 _ rfl; rw [← Nat.add_assoc] at h9; exact h9
      have d1 : wr.cell? ⟨b', off' + j * 3 + 1, none⟩ = some (.int .i64 y.2.1) := by have h9 := hd 1 _ rfl; rw [← Nat.add_assoc] at h9; exact h9
      have d2 : wr.cell? ⟨b', off' + j * 3 + 2, none⟩ = some (.slice vb2 vn2 vc2) := by have h9 := hd 2 _ rfl; rw [← Nat.add_assoc] at h9; exact h9
      have hcall := fun (W : World) (hW : Below wr.heap.size wr W) => eq_T _ _ x y W (rT.mono hr hW) (rT.mono hr' hW)
      obtain ⟨t, ht⟩ : ∃ t, t = decide (x = y) := ⟨_, rfl⟩
      rw [← ht] at hcall
      have HC := Lib.hid hcall
      clear hcall hi hi' hr hr' hc hd
      have HT : Hid (if t = true then xs.take (j + 1) = ys.take (j + 1) else decide (xs = ys) = false) := by
        cases t
        · simp only [Bool.false_eq_true, if_false]
          have hxy : x ≠ y := by simpa using ht.symm
          simp only [Hid, Bool.false_eq_true, if_false, decide_eq_false_iff_not]; intro e; subst e; exact hxy (Option.some.inj (hx.out.symm.trans hy.out))
        · have hxy : x = y := by simpa using ht.symm
          simp only [Hid, if_true]; rw [take_snoc' xs j x hx.out, take_snoc' ys j y hy.out, hE.out, hxy]
      clear ht hx hy hE
      have lb : b < wr.heap.size := cell_lt c0
      have lb' : b' < wr.heap.size := cell_lt d0
      go_wp2_with fail
      go_region_held3 (fun W => W.cell? ⟨b, off + j * 3, none⟩ = some (.string x.1) ∧ W.cell? ⟨b, off + j * 3 + 1, none⟩ = some (.int .i64 x.2.1) ∧ W.cell? ⟨b, off + j * 3 + 2, none⟩ = some (.slice ub2 un2 uc2) ∧ W.cell? ⟨b', off' + j * 3, none⟩ = some (.string y.1) ∧ W.cell? ⟨b', off' + j * 3 + 1, none⟩ = some (.int .i64 y.2.1) ∧ W.cell? ⟨b', off' + j * 3 + 2, none⟩ = some (.slice vb2 vn2 vc2)) (first | exact ⟨c0, c1, c2, d0, d1, d2⟩ | assumption) ((go_at_call 110; refine (HC.out _ (Below.refl _ _).drew).mono ?_; rintro e w1 ⟨rfl, z1⟩; replace z1 : Below wr.heap.size wr w1 := (Below.refl _ _).drew.trans z1; have hS0 := (⟨(z1.cell (p := ⟨b, off + j * 3, none⟩) (by simp only []; omega)).trans c0, (z1.cell (p := ⟨b, off + j * 3 + 1, none⟩) (by simp only []; omega)).trans c1, (z1.cell (p := ⟨b, off + j * 3 + 2, none⟩) (by simp only []; omega)).trans c2, (z1.cell (p := ⟨b', off' + j * 3, none⟩) (by simp only []; omega)).trans d0, (z1.cell (p := ⟨b', off' + j * 3 + 1, none⟩) (by simp only []; omega)).trans d1, (z1.cell (p := ⟨b', off' + j * 3 + 2, none⟩) (by simp only []; omega)).trans d2⟩ : (fun W => W.cell? ⟨b, off + j * 3, none⟩ = some (.string x.1) ∧ W.cell? ⟨b, off + j * 3 + 1, none⟩ = some (.int .i64 x.2.1) ∧ W.cell? ⟨b, off + j * 3 + 2, none⟩ = some (.slice ub2 un2 uc2) ∧ W.cell? ⟨b', off' + j * 3, none⟩ = some (.string y.1) ∧ W.cell? ⟨b', off' + j * 3 + 1, none⟩ = some (.int .i64 y.2.1) ∧ W.cell? ⟨b', off' + j * 3 + 2, none⟩ = some (.slice vb2 vn2 vc2)) w1)))
      replace z1 : Below wr.heap.size wr w1 := z1
      have z2 := on hb z1
      cases t
      · have HE : Hid (decide (xs = ys) = false) := by simpa [Hid] using HT.out
        go_wp2_with fail
        go_ret
        exact ⟨ret_bool HE.out.symm, z2⟩
      · have HE : Hid (xs.take (j + 1) = ys.take (j + 1)) := by simpa [Hid] using HT.out
        go_wp2_with fail
        go_roundw
        case rel => exact ⟨j + 1, by omega, by go_num, HE.out, z2⟩
        case measure => simp [intOf]; omega
    · have HE := Lib.hid (show decide (xs = ys) = true by
        have e := hE.out
        rw [List.take_of_length_le (by omega), List.take_of_length_le (by omega)] at e
        simp [e])
      clear hi hi' hl hl'
      go_wp2_with fail
      go_ret
      exact ⟨ret_bool HE.out.symm, hb⟩

end Go.Proofs.Ytkipgbgkhffkkaa

/- Arguments of kind As opened. Written by a program. -/
namespace Go.Proofs.Ytkipgbgkhffkkaa
open Go.ChangeShapes Go.WideShapes Go.ChangeAt Go.RowKit
set_option linter.unusedVariables false
set_option maxRecDepth 100000

theorem opens_As : Opens 25 rAs := opens_slice Try.underlying25 (by kernel_rfl) (by decide) opens_A
def kAs_in (w : World) (v : Value) : Prop := ∃ u xs, v = u ∧ rAs.rep w [u] xs
theorem open_kAs_in {H : Type} {enc : TypeId × Value → H} {W : World} {d : DataW H} {ps : List MemPlace} {v : Value} (hv : Value.okWide Try.prog W .any 0 25 v) (h : DataW.Trod enc Try.prog W 0 (fun _ => true) true 25 v d ps) : kAs_in W v := by
  obtain ⟨a, l, c, rfl⟩ := okWide_slice Try.underlying25 hv
  obtain ⟨fuel, hf⟩ := h
  obtain ⟨xs, hx⟩ := opens_As H enc W fuel _ _ hf
  exact ⟨_, xs, rfl, by simpa [Value.cells] using hx⟩

end Go.Proofs.Ytkipgbgkhffkkaa

/- Arguments of kind T opened. Written by a program. -/
namespace Go.Proofs.Ytkipgbgkhffkkaa
open Go.ChangeShapes Go.WideShapes Go.ChangeAt Go.RowKit
set_option linter.unusedVariables false
set_option maxRecDepth 100000

theorem opens_T : Opens 103 rT := opens_struct3 Try.underlying103 (by kernel_rfl) rfl rfl rfl (by kernel_rfl) (by kernel_rfl) (by kernel_rfl) opens_str' opens_int opens_II
abbrev kT_in := agg_in rT
theorem open_kT_in {H : Type} {enc : TypeId × Value → H} {W : World} {d : DataW H} {ps : List MemPlace} {v : Value} (hv : Value.okWide Try.prog W .any 0 103 v) (h : DataW.Trod enc Try.prog W 0 (fun _ => true) true 103 v d ps) : kT_in W v :=
  open_agg_in Try.underlying103 opens_T hv h

end Go.Proofs.Ytkipgbgkhffkkaa

/- Contracts: whether an answer is valid. -/
namespace Go.Proofs.Ytkipgbgkhffkkaa
open Go.RowKit
set_option linter.unusedVariables false
set_option linter.unusedSimpArgs false
set_option synthInstance.maxSize 2000
set_option synthInstance.maxHeartbeats 400000

/-- Columns: in range, ascending from p. -/
def colsFrom (n p : Int) : List Int → Bool
  | [] => true
  | v :: t => betw v 0 (n - 1) && decide (p < v) && colsFrom n v t
/-- Strictly ascending columns of so many. -/
def colsB (n : Int) (xs : List Int) : Bool := colsFrom n (-1) xs
theorem cols_at {n p : Int} {xs : List Int} {j : Nat} {x : Int} (hj : j < xs.length) (hx : xs.getD j 0 = x) : colsFrom n p (xs.drop j) = (betw x 0 (n - 1) && decide (p < x) && colsFrom n x (xs.drop (j + 1))) := by
  rw [drop_cons xs j hj, hx]; rfl
theorem cols_end {n p : Int} {xs : List Int} {j : Nat} (hj : xs.length ≤ j) : colsFrom n p (xs.drop j) = true := by
  rw [List.drop_eq_nil_of_le hj]; rfl
theorem betw_pos {x n : Int} (h : betw x 0 n = true) : 0 ≤ x := by
  simp only [betw, Bool.and_eq_true, decide_eq_true_eq] at h; omega
/-- What stands before place j. -/
def prevOf (xs : List Int) : Nat → Int
  | 0 => -1
  | j + 1 => xs.getD j 0
/-- Whether an answer is valid. -/
def validAn (a : DAn) : Bool := colsB 4 a.1 && rowsB a.1.length a.2 && ascB a.2

end Go.Proofs.Ytkipgbgkhffkkaa

/- Contracts: whether a table is valid. -/
namespace Go.Proofs.Ytkipgbgkhffkkaa
open Go.RowKit
set_option linter.unusedVariables false
set_option linter.unusedSimpArgs false
set_option synthInstance.maxSize 2000
set_option synthInstance.maxHeartbeats 400000

/-- Whether a table is valid. -/
def validT (t : DT) : Bool := nameB t.1 && (betw t.2.1 1 3 && (decide (t.2.2.length ≤ 8) && (rowsB t.2.1 t.2.2 && ascB t.2.2)))
theorem validT_rows {t : DT} (h : rowsB t.2.1 t.2.2 = false) : validT t = false := by simp [validT, h]
theorem validT_rest {t : DT} (h : rowsB t.2.1 t.2.2 = true) : validT t = (nameB t.1 && (betw t.2.1 1 3 && (decide (t.2.2.length ≤ 8) && ascB t.2.2))) := by simp [validT, h]

set_option maxHeartbeats 2000000 in
theorem validT_impl (cs : List Value) (x : DT) (w : World) (h : rT.rep w cs x) :
    Calls Try.prog 95 #[.agg cs.toArray] w fun e w' => e = .returned (.bool (validT x)) ∧ Below w.heap.size w w' := by
  obtain ⟨ub, un, uc, rfl, hs, hi, g1⟩ := rT_open h
  clear h
  obtain ⟨s, i, rows⟩ := x
  simp only at hs hi g1
  have t1 := rS_sl g1
  have hl1 := t1.len
  have hn1 := t1.small
  have HV := Lib.hid (show rowsB i rows = rowsB i (rows.drop 0) by simp)
  have hb0 : Below w.heap.size w w := Below.refl _ _
  go_enter Try.func95, Try.ntmps95
  obtain ⟨w1, hw1⟩ : ∃ W, W = w.alloc (.cells #[.string s, .int .i64 i, .slice ub un uc] 54) := ⟨_, rfl⟩
  have z1 : Below w.heap.size w w1 := by rw [hw1]; exact (Below.refl _ _).alloc (Nat.le_refl _) _
  have s1 : w1.heap.size = w.heap.size + 1 := by rw [hw1]; simp
  have hb1 := on hb0 z1
  have b_0 : w1.cell? ⟨w.heap.size, 0, none⟩ = some (.string s) := by rw [hw1]; exact box_cell (Below.refl _ _) rfl
  have b_1 : w1.cell? ⟨w.heap.size, 1, none⟩ = some (.int .i64 i) := by rw [hw1]; exact box_cell (Below.refl _ _) rfl
  have b_2 : w1.cell? ⟨w.heap.size, 2, none⟩ = some (.slice ub un uc) := by rw [hw1]; exact box_cell (Below.refl _ _) rfl
  have raw1_b_0 := b_0
  have raw1_b_1 := b_1
  have raw1_b_2 := b_2
  rw [hw1] at raw1_b_0 raw1_b_1 raw1_b_2
  go_wp2_with fail
  rw [← hw1]
  clear hw1
  clear raw1_b_0 raw1_b_1 raw1_b_2
  go_loopw [8] (fun k wr => ∃ j : Nat, j ≤ un ∧ k = .int .i64 j ∧ Hid (rowsB i rows = rowsB i (rows.drop j)) ∧ w1 = wr) (fun k _ => un - (intOf k).toNat)
  case atStart => exact ⟨0, Nat.zero_le _, rfl, HV.out, rfl⟩
  case round =>
    obtain ⟨j, hj, rfl, hE, rfl⟩ := hrel
    by_cases hlt : j < un
    · obtain ⟨b0, o0, r1, m1, q1, y, rfl, hc, hx, hi9, _⟩ := t1.row hlt
      have hclt : b0 < w.heap.size := cell_lt hc
      have c0 : w1.cell? ⟨b0, o0 + j, none⟩ = some (.slice r1 m1 q1) := (hb1.cell (p := ⟨b0, o0 + j, none⟩) hclt).trans hc
      have hcall := rowOk_any r1 m1 q1 y i _ (hi9.below hb1)
      obtain ⟨t, ht⟩ : ∃ t, t = rowB y i := ⟨_, rfl⟩
      rw [← ht] at hcall
      have HC := Lib.hid hcall
      have HA := Lib.hid (hE.out.trans (by rw [rowsB_at hx.out, ← ht]))
      clear t1 hl1 hx hcall ht hE HV hi9 hc
      go_wp2_with fail
      refine (HC.out).mono ?_
      rintro e w' ⟨rfl, rfl⟩
      cases t with
      | true =>
        have HE := Lib.hid (show rowsB i rows = rowsB i (rows.drop (j + 1)) by rw [HA.out]; simp)
        go_wp2_with fail
        go_roundw
        case rel => exact ⟨j + 1, by omega, by go_num, HE.out, trivial⟩
        case measure => simp [intOf]; omega
      | false =>
        have HE := Lib.hid (show validT (s, i, rows) = false from validT_rows (by rw [HA.out]; simp))
        go_wp2_with fail
        go_ret
        exact ⟨ret_bool HE.out.symm, hb1⟩
    · have HE : Hid (validT (s, i, rows) = (nameB s && (betw i 1 3 && (decide ((un : Int) ≤ 8) && ascB rows)))) := Lib.hid (by
        rw [validT_rest (show rowsB i rows = true by rw [hE.out, rowsB_end (by omega)])]
        simp only [hl1]
        congr 3
        rw [Bool.eq_iff_iff]; simp only [decide_eq_true_eq]; omega)
      have t2 := t1.below hb1
      clear hE HV hl1 t1
      go_wp2_with fail
      refine (nameOk_any _ _ hs).mono ?_
      rintro e w' ⟨rfl, rfl⟩
      obtain ⟨c1, hc1⟩ : ∃ c, c = nameB s := ⟨_, rfl⟩
      rw [← hc1] at HE ⊢
      clear hc1
      cases c1 with
      | false =>
        clear t2
        go_wp2_with fail
        go_ret
        exact ⟨ret_bool (by rw [HE.out]; rfl), hb1⟩
      | true =>
        go_wp2_with fail
        refine (within_any _ _ _ _).mono ?_
        rintro e w' ⟨rfl, rfl⟩
        obtain ⟨c2, hc2⟩ : ∃ c, c = betw i 1 3 := ⟨_, rfl⟩
        rw [← hc2] at HE ⊢
        clear hc2
        cases c2 with
        | false =>
          clear t2
          go_wp2_with fail
          go_ret
          exact ⟨ret_bool (by rw [HE.out]; rfl), hb1⟩
        | true =>
          by_cases h8 : (un : Int) ≤ 8
          · have HE2 := Lib.hid (show validT (s, i, rows) = ascB rows by rw [HE.out, decide_eq_true h8]; rfl)
            go_wp2_with fail
            refine (ascending_any _ _ _ _ _ t2).mono ?_
            rintro e w9 ⟨rfl, z9⟩
            replace z9 : Below w1.heap.size w1 w9 := z9.below _
            have s2 := z9.size
            have hb2 := on hb1 z9
            replace b_0 := (z9.cell (p := ⟨w.heap.size, 0, none⟩) (by simp only []; omega)).trans b_0
            replace b_1 := (z9.cell (p := ⟨w.heap.size, 1, none⟩) (by simp only []; omega)).trans b_1
            replace b_2 := (z9.cell (p := ⟨w.heap.size, 2, none⟩) (by simp only []; omega)).trans b_2
            clear t2
            go_wp2_with fail
            go_ret
            exact ⟨ret_bool HE2.out.symm, hb2⟩
          · have HE2 := Lib.hid (show validT (s, i, rows) = false by rw [HE.out, decide_eq_false h8]; rfl)
            clear t2
            go_wp2_with fail
            go_ret
            exact ⟨ret_bool HE2.out.symm, hb1⟩

set_option maxHeartbeats 2000000 in
theorem validT_spec (cs : List Value) (x : DT) (w : World) (h : rT.rep w cs x) :
    Calls Try.prog 27 #[.agg cs.toArray] w fun e w' => e = .returned (.bool (validT x)) ∧ Below w.heap.size w w' := by
  obtain ⟨ub, un, uc, rfl, hs, hi, g1⟩ := rT_open h
  clear h
  obtain ⟨s, i, rows⟩ := x
  simp only at hs hi g1
  have t1 := rS_sl g1
  have hl1 := t1.len
  have hn1 := t1.small
  have HV : Hid (validT (s, i, rows) = (nameB s && (betw i 1 3 && (decide ((un : Int) ≤ 8) && (rowsB i rows && ascB rows))))) := Lib.hid (by
    simp only [validT, hl1]
    congr 3
    rw [Bool.eq_iff_iff]; simp only [decide_eq_true_eq]; omega)
  have hb0 : Below w.heap.size w w := Below.refl _ _
  go_enter Try.func27, Try.ntmps27
  obtain ⟨w1, hw1⟩ : ∃ W, W = w.alloc (.cells #[.string s, .int .i64 i, .slice ub un uc] 54) := ⟨_, rfl⟩
  have z1 : Below w.heap.size w w1 := by rw [hw1]; exact (Below.refl _ _).alloc (Nat.le_refl _) _
  have s1 : w1.heap.size = w.heap.size + 1 := by rw [hw1]; simp
  have hb1 := on hb0 z1
  have b_0 : w1.cell? ⟨w.heap.size, 0, none⟩ = some (.string s) := by rw [hw1]; exact box_cell (Below.refl _ _) rfl
  have b_1 : w1.cell? ⟨w.heap.size, 1, none⟩ = some (.int .i64 i) := by rw [hw1]; exact box_cell (Below.refl _ _) rfl
  have b_2 : w1.cell? ⟨w.heap.size, 2, none⟩ = some (.slice ub un uc) := by rw [hw1]; exact box_cell (Below.refl _ _) rfl
  have raw1_b_0 := b_0
  have raw1_b_1 := b_1
  have raw1_b_2 := b_2
  rw [hw1] at raw1_b_0 raw1_b_1 raw1_b_2
  go_wp2_with fail
  rw [← hw1]
  clear hw1
  clear raw1_b_0 raw1_b_1 raw1_b_2
  refine (l4Name_any _ _ hs).mono ?_
  rintro e w' ⟨rfl, rfl⟩
  obtain ⟨c1, hc1⟩ : ∃ c, c = nameB s := ⟨_, rfl⟩
  rw [← hc1] at HV ⊢
  clear hc1
  cases c1 with
  | false =>
    clear t1 hl1
    go_wp2_with fail
    go_ret
    exact ⟨ret_bool (by rw [HV.out]; rfl), hb1⟩
  | true =>
    go_wp2_with fail
    refine (l1In_any _ _ _ _).mono ?_
    rintro e w' ⟨rfl, rfl⟩
    obtain ⟨c2, hc2⟩ : ∃ c, c = betw i 1 3 := ⟨_, rfl⟩
    rw [← hc2] at HV ⊢
    clear hc2
    cases c2 with
    | false =>
      clear t1 hl1
      go_wp2_with fail
      go_ret
      exact ⟨ret_bool (by rw [HV.out]; rfl), hb1⟩
    | true =>
      by_cases h8 : (un : Int) ≤ 8
      case neg =>
        have HE2 := Lib.hid (show validT (s, i, rows) = false by rw [HV.out, decide_eq_false h8]; rfl)
        have h8' : 8 < (un : Int) := by omega
        clear t1 hl1
        go_wp2_with fail
        go_ret
        exact ⟨ret_bool HE2.out.symm, hb1⟩
      have HW : Hid (validT (s, i, rows) = (rowsB i (rows.drop 0) && ascB (rows.drop (0 - 1)))) := Lib.hid (by rw [HV.out, decide_eq_true h8]; rfl)
      have h8' : ¬ 8 < (un : Int) := by omega
      go_wp2_with fail
      go_loopw [3] (fun k wr => ∃ j : Nat, j ≤ un ∧ k = .int .i64 j ∧ Hid (validT (s, i, rows) = (rowsB i (rows.drop j) && ascB (rows.drop (j - 1)))) ∧ Drew w1 wr) (fun k _ => un - (intOf k).toNat)
      case atStart => exact ⟨0, Nat.zero_le _, rfl, HW.out, Drew.refl _⟩
      case round =>
        obtain ⟨j, hj, rfl, hE, hdr⟩ := hrel
        have hlc := hdr
        replace hdr : Below w1.heap.size w1 wr := hdr.below _
        have s2 := hdr.size
        have hb2 := on hb1 hdr
        replace b_0 := (hdr.cell (p := ⟨w.heap.size, 0, none⟩) (by simp only []; omega)).trans b_0
        replace b_1 := (hdr.cell (p := ⟨w.heap.size, 1, none⟩) (by simp only []; omega)).trans b_1
        replace b_2 := (hdr.cell (p := ⟨w.heap.size, 2, none⟩) (by simp only []; omega)).trans b_2
        by_cases hlt : j < un
        · obtain ⟨b0, o0, r1, m1, q1, y, rfl, hc, hx, hi9, _⟩ := t1.row hlt
          have hclt : b0 < w.heap.size := cell_lt hc
          have c0 : wr.cell? ⟨b0, o0 + j, none⟩ = some (.slice r1 m1 q1) := (hb2.cell (p := ⟨b0, o0 + j, none⟩) hclt).trans hc
          have hcall := fun q => l4Row_any r1 m1 q1 y i (wr.drewN q) ((hi9.below hb2).drewN q)
          obtain ⟨t, ht⟩ : ∃ t, t = rowB y i := ⟨_, rfl⟩
          rw [← ht] at hcall
          have HC := Lib.hid hcall
          have HA := Lib.hid (hE.out.trans (by rw [rowsB_at hx.out, ← ht]))
          clear hcall ht hE HW HV
          cases t with
          | false =>
            have HE := Lib.hid (show validT (s, i, rows) = false by rw [HA.out]; simp)
            clear t1 hl1 hx hi9 hc
            go_wp2_with fail
            go_quiet ((go_at_call 72; exact quiet_same (HC.out _)))
            go_wp2_with fail
            go_ret
            exact ⟨ret_bool HE.out.symm, onD hb2 ⟨_, rfl⟩⟩
          | true =>
            by_cases hj0 : j = 0
            · subst hj0
              have HE := Lib.hid (show validT (s, i, rows) = (rowsB i (rows.drop (0 + 1)) && ascB (rows.drop (0 + 1 - 1))) by rw [HA.out]; simp)
              have c0' : wr.cell? ⟨b0, o0, none⟩ = some (.slice r1 m1 q1) := c0
              clear t1 hl1 hx hi9 hc
              go_wp2_with fail
              go_quiet ((go_at_call 72; exact quiet_same (HC.out _)))
              go_wp2_with fail
              go_roundw
              case rel => exact ⟨1, by omega, rfl, HE.out, hlc.step _⟩
              case measure => simp [intOf]; omega
            obtain ⟨i', rfl⟩ : ∃ i, j = i + 1 := ⟨j - 1, by omega⟩
            obtain ⟨b9, o9, r2, m2, q2, z, hb9, hcy, hy, hi', _⟩ := t1.row (show i' < un by omega)
            simp at hb9
            obtain ⟨rfl, rfl⟩ := hb9
            have cy : wr.cell? ⟨b0, o0 + i', none⟩ = some (.slice r2 m2 q2) := (hb2.cell (p := ⟨b0, o0 + i', none⟩) hclt).trans hcy
            have hi63 : IntKind.i64.wrap (i' : Int) = (i' : Int) := IntWalk.i64_in _ (by omega)
            have hcall := fun q => cmp_spec r2 r1 m2 m1 q2 q1 z y (wr.drewN q) ((hi'.below hb2).drewN q) ((hi9.below hb2).drewN q)
            obtain ⟨c, hcc⟩ : ∃ c, c = cmpRows z y := ⟨_, rfl⟩
            rw [← hcc] at hcall
            have HA2 : Hid (validT (s, i, rows) = (rowsB i (rows.drop (i' + 1 + 1)) && (decide (c < 0) && ascB (rows.drop (i' + 1))))) := Lib.hid (by
              rw [HA.out, show i' + 1 - 1 = i' by omega, ascB_at hy.out hx.out, hcc]; rfl)
            have HD := Lib.hid hcall
            clear t1 hl1 hx hy hi9 hi' hc hcy hcall hcc HA hj0
            by_cases h0 : c < 0
            · have HE := Lib.hid (show validT (s, i, rows) = (rowsB i (rows.drop (i' + 1 + 1)) && ascB (rows.drop (i' + 1 + 1 - 1))) by rw [HA2.out, decide_eq_true h0]; simp)
              go_wp2_with fail
              go_quiet ((first | (go_at_call 72; exact quiet_same (HC.out _)) | (go_at_call 73; exact quiet_drew (HD.out _))))
              clear hi63
              go_wp2_with fail
              go_roundw
              case rel => exact ⟨i' + 1 + 1, by omega, by go_num, HE.out, hlc.step _⟩
              case measure => simp [intOf]; omega
            · have HE := Lib.hid (show validT (s, i, rows) = false by rw [HA2.out]; simp [h0])
              go_wp2_with fail
              go_quiet ((first | (go_at_call 72; exact quiet_same (HC.out _)) | (go_at_call 73; exact quiet_drew (HD.out _))))
              clear hi63
              go_wp2_with fail
              go_ret
              exact ⟨ret_bool HE.out.symm, onD hb2 ⟨_, rfl⟩⟩
        · have HE : Hid (validT (s, i, rows) = true) := Lib.hid (by
            rw [hE.out, rowsB_end (by omega), ascB_end (by omega)]; rfl)
          clear hE HW hl1 t1
          go_wp2_with fail
          go_ret
          exact ⟨ret_bool HE.out.symm, hb2⟩

end Go.Proofs.Ytkipgbgkhffkkaa

/- A slice that a region which draws its order appends to. -/
namespace Go.Proofs.Ytkipgbgkhffkkaa
open Go.RowKit
set_option linter.unusedVariables false
set_option linter.unusedSimpArgs false

/-- append of one element, run. -/
theorem run_acc {α : Type} {T E size bytes : Nat} {z : Value} (hT : Try.prog.underlying T = some (.slice E)) (hE : (Try.prog.info? E).map (fun i => (i.zero, i.size, i.bytes)) = some (some z, size, bytes)) (hz : z.cells.size = size) (hpos : 0 < size) (hby : bytes ≤ 1000)
    {o' : OS α} (hsz : o'.size = size) {la lo S hi9 h1 h2 : Nat} {W0 W W1 : World} (ty : TypeId)
    (v : Value) (xs : List α) (c : List Value) (y : α)
    (hown : Acc E o' la S hi9 W v xs) (hy : Own o' h1 h2 W c y) (hone : ∀ u ∈ c, u.oneCell' = true) (hS1 : S ≤ h1) (hhi : hi9 ≤ h1) (hh : h1 ≤ h2) (hW : h2 ≤ W.heap.size) (ht : Turn lo (lo + 1) W0 W) (hS : W0.heap.size = S) (hla : la = lo ∨ S ≤ la) (hlW : la ≤ W.heap.size) (hn : xs.length ≤ 100000000)
    (hW1 : W1 = W.alloc (.cells c.toArray E)) :
    ∃ v' w', (Builtin.append_ #[T, T] ty #[v, .slice (some ⟨W.heap.size, 0, none⟩) 1 1]).run Try.prog W1 = .ok v' w' ∧ Acc E o' la S w'.heap.size w' v' (xs ++ [y]) ∧ Turn lo (lo + 1) W0 w' ∧ W.heap.size < w'.heap.size ∧ (∀ k, k < S → k ≠ la → w'.heap[k]? = W.heap[k]?) := by
  subst hW1
  obtain ⟨i, hi, hz0, hz1, hz2⟩ := info_parts hE
  obtain ⟨fp, ⟨v1, css, fps, hv, rfl, hrow, hrows⟩, hnd, hlim⟩ := hown
  obtain ⟨fy, hyr, hynd, hylim⟩ := hy
  have hts := ht.size
  simp at hv
  subst hv
  have hclen : c.length = size := by rw [← hsz]; exact o'.len hyr
  rw [hsz] at hrow
  have hnl := List.nodup_append.1 hnd
  have hnew : Below W.heap.size W (W.alloc (.cells c.toArray E)) := (Below.refl _ _).alloc (Nat.le_refl _) _
  have hrow1 := own_below hrow hnew (Nat.le_refl _)
  have hlt : ∀ k ∈ bl v ++ fps.flatten, k < W.heap.size := fun k hk => by have := (hlim k hk).2; omega
  have hby2 : (xs.length + 1) * bytes ≤ 140737488355328 := Nat.le_trans (Nat.mul_le_mul (show xs.length + 1 ≤ 100000001 by omega) hby) (by decide)
  have hfy : ∀ k ∈ fy, k ∉ bl v ++ fps.flatten := fun k hk hm => by have := (hlim k hm).2; have := hylim k hk; omega
  obtain ⟨v', w', hrun, h3, h4, _, h5⟩ := run_append_own_at (P := Try.prog) (W.alloc (.cells c.toArray E)) 0 T ty E i z size bytes hT hi hz0 hz1 hz2 hz hpos v xs.length css.flatten hrow1 ⟨W.heap.size, 0, none⟩ 1 1 c (by omega) (fresh_cells W c E) hone (by unfold maxLen; omega) hby2 (Nat.zero_le _)
  have hsz' := h4.size
  simp at hsz'
  have hv' : ∀ k ∈ bl v', k ∈ bl v ∨ k = W.heap.size + 1 := by
    intro k hk
    have hk' : v'.ownBlock = some k := by simpa [bl] using hk
    rcases h5 with h5 | h5
    · left; simp only [bl]; rw [← h5, hk']; simp
    · right
      rw [h5] at hk'
      simp at hk'
      omega
  have hkeep : ∀ k, k < W.heap.size → k ∉ bl v → w'.heap[k]? = W.heap[k]? := by
    intro k hk hn
    rw [h4.block k (by simp; omega) (fun e => hn (by simp only [bl]; rw [← e]; simp)), Below.heap_alloc W _ k hk]
  refine ⟨v', w', hrun, ⟨bl v' ++ (fps ++ [fy]).flatten, ⟨v', css ++ [c], fps ++ [fy], rfl, rfl, ?_, ?_⟩, ?_, ?_⟩, ?_, by omega, fun k hk hx => hkeep k (by omega) (fun hb => by have := hlim k (List.mem_append_left _ hb); omega)⟩
  · rw [hsz]; simpa using h3
  · have hk2 : ∀ k, k ∈ fps.flatten ++ fy → w'.heap[k]? = W.heap[k]? := by
      intro k hk
      rcases List.mem_append.1 hk with hk | hk
      · exact hkeep k (hlt k (List.mem_append_right _ hk)) (fun hb => hnl.2.2 k hb k hk rfl)
      · exact hkeep k (by have := hylim k hk; omega) (fun hb => hfy k hk (List.mem_append_left _ hb))
    exact o'.rows_snoc (o'.frame hyr (fun k hk => hk2 k (List.mem_append_right _ hk))) (o'.rows_frame hrows (fun k hk => hk2 k (List.mem_append_left _ hk)))
  · rw [List.flatten_append, List.nodup_append]
    refine ⟨by unfold bl; cases v'.ownBlock <;> simp, ?_, ?_⟩
    · rw [List.nodup_append]
      refine ⟨hnl.2.1, by simpa using hynd, ?_⟩
      intro p hp q hq e
      subst e
      exact hfy p (by simpa using hq) (List.mem_append_right _ hp)
    · intro p hp q hq e
      subst e
      rcases hv' p hp with h8 | h8
      · rcases List.mem_append.1 hq with hq | hq
        · exact hnl.2.2 p h8 p hq rfl
        · exact hfy p (by simpa using hq) (List.mem_append_left _ h8)
      · rcases List.mem_append.1 hq with hq | hq
        · have := hlt p (List.mem_append_right _ hq); omega
        · have := hylim p (by simpa using hq); omega
  · intro k hk
    rcases List.mem_append.1 hk with hk | hk
    · rcases hv' k hk with h8 | h8
      · have := hlim k (List.mem_append_left _ h8); omega
      · have h9 := (h3.lt k (by simpa [bl] using hk)).2
        omega
    · simp only [List.flatten_append, List.mem_append] at hk
      rcases hk with hk | hk
      · have := hlim k (List.mem_append_right _ hk); omega
      · have := hylim k (by simpa using hk); omega
  · refine ⟨h4.os.trans ht.os, h4.tape.trans ht.tape, h4.output.trans ht.output, by omega, fun k hk hx => ?_⟩
    rw [hkeep k (by omega) (fun hb => ?_)]
    · exact ht.block k hk hx
    · have := hlim k (List.mem_append_left _ hb); omega

theorem Turn.setIn {lo hi : Nat} {a w : World} (h : Turn lo hi a w) {p : Addr} (h1 : lo ≤ p.block) (h2 : p.block < hi) (u : Value) : Turn lo hi a (w.setCell p u) := by
  have hb := Below.setCell (B := p.block) (Below.refl _ w) (Nat.le_refl _) u
  exact ⟨hb.os.trans h.os, hb.tape.trans h.tape, hb.output.trans h.output, Nat.le_trans h.size hb.size, fun k hk hx => by rw [Below.heap_setCell _ _ _ _ (by omega)]; exact h.block k hk hx⟩
theorem Acc.setOut {α : Type} {E : TypeId} {o : OS α} {lo S hi hi' : Nat} {w : World} {v : Value} {xs : List α} (h : Acc E o lo S hi w v xs) {p : Addr} (u : Value) (h1 : p.block < S) (h2 : p.block ≠ lo) (hh : hi ≤ hi') : Acc E o lo S hi' (w.setCell p u) v xs := by
  obtain ⟨fp, h3, h4, h5⟩ := h
  exact ⟨fp, (O.slice E o).frame h3 (fun k hk => Below.heap_setCell _ _ _ _ (by have := h5 k hk; omega)), h4, fun k hk => by have := h5 k hk; omega⟩

end Go.Proofs.Ytkipgbgkhffkkaa

/- Plain: neighbours that are equal, one of them alone: as the library's CompactFunc goes. -/
namespace Go.Proofs.Ytkipgbgkhffkkaa
open Go.RowKit
set_option linter.unusedVariables false
set_option linter.unusedSimpArgs false

/-- Whether place p is kept: the first, or another key than the place before it. -/
def keepAt {α : Type} (key : α → List Int) (d : List α) (p : Nat) : Bool :=
  match d[p]?, d[p - 1]? with
  | some x, some y => decide (p = 0) || !decide (key x = key y)
  | _, _ => true
/-- What is kept of the first p. -/
def dedTo {α : Type} (key : α → List Int) (d : List α) : Nat → List α
  | 0 => []
  | p + 1 => dedTo key d p ++ (if keepAt key d p then d[p]?.toList else [])
theorem dedTo_sub {α : Type} (key : α → List Int) (d : List α) : ∀ p, (dedTo key d p).Sublist (d.take p)
  | 0 => by simp [dedTo]
  | p + 1 => by
    rw [dedTo, List.take_add_one]
    refine (dedTo_sub key d p).append ?_
    split
    · exact List.Sublist.refl _
    · exact List.nil_sublist _
theorem dedTo_len {α : Type} (key : α → List Int) (d : List α) (p : Nat) : (dedTo key d p).length ≤ p := by
  have h1 := (dedTo_sub key d p).length_le
  have h2 := List.length_take_le p d
  omega
theorem dedTo_keep {α : Type} {key : α → List Int} {d : List α} {p : Nat} {x : α} (hx : d[p]? = some x) (h : keepAt key d p = true) : dedTo key d (p + 1) = dedTo key d p ++ [x] := by
  rw [dedTo, h, if_pos rfl, hx]; rfl
theorem dedTo_skip {α : Type} {key : α → List Int} {d : List α} {p : Nat} (h : keepAt key d p = false) : dedTo key d (p + 1) = dedTo key d p := by
  rw [dedTo, h]; simp
theorem keepAt_at {α : Type} {key : α → List Int} {d : List α} {p : Nat} {x y : α} (hx : d[p + 1]? = some x) (hy : d[p]? = some y) : keepAt key d (p + 1) = !decide (key x = key y) := by
  simp [keepAt, hx, hy]
theorem keepAt_zero {α : Type} {key : α → List Int} {d : List α} : keepAt key d 0 = true := by
  unfold keepAt; cases d[0]? <;> simp
theorem dedTo_all {α : Type} {key : α → List Int} {d : List α} : ∀ {p : Nat}, (∀ j, j < p → keepAt key d j = true) → dedTo key d p = d.take p
  | 0, _ => by simp [dedTo]
  | p + 1, h => by
    rw [dedTo, dedTo_all fun j hj => h j (by omega), h p (by omega), if_pos rfl, List.take_add_one]
/-- What CompactFunc's cells hold when p places have been looked at. -/
def dedRow {α : Type} (key : α → List Int) (d : List α) (p : Nat) : List α := dedTo key d p ++ d.drop (dedTo key d p).length
theorem dedRow_len {α : Type} {key : α → List Int} {d : List α} {p : Nat} (hp : p ≤ d.length) : (dedRow key d p).length = d.length := by
  have := dedTo_len key d p
  simp [dedRow]; omega
theorem dedRow_get {α : Type} {key : α → List Int} {d : List α} {p j : Nat} (h : (dedTo key d p).length ≤ j) : (dedRow key d p)[j]? = d[j]? := by
  rw [dedRow, List.getElem?_append_right h, List.getElem?_drop]; congr 1; omega
theorem dedRow_set {α : Type} {key : α → List Int} {d : List α} {p : Nat} {x : α} (hx : d[p]? = some x) (h : keepAt key d p = true) : (dedRow key d p).set (dedTo key d p).length x = dedRow key d (p + 1) := by
  have hp := (List.getElem?_eq_some_iff.1 hx).1
  have hl := dedTo_len key d p
  rw [dedRow, dedRow, dedTo_keep hx h, List.set_append_right _ _ (Nat.le_refl _), Nat.sub_self]
  rw [List.drop_eq_getElem_cons (by omega), List.set_cons_zero]
  simp
/-- Its keys are what 'dedup' leaves of the keys. -/
def lastOf (p : List Int) : List (List Int) → List Int
  | [] => p
  | y :: t => lastOf y t
theorem lastOf_get : ∀ (p : List Int) (l : List (List Int)), (p :: l)[l.length]? = some (lastOf p l)
  | p, [] => rfl
  | p, y :: t => by
    have h := lastOf_get y t
    simpa [lastOf] using h
theorem dedupFrom_snoc : ∀ (p : List Int) (l : List (List Int)) (x : List Int), dedupFrom p (l ++ [x]) = dedupFrom p l ++ (if x = lastOf p l then [] else [x])
  | p, [], x => by
    by_cases e : x = p
    · subst e; simp [dedupFrom, lastOf]
    · simp [dedupFrom, lastOf, e]
  | p, y :: t, x => by
    have ih := dedupFrom_snoc y t x
    by_cases e : y = p
    · subst e
      show dedupFrom y (y :: (t ++ [x])) = dedupFrom y (y :: t) ++ _
      rw [dedupFrom, if_pos rfl, dedupFrom, if_pos rfl, ih]; rfl
    · show dedupFrom p (y :: (t ++ [x])) = dedupFrom p (y :: t) ++ _
      rw [dedupFrom, if_neg e, dedupFrom, if_neg e, ih]; rfl
theorem dedTo_map {α : Type} {key : α → List Int} {d : List α} : ∀ {p : Nat}, p ≤ d.length → (dedTo key d p).map key = dedup ((d.map key).take p)
  | 0, _ => by simp [dedTo, dedup]
  | 1, h => by
    cases d with
    | nil => simp at h
    | cons x t =>
      rw [dedTo_keep (x := x) rfl keepAt_zero]
      simp [dedTo, dedup, dedupFrom]
  | p + 2, h => by
    have h1 : p + 1 < d.length := h
    have h0 : p < d.length := by omega
    have ih := @dedTo_map _ key d (p + 1) (by omega)
    have hx : d[p + 1]? = some d[p + 1] := List.getElem?_eq_getElem h1
    have hy : d[p]? = some d[p] := List.getElem?_eq_getElem h0
    have e : (d.map key).take (p + 2) = (d.map key).take (p + 1) ++ [key d[p + 1]] := by
      rw [List.take_add_one (i := p + 1)]; simp [hx]
    obtain ⟨a, t, hat⟩ : ∃ a t, (d.map key).take (p + 1) = a :: t := by
      cases h9 : (d.map key).take (p + 1) with
      | nil =>
        have h8 := congrArg List.length h9
        rw [List.length_take, List.length_map, List.length_nil] at h8
        omega
      | cons a t => exact ⟨a, t, rfl⟩
    have hlen : t.length = p := by
      have := congrArg List.length hat; simp at this; omega
    have hlast : lastOf a t = key d[p] := by
      have h9 := lastOf_get a t
      rw [← hat, hlen, List.getElem?_take_of_lt (by omega), List.getElem?_map, hy] at h9
      exact (Option.some.inj h9).symm
    rw [e, hat]
    show _ = a :: dedupFrom a (t ++ [key d[p + 1]])
    rw [dedupFrom_snoc, hlast]
    rw [hat] at ih
    have ih' : (dedTo key d (p + 1)).map key = a :: dedupFrom a t := ih
    by_cases hk : key d[p + 1] = key d[p]
    · rw [dedTo_skip (by rw [keepAt_at hx hy, hk]; simp), ih', if_pos hk, List.append_nil]
    · rw [dedTo_keep hx (by rw [keepAt_at hx hy]; simp [hk]), List.map_append, ih', if_neg hk]; rfl

end Go.Proofs.Ytkipgbgkhffkkaa

/- Contracts: slices and data compared (slices.Equal, slices.EqualFunc). -/
namespace Go.Proofs.Ytkipgbgkhffkkaa
open Go.RowKit
set_option linter.unusedVariables false
set_option linter.unusedSimpArgs false

set_option maxHeartbeats 400000 in
theorem equalInts (a b : Option Addr) (n m cap cap' : Nat) (xs ys : List Int) (w : World) (h : Ints w a n xs) (h' : Ints w b m ys) :
    Calls Try.prog 99 #[.slice a n cap, .slice b m cap'] w fun e w' => e = .returned (.bool (decide (xs = ys))) ∧ Drew w w' := by
  have hl := h.len
  have hl' := h'.len
  have hn := h.small
  have hn' := h'.small
  by_cases hnm : n = m
  · subst hnm
    go_enter Try.func99, Try.ntmps99
    go_wp2
    go_loopw [5, 13] (fun _ k wr => ∃ j : Nat, j ≤ n ∧ k = .int .i64 j ∧ Hid (xs.take j = ys.take j) ∧ Drew w wr) (fun _ k _ => n - (intOf k).toNat)
    case atStart => exact ⟨0, Nat.zero_le _, rfl, rfl, Drew.refl _⟩
    case round =>
      obtain ⟨j, hj, rfl, hE, hdr⟩ := hrel
      replace h := h.drew hdr
      replace h' := h'.drew hdr
      by_cases hlt : j < n
      · obtain ⟨b1, o1, x, rfl, hc, hx, _, _⟩ := h.get hlt
        obtain ⟨b2, o2, y, rfl, hc', hy, _, _⟩ := h'.get hlt
        by_cases hxy : x = y
        · have HE := Lib.hid (take_same (by omega) (by omega) hE.out (by rw [hx.out, hy.out, hxy]))
          have hne : (x != y) = false := by simp [hxy]
          clear h h' hl hl' hxy
          go_wp2
          go_quiet (fail)
          go_wp2
          go_roundw
          case rel => exact ⟨j + 1, by omega, by go_num, HE, hdr.step _⟩
          case measure => simp [intOf]; omega
        · have HE := Lib.hid (show decide (xs = ys) = false by
            simp only [decide_eq_false_iff_not]; intro e; subst e; exact hxy (hx.out.symm.trans hy.out))
          have hne : (x != y) = true := by simp [hxy]
          clear h h' hl hl' hxy
          go_wp2
          go_quiet (fail)
          go_wp2
          go_ret
          exact ⟨ret_bool HE.out.symm, hdr.step _⟩
      · have HE := Lib.hid (show decide (xs = ys) = true by
          have e := hE.out
          rw [List.take_of_length_le (by omega), List.take_of_length_le (by omega)] at e
          simp [e])
        clear h h' hl hl'
        go_wp2
        go_ret
        exact ⟨ret_bool HE.out.symm, hdr⟩
  · have HE := Lib.hid (show decide (xs = ys) = false by
      simp only [decide_eq_false_iff_not]; intro e; subst e; omega)
    have hne : ((n : Int) != (m : Int)) = true := by rw [bne_iff_ne]; omega
    clear hl hl' h h'
    go_enter Try.func99, Try.ntmps99
    go_wp2
    go_ret
    exact ⟨ret_bool HE.out.symm, Drew.refl _⟩

end Go.Proofs.Ytkipgbgkhffkkaa

/- Kind Db: shape, size, copy, comparison. Written by a program. -/
namespace Go.Proofs.Ytkipgbgkhffkkaa
open Go.RowKit
set_option linter.unusedVariables false
set_option linter.unusedSimpArgs false
set_option synthInstance.maxSize 2000
set_option synthInstance.maxHeartbeats 400000

abbrev DDb := List DT
def rDb : RS DDb := rTl
def oDb : OS DDb := oTl
theorem reads_Db : Reads oDb rDb := reads_Tl
theorem rDb_open {w : World} {cs : List Value} {x : DDb} (h : rDb.rep w cs x) : ∃ ub0 un0 uc0, cs = [.slice ub0 un0 uc0] ∧ rTl.rep w [.slice ub0 un0 uc0] x := by
  have hr0 := h
  obtain ⟨ub0, un0, uc0, rfl⟩ := rTl_form hr0
  exact ⟨_, _, _, rfl, hr0⟩
theorem rDb_form {w : World} {cs : List Value} {x : DDb} (h : rDb.rep w cs x) : ∃ ub0 un0 uc0, cs = [.slice ub0 un0 uc0] := by
  obtain ⟨ub0, un0, uc0, h1, _⟩ := rDb_open h
  exact ⟨_, _, _, h1⟩
theorem rDb_mk {w : World} {ub0 : Option Addr} {un0 uc0 : Nat} {x : DDb} (h0 : rTl.rep w [.slice ub0 un0 uc0] x) : rDb.rep w [.slice ub0 un0 uc0] x :=
  h0
theorem oDb_form {lo hi : Nat} {w : World} {cs : List Value} {x : DDb} (h : Own oDb lo hi w cs x) : ∃ ub0 un0 uc0, cs = [.slice ub0 un0 uc0] := rDb_form (h.rd reads_Db)

theorem oDb_mk {lo hi l0 m0 : Nat} {w : World} {ub0 : Option Addr} {un0 uc0 : Nat} {x : DDb} (ho0 : Own oTl l0 m0 w [.slice ub0 un0 uc0] x) (a0 : lo ≤ l0) (b0 : m0 ≤ hi)  : Own oDb lo hi w [.slice ub0 un0 uc0] x := by
  obtain ⟨f0, r0, n0, q0⟩ := ho0
  refine ⟨f0, r0, ?_, ?_⟩
  · try simp only [List.nil_append, List.append_nil]
    exact n0
  · intro p hp
    try simp only [List.nil_append, List.append_nil, List.mem_append] at hp
    have := q0 p hp; omega

def bulk_Db (x : DDb) : Nat := bulk_Tl x

set_option maxHeartbeats 1000000 in
theorem sz_Db (cs : List Value) (x : DDb) (left : Int) (w : World) (h : rDb.rep w cs x) (h0 : 0 ≤ left) (h1 : left ≤ 1048576) :
    Calls Try.prog 7 #[.agg cs.toArray, .int .i64 left] w fun e w' => e = .returned (.int .i64 (szR left (bulk_Db x))) ∧ Below w.heap.size w w' := by
  obtain ⟨ub0, un0, uc0, rfl, g0⟩ := rDb_open h
  clear h
  have HE0 : Hid (szR left (bulk_Db x) = szR left (bulk_Tl x)) := rfl
  go_enter Try.func7, Try.ntmps7
  obtain ⟨w1, hw1⟩ : ∃ W, W = w.alloc (.cells #[.slice ub0 un0 uc0] 24) := ⟨_, rfl⟩
  have z1 : Below w.heap.size w w1 := by rw [hw1]; exact (Below.refl _ _).alloc (Nat.le_refl _) _
  have s1 : w1.heap.size = w.heap.size + 1 := by rw [hw1]; simp
  have bp_0 : w1.cell? ⟨w.heap.size, 0, none⟩ = some (.slice ub0 un0 uc0) := by rw [hw1]; exact box_cell (Below.refl _ _) rfl
  have hb1 := z1
  go_wp2_with fail
  rw [← hw1]
  clear hw1
  refine (sz_Tl _ x _ _ (rTl.mono g0 hb1) (by omega) (by omega)).mono ?_
  rintro e w2 ⟨rfl, z2⟩
  have s2 := z2.size
  have hb2 := on hb1 z2
  replace bp_0 := (z2.cell (p := ⟨w.heap.size, 0, none⟩) (by simp only []; omega)).trans bp_0
  obtain ⟨q0, hq0⟩ : ∃ q, q = szR left (bulk_Tl x) := ⟨_, rfl⟩
  rw [← hq0]
  have hc0 := szR_cases left (bulk_Tl x)
  rw [← hq0] at hc0
  clear hq0
  rcases hc0 with ⟨rfl, l0⟩ | ⟨hq0, l0⟩
  · have HE := Lib.hid (HE0.out.trans (szR_no0 l0))
    clear l0
    go_wp2_with fail
    go_ret
    exact ⟨ret_int HE.out.symm, hb2⟩
  have HE1 := Lib.hid (HE0.out.trans ((szR_yes l0).trans (by rw [hq0])) : szR left (bulk_Db x) = q0)
  have p0 : 0 ≤ q0 := by omega
  have p0b : q0 ≤ 1048576 := by omega
  clear hq0 l0
  go_wp2_with fail
  go_ret
  exact ⟨ret_int HE1.out.symm, hb2⟩

set_option maxHeartbeats 2000000 in
theorem to_Db (cs : List Value) (x : DDb) (w : World) (h : rDb.rep w cs x) (hn : bulk_Db x ≤ 1048576) :
    Calls Try.prog 10 #[.agg cs.toArray] w fun e w' => ∃ us, e = .returned (.agg us.toArray) ∧ Own oDb w.heap.size w'.heap.size w' us x ∧ Below w.heap.size w w' := by
  obtain ⟨ub0, un0, uc0, rfl, g0⟩ := rDb_open h
  clear h
  unfold bulk_Db at hn
  have hn0 : bulk_Tl x ≤ 1048576 := by omega
  clear hn
  go_enter Try.func10, Try.ntmps10
  obtain ⟨W0, hW0⟩ : ∃ W, W = ((w.alloc (.cells #[.slice ub0 un0 uc0] 24)).alloc (.cells #[.slice none 0 0] 33)).alloc (.cells #[.slice none 0 0] 33) := ⟨_, rfl⟩
  have hB0 : Below w.heap.size w W0 := by rw [hW0]; exact (((Below.refl _ _).alloc (Nat.le_refl _) _).alloc (by simp) _).alloc (by simp <;> omega) _
  have t0 : W0.heap.size = w.heap.size + 1 + 1 + 1 := by rw [hW0]; simp
  have bp_0 : W0.cell? ⟨w.heap.size, 0, none⟩ = some (.slice ub0 un0 uc0) := by rw [hW0]; simp [go_sem, World.cell?_alloc_past]
  have br_0 : W0.cell? ⟨w.heap.size + 1, 0, none⟩ = some (.slice none 0 0) := by rw [hW0]; simp [go_sem, World.cell?_alloc_past]
  have fr_0 : W0.frozen? ⟨w.heap.size + 1, 0, none⟩ = false := by rw [hW0]; simp [go_sem, World.frozen?_alloc_past]
  have bo_0 : W0.cell? ⟨w.heap.size + 1 + 1, 0, none⟩ = some (.slice none 0 0) := by rw [hW0]; simp [go_sem, World.cell?_alloc_past]
  have fo_0 : W0.frozen? ⟨w.heap.size + 1 + 1, 0, none⟩ = false := by rw [hW0]; simp [go_sem, World.frozen?_alloc_past]
  go_wp2_with fail
  rw [← hW0]
  clear hW0
  refine (to_Tl _ x _ (rTl.mono g0 hB0) hn0).mono ?_
  rintro e w1 ⟨a0, rfl, ho0, z1⟩
  have s1 := z1.size
  obtain ⟨ab0, an0, ac0, rfl⟩ := oTl_form1 ho0
  have q1 := on hB0 z1
  replace bp_0 := (z1.cell (p := ⟨w.heap.size, 0, none⟩) (by simp only []; omega)).trans bp_0
  replace br_0 := (z1.cell (p := ⟨w.heap.size + 1, 0, none⟩) (by simp only []; omega)).trans br_0
  replace fr_0 := (z1.frozen (p := ⟨w.heap.size + 1, 0, none⟩) (by simp only []; omega)).trans fr_0
  replace bo_0 := (z1.cell (p := ⟨w.heap.size + 1 + 1, 0, none⟩) (by simp only []; omega)).trans bo_0
  replace fo_0 := (z1.frozen (p := ⟨w.heap.size + 1 + 1, 0, none⟩) (by simp only []; omega)).trans fo_0
  go_wp2_with fail
  refine bodyPost_ret (v := .agg #[.slice ab0 an0 ac0]) (by simp [results, Try.results10, go_sem, br_0, bo_0, fr_0, fo_0]) rfl ⟨_, rfl, ?_, ?_⟩
  · skip
    have hS0 : ∀ (W : World) (p : Addr) (u : Value), p.block < w.heap.size + 1 + 1 + 1 → Own oTl W0.heap.size w1.heap.size W [.slice ab0 an0 ac0] x → Own oTl W0.heap.size w1.heap.size (W.setCell p u) [.slice ab0 an0 ac0] x := fun W p u hp k9 => k9.setOut rfl (by omega)
    exact oDb_mk (hS0 _ _ _ (by simp <;> omega) (hS0 _ _ _ (by simp <;> omega) ho0)) (by omega) (by simp [World.setCell] <;> omega) 
  · exact ((q1.setCell (by simp <;> omega) _).setCell (by simp <;> omega) _)

set_option maxHeartbeats 2000000 in
theorem eq_Db (cs ds : List Value) (x y : DDb) (w : World) (h : rDb.rep w cs x) (h' : rDb.rep w ds y) :
    Calls Try.prog 13 #[.agg cs.toArray, .agg ds.toArray] w fun e w' => e = .returned (.bool (decide (x = y))) ∧ Below w.heap.size w w' := by
  obtain ⟨ub0, un0, uc0, rfl, g0⟩ := rDb_open h
  obtain ⟨vb0, vn0, vc0, rfl, k0⟩ := rDb_open h'
  clear h h'
  have hb1 : Below w.heap.size w ((w.alloc (.cells #[.slice ub0 un0 uc0] 33)).alloc (.cells #[.slice vb0 vn0 vc0] 33)) := ((Below.refl _ _).alloc (Nat.le_refl _) _).alloc (by simp) _
  go_enter Try.func13, Try.ntmps13
  obtain ⟨w1, hw1⟩ : ∃ W, W = (w.alloc (.cells #[.slice ub0 un0 uc0] 33)).alloc (.cells #[.slice vb0 vn0 vc0] 33) := ⟨_, rfl⟩
  have s1 : w1.heap.size = w.heap.size + 1 + 1 := by rw [hw1]; simp
  rw [← hw1] at hb1
  have bc_0 : w1.cell? ⟨w.heap.size, 0, none⟩ = some (.slice ub0 un0 uc0) := by rw [hw1]; simp [go_sem, World.cell?_alloc_past]
  have bd_0 : w1.cell? ⟨w.heap.size + 1, 0, none⟩ = some (.slice vb0 vn0 vc0) := by rw [hw1]; simp [go_sem, World.cell?_alloc_past]
  go_wp2_with fail
  rw [← hw1]
  clear hw1
  refine (eq_Tl _ _ x y _ (rTl.mono g0 hb1) (rTl.mono k0 hb1)).mono ?_
  rintro e w2 ⟨rfl, z2⟩
  have s2 := z2.size
  have hb2 := on hb1 z2
  replace bc_0 := (z2.cell (p := ⟨w.heap.size, 0, none⟩) (by simp only []; omega)).trans bc_0
  replace bd_0 := (z2.cell (p := ⟨w.heap.size + 1, 0, none⟩) (by simp only []; omega)).trans bd_0
  by_cases e0 : x = y
  case neg =>
    have HE := Lib.hid (show decide (x = y) = false by simp only [decide_eq_false_iff_not]; intro h9; exact e0 (by rw [h9]))
    have hne : decide (x = y) = false := by simpa using e0
    rw [hne]
    clear e0 hne
    go_wp2_with fail
    go_ret
    exact ⟨ret_bool HE.out.symm, hb2⟩
  have E0 := Lib.hid e0
  have hq0 : decide (x = y) = true := by simpa using e0
  rw [hq0]
  clear e0 hq0
  have HE := Lib.hid (show decide (x = y) = true by simp only [decide_eq_true_eq]; exact E0.out)
  go_wp2_with fail
  go_ret
  exact ⟨ret_bool HE.out.symm, hb2⟩

end Go.Proofs.Ytkipgbgkhffkkaa

/- Arguments of kind Q opened. Written by a program. -/
namespace Go.Proofs.Ytkipgbgkhffkkaa
open Go.ChangeShapes Go.WideShapes Go.ChangeAt Go.RowKit
set_option linter.unusedVariables false
set_option maxRecDepth 100000

theorem opens_Q : Opens 27 rQ := opens_struct2 Try.underlying27 (by kernel_rfl) rfl rfl (by kernel_rfl) (by kernel_rfl) opens_int opens_As
abbrev kQ_in := agg_in rQ
theorem open_kQ_in {H : Type} {enc : TypeId × Value → H} {W : World} {d : DataW H} {ps : List MemPlace} {v : Value} (hv : Value.okWide Try.prog W .any 0 27 v) (h : DataW.Trod enc Try.prog W 0 (fun _ => true) true 27 v d ps) : kQ_in W v :=
  open_agg_in Try.underlying27 opens_Q hv h

end Go.Proofs.Ytkipgbgkhffkkaa

/- Arguments of kind Tl opened. Written by a program. -/
namespace Go.Proofs.Ytkipgbgkhffkkaa
open Go.ChangeShapes Go.WideShapes Go.ChangeAt Go.RowKit
set_option linter.unusedVariables false
set_option maxRecDepth 100000

theorem opens_Tl : Opens 22 rTl := opens_slice Try.underlying22 (by kernel_rfl) (by decide) opens_T
def kTl_in (w : World) (v : Value) : Prop := ∃ u xs, v = u ∧ rTl.rep w [u] xs
theorem open_kTl_in {H : Type} {enc : TypeId × Value → H} {W : World} {d : DataW H} {ps : List MemPlace} {v : Value} (hv : Value.okWide Try.prog W .any 0 22 v) (h : DataW.Trod enc Try.prog W 0 (fun _ => true) true 22 v d ps) : kTl_in W v := by
  obtain ⟨a, l, c, rfl⟩ := okWide_slice Try.underlying22 hv
  obtain ⟨fuel, hf⟩ := h
  obtain ⟨xs, hx⟩ := opens_Tl H enc W fuel _ _ hf
  exact ⟨_, xs, rfl, by simpa [Value.cells] using hx⟩

end Go.Proofs.Ytkipgbgkhffkkaa

/- Rows in memory, as the library's sort takes them: elements of one cell, each with its ints and its blocks. -/
namespace Go.Proofs.Ytkipgbgkhffkkaa
open Go.RowKit Go.Sort
set_option linter.unusedVariables false
set_option linter.unusedSimpArgs false

/-- An element of rows in block g: its cell, its ints, its blocks. -/
structure El (w : World) (g : Nat) where
  v : Value
  xs : List Int
  fp : List Nat
  rep : oI.rep w [v] xs fp
  off : g ∉ fp
def El.none (w : World) (g : Nat) : El w g := ⟨.slice .none 0 0, [], [], ⟨_, [], [], rfl, by simp [bl, Value.ownBlock], World.ownsRow_nil _ _ _ _, trivial⟩, by simp⟩
instance (w : World) (g : Nat) : Inhabited (El w g) := ⟨El.none w g⟩
theorem El.one {w : World} {g : Nat} (x : El w g) : x.v.oneCell' = true := by
  obtain ⟨a, cap, h, _⟩ := oI_own x.rep
  simp at h
  rw [h]; rfl
theorem El.form {w : World} {g : Nat} (x : El w g) : ∃ a cap, x.v = .slice a x.xs.length cap := by
  obtain ⟨a, cap, h, _⟩ := oI_own x.rep
  simp at h
  exact ⟨a, cap, h⟩
theorem El.lt {w : World} {g : Nat} (x : El w g) : ∀ k ∈ x.fp, k < w.heap.size := oI.lt x.rep
/-- All blocks of elements. -/
def fps {w : World} {g : Nat} (d : List (El w g)) : List Nat := (d.map El.fp).flatten
/-- Block g's cells begin with these. -/
structure At (g c : Nat) (w' : World) (vs : List Value) : Prop where
  ex : ∃ cur, w'.heap[g]? = some (.cells cur 44 (0, 0)) ∧ cur.size = c ∧ cur.toList.take vs.length = vs
  le : vs.length ≤ c
  cap : c ≤ maxLen
/-- All blocks but g are as they were in w. -/
def But (g : Nat) (w w' : World) : Prop := ∀ k, k ≠ g → k < w.heap.size → w'.heap[k]? = w.heap[k]?
theorem But.refl (g : Nat) (w : World) : But g w w := fun _ _ _ => rfl
theorem But.trans {g : Nat} {a b c : World} (h : But g a b) (k : But g b c) (hs : a.heap.size ≤ b.heap.size) : But g a c := fun i h1 h2 => (k i h1 (by omega)).trans (h i h1 h2)
theorem But.rep {w w' : World} {g : Nat} (h : But g w w') (x : El w g) : oI.rep w' [x.v] x.xs x.fp :=
  oI.frame x.rep fun k hk => h k (fun e => x.off (e ▸ hk)) (x.lt k hk)
theorem At.holds {w w' : World} {g c : Nat} {d : List (El w g)} (h : At g c w' (d.map El.v)) : Holds El.v w' g 0 d.toArray := by
  obtain ⟨cur, hb, hs, ht⟩ := h.ex
  have hle := h.le
  simp only [List.length_map] at ht hle
  intro j hj
  simp only [List.size_toArray] at hj
  have hv : cur[j]? = some ((d[j]'hj).v) := by
    have h1 : (cur.toList.take d.length)[j]? = some ((d[j]'hj).v) := by rw [ht]; simp [hj]
    rw [List.getElem?_take_of_lt hj] at h1
    simpa using h1
  have e : d.toArray[j]! = d[j]'hj := by simp [hj]
  rw [e]
  refine ⟨?_, ?_⟩
  · simp only [World.cell?, hb, Nat.zero_add]
    exact hv
  · simp only [World.frozen?, hb]
    simp
/-- Rows of one's own, opened. -/
theorem rows_open {lo hi g n c : Nat} {w : World} {rows : List (List Int)} (h : Own oII lo hi w [.slice (some ⟨g, 0, .none⟩) n c] rows) :
    ∃ d : List (El w g), d.map El.xs = rows ∧ d.length = n ∧ At g c w (d.map El.v) ∧ g < w.heap.size ∧ (g :: fps d).Nodup ∧ ∀ k ∈ g :: fps d, lo ≤ k ∧ k < hi := by
  obtain ⟨fp, ⟨v, css, fs, hv, rfl, h1, h2⟩, hn, hb⟩ := h
  simp only [List.cons.injEq, and_true] at hv
  subst hv
  have hbl : bl (.slice (some ⟨g, 0, .none⟩) n c) = [g] := rfl
  rw [hbl] at hn hb
  have hgs := h1.lt g rfl
  obtain ⟨hlen, hor⟩ := h1
  rcases hor with ⟨h9, _⟩ | ⟨g', cap, cur, hv', _, hg, hnc, hcm, hcs, htk⟩
  · simp at h9
  simp at hv'
  obtain ⟨rfl, rfl, rfl⟩ := hv'
  have key : ∀ (css : List (List Value)) (xs : List (List Int)) (fs : List (List Nat)), oI.rows w css xs fs → g ∉ fs.flatten →
      ∃ d : List (El w g), d.map El.xs = xs ∧ d.map El.fp = fs ∧ d.map El.v = css.flatten := by
    intro css
    induction css with
    | nil =>
      intro xs fs h _
      match xs, fs, h with
      | [], [], _ => exact ⟨[], rfl, rfl, rfl⟩
    | cons c cs ih =>
      intro xs fs h hg
      match xs, fs, h with
      | x :: xs, f :: fs, h =>
        simp only [List.flatten_cons, List.mem_append, not_or] at hg
        obtain ⟨d, h1, h2, h3⟩ := ih xs fs h.2 hg.2
        obtain ⟨a, cap, rfl, _⟩ := oI_own h.1
        exact ⟨⟨_, x, f, h.1, hg.1⟩ :: d, by simp [h1], by simp [h2], by simp [h3]⟩
  obtain ⟨d, h1', h2', h3'⟩ := key css rows fs h2 (fun hm => (List.nodup_append.1 hn).2.2 g (by simp) g hm rfl)
  have hdl : d.length = rows.length := by rw [← h1']; simp
  refine ⟨d, h1', hdl, ⟨⟨cur, hg, by simpa [oI, O.slice] using hcs, ?_⟩, by simp [hdl]; exact hnc, hcm⟩, hgs.2, by unfold fps; rw [h2']; simpa using hn, by unfold fps; rw [h2']; simpa using hb⟩
  rw [h3'] 
  have e : css.flatten.length = rows.length * 1 := by simpa [oI, O.slice] using hlen
  rw [e]
  simpa [oI, O.slice] using htk
/-- Rows of one's own, closed. -/
theorem rows_close {lo hi g c : Nat} {w w' : World} {d : List (El w g)} (ha : At g c w' (d.map El.v)) (hb : But g w w') (hn : (g :: fps d).Nodup) (hr : ∀ k ∈ g :: fps d, lo ≤ k ∧ k < hi) :
    Own oII lo hi w' [.slice (some ⟨g, 0, .none⟩) d.length c] (d.map El.xs) := by
  refine ⟨g :: fps d, ⟨_, d.map fun x => [x.v], d.map El.fp, rfl, rfl, ?_, ?_⟩, hn, hr⟩
  · obtain ⟨cur, h1, h2, h3⟩ := ha.ex
    have hle := ha.le
    simp only [List.length_map] at h3 hle
    have e : (d.map fun x => [x.v]).flatten = d.map El.v := by
      clear h3 ha hn hr hle
      induction d with
      | nil => rfl
      | cons x t ih => simp [ih]
    rw [e]
    refine ⟨by simp [oI, O.slice], .inr ⟨g, c, cur, by simp, Nat.zero_le _, h1, by simpa using hle, ha.cap, by simpa [oI, O.slice] using h2, by simpa [oI, O.slice] using h3⟩⟩
  · clear ha hn hr
    induction d with
    | nil => trivial
    | cons x t ih => exact ⟨hb.rep x, ih⟩
/-- The row laid anew. -/
theorem At.put {w w1 : World} {g c : Nat} {d d' : List (El w g)} (h : At g c w1 (d.map El.v)) (hl : d'.length = d.length) : At g c (putRow El.v w1 g 0 d'.toArray) (d'.map El.v) := by
  obtain ⟨cur, hb, hs, ht⟩ := h.ex
  have hle := h.le
  simp only [List.length_map] at ht hle
  refine ⟨⟨putCells El.v 0 d'.toArray cur, ?_, by simp [putCells, hs], ?_⟩, by simp; omega, h.cap⟩
  · simp only [putRow, mapBlock, Array.getElem?_modify, if_true, hb, Option.map_some, onCells]
  · apply List.ext_getElem?
    intro j
    by_cases hj : j < d'.length
    · have hjc : j < cur.size := by omega
      rw [List.length_map, List.getElem?_take_of_lt hj]
      simp [putCells, Array.getElem?_mapIdx, hj, hjc]
    · rw [List.getElem?_eq_none (by simp; omega), List.getElem?_eq_none (by simp; omega)]
theorem But.put {w w1 : World} {g : Nat} {d' : List (El w g)} (h : But g w w1) : But g w (putRow El.v w1 g 0 d'.toArray) := fun k hk hs => by
  rw [← h k hk hs]
  simp only [putRow, mapBlock, Array.getElem?_modify]
  rw [if_neg (Ne.symm hk)]
theorem At.grow {g c : Nat} {w1 : World} {vs : List Value} (h : At g c w1 vs) (hg : g < w1.heap.size) (os : Array Obj) : At g c (grow w1 os) vs := by
  obtain ⟨cur, hb, hs, ht⟩ := h.ex
  exact ⟨⟨cur, by rw [heap_grow_old w1 os hg]; exact hb, hs, ht⟩, h.le, h.cap⟩
theorem But.grow {g : Nat} {w w1 : World} (h : But g w w1) (hs : w.heap.size ≤ w1.heap.size) (os : Array Obj) : But g w (grow w1 os) := fun k hk h2 => by
  rw [heap_grow_old w1 os (by omega)]; exact h k hk h2
theorem At.sort {w : World} {g c n : Nat} {d : List (El w g)} {d' : List (El w g)} (os : Array Obj) (h : At g c w (d.map El.v)) (hg : g < w.heap.size) (hl : d'.length = d.length) :
    At g c (Go.Proofs.sortWorld El.v w g 0 n d'.toArray os) (d'.map El.v) ∧ But g w (Go.Proofs.sortWorld El.v w g 0 n d'.toArray os) := by
  have h1 : At g c (Go.Sort.ahead w n) (d.map El.v) := ⟨h.ex, h.le, h.cap⟩
  exact ⟨(h1.put hl).grow (by rw [size_putRow]; exact hg) os, (But.put (w1 := Go.Sort.ahead w n) (But.refl g w)).grow (by rw [size_putRow]; exact Nat.le_refl _) os⟩
theorem fps_perm {w : World} {g : Nat} {d d' : List (El w g)} (h : d'.Perm d) : (fps d').Perm (fps d) := (h.map _).flatten
theorem fps_sub {w : World} {g : Nat} {d d' : List (El w g)} (h : d'.Sublist d) : (fps d').Sublist (fps d) := by
  induction h with
  | slnil => exact List.Sublist.refl _
  | cons x _ ih => exact ih.trans (List.sublist_append_right x.fp _)
  | cons_cons x _ ih => exact (List.Sublist.refl x.fp).append ih
/-- Sorted in the order of their ints. -/
def cfE {w : World} {g : Nat} (x y : El w g) : Int := cmpRows x.xs y.xs
theorem swoE (w : World) (g : Nat) : SWO (Go.Proofs.ltOf (cfE (w := w) (g := g))) where
  irrefl x := by simp [Go.Proofs.ltOf, cfE, cmpRows_self]
  trans x y z h1 h2 := decide_eq_true (cmpRows_lt_trans (of_decide_eq_true h1) (of_decide_eq_true h2))
  ntrans x y z h1 h2 := by
    refine decide_eq_false fun h3 => ?_
    have h1' := of_decide_eq_false h1
    have h2' := of_decide_eq_false h2
    simp only [cfE] at h1' h2' h3
    rcases Int.lt_trichotomy (cmpRows x.xs y.xs) 0 with h | h | h
    · exact h1' h
    · have := (cmpRows_zero _ _).1 h
      rw [this] at h3; exact h2' h3
    · have hyx := cmpRows_gt_iff.1 h
      exact h2' (cmpRows_lt_trans hyx h3)
theorem sorted_pair {w : World} {g : Nat} {d' : Array (El w g)} (h : SortedIn (Go.Proofs.ltOf cfE) 0 d'.size d') : (d'.toList.map El.xs).Pairwise (fun a b => ¬ cmpRows b a < 0) := by
  rw [List.pairwise_map, List.pairwise_iff_getElem]
  intro i j hi hj hij
  simp only [Array.length_toList] at hi hj
  have h1 := h i j (Nat.zero_le _) hij hj
  rw [getElem!_pos d' i hi, getElem!_pos d' j hj] at h1
  exact of_decide_eq_false h1
theorem permIn_all {w : World} {g : Nat} {d : List (El w g)} {d' : Array (El w g)} (h : PermIn 0 d.toArray.size d.toArray d') : d'.toList.Perm d ∧ d'.size = d.length := by
  obtain ⟨h1, _, h3⟩ := h
  simp only [List.size_toArray] at h1 h3
  refine ⟨?_, h1⟩
  have e1 : d'.extract 0 d.length = d' := by rw [← h1]; exact Array.extract_size
  have e2 : (d.toArray.extract 0 d.length).toList = d := by simp
  rw [e1, e2] at h3
  exact h3

end Go.Proofs.Ytkipgbgkhffkkaa

/- Contracts: columns selected from a row. -/
namespace Go.Proofs.Ytkipgbgkhffkkaa
open Go.RowKit
set_option linter.unusedVariables false
set_option linter.unusedSimpArgs false
set_option synthInstance.maxSize 2000
set_option synthInstance.maxHeartbeats 400000

/-- Whether columns are columns of a row. -/
def selOk (row cols : List Int) : Bool := cols.all (fun c => betw c 0 ((row.length : Int) - 1))
/-- The values of a row at columns. -/
def selAt (row cols : List Int) : List Int := cols.map (fun c => row.getD c.toNat 0)
def sel (row cols : List Int) : List Int := if selOk row cols then selAt row cols else []
theorem selAt_len (row cols : List Int) : (selAt row cols).length = cols.length := by simp [selAt]
theorem sel_len (row cols : List Int) : (sel row cols).length ≤ cols.length := by
  unfold sel; split <;> simp [selAt]
theorem selAt_step {row cols : List Int} {j : Nat} {c : Nat} {x : Int} (hj : j < cols.length) (hc : cols.getD j 0 = (c : Int)) (hx : row.getD c 0 = x) : selAt row (cols.take (j + 1)) = selAt row (cols.take j) ++ [x] := by
  rw [take_snoc cols j hj, hc]; simp only [selAt, List.map_append, List.map_cons, List.map_nil, Int.toNat_natCast, hx]
theorem selOk_no {row cols : List Int} {j : Nat} {x : Int} (hj : j < cols.length) (hc : cols.getD j 0 = x) (hb : betw x 0 ((row.length : Int) - 1) = false) : selOk row cols = false := by
  rw [selOk, List.all_eq_false]
  refine ⟨x, ?_, by rw [hb]; simp⟩
  rw [← hc, List.getD_eq_getElem?_getD, List.getElem?_eq_getElem hj]
  exact List.getElem_mem hj
theorem selOk_at {row cols : List Int} {j : Nat} {x : Int} (hj : j < cols.length) (hc : cols.getD j 0 = x) : selOk row (cols.drop j) = (betw x 0 ((row.length : Int) - 1) && selOk row (cols.drop (j + 1))) := by
  rw [drop_cons cols j hj, hc]; rfl
theorem selOk_end {row cols : List Int} {j : Nat} (hj : cols.length ≤ j) : selOk row (cols.drop j) = true := by
  rw [List.drop_eq_nil_of_le hj]; rfl
theorem I64.nat {x : Int} (h : betw x 0 9223372036854775806 = true) : ∃ c : Nat, x = (c : Int) := by
  refine ⟨x.toNat, ?_⟩
  simp only [betw, Bool.and_eq_true, decide_eq_true_eq] at h; omega
theorem betw_nat {x m : Int} (h : betw x 0 m = true) : ∃ c : Nat, x = (c : Int) ∧ (c : Int) ≤ m := by
  simp only [betw, Bool.and_eq_true, decide_eq_true_eq] at h
  exact ⟨x.toNat, by omega, by omega⟩

set_option maxHeartbeats 2000000 in
theorem sel_impl (a b : Option Addr) (n m cap cap' : Nat) (row cols : List Int) (w : World) (h : Ints w a n row) (h' : Ints w b m cols) (hm : m ≤ 1048576) :
    Calls Try.prog 97 #[.slice a n cap, .slice b m cap'] w fun e w' => ∃ vb vn vc, e = .returned (.tuple #[.slice vb vn vc, .bool (selOk row cols)]) ∧ Own oI w.heap.size w'.heap.size w' [.slice vb vn vc] (sel row cols) ∧ Below w.heap.size w w' := by
  have hl := h.len
  have hl' := h'.len
  have hn := h.small
  have hn' := h'.small
  have HV : Hid (selOk row cols = selOk row (cols.drop 0)) := Lib.hid (by simp)
  have hwn : IntKind.i64.wrap ((n : Int) - 1) = (n : Int) - 1 := IntWalk.i64_in _ (by omega)
  have hb0 : Below w.heap.size w w := Below.refl _ _
  go_enter Try.func97, Try.ntmps97
  obtain ⟨w1, hw1⟩ : ∃ W, W = w.alloc (.cells #[] 3) := ⟨_, rfl⟩
  have z1 : Below w.heap.size w w1 := by rw [hw1]; exact (Below.refl _ _).alloc (Nat.le_refl _) _
  have s1 : w1.heap.size = w.heap.size + 1 := by rw [hw1]; simp
  have hb1 := on hb0 z1
  have ho : ∀ S, Acc 3 O.int w.heap.size S w1.heap.size w1 (.slice (some ⟨w.heap.size, 0, none⟩) 0 0) [] := fun S => by rw [hw1]; exact Acc.empty (by omega) (by first | (simp; done) | (simp; omega))
  go_wp2_with fail
  rw [← hw1]
  clear hw1
  go_loopw [6, 12] (fun v i wr => ∃ j : Nat, j ≤ m ∧ i = .int .i64 j ∧ Hid (selOk row cols = selOk row (cols.drop j)) ∧ Acc 3 O.int w.heap.size w1.heap.size wr.heap.size wr v (selAt row (cols.take j)) ∧ Turn w.heap.size (w.heap.size + 1) w1 wr) (fun _ i _ => m - (intOf i).toNat)
  case atStart => exact ⟨0, Nat.zero_le _, rfl, HV.out, by rw [List.take_zero]; exact (ho _).wide (Nat.le_refl _) (by omega), turn_refl _ _ _⟩
  case round =>
    obtain ⟨j, hj, rfl, hE, hacc, hdr⟩ := hrel
    have hlc := hdr
    have s2 := hdr.size
    have hb2 := hb1.trans ((hdr.below (by omega)).mono (by omega))
    have hbl : (selAt row (cols.take j)).length ≤ 1048576 := by rw [selAt_len]; have h2 : (cols.take j).length ≤ j := List.length_take_le _ _; omega
    by_cases hlt : j < m
    · obtain ⟨b1, o1, x, rfl, hc, hx, _, _⟩ := h'.get hlt
      have c0_lt : b1 < w.heap.size := cell_lt hc
      have c0 : wr.cell? ⟨b1, o1 + j, none⟩ = some (.int .i64 x) := (hb2.cell (p := ⟨b1, o1 + j, none⟩) c0_lt).trans hc
      have hcall := fun W => within_any x 0 ((n : Int) - 1) W
      by_cases hb : betw x 0 ((n : Int) - 1) = true
      case neg =>
        replace hb : betw x 0 ((n : Int) - 1) = false := by simpa using hb
        have HE := Lib.hid (selOk_no (row := row) (by omega) hx.out (by rw [hl]; exact hb))
        rw [hb] at hcall
        have HC := Lib.hid hcall
        have HS := Lib.hid (show sel row cols = [] by simp [sel, HE.out])
        clear h h' hb hcall hE HV hl hl' ho hx hc hacc
        go_wp2_with fail
        refine (HC.out _).mono ?_
        rintro e w' ⟨rfl, rfl⟩
        go_wp2_with fail
        refine bodyPost_ret (v := .tuple #[.slice none 0 0, .bool false]) (by simp [results, Try.results97, go_sem]) rfl ⟨_, _, _, by rw [HE.out], by rw [HS.out]; exact own_nil_S.mono (Nat.le_refl _) (by omega), hb2⟩
      obtain ⟨c, rfl, hcn⟩ := betw_nat hb
      rw [hb] at hcall
      have HC := Lib.hid hcall
      obtain ⟨b2, o2, y, rfl, hcy, hy, hy1, hy2⟩ := h.get (show c < n by omega)
      have cy_lt : b2 < w.heap.size := cell_lt hcy
      have cy : wr.cell? ⟨b2, o2 + c, none⟩ = some (.int .i64 y) := (hb2.cell (p := ⟨b2, o2 + c, none⟩) cy_lt).trans hcy
      have HB := Lib.hid (selAt_step (show j < cols.length by omega) hx.out hy.out)
      have HE : Hid (selOk row cols = selOk row (cols.drop (j + 1))) := Lib.hid (by rw [hE.out, selOk_at (by omega) hx.out, hl, hb]; rfl)
      clear h h' hb hcall hE HV hl hl' ho hx hc hy hcy
      go_wp2_with (first
        | (go_at_call 68; refine (HC.out _).mono ?_; rintro e w' ⟨rfl, rfl⟩)
        | (at_builtin; refine wpList_accI _ _ _ _ _ hacc hlc rfl (by omega) (Nat.le_refl _) ⟨by omega, by omega⟩ (by omega) rfl rfl rfl rfl rfl ?_; intro v' w1 hacc' ht' hsz'))
      rw [← HB.out] at hacc'
      go_roundw
      case rel => exact ⟨j + 1, by omega, by go_num, HE.out, hacc', ht'⟩
      case measure => simp [intOf]; omega
    · obtain rfl : j = m := by omega
      have HE : Hid (selOk row cols = true) := Lib.hid (by rw [hE.out, selOk_end (by omega)])
      have HS := Lib.hid (show sel row cols = selAt row cols by simp [sel, HE.out])
      rw [List.take_of_length_le (by omega), ← HS.out] at hacc
      obtain ⟨a', n', cap2, rfl⟩ := hacc.form3
      have HO := Lib.hid (hacc.own (B := w.heap.size) (by omega) (by omega) (Nat.le_refl _))
      clear hacc h h' hl hl' ho hE HV
      go_wp2_with fail
      refine bodyPost_ret (v := .tuple #[.slice a' n' cap2, .bool true]) (by simp [results, Try.results97, go_sem]) rfl ⟨_, _, _, by rw [HE.out], HO.out, hb2⟩

set_option maxHeartbeats 2000000 in
theorem sel_spec (a b : Option Addr) (n m cap cap' : Nat) (row cols : List Int) (w : World) (h : Ints w a n row) (h' : Ints w b m cols) (hm : m ≤ 1048576) :
    Calls Try.prog 117 #[.slice a n cap, .slice b m cap'] w fun e w' => ∃ vb vn vc, e = .returned (.tuple #[.slice vb vn vc, .bool (selOk row cols)]) ∧ Own oI w.heap.size w'.heap.size w' [.slice vb vn vc] (sel row cols) ∧ Below w.heap.size w w' := by
  have hl := h.len
  have hl' := h'.len
  have hn := h.small
  have hn' := h'.small
  have HV : Hid (selOk row cols = selOk row (cols.drop 0)) := Lib.hid (by simp)
  have hwn : IntKind.i64.wrap ((n : Int) - 1) = (n : Int) - 1 := IntWalk.i64_in _ (by omega)
  have hb0 : Below w.heap.size w w := Below.refl _ _
  go_enter Try.func117, Try.ntmps117
  obtain ⟨w1, hw1⟩ : ∃ W, W = w.alloc (.cells #[] 3) := ⟨_, rfl⟩
  have z1 : Below w.heap.size w w1 := by rw [hw1]; exact (Below.refl _ _).alloc (Nat.le_refl _) _
  have s1 : w1.heap.size = w.heap.size + 1 := by rw [hw1]; simp
  have hb1 := on hb0 z1
  have ho : ∀ S, Acc 3 O.int w.heap.size S w1.heap.size w1 (.slice (some ⟨w.heap.size, 0, none⟩) 0 0) [] := fun S => by rw [hw1]; exact Acc.empty (by omega) (by first | (simp; done) | (simp; omega))
  go_wp2_with fail
  rw [← hw1]
  clear hw1
  go_loopw [6, 7] (fun v i wr => ∃ j : Nat, j ≤ m ∧ i = .int .i64 j ∧ Hid (selOk row cols = selOk row (cols.drop j)) ∧ Acc 3 O.int w.heap.size w1.heap.size wr.heap.size wr v (selAt row (cols.take j)) ∧ Turn w.heap.size (w.heap.size + 1) w1 wr) (fun _ i _ => m - (intOf i).toNat)
  case atStart => exact ⟨0, Nat.zero_le _, rfl, HV.out, by rw [List.take_zero]; exact (ho _).wide (Nat.le_refl _) (by omega), turn_refl _ _ _⟩
  case round =>
    obtain ⟨j, hj, rfl, hE, hacc, hdr⟩ := hrel
    have hlc := hdr
    have s2 := hdr.size
    have hb2 := hb1.trans ((hdr.below (by omega)).mono (by omega))
    have hbl : (selAt row (cols.take j)).length ≤ 1048576 := by rw [selAt_len]; have h2 : (cols.take j).length ≤ j := List.length_take_le _ _; omega
    by_cases hlt : j < m
    · obtain ⟨b1, o1, x, rfl, hc, hx, _, _⟩ := h'.get hlt
      have c0_lt : b1 < w.heap.size := cell_lt hc
      have c0 : wr.cell? ⟨b1, o1 + j, none⟩ = some (.int .i64 x) := (hb2.cell (p := ⟨b1, o1 + j, none⟩) c0_lt).trans hc
      have hcall := fun W => l1In_any x 0 ((n : Int) - 1) W
      by_cases hb : betw x 0 ((n : Int) - 1) = true
      case neg =>
        replace hb : betw x 0 ((n : Int) - 1) = false := by simpa using hb
        have HE := Lib.hid (selOk_no (row := row) (by omega) hx.out (by rw [hl]; exact hb))
        rw [hb] at hcall
        have HC := Lib.hid hcall
        have HS := Lib.hid (show sel row cols = [] by simp [sel, HE.out])
        clear h h' hb hcall hE HV hl hl' ho hx hc hacc
        go_wp2_with fail
        refine (HC.out _).mono ?_
        rintro e w' ⟨rfl, rfl⟩
        go_wp2_with fail
        refine bodyPost_ret (v := .tuple #[.slice (some ⟨wr.heap.size, 0, none⟩) 0 0, .bool false]) (by simp [results, Try.results117, go_sem]) rfl ⟨_, _, _, by rw [HE.out], by rw [HS.out]; exact ((Acc.empty (E := 3) (o := O.int) (S := w.heap.size) (g := wr.heap.size) (hi := wr.heap.size + 1) rfl (by omega)).own (by omega) (Nat.le_refl _) (by simp)), hb2.trans ((Below.refl _ _).alloc (by omega) _)⟩
      obtain ⟨c, rfl, hcn⟩ := betw_nat hb
      rw [hb] at hcall
      have HC := Lib.hid hcall
      obtain ⟨b2, o2, y, rfl, hcy, hy, hy1, hy2⟩ := h.get (show c < n by omega)
      have cy_lt : b2 < w.heap.size := cell_lt hcy
      have cy : wr.cell? ⟨b2, o2 + c, none⟩ = some (.int .i64 y) := (hb2.cell (p := ⟨b2, o2 + c, none⟩) cy_lt).trans hcy
      have HB := Lib.hid (selAt_step (show j < cols.length by omega) hx.out hy.out)
      have HE : Hid (selOk row cols = selOk row (cols.drop (j + 1))) := Lib.hid (by rw [hE.out, selOk_at (by omega) hx.out, hl, hb]; rfl)
      clear h h' hb hcall hE HV hl hl' ho hx hc hy hcy
      go_wp2_with (first
        | (go_at_call 67; refine (HC.out _).mono ?_; rintro e w' ⟨rfl, rfl⟩)
        | (at_builtin; refine wpList_accI _ _ _ _ _ hacc hlc rfl (by omega) (Nat.le_refl _) ⟨by omega, by omega⟩ (by omega) rfl rfl rfl rfl rfl ?_; intro v' w1 hacc' ht' hsz'))
      rw [← HB.out] at hacc'
      go_roundw
      case rel => exact ⟨j + 1, by omega, by go_num, HE.out, hacc', ht'⟩
      case measure => simp [intOf]; omega
    · obtain rfl : j = m := by omega
      have HE : Hid (selOk row cols = true) := Lib.hid (by rw [hE.out, selOk_end (by omega)])
      have HS := Lib.hid (show sel row cols = selAt row cols by simp [sel, HE.out])
      rw [List.take_of_length_le (by omega), ← HS.out] at hacc
      obtain ⟨a', n', cap2, rfl⟩ := hacc.form3
      have HO := Lib.hid (hacc.own (B := w.heap.size) (by omega) (by omega) (Nat.le_refl _))
      clear hacc h h' hl hl' ho hE HV
      go_wp2_with fail
      refine bodyPost_ret (v := .tuple #[.slice a' n' cap2, .bool true]) (by simp [results, Try.results117, go_sem]) rfl ⟨_, _, _, by rw [HE.out], HO.out, hb2⟩


end Go.Proofs.Ytkipgbgkhffkkaa

/- Contracts: whether a query is valid. -/
namespace Go.Proofs.Ytkipgbgkhffkkaa
open Go.RowKit
set_option linter.unusedVariables false
set_option linter.unusedSimpArgs false

/-- Variables as bits, laid over some. -/
def vbits (m : Nat) : List Int → Nat
  | [] => m
  | v :: t => vbits (m ||| 2 ^ v.toNat) t
def varsFrom (n : Int) (pre : List Int) : List Int → Bool
  | [] => true
  | v :: t => betw v 0 (n - 1) && !has pre v && varsFrom n (pre ++ [v]) t
def validFrom (n m : Nat) : List DA → Bool
  | [] => decide (m = 2 ^ n - 1)
  | a :: t => nameB a.1 && betw a.2.length 1 3 && (varsFrom n [] a.2 && validFrom n (vbits m a.2) t)
/-- Whether a query is valid. -/
def validQ (q : DQ) : Bool := betw q.1 1 4 && betw q.2.length 1 4 && validFrom q.1.toNat 0 q.2

theorem validQ_no1 {q : DQ} (h : betw q.1 1 4 = false) : validQ q = false := by simp [validQ, h]
theorem validQ_no2 {q : DQ} (h : betw q.2.length 1 4 = false) : validQ q = false := by simp [validQ, h]
theorem validQ_go {n : Nat} {xs : List DA} (h : betw (n : Int) 1 4 = true) (h' : betw xs.length 1 4 = true) : validQ ((n : Int), xs) = validFrom n 0 (xs.drop 0) := by simp [validQ, h, h']
theorem validFrom_at {n m j : Nat} {xs : List DA} {a : DA} (h : xs[j]? = some a) : validFrom n m (xs.drop j) = (nameB a.1 && betw a.2.length 1 3 && (varsFrom n (a.2.take 0) (a.2.drop 0) && validFrom n (vbits m (a.2.drop 0)) (xs.drop (j + 1)))) := by
  obtain ⟨h1, rfl⟩ := List.getElem?_eq_some_iff.1 h
  rw [List.drop_eq_getElem_cons h1]; simp [validFrom]
theorem validFrom_end {n m j : Nat} {xs : List DA} (h : xs.length ≤ j) : validFrom n m (xs.drop j) = decide (m = 2 ^ n - 1) := by
  rw [List.drop_eq_nil_of_le h]; rfl
theorem vars_no {n : Int} {k : Nat} {v : Int} {vs : List Int} (hk : k < vs.length) (hv : vs.getD k 0 = v) (h : (betw v 0 (n - 1) && !has (vs.take k) v) = false) : varsFrom n (vs.take k) (vs.drop k) = false := by
  rw [drop_cons vs k hk, hv, varsFrom, h]; rfl
theorem vars_yes {n : Int} {k : Nat} {v : Int} {vs : List Int} (hk : k < vs.length) (hv : vs.getD k 0 = v) (h : betw v 0 (n - 1) = true) (h' : has (vs.take k) v = false) : varsFrom n (vs.take k) (vs.drop k) = varsFrom n (vs.take (k + 1)) (vs.drop (k + 1)) := by
  rw [drop_cons vs k hk, hv, varsFrom, h, h', take_snoc vs k hk, hv]; simp
theorem vbits_at {m k : Nat} {v : Nat} {vs : List Int} (hk : k < vs.length) (hv : vs.getD k 0 = (v : Int)) : vbits m (vs.drop k) = vbits (m ||| 2 ^ v) (vs.drop (k + 1)) := by
  rw [drop_cons vs k hk, hv, vbits]; simp
theorem vars_end {n : Int} {k : Nat} {vs : List Int} (hk : vs.length ≤ k) : varsFrom n (vs.take k) (vs.drop k) = true := by
  rw [List.drop_eq_nil_of_le hk]; rfl
theorem vbits_end {m k : Nat} {vs : List Int} (hk : vs.length ≤ k) : vbits m (vs.drop k) = m := by
  rw [List.drop_eq_nil_of_le hk]; rfl
theorem or_lt {m v n : Nat} (h : m < 2 ^ n) (hv : v < n) : m ||| 2 ^ v < 2 ^ n := Nat.or_lt_two_pow h (Nat.pow_lt_pow_right (by omega) hv)
theorem pow_le16 {n : Nat} (h : n ≤ 4) : 2 ^ n ≤ 16 := by
  have := Nat.pow_le_pow_right (show 0 < 2 by omega) h
  omega
theorem Ints.takeTo {w : World} {a : Option Addr} {n : Nat} {xs : List Int} (h : Ints w a n xs) {k : Nat} (hk : k ≤ n) : Ints w a k (xs.take k) := by
  have hl := h.len
  refine ⟨by simp; omega, by have := h.small; omega, fun i hi => ?_, fun x hx => h.rng x (List.mem_of_mem_take hx)⟩
  obtain ⟨b, off, ha, hc⟩ := h.cell i (by omega)
  refine ⟨b, off, ha, ?_⟩
  rw [hc]
  congr 2
  simp [List.getD_eq_getElem?_getD, hi]

/-- Block g holds n bools: the bits of m. -/
structure Bools (w : World) (g n m : Nat) : Prop where
  blk : ∃ E, w.heap[g]? = some (.cells ((List.range n).map (fun i => Value.bool (m.testBit i))).toArray E)
theorem Bools.below {w w' : World} {g n m C : Nat} (h : Bools w g n m) (hb : Below C w w') (hC : g < C) : Bools w' g n m := by
  obtain ⟨E, h⟩ := h.blk
  exact ⟨E, by rw [hb.block g hC]; exact h⟩
theorem Bools.cell {w : World} {g n m : Nat} (h : Bools w g n m) {i : Nat} (hi : i < n) : w.cell? ⟨g, i, none⟩ = some (.bool (m.testBit i)) := by
  obtain ⟨E, h⟩ := h.blk
  simp [World.cell?, h, hi]
theorem Bools.frozen {w : World} {g n m : Nat} (h : Bools w g n m) (i : Nat) : w.frozen? ⟨g, i, none⟩ = false := by
  obtain ⟨E, h⟩ := h.blk
  simp [World.frozen?, h]
theorem Bools.lt {w : World} {g n m : Nat} (h : Bools w g n m) : g < w.heap.size := by
  obtain ⟨E, h⟩ := h.blk
  exact (Array.getElem?_eq_some_iff.1 h).1
theorem Bools.set {w : World} {g n m : Nat} (h : Bools w g n m) {v : Nat} (hv : v < n) : Bools (w.setCell ⟨g, v, none⟩ (.bool true)) g n (m ||| 2 ^ v) := by
  obtain ⟨E, h⟩ := h.blk
  refine ⟨E, ?_⟩
  rw [heap_setCell_same w g v _ E _ h]
  congr 2
  apply Array.ext'
  simp only [Array.toList_setIfInBounds]
  apply List.ext_getElem?
  intro i
  rw [List.getElem?_set]
  by_cases hi : i < n
  · by_cases hiv : v = i
    · subst hiv; simp [hi, Nat.testBit_or, Nat.testBit_two_pow_self]
    · simp [hi, hiv, Nat.testBit_or, Nat.testBit_two_pow_of_ne hiv]
  · have : v ≠ i := by omega
    simp [hi, this]
theorem Bools.of_part {B : Nat} {w : World} {g n : Nat} {xs : List Bool} {E : TypeId} (h : Part E O.bool [.bool false] B w g n 0 xs) : Bools w g n 0 := by
  obtain ⟨css, fps, h1, h2, _⟩ := h
  have : css = [] := by
    have := (O.bool.rows_len h2).1
    simpa using this
  subst this
  refine ⟨E, ?_⟩
  rw [h1]
  congr 2
  simp only [List.flatten_nil, List.nil_append, Nat.sub_zero]
  congr 1
  apply List.ext_getElem?
  intro i
  have := rep_flat [Value.bool false] (by simp) n i
  rw [this]
  by_cases hi : i < n <;> simp [hi, Nat.mod_one]

theorem Turn.setCell {lo hi : Nat} {a w : World} (h : Turn lo hi a w) {p : Addr} (h1 : lo ≤ p.block) (h2 : p.block < hi) (u : Value) : Turn lo hi a (w.setCell p u) :=
  h.trans ((Kept.refl lo hi w).setCell h1 h2 u).turn

theorem wrap_pow {n : Nat} (h : n ≤ 16) : wrap64 ((2 : Int) ^ n) = ((2 ^ n : Nat) : Int) := by
  have h1 := Nat.pow_le_pow_right (show 0 < 2 by omega) h
  have h2 : ((2 : Int) ^ n) = ((2 ^ n : Nat) : Int) := by simp
  rw [h2]
  generalize 2 ^ n = p at h1
  exact IntWalk.wrap64_in _ ⟨by omega, by omega⟩
theorem or_pow {m v : Nat} (hm : m < 65536) (hv : v ≤ 16) : bits .or .i64 (m : Int) (wrap64 ((2 : Int) ^ v)) = ((m ||| 2 ^ v : Nat) : Int) := by
  have h1 := Nat.pow_le_pow_right (show 0 < 2 by omega) hv
  rw [wrap_pow hv]
  generalize 2 ^ v = p at h1
  exact bits_or_nat _ _ (by omega) (by omega)
theorem full_eq {m n : Nat} (hn : n ≤ 16) : ((m : Int) == wrap64 (wrap64 ((2 : Int) ^ n) - 1)) = decide (m = 2 ^ n - 1) := by
  have h1 := Nat.pow_le_pow_right (show 0 < 2 by omega) hn
  have h2 := Nat.two_pow_pos n
  rw [wrap_pow hn]
  generalize 2 ^ n = p at h1 h2
  rw [IntWalk.wrap64_in _ ⟨by omega, by omega⟩, Bool.eq_iff_iff]
  simp only [beq_iff_eq, decide_eq_true_eq]
  omega

set_option maxHeartbeats 400000 in
theorem indexBools (g n m cap : Nat) (w : World) (h : Bools w g n m) (hn : n ≤ 4) (hm : m < 2 ^ n) :
    Calls Try.prog 151 #[.slice (some ⟨g, 0, none⟩) n cap, .bool false] w fun e w' => ∃ r : Int, e = .returned (.int .i64 r) ∧ decide (0 ≤ r) = !decide (m = 2 ^ n - 1) ∧ w = w' := by
  go_enter Try.func151, Try.ntmps151
  go_wp2
  go_loop [5, 8] (fun _ i => ∃ j : Nat, j ≤ n ∧ i = .int .i64 j ∧ Hid (∀ i, i < j → m.testBit i = true)) (fun _ i => n - (intOf i).toNat)
  case atStart => exact ⟨0, Nat.zero_le _, rfl, by simp [Hid]⟩
  case round =>
    obtain ⟨j, hj, rfl, hE⟩ := hrel
    by_cases hlt : j < n
    · have hc := h.cell hlt
      obtain ⟨t, ht⟩ : ∃ t, t = m.testBit j := ⟨_, rfl⟩
      rw [← ht] at hc
      cases t with
      | true =>
        have HE := Lib.hid (show ∀ i, i < j + 1 → m.testBit i = true by
          intro i hi
          rcases Nat.lt_or_ge i j with h1 | h1
          · exact hE.out i h1
          · obtain rfl : i = j := by omega
            exact ht.symm)
        clear h ht hm
        go_wp2
        go_round
        case rel => exact ⟨j + 1, by omega, by go_num, HE.out⟩
        case measure => simp [intOf]; omega
      | false =>
        have HE := Lib.hid (show (!decide (m = 2 ^ n - 1)) = true by
          simp only [Bool.not_eq_true', decide_eq_false_iff_not]
          intro e
          subst e
          rw [Nat.testBit_two_pow_sub_one] at ht
          simp [hlt] at ht)
        clear h ht hm
        go_wp2
        go_ret
        exact ⟨_, rfl, by rw [HE.out]; simp, rfl⟩
    · have HE := Lib.hid (show (!decide (m = 2 ^ n - 1)) = false by
        simp only [Bool.not_eq_false', decide_eq_true_eq]
        apply Nat.eq_of_testBit_eq
        intro i
        rw [Nat.testBit_two_pow_sub_one]
        by_cases hi : i < n
        · rw [hE.out i (by omega)]; simp [hi]
        · simp only [hi, decide_false]
          exact Nat.testBit_lt_two_pow (Nat.lt_of_lt_of_le hm (Nat.pow_le_pow_right (by omega) (by omega))))
      clear h hm
      go_wp2
      go_ret
      exact ⟨_, rfl, by rw [HE.out]; rfl, rfl⟩

theorem containsBools (g n m cap : Nat) (w : World) (h : Bools w g n m) (hn : n ≤ 4) (hm : m < 2 ^ n) :
    Calls Try.prog 123 #[.slice (some ⟨g, 0, none⟩) n cap, .bool false] w fun e w' => e = .returned (.bool (!decide (m = 2 ^ n - 1))) ∧ w = w' := by
  go_enter Try.func123, Try.ntmps123
  go_wp2_with fail
  refine (indexBools _ _ _ _ _ h hn hm).mono ?_
  rintro e w' ⟨r, rfl, hr, rfl⟩
  have HR := Lib.hid hr
  clear hr hm
  go_wp2_with fail
  go_ret
  exact ⟨ret_bool HR.out, rfl⟩

end Go.Proofs.Ytkipgbgkhffkkaa

/- Contracts: rows compacted by the library (slices.CompactFunc); rows sorted, each once (impl.sorted). -/
namespace Go.Proofs.Ytkipgbgkhffkkaa
open Go.RowKit Go.Sort
set_option linter.unusedVariables false
set_option linter.unusedSimpArgs false
set_option synthInstance.maxSize 2000
set_option synthInstance.maxHeartbeats 400000

theorem At.cell {g c j : Nat} {W : World} {vs : List Value} {u : Value} (h : At g c W vs) (hj : vs[j]? = some u) : W.cell? ⟨g, j, none⟩ = some u ∧ W.frozen? ⟨g, j, none⟩ = false := by
  obtain ⟨cur, hb, hs, ht⟩ := h.ex
  have hjl := (List.getElem?_eq_some_iff.1 hj).1
  have h1 : (cur.toList.take vs.length)[j]? = some u := by rw [ht]; exact hj
  rw [List.getElem?_take_of_lt hjl] at h1
  refine ⟨?_, ?_⟩
  · simp only [World.cell?, hb]; simpa using h1
  · simp only [World.frozen?, hb]; simp
theorem At.drew {g c : Nat} {W W' : World} {vs : List Value} (h : At g c W vs) (hd : Drew W W') : At g c W' vs := by
  obtain ⟨m, rfl⟩ := hd
  exact ⟨h.ex, h.le, h.cap⟩
theorem At.set {g c k : Nat} {W : World} {vs : List Value} (h : At g c W vs) (u : Value) : At g c (W.setCell ⟨g, k, none⟩ u) (vs.set k u) := by
  obtain ⟨cur, hb, hs, ht⟩ := h.ex
  refine ⟨⟨cur.setIfInBounds k u, ?_, by simp [hs], ?_⟩, by simpa using h.le, h.cap⟩
  · rw [setCell_eq]
    simp only [mapBlock, Array.getElem?_modify, if_true, hb, Option.map_some, onCells]
  · rw [List.length_set, Array.toList_setIfInBounds, List.take_set, ht]
theorem But.set {g k : Nat} {w W : World} (h : But g w W) (u : Value) : But g w (W.setCell ⟨g, k, none⟩ u) := fun i h1 h2 => by
  rw [← h i h1 h2]; exact Below.heap_setCell _ _ _ _ h1
theorem At.pre {g c : Nat} {W : World} {us vs : List Value} (h : At g c W (us ++ vs)) : At g c W us := by
  obtain ⟨cur, hb, hs, ht⟩ := h.ex
  have hle := h.le
  rw [List.length_append] at hle
  refine ⟨⟨cur, hb, hs, ?_⟩, by omega, h.cap⟩
  have h1 := congrArg (List.take us.length) ht
  rw [List.take_take, List.length_append, Nat.min_eq_left (by omega), List.take_left' rfl] at h1
  exact h1
theorem eqFn_any (a b : Option Addr) (n m cap cap' : Nat) (xs ys : List Int) (w : World) (h : Ints w a n xs) (h' : Ints w b m ys) :
    Calls Try.prog 136 #[.slice a n cap, .slice b m cap'] w fun e w' => e = .returned (.bool (decide (xs = ys))) ∧ Drew w w' := by
  have HC := Lib.hid (equalInts a b n m cap cap' xs ys w h h')
  clear h h'
  go_enter Try.func136, Try.ntmps136
  go_wp2_with (go_at_call 99; refine HC.out.mono ?_; rintro e w9 ⟨rfl, hd⟩)
  go_ret
  exact ⟨rfl, hd⟩
theorem El.ints {w W : World} {g : Nat} (x : El w g) (hb : But g w W) : ∃ a cap, x.v = .slice a x.xs.length cap ∧ Ints W a x.xs.length x.xs := by
  obtain ⟨a, cap, h, ho, _⟩ := oI_own (hb.rep x)
  simp at h
  exact ⟨a, cap, h, ho.ints⟩
/-- The comparison, at elements. -/
theorem eqEl_any {w W : World} {g : Nat} (x y : El w g) (hb : But g w W) :
    Calls Try.prog 136 #[x.v, y.v] W fun e w' => e = .returned (.bool (decide (x.xs = y.xs))) ∧ Drew W w' := by
  obtain ⟨a, cap, h1, i1⟩ := x.ints hb
  obtain ⟨b, cap', h2, i2⟩ := y.ints hb
  rw [h1, h2]
  exact eqFn_any a b _ _ cap cap' _ _ W i1 i2

theorem setCells_pre {g c : Nat} : ∀ (zs : List Value) {W : World} {vs : List Value} {o : Nat}, At g c W vs → vs.length ≤ o → At g c (W.setCells g o zs) vs
  | [], W, vs, o, h, _ => h
  | z :: t, W, vs, o, h, ho => by
    have h1 := h.set (k := o) z
    rw [List.set_eq_of_length_le ho] at h1
    exact setCells_pre t h1 (by omega)
theorem setCells_turn {g : Nat} : ∀ (zs : List Value) (W : World) (o : Nat), Turn g (g + 1) W (W.setCells g o zs)
  | [], W, o => turn_refl _ _ _
  | z :: t, W, o => ((turn_refl g (g + 1) W).setIn (p := ⟨g, o, none⟩) (Nat.le_refl _) (Nat.lt_succ_self _) z).trans (setCells_turn t _ (o + 1))
theorem turn_drew {lo hi : Nat} {a b : World} (h : Drew a b) : Turn lo hi a b := by
  obtain ⟨m, rfl⟩ := h
  exact ⟨rfl, rfl, rfl, Nat.le_refl _, fun _ _ _ => rfl⟩
theorem Turn.but {g : Nat} {w a b : World} (h : But g w a) (hs : w.heap.size ≤ a.heap.size) (k : Turn g (g + 1) a b) : But g w b := fun i h1 h2 =>
  (k.block i (by omega) (by omega)).trans (h i h1 h2)
theorem dedRow_skip {α : Type} {key : α → List Int} {d : List α} {p : Nat} (h : keepAt key d p = false) : dedRow key d (p + 1) = dedRow key d p := by
  rw [dedRow, dedRow, dedTo_skip h]

set_option maxRecDepth 100000 in
set_option maxHeartbeats 4000000 in
theorem compF_any {w : World} {g c : Nat} (d : List (El w g)) (w1 : World) (ha : At g c w1 (d.map El.v)) (hb : But g w w1) (hsz : w.heap.size ≤ w1.heap.size) (hg : g < w.heap.size) (n : Nat) (hnl : d.length = n) (hn : n ≤ 1000000000) :
    Calls Try.prog 135 #[.slice (some ⟨g, 0, none⟩) n c, .func (.func 136) #[] #[]] w1 fun e w2 => e = .returned (.slice (some ⟨g, 0, none⟩) (dedTo El.xs d n).length c) ∧ At g c w2 ((dedTo El.xs d n).map El.v) ∧ Turn g (g + 1) w1 w2 := by
  have hcap : n ≤ c := by have := ha.le; simpa [hnl] using this
  have hcm := ha.cap
  have hcm2 : c ≤ 9223372036854775807 := by unfold maxLen at hcm; omega
  have hbq : ∀ W, Drew w1 W → But g w W := fun W h i h1 h2 => by obtain ⟨m, rfl⟩ := h; exact hb i h1 h2
  by_cases h2 : n < 2
  · have HD : Hid (dedTo El.xs d n = d) := Lib.hid (by
      rw [dedTo_all (fun j hj => by (obtain rfl : j = 0 := (by omega)); exact keepAt_zero), List.take_of_length_le (by omega)])
    have HA := Lib.hid ha
    clear ha hb hbq
    go_enter Try.func135, Try.ntmps135
    go_wp2_with fail
    go_ret
    exact ⟨by rw [HD.out, hnl]; rfl, by rw [HD.out]; exact HA.out, turn_refl _ _ _⟩
  go_enter Try.func135, Try.ntmps135
  go_wp2_with fail
  go_loopw [5] (fun s wr => ∃ k : Nat, 1 ≤ k ∧ k ≤ n ∧ s = .int .i64 k ∧ Hid (∀ j, j < k → keepAt El.xs d j = true) ∧ Drew w1 wr) (fun s _ => n - (intOf s).toNat)
  case atStart => exact ⟨1, Nat.le_refl _, by omega, rfl, Lib.hid (fun j hj => by (obtain rfl : j = 0 := (by omega)); exact keepAt_zero), Drew.refl _⟩
  case round =>
    obtain ⟨k, hk1, hk, rfl, hall, hdr⟩ := hrel
    obtain ⟨i, rfl⟩ : ∃ i, k = i + 1 := ⟨k - 1, by omega⟩
    have hld := hdr
    have ha2 := ha.drew hdr
    have hb2 := hbq wr hdr
    by_cases hlt : i + 1 < n
    · obtain ⟨x, hx⟩ : ∃ x, d[i + 1]? = some x := ⟨_, List.getElem?_eq_getElem (by omega)⟩
      obtain ⟨y, hy⟩ : ∃ y, d[i]? = some y := ⟨_, List.getElem?_eq_getElem (by omega)⟩
      obtain ⟨c1, f1⟩ := ha2.cell (j := i + 1) (u := x.v) (by simp [hx])
      obtain ⟨c0, f0⟩ := ha2.cell (j := i) (u := y.v) (by simp [hy])
      have heq := fun q => eqEl_any (W := wr.drewN q) x y (fun j h1 h2 => hb2 j h1 h2)
      have hka := keepAt_at (key := El.xs) hx hy
      obtain ⟨t, ht⟩ : ∃ t, decide (x.xs = y.xs) = t := ⟨_, rfl⟩
      rw [ht] at hka
      simp only [ht] at heq
      have HEQ := Lib.hid heq
      have HKA := Lib.hid hka
      have hi63 : IntKind.i64.wrap (i : Int) = (i : Int) := IntWalk.i64_in _ (by omega)
      clear heq hka ht
      cases t with
      | false =>
        have HALL : Hid (∀ j, j < i + 1 + 1 → keepAt El.xs d j = true) := Lib.hid (fun j hj => by
          by_cases e : j = i + 1
          · subst e; exact HKA.out
          · exact hall.out j (by omega))
        clear hall HKA
        go_wp2_with fail
        go_quiet ((go_at_call 136; exact quiet_drew (HEQ.out _)))
        clear hi63
        go_wp2_with fail
        go_roundw
        case rel => exact ⟨i + 1 + 1, by omega, by omega, by go_num, HALL, hld.step _⟩
        case measure => simp [intOf]; omega
      | true =>
        have hd1 : dedTo El.xs d (i + 1) = d.take (i + 1) := dedTo_all (fun j hj => hall.out j hj)
        have hd2 : dedTo El.xs d (i + 1 + 1) = d.take (i + 1) := by rw [dedTo_skip HKA.out, hd1]
        have hdl : (dedTo El.xs d (i + 1 + 1)).length = i + 1 := by rw [hd2, List.length_take]; omega
        have hdr2 : dedRow El.xs d (i + 1 + 1) = d := by rw [dedRow, hdl, hd2, List.take_append_drop]
        have HD1 := Lib.hid hdl
        have HD2 := Lib.hid hdr2
        clear hall HKA hd1 hd2 hdl hdr2
        go_wp2_with fail
        go_quiet ((go_at_call 136; exact quiet_drew (HEQ.out _)))
        clear hi63 HEQ
        have hwq := fun q => (turn_drew (lo := g) (hi := g + 1) (hld.step q))
        have haq := fun q => ha.drew (hld.step q)
        go_wp2_with fail
        go_loopw [5, 7] (fun s5 s7 wr => ∃ k2 kk : Nat, 1 ≤ k2 ∧ i + 1 + k2 ≤ n ∧ s7 = .int .i64 k2 ∧ s5 = .int .i64 kk ∧ kk + 1 ≤ i + 1 + k2 ∧ Hid ((dedTo El.xs d (i + 1 + k2)).length = kk) ∧ At g c wr ((dedRow El.xs d (i + 1 + k2)).map El.v) ∧ Turn g (g + 1) w1 wr) (fun _ s7 _ => n - (i + 1 + (intOf s7).toNat))
        case atStart => exact ⟨1, i + 1, Nat.le_refl _, by omega, rfl, rfl, by omega, HD1, by rw [HD2.out]; exact haq _, hwq _⟩
        case round =>
          obtain ⟨k2, kk, hk21, hk2, rfl, rfl, hkk, hlen, hA, hT⟩ := hrel
          obtain ⟨q, rfl⟩ : ∃ q, k2 = q + 1 := ⟨k2 - 1, by omega⟩
          have hb3 := Turn.but hb hsz hT
          clear haq hwq ha2 hb2
          by_cases hlt2 : i + 1 + (q + 1) < n
          · obtain ⟨x2, hx2⟩ : ∃ x, d[i + 1 + (q + 1)]? = some x := ⟨_, List.getElem?_eq_getElem (by omega)⟩
            obtain ⟨y2, hy2⟩ : ∃ y, d[i + 1 + q]? = some y := ⟨_, List.getElem?_eq_getElem (by omega)⟩
            obtain ⟨c3, f3⟩ := hA.cell (j := i + 1 + (q + 1)) (u := x2.v) (by rw [List.getElem?_map, dedRow_get (by rw [hlen.out]; omega), hx2]; rfl)
            obtain ⟨c2, f2⟩ := hA.cell (j := i + 1 + q) (u := y2.v) (by rw [List.getElem?_map, dedRow_get (by rw [hlen.out]; omega), hy2]; rfl)
            obtain ⟨z, hz⟩ : ∃ z, d[kk]? = some z := ⟨_, List.getElem?_eq_getElem (by omega)⟩
            obtain ⟨ck, fk⟩ := hA.cell (j := kk) (u := z.v) (by rw [List.getElem?_map, dedRow_get (by rw [hlen.out]; omega), hz]; rfl)
            have heq := fun q => eqEl_any (W := wr.drewN q) x2 y2 (fun j h1 h2 => hb3 j h1 h2)
            have hka : keepAt El.xs d (i + 1 + (q + 1)) = !decide (x2.xs = y2.xs) := keepAt_at (key := El.xs) (p := i + 1 + q) hx2 hy2
            obtain ⟨t, ht⟩ : ∃ t, decide (x2.xs = y2.xs) = t := ⟨_, rfl⟩
            rw [ht] at hka
            simp only [ht] at heq
            have HEQ := Lib.hid heq
            have hi63 : IntKind.i64.wrap (q : Int) = (q : Int) := IntWalk.i64_in _ (by omega)
            clear heq ht
            cases t with
            | true =>
              have HLEN : Hid ((dedTo El.xs d (i + 1 + (q + 1 + 1))).length = kk) := Lib.hid (by
                show (dedTo El.xs d (i + 1 + (q + 1) + 1)).length = kk
                rw [dedTo_skip hka, hlen.out])
              have HROW : Hid (dedRow El.xs d (i + 1 + (q + 1 + 1)) = dedRow El.xs d (i + 1 + (q + 1))) := Lib.hid (dedRow_skip hka)
              clear hka hlen
              go_wp2_with fail
              go_quiet ((go_at_call 136; exact quiet_drew (HEQ.out _)))
              clear hi63
              go_wp2_with fail
              go_roundw
              case rel => exact ⟨q + 1 + 1, kk, by omega, by omega, by go_num, rfl, by omega, HLEN, by rw [HROW.out]; exact hA.drew ⟨_, rfl⟩, hT.trans (turn_drew ⟨_, rfl⟩)⟩
              case measure => simp [intOf]; omega
            | false =>
              have HLEN : Hid ((dedTo El.xs d (i + 1 + (q + 1 + 1))).length = kk + 1) := Lib.hid (by
                show (dedTo El.xs d (i + 1 + (q + 1) + 1)).length = kk + 1
                rw [dedTo_keep hx2 hka, List.length_append, hlen.out]; rfl)
              have HROW : Hid ((dedRow El.xs d (i + 1 + (q + 1))).set kk x2 = dedRow El.xs d (i + 1 + (q + 1 + 1))) := Lib.hid (by
                have h9 := dedRow_set (key := El.xs) hx2 hka
                rw [hlen.out] at h9; exact h9)
              obtain ⟨xa, xcp, hxv⟩ := x2.form
              rw [hxv] at c3 HEQ
              clear hka hlen
              go_wp2_with fail
              go_quiet ((go_at_call 136; exact quiet_drew (HEQ.out _)))
              clear hi63
              go_wp2_with fail
              go_roundw
              case rel =>
                refine ⟨q + 1 + 1, kk + 1, by omega, by omega, by go_num, by go_num, by omega, HLEN, ?_, ?_⟩
                · rw [← HROW.out, List.map_set]
                  rw [hxv]
                  exact (hA.drew ⟨_, rfl⟩).set _
                · exact (hT.trans (turn_drew ⟨_, rfl⟩)).setIn (p := ⟨g, kk, none⟩) (Nat.le_refl _) (Nat.lt_succ_self _) _
              case measure => simp [intOf]; omega
          · have hpn : i + 1 + (q + 1) = n := by omega
            rw [hpn] at hA hlen
            have hkn : kk < n := by omega
            have hcl : ∀ ty, (Builtin.clear_ #[52] ty #[.slice (some ⟨g, kk, none⟩) (n - kk) (c - kk)]).run Try.prog wr = .ok (.tuple #[]) (wr.setCells g kk (List.replicate (n - kk) (.slice none 0 0))) := fun ty =>
              Lib.run_clear_slice wr 52 44 ty (.slice none 0 0) Try.underlying52 Try.zeroValue44 rfl rfl g kk (n - kk) (c - kk) (by omega)
                (fun j hj => by
                  obtain ⟨u, hu⟩ : ∃ u, ((dedRow El.xs d n).map El.v)[kk + j]? = some u := ⟨_, List.getElem?_eq_getElem (by rw [List.length_map, dedRow_len (by omega)]; omega)⟩
                  rw [(hA.cell hu).1]; rfl)
                (fun j hj => by
                  obtain ⟨u, hu⟩ : ∃ u, ((dedRow El.xs d n).map El.v)[kk + j]? = some u := ⟨_, List.getElem?_eq_getElem (by rw [List.length_map, dedRow_len (by omega)]; omega)⟩
                  exact (hA.cell hu).2)
            have HA := Lib.hid (show At g c (wr.setCells g kk (List.replicate (n - kk) (.slice none 0 0))) ((dedTo El.xs d n).map El.v) from
              setCells_pre _ (by rw [dedRow, List.map_append] at hA; exact hA.pre) (by rw [List.length_map, hlen.out]; exact Nat.le_refl _))
            have HT := Lib.hid (hT.trans (setCells_turn (List.replicate (n - kk) (.slice none 0 0)) wr kk))
            clear hA hT hb3 hpn
            go_wp2_with fail
            go_ret
            exact ⟨by rw [hlen.out]; rfl, HA.out, HT.out⟩
    · have hkn : i + 1 = n := by omega
      have HD : Hid (dedTo El.xs d n = d) := Lib.hid (by
        rw [dedTo_all (fun j hj => hall.out j (by omega)), List.take_of_length_le (by omega)])
      have HA := Lib.hid ha2
      clear hall ha2 hb2 ha hb hbq
      go_wp2_with fail
      go_ret
      exact ⟨by rw [HD.out, hnl]; rfl, by rw [HD.out]; exact HA.out, turn_drew hld⟩

theorem But.sortA {w : World} {g m : Nat} (dk : Array (El w g)) (os : Array Obj) : But g w (Go.Proofs.sortWorld El.v w g 0 m dk os) := fun k hk hs => by
  unfold Go.Proofs.sortWorld
  rw [heap_grow_old _ _ (by rw [size_putRow]; exact hs)]
  simp only [putRow, mapBlock, Array.getElem?_modify]
  rw [if_neg (Ne.symm hk)]
  rfl
theorem sortW_below {w : World} {g m lo : Nat} (dk : Array (El w g)) (os : Array Obj) (hl : lo ≤ w.heap.size) (hg : lo ≤ g) : Below lo w (Go.Proofs.sortWorld El.v w g 0 m dk os) :=
  ⟨rfl, rfl, rfl, by unfold Go.Proofs.sortWorld; rw [size_grow, size_putRow]; exact Nat.le_add_right _ _, fun k hk => But.sortA dk os k (by omega) (by omega)⟩
/-- impl.CompareRows, wherever the library's sort calls it. -/
theorem cmpLays {w : World} {g n : Nat} : Go.Proofs.CmpLays1 Try.prog 134 #[] (El.v (w := w) (g := g)) cfE g 0 n w := by
  intro m os dk hs x y
  obtain ⟨a, cap, h1, i1⟩ := x.ints (But.sortA (m := m) dk os)
  obtain ⟨b, cap', h2, i2⟩ := y.ints (But.sortA (m := m) dk os)
  rw [h1, h2]
  refine (cmpRows_any a b _ _ cap cap' _ _ _ i1 i2).mono ?_
  rintro e w' ⟨rfl, rfl⟩
  exact ⟨rfl, 0, #[], (grow_empty _).symm⟩
theorem own_nilptr {lo hi n c : Nat} {w : World} {rows : List (List Int)} {a : Option Addr} (h : Own oII lo hi w [.slice a n c] rows) : (a = none ∧ n = 0 ∧ c = 0 ∧ rows = []) ∨ ∃ g, a = some ⟨g, 0, none⟩ ∧ rows.length = n := by
  obtain ⟨fp, ⟨v, css, fs, hv, rfl, h1, h2⟩, hn, hb⟩ := h
  simp only [List.cons.injEq, and_true] at hv
  subst hv
  have hr := oI.rows_len h2
  rcases h1.2 with ⟨h9, h0⟩ | ⟨g, cap, cur, hv', _, _, _, _, _, _⟩
  · simp at h9
    exact .inl ⟨h9.1, h9.2.1, h9.2.2, List.eq_nil_of_length_eq_zero h0⟩
  · simp at hv'
    exact .inr ⟨g, hv'.1, hv'.2.1.symm⟩

end Go.Proofs.Ytkipgbgkhffkkaa
