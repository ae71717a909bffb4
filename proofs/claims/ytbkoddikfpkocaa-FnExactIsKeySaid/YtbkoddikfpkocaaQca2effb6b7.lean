/- Texts joined for one claim: Copy, KQ, KTl, ODl, OT, ValidAn, ValidT, ColsOk, KDb, Sel, ValidQ, MaskP, ValidDb. -/
import Derived.Test.YtbkoddikfpkocaaQ7b1804fcbb
import Derived.Deep.AppendSrc
import Derived.Deep.RegionHeld3

/- Contracts: copies of rows and tables. -/
namespace Go.Proofs.Ytbkoddikfpkocaa
open Go.RowKit Go.Sort
set_option linter.unusedVariables false
set_option linter.unusedSimpArgs false
set_option synthInstance.maxSize 2000
set_option synthInstance.maxHeartbeats 400000

theorem info_zero {e : TypeId} {z : Value} {size bytes : Nat} (h : (Try.prog.info? e).map (fun i => (i.zero, i.size, i.bytes)) = some (some z, size, bytes)) : ∃ i, Try.prog.info? e = some i ∧ i.zero = some z ∧ i.size = size ∧ i.bytes = bytes := info_parts h

/-- 'append([]int{}, xs...)', xs nil or not. -/
theorem wpList_copyI {W : World} {ops : Array Oper} {rest : List Oper} {o : Oper} {a : Act} {Q : Exit → Act → World → Prop}
    (s x : Operand) (g n c : Nat) (ad : Option Addr) (xs : List Int) (hg : W.heap.size = g) (hi : Ints (W.alloc (.cells #[] 3)) ad n xs) (hn : n ≤ 1000000000000)
    (hgd : o.guard = none) (ho : o.op = .call { callee := .builtin .append, args := #[s, x], argTypes := #[24, 24] })
    (hs : a.eval s = .slice (some ⟨g, 0, none⟩) 0 0) (hx : a.eval x = .slice ad n c)
    (h : ∀ v' w', OwnInts W.heap.size w' v' n xs → Below W.heap.size W w' → W.heap.size < w'.heap.size → wpList Try.prog ops Q rest (a.put o.dst v') w') :
    wpList Try.prog ops Q (o :: rest) a (W.alloc (.cells #[] 3)) := by
  subst hg
  obtain ⟨i, hi0, hz0, hz1, hz2⟩ := info_parts infoInt
  have hown := own_empty (Nat.le_refl W.heap.size)
  have hbl : Below W.heap.size W (W.alloc (.cells #[] 3)) := (Below.refl _ _).alloc (Nat.le_refl _) _
  cases ad with
  | none =>
    have hn0 : n = 0 := by
      rcases Nat.eq_zero_or_pos n with h0 | h0
      · exact h0
      · obtain ⟨b, off, hb, _⟩ := hi.cell 0 h0; simp at hb
    subst hn0
    have hx0 : xs = [] := List.eq_nil_of_length_eq_zero hi.len
    subst hx0
    refine wpList_plain hgd fun K hK => ?_
    have hr : (Builtin.append_ #[24, 24] o.type #[.slice (some ⟨W.heap.size, 0, none⟩) 0 0, .slice none 0 c]).run Try.prog (W.alloc (.cells #[] 3)) = .ok (.slice (some ⟨W.heap.size, 0, none⟩) 0 0) (W.alloc (.cells #[] 3)) := run_append_room_src (P := Try.prog) (W.alloc (.cells #[] 3)) 24 24 o.type 3 i Try.underlying24 hi0 W.heap.size 0 0 0 (.slice none 0 c) 0 [] (Src.ofNil _ Try.underlying24 c) (by omega) (by simp) (by simp)
    unfold Oper.wp execOp
    simp only [ho, resolve, invoke, builtin, Sem.run_bind, Sem.run_pure, Result.andThen_ok, List.map_toArray, List.map_cons, List.map_nil, hs, hx, hr]
    exact hK _ _ (h _ _ hown hbl (by simp))
  | some ad =>
    have hnews : ∀ j u, (xs.map (Value.int .i64))[j]? = some u → (W.alloc (.cells #[] 3)).cell? (ad.add j) = some u := by
      intro j u hu
      rw [List.getElem?_map] at hu
      have hj : j < n := by
        rw [← hi.len]
        rcases Nat.lt_or_ge j xs.length with h1 | h1
        · exact h1
        · rw [List.getElem?_eq_none h1] at hu; simp at hu
      obtain ⟨b, off, hb, hc⟩ := hi.cell j hj
      simp at hb
      subst hb
      rw [List.getD_eq_getElem?_getD] at hc
      rw [List.getElem?_eq_getElem (by rw [hi.len]; exact hj)] at hu hc
      simp at hu
      subst hu
      rw [Addr.add_lit]
      simpa using hc
    refine wpList_append_own _ hgd s x 24 ho W.heap.size 3 i (.int .i64 0) 1 8 Try.underlying24 hi0 hz0 hz1 hz2 rfl (by decide) _ 0 [] hs (by simpa using hown.row) ad n c (xs.map (Value.int .i64)) hx (by simp [hi.len]) hnews (by intro z hz; simp at hz; obtain ⟨y, _, rfl⟩ := hz; rfl) (by unfold maxLen; omega) (by omega) (by simp) ?_
    intro v' w' h1 h2 _
    refine h v' w' ⟨hi.len, by simpa using h1, hi.rng⟩ (hbl.grown h2 (by simp) (fun k hk => by simp [Value.ownBlock] at hk; omega)) ?_
    have := h2.size; simp at this; omega

theorem copyInts_any (v : Value) (xs : List Int) (w : World) (h : rI.rep w [v] xs) (hn : xs.length ≤ 100000000) :
    Calls Try.prog 165 #[v] w fun e w' => ∃ u, e = .returned u ∧ Own oI w.heap.size w'.heap.size w' [u] xs ∧ Below w.heap.size w w' := by
  obtain ⟨a, cap, rfl, _, _, hi⟩ := rI_open h
  have hi2 := hi.below ((Below.refl _ _).alloc (Nat.le_refl _) (.cells #[] 3))
  clear h
  go_enter Try.func165, Try.ntmps165
  go_wp2_with ((at_builtin; refine wpList_copyI _ _ _ _ _ _ xs rfl hi2 (by omega) rfl rfl rfl rfl ?_; intro v' w1 hown hb hsz))
  obtain ⟨a', cap', rfl, _⟩ := own_form hown.row
  go_wp2_with fail
  go_ret
  exact ⟨_, rfl, hown.own, hb⟩

theorem infoI : (Try.prog.info? 24).map (fun i => (i.zero, i.size, i.bytes)) = some (some (.slice none 0 0), 1, 24) := by kernel_rfl

set_option maxHeartbeats 1000000 in
theorem copyRows_any (v : Value) (xss : List (List Int)) (w : World) (h : rII.rep w [v] xss) (hn : bulk_II xss ≤ 100000000) :
    Calls Try.prog 187 #[v] w fun e w' => ∃ u, e = .returned u ∧ Own oII w.heap.size w'.heap.size w' [u] xss ∧ Below w.heap.size w w' := by
  obtain ⟨a, cap, rfl, _, _, t0⟩ := rS_open h
  clear h
  obtain ⟨n, hl⟩ : ∃ n, xss.length = n := ⟨_, rfl⟩
  rw [hl] at t0 ⊢
  have hn1 : n ≤ 100000000 := by unfold bulk_II at hn; omega
  have hrows : ∀ (j : Nat) (r : List Int), xss[j]? = some r → r.length ≤ 100000000 := fun j r hr => by
    have h9 := sumBy_mem bulk_I hr; unfold bulk_II at hn; unfold bulk_I at h9 hn; omega
  have HR := Lib.hid hrows
  clear hn hrows
  have hb0 : Below w.heap.size w w := Below.refl _ _
  go_enter Try.func187, Try.ntmps187
  obtain ⟨w1, hw1⟩ : ∃ W, W = w.alloc (.cells #[] 24) := ⟨_, rfl⟩
  have z1 : Below w.heap.size w w1 := by rw [hw1]; exact (Below.refl _ _).alloc (Nat.le_refl _) _
  have s1 : w1.heap.size = w.heap.size + 1 := by rw [hw1]; simp
  have hb1 := on hb0 z1
  have ho : ∀ S, Acc 24 oI w.heap.size S w1.heap.size w1 (.slice (some ⟨w.heap.size, 0, none⟩) 0 0) [] := fun S => by rw [hw1]; exact Acc.empty (by omega) (by first | (simp; done) | (simp; omega))
  go_wp2_with fail
  rw [← hw1]
  clear hw1
  go_loopw [3, 9] (fun v k wr => ∃ j : Nat, j ≤ n ∧ k = .int .i64 j ∧ Acc 24 oI w.heap.size w1.heap.size wr.heap.size wr v (xss.take j) ∧ Turn w.heap.size (w.heap.size + 1) w1 wr) (fun _ k _ => n - (intOf k).toNat)
  case atStart => exact ⟨0, Nat.zero_le _, rfl, by rw [List.take_zero]; exact (ho _).wide (Nat.le_refl _) (by omega), turn_refl _ _ _⟩
  case round =>
    obtain ⟨j, hj, rfl, hacc, hdr⟩ := hrel
    have hlc := hdr
    have hE0 : w1.heap.size = w.heap.size + 1 := by omega
    clear ho
    have s2 := hdr.size
    have hb2 := hb1.trans ((hdr.below (by omega)).mono (by omega))
    have hlen : (xss.take j).length ≤ j := List.length_take_le _ _
    by_cases hlt : j < n
    · obtain ⟨b0, o0, r1, m1, q1, x, rfl, hc, hx, hi, hq1, hq2⟩ := t0.row hlt
      have hclt : b0 < w.heap.size := cell_lt hc
      have c0 : wr.cell? ⟨b0, o0 + j, none⟩ = some (.slice r1 m1 q1) := (hb2.cell (p := ⟨b0, o0 + j, none⟩) hclt).trans hc
      have hrep : rI.rep w [.slice r1 m1 q1] x := rI_mk hi hq1 hq2
      have HT := Lib.hid (take_snoc' xss j x hx.out)
      have hxl := HR.out j x hx.out
      clear hc hx hi t0 hl hE0
      go_wp2_with fail
      refine (copyInts_any _ x _ (rI.mono hrep hb2) hxl).mono ?_
      rintro e w8 ⟨u, rfl, oy, z8⟩
      obtain ⟨ab, nb, cb, rfl⟩ := oI_form1 oy
      have s3 := z8.size
      have hb3 := on hb2 z8
      replace hlc := hlc.trans (turn_below z8 (Nat.le_refl _))
      replace hacc := hacc.below z8 (by omega)
      replace c0 := (z8.cell (p := ⟨b0, o0 + j, none⟩) (by simp only []; omega)).trans c0
      have hone : ∀ z ∈ [Value.slice ab nb cb], z.oneCell' = true := by intro z hz; simp at hz; subst hz; rfl
      go_wp2_with ((at_builtin; refine wpList_acc Try.underlying32 infoI rfl (by decide) (by decide) rfl _ _ _ _ [.slice ab nb cb] x hacc oy hone (by omega) (by omega) (by omega) (by omega) hlc rfl (by omega) (by omega) rfl rfl rfl rfl rfl ?_; intro v' w1 hacc' ht' hsz'))
      rw [← HT.out] at hacc'
      go_roundw
      case rel => exact ⟨j + 1, by omega, by go_num, hacc', ht'⟩
      case measure => simp [intOf]; omega
    · obtain rfl : j = n := by omega
      obtain ⟨a', n', cap2, rfl⟩ := hacc.form3
      rw [List.take_of_length_le (by omega)] at hacc
      have HO := Lib.hid (hacc.own (B := w.heap.size) (hi' := wr.heap.size) (by omega) (by omega) (by omega))
      clear hacc t0 hl
      go_wp2_with fail
      go_ret
      exact ⟨_, rfl, HO.out, hb2⟩

set_option maxHeartbeats 1000000 in
theorem copyTable_any (cs : List Value) (x : DT) (w : World) (h : rT.rep w cs x) (hn : bulk_T x ≤ 100000000) :
    Calls Try.prog 197 #[.agg cs.toArray] w fun e w' => ∃ ds, e = .returned (.agg ds.toArray) ∧ Own oT w.heap.size w'.heap.size w' ds x ∧ Below w.heap.size w w' := by
  obtain ⟨ub, un, uc, rfl, hs, hi, g1⟩ := rT_open h
  clear h
  obtain ⟨s, i, rows⟩ := x
  simp only at hs hi g1
  have hn2 : bulk_II rows ≤ 100000000 := by unfold bulk_T at hn; simp only at hn; omega
  clear hn
  have hb0 : Below w.heap.size w w := Below.refl _ _
  go_enter Try.func197, Try.ntmps197
  obtain ⟨w1, hw1⟩ : ∃ W, W = w.alloc (.cells #[.string s, .int .i64 i, .slice ub un uc] 34) := ⟨_, rfl⟩
  have z1 : Below w.heap.size w w1 := by rw [hw1]; exact (Below.refl _ _).alloc (Nat.le_refl _) _
  have s1 : w1.heap.size = w.heap.size + 1 := by rw [hw1]; simp
  have hb1 := on hb0 z1
  have b_0 : w1.cell? ⟨w.heap.size, 0, none⟩ = some (.string s) := by rw [hw1]; exact box_cell (Below.refl _ _) rfl
  have b_1 : w1.cell? ⟨w.heap.size, 1, none⟩ = some (.int .i64 i) := by rw [hw1]; exact box_cell (Below.refl _ _) rfl
  have b_2 : w1.cell? ⟨w.heap.size, 2, none⟩ = some (.slice ub un uc) := by rw [hw1]; exact box_cell (Below.refl _ _) rfl
  have b_f0 : w1.frozen? ⟨w.heap.size, 0, none⟩ = false := by rw [hw1]; exact box_frozen (Below.refl _ _)
  have b_f1 : w1.frozen? ⟨w.heap.size, 1, none⟩ = false := by rw [hw1]; exact box_frozen (Below.refl _ _)
  have b_f2 : w1.frozen? ⟨w.heap.size, 2, none⟩ = false := by rw [hw1]; exact box_frozen (Below.refl _ _)
  have raw1_b_0 := b_0
  have raw1_b_1 := b_1
  have raw1_b_2 := b_2
  rw [hw1] at raw1_b_0 raw1_b_1 raw1_b_2
  obtain ⟨w2, hw2⟩ : ∃ W, W = w1.alloc (.cells #[.string ⟨#[]⟩, .int .i64 0, .slice none 0 0] 34) := ⟨_, rfl⟩
  have z2 : Below w1.heap.size w1 w2 := by rw [hw2]; exact (Below.refl _ _).alloc (Nat.le_refl _) _
  have s2 : w2.heap.size = w1.heap.size + 1 := by rw [hw2]; simp
  have hb2 := on hb1 z2
  replace b_0 := (z2.cell (p := ⟨w.heap.size, 0, none⟩) (by simp only []; omega)).trans b_0
  replace b_1 := (z2.cell (p := ⟨w.heap.size, 1, none⟩) (by simp only []; omega)).trans b_1
  replace b_2 := (z2.cell (p := ⟨w.heap.size, 2, none⟩) (by simp only []; omega)).trans b_2
  replace b_f0 := (z2.frozen (p := ⟨w.heap.size, 0, none⟩) (by simp only []; omega)).trans b_f0
  replace b_f1 := (z2.frozen (p := ⟨w.heap.size, 1, none⟩) (by simp only []; omega)).trans b_f1
  replace b_f2 := (z2.frozen (p := ⟨w.heap.size, 2, none⟩) (by simp only []; omega)).trans b_f2
  have e2 : w1.heap.size = w.heap.size + 1 := by omega
  have r_0 : w2.cell? ⟨w1.heap.size, 0, none⟩ = some (.string ⟨#[]⟩) := by rw [hw2]; exact box_cell (Below.refl _ _) rfl
  have r_1 : w2.cell? ⟨w1.heap.size, 1, none⟩ = some (.int .i64 0) := by rw [hw2]; exact box_cell (Below.refl _ _) rfl
  have r_2 : w2.cell? ⟨w1.heap.size, 2, none⟩ = some (.slice none 0 0) := by rw [hw2]; exact box_cell (Below.refl _ _) rfl
  rw [e2] at r_0 r_1 r_2
  have r_f0 : w2.frozen? ⟨w1.heap.size, 0, none⟩ = false := by rw [hw2]; exact box_frozen (Below.refl _ _)
  have r_f1 : w2.frozen? ⟨w1.heap.size, 1, none⟩ = false := by rw [hw2]; exact box_frozen (Below.refl _ _)
  have r_f2 : w2.frozen? ⟨w1.heap.size, 2, none⟩ = false := by rw [hw2]; exact box_frozen (Below.refl _ _)
  rw [e2] at r_f0 r_f1 r_f2
  have raw2_b_0 := b_0
  have raw2_b_1 := b_1
  have raw2_b_2 := b_2
  have raw2_r_0 := r_0
  have raw2_r_1 := r_1
  have raw2_r_2 := r_2
  rw [hw2, hw1] at raw2_b_0 raw2_b_1 raw2_b_2 raw2_r_0 raw2_r_1 raw2_r_2
  go_wp2_with fail
  rw [← hw1]
  rw [← hw2]
  clear hw2 hw1
  clear raw1_b_0 raw1_b_1 raw1_b_2 raw2_b_0 raw2_b_1 raw2_b_2 raw2_r_0 raw2_r_1 raw2_r_2
  refine (copyRows_any _ rows _ (rII.mono g1 hb2) hn2).mono ?_
  rintro e w9 ⟨u, rfl, ho, z9⟩
  obtain ⟨ab, nb, cb, rfl⟩ := oII_form1 ho
  have s3 := z9.size
  have hb3 := on hb2 z9
  replace b_0 := (z9.cell (p := ⟨w.heap.size, 0, none⟩) (by simp only []; omega)).trans b_0
  replace b_1 := (z9.cell (p := ⟨w.heap.size, 1, none⟩) (by simp only []; omega)).trans b_1
  replace b_2 := (z9.cell (p := ⟨w.heap.size, 2, none⟩) (by simp only []; omega)).trans b_2
  replace b_f0 := (z9.frozen (p := ⟨w.heap.size, 0, none⟩) (by simp only []; omega)).trans b_f0
  replace b_f1 := (z9.frozen (p := ⟨w.heap.size, 1, none⟩) (by simp only []; omega)).trans b_f1
  replace b_f2 := (z9.frozen (p := ⟨w.heap.size, 2, none⟩) (by simp only []; omega)).trans b_f2
  replace r_0 := (z9.cell (p := ⟨w.heap.size + 1, 0, none⟩) (by simp only []; omega)).trans r_0
  replace r_1 := (z9.cell (p := ⟨w.heap.size + 1, 1, none⟩) (by simp only []; omega)).trans r_1
  replace r_2 := (z9.cell (p := ⟨w.heap.size + 1, 2, none⟩) (by simp only []; omega)).trans r_2
  replace r_f0 := (z9.frozen (p := ⟨w.heap.size + 1, 0, none⟩) (by simp only []; omega)).trans r_f0
  replace r_f1 := (z9.frozen (p := ⟨w.heap.size + 1, 1, none⟩) (by simp only []; omega)).trans r_f1
  replace r_f2 := (z9.frozen (p := ⟨w.heap.size + 1, 2, none⟩) (by simp only []; omega)).trans r_f2
  go_wp2_with fail
  refine bodyPost_ret (v := .agg #[.string s, .int .i64 i, .slice ab nb cb]) (by simp [results, Try.results197, go_sem, b_0, b_1, b_2, r_0, r_1, r_2, b_f0, b_f1, b_f2, r_f0, r_f1, r_f2]) rfl ⟨_, rfl, ?_, ?_⟩
  · refine oT_mk (x := (s, i, rows)) hs hi (l2 := w2.heap.size) (m2 := w9.heap.size) ?_ (by omega) (by simp [World.setCell])
    repeat (refine Own.setOut ?_ rfl (by simp only []; omega))
    exact ho
  · repeat (refine Below.setCell ?_ (by simp only []; omega) _)
    exact hb3

end Go.Proofs.Ytbkoddikfpkocaa

/- Kind Q: shape, size, copy, comparison. Written by a program. -/
namespace Go.Proofs.Ytbkoddikfpkocaa
open Go.RowKit
set_option linter.unusedVariables false
set_option linter.unusedSimpArgs false
set_option synthInstance.maxSize 2000
set_option synthInstance.maxHeartbeats 400000

abbrev DQ := Int × List DA
def rQ : RS DQ := R.pair R.int rAs
def oQ : OS DQ := O.pair O.int oAs
theorem reads_Q : Reads oQ rQ := Reads.pair Reads.int reads_As
theorem rQ_open {w : World} {cs : List Value} {x : DQ} (h : rQ.rep w cs x) : ∃ ub1 un1 uc1, cs = [.int .i64 x.1, .slice ub1 un1 uc1] ∧ I64 x.1 ∧ rAs.rep w [.slice ub1 un1 uc1] x.2 := by
  obtain ⟨c0a, c0b, rfl, ⟨rfl, hi0⟩, hr1⟩ := h
  obtain ⟨ub1, un1, uc1, rfl⟩ := rAs_form hr1
  exact ⟨_, _, _, rfl, hi0, hr1⟩
theorem rQ_form {w : World} {cs : List Value} {x : DQ} (h : rQ.rep w cs x) : ∃ ub1 un1 uc1, cs = [.int .i64 x.1, .slice ub1 un1 uc1] := by
  obtain ⟨ub1, un1, uc1, h1, _⟩ := rQ_open h
  exact ⟨_, _, _, h1⟩
theorem rQ_mk {w : World} {ub1 : Option Addr} {un1 uc1 : Nat} {x : DQ} (h0 : I64 x.1) (h1 : rAs.rep w [.slice ub1 un1 uc1] x.2) : rQ.rep w [.int .i64 x.1, .slice ub1 un1 uc1] x :=
  ⟨[.int .i64 x.1], [.slice ub1 un1 uc1], rfl, ⟨rfl, h0⟩, h1⟩
theorem oQ_form {lo hi : Nat} {w : World} {cs : List Value} {x : DQ} (h : Own oQ lo hi w cs x) : ∃ ub1 un1 uc1, cs = [.int .i64 x.1, .slice ub1 un1 uc1] := rQ_form (h.rd reads_Q)

theorem oQ_mk {lo hi l1 m1 : Nat} {w : World} {ub1 : Option Addr} {un1 uc1 : Nat} {x : DQ} (hi0 : I64 x.1) (ho1 : Own oAs l1 m1 w [.slice ub1 un1 uc1] x.2) (a1 : lo ≤ l1) (b1 : m1 ≤ hi)  : Own oQ lo hi w [.int .i64 x.1, .slice ub1 un1 uc1] x := by
  obtain ⟨f1, r1, n1, q1⟩ := ho1
  refine ⟨([] ++ f1), ⟨[.int .i64 x.1], [.slice ub1 un1 uc1], [], f1, rfl, rfl, ⟨rfl, hi0, rfl⟩, r1⟩, ?_, ?_⟩
  · try simp only [List.nil_append, List.append_nil]
    exact n1
  · intro p hp
    try simp only [List.nil_append, List.append_nil, List.mem_append] at hp
    have := q1 p hp; omega

def bulk_Q (x : DQ) : Nat := bulk_As x.2

end Go.Proofs.Ytbkoddikfpkocaa

/- Kind Tl: shape, size, copy, comparison. Written by a program. -/
namespace Go.Proofs.Ytbkoddikfpkocaa
open Go.RowKit
set_option linter.unusedVariables false
set_option linter.unusedSimpArgs false
set_option synthInstance.maxSize 2000
set_option synthInstance.maxHeartbeats 400000

def rTl : RS (List DT) := R.slice rT
def oTl : OS (List DT) := O.slice 34 oT
theorem reads_Tl : Reads oTl rTl := Reads.slice _ reads_T
theorem rTl_form {w : World} {cs : List Value} {xs : List DT} (h : rTl.rep w cs xs) : ∃ b n c, cs = [.slice b n c] := rS_form h
theorem oTl_form1 {lo hi : Nat} {w : World} {v : Value} {xs : List DT} (h : Own oTl lo hi w [v] xs) : ∃ b n c, v = .slice b n c := oS_form1 reads_T h
def bulk_Tl (xs : List DT) : Nat := xs.length + sumBy bulk_T xs

set_option maxHeartbeats 1000000 in
theorem sz_Tl (v : Value) (xs : List DT) (left : Int) (w : World) (h : rTl.rep w [v] xs) (h0 : 0 ≤ left) (h1 : left ≤ 1048576) :
    Calls Try.prog 143 #[v, .int .i64 left] w fun e w' => e = .returned (.int .i64 (szR left (bulk_Tl xs))) ∧ Below w.heap.size w w' := by
  obtain ⟨a, cap, rfl, hn1, hn2, hi⟩ := rS_open h
  clear h
  unfold bulk_Tl
  have hsm := hi.small
  obtain ⟨n, hlen⟩ : ∃ n, xs.length = n := ⟨_, rfl⟩
  rw [hlen] at hi hsm hn1 ⊢
  by_cases hl : (n : Int) ≤ left
  case neg =>
    have HE := Lib.hid (szR_no (sumBy bulk_T xs) hl)
    clear hi
    go_enter Try.func143, Try.ntmps143
    go_wp2_with fail
    go_ret
    exact ⟨ret_int HE.out.symm, Below.refl _ _⟩
  have HE := Lib.hid (szR_add (b := sumBy bulk_T xs) hl)
  go_enter Try.func143, Try.ntmps143
  go_wp2_with fail
  go_loopw [1, 5] (fun l i wr => ∃ (j : Nat) (q : Int), j ≤ n ∧ i = .int .i64 j ∧ l = .int .i64 q ∧ 0 ≤ q ∧ q ≤ 1048576 ∧ Hid (szR left (n + sumBy bulk_T xs) = szR q (sumBy bulk_T (xs.drop j))) ∧ Below w.heap.size w wr) (fun _ i _ => n - (intOf i).toNat)
  case atStart => exact ⟨0, left - n, Nat.zero_le _, rfl, rfl, by omega, by omega, HE.out, Below.refl _ _⟩
  case round =>
    obtain ⟨j, q, hj, rfl, rfl, q0, q1, hE, hb⟩ := hrel
    clear HE
    by_cases hlt : j < n
    · obtain ⟨b, off, cs, x, rfl, hx, hr, hc⟩ := (hi.below hb).at hlt
      obtain ⟨ub2, un2, uc2, rfl⟩ := rT_form hr
      have c0 : wr.cell? ⟨b, off + j * 3, none⟩ = some (.string x.1) := by have h9 := hc 0 _ rfl; rw [← Nat.add_assoc] at h9; exact h9
      have c1 : wr.cell? ⟨b, off + j * 3 + 1, none⟩ = some (.int .i64 x.2.1) := by have h9 := hc 1 _ rfl; rw [← Nat.add_assoc] at h9; exact h9
      have c2 : wr.cell? ⟨b, off + j * 3 + 2, none⟩ = some (.slice ub2 un2 uc2) := by have h9 := hc 2 _ rfl; rw [← Nat.add_assoc] at h9; exact h9
      clear hc
      have HS := hE.out.trans (congrArg (szR q) (sumBy_drop bulk_T hx.out))
      have hcs := szR_cases q (bulk_T x)
      have hcall := sz_T _ x q wr hr q0 q1
      obtain ⟨p, hp⟩ : ∃ p, p = szR q (bulk_T x) := ⟨_, rfl⟩
      rw [← hp] at hcall hcs
      have HC := Lib.hid hcall
      clear hcall hi
      rcases hcs with ⟨rfl, l⟩ | ⟨hp2, l⟩
      · have HE := Lib.hid (HS.trans (szR_no _ l))
        clear hp HS l hE
        go_wp2_with fail
        refine HC.out.mono ?_
        rintro e w1 ⟨rfl, z1⟩
        go_wp2_with fail
        go_ret
        exact ⟨ret_int HE.out.symm, on hb z1⟩
      · have HE := Lib.hid (HS.trans ((szR_add l).trans (by rw [← hp2])) : szR left (n + sumBy bulk_T xs) = szR p (sumBy bulk_T (xs.drop (j + 1))))
        have p0 : 0 ≤ p := by omega
        have p1 : p ≤ 1048576 := by omega
        clear hp hp2 HS l hE
        go_wp2_with fail
        refine HC.out.mono ?_
        rintro e w1 ⟨rfl, z1⟩
        go_wp2_with fail
        go_roundw
        case rel => exact ⟨j + 1, p, by omega, by go_num, rfl, p0, p1, HE, on hb z1⟩
        case measure => simp [intOf]; omega
    · have HE := Lib.hid (hE.out.trans (by rw [sumBy_end _ (by omega)]; unfold szR; rw [if_pos (by omega)]; simp) : szR left (n + sumBy bulk_T xs) = q)
      clear hi hE
      go_wp2_with fail
      go_ret
      exact ⟨ret_int HE.out.symm, hb⟩

set_option maxHeartbeats 2000000 in
set_option maxRecDepth 100000 in
theorem to_Tl (v : Value) (xs : List DT) (w : World) (h : rTl.rep w [v] xs) (hn : bulk_Tl xs ≤ 1048576) :
    Calls Try.prog 145 #[v] w fun e w' => ∃ u, e = .returned u ∧ Own oTl w.heap.size w'.heap.size w' [u] xs ∧ Below w.heap.size w w' := by
  obtain ⟨a, cap, rfl, hn1, hn2, hi⟩ := rS_open h
  clear h
  unfold bulk_Tl at hn
  obtain ⟨n, hlen⟩ : ∃ n, xs.length = n := ⟨_, rfl⟩
  rw [hlen] at hi hn hn1 ⊢
  have hbk : ∀ (j : Nat) x, xs[j]? = some x → bulk_T x ≤ 1048576 := fun j x hx => by have := sumBy_mem bulk_T hx; omega
  have hn3 : n ≤ 100000000 := by omega
  clear hn
  go_enter Try.func145, Try.ntmps145
  go_wp2_with (at_make; refine wpList_mkS (size := 3) (bytes := 48) (z := .agg #[.string ⟨#[]⟩, .int .i64 0, .slice none 0 0]) rfl rfl rfl (by decide) (by decide) oT xs _ _ n hn3 rfl rfl rfl rfl ?_; intro w1 hp1 hb1 hz1)
  go_wp2_with fail
  go_loopw [4] (fun k wr => ∃ j : Nat, j ≤ n ∧ k = .int .i64 j ∧ Part 34 oT [.string ⟨#[]⟩, .int .i64 0, .slice none 0 0] w.heap.size wr w.heap.size n j xs ∧ Below w.heap.size w wr) (fun k _ => n - (intOf k).toNat)
  case atStart => exact ⟨0, Nat.zero_le _, rfl, hp1, hb1⟩
  case round =>
    obtain ⟨j, hj, rfl, hp, hb⟩ := hrel
    clear hp1 hb1
    by_cases hlt : j < n
    · obtain ⟨b, off, cs, x, rfl, hx, hr, hc⟩ := (hi.below hb).at hlt
      obtain ⟨ub2, un2, uc2, rfl⟩ := rT_form hr
      have c0 : wr.cell? ⟨b, off + j * 3, none⟩ = some (.string x.1) := by have h9 := hc 0 _ rfl; rw [← Nat.add_assoc] at h9; exact h9
      have c1 : wr.cell? ⟨b, off + j * 3 + 1, none⟩ = some (.int .i64 x.2.1) := by have h9 := hc 1 _ rfl; rw [← Nat.add_assoc] at h9; exact h9
      have c2 : wr.cell? ⟨b, off + j * 3 + 2, none⟩ = some (.slice ub2 un2 uc2) := by have h9 := hc 2 _ rfl; rw [← Nat.add_assoc] at h9; exact h9
      clear hc
      have hg : w.heap.size < wr.heap.size := by obtain ⟨_, _, _, _, _, _, _, h9⟩ := hp; exact h9
      have HC := Lib.hid (to_T _ x wr hr (hbk j x hx.out))
      have HI := Lib.hid hi
      go_wp2_with fail
      refine HC.out.mono ?_
      rintro e w1 ⟨d, rfl, ho, z1⟩
      obtain ⟨db2, dn2, dc2, rfl⟩ := oT_form ho
      have s1 := z1.size
      have hp1 : Part 34 oT [.string ⟨#[]⟩, .int .i64 0, .slice none 0 0] w.heap.size w1 w.heap.size n j xs := hp.below z1 (Nat.le_refl _)
      obtain ⟨⟨e0, f0⟩, g0⟩ := hp1.cell rfl hlt (by omega) 0 (by decide)
      replace f0 : w1.cell? ⟨w.heap.size, j * 3, none⟩ = some e0 := f0
      replace g0 : w1.frozen? ⟨w.heap.size, j * 3, none⟩ = false := g0
      obtain ⟨⟨e1, f1⟩, g1⟩ := hp1.cell rfl hlt (by omega) 1 (by decide)
      replace f1 : w1.cell? ⟨w.heap.size, j * 3 + 1, none⟩ = some e1 := f1
      replace g1 : w1.frozen? ⟨w.heap.size, j * 3 + 1, none⟩ = false := g1
      obtain ⟨⟨e2, f2⟩, g2⟩ := hp1.cell rfl hlt (by omega) 2 (by decide)
      replace f2 : w1.cell? ⟨w.heap.size, j * 3 + 2, none⟩ = some e2 := f2
      replace g2 : w1.frozen? ⟨w.heap.size, j * 3 + 2, none⟩ = false := g2
      have HP := Lib.hid (hp1.step (cs := [.string x.1, .int .i64 x.2.1, .slice db2 dn2 dc2]) rfl hlt hx.out ho hg ⟨wr, hp, Nat.le_refl _, fun p hp => z1.block p hp⟩ (Nat.le_refl _) (by omega))
      have hb1 := on hb z1
      clear ho hp hp1
      go_wp2_with fail
      go_roundw
      case rel => exact ⟨j + 1, by omega, by go_num, HP.out, (((hb1.setCell (Nat.le_refl _) _).setCell (Nat.le_refl _) _).setCell (Nat.le_refl _) _)⟩
      case measure => simp [intOf]; omega
    · have hjn : j = n := by omega
      subst hjn
      have HO := Lib.hid (hp.done hlen (by omega))
      clear hp hi
      go_wp2_with fail
      go_ret
      exact ⟨_, rfl, HO.out, hb⟩

set_option maxHeartbeats 2000000 in
theorem eq_Tl (u v : Value) (xs ys : List DT) (w : World) (h : rTl.rep w [u] xs) (h' : rTl.rep w [v] ys) :
    Calls Try.prog 147 #[u, v] w fun e w' => e = .returned (.bool (decide (xs = ys))) ∧ Below w.heap.size w w' := by
  obtain ⟨a, cap, rfl, _, _, hi⟩ := rS_open h
  obtain ⟨a', cap', rfl, _, _, hi'⟩ := rS_open h'
  clear h h'
  have hn := hi.small
  have hn' := hi'.small
  obtain ⟨n, hl⟩ : ∃ n, xs.length = n := ⟨_, rfl⟩
  obtain ⟨m, hl'⟩ : ∃ n, ys.length = n := ⟨_, rfl⟩
  rw [hl] at hi hn ⊢
  rw [hl'] at hi' hn' ⊢
  by_cases hnm : n = m
  case neg =>
    have HE := Lib.hid (show decide (xs = ys) = false by simp only [decide_eq_false_iff_not]; intro e; subst e; omega)
    have hne : ((n : Int) != (m : Int)) = true := by rw [bne_iff_ne]; omega
    clear hl hl' hi hi'
    go_enter Try.func147, Try.ntmps147
    go_wp2_with fail
    go_ret
    exact ⟨ret_bool HE.out.symm, Below.refl _ _⟩
  subst hnm
  go_enter Try.func147, Try.ntmps147
  go_wp2_with fail
  go_loopw [5] (fun k wr => ∃ j : Nat, j ≤ n ∧ k = .int .i64 j ∧ Hid (xs.take j = ys.take j) ∧ Below w.heap.size w wr) (fun k _ => n - (intOf k).toNat)
  case atStart => exact ⟨0, Nat.zero_le _, rfl, rfl, Below.refl _ _⟩
  case round =>
    obtain ⟨j, hj, rfl, hE, hb⟩ := hrel
    by_cases hlt : j < n
    · obtain ⟨b, off, cs, x, rfl, hx, hr, hc⟩ := (hi.below hb).at hlt
      obtain ⟨b', off', ds, y, rfl, hy, hr', hd⟩ := (hi'.below hb).at hlt
      obtain ⟨ub2, un2, uc2, rfl⟩ := rT_form hr
      obtain ⟨vb2, vn2, vc2, rfl⟩ := rT_form hr'
      have c0 : wr.cell? ⟨b, off + j * 3, none⟩ = some (.string x.1) := by have h9 := hc 0 _ rfl; rw [← Nat.add_assoc] at h9; exact h9
      have c1 : wr.cell? ⟨b, off + j * 3 + 1, none⟩ = some (.int .i64 x.2.1) := by have h9 := hc 1 _ rfl; rw [← Nat.add_assoc] at h9; exact h9
      have c2 : wr.cell? ⟨b, off + j * 3 + 2, none⟩ = some (.slice ub2 un2 uc2) := by have h9 := hc 2 _ rfl; rw [← Nat.add_assoc] at h9; exact h9
      have d0 : wr.cell? ⟨b', off' + j * 3, none⟩ = some (.string y.1) := by have h9 := hd 0 _ rfl; rw [← Nat.add_assoc] at h9; exact h9
      have d1 : wr.cell? ⟨b', off' + j * 3 + 1, none⟩ = some (.int .i64 y.2.1) := by have h9 := hd 1 _ rfl; rw [← Nat.add_assoc] at h9; exact h9
      have d2 : wr.cell? ⟨b', off' + j * 3 + 2, none⟩ = some (.slice vb2 vn2 vc2) := by have h9 := hd 2 _ rfl; rw [← Nat.add_assoc] at h9; exact h9
      have hcall := fun (W : World) (hW : Below wr.heap.size wr W) => eq_T _ _ x y W (rT.mono hr hW) (rT.mono hr' hW)
      obtain ⟨t, ht⟩ : ∃ t, t = decide (x = y) := ⟨_, rfl⟩
      rw [← ht] at hcall
      have HC := Lib.hid hcall
      clear hcall hi hi' hr hr' hc hd
      have HT : Hid (if t = true then xs.take (j + 1) = ys.take (j + 1) else decide (xs = ys) = false) := by
        cases t
        · simp only [Bool.false_eq_true, if_false]
          have hxy : x ≠ y := by simpa using ht.symm
          simp only [Hid, Bool.false_eq_true, if_false, decide_eq_false_iff_not]; intro e; subst e; exact hxy (Option.some.inj (hx.out.symm.trans hy.out))
        · have hxy : x = y := by simpa using ht.symm
          simp only [Hid, if_true]; rw [take_snoc' xs j x hx.out, take_snoc' ys j y hy.out, hE.out, hxy]
      clear ht hx hy hE
      have lb : b < wr.heap.size := cell_lt c0
      have lb' : b' < wr.heap.size := cell_lt d0
      go_wp2_with fail
      go_region_held3 (fun W => W.cell? ⟨b, off + j * 3, none⟩ = some (.string x.1) ∧ W.cell? ⟨b, off + j * 3 + 1, none⟩ = some (.int .i64 x.2.1) ∧ W.cell? ⟨b, off + j * 3 + 2, none⟩ = some (.slice ub2 un2 uc2) ∧ W.cell? ⟨b', off' + j * 3, none⟩ = some (.string y.1) ∧ W.cell? ⟨b', off' + j * 3 + 1, none⟩ = some (.int .i64 y.2.1) ∧ W.cell? ⟨b', off' + j * 3 + 2, none⟩ = some (.slice vb2 vn2 vc2)) (first | exact ⟨c0, c1, c2, d0, d1, d2⟩ | assumption) ((go_at_call 65; refine (HC.out _ (Below.refl _ _).drew).mono ?_; rintro e w1 ⟨rfl, z1⟩; replace z1 : Below wr.heap.size wr w1 := (Below.refl _ _).drew.trans z1; have hS0 := (⟨(z1.cell (p := ⟨b, off + j * 3, none⟩) (by simp only []; omega)).trans c0, (z1.cell (p := ⟨b, off + j * 3 + 1, none⟩) (by simp only []; omega)).trans c1, (z1.cell (p := ⟨b, off + j * 3 + 2, none⟩) (by simp only []; omega)).trans c2, (z1.cell (p := ⟨b', off' + j * 3, none⟩) (by simp only []; omega)).trans d0, (z1.cell (p := ⟨b', off' + j * 3 + 1, none⟩) (by simp only []; omega)).trans d1, (z1.cell (p := ⟨b', off' + j * 3 + 2, none⟩) (by simp only []; omega)).trans d2⟩ : (fun W => W.cell? ⟨b, off + j * 3, none⟩ = some (.string x.1) ∧ W.cell? ⟨b, off + j * 3 + 1, none⟩ = some (.int .i64 x.2.1) ∧ W.cell? ⟨b, off + j * 3 + 2, none⟩ = some (.slice ub2 un2 uc2) ∧ W.cell? ⟨b', off' + j * 3, none⟩ = some (.string y.1) ∧ W.cell? ⟨b', off' + j * 3 + 1, none⟩ = some (.int .i64 y.2.1) ∧ W.cell? ⟨b', off' + j * 3 + 2, none⟩ = some (.slice vb2 vn2 vc2)) w1)))
      replace z1 : Below wr.heap.size wr w1 := z1
      have z2 := on hb z1
      cases t
      · have HE : Hid (decide (xs = ys) = false) := by simpa [Hid] using HT.out
        go_wp2_with fail
        go_ret
        exact ⟨ret_bool HE.out.symm, z2⟩
      · have HE : Hid (xs.take (j + 1) = ys.take (j + 1)) := by simpa [Hid] using HT.out
        go_wp2_with fail
        go_roundw
        case rel => exact ⟨j + 1, by omega, by go_num, HE.out, z2⟩
        case measure => simp [intOf]; omega
    · have HE := Lib.hid (show decide (xs = ys) = true by
        have e := hE.out
        rw [List.take_of_length_le (by omega), List.take_of_length_le (by omega)] at e
        simp [e])
      clear hi hi' hl hl'
      go_wp2_with fail
      go_ret
      exact ⟨ret_bool HE.out.symm, hb⟩

end Go.Proofs.Ytbkoddikfpkocaa

/- Arguments of kind Dl opened. Written by a program. -/
namespace Go.Proofs.Ytbkoddikfpkocaa
open Go.ChangeShapes Go.WideShapes Go.ChangeAt Go.RowKit
set_option linter.unusedVariables false
set_option maxRecDepth 100000

theorem opens_Dl : Opens 58 rDl := opens_slice Try.underlying58 (by kernel_rfl) (by decide) opens_Dp
def kDl_in (w : World) (v : Value) : Prop := ∃ u xs, v = u ∧ rDl.rep w [u] xs
theorem open_kDl_in {H : Type} {enc : TypeId × Value → H} {W : World} {d : DataW H} {ps : List MemPlace} {v : Value} (hv : Value.okWide Try.prog W .any 0 58 v) (h : DataW.Trod enc Try.prog W 0 (fun _ => true) true 58 v d ps) : kDl_in W v := by
  obtain ⟨a, l, c, rfl⟩ := okWide_slice Try.underlying58 hv
  obtain ⟨fuel, hf⟩ := h
  obtain ⟨xs, hx⟩ := opens_Dl H enc W fuel _ _ hf
  exact ⟨_, xs, rfl, by simpa [Value.cells] using hx⟩

end Go.Proofs.Ytbkoddikfpkocaa

/- Arguments of kind T opened. Written by a program. -/
namespace Go.Proofs.Ytbkoddikfpkocaa
open Go.ChangeShapes Go.WideShapes Go.ChangeAt Go.RowKit
set_option linter.unusedVariables false
set_option maxRecDepth 100000

theorem opens_T : Opens 67 rT := opens_struct3 Try.underlying67 (by kernel_rfl) rfl rfl rfl (by kernel_rfl) (by kernel_rfl) (by kernel_rfl) opens_str' opens_int opens_II
abbrev kT_in := agg_in rT
theorem open_kT_in {H : Type} {enc : TypeId × Value → H} {W : World} {d : DataW H} {ps : List MemPlace} {v : Value} (hv : Value.okWide Try.prog W .any 0 67 v) (h : DataW.Trod enc Try.prog W 0 (fun _ => true) true 67 v d ps) : kT_in W v :=
  open_agg_in Try.underlying67 opens_T hv h

end Go.Proofs.Ytbkoddikfpkocaa

/- Contracts: whether an answer is valid. -/
namespace Go.Proofs.Ytbkoddikfpkocaa
open Go.RowKit
set_option linter.unusedVariables false
set_option linter.unusedSimpArgs false
set_option synthInstance.maxSize 2000
set_option synthInstance.maxHeartbeats 400000

/-- Columns: in range, ascending from p. -/
def colsFrom (n p : Int) : List Int → Bool
  | [] => true
  | v :: t => betw v 0 (n - 1) && decide (p < v) && colsFrom n v t
/-- Strictly ascending columns of so many. -/
def colsB (n : Int) (xs : List Int) : Bool := colsFrom n (-1) xs
theorem cols_at {n p : Int} {xs : List Int} {j : Nat} {x : Int} (hj : j < xs.length) (hx : xs.getD j 0 = x) : colsFrom n p (xs.drop j) = (betw x 0 (n - 1) && decide (p < x) && colsFrom n x (xs.drop (j + 1))) := by
  rw [drop_cons xs j hj, hx]; rfl
theorem cols_end {n p : Int} {xs : List Int} {j : Nat} (hj : xs.length ≤ j) : colsFrom n p (xs.drop j) = true := by
  rw [List.drop_eq_nil_of_le hj]; rfl
theorem betw_pos {x n : Int} (h : betw x 0 n = true) : 0 ≤ x := by
  simp only [betw, Bool.and_eq_true, decide_eq_true_eq] at h; omega
/-- What stands before place j. -/
def prevOf (xs : List Int) : Nat → Int
  | 0 => -1
  | j + 1 => xs.getD j 0
/-- Whether an answer is valid. -/
def validAn (a : DAn) : Bool := colsB 4 a.1 && rowsB a.1.length a.2 && ascB a.2

end Go.Proofs.Ytbkoddikfpkocaa

/- Contracts: whether a table is valid. -/
namespace Go.Proofs.Ytbkoddikfpkocaa
open Go.RowKit
set_option linter.unusedVariables false
set_option linter.unusedSimpArgs false
set_option synthInstance.maxSize 2000
set_option synthInstance.maxHeartbeats 400000

/-- Whether a table is valid. -/
def validT (t : DT) : Bool := nameB t.1 && (betw t.2.1 1 3 && (decide (t.2.2.length ≤ 8) && (rowsB t.2.1 t.2.2 && ascB t.2.2)))
theorem validT_rows {t : DT} (h : rowsB t.2.1 t.2.2 = false) : validT t = false := by simp [validT, h]
theorem validT_rest {t : DT} (h : rowsB t.2.1 t.2.2 = true) : validT t = (nameB t.1 && (betw t.2.1 1 3 && (decide (t.2.2.length ≤ 8) && ascB t.2.2))) := by simp [validT, h]

set_option maxHeartbeats 2000000 in
theorem validT_impl (cs : List Value) (x : DT) (w : World) (h : rT.rep w cs x) :
    Calls Try.prog 137 #[.agg cs.toArray] w fun e w' => e = .returned (.bool (validT x)) ∧ Below w.heap.size w w' := by
  obtain ⟨ub, un, uc, rfl, hs, hi, g1⟩ := rT_open h
  clear h
  obtain ⟨s, i, rows⟩ := x
  simp only at hs hi g1
  have t1 := rS_sl g1
  have hl1 := t1.len
  have hn1 := t1.small
  have HV := Lib.hid (show rowsB i rows = rowsB i (rows.drop 0) by simp)
  have hb0 : Below w.heap.size w w := Below.refl _ _
  go_enter Try.func137, Try.ntmps137
  obtain ⟨w1, hw1⟩ : ∃ W, W = w.alloc (.cells #[.string s, .int .i64 i, .slice ub un uc] 34) := ⟨_, rfl⟩
  have z1 : Below w.heap.size w w1 := by rw [hw1]; exact (Below.refl _ _).alloc (Nat.le_refl _) _
  have s1 : w1.heap.size = w.heap.size + 1 := by rw [hw1]; simp
  have hb1 := on hb0 z1
  have b_0 : w1.cell? ⟨w.heap.size, 0, none⟩ = some (.string s) := by rw [hw1]; exact box_cell (Below.refl _ _) rfl
  have b_1 : w1.cell? ⟨w.heap.size, 1, none⟩ = some (.int .i64 i) := by rw [hw1]; exact box_cell (Below.refl _ _) rfl
  have b_2 : w1.cell? ⟨w.heap.size, 2, none⟩ = some (.slice ub un uc) := by rw [hw1]; exact box_cell (Below.refl _ _) rfl
  have raw1_b_0 := b_0
  have raw1_b_1 := b_1
  have raw1_b_2 := b_2
  rw [hw1] at raw1_b_0 raw1_b_1 raw1_b_2
  go_wp2_with fail
  rw [← hw1]
  clear hw1
  clear raw1_b_0 raw1_b_1 raw1_b_2
  go_loopw [8] (fun k wr => ∃ j : Nat, j ≤ un ∧ k = .int .i64 j ∧ Hid (rowsB i rows = rowsB i (rows.drop j)) ∧ w1 = wr) (fun k _ => un - (intOf k).toNat)
  case atStart => exact ⟨0, Nat.zero_le _, rfl, HV.out, rfl⟩
  case round =>
    obtain ⟨j, hj, rfl, hE, rfl⟩ := hrel
    by_cases hlt : j < un
    · obtain ⟨b0, o0, r1, m1, q1, y, rfl, hc, hx, hi9, _⟩ := t1.row hlt
      have hclt : b0 < w.heap.size := cell_lt hc
      have c0 : w1.cell? ⟨b0, o0 + j, none⟩ = some (.slice r1 m1 q1) := (hb1.cell (p := ⟨b0, o0 + j, none⟩) hclt).trans hc
      have hcall := rowOk_any r1 m1 q1 y i _ (hi9.below hb1)
      obtain ⟨t, ht⟩ : ∃ t, t = rowB y i := ⟨_, rfl⟩
      rw [← ht] at hcall
      have HC := Lib.hid hcall
      have HA := Lib.hid (hE.out.trans (by rw [rowsB_at hx.out, ← ht]))
      clear t1 hl1 hx hcall ht hE HV hi9 hc
      go_wp2_with fail
      refine (HC.out).mono ?_
      rintro e w' ⟨rfl, rfl⟩
      cases t with
      | true =>
        have HE := Lib.hid (show rowsB i rows = rowsB i (rows.drop (j + 1)) by rw [HA.out]; simp)
        go_wp2_with fail
        go_roundw
        case rel => exact ⟨j + 1, by omega, by go_num, HE.out, trivial⟩
        case measure => simp [intOf]; omega
      | false =>
        have HE := Lib.hid (show validT (s, i, rows) = false from validT_rows (by rw [HA.out]; simp))
        go_wp2_with fail
        go_ret
        exact ⟨ret_bool HE.out.symm, hb1⟩
    · have HE : Hid (validT (s, i, rows) = (nameB s && (betw i 1 3 && (decide ((un : Int) ≤ 8) && ascB rows)))) := Lib.hid (by
        rw [validT_rest (show rowsB i rows = true by rw [hE.out, rowsB_end (by omega)])]
        simp only [hl1]
        congr 3
        rw [Bool.eq_iff_iff]; simp only [decide_eq_true_eq]; omega)
      have t2 := t1.below hb1
      clear hE HV hl1 t1
      go_wp2_with fail
      refine (nameOk_any _ _ hs).mono ?_
      rintro e w' ⟨rfl, rfl⟩
      obtain ⟨c1, hc1⟩ : ∃ c, c = nameB s := ⟨_, rfl⟩
      rw [← hc1] at HE ⊢
      clear hc1
      cases c1 with
      | false =>
        clear t2
        go_wp2_with fail
        go_ret
        exact ⟨ret_bool (by rw [HE.out]; rfl), hb1⟩
      | true =>
        go_wp2_with fail
        refine (within_any _ _ _ _).mono ?_
        rintro e w' ⟨rfl, rfl⟩
        obtain ⟨c2, hc2⟩ : ∃ c, c = betw i 1 3 := ⟨_, rfl⟩
        rw [← hc2] at HE ⊢
        clear hc2
        cases c2 with
        | false =>
          clear t2
          go_wp2_with fail
          go_ret
          exact ⟨ret_bool (by rw [HE.out]; rfl), hb1⟩
        | true =>
          by_cases h8 : (un : Int) ≤ 8
          · have HE2 := Lib.hid (show validT (s, i, rows) = ascB rows by rw [HE.out, decide_eq_true h8]; rfl)
            go_wp2_with fail
            refine (ascending_any _ _ _ _ _ t2).mono ?_
            rintro e w9 ⟨rfl, z9⟩
            replace z9 : Below w1.heap.size w1 w9 := z9.below _
            have s2 := z9.size
            have hb2 := on hb1 z9
            replace b_0 := (z9.cell (p := ⟨w.heap.size, 0, none⟩) (by simp only []; omega)).trans b_0
            replace b_1 := (z9.cell (p := ⟨w.heap.size, 1, none⟩) (by simp only []; omega)).trans b_1
            replace b_2 := (z9.cell (p := ⟨w.heap.size, 2, none⟩) (by simp only []; omega)).trans b_2
            clear t2
            go_wp2_with fail
            go_ret
            exact ⟨ret_bool HE2.out.symm, hb2⟩
          · have HE2 := Lib.hid (show validT (s, i, rows) = false by rw [HE.out, decide_eq_false h8]; rfl)
            clear t2
            go_wp2_with fail
            go_ret
            exact ⟨ret_bool HE2.out.symm, hb1⟩

set_option maxHeartbeats 2000000 in
theorem validT_spec (cs : List Value) (x : DT) (w : World) (h : rT.rep w cs x) :
    Calls Try.prog 27 #[.agg cs.toArray] w fun e w' => e = .returned (.bool (validT x)) ∧ Below w.heap.size w w' := by
  obtain ⟨ub, un, uc, rfl, hs, hi, g1⟩ := rT_open h
  clear h
  obtain ⟨s, i, rows⟩ := x
  simp only at hs hi g1
  have t1 := rS_sl g1
  have hl1 := t1.len
  have hn1 := t1.small
  have HV : Hid (validT (s, i, rows) = (nameB s && (betw i 1 3 && (decide ((un : Int) ≤ 8) && (rowsB i rows && ascB rows))))) := Lib.hid (by
    simp only [validT, hl1]
    congr 3
    rw [Bool.eq_iff_iff]; simp only [decide_eq_true_eq]; omega)
  have hb0 : Below w.heap.size w w := Below.refl _ _
  go_enter Try.func27, Try.ntmps27
  obtain ⟨w1, hw1⟩ : ∃ W, W = w.alloc (.cells #[.string s, .int .i64 i, .slice ub un uc] 34) := ⟨_, rfl⟩
  have z1 : Below w.heap.size w w1 := by rw [hw1]; exact (Below.refl _ _).alloc (Nat.le_refl _) _
  have s1 : w1.heap.size = w.heap.size + 1 := by rw [hw1]; simp
  have hb1 := on hb0 z1
  have b_0 : w1.cell? ⟨w.heap.size, 0, none⟩ = some (.string s) := by rw [hw1]; exact box_cell (Below.refl _ _) rfl
  have b_1 : w1.cell? ⟨w.heap.size, 1, none⟩ = some (.int .i64 i) := by rw [hw1]; exact box_cell (Below.refl _ _) rfl
  have b_2 : w1.cell? ⟨w.heap.size, 2, none⟩ = some (.slice ub un uc) := by rw [hw1]; exact box_cell (Below.refl _ _) rfl
  have raw1_b_0 := b_0
  have raw1_b_1 := b_1
  have raw1_b_2 := b_2
  rw [hw1] at raw1_b_0 raw1_b_1 raw1_b_2
  go_wp2_with fail
  rw [← hw1]
  clear hw1
  clear raw1_b_0 raw1_b_1 raw1_b_2
  refine (l4Name_any _ _ hs).mono ?_
  rintro e w' ⟨rfl, rfl⟩
  obtain ⟨c1, hc1⟩ : ∃ c, c = nameB s := ⟨_, rfl⟩
  rw [← hc1] at HV ⊢
  clear hc1
  cases c1 with
  | false =>
    clear t1 hl1
    go_wp2_with fail
    go_ret
    exact ⟨ret_bool (by rw [HV.out]; rfl), hb1⟩
  | true =>
    go_wp2_with fail
    refine (l1In_any _ _ _ _).mono ?_
    rintro e w' ⟨rfl, rfl⟩
    obtain ⟨c2, hc2⟩ : ∃ c, c = betw i 1 3 := ⟨_, rfl⟩
    rw [← hc2] at HV ⊢
    clear hc2
    cases c2 with
    | false =>
      clear t1 hl1
      go_wp2_with fail
      go_ret
      exact ⟨ret_bool (by rw [HV.out]; rfl), hb1⟩
    | true =>
      by_cases h8 : (un : Int) ≤ 8
      case neg =>
        have HE2 := Lib.hid (show validT (s, i, rows) = false by rw [HV.out, decide_eq_false h8]; rfl)
        have h8' : 8 < (un : Int) := by omega
        clear t1 hl1
        go_wp2_with fail
        go_ret
        exact ⟨ret_bool HE2.out.symm, hb1⟩
      have HW : Hid (validT (s, i, rows) = (rowsB i (rows.drop 0) && ascB (rows.drop (0 - 1)))) := Lib.hid (by rw [HV.out, decide_eq_true h8]; rfl)
      have h8' : ¬ 8 < (un : Int) := by omega
      go_wp2_with fail
      go_loopw [3] (fun k wr => ∃ j : Nat, j ≤ un ∧ k = .int .i64 j ∧ Hid (validT (s, i, rows) = (rowsB i (rows.drop j) && ascB (rows.drop (j - 1)))) ∧ Drew w1 wr) (fun k _ => un - (intOf k).toNat)
      case atStart => exact ⟨0, Nat.zero_le _, rfl, HW.out, Drew.refl _⟩
      case round =>
        obtain ⟨j, hj, rfl, hE, hdr⟩ := hrel
        have hlc := hdr
        replace hdr : Below w1.heap.size w1 wr := hdr.below _
        have s2 := hdr.size
        have hb2 := on hb1 hdr
        replace b_0 := (hdr.cell (p := ⟨w.heap.size, 0, none⟩) (by simp only []; omega)).trans b_0
        replace b_1 := (hdr.cell (p := ⟨w.heap.size, 1, none⟩) (by simp only []; omega)).trans b_1
        replace b_2 := (hdr.cell (p := ⟨w.heap.size, 2, none⟩) (by simp only []; omega)).trans b_2
        by_cases hlt : j < un
        · obtain ⟨b0, o0, r1, m1, q1, y, rfl, hc, hx, hi9, _⟩ := t1.row hlt
          have hclt : b0 < w.heap.size := cell_lt hc
          have c0 : wr.cell? ⟨b0, o0 + j, none⟩ = some (.slice r1 m1 q1) := (hb2.cell (p := ⟨b0, o0 + j, none⟩) hclt).trans hc
          have hcall := fun q => l4Row_any r1 m1 q1 y i (wr.drewN q) ((hi9.below hb2).drewN q)
          obtain ⟨t, ht⟩ : ∃ t, t = rowB y i := ⟨_, rfl⟩
          rw [← ht] at hcall
          have HC := Lib.hid hcall
          have HA := Lib.hid (hE.out.trans (by rw [rowsB_at hx.out, ← ht]))
          clear hcall ht hE HW HV
          cases t with
          | false =>
            have HE := Lib.hid (show validT (s, i, rows) = false by rw [HA.out]; simp)
            clear t1 hl1 hx hi9 hc
            go_wp2_with fail
            go_quiet ((go_at_call 103; exact quiet_same (HC.out _)))
            go_wp2_with fail
            go_ret
            exact ⟨ret_bool HE.out.symm, onD hb2 ⟨_, rfl⟩⟩
          | true =>
            by_cases hj0 : j = 0
            · subst hj0
              have HE := Lib.hid (show validT (s, i, rows) = (rowsB i (rows.drop (0 + 1)) && ascB (rows.drop (0 + 1 - 1))) by rw [HA.out]; simp)
              have c0' : wr.cell? ⟨b0, o0, none⟩ = some (.slice r1 m1 q1) := c0
              clear t1 hl1 hx hi9 hc
              go_wp2_with fail
              go_quiet ((go_at_call 103; exact quiet_same (HC.out _)))
              go_wp2_with fail
              go_roundw
              case rel => exact ⟨1, by omega, rfl, HE.out, hlc.step _⟩
              case measure => simp [intOf]; omega
            obtain ⟨i', rfl⟩ : ∃ i, j = i + 1 := ⟨j - 1, by omega⟩
            obtain ⟨b9, o9, r2, m2, q2, z, hb9, hcy, hy, hi', _⟩ := t1.row (show i' < un by omega)
            simp at hb9
            obtain ⟨rfl, rfl⟩ := hb9
            have cy : wr.cell? ⟨b0, o0 + i', none⟩ = some (.slice r2 m2 q2) := (hb2.cell (p := ⟨b0, o0 + i', none⟩) hclt).trans hcy
            have hi63 : IntKind.i64.wrap (i' : Int) = (i' : Int) := IntWalk.i64_in _ (by omega)
            have hcall := fun q => cmp_spec r2 r1 m2 m1 q2 q1 z y (wr.drewN q) ((hi'.below hb2).drewN q) ((hi9.below hb2).drewN q)
            obtain ⟨c, hcc⟩ : ∃ c, c = cmpRows z y := ⟨_, rfl⟩
            rw [← hcc] at hcall
            have HA2 : Hid (validT (s, i, rows) = (rowsB i (rows.drop (i' + 1 + 1)) && (decide (c < 0) && ascB (rows.drop (i' + 1))))) := Lib.hid (by
              rw [HA.out, show i' + 1 - 1 = i' by omega, ascB_at hy.out hx.out, hcc]; rfl)
            have HD := Lib.hid hcall
            clear t1 hl1 hx hy hi9 hi' hc hcy hcall hcc HA hj0
            by_cases h0 : c < 0
            · have HE := Lib.hid (show validT (s, i, rows) = (rowsB i (rows.drop (i' + 1 + 1)) && ascB (rows.drop (i' + 1 + 1 - 1))) by rw [HA2.out, decide_eq_true h0]; simp)
              go_wp2_with fail
              go_quiet ((first | (go_at_call 103; exact quiet_same (HC.out _)) | (go_at_call 104; exact quiet_drew (HD.out _))))
              clear hi63
              go_wp2_with fail
              go_roundw
              case rel => exact ⟨i' + 1 + 1, by omega, by go_num, HE.out, hlc.step _⟩
              case measure => simp [intOf]; omega
            · have HE := Lib.hid (show validT (s, i, rows) = false by rw [HA2.out]; simp [h0])
              go_wp2_with fail
              go_quiet ((first | (go_at_call 103; exact quiet_same (HC.out _)) | (go_at_call 104; exact quiet_drew (HD.out _))))
              clear hi63
              go_wp2_with fail
              go_ret
              exact ⟨ret_bool HE.out.symm, onD hb2 ⟨_, rfl⟩⟩
        · have HE : Hid (validT (s, i, rows) = true) := Lib.hid (by
            rw [hE.out, rowsB_end (by omega), ascB_end (by omega)]; rfl)
          clear hE HW hl1 t1
          go_wp2_with fail
          go_ret
          exact ⟨ret_bool HE.out.symm, hb2⟩

end Go.Proofs.Ytbkoddikfpkocaa

/- Contracts: columns that are strictly ascending columns of a table. -/
namespace Go.Proofs.Ytbkoddikfpkocaa
open Go.RowKit
set_option linter.unusedVariables false
set_option linter.unusedSimpArgs false
set_option synthInstance.maxSize 2000
set_option synthInstance.maxHeartbeats 400000

set_option maxHeartbeats 2000000 in
theorem columnsOk_any (a : Option Addr) (n cap : Nat) (xs : List Int) (m : Int) (w : World) (h : Ints w a n xs) (hm : I64 m) (hm1 : -9223372036854775808 < m) :
    Calls Try.prog 138 #[.slice a n cap, .int .i64 m] w fun e w' => e = .returned (.bool (colsB m xs)) ∧ w = w' := by
  have hl := h.len
  have hn := h.small
  have HV : Hid (colsB m xs = colsFrom m (prevOf xs 0) (xs.drop 0)) := Lib.hid (by simp [colsB, prevOf])
  obtain ⟨hm2, hm3⟩ := hm
  have hwm : IntKind.i64.wrap (m - 1) = m - 1 := IntWalk.i64_in _ (by omega)
  have hb0 : Below w.heap.size w w := Below.refl _ _
  go_enter Try.func138, Try.ntmps138
  go_wp2_with fail
  go_loopw [9] (fun k wr => ∃ j : Nat, j ≤ n ∧ k = .int .i64 j ∧ Hid (colsB m xs = colsFrom m (prevOf xs j) (xs.drop j)) ∧ w = wr) (fun k _ => n - (intOf k).toNat)
  case atStart => exact ⟨0, Nat.zero_le _, rfl, HV.out, rfl⟩
  case round =>
    obtain ⟨j, hj, rfl, hE, rfl⟩ := hrel
    by_cases hlt : j < n
    · obtain ⟨b0, o0, x, rfl, hc, hx, _, _⟩ := h.get hlt
      have c0_lt : b0 < w.heap.size := cell_lt hc
      have c0 : w.cell? ⟨b0, o0 + j, none⟩ = some (.int .i64 x) := (hb0.cell (p := ⟨b0, o0 + j, none⟩) c0_lt).trans hc
      have HA := Lib.hid (hE.out.trans (by rw [cols_at (by omega) hx.out]))
      clear hE HV hl
      have hcall := within_any x 0 (m - 1) w
      by_cases hb : betw x 0 (m - 1) = true
      case neg =>
        replace hb : betw x 0 (m - 1) = false := by simpa using hb
        have HE := Lib.hid (show colsB m xs = false by rw [HA.out]; simp [hb])
        rw [hb] at hcall
        have HC := Lib.hid hcall
        clear h hcall hb
        go_wp2_with fail
        refine (HC.out).mono ?_
        rintro e w' ⟨rfl, rfl⟩
        go_wp2_with fail
        go_ret
        exact ⟨ret_bool HE.out.symm, rfl⟩
      have hx0 := betw_pos hb
      have H0 := Lib.hid hb
      rw [hb] at hcall
      have HC := Lib.hid hcall
      clear hb hcall
      by_cases hj0 : j = 0
      · subst hj0
        have HE := Lib.hid (show colsB m xs = colsFrom m (prevOf xs (0 + 1)) (xs.drop (0 + 1)) by
          rw [HA.out, show prevOf xs (0 + 1) = x from hx.out, show betw x 0 (m - 1) = true from H0.out, show decide (prevOf xs 0 < x) = true from decide_eq_true (show (-1 : Int) < x by omega)]; simp)
        have c0' : w.cell? ⟨b0, o0, none⟩ = some (.int .i64 x) := c0
        clear h hx HA
        go_wp2_with fail
        refine (HC.out).mono ?_
        rintro e w' ⟨rfl, rfl⟩
        go_wp2_with fail
        go_roundw
        case rel => exact ⟨1, by omega, rfl, HE.out, trivial⟩
        case measure => simp [intOf]; omega
      obtain ⟨i, rfl⟩ : ∃ i, j = i + 1 := ⟨j - 1, by omega⟩
      obtain ⟨b9, o9, y, hb9, hcy, hy, _, _⟩ := h.get (show i < n by omega)
      simp at hb9
      obtain ⟨rfl, rfl⟩ := hb9
      have cy_lt : b0 < w.heap.size := cell_lt hcy
      have cy : w.cell? ⟨b0, o0 + i, none⟩ = some (.int .i64 y) := (hb0.cell (p := ⟨b0, o0 + i, none⟩) cy_lt).trans hcy
      have hp : prevOf xs (i + 1) = y := hy.out
      rw [hp] at HA
      by_cases hxy : y < x
      · have HE := Lib.hid (show colsB m xs = colsFrom m (prevOf xs (i + 1 + 1)) (xs.drop (i + 1 + 1)) by
          rw [HA.out, show prevOf xs (i + 1 + 1) = x from hx.out, show betw x 0 (m - 1) = true from H0.out, decide_eq_true hxy]; simp)
        clear h hx HA hp hj0 hc hcy
        go_wp2_with fail
        refine (HC.out).mono ?_
        rintro e w' ⟨rfl, rfl⟩
        go_wp2_with fail
        go_roundw
        case rel => exact ⟨i + 1 + 1, by omega, by go_num, HE.out, trivial⟩
        case measure => simp [intOf]; omega
      · have HE := Lib.hid (show colsB m xs = false by rw [HA.out]; simp [hxy])
        clear h hx HA hp hj0 hc hcy
        go_wp2_with fail
        refine (HC.out).mono ?_
        rintro e w' ⟨rfl, rfl⟩
        go_wp2_with fail
        go_ret
        exact ⟨ret_bool HE.out.symm, rfl⟩
    · have HW : Hid (colsB m xs = true) := Lib.hid (by rw [hE.out, cols_end (by omega)])
      clear hE HV h hl
      go_wp2_with fail
      go_ret
      exact ⟨ret_bool HW.out.symm, rfl⟩

/-- Columns of a valid table. -/
def colsT (t : DT) (xs : List Int) : Bool := colsB t.2.1 xs && validT t

set_option maxHeartbeats 2000000 in
theorem l10Cols_any (cs : List Value) (t : DT) (a : Option Addr) (n cap : Nat) (xs : List Int) (w : World) (ht : rT.rep w cs t) (h : Ints w a n xs) :
    Calls Try.prog 133 #[.agg cs.toArray, .slice a n cap] w fun e w' => e = .returned (.bool (colsT t xs)) ∧ Below w.heap.size w w' := by
  obtain ⟨ub, un, uc, rfl, hs, hi, g1⟩ := rT_open ht
  have hcv := fun W (hW : Below w.heap.size w W) => validT_spec _ t W (rT.mono ht hW)
  obtain ⟨s, m, rows⟩ := t
  simp only at hs hi g1 hcv
  have HVT := Lib.hid hcv
  have hl := h.len
  have hn := h.small
  obtain ⟨V, hV⟩ : ∃ V, V = validT (s, m, rows) := ⟨_, rfl⟩
  rw [← hV] at HVT
  obtain ⟨M, hM⟩ : ∃ M, IntKind.i64.wrap (m - 1) = M := ⟨_, rfl⟩
  have HV : Hid (colsT (s, m, rows) xs = (colsFrom (M + 1) (prevOf xs 0) (xs.drop 0) && V)) := Lib.hid (by
    by_cases hmin : m = -9223372036854775808
    · have hVf : V = false := by rw [hV, validT]; subst hmin; simp [betw]
      simp [colsT, ← hV, hVf]
    · have : M + 1 = m := by rw [← hM, IntWalk.i64_in _ (by unfold I64 at hi; omega)]; omega
      rw [this]; simp [colsT, colsB, prevOf, hV])
  clear ht hcv hV g1 hs hi
  have Hw := Lib.hid hM
  have hb0 : Below w.heap.size w w := Below.refl _ _
  go_enter Try.func133, Try.ntmps133
  obtain ⟨w1, hw1⟩ : ∃ W, W = w.alloc (.cells #[.string s, .int .i64 m, .slice ub un uc] 34) := ⟨_, rfl⟩
  have z1 : Below w.heap.size w w1 := by rw [hw1]; exact (Below.refl _ _).alloc (Nat.le_refl _) _
  have s1 : w1.heap.size = w.heap.size + 1 := by rw [hw1]; simp
  have hb1 := on hb0 z1
  have b_0 : w1.cell? ⟨w.heap.size, 0, none⟩ = some (.string s) := by rw [hw1]; exact box_cell (Below.refl _ _) rfl
  have b_1 : w1.cell? ⟨w.heap.size, 1, none⟩ = some (.int .i64 m) := by rw [hw1]; exact box_cell (Below.refl _ _) rfl
  have b_2 : w1.cell? ⟨w.heap.size, 2, none⟩ = some (.slice ub un uc) := by rw [hw1]; exact box_cell (Below.refl _ _) rfl
  have raw1_b_0 := b_0
  have raw1_b_1 := b_1
  have raw1_b_2 := b_2
  rw [hw1] at raw1_b_0 raw1_b_1 raw1_b_2
  go_wp2_with fail
  rw [← hw1]
  clear hw1
  clear raw1_b_0 raw1_b_1 raw1_b_2
  go_loopw [5] (fun k wr => ∃ j : Nat, j ≤ n ∧ k = .int .i64 j ∧ Hid (colsT (s, m, rows) xs = (colsFrom (M + 1) (prevOf xs j) (xs.drop j) && V)) ∧ Drew w1 wr) (fun k _ => n - (intOf k).toNat)
  case atStart => exact ⟨0, Nat.zero_le _, rfl, HV.out, Drew.refl _⟩
  case round =>
    obtain ⟨j, hj, rfl, hE, hdr⟩ := hrel
    have hlc := hdr
    replace hdr : Below w1.heap.size w1 wr := hdr.below _
    have s2 := hdr.size
    have hb2 := on hb1 hdr
    replace b_0 := (hdr.cell (p := ⟨w.heap.size, 0, none⟩) (by simp only []; omega)).trans b_0
    replace b_1 := (hdr.cell (p := ⟨w.heap.size, 1, none⟩) (by simp only []; omega)).trans b_1
    replace b_2 := (hdr.cell (p := ⟨w.heap.size, 2, none⟩) (by simp only []; omega)).trans b_2
    by_cases hlt : j < n
    · obtain ⟨b0, o0, x, rfl, hc, hx, _, _⟩ := h.get hlt
      have c0_lt : b0 < w.heap.size := cell_lt hc
      have c0 : wr.cell? ⟨b0, o0 + j, none⟩ = some (.int .i64 x) := (hb2.cell (p := ⟨b0, o0 + j, none⟩) c0_lt).trans hc
      have HA := Lib.hid (hE.out.trans (by rw [cols_at (by omega) hx.out, show M + 1 - 1 = M by omega]))
      clear hE HV hl
      have hcall := fun q => l1In_any x 0 M (wr.drewN q)
      by_cases hb : betw x 0 M = true
      case neg =>
        replace hb : betw x 0 M = false := by simpa using hb
        have HE := Lib.hid (show colsT (s, m, rows) xs = false by rw [HA.out]; simp [hb])
        rw [hb] at hcall
        have HC := Lib.hid hcall
        clear h hb hcall
        go_wp2_with fail
        go_quiet ((go_at_call 98; exact quiet_same (HC.out _)))
        go_wp2_with fail
        go_ret
        exact ⟨ret_bool HE.out.symm, onD hb2 ⟨_, rfl⟩⟩
      have hx0 := betw_pos hb
      have H0 := Lib.hid hb
      rw [hb] at hcall
      have HC := Lib.hid hcall
      clear hb hcall
      by_cases hj0 : j = 0
      · subst hj0
        have HE := Lib.hid (show colsT (s, m, rows) xs = (colsFrom (M + 1) (prevOf xs (0 + 1)) (xs.drop (0 + 1)) && V) by
          rw [HA.out, show prevOf xs (0 + 1) = x from hx.out, H0.out, show decide (prevOf xs 0 < x) = true from decide_eq_true (show (-1 : Int) < x by omega)]; simp)
        have c0' : wr.cell? ⟨b0, o0, none⟩ = some (.int .i64 x) := c0
        clear h hx HA
        go_wp2_with fail
        go_quiet ((go_at_call 98; exact quiet_same (HC.out _)))
        go_wp2_with fail
        go_roundw
        case rel => exact ⟨1, by omega, rfl, HE.out, hlc.step _⟩
        case measure => simp [intOf]; omega
      obtain ⟨i, rfl⟩ : ∃ i, j = i + 1 := ⟨j - 1, by omega⟩
      obtain ⟨b9, o9, y, hb9, hcy, hy, _, _⟩ := h.get (show i < n by omega)
      simp at hb9
      obtain ⟨rfl, rfl⟩ := hb9
      have cy_lt : b0 < w.heap.size := cell_lt hcy
      have cy : wr.cell? ⟨b0, o0 + i, none⟩ = some (.int .i64 y) := (hb2.cell (p := ⟨b0, o0 + i, none⟩) cy_lt).trans hcy
      have hp : prevOf xs (i + 1) = y := hy.out
      rw [hp] at HA
      have hi63 : IntKind.i64.wrap (i : Int) = (i : Int) := IntWalk.i64_in _ (by omega)
      by_cases hxy : y < x
      · have HE := Lib.hid (show colsT (s, m, rows) xs = (colsFrom (M + 1) (prevOf xs (i + 1 + 1)) (xs.drop (i + 1 + 1)) && V) by
          rw [HA.out, show prevOf xs (i + 1 + 1) = x from hx.out, H0.out, decide_eq_true hxy]; simp)
        clear h hx HA hp hj0 hc hcy
        go_wp2_with fail
        go_quiet ((go_at_call 98; exact quiet_same (HC.out _)))
        clear hi63
        go_wp2_with fail
        go_roundw
        case rel => exact ⟨i + 1 + 1, by omega, by go_num, HE.out, hlc.step _⟩
        case measure => simp [intOf]; omega
      · have HE := Lib.hid (show colsT (s, m, rows) xs = false by rw [HA.out]; simp [hxy])
        clear h hx HA hp hj0 hc hcy
        go_wp2_with fail
        go_quiet ((go_at_call 98; exact quiet_same (HC.out _)))
        clear hi63
        go_wp2_with fail
        go_ret
        exact ⟨ret_bool HE.out.symm, onD hb2 ⟨_, rfl⟩⟩
    · have HW : Hid (colsT (s, m, rows) xs = V) := Lib.hid (by rw [hE.out, cols_end (by omega)]; simp)
      clear hE HV h hl
      go_wp2_with fail
      refine (HVT.out _ hb2).mono ?_
      rintro e w9 ⟨rfl, z9⟩
      have s3 := z9.size
      have hb3 := on hb2 z9
      replace b_0 := (z9.cell (p := ⟨w.heap.size, 0, none⟩) (by simp only []; omega)).trans b_0
      replace b_1 := (z9.cell (p := ⟨w.heap.size, 1, none⟩) (by simp only []; omega)).trans b_1
      replace b_2 := (z9.cell (p := ⟨w.heap.size, 2, none⟩) (by simp only []; omega)).trans b_2
      go_wp2_with fail
      go_ret
      exact ⟨ret_bool HW.out.symm, hb3⟩

end Go.Proofs.Ytbkoddikfpkocaa

/- Kind Db: shape, size, copy, comparison. Written by a program. -/
namespace Go.Proofs.Ytbkoddikfpkocaa
open Go.RowKit
set_option linter.unusedVariables false
set_option linter.unusedSimpArgs false
set_option synthInstance.maxSize 2000
set_option synthInstance.maxHeartbeats 400000

abbrev DDb := List DT
def rDb : RS DDb := rTl
def oDb : OS DDb := oTl
theorem reads_Db : Reads oDb rDb := reads_Tl
theorem rDb_open {w : World} {cs : List Value} {x : DDb} (h : rDb.rep w cs x) : ∃ ub0 un0 uc0, cs = [.slice ub0 un0 uc0] ∧ rTl.rep w [.slice ub0 un0 uc0] x := by
  have hr0 := h
  obtain ⟨ub0, un0, uc0, rfl⟩ := rTl_form hr0
  exact ⟨_, _, _, rfl, hr0⟩
theorem rDb_form {w : World} {cs : List Value} {x : DDb} (h : rDb.rep w cs x) : ∃ ub0 un0 uc0, cs = [.slice ub0 un0 uc0] := by
  obtain ⟨ub0, un0, uc0, h1, _⟩ := rDb_open h
  exact ⟨_, _, _, h1⟩
theorem rDb_mk {w : World} {ub0 : Option Addr} {un0 uc0 : Nat} {x : DDb} (h0 : rTl.rep w [.slice ub0 un0 uc0] x) : rDb.rep w [.slice ub0 un0 uc0] x :=
  h0
theorem oDb_form {lo hi : Nat} {w : World} {cs : List Value} {x : DDb} (h : Own oDb lo hi w cs x) : ∃ ub0 un0 uc0, cs = [.slice ub0 un0 uc0] := rDb_form (h.rd reads_Db)

theorem oDb_mk {lo hi l0 m0 : Nat} {w : World} {ub0 : Option Addr} {un0 uc0 : Nat} {x : DDb} (ho0 : Own oTl l0 m0 w [.slice ub0 un0 uc0] x) (a0 : lo ≤ l0) (b0 : m0 ≤ hi)  : Own oDb lo hi w [.slice ub0 un0 uc0] x := by
  obtain ⟨f0, r0, n0, q0⟩ := ho0
  refine ⟨f0, r0, ?_, ?_⟩
  · try simp only [List.nil_append, List.append_nil]
    exact n0
  · intro p hp
    try simp only [List.nil_append, List.append_nil, List.mem_append] at hp
    have := q0 p hp; omega

def bulk_Db (x : DDb) : Nat := bulk_Tl x

set_option maxHeartbeats 1000000 in
theorem sz_Db (cs : List Value) (x : DDb) (left : Int) (w : World) (h : rDb.rep w cs x) (h0 : 0 ≤ left) (h1 : left ≤ 1048576) :
    Calls Try.prog 71 #[.agg cs.toArray, .int .i64 left] w fun e w' => e = .returned (.int .i64 (szR left (bulk_Db x))) ∧ Below w.heap.size w w' := by
  obtain ⟨ub0, un0, uc0, rfl, g0⟩ := rDb_open h
  clear h
  have HE0 : Hid (szR left (bulk_Db x) = szR left (bulk_Tl x)) := rfl
  go_enter Try.func71, Try.ntmps71
  obtain ⟨w1, hw1⟩ : ∃ W, W = w.alloc (.cells #[.slice ub0 un0 uc0] 81) := ⟨_, rfl⟩
  have z1 : Below w.heap.size w w1 := by rw [hw1]; exact (Below.refl _ _).alloc (Nat.le_refl _) _
  have s1 : w1.heap.size = w.heap.size + 1 := by rw [hw1]; simp
  have bp_0 : w1.cell? ⟨w.heap.size, 0, none⟩ = some (.slice ub0 un0 uc0) := by rw [hw1]; exact box_cell (Below.refl _ _) rfl
  have hb1 := z1
  go_wp2_with fail
  rw [← hw1]
  clear hw1
  refine (sz_Tl _ x _ _ (rTl.mono g0 hb1) (by omega) (by omega)).mono ?_
  rintro e w2 ⟨rfl, z2⟩
  have s2 := z2.size
  have hb2 := on hb1 z2
  replace bp_0 := (z2.cell (p := ⟨w.heap.size, 0, none⟩) (by simp only []; omega)).trans bp_0
  obtain ⟨q0, hq0⟩ : ∃ q, q = szR left (bulk_Tl x) := ⟨_, rfl⟩
  rw [← hq0]
  have hc0 := szR_cases left (bulk_Tl x)
  rw [← hq0] at hc0
  clear hq0
  rcases hc0 with ⟨rfl, l0⟩ | ⟨hq0, l0⟩
  · have HE := Lib.hid (HE0.out.trans (szR_no0 l0))
    clear l0
    go_wp2_with fail
    go_ret
    exact ⟨ret_int HE.out.symm, hb2⟩
  have HE1 := Lib.hid (HE0.out.trans ((szR_yes l0).trans (by rw [hq0])) : szR left (bulk_Db x) = q0)
  have p0 : 0 ≤ q0 := by omega
  have p0b : q0 ≤ 1048576 := by omega
  clear hq0 l0
  go_wp2_with fail
  go_ret
  exact ⟨ret_int HE1.out.symm, hb2⟩

set_option maxHeartbeats 2000000 in
theorem to_Db (cs : List Value) (x : DDb) (w : World) (h : rDb.rep w cs x) (hn : bulk_Db x ≤ 1048576) :
    Calls Try.prog 74 #[.agg cs.toArray] w fun e w' => ∃ us, e = .returned (.agg us.toArray) ∧ Own oDb w.heap.size w'.heap.size w' us x ∧ Below w.heap.size w w' := by
  obtain ⟨ub0, un0, uc0, rfl, g0⟩ := rDb_open h
  clear h
  unfold bulk_Db at hn
  have hn0 : bulk_Tl x ≤ 1048576 := by omega
  clear hn
  go_enter Try.func74, Try.ntmps74
  obtain ⟨W0, hW0⟩ : ∃ W, W = ((w.alloc (.cells #[.slice ub0 un0 uc0] 81)).alloc (.cells #[.slice none 0 0] 89)).alloc (.cells #[.slice none 0 0] 89) := ⟨_, rfl⟩
  have hB0 : Below w.heap.size w W0 := by rw [hW0]; exact (((Below.refl _ _).alloc (Nat.le_refl _) _).alloc (by simp) _).alloc (by simp <;> omega) _
  have t0 : W0.heap.size = w.heap.size + 1 + 1 + 1 := by rw [hW0]; simp
  have bp_0 : W0.cell? ⟨w.heap.size, 0, none⟩ = some (.slice ub0 un0 uc0) := by rw [hW0]; simp [go_sem, World.cell?_alloc_past]
  have br_0 : W0.cell? ⟨w.heap.size + 1, 0, none⟩ = some (.slice none 0 0) := by rw [hW0]; simp [go_sem, World.cell?_alloc_past]
  have fr_0 : W0.frozen? ⟨w.heap.size + 1, 0, none⟩ = false := by rw [hW0]; simp [go_sem, World.frozen?_alloc_past]
  have bo_0 : W0.cell? ⟨w.heap.size + 1 + 1, 0, none⟩ = some (.slice none 0 0) := by rw [hW0]; simp [go_sem, World.cell?_alloc_past]
  have fo_0 : W0.frozen? ⟨w.heap.size + 1 + 1, 0, none⟩ = false := by rw [hW0]; simp [go_sem, World.frozen?_alloc_past]
  go_wp2_with fail
  rw [← hW0]
  clear hW0
  refine (to_Tl _ x _ (rTl.mono g0 hB0) hn0).mono ?_
  rintro e w1 ⟨a0, rfl, ho0, z1⟩
  have s1 := z1.size
  obtain ⟨ab0, an0, ac0, rfl⟩ := oTl_form1 ho0
  have q1 := on hB0 z1
  replace bp_0 := (z1.cell (p := ⟨w.heap.size, 0, none⟩) (by simp only []; omega)).trans bp_0
  replace br_0 := (z1.cell (p := ⟨w.heap.size + 1, 0, none⟩) (by simp only []; omega)).trans br_0
  replace fr_0 := (z1.frozen (p := ⟨w.heap.size + 1, 0, none⟩) (by simp only []; omega)).trans fr_0
  replace bo_0 := (z1.cell (p := ⟨w.heap.size + 1 + 1, 0, none⟩) (by simp only []; omega)).trans bo_0
  replace fo_0 := (z1.frozen (p := ⟨w.heap.size + 1 + 1, 0, none⟩) (by simp only []; omega)).trans fo_0
  go_wp2_with fail
  refine bodyPost_ret (v := .agg #[.slice ab0 an0 ac0]) (by simp [results, Try.results74, go_sem, br_0, bo_0, fr_0, fo_0]) rfl ⟨_, rfl, ?_, ?_⟩
  · skip
    have hS0 : ∀ (W : World) (p : Addr) (u : Value), p.block < w.heap.size + 1 + 1 + 1 → Own oTl W0.heap.size w1.heap.size W [.slice ab0 an0 ac0] x → Own oTl W0.heap.size w1.heap.size (W.setCell p u) [.slice ab0 an0 ac0] x := fun W p u hp k9 => k9.setOut rfl (by omega)
    exact oDb_mk (hS0 _ _ _ (by simp <;> omega) (hS0 _ _ _ (by simp <;> omega) ho0)) (by omega) (by simp [World.setCell] <;> omega) 
  · exact ((q1.setCell (by simp <;> omega) _).setCell (by simp <;> omega) _)

set_option maxHeartbeats 2000000 in
theorem eq_Db (cs ds : List Value) (x y : DDb) (w : World) (h : rDb.rep w cs x) (h' : rDb.rep w ds y) :
    Calls Try.prog 77 #[.agg cs.toArray, .agg ds.toArray] w fun e w' => e = .returned (.bool (decide (x = y))) ∧ Below w.heap.size w w' := by
  obtain ⟨ub0, un0, uc0, rfl, g0⟩ := rDb_open h
  obtain ⟨vb0, vn0, vc0, rfl, k0⟩ := rDb_open h'
  clear h h'
  have hb1 : Below w.heap.size w ((w.alloc (.cells #[.slice ub0 un0 uc0] 89)).alloc (.cells #[.slice vb0 vn0 vc0] 89)) := ((Below.refl _ _).alloc (Nat.le_refl _) _).alloc (by simp) _
  go_enter Try.func77, Try.ntmps77
  obtain ⟨w1, hw1⟩ : ∃ W, W = (w.alloc (.cells #[.slice ub0 un0 uc0] 89)).alloc (.cells #[.slice vb0 vn0 vc0] 89) := ⟨_, rfl⟩
  have s1 : w1.heap.size = w.heap.size + 1 + 1 := by rw [hw1]; simp
  rw [← hw1] at hb1
  have bc_0 : w1.cell? ⟨w.heap.size, 0, none⟩ = some (.slice ub0 un0 uc0) := by rw [hw1]; simp [go_sem, World.cell?_alloc_past]
  have bd_0 : w1.cell? ⟨w.heap.size + 1, 0, none⟩ = some (.slice vb0 vn0 vc0) := by rw [hw1]; simp [go_sem, World.cell?_alloc_past]
  go_wp2_with fail
  rw [← hw1]
  clear hw1
  refine (eq_Tl _ _ x y _ (rTl.mono g0 hb1) (rTl.mono k0 hb1)).mono ?_
  rintro e w2 ⟨rfl, z2⟩
  have s2 := z2.size
  have hb2 := on hb1 z2
  replace bc_0 := (z2.cell (p := ⟨w.heap.size, 0, none⟩) (by simp only []; omega)).trans bc_0
  replace bd_0 := (z2.cell (p := ⟨w.heap.size + 1, 0, none⟩) (by simp only []; omega)).trans bd_0
  by_cases e0 : x = y
  case neg =>
    have HE := Lib.hid (show decide (x = y) = false by simp only [decide_eq_false_iff_not]; intro h9; exact e0 (by rw [h9]))
    have hne : decide (x = y) = false := by simpa using e0
    rw [hne]
    clear e0 hne
    go_wp2_with fail
    go_ret
    exact ⟨ret_bool HE.out.symm, hb2⟩
  have E0 := Lib.hid e0
  have hq0 : decide (x = y) = true := by simpa using e0
  rw [hq0]
  clear e0 hq0
  have HE := Lib.hid (show decide (x = y) = true by simp only [decide_eq_true_eq]; exact E0.out)
  go_wp2_with fail
  go_ret
  exact ⟨ret_bool HE.out.symm, hb2⟩

end Go.Proofs.Ytbkoddikfpkocaa

/- Contracts: columns selected from a row. -/
namespace Go.Proofs.Ytbkoddikfpkocaa
open Go.RowKit
set_option linter.unusedVariables false
set_option linter.unusedSimpArgs false
set_option synthInstance.maxSize 2000
set_option synthInstance.maxHeartbeats 400000

/-- Whether columns are columns of a row. -/
def selOk (row cols : List Int) : Bool := cols.all (fun c => betw c 0 ((row.length : Int) - 1))
/-- The values of a row at columns. -/
def selAt (row cols : List Int) : List Int := cols.map (fun c => row.getD c.toNat 0)
def sel (row cols : List Int) : List Int := if selOk row cols then selAt row cols else []
theorem selAt_len (row cols : List Int) : (selAt row cols).length = cols.length := by simp [selAt]
theorem sel_len (row cols : List Int) : (sel row cols).length ≤ cols.length := by
  unfold sel; split <;> simp [selAt]
theorem selAt_step {row cols : List Int} {j : Nat} {c : Nat} {x : Int} (hj : j < cols.length) (hc : cols.getD j 0 = (c : Int)) (hx : row.getD c 0 = x) : selAt row (cols.take (j + 1)) = selAt row (cols.take j) ++ [x] := by
  rw [take_snoc cols j hj, hc]; simp only [selAt, List.map_append, List.map_cons, List.map_nil, Int.toNat_natCast, hx]
theorem selOk_no {row cols : List Int} {j : Nat} {x : Int} (hj : j < cols.length) (hc : cols.getD j 0 = x) (hb : betw x 0 ((row.length : Int) - 1) = false) : selOk row cols = false := by
  rw [selOk, List.all_eq_false]
  refine ⟨x, ?_, by rw [hb]; simp⟩
  rw [← hc, List.getD_eq_getElem?_getD, List.getElem?_eq_getElem hj]
  exact List.getElem_mem hj
theorem selOk_at {row cols : List Int} {j : Nat} {x : Int} (hj : j < cols.length) (hc : cols.getD j 0 = x) : selOk row (cols.drop j) = (betw x 0 ((row.length : Int) - 1) && selOk row (cols.drop (j + 1))) := by
  rw [drop_cons cols j hj, hc]; rfl
theorem selOk_end {row cols : List Int} {j : Nat} (hj : cols.length ≤ j) : selOk row (cols.drop j) = true := by
  rw [List.drop_eq_nil_of_le hj]; rfl
theorem I64.nat {x : Int} (h : betw x 0 9223372036854775806 = true) : ∃ c : Nat, x = (c : Int) := by
  refine ⟨x.toNat, ?_⟩
  simp only [betw, Bool.and_eq_true, decide_eq_true_eq] at h; omega
theorem betw_nat {x m : Int} (h : betw x 0 m = true) : ∃ c : Nat, x = (c : Int) ∧ (c : Int) ≤ m := by
  simp only [betw, Bool.and_eq_true, decide_eq_true_eq] at h
  exact ⟨x.toNat, by omega, by omega⟩

set_option maxHeartbeats 2000000 in
theorem sel_impl (a b : Option Addr) (n m cap cap' : Nat) (row cols : List Int) (w : World) (h : Ints w a n row) (h' : Ints w b m cols) (hm : m ≤ 1048576) :
    Calls Try.prog 139 #[.slice a n cap, .slice b m cap'] w fun e w' => ∃ vb vn vc, e = .returned (.tuple #[.slice vb vn vc, .bool (selOk row cols)]) ∧ Own oI w.heap.size w'.heap.size w' [.slice vb vn vc] (sel row cols) ∧ Below w.heap.size w w' := by
  have hl := h.len
  have hl' := h'.len
  have hn := h.small
  have hn' := h'.small
  have HV : Hid (selOk row cols = selOk row (cols.drop 0)) := Lib.hid (by simp)
  have hwn : IntKind.i64.wrap ((n : Int) - 1) = (n : Int) - 1 := IntWalk.i64_in _ (by omega)
  have hb0 : Below w.heap.size w w := Below.refl _ _
  go_enter Try.func139, Try.ntmps139
  obtain ⟨w1, hw1⟩ : ∃ W, W = w.alloc (.cells #[] 3) := ⟨_, rfl⟩
  have z1 : Below w.heap.size w w1 := by rw [hw1]; exact (Below.refl _ _).alloc (Nat.le_refl _) _
  have s1 : w1.heap.size = w.heap.size + 1 := by rw [hw1]; simp
  have hb1 := on hb0 z1
  have ho : ∀ S, Acc 3 O.int w.heap.size S w1.heap.size w1 (.slice (some ⟨w.heap.size, 0, none⟩) 0 0) [] := fun S => by rw [hw1]; exact Acc.empty (by omega) (by first | (simp; done) | (simp; omega))
  go_wp2_with fail
  rw [← hw1]
  clear hw1
  go_loopw [6, 12] (fun v i wr => ∃ j : Nat, j ≤ m ∧ i = .int .i64 j ∧ Hid (selOk row cols = selOk row (cols.drop j)) ∧ Acc 3 O.int w.heap.size w1.heap.size wr.heap.size wr v (selAt row (cols.take j)) ∧ Turn w.heap.size (w.heap.size + 1) w1 wr) (fun _ i _ => m - (intOf i).toNat)
  case atStart => exact ⟨0, Nat.zero_le _, rfl, HV.out, by rw [List.take_zero]; exact (ho _).wide (Nat.le_refl _) (by omega), turn_refl _ _ _⟩
  case round =>
    obtain ⟨j, hj, rfl, hE, hacc, hdr⟩ := hrel
    have hlc := hdr
    have s2 := hdr.size
    have hb2 := hb1.trans ((hdr.below (by omega)).mono (by omega))
    have hbl : (selAt row (cols.take j)).length ≤ 1048576 := by rw [selAt_len]; have h2 : (cols.take j).length ≤ j := List.length_take_le _ _; omega
    by_cases hlt : j < m
    · obtain ⟨b1, o1, x, rfl, hc, hx, _, _⟩ := h'.get hlt
      have c0_lt : b1 < w.heap.size := cell_lt hc
      have c0 : wr.cell? ⟨b1, o1 + j, none⟩ = some (.int .i64 x) := (hb2.cell (p := ⟨b1, o1 + j, none⟩) c0_lt).trans hc
      have hcall := fun W => within_any x 0 ((n : Int) - 1) W
      by_cases hb : betw x 0 ((n : Int) - 1) = true
      case neg =>
        replace hb : betw x 0 ((n : Int) - 1) = false := by simpa using hb
        have HE := Lib.hid (selOk_no (row := row) (by omega) hx.out (by rw [hl]; exact hb))
        rw [hb] at hcall
        have HC := Lib.hid hcall
        have HS := Lib.hid (show sel row cols = [] by simp [sel, HE.out])
        clear h h' hb hcall hE HV hl hl' ho hx hc hacc
        go_wp2_with fail
        refine (HC.out _).mono ?_
        rintro e w' ⟨rfl, rfl⟩
        go_wp2_with fail
        refine bodyPost_ret (v := .tuple #[.slice none 0 0, .bool false]) (by simp [results, Try.results139, go_sem]) rfl ⟨_, _, _, by rw [HE.out], by rw [HS.out]; exact own_nil_S.mono (Nat.le_refl _) (by omega), hb2⟩
      obtain ⟨c, rfl, hcn⟩ := betw_nat hb
      rw [hb] at hcall
      have HC := Lib.hid hcall
      obtain ⟨b2, o2, y, rfl, hcy, hy, hy1, hy2⟩ := h.get (show c < n by omega)
      have cy_lt : b2 < w.heap.size := cell_lt hcy
      have cy : wr.cell? ⟨b2, o2 + c, none⟩ = some (.int .i64 y) := (hb2.cell (p := ⟨b2, o2 + c, none⟩) cy_lt).trans hcy
      have HB := Lib.hid (selAt_step (show j < cols.length by omega) hx.out hy.out)
      have HE : Hid (selOk row cols = selOk row (cols.drop (j + 1))) := Lib.hid (by rw [hE.out, selOk_at (by omega) hx.out, hl, hb]; rfl)
      clear h h' hb hcall hE HV hl hl' ho hx hc hy hcy
      go_wp2_with (first
        | (go_at_call 99; refine (HC.out _).mono ?_; rintro e w' ⟨rfl, rfl⟩)
        | (at_builtin; refine wpList_accI _ _ _ _ _ hacc hlc rfl (by omega) (Nat.le_refl _) ⟨by omega, by omega⟩ (by omega) rfl rfl rfl rfl rfl ?_; intro v' w1 hacc' ht' hsz'))
      rw [← HB.out] at hacc'
      go_roundw
      case rel => exact ⟨j + 1, by omega, by go_num, HE.out, hacc', ht'⟩
      case measure => simp [intOf]; omega
    · obtain rfl : j = m := by omega
      have HE : Hid (selOk row cols = true) := Lib.hid (by rw [hE.out, selOk_end (by omega)])
      have HS := Lib.hid (show sel row cols = selAt row cols by simp [sel, HE.out])
      rw [List.take_of_length_le (by omega), ← HS.out] at hacc
      obtain ⟨a', n', cap2, rfl⟩ := hacc.form3
      have HO := Lib.hid (hacc.own (B := w.heap.size) (by omega) (by omega) (Nat.le_refl _))
      clear hacc h h' hl hl' ho hE HV
      go_wp2_with fail
      refine bodyPost_ret (v := .tuple #[.slice a' n' cap2, .bool true]) (by simp [results, Try.results139, go_sem]) rfl ⟨_, _, _, by rw [HE.out], HO.out, hb2⟩

set_option maxHeartbeats 2000000 in
theorem sel_spec (a b : Option Addr) (n m cap cap' : Nat) (row cols : List Int) (w : World) (h : Ints w a n row) (h' : Ints w b m cols) (hm : m ≤ 1048576) :
    Calls Try.prog 134 #[.slice a n cap, .slice b m cap'] w fun e w' => ∃ vb vn vc, e = .returned (.tuple #[.slice vb vn vc, .bool (selOk row cols)]) ∧ Own oI w.heap.size w'.heap.size w' [.slice vb vn vc] (sel row cols) ∧ Below w.heap.size w w' := by
  have hl := h.len
  have hl' := h'.len
  have hn := h.small
  have hn' := h'.small
  have HV : Hid (selOk row cols = selOk row (cols.drop 0)) := Lib.hid (by simp)
  have hwn : IntKind.i64.wrap ((n : Int) - 1) = (n : Int) - 1 := IntWalk.i64_in _ (by omega)
  have hb0 : Below w.heap.size w w := Below.refl _ _
  go_enter Try.func134, Try.ntmps134
  obtain ⟨w1, hw1⟩ : ∃ W, W = w.alloc (.cells #[] 3) := ⟨_, rfl⟩
  have z1 : Below w.heap.size w w1 := by rw [hw1]; exact (Below.refl _ _).alloc (Nat.le_refl _) _
  have s1 : w1.heap.size = w.heap.size + 1 := by rw [hw1]; simp
  have hb1 := on hb0 z1
  have ho : ∀ S, Acc 3 O.int w.heap.size S w1.heap.size w1 (.slice (some ⟨w.heap.size, 0, none⟩) 0 0) [] := fun S => by rw [hw1]; exact Acc.empty (by omega) (by first | (simp; done) | (simp; omega))
  go_wp2_with fail
  rw [← hw1]
  clear hw1
  go_loopw [6, 7] (fun v i wr => ∃ j : Nat, j ≤ m ∧ i = .int .i64 j ∧ Hid (selOk row cols = selOk row (cols.drop j)) ∧ Acc 3 O.int w.heap.size w1.heap.size wr.heap.size wr v (selAt row (cols.take j)) ∧ Turn w.heap.size (w.heap.size + 1) w1 wr) (fun _ i _ => m - (intOf i).toNat)
  case atStart => exact ⟨0, Nat.zero_le _, rfl, HV.out, by rw [List.take_zero]; exact (ho _).wide (Nat.le_refl _) (by omega), turn_refl _ _ _⟩
  case round =>
    obtain ⟨j, hj, rfl, hE, hacc, hdr⟩ := hrel
    have hlc := hdr
    have s2 := hdr.size
    have hb2 := hb1.trans ((hdr.below (by omega)).mono (by omega))
    have hbl : (selAt row (cols.take j)).length ≤ 1048576 := by rw [selAt_len]; have h2 : (cols.take j).length ≤ j := List.length_take_le _ _; omega
    by_cases hlt : j < m
    · obtain ⟨b1, o1, x, rfl, hc, hx, _, _⟩ := h'.get hlt
      have c0_lt : b1 < w.heap.size := cell_lt hc
      have c0 : wr.cell? ⟨b1, o1 + j, none⟩ = some (.int .i64 x) := (hb2.cell (p := ⟨b1, o1 + j, none⟩) c0_lt).trans hc
      have hcall := fun W => l1In_any x 0 ((n : Int) - 1) W
      by_cases hb : betw x 0 ((n : Int) - 1) = true
      case neg =>
        replace hb : betw x 0 ((n : Int) - 1) = false := by simpa using hb
        have HE := Lib.hid (selOk_no (row := row) (by omega) hx.out (by rw [hl]; exact hb))
        rw [hb] at hcall
        have HC := Lib.hid hcall
        have HS := Lib.hid (show sel row cols = [] by simp [sel, HE.out])
        clear h h' hb hcall hE HV hl hl' ho hx hc hacc
        go_wp2_with fail
        refine (HC.out _).mono ?_
        rintro e w' ⟨rfl, rfl⟩
        go_wp2_with fail
        refine bodyPost_ret (v := .tuple #[.slice (some ⟨wr.heap.size, 0, none⟩) 0 0, .bool false]) (by simp [results, Try.results134, go_sem]) rfl ⟨_, _, _, by rw [HE.out], by rw [HS.out]; exact ((Acc.empty (E := 3) (o := O.int) (S := w.heap.size) (g := wr.heap.size) (hi := wr.heap.size + 1) rfl (by omega)).own (by omega) (Nat.le_refl _) (by simp)), hb2.trans ((Below.refl _ _).alloc (by omega) _)⟩
      obtain ⟨c, rfl, hcn⟩ := betw_nat hb
      rw [hb] at hcall
      have HC := Lib.hid hcall
      obtain ⟨b2, o2, y, rfl, hcy, hy, hy1, hy2⟩ := h.get (show c < n by omega)
      have cy_lt : b2 < w.heap.size := cell_lt hcy
      have cy : wr.cell? ⟨b2, o2 + c, none⟩ = some (.int .i64 y) := (hb2.cell (p := ⟨b2, o2 + c, none⟩) cy_lt).trans hcy
      have HB := Lib.hid (selAt_step (show j < cols.length by omega) hx.out hy.out)
      have HE : Hid (selOk row cols = selOk row (cols.drop (j + 1))) := Lib.hid (by rw [hE.out, selOk_at (by omega) hx.out, hl, hb]; rfl)
      clear h h' hb hcall hE HV hl hl' ho hx hc hy hcy
      go_wp2_with (first
        | (go_at_call 98; refine (HC.out _).mono ?_; rintro e w' ⟨rfl, rfl⟩)
        | (at_builtin; refine wpList_accI _ _ _ _ _ hacc hlc rfl (by omega) (Nat.le_refl _) ⟨by omega, by omega⟩ (by omega) rfl rfl rfl rfl rfl ?_; intro v' w1 hacc' ht' hsz'))
      rw [← HB.out] at hacc'
      go_roundw
      case rel => exact ⟨j + 1, by omega, by go_num, HE.out, hacc', ht'⟩
      case measure => simp [intOf]; omega
    · obtain rfl : j = m := by omega
      have HE : Hid (selOk row cols = true) := Lib.hid (by rw [hE.out, selOk_end (by omega)])
      have HS := Lib.hid (show sel row cols = selAt row cols by simp [sel, HE.out])
      rw [List.take_of_length_le (by omega), ← HS.out] at hacc
      obtain ⟨a', n', cap2, rfl⟩ := hacc.form3
      have HO := Lib.hid (hacc.own (B := w.heap.size) (by omega) (by omega) (Nat.le_refl _))
      clear hacc h h' hl hl' ho hE HV
      go_wp2_with fail
      refine bodyPost_ret (v := .tuple #[.slice a' n' cap2, .bool true]) (by simp [results, Try.results134, go_sem]) rfl ⟨_, _, _, by rw [HE.out], HO.out, hb2⟩


end Go.Proofs.Ytbkoddikfpkocaa

/- Contracts: whether a query is valid. -/
namespace Go.Proofs.Ytbkoddikfpkocaa
open Go.RowKit
set_option linter.unusedVariables false
set_option linter.unusedSimpArgs false

/-- Variables as bits, laid over some. -/
def vbits (m : Nat) : List Int → Nat
  | [] => m
  | v :: t => vbits (m ||| 2 ^ v.toNat) t
def varsFrom (n : Int) (pre : List Int) : List Int → Bool
  | [] => true
  | v :: t => betw v 0 (n - 1) && !has pre v && varsFrom n (pre ++ [v]) t
def validFrom (n m : Nat) : List DA → Bool
  | [] => decide (m = 2 ^ n - 1)
  | a :: t => nameB a.1 && betw a.2.length 1 3 && (varsFrom n [] a.2 && validFrom n (vbits m a.2) t)
/-- Whether a query is valid. -/
def validQ (q : DQ) : Bool := betw q.1 1 4 && betw q.2.length 1 4 && validFrom q.1.toNat 0 q.2

theorem validQ_no1 {q : DQ} (h : betw q.1 1 4 = false) : validQ q = false := by simp [validQ, h]
theorem validQ_no2 {q : DQ} (h : betw q.2.length 1 4 = false) : validQ q = false := by simp [validQ, h]
theorem validQ_go {n : Nat} {xs : List DA} (h : betw (n : Int) 1 4 = true) (h' : betw xs.length 1 4 = true) : validQ ((n : Int), xs) = validFrom n 0 (xs.drop 0) := by simp [validQ, h, h']
theorem validFrom_at {n m j : Nat} {xs : List DA} {a : DA} (h : xs[j]? = some a) : validFrom n m (xs.drop j) = (nameB a.1 && betw a.2.length 1 3 && (varsFrom n (a.2.take 0) (a.2.drop 0) && validFrom n (vbits m (a.2.drop 0)) (xs.drop (j + 1)))) := by
  obtain ⟨h1, rfl⟩ := List.getElem?_eq_some_iff.1 h
  rw [List.drop_eq_getElem_cons h1]; simp [validFrom]
theorem validFrom_end {n m j : Nat} {xs : List DA} (h : xs.length ≤ j) : validFrom n m (xs.drop j) = decide (m = 2 ^ n - 1) := by
  rw [List.drop_eq_nil_of_le h]; rfl
theorem vars_no {n : Int} {k : Nat} {v : Int} {vs : List Int} (hk : k < vs.length) (hv : vs.getD k 0 = v) (h : (betw v 0 (n - 1) && !has (vs.take k) v) = false) : varsFrom n (vs.take k) (vs.drop k) = false := by
  rw [drop_cons vs k hk, hv, varsFrom, h]; rfl
theorem vars_yes {n : Int} {k : Nat} {v : Int} {vs : List Int} (hk : k < vs.length) (hv : vs.getD k 0 = v) (h : betw v 0 (n - 1) = true) (h' : has (vs.take k) v = false) : varsFrom n (vs.take k) (vs.drop k) = varsFrom n (vs.take (k + 1)) (vs.drop (k + 1)) := by
  rw [drop_cons vs k hk, hv, varsFrom, h, h', take_snoc vs k hk, hv]; simp
theorem vbits_at {m k : Nat} {v : Nat} {vs : List Int} (hk : k < vs.length) (hv : vs.getD k 0 = (v : Int)) : vbits m (vs.drop k) = vbits (m ||| 2 ^ v) (vs.drop (k + 1)) := by
  rw [drop_cons vs k hk, hv, vbits]; simp
theorem vars_end {n : Int} {k : Nat} {vs : List Int} (hk : vs.length ≤ k) : varsFrom n (vs.take k) (vs.drop k) = true := by
  rw [List.drop_eq_nil_of_le hk]; rfl
theorem vbits_end {m k : Nat} {vs : List Int} (hk : vs.length ≤ k) : vbits m (vs.drop k) = m := by
  rw [List.drop_eq_nil_of_le hk]; rfl
theorem or_lt {m v n : Nat} (h : m < 2 ^ n) (hv : v < n) : m ||| 2 ^ v < 2 ^ n := Nat.or_lt_two_pow h (Nat.pow_lt_pow_right (by omega) hv)
theorem pow_le16 {n : Nat} (h : n ≤ 4) : 2 ^ n ≤ 16 := by
  have := Nat.pow_le_pow_right (show 0 < 2 by omega) h
  omega
theorem Ints.takeTo {w : World} {a : Option Addr} {n : Nat} {xs : List Int} (h : Ints w a n xs) {k : Nat} (hk : k ≤ n) : Ints w a k (xs.take k) := by
  have hl := h.len
  refine ⟨by simp; omega, by have := h.small; omega, fun i hi => ?_, fun x hx => h.rng x (List.mem_of_mem_take hx)⟩
  obtain ⟨b, off, ha, hc⟩ := h.cell i (by omega)
  refine ⟨b, off, ha, ?_⟩
  rw [hc]
  congr 2
  simp [List.getD_eq_getElem?_getD, hi]

/-- Block g holds n bools: the bits of m. -/
structure Bools (w : World) (g n m : Nat) : Prop where
  blk : ∃ E, w.heap[g]? = some (.cells ((List.range n).map (fun i => Value.bool (m.testBit i))).toArray E)
theorem Bools.below {w w' : World} {g n m C : Nat} (h : Bools w g n m) (hb : Below C w w') (hC : g < C) : Bools w' g n m := by
  obtain ⟨E, h⟩ := h.blk
  exact ⟨E, by rw [hb.block g hC]; exact h⟩
theorem Bools.cell {w : World} {g n m : Nat} (h : Bools w g n m) {i : Nat} (hi : i < n) : w.cell? ⟨g, i, none⟩ = some (.bool (m.testBit i)) := by
  obtain ⟨E, h⟩ := h.blk
  simp [World.cell?, h, hi]
theorem Bools.frozen {w : World} {g n m : Nat} (h : Bools w g n m) (i : Nat) : w.frozen? ⟨g, i, none⟩ = false := by
  obtain ⟨E, h⟩ := h.blk
  simp [World.frozen?, h]
theorem Bools.lt {w : World} {g n m : Nat} (h : Bools w g n m) : g < w.heap.size := by
  obtain ⟨E, h⟩ := h.blk
  exact (Array.getElem?_eq_some_iff.1 h).1
theorem Bools.set {w : World} {g n m : Nat} (h : Bools w g n m) {v : Nat} (hv : v < n) : Bools (w.setCell ⟨g, v, none⟩ (.bool true)) g n (m ||| 2 ^ v) := by
  obtain ⟨E, h⟩ := h.blk
  refine ⟨E, ?_⟩
  rw [heap_setCell_same w g v _ E _ h]
  congr 2
  apply Array.ext'
  simp only [Array.toList_setIfInBounds]
  apply List.ext_getElem?
  intro i
  rw [List.getElem?_set]
  by_cases hi : i < n
  · by_cases hiv : v = i
    · subst hiv; simp [hi, Nat.testBit_or, Nat.testBit_two_pow_self]
    · simp [hi, hiv, Nat.testBit_or, Nat.testBit_two_pow_of_ne hiv]
  · have : v ≠ i := by omega
    simp [hi, this]
theorem Bools.of_part {B : Nat} {w : World} {g n : Nat} {xs : List Bool} {E : TypeId} (h : Part E O.bool [.bool false] B w g n 0 xs) : Bools w g n 0 := by
  obtain ⟨css, fps, h1, h2, _⟩ := h
  have : css = [] := by
    have := (O.bool.rows_len h2).1
    simpa using this
  subst this
  refine ⟨E, ?_⟩
  rw [h1]
  congr 2
  simp only [List.flatten_nil, List.nil_append, Nat.sub_zero]
  congr 1
  apply List.ext_getElem?
  intro i
  have := rep_flat [Value.bool false] (by simp) n i
  rw [this]
  by_cases hi : i < n <;> simp [hi, Nat.mod_one]

theorem Turn.setCell {lo hi : Nat} {a w : World} (h : Turn lo hi a w) {p : Addr} (h1 : lo ≤ p.block) (h2 : p.block < hi) (u : Value) : Turn lo hi a (w.setCell p u) :=
  h.trans ((Kept.refl lo hi w).setCell h1 h2 u).turn

theorem wrap_pow {n : Nat} (h : n ≤ 16) : wrap64 ((2 : Int) ^ n) = ((2 ^ n : Nat) : Int) := by
  have h1 := Nat.pow_le_pow_right (show 0 < 2 by omega) h
  have h2 : ((2 : Int) ^ n) = ((2 ^ n : Nat) : Int) := by simp
  rw [h2]
  generalize 2 ^ n = p at h1
  exact IntWalk.wrap64_in _ ⟨by omega, by omega⟩
theorem or_pow {m v : Nat} (hm : m < 65536) (hv : v ≤ 16) : bits .or .i64 (m : Int) (wrap64 ((2 : Int) ^ v)) = ((m ||| 2 ^ v : Nat) : Int) := by
  have h1 := Nat.pow_le_pow_right (show 0 < 2 by omega) hv
  rw [wrap_pow hv]
  generalize 2 ^ v = p at h1
  exact bits_or_nat _ _ (by omega) (by omega)
theorem full_eq {m n : Nat} (hn : n ≤ 16) : ((m : Int) == wrap64 (wrap64 ((2 : Int) ^ n) - 1)) = decide (m = 2 ^ n - 1) := by
  have h1 := Nat.pow_le_pow_right (show 0 < 2 by omega) hn
  have h2 := Nat.two_pow_pos n
  rw [wrap_pow hn]
  generalize 2 ^ n = p at h1 h2
  rw [IntWalk.wrap64_in _ ⟨by omega, by omega⟩, Bool.eq_iff_iff]
  simp only [beq_iff_eq, decide_eq_true_eq]
  omega

set_option maxHeartbeats 400000 in
theorem indexBools (g n m cap : Nat) (w : World) (h : Bools w g n m) (hn : n ≤ 4) (hm : m < 2 ^ n) :
    Calls Try.prog 205 #[.slice (some ⟨g, 0, none⟩) n cap, .bool false] w fun e w' => ∃ r : Int, e = .returned (.int .i64 r) ∧ decide (0 ≤ r) = !decide (m = 2 ^ n - 1) ∧ w = w' := by
  go_enter Try.func205, Try.ntmps205
  go_wp2
  go_loop [5, 8] (fun _ i => ∃ j : Nat, j ≤ n ∧ i = .int .i64 j ∧ Hid (∀ i, i < j → m.testBit i = true)) (fun _ i => n - (intOf i).toNat)
  case atStart => exact ⟨0, Nat.zero_le _, rfl, by simp [Hid]⟩
  case round =>
    obtain ⟨j, hj, rfl, hE⟩ := hrel
    by_cases hlt : j < n
    · have hc := h.cell hlt
      obtain ⟨t, ht⟩ : ∃ t, t = m.testBit j := ⟨_, rfl⟩
      rw [← ht] at hc
      cases t with
      | true =>
        have HE := Lib.hid (show ∀ i, i < j + 1 → m.testBit i = true by
          intro i hi
          rcases Nat.lt_or_ge i j with h1 | h1
          · exact hE.out i h1
          · obtain rfl : i = j := by omega
            exact ht.symm)
        clear h ht hm
        go_wp2
        go_round
        case rel => exact ⟨j + 1, by omega, by go_num, HE.out⟩
        case measure => simp [intOf]; omega
      | false =>
        have HE := Lib.hid (show (!decide (m = 2 ^ n - 1)) = true by
          simp only [Bool.not_eq_true', decide_eq_false_iff_not]
          intro e
          subst e
          rw [Nat.testBit_two_pow_sub_one] at ht
          simp [hlt] at ht)
        clear h ht hm
        go_wp2
        go_ret
        exact ⟨_, rfl, by rw [HE.out]; simp, rfl⟩
    · have HE := Lib.hid (show (!decide (m = 2 ^ n - 1)) = false by
        simp only [Bool.not_eq_false', decide_eq_true_eq]
        apply Nat.eq_of_testBit_eq
        intro i
        rw [Nat.testBit_two_pow_sub_one]
        by_cases hi : i < n
        · rw [hE.out i (by omega)]; simp [hi]
        · simp only [hi, decide_false]
          exact Nat.testBit_lt_two_pow (Nat.lt_of_lt_of_le hm (Nat.pow_le_pow_right (by omega) (by omega))))
      clear h hm
      go_wp2
      go_ret
      exact ⟨_, rfl, by rw [HE.out]; rfl, rfl⟩

theorem containsBools (g n m cap : Nat) (w : World) (h : Bools w g n m) (hn : n ≤ 4) (hm : m < 2 ^ n) :
    Calls Try.prog 175 #[.slice (some ⟨g, 0, none⟩) n cap, .bool false] w fun e w' => e = .returned (.bool (!decide (m = 2 ^ n - 1))) ∧ w = w' := by
  go_enter Try.func175, Try.ntmps175
  go_wp2_with fail
  refine (indexBools _ _ _ _ _ h hn hm).mono ?_
  rintro e w' ⟨r, rfl, hr, rfl⟩
  have HR := Lib.hid hr
  clear hr hm
  go_wp2_with fail
  go_ret
  exact ⟨ret_bool HR.out, rfl⟩

end Go.Proofs.Ytbkoddikfpkocaa

/- Plain facts: masks of atoms, and the variables of what they hold. -/
namespace Go.Proofs.Ytbkoddikfpkocaa
open Go.RowKit
set_option linter.unusedVariables false
set_option linter.unusedSimpArgs false

/-- What a valid query is known to hold. -/
structure QOk (q : DQ) (n : Nat) : Prop where
  cnt : q.1 = n
  pos : 1 ≤ n
  le : n ≤ 4
  lpos : 1 ≤ q.2.length
  len : q.2.length ≤ 4
  name : ∀ a ∈ q.2, nameB a.1 = true
  vpos : ∀ a ∈ q.2, 1 ≤ a.2.length
  vlen : ∀ a ∈ q.2, a.2.length ≤ 3
  vars : ∀ a ∈ q.2, ∀ v ∈ a.2, 0 ≤ v ∧ v < n
theorem varsFrom_mem {n : Int} : ∀ {vs pre : List Int}, varsFrom n pre vs = true → ∀ v ∈ vs, 0 ≤ v ∧ v < n
  | [], _, _, v, hv => by cases hv
  | x :: t, pre, h, v, hv => by
    simp only [varsFrom, Bool.and_eq_true, betw, decide_eq_true_eq] at h
    rcases List.mem_cons.1 hv with rfl | hv
    · omega
    · exact varsFrom_mem h.2 v hv
theorem validFrom_atoms {n : Nat} : ∀ {xs : List DA} {m : Nat}, validFrom n m xs = true → ∀ a ∈ xs, nameB a.1 = true ∧ 1 ≤ a.2.length ∧ a.2.length ≤ 3 ∧ ∀ v ∈ a.2, 0 ≤ v ∧ v < (n : Int)
  | [], _, _, a, ha => by cases ha
  | x :: t, m, h, a, ha => by
    simp only [validFrom, Bool.and_eq_true, betw, decide_eq_true_eq] at h
    rcases List.mem_cons.1 ha with rfl | ha
    · exact ⟨h.1.1, by omega, by omega, varsFrom_mem h.2.1⟩
    · exact validFrom_atoms h.2.2 a ha
theorem QOk.of {q : DQ} (h : validQ q = true) : ∃ n, QOk q n := by
  simp only [validQ, Bool.and_eq_true, betw, decide_eq_true_eq] at h
  have hf := validFrom_atoms h.2
  refine ⟨q.1.toNat, by omega, by omega, by omega, by omega, by omega, fun a ha => (hf a ha).1, fun a ha => (hf a ha).2.1, fun a ha => (hf a ha).2.2.1, fun a ha => (hf a ha).2.2.2⟩

/-- The variables, as bits, of the atoms of a mask; i: the first atom's number. -/
def qbits (K m : Nat) : Nat → List DA → Nat
  | _, [] => m
  | i, a :: t => qbits K (if bitAt K i then vbits m a.2 else m) (i + 1) t
/-- The variables of a mask. -/
def bitsOf (q : DQ) (K : Nat) : Nat := qbits K 0 0 q.2

theorem qbits_at {K m j : Nat} {xs : List DA} {a : DA} (h : xs[j]? = some a) : qbits K m j (xs.drop j) = qbits K (if bitAt K j then vbits m (a.2.drop 0) else m) (j + 1) (xs.drop (j + 1)) := by
  obtain ⟨h1, rfl⟩ := List.getElem?_eq_some_iff.1 h
  rw [List.drop_eq_getElem_cons h1]; simp [qbits]
theorem qbits_end {K m j : Nat} {xs : List DA} (h : xs.length ≤ j) : qbits K m j (xs.drop j) = m := by
  rw [List.drop_eq_nil_of_le h]; rfl

theorem vbits_or : ∀ (vs : List Int) (m : Nat), vbits m vs = m ||| vbits 0 vs
  | [], m => by simp [vbits]
  | v :: t, m => by
    rw [vbits, vbits, vbits_or t (m ||| 2 ^ v.toNat), vbits_or t (0 ||| 2 ^ v.toNat), Nat.zero_or, Nat.or_assoc]
theorem vbits_lt {n : Nat} : ∀ {vs : List Int} {m : Nat}, (∀ v ∈ vs, 0 ≤ v ∧ v < (n : Int)) → m < 2 ^ n → vbits m vs < 2 ^ n
  | [], m, _, hm => hm
  | v :: t, m, h, hm => by
    have h1 := h v (by simp)
    have h2 : v.toNat < n := by omega
    show vbits (m ||| 2 ^ v.toNat) t < 2 ^ n
    exact @vbits_lt n t (m ||| 2 ^ v.toNat) (fun x hx => h x (by simp [hx])) (or_lt hm h2)
theorem vbits_test {j : Nat} : ∀ {vs : List Int} {m : Nat}, (∀ v ∈ vs, 0 ≤ v) → ((vbits m vs).testBit j = (m.testBit j || has vs (j : Int)))
  | [], m, _ => by simp [vbits, has]
  | v :: t, m, h => by
    have hv := h v (by simp)
    rw [vbits, vbits_test (fun x hx => h x (by simp [hx])), Nat.testBit_or, Bool.or_assoc]
    congr 1
    obtain ⟨k, rfl⟩ := Int.eq_ofNat_of_zero_le hv
    by_cases e : k = j
    · subst e
      simp [Nat.testBit_two_pow_self, has]
    · have e' : ¬ (j : Int) = (k : Int) := by omega
      simp [Nat.testBit_two_pow_of_ne e, has, e']
theorem qbits_lt {K n : Nat} : ∀ {xs : List DA} {m i : Nat}, (∀ a ∈ xs, ∀ v ∈ a.2, 0 ≤ v ∧ v < (n : Int)) → m < 2 ^ n → qbits K m i xs < 2 ^ n
  | [], m, i, _, hm => hm
  | a :: t, m, i, h, hm => by
    rw [qbits]
    refine qbits_lt (fun b hb => h b (by simp [hb])) ?_
    split
    · exact vbits_lt (h a (by simp)) hm
    · exact hm
theorem QOk.bits_lt {q : DQ} {n : Nat} (h : QOk q n) (K : Nat) : bitsOf q K < 2 ^ n := qbits_lt h.vars (Nat.two_pow_pos _)
/-- Whether some atom of a mask, from atom i on, holds variable v. -/
def someFrom (K v : Nat) : Nat → List DA → Bool
  | _, [] => false
  | i, a :: t => (bitAt K i && has a.2 (v : Int)) || someFrom K v (i + 1) t
theorem someFrom_at {K v j : Nat} {xs : List DA} {a : DA} (h : xs[j]? = some a) : someFrom K v j (xs.drop j) = ((bitAt K j && has a.2 (v : Int)) || someFrom K v (j + 1) (xs.drop (j + 1))) := by
  obtain ⟨h1, rfl⟩ := List.getElem?_eq_some_iff.1 h
  rw [List.drop_eq_getElem_cons h1]; rfl
theorem someFrom_end {K v j : Nat} {xs : List DA} (h : xs.length ≤ j) : someFrom K v j (xs.drop j) = false := by
  rw [List.drop_eq_nil_of_le h]; rfl
theorem qbits_some {K v : Nat} : ∀ {xs : List DA} {m i : Nat}, (∀ a ∈ xs, ∀ v ∈ a.2, 0 ≤ v) → ((qbits K m i xs).testBit v = (m.testBit v || someFrom K v i xs))
  | [], m, i, _ => by simp [qbits, someFrom]
  | a :: t, m, i, h => by
    rw [qbits, qbits_some (fun b hb => h b (by simp [hb])), someFrom]
    split
    · rename_i hb; rw [vbits_test (h a (by simp)), hb]; simp [Bool.or_assoc]
    · rename_i hb; simp [hb]
theorem QOk.some {q : DQ} {n : Nat} (h : QOk q n) (K v : Nat) : bitAt (bitsOf q K) v = someFrom K v 0 (q.2.drop 0) := by
  rw [bitAt_testBit, bitsOf, qbits_some (fun a ha x hx => (h.vars a ha x hx).1)]; simp
/-- The variables of a mask. -/
def varsOf (q : DQ) (K : Nat) : List Int := bitsTo (bitsOf q K) 4
theorem bitsTo_more {x n : Nat} (h : x < 2 ^ n) : ∀ k, bitsTo x (n + k) = bitsTo x n
  | 0 => rfl
  | k + 1 => by
    rw [show n + (k + 1) = n + k + 1 by omega, bitsTo_no, bitsTo_more h k]
    rw [bitAt_testBit]
    exact Nat.testBit_lt_two_pow (Nat.lt_of_lt_of_le h (Nat.pow_le_pow_right (by omega) (by omega)))
theorem QOk.varsOf {q : DQ} {n : Nat} (h : QOk q n) (K : Nat) : varsOf q K = bitsTo (bitsOf q K) n := by
  have := bitsTo_more (h.bits_lt K) (4 - n)
  rw [show n + (4 - n) = 4 by have := h.le; omega] at this
  exact this
theorem bitsTo_has {x : Nat} : ∀ {m v : Nat}, has (bitsTo x m) (v : Int) = (decide (v < m) && x.testBit v)
  | 0, v => by simp [bitsTo, has]
  | m + 1, v => by
    have ih := @bitsTo_has x m v
    simp only [has] at ih ⊢
    rw [Bool.eq_iff_iff] at ih ⊢
    simp only [decide_eq_true_eq, Bool.and_eq_true] at ih ⊢
    simp only [bitsTo, List.mem_append]
    rw [bitAt_testBit]
    constructor
    · rintro (h | h)
      · have := ih.1 h; exact ⟨by omega, this.2⟩
      · split at h
        · rename_i hb; simp only [List.mem_singleton] at h; obtain rfl : v = m := by omega
          exact ⟨by omega, hb⟩
        · simp at h
    · rintro ⟨h1, h2⟩
      rcases Nat.lt_or_ge v m with h3 | h3
      · exact .inl (ih.2 ⟨h3, h2⟩)
      · obtain rfl : v = m := by omega
        right; simp [h2]
theorem varsOf_has (q : DQ) {K v : Nat} (hv : v < 4) : has (varsOf q K) (v : Int) = (bitsOf q K).testBit v := by
  rw [Go.Proofs.Ytbkoddikfpkocaa.varsOf, bitsTo_has]; simp [hv]

/-- The full mask of a query. -/
def fullMask (q : DQ) : Int := if validQ q then ((2 ^ q.2.length - 1 : Nat) : Int) else 0
/-- Whether a query is valid and a mask one of its atoms. -/
def maskOkB (q : DQ) (k : Int) : Bool := validQ q && betw k 0 ((2 ^ q.2.length - 1 : Nat) : Int)
/-- MaskVariables. -/
def maskVars (q : DQ) (k : Int) : List Int := if maskOkB q k then varsOf q k.toNat else []
theorem maskVars_no {q : DQ} {k : Int} (h : maskOkB q k = false) : maskVars q k = [] := by simp [maskVars, h]
theorem maskVars_yes {q : DQ} {K : Nat} (h : maskOkB q (K : Int) = true) : maskVars q (K : Int) = varsOf q K := by simp [maskVars, h]
theorem maskOkB_lt {q : DQ} {k : Int} (h : maskOkB q k = true) : ∃ K : Nat, k = K ∧ K < 2 ^ q.2.length := by
  simp only [maskOkB, Bool.and_eq_true, betw, decide_eq_true_eq] at h
  have := Nat.two_pow_pos q.2.length
  exact ⟨k.toNat, by omega, by omega⟩
theorem maskOkB_valid {q : DQ} {k : Int} (h : maskOkB q k = true) : validQ q = true := by
  simp only [maskOkB, Bool.and_eq_true] at h; exact h.1
theorem varsOf_len (q : DQ) (K : Nat) : (varsOf q K).length ≤ 4 := bitsTo_len _ _
theorem maskVars_len (q : DQ) (k : Int) : (maskVars q k).length ≤ 4 := by
  unfold maskVars; split
  · exact varsOf_len _ _
  · simp
/-- What of one list is among another. -/
def both (xs ys : List Int) : List Int := xs.filter (has ys)
theorem both_yes {xs ys : List Int} {j : Nat} {x : Int} (hj : j < xs.length) (hx : xs.getD j 0 = x) (h : has ys x = true) : both (xs.take (j + 1)) ys = both (xs.take j) ys ++ [x] := by
  rw [take_snoc xs j hj, hx, both, List.filter_append, both]; simp [h]
theorem both_no {xs ys : List Int} {j : Nat} {x : Int} (hj : j < xs.length) (hx : xs.getD j 0 = x) (h : has ys x = false) : both (xs.take (j + 1)) ys = both (xs.take j) ys := by
  rw [take_snoc xs j hj, hx, both, List.filter_append, both]; simp [h]
theorem both_len (xs ys : List Int) : (both xs ys).length ≤ xs.length := List.length_filter_le _ _
theorem both_end {xs ys : List Int} {j : Nat} (h : xs.length ≤ j) : both (xs.take j) ys = both xs ys := by rw [List.take_of_length_le h]
end Go.Proofs.Ytbkoddikfpkocaa

/- Contracts: whether a database is valid. -/
namespace Go.Proofs.Ytbkoddikfpkocaa
open Go.RowKit Go.Sort
set_option linter.unusedVariables false
set_option linter.unusedSimpArgs false
set_option synthInstance.maxSize 2000
set_option synthInstance.maxHeartbeats 400000

/-- Names compared. -/
def ltB (s t : ByteArray) : Bool := Op.bytesLess s.toList t.toList
def dbFrom (p : Option ByteArray) : List DT → Bool
  | [] => true
  | t :: r => validT t && ((match p with | none => true | some q => ltB q t.1) && dbFrom (some t.1) r)
/-- Whether a database is valid. -/
def validDb (db : DDb) : Bool := dbFrom none db && decide (db.length ≤ 6)
def prevN (db : List DT) : Nat → Option ByteArray
  | 0 => none
  | j + 1 => (db[j]?).map (fun t => t.1)
theorem dbFrom_at {p : Option ByteArray} {db : List DT} {j : Nat} {t : DT} (h : db[j]? = some t) : dbFrom p (db.drop j) = (validT t && ((match p with | none => true | some q => ltB q t.1) && dbFrom (some t.1) (db.drop (j + 1)))) := by
  rw [drop_at h]; rfl
theorem dbFrom_end {p : Option ByteArray} {db : List DT} {j : Nat} (h : db.length ≤ j) : dbFrom p (db.drop j) = true := by
  rw [List.drop_eq_nil_of_le h]; rfl
theorem prevN_at {db : List DT} {j : Nat} {t : DT} (h : db[j]? = some t) : prevN db (j + 1) = some t.1 := by simp [prevN, h]
theorem validDb_no {db : DDb} (h : dbFrom none db = false) : validDb db = false := by simp [validDb, h]
theorem validDb_len {db : DDb} {n : Nat} (hl : db.length = n) (h : dbFrom none db = true) : validDb db = decide ((n : Int) ≤ 6) := by
  rw [validDb, h, hl, Bool.eq_iff_iff]; simp only [Bool.true_and, decide_eq_true_eq]; omega

set_option maxHeartbeats 4000000 in
theorem validDb_impl (cs : List Value) (x : DDb) (w : World) (h : rDb.rep w cs x) :
    Calls Try.prog 196 #[.agg cs.toArray] w fun e w' => e = .returned (.bool (validDb x)) ∧ Below w.heap.size w w' := by
  obtain ⟨ub, un, uc, rfl, g1⟩ := rDb_open h
  clear h
  have t1 := rS_sl g1
  have hl := t1.len
  have hn := t1.small
  have HV : Hid (dbFrom none x = dbFrom (prevN x 0) (x.drop 0)) := rfl
  have HL := Lib.hid hl
  have hb0 : Below w.heap.size w w := Below.refl _ _
  go_enter Try.func196, Try.ntmps196
  obtain ⟨w1, hw1⟩ : ∃ W, W = w.alloc (.cells #[.slice ub un uc] 89) := ⟨_, rfl⟩
  have z1 : Below w.heap.size w w1 := by rw [hw1]; exact (Below.refl _ _).alloc (Nat.le_refl _) _
  have s1 : w1.heap.size = w.heap.size + 1 := by rw [hw1]; simp
  have hb1 := on hb0 z1
  have b_0 : w1.cell? ⟨w.heap.size, 0, none⟩ = some (.slice ub un uc) := by rw [hw1]; exact box_cell (Below.refl _ _) rfl
  have raw1_b_0 := b_0
  rw [hw1] at raw1_b_0
  go_wp2_with fail
  rw [← hw1]
  clear hw1
  clear raw1_b_0
  go_loopw [8] (fun k wr => ∃ j : Nat, j ≤ un ∧ k = .int .i64 j ∧ Hid (dbFrom none x = dbFrom (prevN x j) (x.drop j)) ∧ Below w1.heap.size w1 wr) (fun k _ => un - (intOf k).toNat)
  case atStart => exact ⟨0, Nat.zero_le _, rfl, HV.out, Below.refl _ _⟩
  case round =>
    obtain ⟨j, hj, rfl, hE, hdr⟩ := hrel
    obtain ⟨wo, rfl⟩ : ∃ W, W = wr := ⟨_, rfl⟩
    have hlc := hdr
    have s2 := hdr.size
    have hb2 := on hb1 hdr
    replace b_0 := (hdr.cell (p := ⟨w.heap.size, 0, none⟩) (by simp only []; omega)).trans b_0
    by_cases hlt : j < un
    · obtain ⟨b1, o1, cs, t, rfl, hx, hr, hc⟩ := t1.at hlt
      have HA := Lib.hid (hE.out.trans (dbFrom_at hx.out))
      have HP := Lib.hid (prevN_at hx.out)
      obtain ⟨s, i, rows⟩ := t
      obtain ⟨tb, tn, tc, rfl, hs, hi, g2⟩ := rT_open hr
      simp only at hs hi g2 HA HP
      have e_lt : b1 < w.heap.size := cell_lt (hc 0 _ rfl)
      have e_0 : wo.cell? ⟨b1, o1 + j * 3, none⟩ = some (.string s) := (hb2.cell (p := ⟨b1, o1 + j * 3, none⟩) e_lt).trans (by have h9 := hc 0 _ rfl; rw [← Nat.add_assoc] at h9; exact h9)
      have e_1 : wo.cell? ⟨b1, o1 + j * 3 + 1, none⟩ = some (.int .i64 i) := (hb2.cell (p := ⟨b1, o1 + j * 3 + 1, none⟩) e_lt).trans (by have h9 := hc 1 _ rfl; rw [← Nat.add_assoc] at h9; exact h9)
      have e_2 : wo.cell? ⟨b1, o1 + j * 3 + 2, none⟩ = some (.slice tb tn tc) := (hb2.cell (p := ⟨b1, o1 + j * 3 + 2, none⟩) e_lt).trans (by have h9 := hc 2 _ rfl; rw [← Nat.add_assoc] at h9; exact h9)
      have hcall := fun W (hW : Below w.heap.size w W) => validT_impl [.string s, .int .i64 i, .slice tb tn tc] (s, i, rows) W (rT.mono hr hW)
      obtain ⟨v, hv⟩ : ∃ v, v = validT (s, i, rows) := ⟨_, rfl⟩
      rw [← hv] at hcall HA
      have HC := Lib.hid hcall
      clear hcall hv hE HV hc hr g2 hl
      by_cases hj0 : j = 0
      · subst hj0
        have z_0 : wo.cell? ⟨b1, o1, none⟩ = some (.string s) := by have h9 := e_0; rw [Nat.zero_mul, Nat.add_zero] at h9; exact h9
        have z_1 : wo.cell? ⟨b1, o1 + 1, none⟩ = some (.int .i64 i) := by have h9 := e_1; rw [Nat.zero_mul, Nat.add_zero] at h9; exact h9
        have z_2 : wo.cell? ⟨b1, o1 + 2, none⟩ = some (.slice tb tn tc) := by have h9 := e_2; rw [Nat.zero_mul, Nat.add_zero] at h9; exact h9
        clear e_0 e_1 e_2
        have HA1 : Hid (dbFrom none x = (v && dbFrom (prevN x (0 + 1)) (x.drop (0 + 1)))) := Lib.hid (by rw [HA.out, HP.out]; simp [prevN])
        clear hx HA HP t1
        cases v with
        | true =>
          have HE : Hid (dbFrom none x = dbFrom (prevN x (0 + 1)) (x.drop (0 + 1))) := Lib.hid (by rw [HA1.out]; rfl)
          obtain ⟨w3, hw3⟩ : ∃ W, W = wo.alloc (.cells #[.string s, .int .i64 i, .slice tb tn tc] 34) := ⟨_, rfl⟩
          have z3 : Below wo.heap.size wo w3 := by rw [hw3]; exact (Below.refl _ _).alloc (Nat.le_refl _) _
          have s3 : w3.heap.size = wo.heap.size + 1 := by rw [hw3]; simp
          have hb3 := on hb2 z3
          have old3_b_0 := b_0
          have old3_z_0 := z_0
          have old3_z_1 := z_1
          have old3_z_2 := z_2
          replace b_0 := (z3.cell (p := ⟨w.heap.size, 0, none⟩) (by simp only []; omega)).trans b_0
          replace hlc := on hlc z3
          replace z_0 := (z3.cell (p := ⟨b1, o1, none⟩) (by simp only []; omega)).trans z_0
          replace z_1 := (z3.cell (p := ⟨b1, o1 + 1, none⟩) (by simp only []; omega)).trans z_1
          replace z_2 := (z3.cell (p := ⟨b1, o1 + 2, none⟩) (by simp only []; omega)).trans z_2
          have p_0 : w3.cell? ⟨wo.heap.size, 0, none⟩ = some (.string s) := by rw [hw3]; exact box_cell (Below.refl _ _) rfl
          have p_1 : w3.cell? ⟨wo.heap.size, 1, none⟩ = some (.int .i64 i) := by rw [hw3]; exact box_cell (Below.refl _ _) rfl
          have p_2 : w3.cell? ⟨wo.heap.size, 2, none⟩ = some (.slice tb tn tc) := by rw [hw3]; exact box_cell (Below.refl _ _) rfl
          have raw3_b_0 := b_0
          have raw3_z_0 := z_0
          have raw3_z_1 := z_1
          have raw3_z_2 := z_2
          have raw3_p_0 := p_0
          have raw3_p_1 := p_1
          have raw3_p_2 := p_2
          rw [hw3] at raw3_b_0 raw3_z_0 raw3_z_1 raw3_z_2 raw3_p_0 raw3_p_1 raw3_p_2
          go_wp2_with fail
          rw [← hw3]
          clear hw3
          clear old3_b_0 old3_z_0 old3_z_1 old3_z_2 raw3_b_0 raw3_z_0 raw3_z_1 raw3_z_2 raw3_p_0 raw3_p_1 raw3_p_2
          have rg_b_0 := cell_regrown b_0
          have rg_z_0 := cell_regrown z_0
          have rg_z_1 := cell_regrown z_1
          have rg_z_2 := cell_regrown z_2
          have rg_p_0 := cell_regrown p_0
          have rg_p_1 := cell_regrown p_1
          have rg_p_2 := cell_regrown p_2
          refine wp_region_quiet_below (by kernel_rfl) (by kernel_rfl) ?_
          repeat (go_big_quiet_step ((first | (go_at_call 137; exact Calls.regrown_of (HC.out _ (on hb3 (below_regrown _ _ _)))))))
          refine wpQuiet_nil ?_
          intro w4 hw4
          have z4 : Below w3.heap.size w3 w4 := by obtain ⟨p9, e9⟩ := hw4; rw [e9]; exact below_regrown _ _ _
          clear hw4 rg_b_0 rg_z_0 rg_z_1 rg_z_2 rg_p_0 rg_p_1 rg_p_2
          have s5 := z4.size
          have hb5 := on hb3 z4
          replace b_0 := (z4.cell (p := ⟨w.heap.size, 0, none⟩) (by simp only []; omega)).trans b_0
          replace hlc := on hlc z4
          replace z_0 := (z4.cell (p := ⟨b1, o1, none⟩) (by simp only []; omega)).trans z_0
          replace z_1 := (z4.cell (p := ⟨b1, o1 + 1, none⟩) (by simp only []; omega)).trans z_1
          replace z_2 := (z4.cell (p := ⟨b1, o1 + 2, none⟩) (by simp only []; omega)).trans z_2
          replace p_0 := (z4.cell (p := ⟨wo.heap.size, 0, none⟩) (by simp only []; omega)).trans p_0
          replace p_1 := (z4.cell (p := ⟨wo.heap.size, 1, none⟩) (by simp only []; omega)).trans p_1
          replace p_2 := (z4.cell (p := ⟨wo.heap.size, 2, none⟩) (by simp only []; omega)).trans p_2
          go_wp2_with fail
          go_roundw
          case rel => exact ⟨1, by omega, rfl, HE.out, hlc⟩
          case measure => simp [intOf]; omega
        | false =>
          have HE := Lib.hid (validDb_no (db := x) (by rw [HA1.out]; rfl))
          obtain ⟨w6, hw6⟩ : ∃ W, W = wo.alloc (.cells #[.string s, .int .i64 i, .slice tb tn tc] 34) := ⟨_, rfl⟩
          have z6 : Below wo.heap.size wo w6 := by rw [hw6]; exact (Below.refl _ _).alloc (Nat.le_refl _) _
          have s6 : w6.heap.size = wo.heap.size + 1 := by rw [hw6]; simp
          have hb6 := on hb2 z6
          have old6_b_0 := b_0
          have old6_z_0 := z_0
          have old6_z_1 := z_1
          have old6_z_2 := z_2
          replace b_0 := (z6.cell (p := ⟨w.heap.size, 0, none⟩) (by simp only []; omega)).trans b_0
          replace hlc := on hlc z6
          replace z_0 := (z6.cell (p := ⟨b1, o1, none⟩) (by simp only []; omega)).trans z_0
          replace z_1 := (z6.cell (p := ⟨b1, o1 + 1, none⟩) (by simp only []; omega)).trans z_1
          replace z_2 := (z6.cell (p := ⟨b1, o1 + 2, none⟩) (by simp only []; omega)).trans z_2
          have p_0 : w6.cell? ⟨wo.heap.size, 0, none⟩ = some (.string s) := by rw [hw6]; exact box_cell (Below.refl _ _) rfl
          have p_1 : w6.cell? ⟨wo.heap.size, 1, none⟩ = some (.int .i64 i) := by rw [hw6]; exact box_cell (Below.refl _ _) rfl
          have p_2 : w6.cell? ⟨wo.heap.size, 2, none⟩ = some (.slice tb tn tc) := by rw [hw6]; exact box_cell (Below.refl _ _) rfl
          have raw6_b_0 := b_0
          have raw6_z_0 := z_0
          have raw6_z_1 := z_1
          have raw6_z_2 := z_2
          have raw6_p_0 := p_0
          have raw6_p_1 := p_1
          have raw6_p_2 := p_2
          rw [hw6] at raw6_b_0 raw6_z_0 raw6_z_1 raw6_z_2 raw6_p_0 raw6_p_1 raw6_p_2
          go_wp2_with fail
          rw [← hw6]
          clear hw6
          clear old6_b_0 old6_z_0 old6_z_1 old6_z_2 raw6_b_0 raw6_z_0 raw6_z_1 raw6_z_2 raw6_p_0 raw6_p_1 raw6_p_2
          have rg_b_0 := cell_regrown b_0
          have rg_z_0 := cell_regrown z_0
          have rg_z_1 := cell_regrown z_1
          have rg_z_2 := cell_regrown z_2
          have rg_p_0 := cell_regrown p_0
          have rg_p_1 := cell_regrown p_1
          have rg_p_2 := cell_regrown p_2
          refine wp_region_quiet_below (by kernel_rfl) (by kernel_rfl) ?_
          repeat (go_big_quiet_step ((first | (go_at_call 137; exact Calls.regrown_of (HC.out _ (on hb6 (below_regrown _ _ _)))))))
          refine wpQuiet_nil ?_
          intro w7 hw7
          have z7 : Below w6.heap.size w6 w7 := by obtain ⟨p9, e9⟩ := hw7; rw [e9]; exact below_regrown _ _ _
          clear hw7 rg_b_0 rg_z_0 rg_z_1 rg_z_2 rg_p_0 rg_p_1 rg_p_2
          have s8 := z7.size
          have hb8 := on hb6 z7
          replace b_0 := (z7.cell (p := ⟨w.heap.size, 0, none⟩) (by simp only []; omega)).trans b_0
          replace hlc := on hlc z7
          replace z_0 := (z7.cell (p := ⟨b1, o1, none⟩) (by simp only []; omega)).trans z_0
          replace z_1 := (z7.cell (p := ⟨b1, o1 + 1, none⟩) (by simp only []; omega)).trans z_1
          replace z_2 := (z7.cell (p := ⟨b1, o1 + 2, none⟩) (by simp only []; omega)).trans z_2
          replace p_0 := (z7.cell (p := ⟨wo.heap.size, 0, none⟩) (by simp only []; omega)).trans p_0
          replace p_1 := (z7.cell (p := ⟨wo.heap.size, 1, none⟩) (by simp only []; omega)).trans p_1
          replace p_2 := (z7.cell (p := ⟨wo.heap.size, 2, none⟩) (by simp only []; omega)).trans p_2
          go_wp2_with fail
          go_ret
          exact ⟨ret_bool HE.out.symm, hb8⟩
      obtain ⟨l, rfl⟩ : ∃ l, j = l + 1 := ⟨j - 1, by omega⟩
      obtain ⟨b9, o9, cs, t, hb9, hy, hr, hc⟩ := t1.at (show l < un by omega)
      simp at hb9
      obtain ⟨rfl, rfl⟩ := hb9
      have HP2 := Lib.hid (prevN_at hy.out)
      obtain ⟨s2, i2, rows2⟩ := t
      obtain ⟨tb2, tn2, tc2, rfl, hs2, hi2, g2⟩ := rT_open hr
      simp only at HP2
      have f_lt : b1 < w.heap.size := cell_lt (hc 0 _ rfl)
      have f_0 : wo.cell? ⟨b1, o1 + l * 3, none⟩ = some (.string s2) := (hb2.cell (p := ⟨b1, o1 + l * 3, none⟩) f_lt).trans (by have h9 := hc 0 _ rfl; rw [← Nat.add_assoc] at h9; exact h9)
      have f_1 : wo.cell? ⟨b1, o1 + l * 3 + 1, none⟩ = some (.int .i64 i2) := (hb2.cell (p := ⟨b1, o1 + l * 3 + 1, none⟩) f_lt).trans (by have h9 := hc 1 _ rfl; rw [← Nat.add_assoc] at h9; exact h9)
      have f_2 : wo.cell? ⟨b1, o1 + l * 3 + 2, none⟩ = some (.slice tb2 tn2 tc2) := (hb2.cell (p := ⟨b1, o1 + l * 3 + 2, none⟩) f_lt).trans (by have h9 := hc 2 _ rfl; rw [← Nat.add_assoc] at h9; exact h9)
      have HA1 : Hid (dbFrom none x = (v && (ltB s2 s && dbFrom (prevN x (l + 1 + 1)) (x.drop (l + 1 + 1))))) := Lib.hid (by rw [HA.out, HP.out, HP2.out])
      clear hx hy HA HP HP2 t1 hc hr g2 hj0
      obtain ⟨q, hq⟩ : ∃ q, q = ltB s2 s := ⟨_, rfl⟩
      rw [← hq] at HA1
      have hq2 : Op.bytesLess s2.toList s.toList = q := hq.symm
      clear hq
      have hi63 : IntKind.i64.wrap (l : Int) = (l : Int) := IntWalk.i64_in _ (by omega)
      cases v with
      | false =>
        have HE := Lib.hid (validDb_no (db := x) (by rw [HA1.out]; rfl))
        obtain ⟨w9, hw9⟩ : ∃ W, W = wo.alloc (.cells #[.string s, .int .i64 i, .slice tb tn tc] 34) := ⟨_, rfl⟩
        have z9 : Below wo.heap.size wo w9 := by rw [hw9]; exact (Below.refl _ _).alloc (Nat.le_refl _) _
        have s9 : w9.heap.size = wo.heap.size + 1 := by rw [hw9]; simp
        have hb9 := on hb2 z9
        have old9_b_0 := b_0
        have old9_e_0 := e_0
        have old9_e_1 := e_1
        have old9_e_2 := e_2
        have old9_f_0 := f_0
        have old9_f_1 := f_1
        have old9_f_2 := f_2
        replace b_0 := (z9.cell (p := ⟨w.heap.size, 0, none⟩) (by simp only []; omega)).trans b_0
        replace hlc := on hlc z9
        replace e_0 := (z9.cell (p := ⟨b1, o1 + (l + 1) * 3, none⟩) (by simp only []; omega)).trans e_0
        replace e_1 := (z9.cell (p := ⟨b1, o1 + (l + 1) * 3 + 1, none⟩) (by simp only []; omega)).trans e_1
        replace e_2 := (z9.cell (p := ⟨b1, o1 + (l + 1) * 3 + 2, none⟩) (by simp only []; omega)).trans e_2
        replace f_0 := (z9.cell (p := ⟨b1, o1 + l * 3, none⟩) (by simp only []; omega)).trans f_0
        replace f_1 := (z9.cell (p := ⟨b1, o1 + l * 3 + 1, none⟩) (by simp only []; omega)).trans f_1
        replace f_2 := (z9.cell (p := ⟨b1, o1 + l * 3 + 2, none⟩) (by simp only []; omega)).trans f_2
        have p_0 : w9.cell? ⟨wo.heap.size, 0, none⟩ = some (.string s) := by rw [hw9]; exact box_cell (Below.refl _ _) rfl
        have p_1 : w9.cell? ⟨wo.heap.size, 1, none⟩ = some (.int .i64 i) := by rw [hw9]; exact box_cell (Below.refl _ _) rfl
        have p_2 : w9.cell? ⟨wo.heap.size, 2, none⟩ = some (.slice tb tn tc) := by rw [hw9]; exact box_cell (Below.refl _ _) rfl
        have raw9_b_0 := b_0
        have raw9_e_0 := e_0
        have raw9_e_1 := e_1
        have raw9_e_2 := e_2
        have raw9_f_0 := f_0
        have raw9_f_1 := f_1
        have raw9_f_2 := f_2
        have raw9_p_0 := p_0
        have raw9_p_1 := p_1
        have raw9_p_2 := p_2
        rw [hw9] at raw9_b_0 raw9_e_0 raw9_e_1 raw9_e_2 raw9_f_0 raw9_f_1 raw9_f_2 raw9_p_0 raw9_p_1 raw9_p_2
        go_wp2_with fail
        rw [← hw9]
        clear hw9
        clear old9_b_0 old9_e_0 old9_e_1 old9_e_2 old9_f_0 old9_f_1 old9_f_2 raw9_b_0 raw9_e_0 raw9_e_1 raw9_e_2 raw9_f_0 raw9_f_1 raw9_f_2 raw9_p_0 raw9_p_1 raw9_p_2
        have rg_b_0 := cell_regrown b_0
        have rg_e_0 := cell_regrown e_0
        have rg_e_1 := cell_regrown e_1
        have rg_e_2 := cell_regrown e_2
        have rg_f_0 := cell_regrown f_0
        have rg_f_1 := cell_regrown f_1
        have rg_f_2 := cell_regrown f_2
        have rg_p_0 := cell_regrown p_0
        have rg_p_1 := cell_regrown p_1
        have rg_p_2 := cell_regrown p_2
        refine wp_region_quiet_below (by kernel_rfl) (by kernel_rfl) ?_
        repeat (go_big_quiet_step ((first | (go_at_call 137; exact Calls.regrown_of (HC.out _ (on hb9 (below_regrown _ _ _)))))))
        refine wpQuiet_nil ?_
        intro w10 hw10
        have z10 : Below w9.heap.size w9 w10 := by obtain ⟨p9, e9⟩ := hw10; rw [e9]; exact below_regrown _ _ _
        clear hw10 rg_b_0 rg_e_0 rg_e_1 rg_e_2 rg_f_0 rg_f_1 rg_f_2 rg_p_0 rg_p_1 rg_p_2
        have s11 := z10.size
        have hb11 := on hb9 z10
        replace b_0 := (z10.cell (p := ⟨w.heap.size, 0, none⟩) (by simp only []; omega)).trans b_0
        replace hlc := on hlc z10
        replace e_0 := (z10.cell (p := ⟨b1, o1 + (l + 1) * 3, none⟩) (by simp only []; omega)).trans e_0
        replace e_1 := (z10.cell (p := ⟨b1, o1 + (l + 1) * 3 + 1, none⟩) (by simp only []; omega)).trans e_1
        replace e_2 := (z10.cell (p := ⟨b1, o1 + (l + 1) * 3 + 2, none⟩) (by simp only []; omega)).trans e_2
        replace f_0 := (z10.cell (p := ⟨b1, o1 + l * 3, none⟩) (by simp only []; omega)).trans f_0
        replace f_1 := (z10.cell (p := ⟨b1, o1 + l * 3 + 1, none⟩) (by simp only []; omega)).trans f_1
        replace f_2 := (z10.cell (p := ⟨b1, o1 + l * 3 + 2, none⟩) (by simp only []; omega)).trans f_2
        replace p_0 := (z10.cell (p := ⟨wo.heap.size, 0, none⟩) (by simp only []; omega)).trans p_0
        replace p_1 := (z10.cell (p := ⟨wo.heap.size, 1, none⟩) (by simp only []; omega)).trans p_1
        replace p_2 := (z10.cell (p := ⟨wo.heap.size, 2, none⟩) (by simp only []; omega)).trans p_2
        clear hi63
        go_wp2_with fail
        go_ret
        exact ⟨ret_bool HE.out.symm, hb11⟩
      | true =>
        cases q with
        | false =>
          have HE := Lib.hid (validDb_no (db := x) (by rw [HA1.out]; rfl))
          obtain ⟨w12, hw12⟩ : ∃ W, W = wo.alloc (.cells #[.string s, .int .i64 i, .slice tb tn tc] 34) := ⟨_, rfl⟩
          have z12 : Below wo.heap.size wo w12 := by rw [hw12]; exact (Below.refl _ _).alloc (Nat.le_refl _) _
          have s12 : w12.heap.size = wo.heap.size + 1 := by rw [hw12]; simp
          have hb12 := on hb2 z12
          have old12_b_0 := b_0
          have old12_e_0 := e_0
          have old12_e_1 := e_1
          have old12_e_2 := e_2
          have old12_f_0 := f_0
          have old12_f_1 := f_1
          have old12_f_2 := f_2
          replace b_0 := (z12.cell (p := ⟨w.heap.size, 0, none⟩) (by simp only []; omega)).trans b_0
          replace hlc := on hlc z12
          replace e_0 := (z12.cell (p := ⟨b1, o1 + (l + 1) * 3, none⟩) (by simp only []; omega)).trans e_0
          replace e_1 := (z12.cell (p := ⟨b1, o1 + (l + 1) * 3 + 1, none⟩) (by simp only []; omega)).trans e_1
          replace e_2 := (z12.cell (p := ⟨b1, o1 + (l + 1) * 3 + 2, none⟩) (by simp only []; omega)).trans e_2
          replace f_0 := (z12.cell (p := ⟨b1, o1 + l * 3, none⟩) (by simp only []; omega)).trans f_0
          replace f_1 := (z12.cell (p := ⟨b1, o1 + l * 3 + 1, none⟩) (by simp only []; omega)).trans f_1
          replace f_2 := (z12.cell (p := ⟨b1, o1 + l * 3 + 2, none⟩) (by simp only []; omega)).trans f_2
          have p_0 : w12.cell? ⟨wo.heap.size, 0, none⟩ = some (.string s) := by rw [hw12]; exact box_cell (Below.refl _ _) rfl
          have p_1 : w12.cell? ⟨wo.heap.size, 1, none⟩ = some (.int .i64 i) := by rw [hw12]; exact box_cell (Below.refl _ _) rfl
          have p_2 : w12.cell? ⟨wo.heap.size, 2, none⟩ = some (.slice tb tn tc) := by rw [hw12]; exact box_cell (Below.refl _ _) rfl
          have raw12_b_0 := b_0
          have raw12_e_0 := e_0
          have raw12_e_1 := e_1
          have raw12_e_2 := e_2
          have raw12_f_0 := f_0
          have raw12_f_1 := f_1
          have raw12_f_2 := f_2
          have raw12_p_0 := p_0
          have raw12_p_1 := p_1
          have raw12_p_2 := p_2
          rw [hw12] at raw12_b_0 raw12_e_0 raw12_e_1 raw12_e_2 raw12_f_0 raw12_f_1 raw12_f_2 raw12_p_0 raw12_p_1 raw12_p_2
          go_wp2_with fail
          rw [← hw12]
          clear hw12
          clear old12_b_0 old12_e_0 old12_e_1 old12_e_2 old12_f_0 old12_f_1 old12_f_2 raw12_b_0 raw12_e_0 raw12_e_1 raw12_e_2 raw12_f_0 raw12_f_1 raw12_f_2 raw12_p_0 raw12_p_1 raw12_p_2
          have rg_b_0 := cell_regrown b_0
          have rg_e_0 := cell_regrown e_0
          have rg_e_1 := cell_regrown e_1
          have rg_e_2 := cell_regrown e_2
          have rg_f_0 := cell_regrown f_0
          have rg_f_1 := cell_regrown f_1
          have rg_f_2 := cell_regrown f_2
          have rg_p_0 := cell_regrown p_0
          have rg_p_1 := cell_regrown p_1
          have rg_p_2 := cell_regrown p_2
          refine wp_region_quiet_below (by kernel_rfl) (by kernel_rfl) ?_
          repeat (go_big_quiet_step ((first | (go_at_call 137; exact Calls.regrown_of (HC.out _ (on hb12 (below_regrown _ _ _)))))))
          refine wpQuiet_nil ?_
          intro w13 hw13
          have z13 : Below w12.heap.size w12 w13 := by obtain ⟨p9, e9⟩ := hw13; rw [e9]; exact below_regrown _ _ _
          clear hw13 rg_b_0 rg_e_0 rg_e_1 rg_e_2 rg_f_0 rg_f_1 rg_f_2 rg_p_0 rg_p_1 rg_p_2
          have s14 := z13.size
          have hb14 := on hb12 z13
          replace b_0 := (z13.cell (p := ⟨w.heap.size, 0, none⟩) (by simp only []; omega)).trans b_0
          replace hlc := on hlc z13
          replace e_0 := (z13.cell (p := ⟨b1, o1 + (l + 1) * 3, none⟩) (by simp only []; omega)).trans e_0
          replace e_1 := (z13.cell (p := ⟨b1, o1 + (l + 1) * 3 + 1, none⟩) (by simp only []; omega)).trans e_1
          replace e_2 := (z13.cell (p := ⟨b1, o1 + (l + 1) * 3 + 2, none⟩) (by simp only []; omega)).trans e_2
          replace f_0 := (z13.cell (p := ⟨b1, o1 + l * 3, none⟩) (by simp only []; omega)).trans f_0
          replace f_1 := (z13.cell (p := ⟨b1, o1 + l * 3 + 1, none⟩) (by simp only []; omega)).trans f_1
          replace f_2 := (z13.cell (p := ⟨b1, o1 + l * 3 + 2, none⟩) (by simp only []; omega)).trans f_2
          replace p_0 := (z13.cell (p := ⟨wo.heap.size, 0, none⟩) (by simp only []; omega)).trans p_0
          replace p_1 := (z13.cell (p := ⟨wo.heap.size, 1, none⟩) (by simp only []; omega)).trans p_1
          replace p_2 := (z13.cell (p := ⟨wo.heap.size, 2, none⟩) (by simp only []; omega)).trans p_2
          clear hi63
          go_wp2_with fail
          go_ret
          exact ⟨ret_bool HE.out.symm, hb14⟩
        | true =>
          have HE : Hid (dbFrom none x = dbFrom (prevN x (l + 1 + 1)) (x.drop (l + 1 + 1))) := Lib.hid (by rw [HA1.out]; rfl)
          obtain ⟨w15, hw15⟩ : ∃ W, W = wo.alloc (.cells #[.string s, .int .i64 i, .slice tb tn tc] 34) := ⟨_, rfl⟩
          have z15 : Below wo.heap.size wo w15 := by rw [hw15]; exact (Below.refl _ _).alloc (Nat.le_refl _) _
          have s15 : w15.heap.size = wo.heap.size + 1 := by rw [hw15]; simp
          have hb15 := on hb2 z15
          have old15_b_0 := b_0
          have old15_e_0 := e_0
          have old15_e_1 := e_1
          have old15_e_2 := e_2
          have old15_f_0 := f_0
          have old15_f_1 := f_1
          have old15_f_2 := f_2
          replace b_0 := (z15.cell (p := ⟨w.heap.size, 0, none⟩) (by simp only []; omega)).trans b_0
          replace hlc := on hlc z15
          replace e_0 := (z15.cell (p := ⟨b1, o1 + (l + 1) * 3, none⟩) (by simp only []; omega)).trans e_0
          replace e_1 := (z15.cell (p := ⟨b1, o1 + (l + 1) * 3 + 1, none⟩) (by simp only []; omega)).trans e_1
          replace e_2 := (z15.cell (p := ⟨b1, o1 + (l + 1) * 3 + 2, none⟩) (by simp only []; omega)).trans e_2
          replace f_0 := (z15.cell (p := ⟨b1, o1 + l * 3, none⟩) (by simp only []; omega)).trans f_0
          replace f_1 := (z15.cell (p := ⟨b1, o1 + l * 3 + 1, none⟩) (by simp only []; omega)).trans f_1
          replace f_2 := (z15.cell (p := ⟨b1, o1 + l * 3 + 2, none⟩) (by simp only []; omega)).trans f_2
          have p_0 : w15.cell? ⟨wo.heap.size, 0, none⟩ = some (.string s) := by rw [hw15]; exact box_cell (Below.refl _ _) rfl
          have p_1 : w15.cell? ⟨wo.heap.size, 1, none⟩ = some (.int .i64 i) := by rw [hw15]; exact box_cell (Below.refl _ _) rfl
          have p_2 : w15.cell? ⟨wo.heap.size, 2, none⟩ = some (.slice tb tn tc) := by rw [hw15]; exact box_cell (Below.refl _ _) rfl
          have raw15_b_0 := b_0
          have raw15_e_0 := e_0
          have raw15_e_1 := e_1
          have raw15_e_2 := e_2
          have raw15_f_0 := f_0
          have raw15_f_1 := f_1
          have raw15_f_2 := f_2
          have raw15_p_0 := p_0
          have raw15_p_1 := p_1
          have raw15_p_2 := p_2
          rw [hw15] at raw15_b_0 raw15_e_0 raw15_e_1 raw15_e_2 raw15_f_0 raw15_f_1 raw15_f_2 raw15_p_0 raw15_p_1 raw15_p_2
          go_wp2_with fail
          rw [← hw15]
          clear hw15
          clear old15_b_0 old15_e_0 old15_e_1 old15_e_2 old15_f_0 old15_f_1 old15_f_2 raw15_b_0 raw15_e_0 raw15_e_1 raw15_e_2 raw15_f_0 raw15_f_1 raw15_f_2 raw15_p_0 raw15_p_1 raw15_p_2
          have rg_b_0 := cell_regrown b_0
          have rg_e_0 := cell_regrown e_0
          have rg_e_1 := cell_regrown e_1
          have rg_e_2 := cell_regrown e_2
          have rg_f_0 := cell_regrown f_0
          have rg_f_1 := cell_regrown f_1
          have rg_f_2 := cell_regrown f_2
          have rg_p_0 := cell_regrown p_0
          have rg_p_1 := cell_regrown p_1
          have rg_p_2 := cell_regrown p_2
          refine wp_region_quiet_below (by kernel_rfl) (by kernel_rfl) ?_
          repeat (go_big_quiet_step ((first | (go_at_call 137; exact Calls.regrown_of (HC.out _ (on hb15 (below_regrown _ _ _)))))))
          refine wpQuiet_nil ?_
          intro w16 hw16
          have z16 : Below w15.heap.size w15 w16 := by obtain ⟨p9, e9⟩ := hw16; rw [e9]; exact below_regrown _ _ _
          clear hw16 rg_b_0 rg_e_0 rg_e_1 rg_e_2 rg_f_0 rg_f_1 rg_f_2 rg_p_0 rg_p_1 rg_p_2
          have s17 := z16.size
          have hb17 := on hb15 z16
          replace b_0 := (z16.cell (p := ⟨w.heap.size, 0, none⟩) (by simp only []; omega)).trans b_0
          replace hlc := on hlc z16
          replace e_0 := (z16.cell (p := ⟨b1, o1 + (l + 1) * 3, none⟩) (by simp only []; omega)).trans e_0
          replace e_1 := (z16.cell (p := ⟨b1, o1 + (l + 1) * 3 + 1, none⟩) (by simp only []; omega)).trans e_1
          replace e_2 := (z16.cell (p := ⟨b1, o1 + (l + 1) * 3 + 2, none⟩) (by simp only []; omega)).trans e_2
          replace f_0 := (z16.cell (p := ⟨b1, o1 + l * 3, none⟩) (by simp only []; omega)).trans f_0
          replace f_1 := (z16.cell (p := ⟨b1, o1 + l * 3 + 1, none⟩) (by simp only []; omega)).trans f_1
          replace f_2 := (z16.cell (p := ⟨b1, o1 + l * 3 + 2, none⟩) (by simp only []; omega)).trans f_2
          replace p_0 := (z16.cell (p := ⟨wo.heap.size, 0, none⟩) (by simp only []; omega)).trans p_0
          replace p_1 := (z16.cell (p := ⟨wo.heap.size, 1, none⟩) (by simp only []; omega)).trans p_1
          replace p_2 := (z16.cell (p := ⟨wo.heap.size, 2, none⟩) (by simp only []; omega)).trans p_2
          clear hi63
          go_wp2_with fail
          go_roundw
          case rel => exact ⟨l + 1 + 1, by omega, by go_num, HE.out, hlc⟩
          case measure => simp [intOf]; omega
    · have HE := Lib.hid (validDb_len HL.out (hE.out.trans (dbFrom_end (by have := HL.out; omega))))
      clear t1 hl hE HV
      go_wp2_with fail
      go_ret
      exact ⟨ret_bool (by rw [HE.out]), hb2⟩

set_option maxHeartbeats 4000000 in
theorem validDb_spec (cs : List Value) (x : DDb) (w : World) (h : rDb.rep w cs x) :
    Calls Try.prog 192 #[.agg cs.toArray] w fun e w' => e = .returned (.bool (validDb x)) ∧ Below w.heap.size w w' := by
  obtain ⟨ub, un, uc, rfl, g1⟩ := rDb_open h
  clear h
  have t1 := rS_sl g1
  have hl := t1.len
  have hn := t1.small
  have HV : Hid (dbFrom none x = dbFrom (prevN x 0) (x.drop 0)) := rfl
  have HL := Lib.hid hl
  have hb0 : Below w.heap.size w w := Below.refl _ _
  go_enter Try.func192, Try.ntmps192
  obtain ⟨w1, hw1⟩ : ∃ W, W = w.alloc (.cells #[.slice ub un uc] 89) := ⟨_, rfl⟩
  have z1 : Below w.heap.size w w1 := by rw [hw1]; exact (Below.refl _ _).alloc (Nat.le_refl _) _
  have s1 : w1.heap.size = w.heap.size + 1 := by rw [hw1]; simp
  have hb1 := on hb0 z1
  have b_0 : w1.cell? ⟨w.heap.size, 0, none⟩ = some (.slice ub un uc) := by rw [hw1]; exact box_cell (Below.refl _ _) rfl
  have raw1_b_0 := b_0
  rw [hw1] at raw1_b_0
  go_wp2_with fail
  rw [← hw1]
  clear hw1
  clear raw1_b_0
  go_loopw [3] (fun k wr => ∃ j : Nat, j ≤ un ∧ k = .int .i64 j ∧ Hid (dbFrom none x = dbFrom (prevN x j) (x.drop j)) ∧ Below w1.heap.size w1 wr) (fun k _ => un - (intOf k).toNat)
  case atStart => exact ⟨0, Nat.zero_le _, rfl, HV.out, Below.refl _ _⟩
  case round =>
    obtain ⟨j, hj, rfl, hE, hdr⟩ := hrel
    obtain ⟨wo, rfl⟩ : ∃ W, W = wr := ⟨_, rfl⟩
    have hlc := hdr
    have s2 := hdr.size
    have hb2 := on hb1 hdr
    replace b_0 := (hdr.cell (p := ⟨w.heap.size, 0, none⟩) (by simp only []; omega)).trans b_0
    by_cases hlt : j < un
    · obtain ⟨b1, o1, cs, t, rfl, hx, hr, hc⟩ := t1.at hlt
      have HA := Lib.hid (hE.out.trans (dbFrom_at hx.out))
      have HP := Lib.hid (prevN_at hx.out)
      obtain ⟨s, i, rows⟩ := t
      obtain ⟨tb, tn, tc, rfl, hs, hi, g2⟩ := rT_open hr
      simp only at hs hi g2 HA HP
      have e_lt : b1 < w.heap.size := cell_lt (hc 0 _ rfl)
      have e_0 : wo.cell? ⟨b1, o1 + j * 3, none⟩ = some (.string s) := (hb2.cell (p := ⟨b1, o1 + j * 3, none⟩) e_lt).trans (by have h9 := hc 0 _ rfl; rw [← Nat.add_assoc] at h9; exact h9)
      have e_1 : wo.cell? ⟨b1, o1 + j * 3 + 1, none⟩ = some (.int .i64 i) := (hb2.cell (p := ⟨b1, o1 + j * 3 + 1, none⟩) e_lt).trans (by have h9 := hc 1 _ rfl; rw [← Nat.add_assoc] at h9; exact h9)
      have e_2 : wo.cell? ⟨b1, o1 + j * 3 + 2, none⟩ = some (.slice tb tn tc) := (hb2.cell (p := ⟨b1, o1 + j * 3 + 2, none⟩) e_lt).trans (by have h9 := hc 2 _ rfl; rw [← Nat.add_assoc] at h9; exact h9)
      have hcall := fun W (hW : Below w.heap.size w W) => validT_spec [.string s, .int .i64 i, .slice tb tn tc] (s, i, rows) W (rT.mono hr hW)
      obtain ⟨v, hv⟩ : ∃ v, v = validT (s, i, rows) := ⟨_, rfl⟩
      rw [← hv] at hcall HA
      have HC := Lib.hid hcall
      clear hcall hv hE HV hc hr g2 hl
      by_cases hj0 : j = 0
      · subst hj0
        have z_0 : wo.cell? ⟨b1, o1, none⟩ = some (.string s) := by have h9 := e_0; rw [Nat.zero_mul, Nat.add_zero] at h9; exact h9
        have z_1 : wo.cell? ⟨b1, o1 + 1, none⟩ = some (.int .i64 i) := by have h9 := e_1; rw [Nat.zero_mul, Nat.add_zero] at h9; exact h9
        have z_2 : wo.cell? ⟨b1, o1 + 2, none⟩ = some (.slice tb tn tc) := by have h9 := e_2; rw [Nat.zero_mul, Nat.add_zero] at h9; exact h9
        clear e_0 e_1 e_2
        have HA1 : Hid (dbFrom none x = (v && dbFrom (prevN x (0 + 1)) (x.drop (0 + 1)))) := Lib.hid (by rw [HA.out, HP.out]; simp [prevN])
        clear hx HA HP t1
        cases v with
        | true =>
          have HE : Hid (dbFrom none x = dbFrom (prevN x (0 + 1)) (x.drop (0 + 1))) := Lib.hid (by rw [HA1.out]; rfl)
          go_wp2_with fail
          have rg_b_0 := cell_regrown b_0
          have rg_z_0 := cell_regrown z_0
          have rg_z_1 := cell_regrown z_1
          have rg_z_2 := cell_regrown z_2
          refine wp_region_quiet_below (by kernel_rfl) (by kernel_rfl) ?_
          repeat (go_big_quiet_step ((first | (go_at_call 27; exact Calls.regrown_of (HC.out _ (on hb2 (below_regrown _ _ _)))))))
          refine wpQuiet_nil ?_
          intro w3 hw3
          have z3 : Below wo.heap.size wo w3 := by obtain ⟨p9, e9⟩ := hw3; rw [e9]; exact below_regrown _ _ _
          clear hw3 rg_b_0 rg_z_0 rg_z_1 rg_z_2
          have s4 := z3.size
          have hb4 := on hb2 z3
          replace b_0 := (z3.cell (p := ⟨w.heap.size, 0, none⟩) (by simp only []; omega)).trans b_0
          replace hlc := on hlc z3
          replace z_0 := (z3.cell (p := ⟨b1, o1, none⟩) (by simp only []; omega)).trans z_0
          replace z_1 := (z3.cell (p := ⟨b1, o1 + 1, none⟩) (by simp only []; omega)).trans z_1
          replace z_2 := (z3.cell (p := ⟨b1, o1 + 2, none⟩) (by simp only []; omega)).trans z_2
          go_wp2_with fail
          go_roundw
          case rel => exact ⟨1, by omega, rfl, HE.out, hlc⟩
          case measure => simp [intOf]; omega
        | false =>
          have HE := Lib.hid (validDb_no (db := x) (by rw [HA1.out]; rfl))
          go_wp2_with fail
          have rg_b_0 := cell_regrown b_0
          have rg_z_0 := cell_regrown z_0
          have rg_z_1 := cell_regrown z_1
          have rg_z_2 := cell_regrown z_2
          refine wp_region_quiet_below (by kernel_rfl) (by kernel_rfl) ?_
          repeat (go_big_quiet_step ((first | (go_at_call 27; exact Calls.regrown_of (HC.out _ (on hb2 (below_regrown _ _ _)))))))
          refine wpQuiet_nil ?_
          intro w5 hw5
          have z5 : Below wo.heap.size wo w5 := by obtain ⟨p9, e9⟩ := hw5; rw [e9]; exact below_regrown _ _ _
          clear hw5 rg_b_0 rg_z_0 rg_z_1 rg_z_2
          have s6 := z5.size
          have hb6 := on hb2 z5
          replace b_0 := (z5.cell (p := ⟨w.heap.size, 0, none⟩) (by simp only []; omega)).trans b_0
          replace hlc := on hlc z5
          replace z_0 := (z5.cell (p := ⟨b1, o1, none⟩) (by simp only []; omega)).trans z_0
          replace z_1 := (z5.cell (p := ⟨b1, o1 + 1, none⟩) (by simp only []; omega)).trans z_1
          replace z_2 := (z5.cell (p := ⟨b1, o1 + 2, none⟩) (by simp only []; omega)).trans z_2
          go_wp2_with fail
          go_ret
          exact ⟨ret_bool HE.out.symm, hb6⟩
      obtain ⟨l, rfl⟩ : ∃ l, j = l + 1 := ⟨j - 1, by omega⟩
      obtain ⟨b9, o9, cs, t, hb9, hy, hr, hc⟩ := t1.at (show l < un by omega)
      simp at hb9
      obtain ⟨rfl, rfl⟩ := hb9
      have HP2 := Lib.hid (prevN_at hy.out)
      obtain ⟨s2, i2, rows2⟩ := t
      obtain ⟨tb2, tn2, tc2, rfl, hs2, hi2, g2⟩ := rT_open hr
      simp only at HP2
      have f_lt : b1 < w.heap.size := cell_lt (hc 0 _ rfl)
      have f_0 : wo.cell? ⟨b1, o1 + l * 3, none⟩ = some (.string s2) := (hb2.cell (p := ⟨b1, o1 + l * 3, none⟩) f_lt).trans (by have h9 := hc 0 _ rfl; rw [← Nat.add_assoc] at h9; exact h9)
      have f_1 : wo.cell? ⟨b1, o1 + l * 3 + 1, none⟩ = some (.int .i64 i2) := (hb2.cell (p := ⟨b1, o1 + l * 3 + 1, none⟩) f_lt).trans (by have h9 := hc 1 _ rfl; rw [← Nat.add_assoc] at h9; exact h9)
      have f_2 : wo.cell? ⟨b1, o1 + l * 3 + 2, none⟩ = some (.slice tb2 tn2 tc2) := (hb2.cell (p := ⟨b1, o1 + l * 3 + 2, none⟩) f_lt).trans (by have h9 := hc 2 _ rfl; rw [← Nat.add_assoc] at h9; exact h9)
      have HA1 : Hid (dbFrom none x = (v && (ltB s2 s && dbFrom (prevN x (l + 1 + 1)) (x.drop (l + 1 + 1))))) := Lib.hid (by rw [HA.out, HP.out, HP2.out])
      clear hx hy HA HP HP2 t1 hc hr g2 hj0
      obtain ⟨q, hq⟩ : ∃ q, q = ltB s2 s := ⟨_, rfl⟩
      rw [← hq] at HA1
      have hq2 : Op.bytesLess s2.toList s.toList = q := hq.symm
      clear hq
      have hi63 : IntKind.i64.wrap (l : Int) = (l : Int) := IntWalk.i64_in _ (by omega)
      cases v with
      | false =>
        have HE := Lib.hid (validDb_no (db := x) (by rw [HA1.out]; rfl))
        go_wp2_with fail
        have rg_b_0 := cell_regrown b_0
        have rg_e_0 := cell_regrown e_0
        have rg_e_1 := cell_regrown e_1
        have rg_e_2 := cell_regrown e_2
        have rg_f_0 := cell_regrown f_0
        have rg_f_1 := cell_regrown f_1
        have rg_f_2 := cell_regrown f_2
        refine wp_region_quiet_below (by kernel_rfl) (by kernel_rfl) ?_
        repeat (go_big_quiet_step ((first | (go_at_call 27; exact Calls.regrown_of (HC.out _ (on hb2 (below_regrown _ _ _)))))))
        refine wpQuiet_nil ?_
        intro w7 hw7
        have z7 : Below wo.heap.size wo w7 := by obtain ⟨p9, e9⟩ := hw7; rw [e9]; exact below_regrown _ _ _
        clear hw7 rg_b_0 rg_e_0 rg_e_1 rg_e_2 rg_f_0 rg_f_1 rg_f_2
        have s8 := z7.size
        have hb8 := on hb2 z7
        replace b_0 := (z7.cell (p := ⟨w.heap.size, 0, none⟩) (by simp only []; omega)).trans b_0
        replace hlc := on hlc z7
        replace e_0 := (z7.cell (p := ⟨b1, o1 + (l + 1) * 3, none⟩) (by simp only []; omega)).trans e_0
        replace e_1 := (z7.cell (p := ⟨b1, o1 + (l + 1) * 3 + 1, none⟩) (by simp only []; omega)).trans e_1
        replace e_2 := (z7.cell (p := ⟨b1, o1 + (l + 1) * 3 + 2, none⟩) (by simp only []; omega)).trans e_2
        replace f_0 := (z7.cell (p := ⟨b1, o1 + l * 3, none⟩) (by simp only []; omega)).trans f_0
        replace f_1 := (z7.cell (p := ⟨b1, o1 + l * 3 + 1, none⟩) (by simp only []; omega)).trans f_1
        replace f_2 := (z7.cell (p := ⟨b1, o1 + l * 3 + 2, none⟩) (by simp only []; omega)).trans f_2
        clear hi63
        go_wp2_with fail
        go_ret
        exact ⟨ret_bool HE.out.symm, hb8⟩
      | true =>
        cases q with
        | false =>
          have HE := Lib.hid (validDb_no (db := x) (by rw [HA1.out]; rfl))
          go_wp2_with fail
          have rg_b_0 := cell_regrown b_0
          have rg_e_0 := cell_regrown e_0
          have rg_e_1 := cell_regrown e_1
          have rg_e_2 := cell_regrown e_2
          have rg_f_0 := cell_regrown f_0
          have rg_f_1 := cell_regrown f_1
          have rg_f_2 := cell_regrown f_2
          refine wp_region_quiet_below (by kernel_rfl) (by kernel_rfl) ?_
          repeat (go_big_quiet_step ((first | (go_at_call 27; exact Calls.regrown_of (HC.out _ (on hb2 (below_regrown _ _ _)))))))
          refine wpQuiet_nil ?_
          intro w9 hw9
          have z9 : Below wo.heap.size wo w9 := by obtain ⟨p9, e9⟩ := hw9; rw [e9]; exact below_regrown _ _ _
          clear hw9 rg_b_0 rg_e_0 rg_e_1 rg_e_2 rg_f_0 rg_f_1 rg_f_2
          have s10 := z9.size
          have hb10 := on hb2 z9
          replace b_0 := (z9.cell (p := ⟨w.heap.size, 0, none⟩) (by simp only []; omega)).trans b_0
          replace hlc := on hlc z9
          replace e_0 := (z9.cell (p := ⟨b1, o1 + (l + 1) * 3, none⟩) (by simp only []; omega)).trans e_0
          replace e_1 := (z9.cell (p := ⟨b1, o1 + (l + 1) * 3 + 1, none⟩) (by simp only []; omega)).trans e_1
          replace e_2 := (z9.cell (p := ⟨b1, o1 + (l + 1) * 3 + 2, none⟩) (by simp only []; omega)).trans e_2
          replace f_0 := (z9.cell (p := ⟨b1, o1 + l * 3, none⟩) (by simp only []; omega)).trans f_0
          replace f_1 := (z9.cell (p := ⟨b1, o1 + l * 3 + 1, none⟩) (by simp only []; omega)).trans f_1
          replace f_2 := (z9.cell (p := ⟨b1, o1 + l * 3 + 2, none⟩) (by simp only []; omega)).trans f_2
          clear hi63
          go_wp2_with fail
          go_ret
          exact ⟨ret_bool HE.out.symm, hb10⟩
        | true =>
          have HE : Hid (dbFrom none x = dbFrom (prevN x (l + 1 + 1)) (x.drop (l + 1 + 1))) := Lib.hid (by rw [HA1.out]; rfl)
          go_wp2_with fail
          have rg_b_0 := cell_regrown b_0
          have rg_e_0 := cell_regrown e_0
          have rg_e_1 := cell_regrown e_1
          have rg_e_2 := cell_regrown e_2
          have rg_f_0 := cell_regrown f_0
          have rg_f_1 := cell_regrown f_1
          have rg_f_2 := cell_regrown f_2
          refine wp_region_quiet_below (by kernel_rfl) (by kernel_rfl) ?_
          repeat (go_big_quiet_step ((first | (go_at_call 27; exact Calls.regrown_of (HC.out _ (on hb2 (below_regrown _ _ _)))))))
          refine wpQuiet_nil ?_
          intro w11 hw11
          have z11 : Below wo.heap.size wo w11 := by obtain ⟨p9, e9⟩ := hw11; rw [e9]; exact below_regrown _ _ _
          clear hw11 rg_b_0 rg_e_0 rg_e_1 rg_e_2 rg_f_0 rg_f_1 rg_f_2
          have s12 := z11.size
          have hb12 := on hb2 z11
          replace b_0 := (z11.cell (p := ⟨w.heap.size, 0, none⟩) (by simp only []; omega)).trans b_0
          replace hlc := on hlc z11
          replace e_0 := (z11.cell (p := ⟨b1, o1 + (l + 1) * 3, none⟩) (by simp only []; omega)).trans e_0
          replace e_1 := (z11.cell (p := ⟨b1, o1 + (l + 1) * 3 + 1, none⟩) (by simp only []; omega)).trans e_1
          replace e_2 := (z11.cell (p := ⟨b1, o1 + (l + 1) * 3 + 2, none⟩) (by simp only []; omega)).trans e_2
          replace f_0 := (z11.cell (p := ⟨b1, o1 + l * 3, none⟩) (by simp only []; omega)).trans f_0
          replace f_1 := (z11.cell (p := ⟨b1, o1 + l * 3 + 1, none⟩) (by simp only []; omega)).trans f_1
          replace f_2 := (z11.cell (p := ⟨b1, o1 + l * 3 + 2, none⟩) (by simp only []; omega)).trans f_2
          clear hi63
          go_wp2_with fail
          go_roundw
          case rel => exact ⟨l + 1 + 1, by omega, by go_num, HE.out, hlc⟩
          case measure => simp [intOf]; omega
    · have HE := Lib.hid (validDb_len HL.out (hE.out.trans (dbFrom_end (by have := HL.out; omega))))
      clear t1 hl hE HV
      go_wp2_with fail
      go_ret
      exact ⟨ret_bool (by rw [HE.out]), hb2⟩

end Go.Proofs.Ytbkoddikfpkocaa
