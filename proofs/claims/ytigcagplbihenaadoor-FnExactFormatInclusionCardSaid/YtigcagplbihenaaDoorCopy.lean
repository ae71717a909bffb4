/- Contracts: copies of rows and tables. -/
import Derived.Test.YtigcagplbihenaaDoorKT
import Derived.Test.YtigcagplbihenaaDoorAcc
import Derived.Test.YtigcagplbihenaaDoorQuietB
import Derived.Deep.AppendSrc
namespace Go.Proofs.YtigcagplbihenaaDoor
open Go.RowKit Go.Sort
set_option linter.unusedVariables false
set_option linter.unusedSimpArgs false
set_option synthInstance.maxSize 2000
set_option synthInstance.maxHeartbeats 400000

theorem info_zero {e : TypeId} {z : Value} {size bytes : Nat} (h : (Tryd.prog.info? e).map (fun i => (i.zero, i.size, i.bytes)) = some (some z, size, bytes)) : ∃ i, Tryd.prog.info? e = some i ∧ i.zero = some z ∧ i.size = size ∧ i.bytes = bytes := info_parts h

/-- 'append([]int{}, xs...)', xs nil or not. -/
theorem wpList_copyI {W : World} {ops : Array Oper} {rest : List Oper} {o : Oper} {a : Act} {Q : Exit → Act → World → Prop}
    (s x : Operand) (g n c : Nat) (ad : Option Addr) (xs : List Int) (hg : W.heap.size = g) (hi : Ints (W.alloc (.cells #[] 3)) ad n xs) (hn : n ≤ 1000000000000)
    (hgd : o.guard = none) (ho : o.op = .call { callee := .builtin .append, args := #[s, x], argTypes := #[33, 33] })
    (hs : a.eval s = .slice (some ⟨g, 0, none⟩) 0 0) (hx : a.eval x = .slice ad n c)
    (h : ∀ v' w', OwnInts W.heap.size w' v' n xs → Below W.heap.size W w' → W.heap.size < w'.heap.size → wpList Tryd.prog ops Q rest (a.put o.dst v') w') :
    wpList Tryd.prog ops Q (o :: rest) a (W.alloc (.cells #[] 3)) := by
  subst hg
  obtain ⟨i, hi0, hz0, hz1, hz2⟩ := info_parts infoInt
  have hown := own_empty (Nat.le_refl W.heap.size)
  have hbl : Below W.heap.size W (W.alloc (.cells #[] 3)) := (Below.refl _ _).alloc (Nat.le_refl _) _
  cases ad with
  | none =>
    have hn0 : n = 0 := by
      rcases Nat.eq_zero_or_pos n with h0 | h0
      · exact h0
      · obtain ⟨b, off, hb, _⟩ := hi.cell 0 h0; simp at hb
    subst hn0
    have hx0 : xs = [] := List.eq_nil_of_length_eq_zero hi.len
    subst hx0
    refine wpList_plain hgd fun K hK => ?_
    have hr : (Builtin.append_ #[33, 33] o.type #[.slice (some ⟨W.heap.size, 0, none⟩) 0 0, .slice none 0 c]).run Tryd.prog (W.alloc (.cells #[] 3)) = .ok (.slice (some ⟨W.heap.size, 0, none⟩) 0 0) (W.alloc (.cells #[] 3)) := run_append_room_src (P := Tryd.prog) (W.alloc (.cells #[] 3)) 33 33 o.type 3 i Tryd.underlying33 hi0 W.heap.size 0 0 0 (.slice none 0 c) 0 [] (Src.ofNil _ Tryd.underlying33 c) (by omega) (by simp) (by simp)
    unfold Oper.wp execOp
    simp only [ho, resolve, invoke, builtin, Sem.run_bind, Sem.run_pure, Result.andThen_ok, List.map_toArray, List.map_cons, List.map_nil, hs, hx, hr]
    exact hK _ _ (h _ _ hown hbl (by simp))
  | some ad =>
    have hnews : ∀ j u, (xs.map (Value.int .i64))[j]? = some u → (W.alloc (.cells #[] 3)).cell? (ad.add j) = some u := by
      intro j u hu
      rw [List.getElem?_map] at hu
      have hj : j < n := by
        rw [← hi.len]
        rcases Nat.lt_or_ge j xs.length with h1 | h1
        · exact h1
        · rw [List.getElem?_eq_none h1] at hu; simp at hu
      obtain ⟨b, off, hb, hc⟩ := hi.cell j hj
      simp at hb
      subst hb
      rw [List.getD_eq_getElem?_getD] at hc
      rw [List.getElem?_eq_getElem (by rw [hi.len]; exact hj)] at hu hc
      simp at hu
      subst hu
      rw [Addr.add_lit]
      simpa using hc
    refine wpList_append_own _ hgd s x 33 ho W.heap.size 3 i (.int .i64 0) 1 8 Tryd.underlying33 hi0 hz0 hz1 hz2 rfl (by decide) _ 0 [] hs (by simpa using hown.row) ad n c (xs.map (Value.int .i64)) hx (by simp [hi.len]) hnews (by intro z hz; simp at hz; obtain ⟨y, _, rfl⟩ := hz; rfl) (by unfold maxLen; omega) (by omega) (by simp) ?_
    intro v' w' h1 h2 _
    refine h v' w' ⟨hi.len, by simpa using h1, hi.rng⟩ (hbl.grown h2 (by simp) (fun k hk => by simp [Value.ownBlock] at hk; omega)) ?_
    have := h2.size; simp at this; omega

theorem copyInts_any (v : Value) (xs : List Int) (w : World) (h : rI.rep w [v] xs) (hn : xs.length ≤ 100000000) :
    Calls Tryd.prog 169 #[v] w fun e w' => ∃ u, e = .returned u ∧ Own oI w.heap.size w'.heap.size w' [u] xs ∧ Below w.heap.size w w' := by
  obtain ⟨a, cap, rfl, _, _, hi⟩ := rI_open h
  have hi2 := hi.below ((Below.refl _ _).alloc (Nat.le_refl _) (.cells #[] 3))
  clear h
  go_enter Tryd.func169, Tryd.ntmps169
  go_wp2_with ((at_builtin; refine wpList_copyI _ _ _ _ _ _ xs rfl hi2 (by omega) rfl rfl rfl rfl ?_; intro v' w1 hown hb hsz))
  obtain ⟨a', cap', rfl, _⟩ := own_form hown.row
  go_wp2_with fail
  go_ret
  exact ⟨_, rfl, hown.own, hb⟩

theorem infoI : (Tryd.prog.info? 33).map (fun i => (i.zero, i.size, i.bytes)) = some (some (.slice none 0 0), 1, 24) := by kernel_rfl

set_option maxHeartbeats 1000000 in
theorem copyRows_any (v : Value) (xss : List (List Int)) (w : World) (h : rII.rep w [v] xss) (hn : bulk_II xss ≤ 100000000) :
    Calls Tryd.prog 145 #[v] w fun e w' => ∃ u, e = .returned u ∧ Own oII w.heap.size w'.heap.size w' [u] xss ∧ Below w.heap.size w w' := by
  obtain ⟨a, cap, rfl, _, _, t0⟩ := rS_open h
  clear h
  obtain ⟨n, hl⟩ : ∃ n, xss.length = n := ⟨_, rfl⟩
  rw [hl] at t0 ⊢
  have hn1 : n ≤ 100000000 := by unfold bulk_II at hn; omega
  have hrows : ∀ (j : Nat) (r : List Int), xss[j]? = some r → r.length ≤ 100000000 := fun j r hr => by
    have h9 := sumBy_mem bulk_I hr; unfold bulk_II at hn; unfold bulk_I at h9 hn; omega
  have HR := Lib.hid hrows
  clear hn hrows
  have hb0 : Below w.heap.size w w := Below.refl _ _
  go_enter Tryd.func145, Tryd.ntmps145
  obtain ⟨w1, hw1⟩ : ∃ W, W = w.alloc (.cells #[] 33) := ⟨_, rfl⟩
  have z1 : Below w.heap.size w w1 := by rw [hw1]; exact (Below.refl _ _).alloc (Nat.le_refl _) _
  have s1 : w1.heap.size = w.heap.size + 1 := by rw [hw1]; simp
  have hb1 := on hb0 z1
  have ho : ∀ S, Acc 33 oI w.heap.size S w1.heap.size w1 (.slice (some ⟨w.heap.size, 0, none⟩) 0 0) [] := fun S => by rw [hw1]; exact Acc.empty (by omega) (by first | (simp; done) | (simp; omega))
  go_wp2_with fail
  rw [← hw1]
  clear hw1
  go_loopw [3, 9] (fun v k wr => ∃ j : Nat, j ≤ n ∧ k = .int .i64 j ∧ Acc 33 oI w.heap.size w1.heap.size wr.heap.size wr v (xss.take j) ∧ Turn w.heap.size (w.heap.size + 1) w1 wr) (fun _ k _ => n - (intOf k).toNat)
  case atStart => exact ⟨0, Nat.zero_le _, rfl, by rw [List.take_zero]; exact (ho _).wide (Nat.le_refl _) (by omega), turn_refl _ _ _⟩
  case round =>
    obtain ⟨j, hj, rfl, hacc, hdr⟩ := hrel
    have hlc := hdr
    have hE0 : w1.heap.size = w.heap.size + 1 := by omega
    clear ho
    have s2 := hdr.size
    have hb2 := hb1.trans ((hdr.below (by omega)).mono (by omega))
    have hlen : (xss.take j).length ≤ j := List.length_take_le _ _
    by_cases hlt : j < n
    · obtain ⟨b0, o0, r1, m1, q1, x, rfl, hc, hx, hi, hq1, hq2⟩ := t0.row hlt
      have hclt : b0 < w.heap.size := cell_lt hc
      have c0 : wr.cell? ⟨b0, o0 + j, none⟩ = some (.slice r1 m1 q1) := (hb2.cell (p := ⟨b0, o0 + j, none⟩) hclt).trans hc
      have hrep : rI.rep w [.slice r1 m1 q1] x := rI_mk hi hq1 hq2
      have HT := Lib.hid (take_snoc' xss j x hx.out)
      have hxl := HR.out j x hx.out
      clear hc hx hi t0 hl hE0
      go_wp2_with fail
      refine (copyInts_any _ x _ (rI.mono hrep hb2) hxl).mono ?_
      rintro e w8 ⟨u, rfl, oy, z8⟩
      obtain ⟨ab, nb, cb, rfl⟩ := oI_form1 oy
      have s3 := z8.size
      have hb3 := on hb2 z8
      replace hlc := hlc.trans (turn_below z8 (Nat.le_refl _))
      replace hacc := hacc.below z8 (by omega)
      replace c0 := (z8.cell (p := ⟨b0, o0 + j, none⟩) (by simp only []; omega)).trans c0
      have hone : ∀ z ∈ [Value.slice ab nb cb], z.oneCell' = true := by intro z hz; simp at hz; subst hz; rfl
      go_wp2_with ((at_builtin; refine wpList_acc Tryd.underlying105 infoI rfl (by decide) (by decide) rfl _ _ _ _ [.slice ab nb cb] x hacc oy hone (by omega) (by omega) (by omega) (by omega) hlc rfl (by omega) (by omega) rfl rfl rfl rfl rfl ?_; intro v' w1 hacc' ht' hsz'))
      rw [← HT.out] at hacc'
      go_roundw
      case rel => exact ⟨j + 1, by omega, by go_num, hacc', ht'⟩
      case measure => simp [intOf]; omega
    · obtain rfl : j = n := by omega
      obtain ⟨a', n', cap2, rfl⟩ := hacc.form3
      rw [List.take_of_length_le (by omega)] at hacc
      have HO := Lib.hid (hacc.own (B := w.heap.size) (hi' := wr.heap.size) (by omega) (by omega) (by omega))
      clear hacc t0 hl
      go_wp2_with fail
      go_ret
      exact ⟨_, rfl, HO.out, hb2⟩

set_option maxHeartbeats 1000000 in
theorem copyTable_any (cs : List Value) (x : DT) (w : World) (h : rT.rep w cs x) (hn : bulk_T x ≤ 100000000) :
    Calls Tryd.prog 128 #[.agg cs.toArray] w fun e w' => ∃ ds, e = .returned (.agg ds.toArray) ∧ Own oT w.heap.size w'.heap.size w' ds x ∧ Below w.heap.size w w' := by
  obtain ⟨ub, un, uc, rfl, hs, hi, g1⟩ := rT_open h
  clear h
  obtain ⟨s, i, rows⟩ := x
  simp only at hs hi g1
  have hn2 : bulk_II rows ≤ 100000000 := by unfold bulk_T at hn; simp only at hn; omega
  clear hn
  have hb0 : Below w.heap.size w w := Below.refl _ _
  go_enter Tryd.func128, Tryd.ntmps128
  obtain ⟨w1, hw1⟩ : ∃ W, W = w.alloc (.cells #[.string s, .int .i64 i, .slice ub un uc] 107) := ⟨_, rfl⟩
  have z1 : Below w.heap.size w w1 := by rw [hw1]; exact (Below.refl _ _).alloc (Nat.le_refl _) _
  have s1 : w1.heap.size = w.heap.size + 1 := by rw [hw1]; simp
  have hb1 := on hb0 z1
  have b_0 : w1.cell? ⟨w.heap.size, 0, none⟩ = some (.string s) := by rw [hw1]; exact box_cell (Below.refl _ _) rfl
  have b_1 : w1.cell? ⟨w.heap.size, 1, none⟩ = some (.int .i64 i) := by rw [hw1]; exact box_cell (Below.refl _ _) rfl
  have b_2 : w1.cell? ⟨w.heap.size, 2, none⟩ = some (.slice ub un uc) := by rw [hw1]; exact box_cell (Below.refl _ _) rfl
  have b_f0 : w1.frozen? ⟨w.heap.size, 0, none⟩ = false := by rw [hw1]; exact box_frozen (Below.refl _ _)
  have b_f1 : w1.frozen? ⟨w.heap.size, 1, none⟩ = false := by rw [hw1]; exact box_frozen (Below.refl _ _)
  have b_f2 : w1.frozen? ⟨w.heap.size, 2, none⟩ = false := by rw [hw1]; exact box_frozen (Below.refl _ _)
  have raw1_b_0 := b_0
  have raw1_b_1 := b_1
  have raw1_b_2 := b_2
  rw [hw1] at raw1_b_0 raw1_b_1 raw1_b_2
  obtain ⟨w2, hw2⟩ : ∃ W, W = w1.alloc (.cells #[.string ⟨#[]⟩, .int .i64 0, .slice none 0 0] 107) := ⟨_, rfl⟩
  have z2 : Below w1.heap.size w1 w2 := by rw [hw2]; exact (Below.refl _ _).alloc (Nat.le_refl _) _
  have s2 : w2.heap.size = w1.heap.size + 1 := by rw [hw2]; simp
  have hb2 := on hb1 z2
  replace b_0 := (z2.cell (p := ⟨w.heap.size, 0, none⟩) (by simp only []; omega)).trans b_0
  replace b_1 := (z2.cell (p := ⟨w.heap.size, 1, none⟩) (by simp only []; omega)).trans b_1
  replace b_2 := (z2.cell (p := ⟨w.heap.size, 2, none⟩) (by simp only []; omega)).trans b_2
  replace b_f0 := (z2.frozen (p := ⟨w.heap.size, 0, none⟩) (by simp only []; omega)).trans b_f0
  replace b_f1 := (z2.frozen (p := ⟨w.heap.size, 1, none⟩) (by simp only []; omega)).trans b_f1
  replace b_f2 := (z2.frozen (p := ⟨w.heap.size, 2, none⟩) (by simp only []; omega)).trans b_f2
  have e2 : w1.heap.size = w.heap.size + 1 := by omega
  have r_0 : w2.cell? ⟨w1.heap.size, 0, none⟩ = some (.string ⟨#[]⟩) := by rw [hw2]; exact box_cell (Below.refl _ _) rfl
  have r_1 : w2.cell? ⟨w1.heap.size, 1, none⟩ = some (.int .i64 0) := by rw [hw2]; exact box_cell (Below.refl _ _) rfl
  have r_2 : w2.cell? ⟨w1.heap.size, 2, none⟩ = some (.slice none 0 0) := by rw [hw2]; exact box_cell (Below.refl _ _) rfl
  rw [e2] at r_0 r_1 r_2
  have r_f0 : w2.frozen? ⟨w1.heap.size, 0, none⟩ = false := by rw [hw2]; exact box_frozen (Below.refl _ _)
  have r_f1 : w2.frozen? ⟨w1.heap.size, 1, none⟩ = false := by rw [hw2]; exact box_frozen (Below.refl _ _)
  have r_f2 : w2.frozen? ⟨w1.heap.size, 2, none⟩ = false := by rw [hw2]; exact box_frozen (Below.refl _ _)
  rw [e2] at r_f0 r_f1 r_f2
  have raw2_b_0 := b_0
  have raw2_b_1 := b_1
  have raw2_b_2 := b_2
  have raw2_r_0 := r_0
  have raw2_r_1 := r_1
  have raw2_r_2 := r_2
  rw [hw2, hw1] at raw2_b_0 raw2_b_1 raw2_b_2 raw2_r_0 raw2_r_1 raw2_r_2
  go_wp2_with fail
  rw [← hw1]
  rw [← hw2]
  clear hw2 hw1
  clear raw1_b_0 raw1_b_1 raw1_b_2 raw2_b_0 raw2_b_1 raw2_b_2 raw2_r_0 raw2_r_1 raw2_r_2
  refine (copyRows_any _ rows _ (rII.mono g1 hb2) hn2).mono ?_
  rintro e w9 ⟨u, rfl, ho, z9⟩
  obtain ⟨ab, nb, cb, rfl⟩ := oII_form1 ho
  have s3 := z9.size
  have hb3 := on hb2 z9
  replace b_0 := (z9.cell (p := ⟨w.heap.size, 0, none⟩) (by simp only []; omega)).trans b_0
  replace b_1 := (z9.cell (p := ⟨w.heap.size, 1, none⟩) (by simp only []; omega)).trans b_1
  replace b_2 := (z9.cell (p := ⟨w.heap.size, 2, none⟩) (by simp only []; omega)).trans b_2
  replace b_f0 := (z9.frozen (p := ⟨w.heap.size, 0, none⟩) (by simp only []; omega)).trans b_f0
  replace b_f1 := (z9.frozen (p := ⟨w.heap.size, 1, none⟩) (by simp only []; omega)).trans b_f1
  replace b_f2 := (z9.frozen (p := ⟨w.heap.size, 2, none⟩) (by simp only []; omega)).trans b_f2
  replace r_0 := (z9.cell (p := ⟨w.heap.size + 1, 0, none⟩) (by simp only []; omega)).trans r_0
  replace r_1 := (z9.cell (p := ⟨w.heap.size + 1, 1, none⟩) (by simp only []; omega)).trans r_1
  replace r_2 := (z9.cell (p := ⟨w.heap.size + 1, 2, none⟩) (by simp only []; omega)).trans r_2
  replace r_f0 := (z9.frozen (p := ⟨w.heap.size + 1, 0, none⟩) (by simp only []; omega)).trans r_f0
  replace r_f1 := (z9.frozen (p := ⟨w.heap.size + 1, 1, none⟩) (by simp only []; omega)).trans r_f1
  replace r_f2 := (z9.frozen (p := ⟨w.heap.size + 1, 2, none⟩) (by simp only []; omega)).trans r_f2
  go_wp2_with fail
  refine bodyPost_ret (v := .agg #[.string s, .int .i64 i, .slice ab nb cb]) (by simp [results, Tryd.results128, go_sem, b_0, b_1, b_2, r_0, r_1, r_2, b_f0, b_f1, b_f2, r_f0, r_f1, r_f2]) rfl ⟨_, rfl, ?_, ?_⟩
  · refine oT_mk (x := (s, i, rows)) hs hi (l2 := w2.heap.size) (m2 := w9.heap.size) ?_ (by omega) (by simp [World.setCell])
    repeat (refine Own.setOut ?_ rfl (by simp only []; omega))
    exact ho
  · repeat (refine Below.setCell ?_ (by simp only []; omega) _)
    exact hb3

end Go.Proofs.YtigcagplbihenaaDoor
