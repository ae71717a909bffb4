/- Texts joined for one claim: Down, Look, Put, Sorted, GrpB, GrpI, GrpS, GrpW. -/
import Derived.Test.YtbkoddikfpkocaaQ9bfcff6dab
import Derived.Shelf.SlSortCmp.NoneTotal

/- Contracts: ints in descending order, by the reference (l10Down). -/
namespace Go.Proofs.Ytbkoddikfpkocaa
open Go.RowKit
set_option linter.unusedVariables false
set_option linter.unusedSimpArgs false
set_option synthInstance.maxSize 2000
set_option synthInstance.maxHeartbeats 400000

/-- 'append(v, ys...)' on ints of one's own, run: v lies in block g. -/
theorem run_appI (W : World) (B g n c : Nat) (xs : List Int) (ad : Addr) (m c2 : Nat) (ys : List Int) (ty : TypeId) (h : OwnInts B W (.slice (some ⟨g, 0, none⟩) n c) n xs) (hB : B ≤ W.heap.size) (hi : Ints W (some ad) m ys) (hn : n ≤ 1000000000) (hm : m ≤ 1000000000) :
    ∃ g' c' w', (Builtin.append_ #[24, 24] ty #[.slice (some ⟨g, 0, none⟩) n c, .slice (some ad) m c2]).run Try.prog W = .ok (.slice (some ⟨g', 0, none⟩) (n + m) c') w' ∧ OwnInts B w' (.slice (some ⟨g', 0, none⟩) (n + m) c') (n + m) (xs ++ ys) ∧ Below B W w' ∧ (g' = g ∨ W.heap.size ≤ g') ∧ ∀ k, k < W.heap.size → k ≠ g → w'.heap[k]? = W.heap[k]? := by
  obtain ⟨i, hi0, hz0, hz1, hz2⟩ := info_parts infoInt
  have hnews : ∀ j u, (ys.map (Value.int .i64))[j]? = some u → W.cell? (ad.add j) = some u := by
    intro j u hu
    rw [List.getElem?_map] at hu
    have hj : j < m := by
      rw [← hi.len]
      rcases Nat.lt_or_ge j ys.length with h1 | h1
      · exact h1
      · rw [List.getElem?_eq_none h1] at hu; simp at hu
    obtain ⟨b, off, hb, hc⟩ := hi.cell j hj
    simp at hb
    subst hb
    rw [List.getD_eq_getElem?_getD] at hc
    rw [List.getElem?_eq_getElem (by rw [hi.len]; exact hj)] at hu hc
    simp at hu
    subst hu
    rw [Addr.add_lit]
    simpa using hc
  obtain ⟨v', w', hrun, h1, h2, h3, h4⟩ := run_append_own_at (P := Try.prog) W B 24 ty 3 i (.int .i64 0) 1 8 Try.underlying24 hi0 hz0 hz1 hz2 rfl (by decide) _ n _ h.row ad m c2 (ys.map (Value.int .i64)) (by simp [hi.len]) hnews (by intro z hz; simp at hz; obtain ⟨y, _, rfl⟩ := hz; rfl) (by unfold maxLen; omega) (by omega) hB
  obtain ⟨a', cap', rfl, _, _⟩ := own_form h1
  have hlen : (xs ++ ys).length = n + m := by rw [List.length_append, h.len, hi.len]
  have hr : AllI64 (xs ++ ys) := fun x hx => by
    rcases List.mem_append.1 hx with hx | hx
    · exact h.rng x hx
    · exact hi.rng x hx
  rw [← List.map_append] at h1
  rcases h1.2 with ⟨hv, h0⟩ | ⟨g', cap, cur, hv, hB', hg', _⟩
  · have := (h3.1 hv).1; simp at this
  · simp at hv
    obtain ⟨rfl, rfl⟩ := hv
    have hs := h2.size
    refine ⟨g', cap', w', hrun, ⟨hlen, h1, hr⟩, (Below.refl B W).grown h2 hB (fun k hk => (h.row.lt k hk).1), ?_, fun k hk hne => ?_⟩
    · rcases h4 with h4 | h4
      · simp [Value.ownBlock] at h4; exact .inl h4
      · simp [Value.ownBlock] at h4; exact .inr (by omega)
    · exact h2.block k hk (by simp [Value.ownBlock]; omega)
theorem ints_of_block {W w' : World} {b off n : Nat} {xs : List Int} (h : Ints W (some ⟨b, off, none⟩) n xs) (hb : w'.heap[b]? = W.heap[b]?) : Ints w' (some ⟨b, off, none⟩) n xs :=
  ⟨h.len, h.small, fun i hi => by
    obtain ⟨b', o', ha, hc⟩ := h.cell i hi
    simp at ha
    obtain ⟨rfl, rfl⟩ := ha
    exact ⟨b, off, rfl, (World.cell?_of_block (a := ⟨b, off + i, none⟩) hb).trans hc⟩, h.rng⟩
theorem ints_one (W : World) (x : Int) (hx : I64 x) : Ints (W.alloc (.cells #[.int .i64 x] 3)) (some ⟨W.heap.size, 0, none⟩) 1 [x] :=
  ⟨rfl, by omega, fun i hi => by
    obtain rfl : i = 0 := by omega
    refine ⟨W.heap.size, 0, rfl, ?_⟩
    have h := cell_one_new W (.int .i64 x) 3 0 _ rfl
    rw [Addr.add_lit] at h
    exact h, fun y hy => by simp only [List.mem_singleton] at hy; subst hy; exact hx⟩
theorem Ints.dropTo {w : World} {b off n : Nat} {xs : List Int} (h : Ints w (some ⟨b, off, none⟩) n xs) {k : Nat} (hk : k ≤ n) : Ints w (some ⟨b, off + k, none⟩) (n - k) (xs.drop k) := by
  have hl := h.len
  refine ⟨by simp; omega, by have := h.small; omega, fun i hi => ?_, fun x hx => h.rng x (List.mem_of_mem_drop hx)⟩
  obtain ⟨b', o', ha, hc⟩ := h.cell (k + i) (by omega)
  simp at ha
  obtain ⟨rfl, rfl⟩ := ha
  refine ⟨b, off + k, rfl, ?_⟩
  rw [Nat.add_assoc, hc]
  simp [List.getD_eq_getElem?_getD, List.getElem?_drop]

theorem slice_end {g c q j : Nat} {ys : List Int} (hq : q ≤ j) (hc : j ≤ c) : ∃ adr : Addr, (if c = q then some (⟨g, 0, none⟩ : Addr) else some ⟨g, q, none⟩) = some adr ∧ ∀ W, Ints W (some ⟨g, 0, none⟩) j ys → Ints W (some adr) (j - q) (ys.drop q) := by
  by_cases h : c = q
  · refine ⟨⟨g, 0, none⟩, by rw [if_pos h], fun W hi => ?_⟩
    have hl := hi.len
    rw [List.drop_eq_nil_of_le (by omega), show j - q = 0 by omega]
    exact ⟨rfl, by omega, fun i h9 => by omega, fun x hx => by cases hx⟩
  · refine ⟨⟨g, q, none⟩, by rw [if_neg h], fun W hi => ?_⟩
    have := hi.dropTo hq
    rwa [Nat.zero_add] at this

set_option maxRecDepth 100000 in
set_option maxHeartbeats 4000000 in
theorem down_any (v : Value) (xs : List Int) (w : World) (h : rI.rep w [v] xs) (hn1 : xs.length ≤ 1000000) :
    Calls Try.prog 110 #[v] w fun e w' => ∃ b n c, e = .returned (.slice b n c) ∧ Own oI w.heap.size w'.heap.size w' [.slice b n c] (downS xs) ∧ Below w.heap.size w w' := by
  obtain ⟨a, cap, rfl, _, _, i0⟩ := rI_open h
  clear h
  obtain ⟨n, hl⟩ : ∃ n, xs.length = n := ⟨_, rfl⟩
  rw [hl] at i0 hn1 ⊢
  have H0 : Hid (([] : List Int).Pairwise (· ≥ ·) ∧ ([] : List Int).Perm (xs.take 0)) := Lib.hid ⟨List.Pairwise.nil, by simp⟩
  have hb0 : Below w.heap.size w w := Below.refl _ _
  go_enter Try.func110, Try.ntmps110
  obtain ⟨w1, hw1⟩ : ∃ W, W = w.alloc (.cells #[] 3) := ⟨_, rfl⟩
  have z1 : Below w.heap.size w w1 := by rw [hw1]; exact (Below.refl _ _).alloc (Nat.le_refl _) _
  have s1 : w1.heap.size = w.heap.size + 1 := by rw [hw1]; simp
  have hb1 := on hb0 z1
  have ho : ∀ S, Acc 3 O.int w.heap.size S w1.heap.size w1 (.slice (some ⟨w.heap.size, 0, none⟩) 0 0) [] := fun S => by rw [hw1]; exact Acc.empty (by omega) (by first | (simp; done) | (simp; omega))
  have hO : OwnInts w.heap.size w1 (.slice (some ⟨w.heap.size, 0, none⟩) 0 0) 0 [] := by rw [hw1]; exact own_empty (Nat.le_refl _)
  go_wp2_with fail
  rw [← hw1]
  clear hw1
  go_loopw [3, 4] (fun v i wr => ∃ (j g c : Nat) (ys : List Int), j ≤ n ∧ i = .int .i64 j ∧ v = .slice (some ⟨g, 0, none⟩) j c ∧ OwnInts w.heap.size wr (.slice (some ⟨g, 0, none⟩) j c) j ys ∧ Hid (ys.Pairwise (· ≥ ·) ∧ ys.Perm (xs.take j)) ∧ Below w.heap.size w wr) (fun _ i _ => n - (intOf i).toNat)
  case atStart => exact ⟨0, _, _, [], Nat.zero_le _, rfl, rfl, hO, H0.out, hb1⟩
  case round =>
    obtain ⟨j, g, c, ys, hj, rfl, rfl, hown, hP, hdr⟩ := hrel
    clear hO H0
    clear ho
    have sr := hdr.size
    obtain ⟨wo, rfl⟩ : ∃ W, W = wr := ⟨_, rfl⟩
    by_cases hlt : j < n
    · obtain ⟨b0, o0, x, rfl, hc, hx, hx1, hx2⟩ := i0.get hlt
      have c0_lt : b0 < w.heap.size := cell_lt hc
      have c0 : wo.cell? ⟨b0, o0 + j, none⟩ = some (.int .i64 x) := (hdr.cell (p := ⟨b0, o0 + j, none⟩) c0_lt).trans hc
      obtain ⟨hcn, hcm⟩ := hown.capn
      have hyl := hown.len
      have hgl := hown.row.lt g rfl
      have HX := Lib.hid (take_snoc xs j (by omega))
      have HXV := Lib.hid hx.out
      obtain ⟨hP1, hP2⟩ := hP.out
      have HP1 := Lib.hid hP1
      have HP2 := Lib.hid hP2
      clear hP1 hP2
      have iy := hown.ints
      have HIY := Lib.hid iy
      have HA0 : Hid (∀ t, j ≤ t → t < ys.length → ys.getD t 0 < x) := Lib.hid (fun t h1 h2 => by omega)
      clear hl i0 hx hc iy
      go_wp2_with fail
      go_loopw [5] (fun k wr => ∃ q : Nat, q ≤ j ∧ k = .int .i64 q ∧ Hid (∀ t, q ≤ t → t < ys.length → ys.getD t 0 < x) ∧ Drew wo wr) (fun k _ => (intOf k).toNat)
      case atStart => exact ⟨j, Nat.le_refl _, rfl, HA0.out, Drew.refl _⟩
      case round =>
        obtain ⟨q, hq, rfl, hA, hdd⟩ := hrel
        have hdd9 := hdd
        replace c0 := (hdd.cell _).trans c0
        by_cases hc9 : 0 < q ∧ ys.getD (q - 1) 0 < x
        · obtain ⟨h1, h2⟩ := hc9
          obtain ⟨p, rfl⟩ : ∃ p, q = p + 1 := ⟨q - 1, by omega⟩
          rw [Nat.add_sub_cancel] at h2
          obtain ⟨b9, o9, y, hb9, hcy, hy, hy1, hy2⟩ := HIY.out.get (show p < j by omega)
          simp at hb9
          obtain ⟨rfl, rfl⟩ := hb9
          rw [Nat.zero_add] at hcy
          have cy := (hdd.cell _).trans hcy
          have hyx : decide (y < x) = true := by rw [← hy.out]; exact decide_eq_true h2
          have hw9 : IntKind.i64.wrap (p : Int) = (p : Int) := IntWalk.i64_in _ (by omega)
          have HN : Hid (∀ t, p ≤ t → t < ys.length → ys.getD t 0 < x) := Lib.hid (fun t h3 h4 => by
            rcases Nat.eq_or_lt_of_le h3 with rfl | h5
            · exact h2
            · exact hA.out t h5 h4)
          have hpc : (p : Int) < (j : Int) := by omega
          clear hA HA0 h2 hcy hy hdd h1
          go_wp2_with fail
          go_quiet (fail)
          clear hw9 hyx
          go_wp2_with fail
          go_roundw
          case rel => exact ⟨p, by omega, by go_num, HN, hdd9.step _⟩
          case measure => simp [intOf] <;> omega
        · have HC : Hid (q = 0 ∨ x ≤ ys.getD (q - 1) 0) := Lib.hid (by omega)
          clear hc9
          have hqc : q ≤ c := by omega
          have hcs : decide (0 < q) = false ∨ ∃ (p : Nat) (y : Int), decide (0 < q) = true ∧ IntKind.i64.wrap ((q : Int) - 1) = (p : Int) ∧ (p : Int) < (j : Int) ∧ wr.cell? ⟨g, p, none⟩ = some (.int .i64 y) ∧ decide (y < x) = false := by
            rcases q with _ | p
            · exact .inl (by simp)
            · obtain ⟨b9, o9, y, hb9, hcy, hy, hy1, hy2⟩ := HIY.out.get (show p < j by omega)
              simp at hb9
              obtain ⟨rfl, rfl⟩ := hb9
              rw [Nat.zero_add] at hcy
              refine .inr ⟨p, y, by simp, ?_, by omega, (hdd.cell _).trans hcy, ?_⟩
              · rw [show (((p + 1 : Nat) : Int) - 1) = (p : Int) by omega]; exact IntWalk.i64_in _ (by omega)
              · rw [← hy.out]
                have := HC.out
                rw [Nat.add_sub_cancel] at this
                exact decide_eq_false (by omega)
          rcases hcs with hg1 | ⟨p, y, hg1, hw9, hpc, cy, hyx⟩
          · go_wp2_with fail
            refine wp_region_quiet_lit (by kernel_rfl) (by kernel_rfl) ?_
            repeat (go_big_quiet_step (fail))
            refine wpQuiet_nil ?_
            intro W8 hW8
            replace hW8 : Drew wr W8 := hW8
            have c8 := (hW8.cell _).trans c0
            replace hW8 : Drew wo W8 := hdd9.trans hW8
            have hb8 := onD hdr hW8
            have own8 := hown.below (hW8.below _)
            have iy8 := own8.ints
            have s8 := hb8.size
            have hgl8 := own8.row.lt g rfl
            have hjl : (j : Int) ≤ (c : Int) := by omega
            have hqj : (q : Int) ≤ (j : Int) := by omega
            have HYL := Lib.hid hyl
            clear hg1 hdd hdd9 hyl
            go_wp2_with fail
            refine wp_region_noPanic ?_
            refine wp_region_held_drew (S := (fun W => W.cell? ⟨b0, o0 + j, none⟩ = some (.int .i64 x))) (by kernel_rfl) ?hS2 (fun hHeld => ?_)
            case hS2 => exact c8
            refine wpAnyH_take (i := 1) (v := ?v1_3) rfl (by kernel_rfl) (by kernel_rfl) (by kernel_rfl) (fun _ _ _ h => h) (Or.inl ⟨by rfl, ?hy1_3⟩) (by assumption) ?rest1_3
            case hy1_3 => intro w hSw; (try dsimp only at hSw); go_simp; (try with_reducible rfl)
            try simp only [Act.put, List.getElem_toArray, List.getElem_cons_succ, List.getElem_cons_zero, List.setIfInBounds_toArray, List.set_cons_zero, List.set_cons_succ]
            refine wpAnyH_take (i := 2) (v := ?v2_4) rfl (by kernel_rfl) (by kernel_rfl) (by kernel_rfl) (fun _ _ _ h => h) (Or.inl ⟨by rfl, ?hy2_4⟩) (by assumption) ?rest2_4
            case hy2_4 => intro w hSw; (try dsimp only at hSw); go_simp; (try with_reducible rfl)
            try simp only [Act.put, List.getElem_toArray, List.getElem_cons_succ, List.getElem_cons_zero, List.setIfInBounds_toArray, List.set_cons_zero, List.set_cons_succ]
            refine wpAnyH_take (i := 3) (v := ?v3_5) rfl (by kernel_rfl) (by kernel_rfl) (by kernel_rfl) (fun _ _ _ h => h) (Or.inl ⟨by rfl, ?hy3_5⟩) (by assumption) ?rest3_5
            case hy3_5 => intro w hSw; (try dsimp only at hSw); go_simp; (try with_reducible rfl)
            try simp only [Act.put, List.getElem_toArray, List.getElem_cons_succ, List.getElem_cons_zero, List.setIfInBounds_toArray, List.set_cons_zero, List.set_cons_succ]
            refine wpAnyH_take (i := 5) (v := ?v5_6) rfl (by kernel_rfl) (by kernel_rfl) (by kernel_rfl) (fun _ _ _ h => h) (Or.inl ⟨by rfl, ?hy5_6⟩) (by assumption) ?rest5_6
            case hy5_6 => intro w hSw; (try dsimp only at hSw); go_simp; (try with_reducible rfl)
            try simp only [Act.put, List.getElem_toArray, List.getElem_cons_succ, List.getElem_cons_zero, List.setIfInBounds_toArray, List.set_cons_zero, List.set_cons_succ]
            refine wpAnyH_take (i := 6) (v := ?v6_7) rfl (by kernel_rfl) (by kernel_rfl) (by kernel_rfl) (fun _ _ _ h => h) (Or.inl ⟨by rfl, ?hy6_7⟩) (by assumption) ?rest6_7
            case hy6_7 => intro w hSw; (try dsimp only at hSw); go_simp; (try with_reducible rfl)
            try simp only [Act.put, List.getElem_toArray, List.getElem_cons_succ, List.getElem_cons_zero, List.setIfInBounds_toArray, List.set_cons_zero, List.set_cons_succ]
            refine wpAnyH_take (i := 7) (v := ?v7_8) rfl (by kernel_rfl) (by kernel_rfl) (by kernel_rfl) (fun _ _ _ h => h) (Or.inl ⟨by rfl, ?hy7_8⟩) (by assumption) ?rest7_8
            case hy7_8 => intro w hSw; (try dsimp only at hSw); go_simp; (try with_reducible rfl)
            try simp only [Act.put, List.getElem_toArray, List.getElem_cons_succ, List.getElem_cons_zero, List.setIfInBounds_toArray, List.set_cons_zero, List.set_cons_succ]
            refine wpAnyH_take (i := 8) (v := ?v8_9) rfl (by kernel_rfl) (by kernel_rfl) (by kernel_rfl) (fun _ _ _ h => h) (Or.inl ⟨by rfl, ?hy8_9⟩) (by assumption) ?rest8_9
            case hy8_9 => intro w hSw; (try dsimp only at hSw); go_simp; (try with_reducible rfl)
            try simp only [Act.put, List.getElem_toArray, List.getElem_cons_succ, List.getElem_cons_zero, List.setIfInBounds_toArray, List.set_cons_zero, List.set_cons_succ]
            refine wpAnyH_take (i := 11) (v := ?v11_10) rfl (by kernel_rfl) (by kernel_rfl) (by kernel_rfl) (fun _ _ _ h => h) (Or.inl ⟨by rfl, ?hy11_10⟩) (by assumption) ?rest11_10
            case hy11_10 => intro w hSw; (try dsimp only at hSw); go_simp; (try with_reducible rfl)
            try simp only [Act.put, List.getElem_toArray, List.getElem_cons_succ, List.getElem_cons_zero, List.setIfInBounds_toArray, List.set_cons_zero, List.set_cons_succ]
            refine wpAnyH_take (i := 12) (v := ?v12_11) rfl (by kernel_rfl) (by kernel_rfl) (by kernel_rfl) (fun _ _ _ h => h) (Or.inl ⟨by rfl, ?hy12_11⟩) (by assumption) ?rest12_11
            case hy12_11 => intro w hSw; (try dsimp only at hSw); go_simp; (try with_reducible rfl)
            try simp only [Act.put, List.getElem_toArray, List.getElem_cons_succ, List.getElem_cons_zero, List.setIfInBounds_toArray, List.set_cons_zero, List.set_cons_succ]
            refine wpAnyH_take (i := 13) (v := ?v13_12) rfl (by kernel_rfl) (by kernel_rfl) (by kernel_rfl) (fun _ _ _ h => h) (Or.inl ⟨by rfl, ?hy13_12⟩) (by assumption) ?rest13_12
            case hy13_12 => intro w hSw; (try dsimp only at hSw); go_simp; (try with_reducible rfl)
            try simp only [Act.put, List.getElem_toArray, List.getElem_cons_succ, List.getElem_cons_zero, List.setIfInBounds_toArray, List.set_cons_zero, List.set_cons_succ]
            obtain ⟨adr, hadr, hadi⟩ : ∃ adr : Addr, (if c = q then some (⟨g, 0, none⟩ : Addr) else some ⟨g, q, none⟩) = some adr ∧ ∀ W, Ints W (some ⟨g, 0, none⟩) j ys → Ints W (some adr) (j - q) (ys.drop q) := slice_end hq (by omega)
            rw [hadr]
            clear hadr
            refine wpAnyH_ready (rs := [0, 9]) (by kernel_rfl) (by simp) ?_
            refine AllReadyH.cons rfl (fun K hK => ?_) (AllReadyH.cons rfl (fun K hK => ?_) AllReadyH.nil)
            · skip
              go_simp
              obtain ⟨A, hA⟩ : ∃ Z9, Z9 = (W8.alloc (.cells #[] 3)).drew := ⟨_, rfl⟩
              have bA : Below W8.heap.size W8 A := by rw [hA]; exact (((Below.refl _ _).alloc (Nat.le_refl _) _).drew)
              have sA : A.heap.size ≤ W8.heap.size + 1 ∧ W8.heap.size + 1 ≤ A.heap.size := by rw [hA]; simp
              have cA : A.cell? ⟨b0, o0 + j, none⟩ = some (.int .i64 x) := (bA.cell (p := ⟨b0, o0 + j, none⟩) (by simp only []; omega)).trans c8
              have iyA := iy8.below bA
              have tA : Below W8.heap.size W8 A := bA
              have oE : OwnInts W8.heap.size A (.slice (some ⟨W8.heap.size, 0, none⟩) 0 0) 0 [] := by rw [hA]; exact own_empty (W := W8.drew) (Nat.le_refl _)
              rw [← hA]
              refine hK.out _ _ cA (fun hHeld => ?_)
              clear hK K hA
              try simp only [Act.put, List.getElem_toArray, List.getElem_cons_succ, List.getElem_cons_zero, List.setIfInBounds_toArray, List.set_cons_zero, List.set_cons_succ]
              refine wpAnyH_ready (rs := [4, 9]) (by kernel_rfl) (by simp) ?_
              refine AllReadyH.cons rfl (fun K hK => ?_) (AllReadyH.cons rfl (fun K hK => ?_) AllReadyH.nil)
              · skip
                have iyq := (iyA).takeTo hq
                obtain ⟨gB, cB9, B, hrB, oB, bbB, hgB, hkB⟩ := run_appI A W8.heap.size W8.heap.size 0 0 [] ⟨g, 0, none⟩ q c (ys.take q) 24 oE (by omega) iyq (by omega) (by omega)
                try simp only [Nat.zero_add, List.nil_append] at hrB oB
                refine step_app hrB (by rfl) (by rfl) (by rfl) (by rfl) (by rfl) ?_
                have iyB : Ints B (some ⟨g, 0, none⟩) j ys := ints_of_block iyA (hkB g (by omega) (by omega))
                have hgB2 : gB ≠ g := by omega
                have tB : Below W8.heap.size W8 B := tA.trans bbB
                have sB := bbB.size
                have cB : B.cell? ⟨b0, o0 + j, none⟩ = some (.int .i64 x) := (tB.cell (p := ⟨b0, o0 + j, none⟩) (by simp only []; omega)).trans c8
                refine hK.out _ _ cB (fun hHeld => ?_)
                clear hK K
                try simp only [Act.put, List.getElem_toArray, List.getElem_cons_succ, List.getElem_cons_zero, List.setIfInBounds_toArray, List.set_cons_zero, List.set_cons_succ]
                refine wpAnyH_ready (rs := [9]) (by kernel_rfl) (by simp) ?_
                refine AllReadyH.cons rfl (fun K hK => ?_) AllReadyH.nil
                go_simp
                obtain ⟨C, hC⟩ : ∃ Z9, Z9 = B.alloc (.cells #[.int .i64 x] 3) := ⟨_, rfl⟩
                have bC : Below B.heap.size B C := by rw [hC]; exact ((Below.refl _ _).alloc (Nat.le_refl _) _)
                have sC : C.heap.size ≤ B.heap.size + 1 ∧ B.heap.size + 1 ≤ C.heap.size := by rw [hC]; simp
                have cC : C.cell? ⟨b0, o0 + j, none⟩ = some (.int .i64 x) := (bC.cell (p := ⟨b0, o0 + j, none⟩) (by simp only []; omega)).trans cB
                have iyC := iyB.below bC
                have tC : Below W8.heap.size W8 C := tB.trans (bC.mono (by omega))
                have iX : Ints C (some ⟨B.heap.size, 0, none⟩) 1 [x] := by rw [hC]; exact ints_one B x ⟨by omega, by omega⟩
                have hxb : B.heap.size < C.heap.size := by omega
                rw [← hC]
                refine hK.out _ _ cC (fun hHeld => ?_)
                clear hK K hC
                try simp only [Act.put, List.getElem_toArray, List.getElem_cons_succ, List.getElem_cons_zero, List.setIfInBounds_toArray, List.set_cons_zero, List.set_cons_succ]
                have oC := oB.below bC
                have hgB3 := oB.row.lt gB rfl
                refine wpAnyH_ready (rs := [10]) (by kernel_rfl) (by simp) ?_
                refine AllReadyH.cons rfl (fun K hK => ?_) AllReadyH.nil
                obtain ⟨gU, cU9, U, hrU, oU, bbU, hgU, hkU⟩ := run_appI C W8.heap.size gB q cB9 (ys.take q) ⟨B.heap.size, 0, none⟩ 1 1 [x] 24 oC (by omega) iX (by omega) (by omega)
                try simp only [Nat.zero_add, List.nil_append] at hrU oU
                refine step_app hrU (by rfl) (by rfl) (by rfl) (by rfl) (by rfl) ?_
                have iyU : Ints U (some ⟨g, 0, none⟩) j ys := ints_of_block iyC (hkU g (by omega) (by omega))
                have hgU2 : gU ≠ g := by omega
                have tU : Below W8.heap.size W8 U := tC.trans bbU
                have sU := bbU.size
                have cU : U.cell? ⟨b0, o0 + j, none⟩ = some (.int .i64 x) := (tU.cell (p := ⟨b0, o0 + j, none⟩) (by simp only []; omega)).trans c8
                refine hK.out _ _ cU (fun hHeld => ?_)
                clear hK K
                try simp only [Act.put, List.getElem_toArray, List.getElem_cons_succ, List.getElem_cons_zero, List.setIfInBounds_toArray, List.set_cons_zero, List.set_cons_succ]
                refine wpAnyH_ready (rs := [14]) (by kernel_rfl) (by simp) ?_
                refine AllReadyH.cons rfl (fun K hK => ?_) AllReadyH.nil
                have iyd := hadi U iyU
                obtain ⟨gV, cV9, V, hrV, oV, bbV, hgV, hkV⟩ := run_appI U W8.heap.size gU (q + 1) cU9 (ys.take q ++ [x]) adr (j - q) (c - q) (ys.drop q) 24 oU (by omega) iyd (by omega) (by omega)
                try simp only [Nat.zero_add, List.nil_append] at hrV oV
                refine step_app hrV (by rfl) (by rfl) (by rfl) (by rfl) (by rfl) ?_
                have tV : Below W8.heap.size W8 V := tU.trans bbV
                have sV := bbV.size
                have cV : V.cell? ⟨b0, o0 + j, none⟩ = some (.int .i64 x) := (tV.cell (p := ⟨b0, o0 + j, none⟩) (by simp only []; omega)).trans c8
                refine hK.out _ _ cV (fun hHeld => ?_)
                clear hK K
                try simp only [Act.put, List.getElem_toArray, List.getElem_cons_succ, List.getElem_cons_zero, List.setIfInBounds_toArray, List.set_cons_zero, List.set_cons_succ]
                refine wpAnyH_take (i := 15) (v := ?v15_13) rfl (by kernel_rfl) (by kernel_rfl) (by kernel_rfl) (fun _ _ _ h => h) (Or.inl ⟨by rfl, ?hy15_13⟩) (by assumption) ?rest15_13
                case hy15_13 => intro w hSw; (try dsimp only at hSw); go_simp; (try with_reducible rfl)
                try simp only [Act.put, List.getElem_toArray, List.getElem_cons_succ, List.getElem_cons_zero, List.setIfInBounds_toArray, List.set_cons_zero, List.set_cons_succ]
                refine wpAnyH_done (by kernel_rfl) ?_ _
                refine NoPanic.normal ?_
                have hlen9 : q + 1 + (j - q) = j + 1 := by omega
                rw [hlen9] at oV
                have OV := Lib.hid oV
                have HL9 := Lib.hid hlen9
                have hs9 : w.heap.size ≤ W8.heap.size := s8
                have HP9 := Lib.hid (ins_ok HP1.out (by have := HYL.out; omega : q ≤ ys.length) HC.out hA.out)
                have HPX : Hid ((ys.take q ++ [x] ++ ys.drop q).Pairwise (· ≥ ·) ∧ (ys.take q ++ [x] ++ ys.drop q).Perm (xs.take (j + 1))) := Lib.hid ⟨HP9.out.1, by rw [HX.out, HXV.out]; exact HP9.out.2.trans (HP2.out.append_right _)⟩
                have hbV := hb8.trans (tV.mono (by omega))
                clear oV hlen9 oU oE
                go_wp2_with fail
                go_roundw
                case rel => exact ⟨j + 1, gV, cV9, ys.take q ++ [x] ++ ys.drop q, by omega, by go_num, by first | rfl | (rw [HL9.out]; done), by rw [HL9.out] at *; exact OV.out.base (by omega), HPX.out, hbV⟩
                case measure => simp [intOf]; omega
              · skip
                go_simp
                obtain ⟨B, hB⟩ : ∃ Z9, Z9 = A.alloc (.cells #[.int .i64 x] 3) := ⟨_, rfl⟩
                have bB : Below A.heap.size A B := by rw [hB]; exact ((Below.refl _ _).alloc (Nat.le_refl _) _)
                have sB : B.heap.size ≤ A.heap.size + 1 ∧ A.heap.size + 1 ≤ B.heap.size := by rw [hB]; simp
                have cB : B.cell? ⟨b0, o0 + j, none⟩ = some (.int .i64 x) := (bB.cell (p := ⟨b0, o0 + j, none⟩) (by simp only []; omega)).trans cA
                have iyB := iyA.below bB
                have tB : Below W8.heap.size W8 B := tA.trans (bB.mono (by omega))
                have iX : Ints B (some ⟨A.heap.size, 0, none⟩) 1 [x] := by rw [hB]; exact ints_one A x ⟨by omega, by omega⟩
                have hxb : A.heap.size < B.heap.size := by omega
                rw [← hB]
                refine hK.out _ _ cB (fun hHeld => ?_)
                clear hK K hB
                try simp only [Act.put, List.getElem_toArray, List.getElem_cons_succ, List.getElem_cons_zero, List.setIfInBounds_toArray, List.set_cons_zero, List.set_cons_succ]
                refine wpAnyH_ready (rs := [4]) (by kernel_rfl) (by simp) ?_
                refine AllReadyH.cons rfl (fun K hK => ?_) AllReadyH.nil
                have oEB := oE.below bB
                have iyq := (iyB).takeTo hq
                obtain ⟨gC, cC9, C, hrC, oC, bbC, hgC, hkC⟩ := run_appI B W8.heap.size W8.heap.size 0 0 [] ⟨g, 0, none⟩ q c (ys.take q) 24 oEB (by omega) iyq (by omega) (by omega)
                try simp only [Nat.zero_add, List.nil_append] at hrC oC
                refine step_app hrC (by rfl) (by rfl) (by rfl) (by rfl) (by rfl) ?_
                have iyC : Ints C (some ⟨g, 0, none⟩) j ys := ints_of_block iyB (hkC g (by omega) (by omega))
                have iXC : Ints C (some ⟨A.heap.size, 0, none⟩) 1 [x] := ints_of_block iX (hkC _ (by omega) (by omega))
                have hgC2 : gC ≠ g := by omega
                have tC : Below W8.heap.size W8 C := tB.trans bbC
                have sC := bbC.size
                have cC : C.cell? ⟨b0, o0 + j, none⟩ = some (.int .i64 x) := (tC.cell (p := ⟨b0, o0 + j, none⟩) (by simp only []; omega)).trans c8
                refine hK.out _ _ cC (fun hHeld => ?_)
                clear hK K
                try simp only [Act.put, List.getElem_toArray, List.getElem_cons_succ, List.getElem_cons_zero, List.setIfInBounds_toArray, List.set_cons_zero, List.set_cons_succ]
                have hgC3 := oC.row.lt gC rfl
                refine wpAnyH_ready (rs := [10]) (by kernel_rfl) (by simp) ?_
                refine AllReadyH.cons rfl (fun K hK => ?_) AllReadyH.nil
                obtain ⟨gU, cU9, U, hrU, oU, bbU, hgU, hkU⟩ := run_appI C W8.heap.size gC q cC9 (ys.take q) ⟨A.heap.size, 0, none⟩ 1 1 [x] 24 oC (by omega) iXC (by omega) (by omega)
                try simp only [Nat.zero_add, List.nil_append] at hrU oU
                refine step_app hrU (by rfl) (by rfl) (by rfl) (by rfl) (by rfl) ?_
                have iyU : Ints U (some ⟨g, 0, none⟩) j ys := ints_of_block iyC (hkU g (by omega) (by omega))
                have hgU2 : gU ≠ g := by omega
                have tU : Below W8.heap.size W8 U := tC.trans bbU
                have sU := bbU.size
                have cU : U.cell? ⟨b0, o0 + j, none⟩ = some (.int .i64 x) := (tU.cell (p := ⟨b0, o0 + j, none⟩) (by simp only []; omega)).trans c8
                refine hK.out _ _ cU (fun hHeld => ?_)
                clear hK K
                try simp only [Act.put, List.getElem_toArray, List.getElem_cons_succ, List.getElem_cons_zero, List.setIfInBounds_toArray, List.set_cons_zero, List.set_cons_succ]
                refine wpAnyH_ready (rs := [14]) (by kernel_rfl) (by simp) ?_
                refine AllReadyH.cons rfl (fun K hK => ?_) AllReadyH.nil
                have iyd := hadi U iyU
                obtain ⟨gV, cV9, V, hrV, oV, bbV, hgV, hkV⟩ := run_appI U W8.heap.size gU (q + 1) cU9 (ys.take q ++ [x]) adr (j - q) (c - q) (ys.drop q) 24 oU (by omega) iyd (by omega) (by omega)
                try simp only [Nat.zero_add, List.nil_append] at hrV oV
                refine step_app hrV (by rfl) (by rfl) (by rfl) (by rfl) (by rfl) ?_
                have tV : Below W8.heap.size W8 V := tU.trans bbV
                have sV := bbV.size
                have cV : V.cell? ⟨b0, o0 + j, none⟩ = some (.int .i64 x) := (tV.cell (p := ⟨b0, o0 + j, none⟩) (by simp only []; omega)).trans c8
                refine hK.out _ _ cV (fun hHeld => ?_)
                clear hK K
                try simp only [Act.put, List.getElem_toArray, List.getElem_cons_succ, List.getElem_cons_zero, List.setIfInBounds_toArray, List.set_cons_zero, List.set_cons_succ]
                refine wpAnyH_take (i := 15) (v := ?v15_14) rfl (by kernel_rfl) (by kernel_rfl) (by kernel_rfl) (fun _ _ _ h => h) (Or.inl ⟨by rfl, ?hy15_14⟩) (by assumption) ?rest15_14
                case hy15_14 => intro w hSw; (try dsimp only at hSw); go_simp; (try with_reducible rfl)
                try simp only [Act.put, List.getElem_toArray, List.getElem_cons_succ, List.getElem_cons_zero, List.setIfInBounds_toArray, List.set_cons_zero, List.set_cons_succ]
                refine wpAnyH_done (by kernel_rfl) ?_ _
                refine NoPanic.normal ?_
                have hlen9 : q + 1 + (j - q) = j + 1 := by omega
                rw [hlen9] at oV
                have OV := Lib.hid oV
                have HL9 := Lib.hid hlen9
                have hs9 : w.heap.size ≤ W8.heap.size := s8
                have HP9 := Lib.hid (ins_ok HP1.out (by have := HYL.out; omega : q ≤ ys.length) HC.out hA.out)
                have HPX : Hid ((ys.take q ++ [x] ++ ys.drop q).Pairwise (· ≥ ·) ∧ (ys.take q ++ [x] ++ ys.drop q).Perm (xs.take (j + 1))) := Lib.hid ⟨HP9.out.1, by rw [HX.out, HXV.out]; exact HP9.out.2.trans (HP2.out.append_right _)⟩
                have hbV := hb8.trans (tV.mono (by omega))
                clear oV hlen9 oU oE
                go_wp2_with fail
                go_roundw
                case rel => exact ⟨j + 1, gV, cV9, ys.take q ++ [x] ++ ys.drop q, by omega, by go_num, by first | rfl | (rw [HL9.out]; done), by rw [HL9.out] at *; exact OV.out.base (by omega), HPX.out, hbV⟩
                case measure => simp [intOf]; omega
            · skip
              go_simp
              obtain ⟨A, hA⟩ : ∃ Z9, Z9 = (W8.alloc (.cells #[.int .i64 x] 3)).drew := ⟨_, rfl⟩
              have bA : Below W8.heap.size W8 A := by rw [hA]; exact (((Below.refl _ _).alloc (Nat.le_refl _) _).drew)
              have sA : A.heap.size ≤ W8.heap.size + 1 ∧ W8.heap.size + 1 ≤ A.heap.size := by rw [hA]; simp
              have cA : A.cell? ⟨b0, o0 + j, none⟩ = some (.int .i64 x) := (bA.cell (p := ⟨b0, o0 + j, none⟩) (by simp only []; omega)).trans c8
              have iyA := iy8.below bA
              have tA : Below W8.heap.size W8 A := bA
              have iX : Ints A (some ⟨W8.heap.size, 0, none⟩) 1 [x] := by rw [hA]; exact ints_one W8.drew x ⟨by omega, by omega⟩
              have hxb : W8.heap.size < A.heap.size := by omega
              rw [← hA]
              refine hK.out _ _ cA (fun hHeld => ?_)
              clear hK K hA
              try simp only [Act.put, List.getElem_toArray, List.getElem_cons_succ, List.getElem_cons_zero, List.setIfInBounds_toArray, List.set_cons_zero, List.set_cons_succ]
              refine wpAnyH_ready (rs := [0]) (by kernel_rfl) (by simp) ?_
              refine AllReadyH.cons rfl (fun K hK => ?_) AllReadyH.nil
              go_simp
              obtain ⟨B, hB⟩ : ∃ Z9, Z9 = A.alloc (.cells #[] 3) := ⟨_, rfl⟩
              have bB : Below A.heap.size A B := by rw [hB]; exact ((Below.refl _ _).alloc (Nat.le_refl _) _)
              have sB : B.heap.size ≤ A.heap.size + 1 ∧ A.heap.size + 1 ≤ B.heap.size := by rw [hB]; simp
              have cB : B.cell? ⟨b0, o0 + j, none⟩ = some (.int .i64 x) := (bB.cell (p := ⟨b0, o0 + j, none⟩) (by simp only []; omega)).trans cA
              have iyB := iyA.below bB
              have tB : Below W8.heap.size W8 B := tA.trans (bB.mono (by omega))
              have oE : OwnInts W8.heap.size B (.slice (some ⟨A.heap.size, 0, none⟩) 0 0) 0 [] := by rw [hB]; exact own_empty (W := A) (by omega)
              rw [← hB]
              refine hK.out _ _ cB (fun hHeld => ?_)
              clear hK K hB
              try simp only [Act.put, List.getElem_toArray, List.getElem_cons_succ, List.getElem_cons_zero, List.setIfInBounds_toArray, List.set_cons_zero, List.set_cons_succ]
              refine wpAnyH_ready (rs := [4]) (by kernel_rfl) (by simp) ?_
              refine AllReadyH.cons rfl (fun K hK => ?_) AllReadyH.nil
              have iXB := iX.below bB
              have iyq := (iyB).takeTo hq
              obtain ⟨gC, cC9, C, hrC, oC, bbC, hgC, hkC⟩ := run_appI B W8.heap.size A.heap.size 0 0 [] ⟨g, 0, none⟩ q c (ys.take q) 24 oE (by omega) iyq (by omega) (by omega)
              try simp only [Nat.zero_add, List.nil_append] at hrC oC
              refine step_app hrC (by rfl) (by rfl) (by rfl) (by rfl) (by rfl) ?_
              have iyC : Ints C (some ⟨g, 0, none⟩) j ys := ints_of_block iyB (hkC g (by omega) (by omega))
              have iXC : Ints C (some ⟨W8.heap.size, 0, none⟩) 1 [x] := ints_of_block iXB (hkC _ (by omega) (by omega))
              have hgC2 : gC ≠ g := by omega
              have tC : Below W8.heap.size W8 C := tB.trans bbC
              have sC := bbC.size
              have cC : C.cell? ⟨b0, o0 + j, none⟩ = some (.int .i64 x) := (tC.cell (p := ⟨b0, o0 + j, none⟩) (by simp only []; omega)).trans c8
              refine hK.out _ _ cC (fun hHeld => ?_)
              clear hK K
              try simp only [Act.put, List.getElem_toArray, List.getElem_cons_succ, List.getElem_cons_zero, List.setIfInBounds_toArray, List.set_cons_zero, List.set_cons_succ]
              have hgC3 := oC.row.lt gC rfl
              refine wpAnyH_ready (rs := [10]) (by kernel_rfl) (by simp) ?_
              refine AllReadyH.cons rfl (fun K hK => ?_) AllReadyH.nil
              obtain ⟨gU, cU9, U, hrU, oU, bbU, hgU, hkU⟩ := run_appI C W8.heap.size gC q cC9 (ys.take q) ⟨W8.heap.size, 0, none⟩ 1 1 [x] 24 oC (by omega) iXC (by omega) (by omega)
              try simp only [Nat.zero_add, List.nil_append] at hrU oU
              refine step_app hrU (by rfl) (by rfl) (by rfl) (by rfl) (by rfl) ?_
              have iyU : Ints U (some ⟨g, 0, none⟩) j ys := ints_of_block iyC (hkU g (by omega) (by omega))
              have hgU2 : gU ≠ g := by omega
              have tU : Below W8.heap.size W8 U := tC.trans bbU
              have sU := bbU.size
              have cU : U.cell? ⟨b0, o0 + j, none⟩ = some (.int .i64 x) := (tU.cell (p := ⟨b0, o0 + j, none⟩) (by simp only []; omega)).trans c8
              refine hK.out _ _ cU (fun hHeld => ?_)
              clear hK K
              try simp only [Act.put, List.getElem_toArray, List.getElem_cons_succ, List.getElem_cons_zero, List.setIfInBounds_toArray, List.set_cons_zero, List.set_cons_succ]
              refine wpAnyH_ready (rs := [14]) (by kernel_rfl) (by simp) ?_
              refine AllReadyH.cons rfl (fun K hK => ?_) AllReadyH.nil
              have iyd := hadi U iyU
              obtain ⟨gV, cV9, V, hrV, oV, bbV, hgV, hkV⟩ := run_appI U W8.heap.size gU (q + 1) cU9 (ys.take q ++ [x]) adr (j - q) (c - q) (ys.drop q) 24 oU (by omega) iyd (by omega) (by omega)
              try simp only [Nat.zero_add, List.nil_append] at hrV oV
              refine step_app hrV (by rfl) (by rfl) (by rfl) (by rfl) (by rfl) ?_
              have tV : Below W8.heap.size W8 V := tU.trans bbV
              have sV := bbV.size
              have cV : V.cell? ⟨b0, o0 + j, none⟩ = some (.int .i64 x) := (tV.cell (p := ⟨b0, o0 + j, none⟩) (by simp only []; omega)).trans c8
              refine hK.out _ _ cV (fun hHeld => ?_)
              clear hK K
              try simp only [Act.put, List.getElem_toArray, List.getElem_cons_succ, List.getElem_cons_zero, List.setIfInBounds_toArray, List.set_cons_zero, List.set_cons_succ]
              refine wpAnyH_take (i := 15) (v := ?v15_15) rfl (by kernel_rfl) (by kernel_rfl) (by kernel_rfl) (fun _ _ _ h => h) (Or.inl ⟨by rfl, ?hy15_15⟩) (by assumption) ?rest15_15
              case hy15_15 => intro w hSw; (try dsimp only at hSw); go_simp; (try with_reducible rfl)
              try simp only [Act.put, List.getElem_toArray, List.getElem_cons_succ, List.getElem_cons_zero, List.setIfInBounds_toArray, List.set_cons_zero, List.set_cons_succ]
              refine wpAnyH_done (by kernel_rfl) ?_ _
              refine NoPanic.normal ?_
              have hlen9 : q + 1 + (j - q) = j + 1 := by omega
              rw [hlen9] at oV
              have OV := Lib.hid oV
              have HL9 := Lib.hid hlen9
              have hs9 : w.heap.size ≤ W8.heap.size := s8
              have HP9 := Lib.hid (ins_ok HP1.out (by have := HYL.out; omega : q ≤ ys.length) HC.out hA.out)
              have HPX : Hid ((ys.take q ++ [x] ++ ys.drop q).Pairwise (· ≥ ·) ∧ (ys.take q ++ [x] ++ ys.drop q).Perm (xs.take (j + 1))) := Lib.hid ⟨HP9.out.1, by rw [HX.out, HXV.out]; exact HP9.out.2.trans (HP2.out.append_right _)⟩
              have hbV := hb8.trans (tV.mono (by omega))
              clear oV hlen9 oU oE
              go_wp2_with fail
              go_roundw
              case rel => exact ⟨j + 1, gV, cV9, ys.take q ++ [x] ++ ys.drop q, by omega, by go_num, by first | rfl | (rw [HL9.out]; done), by rw [HL9.out] at *; exact OV.out.base (by omega), HPX.out, hbV⟩
              case measure => simp [intOf]; omega
          · go_wp2_with fail
            refine wp_region_quiet_lit (by kernel_rfl) (by kernel_rfl) ?_
            repeat (go_big_quiet_step (fail))
            refine wpQuiet_nil ?_
            intro W8 hW8
            replace hW8 : Drew wr W8 := hW8
            have c8 := (hW8.cell _).trans c0
            replace hW8 : Drew wo W8 := hdd9.trans hW8
            have hb8 := onD hdr hW8
            have own8 := hown.below (hW8.below _)
            have iy8 := own8.ints
            have s8 := hb8.size
            have hgl8 := own8.row.lt g rfl
            have hjl : (j : Int) ≤ (c : Int) := by omega
            have hqj : (q : Int) ≤ (j : Int) := by omega
            have HYL := Lib.hid hyl
            clear hg1 hdd hdd9 hyl
            go_wp2_with fail
            refine wp_region_noPanic ?_
            refine wp_region_held_drew (S := (fun W => W.cell? ⟨b0, o0 + j, none⟩ = some (.int .i64 x))) (by kernel_rfl) ?hS16 (fun hHeld => ?_)
            case hS16 => exact c8
            refine wpAnyH_take (i := 1) (v := ?v1_17) rfl (by kernel_rfl) (by kernel_rfl) (by kernel_rfl) (fun _ _ _ h => h) (Or.inl ⟨by rfl, ?hy1_17⟩) (by assumption) ?rest1_17
            case hy1_17 => intro w hSw; (try dsimp only at hSw); go_simp; (try with_reducible rfl)
            try simp only [Act.put, List.getElem_toArray, List.getElem_cons_succ, List.getElem_cons_zero, List.setIfInBounds_toArray, List.set_cons_zero, List.set_cons_succ]
            refine wpAnyH_take (i := 2) (v := ?v2_18) rfl (by kernel_rfl) (by kernel_rfl) (by kernel_rfl) (fun _ _ _ h => h) (Or.inl ⟨by rfl, ?hy2_18⟩) (by assumption) ?rest2_18
            case hy2_18 => intro w hSw; (try dsimp only at hSw); go_simp; (try with_reducible rfl)
            try simp only [Act.put, List.getElem_toArray, List.getElem_cons_succ, List.getElem_cons_zero, List.setIfInBounds_toArray, List.set_cons_zero, List.set_cons_succ]
            refine wpAnyH_take (i := 3) (v := ?v3_19) rfl (by kernel_rfl) (by kernel_rfl) (by kernel_rfl) (fun _ _ _ h => h) (Or.inl ⟨by rfl, ?hy3_19⟩) (by assumption) ?rest3_19
            case hy3_19 => intro w hSw; (try dsimp only at hSw); go_simp; (try with_reducible rfl)
            try simp only [Act.put, List.getElem_toArray, List.getElem_cons_succ, List.getElem_cons_zero, List.setIfInBounds_toArray, List.set_cons_zero, List.set_cons_succ]
            refine wpAnyH_take (i := 5) (v := ?v5_20) rfl (by kernel_rfl) (by kernel_rfl) (by kernel_rfl) (fun _ _ _ h => h) (Or.inl ⟨by rfl, ?hy5_20⟩) (by assumption) ?rest5_20
            case hy5_20 => intro w hSw; (try dsimp only at hSw); go_simp; (try with_reducible rfl)
            try simp only [Act.put, List.getElem_toArray, List.getElem_cons_succ, List.getElem_cons_zero, List.setIfInBounds_toArray, List.set_cons_zero, List.set_cons_succ]
            refine wpAnyH_take (i := 6) (v := ?v6_21) rfl (by kernel_rfl) (by kernel_rfl) (by kernel_rfl) (fun _ _ _ h => h) (Or.inl ⟨by rfl, ?hy6_21⟩) (by assumption) ?rest6_21
            case hy6_21 => intro w hSw; (try dsimp only at hSw); go_simp; (try with_reducible rfl)
            try simp only [Act.put, List.getElem_toArray, List.getElem_cons_succ, List.getElem_cons_zero, List.setIfInBounds_toArray, List.set_cons_zero, List.set_cons_succ]
            refine wpAnyH_take (i := 7) (v := ?v7_22) rfl (by kernel_rfl) (by kernel_rfl) (by kernel_rfl) (fun _ _ _ h => h) (Or.inl ⟨by rfl, ?hy7_22⟩) (by assumption) ?rest7_22
            case hy7_22 => intro w hSw; (try dsimp only at hSw); go_simp; (try with_reducible rfl)
            try simp only [Act.put, List.getElem_toArray, List.getElem_cons_succ, List.getElem_cons_zero, List.setIfInBounds_toArray, List.set_cons_zero, List.set_cons_succ]
            refine wpAnyH_take (i := 8) (v := ?v8_23) rfl (by kernel_rfl) (by kernel_rfl) (by kernel_rfl) (fun _ _ _ h => h) (Or.inl ⟨by rfl, ?hy8_23⟩) (by assumption) ?rest8_23
            case hy8_23 => intro w hSw; (try dsimp only at hSw); go_simp; (try with_reducible rfl)
            try simp only [Act.put, List.getElem_toArray, List.getElem_cons_succ, List.getElem_cons_zero, List.setIfInBounds_toArray, List.set_cons_zero, List.set_cons_succ]
            refine wpAnyH_take (i := 11) (v := ?v11_24) rfl (by kernel_rfl) (by kernel_rfl) (by kernel_rfl) (fun _ _ _ h => h) (Or.inl ⟨by rfl, ?hy11_24⟩) (by assumption) ?rest11_24
            case hy11_24 => intro w hSw; (try dsimp only at hSw); go_simp; (try with_reducible rfl)
            try simp only [Act.put, List.getElem_toArray, List.getElem_cons_succ, List.getElem_cons_zero, List.setIfInBounds_toArray, List.set_cons_zero, List.set_cons_succ]
            refine wpAnyH_take (i := 12) (v := ?v12_25) rfl (by kernel_rfl) (by kernel_rfl) (by kernel_rfl) (fun _ _ _ h => h) (Or.inl ⟨by rfl, ?hy12_25⟩) (by assumption) ?rest12_25
            case hy12_25 => intro w hSw; (try dsimp only at hSw); go_simp; (try with_reducible rfl)
            try simp only [Act.put, List.getElem_toArray, List.getElem_cons_succ, List.getElem_cons_zero, List.setIfInBounds_toArray, List.set_cons_zero, List.set_cons_succ]
            refine wpAnyH_take (i := 13) (v := ?v13_26) rfl (by kernel_rfl) (by kernel_rfl) (by kernel_rfl) (fun _ _ _ h => h) (Or.inl ⟨by rfl, ?hy13_26⟩) (by assumption) ?rest13_26
            case hy13_26 => intro w hSw; (try dsimp only at hSw); go_simp; (try with_reducible rfl)
            try simp only [Act.put, List.getElem_toArray, List.getElem_cons_succ, List.getElem_cons_zero, List.setIfInBounds_toArray, List.set_cons_zero, List.set_cons_succ]
            obtain ⟨adr, hadr, hadi⟩ : ∃ adr : Addr, (if c = q then some (⟨g, 0, none⟩ : Addr) else some ⟨g, q, none⟩) = some adr ∧ ∀ W, Ints W (some ⟨g, 0, none⟩) j ys → Ints W (some adr) (j - q) (ys.drop q) := slice_end hq (by omega)
            rw [hadr]
            clear hadr
            refine wpAnyH_ready (rs := [0, 9]) (by kernel_rfl) (by simp) ?_
            refine AllReadyH.cons rfl (fun K hK => ?_) (AllReadyH.cons rfl (fun K hK => ?_) AllReadyH.nil)
            · skip
              go_simp
              obtain ⟨A, hA⟩ : ∃ Z9, Z9 = (W8.alloc (.cells #[] 3)).drew := ⟨_, rfl⟩
              have bA : Below W8.heap.size W8 A := by rw [hA]; exact (((Below.refl _ _).alloc (Nat.le_refl _) _).drew)
              have sA : A.heap.size ≤ W8.heap.size + 1 ∧ W8.heap.size + 1 ≤ A.heap.size := by rw [hA]; simp
              have cA : A.cell? ⟨b0, o0 + j, none⟩ = some (.int .i64 x) := (bA.cell (p := ⟨b0, o0 + j, none⟩) (by simp only []; omega)).trans c8
              have iyA := iy8.below bA
              have tA : Below W8.heap.size W8 A := bA
              have oE : OwnInts W8.heap.size A (.slice (some ⟨W8.heap.size, 0, none⟩) 0 0) 0 [] := by rw [hA]; exact own_empty (W := W8.drew) (Nat.le_refl _)
              rw [← hA]
              refine hK.out _ _ cA (fun hHeld => ?_)
              clear hK K hA
              try simp only [Act.put, List.getElem_toArray, List.getElem_cons_succ, List.getElem_cons_zero, List.setIfInBounds_toArray, List.set_cons_zero, List.set_cons_succ]
              refine wpAnyH_ready (rs := [4, 9]) (by kernel_rfl) (by simp) ?_
              refine AllReadyH.cons rfl (fun K hK => ?_) (AllReadyH.cons rfl (fun K hK => ?_) AllReadyH.nil)
              · skip
                have iyq := (iyA).takeTo hq
                obtain ⟨gB, cB9, B, hrB, oB, bbB, hgB, hkB⟩ := run_appI A W8.heap.size W8.heap.size 0 0 [] ⟨g, 0, none⟩ q c (ys.take q) 24 oE (by omega) iyq (by omega) (by omega)
                try simp only [Nat.zero_add, List.nil_append] at hrB oB
                refine step_app hrB (by rfl) (by rfl) (by rfl) (by rfl) (by rfl) ?_
                have iyB : Ints B (some ⟨g, 0, none⟩) j ys := ints_of_block iyA (hkB g (by omega) (by omega))
                have hgB2 : gB ≠ g := by omega
                have tB : Below W8.heap.size W8 B := tA.trans bbB
                have sB := bbB.size
                have cB : B.cell? ⟨b0, o0 + j, none⟩ = some (.int .i64 x) := (tB.cell (p := ⟨b0, o0 + j, none⟩) (by simp only []; omega)).trans c8
                refine hK.out _ _ cB (fun hHeld => ?_)
                clear hK K
                try simp only [Act.put, List.getElem_toArray, List.getElem_cons_succ, List.getElem_cons_zero, List.setIfInBounds_toArray, List.set_cons_zero, List.set_cons_succ]
                refine wpAnyH_ready (rs := [9]) (by kernel_rfl) (by simp) ?_
                refine AllReadyH.cons rfl (fun K hK => ?_) AllReadyH.nil
                go_simp
                obtain ⟨C, hC⟩ : ∃ Z9, Z9 = B.alloc (.cells #[.int .i64 x] 3) := ⟨_, rfl⟩
                have bC : Below B.heap.size B C := by rw [hC]; exact ((Below.refl _ _).alloc (Nat.le_refl _) _)
                have sC : C.heap.size ≤ B.heap.size + 1 ∧ B.heap.size + 1 ≤ C.heap.size := by rw [hC]; simp
                have cC : C.cell? ⟨b0, o0 + j, none⟩ = some (.int .i64 x) := (bC.cell (p := ⟨b0, o0 + j, none⟩) (by simp only []; omega)).trans cB
                have iyC := iyB.below bC
                have tC : Below W8.heap.size W8 C := tB.trans (bC.mono (by omega))
                have iX : Ints C (some ⟨B.heap.size, 0, none⟩) 1 [x] := by rw [hC]; exact ints_one B x ⟨by omega, by omega⟩
                have hxb : B.heap.size < C.heap.size := by omega
                rw [← hC]
                refine hK.out _ _ cC (fun hHeld => ?_)
                clear hK K hC
                try simp only [Act.put, List.getElem_toArray, List.getElem_cons_succ, List.getElem_cons_zero, List.setIfInBounds_toArray, List.set_cons_zero, List.set_cons_succ]
                have oC := oB.below bC
                have hgB3 := oB.row.lt gB rfl
                refine wpAnyH_ready (rs := [10]) (by kernel_rfl) (by simp) ?_
                refine AllReadyH.cons rfl (fun K hK => ?_) AllReadyH.nil
                obtain ⟨gU, cU9, U, hrU, oU, bbU, hgU, hkU⟩ := run_appI C W8.heap.size gB q cB9 (ys.take q) ⟨B.heap.size, 0, none⟩ 1 1 [x] 24 oC (by omega) iX (by omega) (by omega)
                try simp only [Nat.zero_add, List.nil_append] at hrU oU
                refine step_app hrU (by rfl) (by rfl) (by rfl) (by rfl) (by rfl) ?_
                have iyU : Ints U (some ⟨g, 0, none⟩) j ys := ints_of_block iyC (hkU g (by omega) (by omega))
                have hgU2 : gU ≠ g := by omega
                have tU : Below W8.heap.size W8 U := tC.trans bbU
                have sU := bbU.size
                have cU : U.cell? ⟨b0, o0 + j, none⟩ = some (.int .i64 x) := (tU.cell (p := ⟨b0, o0 + j, none⟩) (by simp only []; omega)).trans c8
                refine hK.out _ _ cU (fun hHeld => ?_)
                clear hK K
                try simp only [Act.put, List.getElem_toArray, List.getElem_cons_succ, List.getElem_cons_zero, List.setIfInBounds_toArray, List.set_cons_zero, List.set_cons_succ]
                refine wpAnyH_ready (rs := [14]) (by kernel_rfl) (by simp) ?_
                refine AllReadyH.cons rfl (fun K hK => ?_) AllReadyH.nil
                have iyd := hadi U iyU
                obtain ⟨gV, cV9, V, hrV, oV, bbV, hgV, hkV⟩ := run_appI U W8.heap.size gU (q + 1) cU9 (ys.take q ++ [x]) adr (j - q) (c - q) (ys.drop q) 24 oU (by omega) iyd (by omega) (by omega)
                try simp only [Nat.zero_add, List.nil_append] at hrV oV
                refine step_app hrV (by rfl) (by rfl) (by rfl) (by rfl) (by rfl) ?_
                have tV : Below W8.heap.size W8 V := tU.trans bbV
                have sV := bbV.size
                have cV : V.cell? ⟨b0, o0 + j, none⟩ = some (.int .i64 x) := (tV.cell (p := ⟨b0, o0 + j, none⟩) (by simp only []; omega)).trans c8
                refine hK.out _ _ cV (fun hHeld => ?_)
                clear hK K
                try simp only [Act.put, List.getElem_toArray, List.getElem_cons_succ, List.getElem_cons_zero, List.setIfInBounds_toArray, List.set_cons_zero, List.set_cons_succ]
                refine wpAnyH_take (i := 15) (v := ?v15_27) rfl (by kernel_rfl) (by kernel_rfl) (by kernel_rfl) (fun _ _ _ h => h) (Or.inl ⟨by rfl, ?hy15_27⟩) (by assumption) ?rest15_27
                case hy15_27 => intro w hSw; (try dsimp only at hSw); go_simp; (try with_reducible rfl)
                try simp only [Act.put, List.getElem_toArray, List.getElem_cons_succ, List.getElem_cons_zero, List.setIfInBounds_toArray, List.set_cons_zero, List.set_cons_succ]
                refine wpAnyH_done (by kernel_rfl) ?_ _
                refine NoPanic.normal ?_
                have hlen9 : q + 1 + (j - q) = j + 1 := by omega
                rw [hlen9] at oV
                have OV := Lib.hid oV
                have HL9 := Lib.hid hlen9
                have hs9 : w.heap.size ≤ W8.heap.size := s8
                have HP9 := Lib.hid (ins_ok HP1.out (by have := HYL.out; omega : q ≤ ys.length) HC.out hA.out)
                have HPX : Hid ((ys.take q ++ [x] ++ ys.drop q).Pairwise (· ≥ ·) ∧ (ys.take q ++ [x] ++ ys.drop q).Perm (xs.take (j + 1))) := Lib.hid ⟨HP9.out.1, by rw [HX.out, HXV.out]; exact HP9.out.2.trans (HP2.out.append_right _)⟩
                have hbV := hb8.trans (tV.mono (by omega))
                clear oV hlen9 oU oE
                go_wp2_with fail
                go_roundw
                case rel => exact ⟨j + 1, gV, cV9, ys.take q ++ [x] ++ ys.drop q, by omega, by go_num, by first | rfl | (rw [HL9.out]; done), by rw [HL9.out] at *; exact OV.out.base (by omega), HPX.out, hbV⟩
                case measure => simp [intOf]; omega
              · skip
                go_simp
                obtain ⟨B, hB⟩ : ∃ Z9, Z9 = A.alloc (.cells #[.int .i64 x] 3) := ⟨_, rfl⟩
                have bB : Below A.heap.size A B := by rw [hB]; exact ((Below.refl _ _).alloc (Nat.le_refl _) _)
                have sB : B.heap.size ≤ A.heap.size + 1 ∧ A.heap.size + 1 ≤ B.heap.size := by rw [hB]; simp
                have cB : B.cell? ⟨b0, o0 + j, none⟩ = some (.int .i64 x) := (bB.cell (p := ⟨b0, o0 + j, none⟩) (by simp only []; omega)).trans cA
                have iyB := iyA.below bB
                have tB : Below W8.heap.size W8 B := tA.trans (bB.mono (by omega))
                have iX : Ints B (some ⟨A.heap.size, 0, none⟩) 1 [x] := by rw [hB]; exact ints_one A x ⟨by omega, by omega⟩
                have hxb : A.heap.size < B.heap.size := by omega
                rw [← hB]
                refine hK.out _ _ cB (fun hHeld => ?_)
                clear hK K hB
                try simp only [Act.put, List.getElem_toArray, List.getElem_cons_succ, List.getElem_cons_zero, List.setIfInBounds_toArray, List.set_cons_zero, List.set_cons_succ]
                refine wpAnyH_ready (rs := [4]) (by kernel_rfl) (by simp) ?_
                refine AllReadyH.cons rfl (fun K hK => ?_) AllReadyH.nil
                have oEB := oE.below bB
                have iyq := (iyB).takeTo hq
                obtain ⟨gC, cC9, C, hrC, oC, bbC, hgC, hkC⟩ := run_appI B W8.heap.size W8.heap.size 0 0 [] ⟨g, 0, none⟩ q c (ys.take q) 24 oEB (by omega) iyq (by omega) (by omega)
                try simp only [Nat.zero_add, List.nil_append] at hrC oC
                refine step_app hrC (by rfl) (by rfl) (by rfl) (by rfl) (by rfl) ?_
                have iyC : Ints C (some ⟨g, 0, none⟩) j ys := ints_of_block iyB (hkC g (by omega) (by omega))
                have iXC : Ints C (some ⟨A.heap.size, 0, none⟩) 1 [x] := ints_of_block iX (hkC _ (by omega) (by omega))
                have hgC2 : gC ≠ g := by omega
                have tC : Below W8.heap.size W8 C := tB.trans bbC
                have sC := bbC.size
                have cC : C.cell? ⟨b0, o0 + j, none⟩ = some (.int .i64 x) := (tC.cell (p := ⟨b0, o0 + j, none⟩) (by simp only []; omega)).trans c8
                refine hK.out _ _ cC (fun hHeld => ?_)
                clear hK K
                try simp only [Act.put, List.getElem_toArray, List.getElem_cons_succ, List.getElem_cons_zero, List.setIfInBounds_toArray, List.set_cons_zero, List.set_cons_succ]
                have hgC3 := oC.row.lt gC rfl
                refine wpAnyH_ready (rs := [10]) (by kernel_rfl) (by simp) ?_
                refine AllReadyH.cons rfl (fun K hK => ?_) AllReadyH.nil
                obtain ⟨gU, cU9, U, hrU, oU, bbU, hgU, hkU⟩ := run_appI C W8.heap.size gC q cC9 (ys.take q) ⟨A.heap.size, 0, none⟩ 1 1 [x] 24 oC (by omega) iXC (by omega) (by omega)
                try simp only [Nat.zero_add, List.nil_append] at hrU oU
                refine step_app hrU (by rfl) (by rfl) (by rfl) (by rfl) (by rfl) ?_
                have iyU : Ints U (some ⟨g, 0, none⟩) j ys := ints_of_block iyC (hkU g (by omega) (by omega))
                have hgU2 : gU ≠ g := by omega
                have tU : Below W8.heap.size W8 U := tC.trans bbU
                have sU := bbU.size
                have cU : U.cell? ⟨b0, o0 + j, none⟩ = some (.int .i64 x) := (tU.cell (p := ⟨b0, o0 + j, none⟩) (by simp only []; omega)).trans c8
                refine hK.out _ _ cU (fun hHeld => ?_)
                clear hK K
                try simp only [Act.put, List.getElem_toArray, List.getElem_cons_succ, List.getElem_cons_zero, List.setIfInBounds_toArray, List.set_cons_zero, List.set_cons_succ]
                refine wpAnyH_ready (rs := [14]) (by kernel_rfl) (by simp) ?_
                refine AllReadyH.cons rfl (fun K hK => ?_) AllReadyH.nil
                have iyd := hadi U iyU
                obtain ⟨gV, cV9, V, hrV, oV, bbV, hgV, hkV⟩ := run_appI U W8.heap.size gU (q + 1) cU9 (ys.take q ++ [x]) adr (j - q) (c - q) (ys.drop q) 24 oU (by omega) iyd (by omega) (by omega)
                try simp only [Nat.zero_add, List.nil_append] at hrV oV
                refine step_app hrV (by rfl) (by rfl) (by rfl) (by rfl) (by rfl) ?_
                have tV : Below W8.heap.size W8 V := tU.trans bbV
                have sV := bbV.size
                have cV : V.cell? ⟨b0, o0 + j, none⟩ = some (.int .i64 x) := (tV.cell (p := ⟨b0, o0 + j, none⟩) (by simp only []; omega)).trans c8
                refine hK.out _ _ cV (fun hHeld => ?_)
                clear hK K
                try simp only [Act.put, List.getElem_toArray, List.getElem_cons_succ, List.getElem_cons_zero, List.setIfInBounds_toArray, List.set_cons_zero, List.set_cons_succ]
                refine wpAnyH_take (i := 15) (v := ?v15_28) rfl (by kernel_rfl) (by kernel_rfl) (by kernel_rfl) (fun _ _ _ h => h) (Or.inl ⟨by rfl, ?hy15_28⟩) (by assumption) ?rest15_28
                case hy15_28 => intro w hSw; (try dsimp only at hSw); go_simp; (try with_reducible rfl)
                try simp only [Act.put, List.getElem_toArray, List.getElem_cons_succ, List.getElem_cons_zero, List.setIfInBounds_toArray, List.set_cons_zero, List.set_cons_succ]
                refine wpAnyH_done (by kernel_rfl) ?_ _
                refine NoPanic.normal ?_
                have hlen9 : q + 1 + (j - q) = j + 1 := by omega
                rw [hlen9] at oV
                have OV := Lib.hid oV
                have HL9 := Lib.hid hlen9
                have hs9 : w.heap.size ≤ W8.heap.size := s8
                have HP9 := Lib.hid (ins_ok HP1.out (by have := HYL.out; omega : q ≤ ys.length) HC.out hA.out)
                have HPX : Hid ((ys.take q ++ [x] ++ ys.drop q).Pairwise (· ≥ ·) ∧ (ys.take q ++ [x] ++ ys.drop q).Perm (xs.take (j + 1))) := Lib.hid ⟨HP9.out.1, by rw [HX.out, HXV.out]; exact HP9.out.2.trans (HP2.out.append_right _)⟩
                have hbV := hb8.trans (tV.mono (by omega))
                clear oV hlen9 oU oE
                go_wp2_with fail
                go_roundw
                case rel => exact ⟨j + 1, gV, cV9, ys.take q ++ [x] ++ ys.drop q, by omega, by go_num, by first | rfl | (rw [HL9.out]; done), by rw [HL9.out] at *; exact OV.out.base (by omega), HPX.out, hbV⟩
                case measure => simp [intOf]; omega
            · skip
              go_simp
              obtain ⟨A, hA⟩ : ∃ Z9, Z9 = (W8.alloc (.cells #[.int .i64 x] 3)).drew := ⟨_, rfl⟩
              have bA : Below W8.heap.size W8 A := by rw [hA]; exact (((Below.refl _ _).alloc (Nat.le_refl _) _).drew)
              have sA : A.heap.size ≤ W8.heap.size + 1 ∧ W8.heap.size + 1 ≤ A.heap.size := by rw [hA]; simp
              have cA : A.cell? ⟨b0, o0 + j, none⟩ = some (.int .i64 x) := (bA.cell (p := ⟨b0, o0 + j, none⟩) (by simp only []; omega)).trans c8
              have iyA := iy8.below bA
              have tA : Below W8.heap.size W8 A := bA
              have iX : Ints A (some ⟨W8.heap.size, 0, none⟩) 1 [x] := by rw [hA]; exact ints_one W8.drew x ⟨by omega, by omega⟩
              have hxb : W8.heap.size < A.heap.size := by omega
              rw [← hA]
              refine hK.out _ _ cA (fun hHeld => ?_)
              clear hK K hA
              try simp only [Act.put, List.getElem_toArray, List.getElem_cons_succ, List.getElem_cons_zero, List.setIfInBounds_toArray, List.set_cons_zero, List.set_cons_succ]
              refine wpAnyH_ready (rs := [0]) (by kernel_rfl) (by simp) ?_
              refine AllReadyH.cons rfl (fun K hK => ?_) AllReadyH.nil
              go_simp
              obtain ⟨B, hB⟩ : ∃ Z9, Z9 = A.alloc (.cells #[] 3) := ⟨_, rfl⟩
              have bB : Below A.heap.size A B := by rw [hB]; exact ((Below.refl _ _).alloc (Nat.le_refl _) _)
              have sB : B.heap.size ≤ A.heap.size + 1 ∧ A.heap.size + 1 ≤ B.heap.size := by rw [hB]; simp
              have cB : B.cell? ⟨b0, o0 + j, none⟩ = some (.int .i64 x) := (bB.cell (p := ⟨b0, o0 + j, none⟩) (by simp only []; omega)).trans cA
              have iyB := iyA.below bB
              have tB : Below W8.heap.size W8 B := tA.trans (bB.mono (by omega))
              have oE : OwnInts W8.heap.size B (.slice (some ⟨A.heap.size, 0, none⟩) 0 0) 0 [] := by rw [hB]; exact own_empty (W := A) (by omega)
              rw [← hB]
              refine hK.out _ _ cB (fun hHeld => ?_)
              clear hK K hB
              try simp only [Act.put, List.getElem_toArray, List.getElem_cons_succ, List.getElem_cons_zero, List.setIfInBounds_toArray, List.set_cons_zero, List.set_cons_succ]
              refine wpAnyH_ready (rs := [4]) (by kernel_rfl) (by simp) ?_
              refine AllReadyH.cons rfl (fun K hK => ?_) AllReadyH.nil
              have iXB := iX.below bB
              have iyq := (iyB).takeTo hq
              obtain ⟨gC, cC9, C, hrC, oC, bbC, hgC, hkC⟩ := run_appI B W8.heap.size A.heap.size 0 0 [] ⟨g, 0, none⟩ q c (ys.take q) 24 oE (by omega) iyq (by omega) (by omega)
              try simp only [Nat.zero_add, List.nil_append] at hrC oC
              refine step_app hrC (by rfl) (by rfl) (by rfl) (by rfl) (by rfl) ?_
              have iyC : Ints C (some ⟨g, 0, none⟩) j ys := ints_of_block iyB (hkC g (by omega) (by omega))
              have iXC : Ints C (some ⟨W8.heap.size, 0, none⟩) 1 [x] := ints_of_block iXB (hkC _ (by omega) (by omega))
              have hgC2 : gC ≠ g := by omega
              have tC : Below W8.heap.size W8 C := tB.trans bbC
              have sC := bbC.size
              have cC : C.cell? ⟨b0, o0 + j, none⟩ = some (.int .i64 x) := (tC.cell (p := ⟨b0, o0 + j, none⟩) (by simp only []; omega)).trans c8
              refine hK.out _ _ cC (fun hHeld => ?_)
              clear hK K
              try simp only [Act.put, List.getElem_toArray, List.getElem_cons_succ, List.getElem_cons_zero, List.setIfInBounds_toArray, List.set_cons_zero, List.set_cons_succ]
              have hgC3 := oC.row.lt gC rfl
              refine wpAnyH_ready (rs := [10]) (by kernel_rfl) (by simp) ?_
              refine AllReadyH.cons rfl (fun K hK => ?_) AllReadyH.nil
              obtain ⟨gU, cU9, U, hrU, oU, bbU, hgU, hkU⟩ := run_appI C W8.heap.size gC q cC9 (ys.take q) ⟨W8.heap.size, 0, none⟩ 1 1 [x] 24 oC (by omega) iXC (by omega) (by omega)
              try simp only [Nat.zero_add, List.nil_append] at hrU oU
              refine step_app hrU (by rfl) (by rfl) (by rfl) (by rfl) (by rfl) ?_
              have iyU : Ints U (some ⟨g, 0, none⟩) j ys := ints_of_block iyC (hkU g (by omega) (by omega))
              have hgU2 : gU ≠ g := by omega
              have tU : Below W8.heap.size W8 U := tC.trans bbU
              have sU := bbU.size
              have cU : U.cell? ⟨b0, o0 + j, none⟩ = some (.int .i64 x) := (tU.cell (p := ⟨b0, o0 + j, none⟩) (by simp only []; omega)).trans c8
              refine hK.out _ _ cU (fun hHeld => ?_)
              clear hK K
              try simp only [Act.put, List.getElem_toArray, List.getElem_cons_succ, List.getElem_cons_zero, List.setIfInBounds_toArray, List.set_cons_zero, List.set_cons_succ]
              refine wpAnyH_ready (rs := [14]) (by kernel_rfl) (by simp) ?_
              refine AllReadyH.cons rfl (fun K hK => ?_) AllReadyH.nil
              have iyd := hadi U iyU
              obtain ⟨gV, cV9, V, hrV, oV, bbV, hgV, hkV⟩ := run_appI U W8.heap.size gU (q + 1) cU9 (ys.take q ++ [x]) adr (j - q) (c - q) (ys.drop q) 24 oU (by omega) iyd (by omega) (by omega)
              try simp only [Nat.zero_add, List.nil_append] at hrV oV
              refine step_app hrV (by rfl) (by rfl) (by rfl) (by rfl) (by rfl) ?_
              have tV : Below W8.heap.size W8 V := tU.trans bbV
              have sV := bbV.size
              have cV : V.cell? ⟨b0, o0 + j, none⟩ = some (.int .i64 x) := (tV.cell (p := ⟨b0, o0 + j, none⟩) (by simp only []; omega)).trans c8
              refine hK.out _ _ cV (fun hHeld => ?_)
              clear hK K
              try simp only [Act.put, List.getElem_toArray, List.getElem_cons_succ, List.getElem_cons_zero, List.setIfInBounds_toArray, List.set_cons_zero, List.set_cons_succ]
              refine wpAnyH_take (i := 15) (v := ?v15_29) rfl (by kernel_rfl) (by kernel_rfl) (by kernel_rfl) (fun _ _ _ h => h) (Or.inl ⟨by rfl, ?hy15_29⟩) (by assumption) ?rest15_29
              case hy15_29 => intro w hSw; (try dsimp only at hSw); go_simp; (try with_reducible rfl)
              try simp only [Act.put, List.getElem_toArray, List.getElem_cons_succ, List.getElem_cons_zero, List.setIfInBounds_toArray, List.set_cons_zero, List.set_cons_succ]
              refine wpAnyH_done (by kernel_rfl) ?_ _
              refine NoPanic.normal ?_
              have hlen9 : q + 1 + (j - q) = j + 1 := by omega
              rw [hlen9] at oV
              have OV := Lib.hid oV
              have HL9 := Lib.hid hlen9
              have hs9 : w.heap.size ≤ W8.heap.size := s8
              have HP9 := Lib.hid (ins_ok HP1.out (by have := HYL.out; omega : q ≤ ys.length) HC.out hA.out)
              have HPX : Hid ((ys.take q ++ [x] ++ ys.drop q).Pairwise (· ≥ ·) ∧ (ys.take q ++ [x] ++ ys.drop q).Perm (xs.take (j + 1))) := Lib.hid ⟨HP9.out.1, by rw [HX.out, HXV.out]; exact HP9.out.2.trans (HP2.out.append_right _)⟩
              have hbV := hb8.trans (tV.mono (by omega))
              clear oV hlen9 oU oE
              go_wp2_with fail
              go_roundw
              case rel => exact ⟨j + 1, gV, cV9, ys.take q ++ [x] ++ ys.drop q, by omega, by go_num, by first | rfl | (rw [HL9.out]; done), by rw [HL9.out] at *; exact OV.out.base (by omega), HPX.out, hbV⟩
              case measure => simp [intOf]; omega
    · obtain rfl : n = j := by omega
      have HE : Hid (ys = downS xs) := Lib.hid (downS_uniq (by have := hP.out.2; rwa [List.take_of_length_le (by omega)] at this) hP.out.1)
      have HO : Hid (Own oI w.heap.size wo.heap.size wo [.slice (some ⟨g, 0, none⟩) n c] ys) := Lib.hid hown.own
      clear hl i0 hown
      go_wp2_with fail
      go_ret
      exact ⟨_, _, _, rfl, by rw [← HE.out]; exact HO.out, hdr⟩

end Go.Proofs.Ytbkoddikfpkocaa

/- Contracts: tables looked up. -/
namespace Go.Proofs.Ytbkoddikfpkocaa
open Go.RowKit Go.Sort
set_option linter.unusedVariables false
set_option linter.unusedSimpArgs false
set_option synthInstance.maxSize 2000
set_option synthInstance.maxHeartbeats 400000

/-- The place of the first table of a name, from place j on; -1 if there is none. -/
def idxFrom (name : ByteArray) (j : Nat) : List DT → Int
  | [] => -1
  | t :: r => if t.1 = name then (j : Int) else idxFrom name (j + 1) r
/-- The table of a name. -/
def look (db : DDb) (name : ByteArray) : Option DT := if validDb db then db.find? (fun t => decide (t.1 = name)) else none
theorem idxFrom_yes {name : ByteArray} {j : Nat} {xs : List DT} {t : DT} (h : xs[j]? = some t) (hn : t.1 = name) : idxFrom name j (xs.drop j) = (j : Int) := by
  rw [drop_at h, idxFrom, if_pos hn]
theorem idxFrom_no {name : ByteArray} {j : Nat} {xs : List DT} {t : DT} (h : xs[j]? = some t) (hn : t.1 ≠ name) : idxFrom name j (xs.drop j) = idxFrom name (j + 1) (xs.drop (j + 1)) := by
  rw [drop_at h, idxFrom, if_neg hn]
theorem idxFrom_end {name : ByteArray} {j : Nat} {xs : List DT} (h : xs.length ≤ j) : idxFrom name j (xs.drop j) = -1 := by
  rw [List.drop_eq_nil_of_le h]; rfl
/-- What the place says. -/
theorem idx_find {name : ByteArray} : ∀ {xs : List DT} {j : Nat}, (idxFrom name j xs = -1 ∧ xs.find? (fun t => decide (t.1 = name)) = none) ∨ ∃ k t, idxFrom name j xs = ((j + k : Nat) : Int) ∧ xs[k]? = some t ∧ xs.find? (fun t => decide (t.1 = name)) = some t
  | [], j => .inl ⟨rfl, rfl⟩
  | t :: r, j => by
    by_cases h : t.1 = name
    · exact .inr ⟨0, t, by simp [idxFrom, h], rfl, by simp [h]⟩
    · rcases @idx_find name r (j + 1) with ⟨h1, h2⟩ | ⟨k, u, h1, h2, h3⟩
      · exact .inl ⟨by rw [idxFrom, if_neg h]; exact h1, by simp [h, h2]⟩
      · exact .inr ⟨k + 1, u, by rw [idxFrom, if_neg h, h1]; omega, by simpa using h2, by simp [h, h3]⟩
theorem dbFrom_mem : ∀ {xs : List DT} {p : Option ByteArray}, dbFrom p xs = true → ∀ t ∈ xs, validT t = true
  | [], _, _, t, ht => by cases ht
  | x :: r, p, h, t, ht => by
    simp only [dbFrom, Bool.and_eq_true] at h
    rcases List.mem_cons.1 ht with rfl | ht
    · exact h.1
    · exact dbFrom_mem h.2.2 t ht
theorem rowsB_mem {n : Int} {rows : List (List Int)} (h : rowsB n rows = true) : ∀ r ∈ rows, (r.length : Int) = n ∧ ∀ v ∈ r, 0 ≤ v ∧ v ≤ 9 := by
  intro r hr
  have h1 := (List.all_eq_true.1 h) r hr
  simp only [rowB, Bool.and_eq_true, decide_eq_true_eq, List.all_eq_true, betw] at h1
  exact ⟨h1.2, fun v hv => h1.1 v hv⟩
/-- What a valid table is known to hold. -/
structure TOk (t : DT) : Prop where
  name : nameB t.1 = true
  ar : 1 ≤ t.2.1 ∧ t.2.1 ≤ 3
  len : t.2.2.length ≤ 8
  row : ∀ r ∈ t.2.2, (r.length : Int) = t.2.1 ∧ ∀ v ∈ r, 0 ≤ v ∧ v ≤ 9
  asc : ascB t.2.2 = true
theorem TOk.of {t : DT} (h : validT t = true) : TOk t := by
  simp only [validT, Bool.and_eq_true, decide_eq_true_eq, betw] at h
  exact ⟨h.1, h.2.1, h.2.2.1, rowsB_mem h.2.2.2.1, h.2.2.2.2⟩
theorem sumBy_bound {α : Type} {f : α → Nat} {B : Nat} : ∀ {xs : List α}, (∀ x ∈ xs, f x ≤ B) → sumBy f xs ≤ xs.length * B
  | [], _ => by simp [sumBy]
  | x :: t, h => by
    have h1 := h x (by simp)
    have h2 := sumBy_bound (fun y hy => h y (List.mem_cons_of_mem x hy))
    simp only [sumBy, List.map_cons, List.sum_cons, List.length_cons, Nat.add_mul, Nat.one_mul] at h2 ⊢
    omega
theorem TOk.bulk {t : DT} (h : TOk t) : bulk_T t ≤ 100 := by
  have h1 : t.1.size = 1 := by have := h.name; simp only [nameB, Bool.and_eq_true, decide_eq_true_eq] at this; exact this.1
  have h2 := h.ar
  have h3 := h.len
  have h4 : sumBy bulk_I t.2.2 ≤ t.2.2.length * 3 := sumBy_bound (fun r hr => by have := (h.row r hr).1; unfold bulk_I; omega)
  have h5 := Nat.mul_le_mul_right 3 h3
  unfold bulk_T bulk_II
  omega
theorem look_ok {db : DDb} {name : ByteArray} {t : DT} (h : look db name = some t) : TOk t := by
  unfold look at h
  split at h
  · rename_i hv
    simp only [validDb, Bool.and_eq_true] at hv
    exact TOk.of (dbFrom_mem hv.1 t (List.mem_of_find?_eq_some h))
  · cases h
theorem look_name {db : DDb} {name : ByteArray} {t : DT} (h : look db name = some t) : t.1 = name := by
  unfold look at h
  split at h
  · have := List.find?_some h; simpa using this
  · cases h

set_option maxHeartbeats 400000 in
theorem lookFn_any (cs : List Value) (t : DT) (name : ByteArray) (p : Addr) (w : World) (h : rT.rep w cs t) (hp : w.cell? p = some (.string name)) (hps : p.spot = none) :
    Calls Try.prog 195 #[.agg cs.toArray, .pointer (some p)] w fun e w' => e = .returned (.bool (decide (t.1 = name))) ∧ Below w.heap.size w w' := by
  obtain ⟨ub, un, uc, rfl, hs, hi, g1⟩ := rT_open h
  obtain ⟨pb, po, ps⟩ := p
  simp only at hps
  subst hps
  have hlt : pb < w.heap.size := cell_lt hp
  clear h g1
  have hb0 : Below w.heap.size w w := Below.refl _ _
  have c0 : w.cell? ⟨pb, po, none⟩ = some (.string name) := hp
  clear hp
  go_enter Try.func195, Try.ntmps195
  obtain ⟨w1, hw1⟩ : ∃ W, W = w.alloc (.cells #[.string t.1, .int .i64 t.2.1, .slice ub un uc] 34) := ⟨_, rfl⟩
  have z1 : Below w.heap.size w w1 := by rw [hw1]; exact (Below.refl _ _).alloc (Nat.le_refl _) _
  have s1 : w1.heap.size = w.heap.size + 1 := by rw [hw1]; simp
  have hb1 := on hb0 z1
  have old1_c0 := c0
  replace c0 := (z1.cell (p := ⟨pb, po, none⟩) (by simp only []; omega)).trans c0
  have b_0 : w1.cell? ⟨w.heap.size, 0, none⟩ = some (.string t.1) := by rw [hw1]; exact box_cell (Below.refl _ _) rfl
  have b_1 : w1.cell? ⟨w.heap.size, 1, none⟩ = some (.int .i64 t.2.1) := by rw [hw1]; exact box_cell (Below.refl _ _) rfl
  have b_2 : w1.cell? ⟨w.heap.size, 2, none⟩ = some (.slice ub un uc) := by rw [hw1]; exact box_cell (Below.refl _ _) rfl
  have raw1_c0 := c0
  have raw1_b_0 := b_0
  have raw1_b_1 := b_1
  have raw1_b_2 := b_2
  rw [hw1] at raw1_c0 raw1_b_0 raw1_b_1 raw1_b_2
  by_cases e : t.1 = name
  · have HE := Lib.hid (show (t.1.toList == name.toList) = true by rw [e]; simp)
    have HD := Lib.hid (decide_eq_true e)
    clear e
    have hq := HE.out
    go_wp2_with fail
    go_ret
    exact ⟨ret_bool HD.out.symm, by first | exact hb1 | (rw [hw1] at hb1; exact hb1)⟩
  · have hq := bytes_ne e
    have HD := Lib.hid (decide_eq_false e)
    clear e
    go_wp2_with fail
    go_ret
    exact ⟨ret_bool HD.out.symm, by first | exact hb1 | (rw [hw1] at hb1; exact hb1)⟩

end Go.Proofs.Ytbkoddikfpkocaa

/- Contracts: a row put among rows, by the reference (l4Put). -/
namespace Go.Proofs.Ytbkoddikfpkocaa
open Go.RowKit
set_option linter.unusedVariables false
set_option linter.unusedSimpArgs false
set_option synthInstance.maxSize 2000
set_option synthInstance.maxHeartbeats 400000

theorem putL_at {r x : List Int} {rows : List (List Int)} {j : Nat} (p : Bool) (h : rows[j]? = some x) : putL r p (rows.drop j) = if decide (0 < cmpRows x r) && !(p || decide (cmpRows x r = 0)) then r :: x :: putL r true (rows.drop (j + 1)) else x :: putL r (p || decide (cmpRows x r = 0)) (rows.drop (j + 1)) := by
  rw [drop_at h]; rfl
theorem putL_end {r : List Int} {rows : List (List Int)} {j : Nat} (p : Bool) (h : rows.length ≤ j) : putL r p (rows.drop j) = if p then [] else [r] := by
  rw [List.drop_eq_nil_of_le h]; rfl

set_option maxRecDepth 100000 in
set_option maxHeartbeats 4000000 in
theorem l4Put_any (u v : Value) (rows : List (List Int)) (r : List Int) (w : World) (h : rII.rep w [u] rows) (h' : rI.rep w [v] r) (hn1 : rows.length ≤ 1000000) (hrows : ∀ (j : Nat) (x : List Int), rows[j]? = some x → x.length ≤ 1000000) (hr1 : r.length ≤ 1000000) :
    Calls Try.prog 135 #[u, v] w fun e w' => ∃ ub un uc, e = .returned (.slice ub un uc) ∧ Own oII w.heap.size w'.heap.size w' [.slice ub un uc] (putL r false rows) ∧ Below w.heap.size w w' := by
  obtain ⟨a, cap, rfl, _, _, t0⟩ := rS_open h
  obtain ⟨b, cap2, rfl, _, _, ir⟩ := rI_open h'
  clear h h'
  obtain ⟨n, hl⟩ : ∃ n, rows.length = n := ⟨_, rfl⟩
  obtain ⟨m, hm⟩ : ∃ m, r.length = m := ⟨_, rfl⟩
  rw [hl] at t0 hn1 ⊢
  rw [hm] at ir hr1 ⊢
  have HR := Lib.hid hrows
  have HV : Hid (putL r false rows = [] ++ putL r false (rows.drop 0)) := Lib.hid (by simp)
  have IR := Lib.hid (fun W (hW : Below w.heap.size w W) => ir.below hW)
  clear hrows ir
  have hb0 : Below w.heap.size w w := Below.refl _ _
  go_enter Try.func135, Try.ntmps135
  obtain ⟨w1, hw1⟩ : ∃ W, W = w.alloc (.cells #[] 24) := ⟨_, rfl⟩
  have z1 : Below w.heap.size w w1 := by rw [hw1]; exact (Below.refl _ _).alloc (Nat.le_refl _) _
  have s1 : w1.heap.size = w.heap.size + 1 := by rw [hw1]; simp
  have hb1 := on hb0 z1
  have ho : ∀ S, Acc 24 oI w.heap.size S w1.heap.size w1 (.slice (some ⟨w.heap.size, 0, none⟩) 0 0) [] := fun S => by rw [hw1]; exact Acc.empty (by omega) (by first | (simp; done) | (simp; omega))
  go_wp2_with fail
  rw [← hw1]
  clear hw1
  go_loopw [5, 6, 7] (fun v p k wr => ∃ (j : Nat) (q : Bool) (out : List (List Int)), j ≤ n ∧ k = .int .i64 j ∧ p = .bool q ∧ Hid (putL r false rows = out ++ putL r q (rows.drop j)) ∧ out.length ≤ 2 * j ∧ Acc 24 oI w.heap.size w1.heap.size wr.heap.size wr v out ∧ Turn w.heap.size (w.heap.size + 1) w1 wr) (fun _ _ k _ => n - (intOf k).toNat)
  case atStart => exact ⟨0, false, [], Nat.zero_le _, rfl, rfl, HV.out, Nat.zero_le _, (ho _).wide (Nat.le_refl _) (by omega), turn_refl _ _ _⟩
  case round =>
    obtain ⟨j, q, out, hj, rfl, rfl, hE, hol, hacc, hdr⟩ := hrel
    have hlc := hdr
    have hE0 : w1.heap.size = w.heap.size + 1 := by omega
    clear ho
    have s2 := hdr.size
    have hb2 := hb1.trans ((hdr.below (by omega)).mono (by omega))
    by_cases hlt : j < n
    · obtain ⟨b0, o0, r1, m1, q1, x, rfl, hc, hx, hi, hq1, hq2⟩ := t0.row hlt
      have hclt : b0 < w.heap.size := cell_lt hc
      have c0 : wr.cell? ⟨b0, o0 + j, none⟩ = some (.slice r1 m1 q1) := (hb2.cell (p := ⟨b0, o0 + j, none⟩) hclt).trans hc
      have HX := Lib.hid (fun W (hW : Below w.heap.size w W) => hi.below hW)
      have hxl := HR.out j x hx.out
      have hm1 : m1 ≤ 1000000 := by rw [← hi.len]; exact hxl
      have HP := Lib.hid (putL_at (r := r) q hx.out)
      have HC := Lib.hid (fun W (hW : Below w.heap.size w W) => cmp_spec r1 b m1 m q1 cap2 x r W (hi.below hW) (IR.out W hW))
      obtain ⟨d, hd⟩ : ∃ d, d = cmpRows x r := ⟨_, rfl⟩
      have hrng : d = -1 ∨ d = 0 ∨ d = 1 := by rw [hd]; exact cmpRows_rng x r
      have HP2 : Hid (putL r q (rows.drop j) = if decide (0 < d) && !(q || decide (d = 0)) then r :: x :: putL r true (rows.drop (j + 1)) else x :: putL r (q || decide (d = 0)) (rows.drop (j + 1))) := Lib.hid (by rw [hd]; exact HP.out)
      have HC2 : Hid (∀ W, Below w.heap.size w W → Calls Try.prog 104 #[.slice r1 m1 q1, .slice b m cap2] W fun e w' => e = .returned (.int .i64 d) ∧ Drew W w') := Lib.hid (by rw [hd]; exact HC.out)
      have HC0 := Lib.hid hc
      clear hc hx hi hl hE0 HP HC hd
      rcases hrng with rfl | rfl | rfl
      all_goals cases q
      case inl.false =>
        have HE : Hid (putL r false rows = (out ++ [x]) ++ putL r false (rows.drop (j + 1))) := Lib.hid (by rw [hE.out, HP2.out]; simp)
        clear HP2 hE
        go_wp2_with fail
        refine (HC2.out _ hb2).mono ?_
        rintro e w3 ⟨rfl, z3⟩
        replace z3 : Below wr.heap.size wr w3 := z3.below _
        have s4 := z3.size
        have hb4 := on hb2 z3
        replace hlc := hlc.trans (turn_below z3 (Nat.le_refl _))
        replace hacc := hacc.below z3 (by omega)
        replace c0 := (z3.cell (p := ⟨b0, o0 + j, none⟩) (by simp only []; omega)).trans c0
        have i2 := (HX.out _ hb4).below ((Below.refl _ _).alloc (Nat.le_refl _) (.cells #[] 3))
        have c0a := cell_ad (o := .cells #[] 3) c0
        go_wp2_with (first | (at_builtin; refine wpList_copyI _ _ _ _ _ _ x rfl i2 (by omega) rfl rfl rfl rfl ?_; intro vc wc own1 zc szc; obtain ⟨ac, cc, rfl, _⟩ := own_form own1.row; clear i2; replace hacc := hacc.below zc (by omega); replace hlc := hlc.trans (turn_below zc (Nat.le_refl _)); have sc := zc.size; have oy := own1.own; have hone : ∀ z ∈ [Value.slice ac m1 cc], z.oneCell' = true := (by intro z hz; simp at hz; subst hz; rfl)) | (at_builtin; refine wpList_acc Try.underlying32 infoI rfl (by decide) (by decide) rfl _ _ _ _ [.slice ac m1 cc] x hacc oy hone (by omega) (by omega) (by omega) (by omega) hlc rfl (by omega) (by omega) rfl rfl rfl rfl rfl ?_; intro v1 w1 hacc1 ht1 hsz1; obtain ⟨ad, nd, cd, rfl⟩ := hacc1.form3))
        go_roundw
        case rel => exact ⟨j + 1, false, out ++ [x], by omega, by go_num, rfl, HE.out, by rw [List.length_append]; simp; omega, hacc1, ht1⟩
        case measure => simp [intOf]; omega
      case inl.true =>
        have HE : Hid (putL r false rows = (out ++ [x]) ++ putL r true (rows.drop (j + 1))) := Lib.hid (by rw [hE.out, HP2.out]; simp)
        clear HP2 hE
        go_wp2_with fail
        refine (HC2.out _ hb2).mono ?_
        rintro e w5 ⟨rfl, z5⟩
        replace z5 : Below wr.heap.size wr w5 := z5.below _
        have s6 := z5.size
        have hb6 := on hb2 z5
        replace hlc := hlc.trans (turn_below z5 (Nat.le_refl _))
        replace hacc := hacc.below z5 (by omega)
        replace c0 := (z5.cell (p := ⟨b0, o0 + j, none⟩) (by simp only []; omega)).trans c0
        have i2 := (HX.out _ hb6).below ((Below.refl _ _).alloc (Nat.le_refl _) (.cells #[] 3))
        have c0a := cell_ad (o := .cells #[] 3) c0
        go_wp2_with (first | (at_builtin; refine wpList_copyI _ _ _ _ _ _ x rfl i2 (by omega) rfl rfl rfl rfl ?_; intro vc wc own1 zc szc; obtain ⟨ac, cc, rfl, _⟩ := own_form own1.row; clear i2; replace hacc := hacc.below zc (by omega); replace hlc := hlc.trans (turn_below zc (Nat.le_refl _)); have sc := zc.size; have oy := own1.own; have hone : ∀ z ∈ [Value.slice ac m1 cc], z.oneCell' = true := (by intro z hz; simp at hz; subst hz; rfl)) | (at_builtin; refine wpList_acc Try.underlying32 infoI rfl (by decide) (by decide) rfl _ _ _ _ [.slice ac m1 cc] x hacc oy hone (by omega) (by omega) (by omega) (by omega) hlc rfl (by omega) (by omega) rfl rfl rfl rfl rfl ?_; intro v1 w1 hacc1 ht1 hsz1; obtain ⟨ad, nd, cd, rfl⟩ := hacc1.form3))
        go_roundw
        case rel => exact ⟨j + 1, true, out ++ [x], by omega, by go_num, rfl, HE.out, by rw [List.length_append]; simp; omega, hacc1, ht1⟩
        case measure => simp [intOf]; omega
      case inr.inl.false =>
        have HE : Hid (putL r false rows = (out ++ [x]) ++ putL r true (rows.drop (j + 1))) := Lib.hid (by rw [hE.out, HP2.out]; simp)
        clear HP2 hE
        go_wp2_with fail
        refine (HC2.out _ hb2).mono ?_
        rintro e w7 ⟨rfl, z7⟩
        replace z7 : Below wr.heap.size wr w7 := z7.below _
        have s8 := z7.size
        have hb8 := on hb2 z7
        replace hlc := hlc.trans (turn_below z7 (Nat.le_refl _))
        replace hacc := hacc.below z7 (by omega)
        replace c0 := (z7.cell (p := ⟨b0, o0 + j, none⟩) (by simp only []; omega)).trans c0
        have i2 := (HX.out _ hb8).below ((Below.refl _ _).alloc (Nat.le_refl _) (.cells #[] 3))
        have c0a := cell_ad (o := .cells #[] 3) c0
        go_wp2_with (first | (at_builtin; refine wpList_copyI _ _ _ _ _ _ x rfl i2 (by omega) rfl rfl rfl rfl ?_; intro vc wc own1 zc szc; obtain ⟨ac, cc, rfl, _⟩ := own_form own1.row; clear i2; replace hacc := hacc.below zc (by omega); replace hlc := hlc.trans (turn_below zc (Nat.le_refl _)); have sc := zc.size; have oy := own1.own; have hone : ∀ z ∈ [Value.slice ac m1 cc], z.oneCell' = true := (by intro z hz; simp at hz; subst hz; rfl)) | (at_builtin; refine wpList_acc Try.underlying32 infoI rfl (by decide) (by decide) rfl _ _ _ _ [.slice ac m1 cc] x hacc oy hone (by omega) (by omega) (by omega) (by omega) hlc rfl (by omega) (by omega) rfl rfl rfl rfl rfl ?_; intro v1 w1 hacc1 ht1 hsz1; obtain ⟨ad, nd, cd, rfl⟩ := hacc1.form3))
        go_roundw
        case rel => exact ⟨j + 1, true, out ++ [x], by omega, by go_num, rfl, HE.out, by rw [List.length_append]; simp; omega, hacc1, ht1⟩
        case measure => simp [intOf]; omega
      case inr.inl.true =>
        have HE : Hid (putL r false rows = (out ++ [x]) ++ putL r true (rows.drop (j + 1))) := Lib.hid (by rw [hE.out, HP2.out]; simp)
        clear HP2 hE
        go_wp2_with fail
        refine (HC2.out _ hb2).mono ?_
        rintro e w9 ⟨rfl, z9⟩
        replace z9 : Below wr.heap.size wr w9 := z9.below _
        have s10 := z9.size
        have hb10 := on hb2 z9
        replace hlc := hlc.trans (turn_below z9 (Nat.le_refl _))
        replace hacc := hacc.below z9 (by omega)
        replace c0 := (z9.cell (p := ⟨b0, o0 + j, none⟩) (by simp only []; omega)).trans c0
        have i2 := (HX.out _ hb10).below ((Below.refl _ _).alloc (Nat.le_refl _) (.cells #[] 3))
        have c0a := cell_ad (o := .cells #[] 3) c0
        go_wp2_with (first | (at_builtin; refine wpList_copyI _ _ _ _ _ _ x rfl i2 (by omega) rfl rfl rfl rfl ?_; intro vc wc own1 zc szc; obtain ⟨ac, cc, rfl, _⟩ := own_form own1.row; clear i2; replace hacc := hacc.below zc (by omega); replace hlc := hlc.trans (turn_below zc (Nat.le_refl _)); have sc := zc.size; have oy := own1.own; have hone : ∀ z ∈ [Value.slice ac m1 cc], z.oneCell' = true := (by intro z hz; simp at hz; subst hz; rfl)) | (at_builtin; refine wpList_acc Try.underlying32 infoI rfl (by decide) (by decide) rfl _ _ _ _ [.slice ac m1 cc] x hacc oy hone (by omega) (by omega) (by omega) (by omega) hlc rfl (by omega) (by omega) rfl rfl rfl rfl rfl ?_; intro v1 w1 hacc1 ht1 hsz1; obtain ⟨ad, nd, cd, rfl⟩ := hacc1.form3))
        go_roundw
        case rel => exact ⟨j + 1, true, out ++ [x], by omega, by go_num, rfl, HE.out, by rw [List.length_append]; simp; omega, hacc1, ht1⟩
        case measure => simp [intOf]; omega
      case inr.inr.true =>
        have HE : Hid (putL r false rows = (out ++ [x]) ++ putL r true (rows.drop (j + 1))) := Lib.hid (by rw [hE.out, HP2.out]; simp)
        clear HP2 hE
        go_wp2_with fail
        refine (HC2.out _ hb2).mono ?_
        rintro e w11 ⟨rfl, z11⟩
        replace z11 : Below wr.heap.size wr w11 := z11.below _
        have s12 := z11.size
        have hb12 := on hb2 z11
        replace hlc := hlc.trans (turn_below z11 (Nat.le_refl _))
        replace hacc := hacc.below z11 (by omega)
        replace c0 := (z11.cell (p := ⟨b0, o0 + j, none⟩) (by simp only []; omega)).trans c0
        have i2 := (HX.out _ hb12).below ((Below.refl _ _).alloc (Nat.le_refl _) (.cells #[] 3))
        have c0a := cell_ad (o := .cells #[] 3) c0
        go_wp2_with (first | (at_builtin; refine wpList_copyI _ _ _ _ _ _ x rfl i2 (by omega) rfl rfl rfl rfl ?_; intro vc wc own1 zc szc; obtain ⟨ac, cc, rfl, _⟩ := own_form own1.row; clear i2; replace hacc := hacc.below zc (by omega); replace hlc := hlc.trans (turn_below zc (Nat.le_refl _)); have sc := zc.size; have oy := own1.own; have hone : ∀ z ∈ [Value.slice ac m1 cc], z.oneCell' = true := (by intro z hz; simp at hz; subst hz; rfl)) | (at_builtin; refine wpList_acc Try.underlying32 infoI rfl (by decide) (by decide) rfl _ _ _ _ [.slice ac m1 cc] x hacc oy hone (by omega) (by omega) (by omega) (by omega) hlc rfl (by omega) (by omega) rfl rfl rfl rfl rfl ?_; intro v1 w1 hacc1 ht1 hsz1; obtain ⟨ad, nd, cd, rfl⟩ := hacc1.form3))
        go_roundw
        case rel => exact ⟨j + 1, true, out ++ [x], by omega, by go_num, rfl, HE.out, by rw [List.length_append]; simp; omega, hacc1, ht1⟩
        case measure => simp [intOf]; omega
      -- the row goes in ahead of this one
      case inr.inr.false =>
        have HE : Hid (putL r false rows = ((out ++ [r]) ++ [x]) ++ putL r true (rows.drop (j + 1))) := Lib.hid (by rw [hE.out, HP2.out]; simp)
        clear HP2 hE
        go_wp2_with fail
        refine (HC2.out _ hb2).mono ?_
        rintro e w13 ⟨rfl, z13⟩
        replace z13 : Below wr.heap.size wr w13 := z13.below _
        have s14 := z13.size
        have hb14 := on hb2 z13
        replace hlc := hlc.trans (turn_below z13 (Nat.le_refl _))
        replace hacc := hacc.below z13 (by omega)
        replace c0 := (z13.cell (p := ⟨b0, o0 + j, none⟩) (by simp only []; omega)).trans c0
        have i2 := (IR.out _ hb14).below ((Below.refl _ _).alloc (Nat.le_refl _) (.cells #[] 3))
        have hol1 : (out ++ [r]).length ≤ 2 * j + 1 := by rw [List.length_append]; simp; omega
        go_wp2_with (first | (at_builtin; refine wpList_copyI _ _ _ _ _ _ r rfl i2 (by omega) rfl rfl rfl rfl ?_; intro vc wc own1 zc szc; obtain ⟨ac, cc, rfl, _⟩ := own_form own1.row; clear i2; replace hacc := hacc.below zc (by omega); replace hlc := hlc.trans (turn_below zc (Nat.le_refl _)); have sc := zc.size; have oy := own1.own; have hone : ∀ z ∈ [Value.slice ac m cc], z.oneCell' = true := (by intro z hz; simp at hz; subst hz; rfl); have c0c := (zc.cell (p := ⟨b0, o0 + j, none⟩) (by simp only []; omega)).trans c0) | (at_builtin; refine wpList_acc Try.underlying32 infoI rfl (by decide) (by decide) rfl _ _ _ _ [.slice ac m cc] r hacc oy hone (by omega) (by omega) (by omega) (by omega) hlc rfl (by omega) (by omega) rfl rfl rfl rfl rfl ?_; intro v1 wd hacc1 ht1 hsz1; obtain ⟨ad, nd, cd, rfl⟩ := hacc1.form3; have hbd := hb1.trans ((ht1.below (by omega)).mono (by omega)); have sd := ht1.size; have c1 := cell_ad (o := .cells #[] 3) ((hbd.cell (p := ⟨b0, o0 + j, none⟩) hclt).trans HC0.out); have i3 := (HX.out _ hbd).below ((Below.refl _ _).alloc (Nat.le_refl _) (.cells #[] 3)); clear hacc hlc oy hone own1 zc; have hacc := hacc1; have hlc := ht1; clear hacc1 ht1) | (at_builtin; refine wpList_copyI _ _ _ _ _ _ x rfl i3 (by omega) rfl rfl rfl rfl ?_; intro vc wc own1 zc szc; obtain ⟨ac, cc, rfl, _⟩ := own_form own1.row; clear i3; replace hacc := hacc.below zc (by omega); replace hlc := hlc.trans (turn_below zc (Nat.le_refl _)); have sc := zc.size; have oy := own1.own; have hone : ∀ z ∈ [Value.slice ac m1 cc], z.oneCell' = true := (by intro z hz; simp at hz; subst hz; rfl)) | (at_builtin; refine wpList_acc Try.underlying32 infoI rfl (by decide) (by decide) rfl _ _ _ _ [.slice ac m1 cc] x hacc oy hone (by omega) (by omega) (by omega) (by omega) hlc rfl (by omega) (by omega) rfl rfl rfl rfl rfl ?_; intro v1 w1 hacc1 ht1 hsz1; obtain ⟨ad, nd, cd, rfl⟩ := hacc1.form3))
        go_roundw
        case rel => exact ⟨j + 1, true, out ++ [r] ++ [x], by omega, by go_num, rfl, HE.out, by rw [List.length_append]; simp only [List.length_cons, List.length_nil]; omega, hacc1, ht1⟩
        case measure => simp [intOf]; omega
    · have hjn : j = n := by omega
      have HE : Hid (putL r false rows = out ++ if q then [] else [r]) := Lib.hid (by rw [hE.out, putL_end q (by omega)])
      clear hE
      cases q with
      | true =>
        obtain ⟨ad, nd, cd, rfl⟩ := hacc.form3
        have HO := Lib.hid (hacc.own (B := w.heap.size) (by omega) (by omega) (Nat.le_refl _))
        clear hacc hl
        go_wp2_with fail
        go_ret
        exact ⟨_, _, _, rfl, by rw [HE.out, if_pos trivial, List.append_nil]; exact HO.out, hb2⟩
      | false =>
        have i2 := (IR.out _ hb2).below ((Below.refl _ _).alloc (Nat.le_refl _) (.cells #[] 3))
        clear hl
        go_wp2_with (first | (at_builtin; refine wpList_copyI _ _ _ _ _ _ r rfl i2 (by omega) rfl rfl rfl rfl ?_; intro vc wc own1 zc szc; obtain ⟨ac, cc, rfl, _⟩ := own_form own1.row; clear i2; replace hacc := hacc.below zc (by omega); replace hlc := hlc.trans (turn_below zc (Nat.le_refl _)); have sc := zc.size; have oy := own1.own; have hone : ∀ z ∈ [Value.slice ac m cc], z.oneCell' = true := (by intro z hz; simp at hz; subst hz; rfl)) | (at_builtin; refine wpList_acc Try.underlying32 infoI rfl (by decide) (by decide) rfl _ _ _ _ [.slice ac m cc] r hacc oy hone (by omega) (by omega) (by omega) (by omega) hlc rfl (by omega) (by omega) rfl rfl rfl rfl rfl ?_; intro v1 w1 hacc1 ht1 hsz1; obtain ⟨ad, nd, cd, rfl⟩ := hacc1.form3))
        have hbd := hb1.trans ((ht1.below (by omega)).mono (by omega))
        have HO := Lib.hid (hacc1.own (B := w.heap.size) (by omega) (by omega) (Nat.le_refl _))
        clear hacc hlc hacc1 oy hone
        go_wp2_with fail
        go_ret
        exact ⟨_, _, _, rfl, by rw [HE.out]; exact HO.out, hbd⟩

end Go.Proofs.Ytbkoddikfpkocaa

/- Contracts: rows sorted, each once (impl.sorted). -/
namespace Go.Proofs.Ytbkoddikfpkocaa
open Go.RowKit Go.Sort
set_option linter.unusedVariables false
set_option linter.unusedSimpArgs false
set_option synthInstance.maxSize 2000
set_option synthInstance.maxHeartbeats 400000

theorem compF_nil (w : World) :
    Calls Try.prog 190 #[.slice none 0 0, .func (.func 191) #[] #[]] w fun e w' => e = .returned (.slice none 0 0) ∧ w' = w := by
  go_enter Try.func190, Try.ntmps190
  go_wp2_with fail
  go_ret
  exact ⟨rfl, rfl⟩

set_option maxHeartbeats 2000000 in
theorem sorted_any (v : Value) (rows : List (List Int)) (w : World) (h : rII.rep w [v] rows) (hn : bulk_II rows ≤ 100000000) :
    Calls Try.prog 140 #[v] w fun e w' => ∃ u, e = .returned u ∧ Own oII w.heap.size w'.heap.size w' [u] (canon rows) ∧ Below w.heap.size w w' := by
  have HC := Lib.hid (copyRows_any v rows w h hn)
  clear h
  go_enter Try.func140, Try.ntmps140
  go_wp2_with fail
  refine HC.out.mono ?_
  rintro e w1 ⟨u, rfl, ho, z1⟩
  have s1 := z1.size
  obtain ⟨a, n, c, rfl⟩ := oII_form1 ho
  rcases own_nilptr ho with ⟨rfl, rfl, rfl, rfl⟩ | ⟨g, rfl, hln⟩
  · have HO := Lib.hid ho
    clear ho
    go_wp2_with fail
    refine (Go.Proofs.AnyF.slices_SortFunc_none { Try.laysSlF6_f188 with } none 0 _ w1).mono ?_
    rintro e w' ⟨rfl, rfl⟩
    go_wp2_with fail
    refine (compF_nil _).mono ?_
    rintro e w' ⟨rfl, rfl⟩
    go_wp2_with fail
    go_ret
    exact ⟨_, rfl, by simpa [canon] using HO.out, z1⟩
  · obtain ⟨d, hd, hdl, hat, hg, hnd, hbd⟩ := rows_open ho
    have hgl : w.heap.size ≤ g := (hbd g (by simp)).1
    have hn9 : n ≤ 1000000000 := by
      have : rows.length ≤ bulk_II rows := by unfold bulk_II; omega
      omega
    have hsort := Try.slices_SortFunc El.v (fun x => x.one) cfE (swoE w1 g) 189 #[] g 0 c d.toArray w1 (enters_of Try.func189 (by kernel_rfl) rfl) cmpLays hat.holds hg (by simp; omega)
    rw [List.size_toArray, hdl] at hsort
    have HS := Lib.hid hsort
    clear hsort ho
    go_wp2_with fail
    refine HS.out.mono ?_
    rintro e w2 ⟨rfl, d', m, os, hp, hs, rfl⟩
    obtain ⟨hp1, hp2⟩ := permIn_all (d := d) (d' := d') (by rw [List.size_toArray, hdl]; exact hp)
    obtain ⟨hat2, hbut⟩ := At.sort (n := m) (d' := d'.toList) os hat hg (by simp; omega)
    rw [Array.toArray_toList] at hat2 hbut
    have hbl := sortW_below (lo := w.heap.size) (m := m) d' os s1 hgl
    obtain ⟨W, hW⟩ : ∃ W, W = Go.Proofs.sortWorld El.v w1 g 0 m d' os := ⟨_, rfl⟩
    rw [← hW] at hat2 hbut hbl ⊢
    have sW : w1.heap.size ≤ W.heap.size := by rw [hW]; exact (sortW_below (lo := 0) (m := m) d' os (Nat.zero_le _) (Nat.zero_le _)).size
    have HCF := Lib.hid (compF_any d'.toList W hat2 hbut sW hg n (by simp; omega) hn9)
    have HP := Lib.hid hp1
    have HSP := Lib.hid (sorted_pair (d' := d') (by rw [hp2, hdl]; exact hs))
    clear hW hat2 hat hp hs HS HC
    go_wp2_with fail
    refine HCF.out.mono ?_
    rintro e w3 ⟨rfl, hat3, hT⟩
    have hln2 : d'.toList.length = n := by simp; omega
    have hmap : (dedTo El.xs d'.toList n).map El.xs = canon rows := by
      rw [dedTo_map (by omega), List.take_of_length_le (by simp; omega)]
      refine dedup_canon (HSP.out.imp fun h => by omega) fun z => ?_
      rw [← hd]
      exact (HP.out.map El.xs).mem_iff
    have hsub : (dedTo El.xs d'.toList n).Sublist d'.toList := by
      have := dedTo_sub El.xs d'.toList n
      rwa [List.take_of_length_le (by omega)] at this
    have hfp : (fps (dedTo El.xs d'.toList n)).Sublist (fps d'.toList) := fps_sub hsub
    have hfq := fps_perm HP.out
    have hnd2 : (g :: fps d'.toList).Nodup := (List.Perm.nodup_iff (hfq.cons g)).2 hnd
    have key := rows_close (lo := w.heap.size) (hi := w1.heap.size) hat3 (Turn.but hbut sW hT) (hnd2.sublist (hfp.cons_cons g)) (fun k hk => by
      rcases List.mem_cons.1 hk with rfl | hk
      · exact hbd k (by simp)
      · exact hbd k (List.mem_cons_of_mem _ (hfq.mem_iff.1 (hfp.subset hk))))
    rw [hmap] at key
    have hs3 := hT.size
    have HK := Lib.hid (key.mono (Nat.le_refl _) (show w1.heap.size ≤ w3.heap.size by omega))
    have HB := Lib.hid (((z1.trans hbl).trans ((hT.below (by omega)).mono hgl) : Below w.heap.size w w3))
    clear key hmap hsub hfp hfq hnd2 hat3 HCF
    go_wp2_with fail
    go_ret
    exact ⟨_, rfl, HK.out, HB.out⟩

end Go.Proofs.Ytbkoddikfpkocaa

/- Plain: bounds of groups and counts. -/
namespace Go.Proofs.Ytbkoddikfpkocaa
open Go.RowKit
set_option linter.unusedVariables false
set_option linter.unusedSimpArgs false

theorem grpV_facts (t : DT) (cs : List Int) : (grpV t cs).length ≤ 8 ∧ (∀ r ∈ grpV t cs, r.length ≤ 3) := by
  unfold grpV
  split
  · rename_i h
    rw [colsT, Bool.and_eq_true] at h
    have hT := TOk.of h.2
    have h1 := hT.ar
    have h2 := hT.len
    have h3 := colsB_len' (by omega) h.1
    refine ⟨?_, fun r hr => ?_⟩
    · have := canon_len (selRows t.2.2 cs)
      rw [selRows_len] at this
      unfold groups; omega
    · have h9 := canon_mem.1 hr
      simp only [selRows, List.mem_map] at h9
      obtain ⟨y, _, rfl⟩ := h9
      have := sel_len y cs; omega
  · exact ⟨by simp, fun r hr => by cases hr⟩
theorem grpV_bulk (t : DT) (cs : List Int) : cnt_II (grpV t cs) ≤ 200 ∧ bulk_II (grpV t cs) ≤ 100 := by
  obtain ⟨h1, h2⟩ := grpV_facts t cs
  have h3 : sumBy bulk_I (grpV t cs) ≤ (grpV t cs).length * 3 := sumBy_bound (fun r hr => by have := h2 r hr; unfold bulk_I; omega)
  have h4 : bulk_II (grpV t cs) ≤ 100 := by unfold bulk_II; omega
  have h5 := cnt_le_II (grpV t cs)
  omega
theorem grpN_facts (t : DT) (cs : List Int) : (grpN t cs).length = (grpV t cs).length ∧ (∀ x ∈ grpN t cs, 0 ≤ x ∧ x ≤ 8) := by
  unfold grpN grpV
  split
  · rename_i h
    rw [colsT, Bool.and_eq_true] at h
    have h2 := (TOk.of h.2).len
    refine ⟨countsOf_len _ _, fun x hx => ?_⟩
    simp only [countsOf, List.mem_map] at hx
    obtain ⟨g, _, rfl⟩ := hx
    have := cntRow_le g (selRows t.2.2 cs)
    rw [selRows_len] at this
    omega
  · exact ⟨rfl, fun r hr => by cases hr⟩
theorem grpN_cnt (t : DT) (cs : List Int) : cnt_I (grpN t cs) ≤ 8 := by
  have h1 := grpV_facts t cs
  have h2 := grpN_facts t cs
  unfold cnt_I; omega

end Go.Proofs.Ytbkoddikfpkocaa

/- Contracts: groups of a table and their counts, by the program. -/
namespace Go.Proofs.Ytbkoddikfpkocaa
open Go.RowKit
set_option linter.unusedVariables false
set_option linter.unusedSimpArgs false
set_option synthInstance.maxSize 2000
set_option synthInstance.maxHeartbeats 400000

/-- A row's block lies in the range that is owned. -/
theorem own_blk {α : Type} {t : TypeId} {o : OS α} {lo hi b off n c : Nat} {w : World} {xs : List α} (h : Own (O.slice t o) lo hi w [.slice (some ⟨b, off, none⟩) n c] xs) : lo ≤ b ∧ b < hi := by
  obtain ⟨fp, ⟨v, css, fps, hv, rfl, _, _⟩, _, hb⟩ := h
  simp at hv
  subst hv
  exact hb b (by simp [bl, Value.ownBlock])
/-- A row that has been read stays where only other blocks turn. -/
theorem row_keep {lo hi lo' hi' b off n c j m c' : Nat} {w w' : World} {r : Option Addr} {rows : List (List Int)} {xs : List Int} (h : Own oII lo hi w [.slice (some ⟨b, off, none⟩) n c] rows) (hc : w.cell? ⟨b, off + j, none⟩ = some (.slice r m c')) (hj : j < n) (hx : rows[j]? = some xs)
    (ht : Turn lo' hi' w w') (hd : hi ≤ lo' ∨ hi' ≤ lo) : Ints w' r m xs := by
  have hb := own_blk h
  have hlt := cell_lt hc
  simp only at hlt
  obtain ⟨b1, o1, r1, m1, q1, x1, ha, hc1, hx1, hi1, _⟩ := (rS_sl ((h.turn ht hd).rd reads_II)).row hj
  simp at ha
  obtain ⟨rfl, rfl⟩ := ha
  rw [ht.cell (p := ⟨b, off + j, none⟩) hlt (by simp only []; omega), hc] at hc1
  simp at hc1
  obtain ⟨rfl, rfl, rfl⟩ := hc1
  have := hx1.out
  rw [hx] at this
  obtain rfl := Option.some.inj this
  exact hi1
theorem bulk_sel {rows : List (List Int)} {cols : List Int} (h1 : rows.length ≤ 8) (h2 : cols.length ≤ 3) : bulk_II (selRows rows cols) ≤ 100 := by
  have h3 : sumBy bulk_I (selRows rows cols) ≤ (selRows rows cols).length * 3 := sumBy_bound (fun r hr => by
    simp only [selRows, List.mem_map] at hr
    obtain ⟨x, _, rfl⟩ := hr
    have := sel_len x cols
    unfold bulk_I; omega)
  rw [selRows_len] at h3
  unfold bulk_II
  rw [selRows_len]
  omega
/-- The counts on the way: those of the first j rows, then c, then noughts. -/
def cl (gs all : List (List Int)) (n j c : Nat) : List Int := countsOf (gs.take j) all ++ ((c : Int) :: List.replicate (n - (j + 1)) 0)
theorem cl_start {gs all : List (List Int)} {n j : Nat} (h : j < n) : countsOf (gs.take j) all ++ List.replicate (n - j) 0 = cl gs all n j 0 := by
  rw [cl, show n - j = (n - (j + 1)) + 1 by omega, List.replicate_succ]; rfl
theorem cl_pos {gs all : List (List Int)} {n j : Nat} (hl : gs.length = n) (h : j < n) : (countsOf (gs.take j) all).length = j := by
  rw [countsOf_len, List.length_take]; omega
theorem cl_len {gs all : List (List Int)} {n j c : Nat} (hl : gs.length = n) (h : j < n) : (cl gs all n j c).length = n := by
  rw [cl, List.length_append, cl_pos hl h, List.length_cons, List.length_replicate]; omega
theorem cl_get {gs all : List (List Int)} {n j c : Nat} (hl : gs.length = n) (h : j < n) : (cl gs all n j c)[j]? = some (c : Int) := by
  rw [cl, List.getElem?_append_right (by rw [cl_pos hl h]; exact Nat.le_refl _), cl_pos hl h, Nat.sub_self]; rfl
theorem cl_set {gs all : List (List Int)} {n j c : Nat} (hl : gs.length = n) (h : j < n) : (cl gs all n j c).set j ((c : Int) + 1) = cl gs all n j (c + 1) := by
  rw [cl, List.set_append_right _ _ (by rw [cl_pos hl h]; exact Nat.le_refl _), cl_pos hl h, Nat.sub_self]; simp [cl]
theorem cl_end {gs all : List (List Int)} {g : List Int} {n j : Nat} (hg : gs[j]? = some g) : cl gs all n j (cntRow g all) = countsOf (gs.take (j + 1)) all ++ List.replicate (n - (j + 1)) 0 := by
  rw [cl, countsOf_step hg]; simp

set_option maxRecDepth 100000 in
set_option maxHeartbeats 4000000 in
theorem groups_impl (v : Value) (cs : List Value) (t : DT) (cols : List Int) (w : World) (ht : rT.rep w cs t) (h' : rI.rep w [v] cols) :
    Calls Try.prog 63 #[.agg cs.toArray, v] w fun e w' => ∃ b1 n1 c1 b2 n2 c2, ∃ wm : World, e = .returned (.tuple #[.slice b1 n1 c1, .slice b2 n2 c2]) ∧ Own oII w.heap.size wm.heap.size w' [.slice b1 n1 c1] (grpV t cols) ∧ Own oI wm.heap.size w'.heap.size w' [.slice b2 n2 c2] (grpN t cols) ∧ w.heap.size ≤ wm.heap.size ∧ wm.heap.size ≤ w'.heap.size ∧ Below w.heap.size w w' := by
  obtain ⟨b, m, d, hv⟩ := rI_form h'
  simp at hv; subst hv
  obtain ⟨ub, un, uc, rfl, hs, hi, g1⟩ := rT_open ht
  have i0 := rI_ints h'
  have t0 := rS_sl g1
  have hl := t0.len
  have hn := t0.small
  have hml := i0.len
  have HVT := Lib.hid (fun W (hW : Below w.heap.size w W) => validT_impl _ t W (rT.mono ht hW))
  obtain ⟨s, ar, rows⟩ := t
  simp only at hs hi g1 HVT t0 hl
  have HK : Hid (colsT (s, ar, rows) cols = (colsB ar cols && validT (s, ar, rows))) := Lib.hid rfl
  have HAR : Hid (validT (s, ar, rows) = true → TOk (s, ar, rows)) := Lib.hid TOk.of
  obtain ⟨V, hV⟩ : ∃ V, validT (s, ar, rows) = V := ⟨_, rfl⟩
  rw [hV] at HVT HK HAR
  have HE0 : Hid (colsT (s, ar, rows) cols = false → grpV (s, ar, rows) cols = [] ∧ grpN (s, ar, rows) cols = []) := Lib.hid (fun h => by simp [grpV, grpN, h])
  have HE1 : Hid (colsT (s, ar, rows) cols = true → grpV (s, ar, rows) cols = canon (selRows rows cols) ∧ grpN (s, ar, rows) cols = countsOf (canon (selRows rows cols)) (selRows rows cols)) := Lib.hid (fun h => by simp [grpV, grpN, h, groups])
  clear hV ht h' g1 hs hi
  have hb0 : Below w.heap.size w w := Below.refl _ _
  go_enter Try.func63, Try.ntmps63
  obtain ⟨w1, hw1⟩ : ∃ W, W = w.alloc (.cells #[.string s, .int .i64 ar, .slice ub un uc] 34) := ⟨_, rfl⟩
  have z1 : Below w.heap.size w w1 := by rw [hw1]; exact (Below.refl _ _).alloc (Nat.le_refl _) _
  have s1 : w1.heap.size = w.heap.size + 1 := by rw [hw1]; simp
  have hb1 := on hb0 z1
  have t_0 : w1.cell? ⟨w.heap.size, 0, none⟩ = some (.string s) := by rw [hw1]; exact box_cell (Below.refl _ _) rfl
  have t_1 : w1.cell? ⟨w.heap.size, 1, none⟩ = some (.int .i64 ar) := by rw [hw1]; exact box_cell (Below.refl _ _) rfl
  have t_2 : w1.cell? ⟨w.heap.size, 2, none⟩ = some (.slice ub un uc) := by rw [hw1]; exact box_cell (Below.refl _ _) rfl
  have raw1_t_0 := t_0
  have raw1_t_1 := t_1
  have raw1_t_2 := t_2
  rw [hw1] at raw1_t_0 raw1_t_1 raw1_t_2
  go_wp2_with fail
  rw [← hw1]
  clear hw1
  clear raw1_t_0 raw1_t_1 raw1_t_2
  refine (HVT.out _ hb1).mono ?_
  rintro e w9 ⟨rfl, z9⟩
  have s2 := z9.size
  have hb2 := on hb1 z9
  replace t_0 := (z9.cell (p := ⟨w.heap.size, 0, none⟩) (by simp only []; omega)).trans t_0
  replace t_1 := (z9.cell (p := ⟨w.heap.size, 1, none⟩) (by simp only []; omega)).trans t_1
  replace t_2 := (z9.cell (p := ⟨w.heap.size, 2, none⟩) (by simp only []; omega)).trans t_2
  cases V with
  | false =>
    obtain ⟨hE1, hE2⟩ := HE0.out (by rw [HK.out, Bool.and_false])
    have H1 := Lib.hid hE1
    have H2 := Lib.hid hE2
    clear hE1 hE2
    go_wp2_with fail
    refine bodyPost_ret (v := .tuple #[.slice none 0 0, .slice none 0 0]) (by simp [results, Try.results63, go_sem]) rfl ⟨_, _, _, _, _, _, w, rfl, by rw [H1.out]; exact own_nil_S.mono (Nat.le_refl _) (Nat.le_refl _), by rw [H2.out]; exact own_nil_S.mono (Nat.le_refl _) (by omega), Nat.le_refl _, by omega, hb2⟩
  | true =>
    have hT := HAR.out rfl
    have hA := hT.ar
    have hr8 := hT.len
    simp only at hA hr8
    obtain ⟨N, rfl⟩ : ∃ N : Nat, ar = (N : Int) := ⟨ar.toNat, by omega⟩
    have hco := columnsOk_any b m d cols (N : Int) w9 (i0.below hb2) ⟨by omega, by omega⟩ (by omega)
    have HCL : Hid (colsB (N : Int) cols = true → (cols.length : Int) ≤ (N : Int)) := Lib.hid (colsB_len' (by omega))
    obtain ⟨q, hq⟩ : ∃ q, colsB (N : Int) cols = q := ⟨_, rfl⟩
    rw [hq] at hco HK HCL
    have HCO := Lib.hid hco
    clear hco hq HVT HAR hT
    go_wp2_with fail
    refine HCO.out.mono ?_
    rintro e w' ⟨rfl, rfl⟩
    cases q with
    | false =>
      obtain ⟨hE1, hE2⟩ := HE0.out (by rw [HK.out]; rfl)
      have H1 := Lib.hid hE1
      have H2 := Lib.hid hE2
      clear hE1 hE2
      go_wp2_with fail
      refine bodyPost_ret (v := .tuple #[.slice none 0 0, .slice none 0 0]) (by simp [results, Try.results63, go_sem]) rfl ⟨_, _, _, _, _, _, w, rfl, by rw [H1.out]; exact own_nil_S.mono (Nat.le_refl _) (Nat.le_refl _), by rw [H2.out]; exact own_nil_S.mono (Nat.le_refl _) (by omega), Nat.le_refl _, by omega, hb2⟩
    | true =>
      obtain ⟨hE1, hE2⟩ := HE1.out (by rw [HK.out]; rfl)
      have H1 := Lib.hid hE1
      have H2 := Lib.hid hE2
      have hm3 := HCL.out rfl
      have hm4 : m ≤ 3 := by omega
      have hun8 : un ≤ 8 := by omega
      have HBU := Lib.hid (bulk_sel (rows := rows) (cols := cols) hr8 (by omega))
      have I0 := Lib.hid (fun W (hW : Below w.heap.size w W) => i0.below hW)
      clear hE1 hE2 HE0 HE1 HK HCL HCO hml i0
      obtain ⟨w3, hw3⟩ : ∃ W, W = w9.alloc (.cells #[] 24) := ⟨_, rfl⟩
      have z3 : Below w9.heap.size w9 w3 := by rw [hw3]; exact (Below.refl _ _).alloc (Nat.le_refl _) _
      have s3 : w3.heap.size = w9.heap.size + 1 := by rw [hw3]; simp
      have hb3 := on hb2 z3
      replace t_0 := (z3.cell (p := ⟨w.heap.size, 0, none⟩) (by simp only []; omega)).trans t_0
      replace t_1 := (z3.cell (p := ⟨w.heap.size, 1, none⟩) (by simp only []; omega)).trans t_1
      replace t_2 := (z3.cell (p := ⟨w.heap.size, 2, none⟩) (by simp only []; omega)).trans t_2
      have ho : ∀ S, Acc 24 oI w9.heap.size S w3.heap.size w3 (.slice (some ⟨w9.heap.size, 0, none⟩) 0 0) [] := fun S => by rw [hw3]; exact Acc.empty (by omega) (by first | (simp; done) | (simp; omega))
      have raw3_t_0 := t_0
      have raw3_t_1 := t_1
      have raw3_t_2 := t_2
      rw [hw3] at raw3_t_0 raw3_t_1 raw3_t_2
      go_wp2_with fail
      rw [← hw3]
      clear hw3
      clear raw3_t_0 raw3_t_1 raw3_t_2
      go_loopw [6, 31] (fun v k wr => ∃ j : Nat, j ≤ un ∧ k = .int .i64 j ∧ Acc 24 oI w9.heap.size w3.heap.size wr.heap.size wr v (selRows (rows.take j) cols) ∧ Turn w9.heap.size (w9.heap.size + 1) w3 wr) (fun _ k _ => un - (intOf k).toNat)
      case atStart => exact ⟨0, Nat.zero_le _, rfl, by rw [List.take_zero]; exact (ho _).wide (Nat.le_refl _) (by omega), turn_refl _ _ _⟩
      case round =>
        obtain ⟨j, hj, rfl, hacc, hdr⟩ := hrel
        have hlc := hdr
        clear ho
        have s4 := hdr.size
        have hb4 := hb3.trans ((hdr.below (by omega)).mono (by omega))
        replace t_0 := (hdr.cell (p := ⟨w.heap.size, 0, none⟩) (by simp only []; omega) (by simp only []; omega)).trans t_0
        replace t_1 := (hdr.cell (p := ⟨w.heap.size, 1, none⟩) (by simp only []; omega) (by simp only []; omega)).trans t_1
        replace t_2 := (hdr.cell (p := ⟨w.heap.size, 2, none⟩) (by simp only []; omega) (by simp only []; omega)).trans t_2
        have hlen : (selRows (rows.take j) cols).length ≤ 8 := by rw [selRows_len]; have := List.length_take_le j rows; omega
        by_cases hlt : j < un
        · obtain ⟨b0, o0, r1, m1, q1, x, rfl, hc, hx, hi, hq1, hq2⟩ := t0.row hlt
          have hclt : b0 < w.heap.size := cell_lt hc
          have c0 : wr.cell? ⟨b0, o0 + j, none⟩ = some (.slice r1 m1 q1) := (hb4.cell (p := ⟨b0, o0 + j, none⟩) hclt).trans hc
          have HX := Lib.hid (fun W (hW : Below w.heap.size w W) => hi.below hW)
          have HS := Lib.hid (selRows_step (cs := cols) hx.out)
          clear hc hx hi hl t0
          go_wp2_with fail
          refine (sel_impl _ _ _ _ _ _ x cols _ (HX.out _ hb4) (I0.out _ hb4) (by omega)).mono ?_
          rintro e w8 ⟨ab, nb, cb, rfl, oy, z8⟩
          have s5 := z8.size
          have hb5 := on hb4 z8
          replace t_0 := (z8.cell (p := ⟨w.heap.size, 0, none⟩) (by simp only []; omega)).trans t_0
          replace t_1 := (z8.cell (p := ⟨w.heap.size, 1, none⟩) (by simp only []; omega)).trans t_1
          replace t_2 := (z8.cell (p := ⟨w.heap.size, 2, none⟩) (by simp only []; omega)).trans t_2
          replace hlc := hlc.trans (turn_below z8 (Nat.le_refl _))
          replace hacc := hacc.below z8 (by omega)
          replace c0 := (z8.cell (p := ⟨b0, o0 + j, none⟩) (by simp only []; omega)).trans c0
          have hone : ∀ z ∈ [Value.slice ab nb cb], z.oneCell' = true := by intro z hz; simp at hz; subst hz; rfl
          go_wp2_with ((at_builtin; refine wpList_acc Try.underlying32 infoI rfl (by decide) (by decide) rfl _ _ _ _ [.slice ab nb cb] (sel x cols) hacc oy hone (by omega) (by omega) (by omega) (by omega) hlc rfl (by omega) (by omega) rfl rfl rfl rfl rfl ?_; intro v' w1 hacc' ht' hsz'))
          rw [← HS.out] at hacc'
          go_roundw
          case rel => exact ⟨j + 1, by omega, by go_num, hacc', ht'⟩
          case measure => simp [intOf]; omega
        · obtain rfl : un = j := by omega
          obtain ⟨wl, rfl⟩ : ∃ W, W = wr := ⟨_, rfl⟩
          obtain ⟨ab, an, ac, rfl⟩ := hacc.form3
          rw [List.take_of_length_le (by omega)] at hacc
          have o1 := hacc.own (B := w9.heap.size) (hi' := wl.heap.size) (Nat.le_refl _) (by omega) (by omega)
          obtain ⟨all, hall⟩ : ∃ all, selRows rows cols = all := ⟨_, rfl⟩
          have hal8 : all.length ≤ 8 := by rw [← hall, selRows_len]; omega
          rw [hall] at o1 H1 H2 HBU
          clear hacc hall hlen t0 hl I0
          clear hlc
          go_wp2_with fail
          refine (sorted_any _ all _ (o1.rd reads_II) (by have := HBU.out; omega)).mono ?_
          rintro e wS ⟨u, rfl, o2, zS⟩
          obtain ⟨gb, gn, gc, rfl⟩ := oII_form1 o2
          have s6 := zS.size
          have hb6 := on hb4 zS
          replace t_0 := (zS.cell (p := ⟨w.heap.size, 0, none⟩) (by simp only []; omega)).trans t_0
          replace t_1 := (zS.cell (p := ⟨w.heap.size, 1, none⟩) (by simp only []; omega)).trans t_1
          replace t_2 := (zS.cell (p := ⟨w.heap.size, 2, none⟩) (by simp only []; omega)).trans t_2
          replace o1 := o1.below zS (by omega)
          obtain ⟨gs, hgs⟩ : ∃ gs, canon all = gs := ⟨_, rfl⟩
          have hgl8 : gs.length ≤ 8 := by rw [← hgs]; have := canon_len all; omega
          rw [hgs] at o2 H1 H2
          have hgl := (rS_sl (o2.rd reads_II)).len
          have hal := (rS_sl (o1.rd reads_II)).len
          have HGL := Lib.hid hgl
          have HAL := Lib.hid hal
          have hgn : gn ≤ 8 := by omega
          have han : an ≤ 8 := by omega
          clear hgs hgl hal
          go_wp2_with (at_make; refine wpList_mk _ _ gn (by omega) rfl rfl rfl rfl ?_; intro wM hown zM hzM; have s7 := zM.size; have hb7 := on hb6 zM; replace t_0 := (zM.cell (p := ⟨w.heap.size, 0, none⟩) (by simp only []; omega)).trans t_0; replace t_1 := (zM.cell (p := ⟨w.heap.size, 1, none⟩) (by simp only []; omega)).trans t_1; replace t_2 := (zM.cell (p := ⟨w.heap.size, 2, none⟩) (by simp only []; omega)).trans t_2; replace o1 := o1.below zM (by omega); replace o2 := o2.below zM (by omega))
          have hwM : wM.heap.size = wM.heap.size := rfl
          clear hwM
          have H0 : Hid (List.replicate gn (0 : Int) = countsOf (gs.take 0) all ++ List.replicate (gn - 0) 0) := Lib.hid (by simp [countsOf])
          go_loopw [53] (fun k wr => ∃ j : Nat, j ≤ gn ∧ k = .int .i64 j ∧ wr.ownsRow wS.heap.size 3 1 (.slice (some ⟨wS.heap.size, 0, none⟩) gn gn) gn ((countsOf (gs.take j) all ++ List.replicate (gn - j) 0).map (Value.int .i64)) ∧ Turn wS.heap.size (wS.heap.size + 1) wM wr) (fun k _ => gn - (intOf k).toNat)
          case atStart => exact ⟨0, Nat.zero_le _, rfl, by rw [← H0.out]; exact hown, turn_refl _ _ _⟩
          case round =>
            obtain ⟨j, hj, rfl, hcl, hdr⟩ := hrel
            have hlc := hdr
            obtain ⟨wo, rfl⟩ : ∃ W, W = wr := ⟨_, rfl⟩
            clear hown H0
            have s8 := hdr.size
            have hb8 := hb7.trans ((hdr.below (by omega)).mono (by omega))
            replace t_0 := (hdr.cell (p := ⟨w.heap.size, 0, none⟩) (by simp only []; omega) (by simp only []; omega)).trans t_0
            replace t_1 := (hdr.cell (p := ⟨w.heap.size, 1, none⟩) (by simp only []; omega) (by simp only []; omega)).trans t_1
            replace t_2 := (hdr.cell (p := ⟨w.heap.size, 2, none⟩) (by simp only []; omega) (by simp only []; omega)).trans t_2
            replace o1 := o1.turn hdr (by omega)
            replace o2 := o2.turn hdr (by omega)
            by_cases hlt : j < gn
            · obtain ⟨b0, o0, r1, m1, q1, g, rfl, hc, hx, hig, _, _⟩ := (rS_sl (o2.rd reads_II)).row hlt
              have c0 : wo.cell? ⟨b0, o0 + j, none⟩ = some (.slice r1 m1 q1) := hc
              have o2b := o2
              have hb0r := (own_blk o2).2
              have hb0lt := cell_lt hc
              simp only at hb0lt
              have hkg := fun (W : World) (hW : Turn wS.heap.size (wS.heap.size + 1) wo W) => row_keep o2b hc hlt hx.out hW (by omega)
              have HKG := Lib.hid hkg
              have HEND := Lib.hid (cl_end (all := all) (n := gn) hx.out)
              rw [cl_start hlt] at hcl
              have HST : Hid (0 = cntRow g (all.take 0)) := Lib.hid (by simp [cntRow])
              clear hkg o2b hc hx hig
              go_wp2_with fail
              go_loopw [60] (fun k wr => ∃ i c : Nat, i ≤ an ∧ k = .int .i64 i ∧ Hid (c = cntRow g (all.take i)) ∧ c ≤ i ∧ wr.ownsRow wS.heap.size 3 1 (.slice (some ⟨wS.heap.size, 0, none⟩) gn gn) gn ((cl gs all gn j c).map (Value.int .i64)) ∧ Turn wS.heap.size (wS.heap.size + 1) wM wr ∧ Turn wS.heap.size (wS.heap.size + 1) wo wr) (fun k _ => an - (intOf k).toNat)
              case atStart => exact ⟨0, 0, Nat.zero_le _, rfl, HST.out, Nat.le_refl _, hcl, hlc, turn_refl _ _ _⟩
              case round =>
                obtain ⟨i, c, hi, rfl, hC, hci, hcl2, hdr2, hdr3⟩ := hrel
                clear hcl HST
                have s9 := hdr3.size
                have hb9 := hb8.trans ((hdr3.below (by omega)).mono (by omega))
                replace t_0 := (hdr3.cell (p := ⟨w.heap.size, 0, none⟩) (by simp only []; omega) (by simp only []; omega)).trans t_0
                replace t_1 := (hdr3.cell (p := ⟨w.heap.size, 1, none⟩) (by simp only []; omega) (by simp only []; omega)).trans t_1
                replace t_2 := (hdr3.cell (p := ⟨w.heap.size, 2, none⟩) (by simp only []; omega) (by simp only []; omega)).trans t_2
                replace o1 := o1.turn hdr3 (by omega)
                replace o2 := o2.turn hdr3 (by omega)
                replace c0 := (hdr3.cell (p := ⟨b0, o0 + j, none⟩) (by simp only []; omega) (by simp only []; omega)).trans c0
                by_cases hlti : i < an
                · obtain ⟨b3, o3, r3, m3, q3, x, rfl, hc3, hx3, hix, _, _⟩ := (rS_sl (o1.rd reads_II)).row hlti
                  have c3 := hc3
                  have hb3lt := cell_lt hc3
                  simp only at hb3lt
                  have hb3r := (own_blk o1).2
                  have hc8 : c ≤ 8 := by omega
                  obtain ⟨t, htt⟩ : ∃ t, decide (g = x) = t := ⟨_, rfl⟩
                  have hce := equalInts r1 r3 m1 m3 q1 q3 g x wr (HKG.out wr hdr3) hix
                  rw [htt] at hce
                  have HCE := Lib.hid hce
                  have HCT := Lib.hid (cntRow_take (g := g) hx3.out)
                  have HIX : Hid (cntRow g (all.take (i + 1)) = c + (if x = g then 1 else 0)) := Lib.hid (by rw [HCT.out, ← hC.out])
                  clear hce hc3 hx3 hix hC HCT
                  cases t with
                  | false =>
                    have HN : Hid (c = cntRow g (all.take (i + 1))) := Lib.hid (by rw [HIX.out, if_neg (fun h => by rw [h] at htt; simp at htt)]; rfl)
                    clear htt HIX
                    go_wp2_with fail
                    refine (HCE.out).mono ?_
                    rintro e w10 ⟨rfl, z10⟩
                    replace z10 : Below wr.heap.size wr w10 := z10.below _
                    have s11 := z10.size
                    have hb11 := on hb9 z10
                    replace t_0 := (z10.cell (p := ⟨w.heap.size, 0, none⟩) (by simp only []; omega)).trans t_0
                    replace t_1 := (z10.cell (p := ⟨w.heap.size, 1, none⟩) (by simp only []; omega)).trans t_1
                    replace t_2 := (z10.cell (p := ⟨w.heap.size, 2, none⟩) (by simp only []; omega)).trans t_2
                    replace o1 := o1.below z10 (by omega)
                    replace o2 := o2.below z10 (by omega)
                    replace c0 := (z10.cell (p := ⟨b0, o0 + j, none⟩) (by simp only []; omega)).trans c0
                    replace c3 := (z10.cell (p := ⟨b3, o3 + i, none⟩) (by simp only []; omega)).trans c3
                    have HR := Lib.hid (own_below hcl2 z10 (Nat.le_refl _))
                    replace hdr2 := hdr2.trans (turn_below z10 (Nat.le_refl _))
                    replace hdr3 := hdr3.trans (turn_below z10 (Nat.le_refl _))
                    clear hcl2
                    go_wp2_with fail
                    go_roundw
                    case rel => exact ⟨i + 1, c, by omega, by go_num, HN.out, by omega, HR.out, hdr2, hdr3⟩
                    case measure => simp [intOf]; omega
                  | true =>
                    have HN : Hid (c + 1 = cntRow g (all.take (i + 1))) := Lib.hid (by rw [HIX.out, if_pos (of_decide_eq_true htt).symm])
                    clear htt HIX
                    go_wp2_with fail
                    refine (HCE.out).mono ?_
                    rintro e w12 ⟨rfl, z12⟩
                    replace z12 : Below wr.heap.size wr w12 := z12.below _
                    have s13 := z12.size
                    have hb13 := on hb9 z12
                    replace t_0 := (z12.cell (p := ⟨w.heap.size, 0, none⟩) (by simp only []; omega)).trans t_0
                    replace t_1 := (z12.cell (p := ⟨w.heap.size, 1, none⟩) (by simp only []; omega)).trans t_1
                    replace t_2 := (z12.cell (p := ⟨w.heap.size, 2, none⟩) (by simp only []; omega)).trans t_2
                    replace o1 := o1.below z12 (by omega)
                    replace o2 := o2.below z12 (by omega)
                    replace c0 := (z12.cell (p := ⟨b0, o0 + j, none⟩) (by simp only []; omega)).trans c0
                    replace c3 := (z12.cell (p := ⟨b3, o3 + i, none⟩) (by simp only []; omega)).trans c3
                    have hcl3 := own_below hcl2 z12 (Nat.le_refl _)
                    replace hdr2 := hdr2.trans (turn_below z12 (Nat.le_refl _))
                    replace hdr3 := hdr3.trans (turn_below z12 (Nat.le_refl _))
                    clear hcl2
                    have cj : w12.cell? ⟨wS.heap.size, j, none⟩ = some (.int .i64 (c : Int)) := by
                      rw [hcl3.cellAt j (by omega), List.getElem?_map, cl_get HGL.out hlt]; rfl
                    have hfz := hcl3.frozenAt j
                    have HR : Hid ((w12.setCell ⟨wS.heap.size, j, none⟩ (.int .i64 ((c : Int) + 1))).ownsRow wS.heap.size 3 1 (.slice (some ⟨wS.heap.size, 0, none⟩) gn gn) gn ((cl gs all gn j (c + 1)).map (Value.int .i64))) := Lib.hid (by
                      have h9 := (hcl3.stored j (.int .i64 ((c : Int) + 1))).1
                      rw [← cl_set HGL.out hlt, List.map_set]; exact h9)
                    clear hcl3
                    go_wp2_with fail
                    go_roundw
                    case rel => exact ⟨i + 1, c + 1, by omega, by go_num, HN.out, by omega, HR.out, hdr2.setIn (p := ⟨wS.heap.size, j, none⟩) (Nat.le_refl _) (Nat.lt_succ_self _) _, hdr3.setIn (p := ⟨wS.heap.size, j, none⟩) (Nat.le_refl _) (Nat.lt_succ_self _) _⟩
                    case measure => simp [intOf]; omega
                · have HN : Hid (cl gs all gn j c = countsOf (gs.take (j + 1)) all ++ List.replicate (gn - (j + 1)) 0) := Lib.hid (by
                    rw [hC.out, List.take_of_length_le (by have := HAL.out; omega), HEND.out])
                  rw [HN.out] at hcl2
                  have HR := Lib.hid hcl2
                  clear hcl2 hC
                  go_wp2_with fail
                  go_roundw
                  case rel => exact ⟨j + 1, by omega, by go_num, HR.out, hdr2⟩
                  case measure => simp [intOf]; omega
            · have hjn : j = gn := by omega
              have e : countsOf (gs.take j) all ++ List.replicate (gn - j) 0 = countsOf gs all := by
                rw [List.take_of_length_le (by have := HGL.out; omega), show gn - j = 0 by omega]; simp
              rw [e] at hcl
              have HO : Hid (OwnInts wS.heap.size wo (.slice (some ⟨wS.heap.size, 0, none⟩) gn gn) gn (countsOf gs all)) := Lib.hid ⟨by rw [countsOf_len]; exact HGL.out, hcl, fun y hy => by
                simp only [countsOf, List.mem_map] at hy
                obtain ⟨z, _, rfl⟩ := hy
                have := cntRow_le z all
                exact ⟨by omega, by omega⟩⟩
              have HO2 := Lib.hid (o2.mono (lo' := w.heap.size) (hi' := wS.heap.size) (by omega) (by omega))
              clear hcl e o2 o1
              go_wp2_with fail
              refine bodyPost_ret (v := .tuple #[.slice gb gn gc, .slice (some ⟨wS.heap.size, 0, none⟩) gn gn]) (by simp [results, Try.results63, go_sem]) rfl ⟨_, _, _, _, _, _, wS, rfl, by rw [H1.out]; exact HO2.out, by rw [H2.out]; exact HO.out.own, by omega, by omega, hb8⟩

end Go.Proofs.Ytbkoddikfpkocaa

/- Contracts: groups of a table and their counts, by the reference. -/
namespace Go.Proofs.Ytbkoddikfpkocaa
open Go.RowKit
set_option linter.unusedVariables false
set_option linter.unusedSimpArgs false
set_option synthInstance.maxSize 2000
set_option synthInstance.maxHeartbeats 400000

theorem Acc.turn {α : Type} {E : TypeId} {o : OS α} {lo S hi lo' hi' : Nat} {w w' : World} {v : Value} {xs : List α} (h : Acc E o lo S hi w v xs) (ht : Turn lo' hi' w w') (h1 : lo < lo' ∨ hi' ≤ lo) (h2 : hi' ≤ S) (hs : hi ≤ w.heap.size) : Acc E o lo S hi w' v xs := by
  obtain ⟨fp, h3, h4, h5⟩ := h
  exact ⟨fp, (O.slice E o).frame h3 (fun k hk => ht.block k (by have := (h5 k hk).2; omega) (by have := (h5 k hk).1; omega)), h4, h5⟩
theorem Acc.rdII {lo S hi : Nat} {w : World} {v : Value} {xs : List (List Int)} (h : Acc 24 oI lo S hi w v xs) : rII.rep w [v] xs := (h.own (B := 0) (Nat.zero_le _) (Nat.zero_le _) (Nat.le_refl _)).rd reads_II
theorem canon_step {rows : List (List Int)} {cs r : List Int} {j : Nat} (h : rows[j]? = some r) : canon (selRows (rows.take (j + 1)) cs) = putL (sel r cs) false (canon (selRows (rows.take j) cs)) := by
  rw [selRows_step h, canon_snoc]

set_option maxRecDepth 100000 in
set_option maxHeartbeats 4000000 in
theorem groups_spec (v : Value) (cs : List Value) (t : DT) (cols : List Int) (w : World) (ht : rT.rep w cs t) (h' : rI.rep w [v] cols) :
    Calls Try.prog 61 #[.agg cs.toArray, v] w fun e w' => ∃ b1 n1 c1 b2 n2 c2, e = .returned (.tuple #[.slice b1 n1 c1, .slice b2 n2 c2]) ∧ Own oII w.heap.size w'.heap.size w' [.slice b1 n1 c1] (grpV t cols) ∧ Own oI w.heap.size w'.heap.size w' [.slice b2 n2 c2] (grpN t cols) ∧ Below w.heap.size w w' := by
  obtain ⟨b, m, d, hv⟩ := rI_form h'
  simp at hv; subst hv
  obtain ⟨ub, un, uc, rfl, hs, hi, g1⟩ := rT_open ht
  have i0 := rI_ints h'
  have t0 := rS_sl g1
  have hl := t0.len
  have hn := t0.small
  have hml := i0.len
  have HVT := Lib.hid (fun W (hW : Below w.heap.size w W) => l10Cols_any _ t b m d cols W (rT.mono ht hW) (i0.below hW))
  obtain ⟨s, ar, rows⟩ := t
  simp only at hs hi g1 HVT t0 hl
  have HAR : Hid (colsT (s, ar, rows) cols = true → TOk (s, ar, rows) ∧ colsB ar cols = true) := Lib.hid (fun h => by rw [colsT, Bool.and_eq_true] at h; exact ⟨TOk.of h.2, h.1⟩)
  have HE0 : Hid (colsT (s, ar, rows) cols = false → grpV (s, ar, rows) cols = [] ∧ grpN (s, ar, rows) cols = []) := Lib.hid (fun h => by simp [grpV, grpN, h])
  have HE1 : Hid (colsT (s, ar, rows) cols = true → grpV (s, ar, rows) cols = canon (selRows rows cols) ∧ grpN (s, ar, rows) cols = countsOf (canon (selRows rows cols)) (selRows rows cols)) := Lib.hid (fun h => by simp [grpV, grpN, h, groups])
  obtain ⟨V, hV⟩ : ∃ V, colsT (s, ar, rows) cols = V := ⟨_, rfl⟩
  rw [hV] at HAR HE0 HE1
  have HVT2 : Hid (∀ W, Below w.heap.size w W → Calls Try.prog 133 #[.agg #[.string s, .int .i64 ar, .slice ub un uc], .slice b m d] W fun e w' => e = .returned (.bool V) ∧ Below W.heap.size W w') := Lib.hid (fun W hW => by rw [← hV]; exact HVT.out W hW)
  clear hV ht h' g1 hs hi HVT
  have hb0 : Below w.heap.size w w := Below.refl _ _
  go_enter Try.func61, Try.ntmps61
  obtain ⟨w1, hw1⟩ : ∃ W, W = w.alloc (.cells #[.string s, .int .i64 ar, .slice ub un uc] 34) := ⟨_, rfl⟩
  have z1 : Below w.heap.size w w1 := by rw [hw1]; exact (Below.refl _ _).alloc (Nat.le_refl _) _
  have s1 : w1.heap.size = w.heap.size + 1 := by rw [hw1]; simp
  have hb1 := on hb0 z1
  have t_0 : w1.cell? ⟨w.heap.size, 0, none⟩ = some (.string s) := by rw [hw1]; exact box_cell (Below.refl _ _) rfl
  have t_1 : w1.cell? ⟨w.heap.size, 1, none⟩ = some (.int .i64 ar) := by rw [hw1]; exact box_cell (Below.refl _ _) rfl
  have t_2 : w1.cell? ⟨w.heap.size, 2, none⟩ = some (.slice ub un uc) := by rw [hw1]; exact box_cell (Below.refl _ _) rfl
  have raw1_t_0 := t_0
  have raw1_t_1 := t_1
  have raw1_t_2 := t_2
  rw [hw1] at raw1_t_0 raw1_t_1 raw1_t_2
  obtain ⟨w2, hw2⟩ : ∃ W, W = w1.alloc (.cells #[] 24) := ⟨_, rfl⟩
  have z2 : Below w1.heap.size w1 w2 := by rw [hw2]; exact (Below.refl _ _).alloc (Nat.le_refl _) _
  have s2 : w2.heap.size = w1.heap.size + 1 := by rw [hw2]; simp
  have hb2 := on hb1 z2
  replace t_0 := (z2.cell (p := ⟨w.heap.size, 0, none⟩) (by simp only []; omega)).trans t_0
  replace t_1 := (z2.cell (p := ⟨w.heap.size, 1, none⟩) (by simp only []; omega)).trans t_1
  replace t_2 := (z2.cell (p := ⟨w.heap.size, 2, none⟩) (by simp only []; omega)).trans t_2
  have he1 : ∀ S, Acc 24 oI w1.heap.size S w2.heap.size w2 (.slice (some ⟨w.heap.size + 1, 0, none⟩) 0 0) [] := fun S => by rw [hw2]; exact Acc.empty (by omega) (by first | (simp; done) | (simp; omega))
  have raw2_t_0 := t_0
  have raw2_t_1 := t_1
  have raw2_t_2 := t_2
  rw [hw2, hw1] at raw2_t_0 raw2_t_1 raw2_t_2
  obtain ⟨w3, hw3⟩ : ∃ W, W = w2.alloc (.cells #[] 3) := ⟨_, rfl⟩
  have z3 : Below w2.heap.size w2 w3 := by rw [hw3]; exact (Below.refl _ _).alloc (Nat.le_refl _) _
  have s3 : w3.heap.size = w2.heap.size + 1 := by rw [hw3]; simp
  have hb3 := on hb2 z3
  replace t_0 := (z3.cell (p := ⟨w.heap.size, 0, none⟩) (by simp only []; omega)).trans t_0
  replace t_1 := (z3.cell (p := ⟨w.heap.size, 1, none⟩) (by simp only []; omega)).trans t_1
  replace t_2 := (z3.cell (p := ⟨w.heap.size, 2, none⟩) (by simp only []; omega)).trans t_2
  replace he1 := fun S => (he1 S).below z3 (by omega)
  have he2 : ∀ S, Acc 3 O.int w2.heap.size S w3.heap.size w3 (.slice (some ⟨w.heap.size + 1 + 1, 0, none⟩) 0 0) [] := fun S => by rw [hw3]; exact Acc.empty (by omega) (by first | (simp; done) | (simp; omega))
  have raw3_t_0 := t_0
  have raw3_t_1 := t_1
  have raw3_t_2 := t_2
  rw [hw3, hw2, hw1] at raw3_t_0 raw3_t_1 raw3_t_2
  go_wp2_with fail
  rw [← hw1]
  rw [← hw2]
  rw [← hw3]
  clear hw3 hw2 hw1
  clear raw1_t_0 raw1_t_1 raw1_t_2 raw2_t_0 raw2_t_1 raw2_t_2 raw3_t_0 raw3_t_1 raw3_t_2
  refine (HVT2.out _ hb3).mono ?_
  rintro e w9 ⟨rfl, z9⟩
  have s4 := z9.size
  have hb4 := on hb3 z9
  replace t_0 := (z9.cell (p := ⟨w.heap.size, 0, none⟩) (by simp only []; omega)).trans t_0
  replace t_1 := (z9.cell (p := ⟨w.heap.size, 1, none⟩) (by simp only []; omega)).trans t_1
  replace t_2 := (z9.cell (p := ⟨w.heap.size, 2, none⟩) (by simp only []; omega)).trans t_2
  replace he1 := fun S => (he1 S).below z9 (by omega)
  replace he2 := fun S => (he2 S).below z9 (by omega)
  cases V with
  | false =>
    obtain ⟨hE1, hE2⟩ := HE0.out rfl
    have H1 := Lib.hid hE1
    have H2 := Lib.hid hE2
    have HO1 := Lib.hid ((he1 w9.heap.size).own (B := w.heap.size) (hi' := w9.heap.size) (by omega) (by omega) (by omega))
    have HO2 := Lib.hid ((he2 w9.heap.size).own (B := w.heap.size) (hi' := w9.heap.size) (by omega) (by omega) (by omega))
    clear hE1 hE2 he1 he2
    go_wp2_with fail
    refine bodyPost_ret (v := .tuple #[.slice (some ⟨w.heap.size + 1, 0, none⟩) 0 0, .slice (some ⟨w.heap.size + 1 + 1, 0, none⟩) 0 0]) (by simp [results, Try.results61, go_sem]) rfl ⟨_, _, _, _, _, _, rfl, by rw [H1.out]; exact HO1.out, by rw [H2.out]; exact HO2.out, hb4⟩
  | true =>
    obtain ⟨hT, hcb⟩ := HAR.out rfl
    have hA := hT.ar
    have hr8 := hT.len
    simp only at hA hr8
    have hm3 := colsB_len' (by omega) hcb
    have hcl3 : cols.length ≤ 3 := by omega
    obtain ⟨hE1, hE2⟩ := HE1.out rfl
    have H1 := Lib.hid hE1
    have H2 := Lib.hid hE2
    have hm4 : m ≤ 3 := by omega
    have hun8 : un ≤ 8 := by omega
    have I0 := Lib.hid (fun W (hW : Below w.heap.size w W) => i0.below hW)
    clear hE1 hE2 HE0 HE1 HVT2 HAR hml i0 hT hcb hm3
    go_wp2_with fail
    go_loopw [6, 8] (fun v k wr => ∃ j : Nat, j ≤ un ∧ k = .int .i64 j ∧ Acc 24 oI w1.heap.size w9.heap.size wr.heap.size wr v (canon (selRows (rows.take j) cols)) ∧ Below w9.heap.size w9 wr) (fun _ k _ => un - (intOf k).toNat)
    case atStart => exact ⟨0, Nat.zero_le _, rfl, by rw [List.take_zero]; exact (he1 _).wide (Nat.le_refl _) (by omega), Below.refl _ _⟩
    case round =>
      obtain ⟨j, hj, rfl, hacc, hdr⟩ := hrel
      have hlc := hdr
      clear he1
      have s5 := hdr.size
      have hb5 := on hb4 hdr
      replace t_0 := (hdr.cell (p := ⟨w.heap.size, 0, none⟩) (by simp only []; omega)).trans t_0
      replace t_1 := (hdr.cell (p := ⟨w.heap.size, 1, none⟩) (by simp only []; omega)).trans t_1
      replace t_2 := (hdr.cell (p := ⟨w.heap.size, 2, none⟩) (by simp only []; omega)).trans t_2
      replace he2 := fun S => (he2 S).below hdr (by omega)
      have hclen : (canon (selRows (rows.take j) cols)).length ≤ 8 := by have := canon_len (selRows (rows.take j) cols); rw [selRows_len] at this; have := List.length_take_le j rows; omega
      have hcrow : ∀ (i : Nat) (x : List Int), (canon (selRows (rows.take j) cols))[i]? = some x → x.length ≤ 3 := fun i x hx => by
        have h9 := canon_mem.1 (List.mem_of_getElem? hx)
        simp only [selRows, List.mem_map] at h9
        obtain ⟨y, _, rfl⟩ := h9
        have := sel_len y cols; omega
      by_cases hlt : j < un
      · obtain ⟨b0, o0, r1, m1, q1, x, rfl, hc, hx, hi, hq1, hq2⟩ := t0.row hlt
        have hclt : b0 < w.heap.size := cell_lt hc
        have c0 : wr.cell? ⟨b0, o0 + j, none⟩ = some (.slice r1 m1 q1) := (hb5.cell (p := ⟨b0, o0 + j, none⟩) hclt).trans hc
        have HX := Lib.hid (fun W (hW : Below w.heap.size w W) => hi.below hW)
        have HS := Lib.hid (canon_step (cs := cols) hx.out)
        have HCR := Lib.hid hcrow
        clear hc hx hi hl t0 hcrow
        go_wp2_with fail
        refine (sel_spec _ _ _ _ _ _ x cols _ (HX.out _ hb5) (I0.out _ hb5) (by omega)).mono ?_
        rintro e w8 ⟨ab, nb, cb, rfl, oy, z8⟩
        have s6 := z8.size
        have hb6 := on hb5 z8
        replace t_0 := (z8.cell (p := ⟨w.heap.size, 0, none⟩) (by simp only []; omega)).trans t_0
        replace t_1 := (z8.cell (p := ⟨w.heap.size, 1, none⟩) (by simp only []; omega)).trans t_1
        replace t_2 := (z8.cell (p := ⟨w.heap.size, 2, none⟩) (by simp only []; omega)).trans t_2
        replace he2 := fun S => (he2 S).below z8 (by omega)
        replace hlc := on hlc z8
        replace c0 := (z8.cell (p := ⟨b0, o0 + j, none⟩) (by simp only []; omega)).trans c0
        replace hacc := hacc.below z8 (by omega)
        obtain ⟨va, vn, vc, rfl⟩ := hacc.form3
        have hxl := sel_len x cols
        have HSR : Hid (rI.rep w8 [.slice ab nb cb] (sel x cols)) := Lib.hid (oy.rd reads_I)
        clear oy
        go_wp2_with fail
        refine (l4Put_any _ _ _ (sel x cols) _ hacc.rdII HSR.out (by omega) (fun i y hy => by have := HCR.out i y hy; omega) (by omega)).mono ?_
        rintro e wP ⟨pa, pn, pc, rfl, op, zP⟩
        have sP := zP.size
        replace hlc := on hlc zP
        rw [← HS.out] at op
        go_wp2_with fail
        go_roundw
        case rel => exact ⟨j + 1, by omega, by go_num, (Acc.of op).wide (by omega) (Nat.le_refl _), hlc⟩
        case measure => simp [intOf]; omega
      · obtain rfl : un = j := by omega
        obtain ⟨wl, rfl⟩ : ∃ W, W = wr := ⟨_, rfl⟩
        rw [List.take_of_length_le (by omega)] at hacc
        obtain ⟨va, vn, vc, rfl⟩ := hacc.form3
        obtain ⟨all, hall⟩ : ∃ all, selRows rows cols = all := ⟨_, rfl⟩
        have HALL : Hid (∀ (i : Nat) (x : List Int), rows[i]? = some x → all[i]? = some (sel x cols)) := Lib.hid (fun i x h => by rw [← hall]; exact selRows_get h)
        have hal : all.length = un := by rw [← hall, selRows_len]; exact hl
        rw [hall] at hacc H1 H2
        obtain ⟨gs, hgs⟩ : ∃ gs, canon all = gs := ⟨_, rfl⟩
        rw [hgs] at hacc H1 H2
        have hgl := (rS_sl hacc.rdII).len
        have hgl8 : gs.length ≤ 8 := by rw [← hgs]; have := canon_len all; omega
        have hvn : vn ≤ 8 := by omega
        have HAL := Lib.hid hal
        have HGL := Lib.hid hgl
        clear hall hgs hclen hcrow hal hl hgl
        clear hlc
        go_wp2_with fail
        go_loopw [7, 11] (fun v k wr => ∃ j : Nat, j ≤ vn ∧ k = .int .i64 j ∧ Acc 3 O.int w2.heap.size wl.heap.size wr.heap.size wr v (countsOf (gs.take j) all) ∧ Turn w2.heap.size (w2.heap.size + 1) wl wr) (fun _ k _ => vn - (intOf k).toNat)
        case atStart => exact ⟨0, Nat.zero_le _, rfl, by rw [List.take_zero]; exact (he2 _).wide (Nat.le_refl _) (by omega), turn_refl _ _ _⟩
        case round =>
          obtain ⟨j, hj, rfl, hcc, hdr⟩ := hrel
          have hld := hdr
          clear he2
          obtain ⟨wo, rfl⟩ : ∃ W, W = wr := ⟨_, rfl⟩
          replace hacc := Acc.turn hacc hdr (show w1.heap.size < w2.heap.size ∨ w2.heap.size + 1 ≤ w1.heap.size by omega) (show w2.heap.size + 1 ≤ w9.heap.size by omega) (Nat.le_refl _)
          have s7 := hdr.size
          have hb7 := hb5.trans ((hdr.below (by omega)).mono (by omega))
          replace t_0 := (hdr.cell (p := ⟨w.heap.size, 0, none⟩) (by simp only []; omega) (by simp only []; omega)).trans t_0
          replace t_1 := (hdr.cell (p := ⟨w.heap.size, 1, none⟩) (by simp only []; omega) (by simp only []; omega)).trans t_1
          replace t_2 := (hdr.cell (p := ⟨w.heap.size, 2, none⟩) (by simp only []; omega) (by simp only []; omega)).trans t_2
          by_cases hlt : j < vn
          · obtain ⟨b0, o0, r1, m1, q1, g, rfl, hc, hx, hig, _, _⟩ := (rS_sl hacc.rdII).row hlt
            have c0 := hc
            have hb0lt := cell_lt hc
            simp only at hb0lt
            have HIG := Lib.hid (fun W (hW : Below wo.heap.size wo W) => hig.below hW)
            have HS := Lib.hid (countsOf_step (all := all) hx.out)
            have H0 : Hid (cntRow g all = 0 + cntRow g (all.drop 0)) := Lib.hid (by simp)
            have hcl8 : (countsOf (gs.take j) all).length ≤ 8 := by rw [countsOf_len]; have := List.length_take_le j gs; omega
            clear hc hx hig
            have hle0 : Below wo.heap.size wo wo := Below.refl _ _
            go_wp2_with fail
            go_loopw [12, 13] (fun n i wr => ∃ i' c : Nat, i' ≤ un ∧ i = .int .i64 i' ∧ n = .int .i64 c ∧ c ≤ i' ∧ Hid (cntRow g all = c + cntRow g (all.drop i')) ∧ Below wo.heap.size wo wr) (fun _ i _ => un - (intOf i).toNat)
            case atStart => exact ⟨0, 0, Nat.zero_le _, rfl, rfl, Nat.le_refl _, H0.out, Below.refl _ _⟩
            case round =>
              obtain ⟨i, c, hi, rfl, rfl, hci, hC, hdr2⟩ := hrel
              have hle := hdr2
              clear H0 hle0
              have s8 := hdr2.size
              have hb8 := on hb7 hdr2
              replace t_0 := (hdr2.cell (p := ⟨w.heap.size, 0, none⟩) (by simp only []; omega)).trans t_0
              replace t_1 := (hdr2.cell (p := ⟨w.heap.size, 1, none⟩) (by simp only []; omega)).trans t_1
              replace t_2 := (hdr2.cell (p := ⟨w.heap.size, 2, none⟩) (by simp only []; omega)).trans t_2
              replace hacc := hacc.below hdr2 (by omega)
              replace c0 := (hdr2.cell (p := ⟨b0, o0 + j, none⟩) (by simp only []; omega)).trans c0
              replace hcc := hcc.below hdr2 (by omega)
              replace hld := hld.trans (turn_below hdr2 (Nat.le_refl _))
              by_cases hlti : i < un
              · obtain ⟨b3, o3, r3, m3, q3, x, rfl, hc3, hx3, hi3, _, _⟩ := t0.row hlti
                have hclt3 : b3 < w.heap.size := cell_lt hc3
                have c3 : wr.cell? ⟨b3, o3 + i, none⟩ = some (.slice r3 m3 q3) := (hb8.cell (p := ⟨b3, o3 + i, none⟩) hclt3).trans hc3
                have HX := Lib.hid (fun W (hW : Below w.heap.size w W) => hi3.below hW)
                obtain ⟨d, hd⟩ : ∃ d, d = cmpRows (sel x cols) g := ⟨_, rfl⟩
                have hrng : d = -1 ∨ d = 0 ∨ d = 1 := by rw [hd]; exact cmpRows_rng _ _
                have HC : Hid (cntRow g all = c + ((if d = 0 then 1 else 0) + cntRow g (all.drop (i + 1)))) := Lib.hid (by
                  rw [hC.out, cntRow_at (HALL.out i x hx3.out), hd]
                  by_cases e : sel x cols = g
                  · rw [if_pos e, if_pos ((cmpRows_zero _ _).2 e)]
                  · rw [if_neg e, if_neg (fun h => e ((cmpRows_zero _ _).1 h))])
                have HCMP : Hid (∀ (ab : Option Addr) (nb cb : Nat) (W : World), Ints W ab nb (sel x cols) → Below wo.heap.size wo W → Calls Try.prog 104 #[.slice ab nb cb, .slice r1 m1 q1] W fun e w' => e = .returned (.int .i64 d) ∧ Drew W w') := Lib.hid (fun ab nb cb W h1 h2 => by rw [hd]; exact cmp_spec ab r1 nb m1 cb q1 _ g W h1 (HIG.out W h2))
                clear hc3 hx3 hi3 t0 hd hC
                go_wp2_with fail
                refine (sel_spec _ _ _ _ _ _ x cols _ (HX.out _ hb8) (I0.out _ hb8) (by omega)).mono ?_
                rintro e w8 ⟨ab, nb, cb, rfl, oy, z8⟩
                have s9 := z8.size
                have hb9 := on hb8 z8
                replace t_0 := (z8.cell (p := ⟨w.heap.size, 0, none⟩) (by simp only []; omega)).trans t_0
                replace t_1 := (z8.cell (p := ⟨w.heap.size, 1, none⟩) (by simp only []; omega)).trans t_1
                replace t_2 := (z8.cell (p := ⟨w.heap.size, 2, none⟩) (by simp only []; omega)).trans t_2
                replace hacc := hacc.below z8 (by omega)
                replace c0 := (z8.cell (p := ⟨b0, o0 + j, none⟩) (by simp only []; omega)).trans c0
                replace hcc := hcc.below z8 (by omega)
                replace hld := hld.trans (turn_below z8 (Nat.le_refl _))
                replace hle := on hle z8
                replace c3 := (z8.cell (p := ⟨b3, o3 + i, none⟩) (by simp only []; omega)).trans c3
                have HIY : Hid (Ints w8 ab nb (sel x cols)) := Lib.hid (rI_ints (oy.rd reads_I))
                clear oy
                rcases hrng with rfl | rfl | rfl
                · go_wp2_with fail
                  refine (HCMP.out _ _ _ _ HIY.out hle).mono ?_
                  rintro e w10 ⟨rfl, z10⟩
                  replace z10 : Below w8.heap.size w8 w10 := z10.below _
                  have s11 := z10.size
                  have hb11 := on hb9 z10
                  replace t_0 := (z10.cell (p := ⟨w.heap.size, 0, none⟩) (by simp only []; omega)).trans t_0
                  replace t_1 := (z10.cell (p := ⟨w.heap.size, 1, none⟩) (by simp only []; omega)).trans t_1
                  replace t_2 := (z10.cell (p := ⟨w.heap.size, 2, none⟩) (by simp only []; omega)).trans t_2
                  replace hacc := hacc.below z10 (by omega)
                  replace c0 := (z10.cell (p := ⟨b0, o0 + j, none⟩) (by simp only []; omega)).trans c0
                  replace hcc := hcc.below z10 (by omega)
                  replace hld := hld.trans (turn_below z10 (Nat.le_refl _))
                  replace hle := on hle z10
                  replace c3 := (z10.cell (p := ⟨b3, o3 + i, none⟩) (by simp only []; omega)).trans c3
                  have HE : Hid (cntRow g all = c + cntRow g (all.drop (i + 1))) := Lib.hid (by rw [HC.out]; simp)
                  go_wp2_with fail
                  go_roundw
                  case rel => exact ⟨i + 1, c, by omega, by go_num, rfl, by omega, HE.out, hle⟩
                  case measure => simp [intOf]; omega
                · go_wp2_with fail
                  refine (HCMP.out _ _ _ _ HIY.out hle).mono ?_
                  rintro e w12 ⟨rfl, z12⟩
                  replace z12 : Below w8.heap.size w8 w12 := z12.below _
                  have s13 := z12.size
                  have hb13 := on hb9 z12
                  replace t_0 := (z12.cell (p := ⟨w.heap.size, 0, none⟩) (by simp only []; omega)).trans t_0
                  replace t_1 := (z12.cell (p := ⟨w.heap.size, 1, none⟩) (by simp only []; omega)).trans t_1
                  replace t_2 := (z12.cell (p := ⟨w.heap.size, 2, none⟩) (by simp only []; omega)).trans t_2
                  replace hacc := hacc.below z12 (by omega)
                  replace c0 := (z12.cell (p := ⟨b0, o0 + j, none⟩) (by simp only []; omega)).trans c0
                  replace hcc := hcc.below z12 (by omega)
                  replace hld := hld.trans (turn_below z12 (Nat.le_refl _))
                  replace hle := on hle z12
                  replace c3 := (z12.cell (p := ⟨b3, o3 + i, none⟩) (by simp only []; omega)).trans c3
                  have HE : Hid (cntRow g all = (c + 1) + cntRow g (all.drop (i + 1))) := Lib.hid (by rw [HC.out]; simp; omega)
                  go_wp2_with fail
                  go_roundw
                  case rel => exact ⟨i + 1, c + 1, by omega, by go_num, by go_num, by omega, HE.out, hle⟩
                  case measure => simp [intOf]; omega
                · go_wp2_with fail
                  refine (HCMP.out _ _ _ _ HIY.out hle).mono ?_
                  rintro e w14 ⟨rfl, z14⟩
                  replace z14 : Below w8.heap.size w8 w14 := z14.below _
                  have s15 := z14.size
                  have hb15 := on hb9 z14
                  replace t_0 := (z14.cell (p := ⟨w.heap.size, 0, none⟩) (by simp only []; omega)).trans t_0
                  replace t_1 := (z14.cell (p := ⟨w.heap.size, 1, none⟩) (by simp only []; omega)).trans t_1
                  replace t_2 := (z14.cell (p := ⟨w.heap.size, 2, none⟩) (by simp only []; omega)).trans t_2
                  replace hacc := hacc.below z14 (by omega)
                  replace c0 := (z14.cell (p := ⟨b0, o0 + j, none⟩) (by simp only []; omega)).trans c0
                  replace hcc := hcc.below z14 (by omega)
                  replace hld := hld.trans (turn_below z14 (Nat.le_refl _))
                  replace hle := on hle z14
                  replace c3 := (z14.cell (p := ⟨b3, o3 + i, none⟩) (by simp only []; omega)).trans c3
                  have HE : Hid (cntRow g all = c + cntRow g (all.drop (i + 1))) := Lib.hid (by rw [HC.out]; simp)
                  go_wp2_with fail
                  go_roundw
                  case rel => exact ⟨i + 1, c, by omega, by go_num, rfl, by omega, HE.out, hle⟩
                  case measure => simp [intOf]; omega
              · have hR : cntRow g all = c := by rw [hC.out, cntRow_end (by have := HAL.out; omega)]; rfl
                have HS2 : Hid (countsOf (gs.take (j + 1)) all = countsOf (gs.take j) all ++ [(c : Int)]) := Lib.hid (by rw [HS.out, hR])
                clear hR hC
                go_wp2_with ((at_builtin; refine wpList_accI _ _ _ _ _ hcc hld rfl (by omega) (by omega) ⟨by omega, by omega⟩ (by omega) rfl rfl rfl rfl rfl ?_; intro v' w1 hacc' ht' hsz'))
                rw [← HS2.out] at hacc'
                go_roundw
                case rel => exact ⟨j + 1, by omega, by go_num, hacc', ht'⟩
                case measure => simp [intOf]; omega
          · rw [List.take_of_length_le (by have := HGL.out; omega)] at hcc
            obtain ⟨ca, cn, cd, rfl⟩ := hcc.form3
            have HO1 := Lib.hid (hacc.own (B := w.heap.size) (hi' := wo.heap.size) (by omega) (by omega) (by omega))
            have HO2 := Lib.hid (hcc.own (B := w.heap.size) (hi' := wo.heap.size) (by omega) (by omega) (by omega))
            clear hacc hcc t0
            go_wp2_with fail
            refine bodyPost_ret (v := .tuple #[.slice va vn vc, .slice ca cn cd]) (by simp [results, Try.results61, go_sem]) rfl ⟨_, _, _, _, _, _, rfl, by rw [H1.out]; exact HO1.out, by rw [H2.out]; exact HO2.out, hb7⟩

end Go.Proofs.Ytbkoddikfpkocaa

/- Contracts of GroupCounts, as the law's walk takes them. -/
namespace Go.Proofs.Ytbkoddikfpkocaa
open Go.RowKit
set_option linter.unusedVariables false

theorem groups_spec' (v : Value) (cs : List Value) (t : DT) (cols : List Int) (w : World) (ht : rT.rep w cs t) (h' : rI.rep w [v] cols) :
    Calls Try.prog 61 #[.agg cs.toArray, v] w fun e w' => ∃ u1 u2, e = .returned (.tuple #[u1, u2]) ∧ Own oII w.heap.size w'.heap.size w' [u1] (grpV t cols) ∧ Own oI w.heap.size w'.heap.size w' [u2] (grpN t cols) ∧ Below w.heap.size w w' :=
  (groups_spec v cs t cols w ht h').mono fun e w' ⟨_, _, _, _, _, _, he, h1, h2, h3⟩ => ⟨_, _, he, h1, h2, h3⟩
theorem groups_impl' (v : Value) (cs : List Value) (t : DT) (cols : List Int) (w : World) (ht : rT.rep w cs t) (h' : rI.rep w [v] cols) :
    Calls Try.prog 63 #[.agg cs.toArray, v] w fun e w' => ∃ u1 u2, ∃ wm : World, e = .returned (.tuple #[u1, u2]) ∧ Own oII w.heap.size wm.heap.size w' [u1] (grpV t cols) ∧ Own oI wm.heap.size w'.heap.size w' [u2] (grpN t cols) ∧ (w.heap.size ≤ wm.heap.size ∧ wm.heap.size ≤ w'.heap.size) ∧ Below w.heap.size w w' :=
  (groups_impl v cs t cols w ht h').mono fun e w' ⟨_, _, _, _, _, _, wm, he, h1, h2, h3, h4, h5⟩ => ⟨_, _, wm, he, h1, h2, ⟨h3, h4⟩, h5⟩

end Go.Proofs.Ytbkoddikfpkocaa
