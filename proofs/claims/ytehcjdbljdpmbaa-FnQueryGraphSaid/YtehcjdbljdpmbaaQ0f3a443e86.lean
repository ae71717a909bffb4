/- Texts joined for one claim: CopyS, Down, Put, Draw3, GrpS, Draw2. -/
import Derived.Test.YtehcjdbljdpmbaaQf757018822
import Derived.Test.YtehcjdbljdpmbaaQ333daf5705
import Derived.Test.YtehcjdbljdpmbaaQa47a1de94a
import Derived.Test.YtehcjdbljdpmbaaQ97469d5ac6
import Derived.Test.YtehcjdbljdpmbaaQ215b4990d4

/- Contracts: the copy of a table, of the reference. -/
namespace Go.Proofs.Ytehcjdbljdpmbaa
open Go.RowKit Go.Sort
set_option linter.unusedVariables false
set_option linter.unusedSimpArgs false
set_option synthInstance.maxSize 2000
set_option synthInstance.maxHeartbeats 400000

/-- A builtin append at a step of a region that draws, by its run. -/
theorem step_app {ops : Array Oper} {o : Oper} {a : Act} {K : Act → World → Prop} {Q : Exit → Act → World → Prop} {E : Prop} {w w' : World} {s x : Operand} {t t' : TypeId} {vs vx v' : Value}
    {ty : TypeId} (hrun : (Builtin.append_ #[t, t'] ty #[vs, vx]).run Try.prog w = .ok v' w') (hty : o.type = ty) (hgd : o.guard = none)
    (ho : o.op = .call { callee := .builtin .append, args := #[s, x], argTypes := #[t, t'] }) (hs : a.eval s = vs) (hx : a.eval x = vx)
    (h : K (a.put o.dst v') w') :
    if Region.wanted o (yielded ops a.tmps) = true then Oper.wp Try.prog o a w K Q else E := by
  have hw : Region.wanted o (yielded ops a.tmps) = true := by simp [Region.wanted, hgd]
  rw [if_pos hw]
  unfold Oper.wp execOp
  simp only [ho, resolve, invoke, builtin, Sem.run_bind, Sem.run_pure, Result.andThen_ok, List.map_toArray, List.map_cons, List.map_nil, hs, hx, hty, hrun]
  exact h

theorem cell_ad {w : World} {o : Obj} {p : Addr} {v : Value} (h : w.cell? p = some v) : (w.alloc o).cell? p = some v :=
  (((Below.refl _ _).alloc (Nat.le_refl _) o).cell (p := p) (World.block_lt_of_cell? w p h)).trans h
theorem cell_add {w : World} {o : Obj} {p : Addr} {v : Value} (h : w.cell? p = some v) : (w.alloc o).drew.cell? p = some v :=
  (((Below.refl _ _).alloc (Nat.le_refl _) o).drew.cell (p := p) (World.block_lt_of_cell? w p h)).trans h
/-- What a cell holds. -/
def valAt (W : World) (p : Addr) : Value := (W.cell? p).getD undef
theorem valAt_eq {W : World} {p : Addr} {v : Value} (h : W.cell? p = some v) : valAt W p = v := by unfold valAt; rw [h]; rfl
theorem valAt_of {W : World} {p : Addr} {v : Value} (h : W.cell? p = some v) : W.cell? p = some (valAt W p) := by rw [valAt_eq h, h]
theorem valAt_set {W : World} {p q : Addr} {u v : Value} (h : W.cell? q = some v) : (W.setCell p u).cell? q = some (valAt (W.setCell p u) q) := by
  obtain ⟨v', h'⟩ := cell?_setCell_some (p := p) (x := u) h
  exact valAt_of h'
theorem cell_set {W : World} {p q : Addr} {u v : Value} (h : W.cell? q = some v) (hne : q.block ≠ p.block) : (W.setCell p u).cell? q = some v :=
  (World.cell?_of_block (a := q) (Below.heap_setCell _ _ _ _ hne)).trans h
/-- 'append([]int{}, xs...)', run. -/
theorem run_copyI (W W1 : World) (ty : TypeId) (n c : Nat) (ad : Option Addr) (xs : List Int) (hi : Ints W ad n xs) (hn : n ≤ 1000000000000) (hW1 : W1 = W.alloc (.cells #[] 3)) :
    ∃ v' w', (Builtin.append_ #[24, 24] ty #[.slice (some ⟨W.heap.size, 0, none⟩) 0 0, .slice ad n c]).run Try.prog W1 = .ok v' w' ∧ Own oI W.heap.size w'.heap.size w' [v'] xs ∧ Below W.heap.size W w' ∧ W.heap.size < w'.heap.size := by
  subst hW1
  obtain ⟨i, hi0, hz0, hz1, hz2⟩ := info_parts infoInt
  have hown := own_empty (Nat.le_refl W.heap.size)
  have hbl : Below W.heap.size W (W.alloc (.cells #[] 3)) := (Below.refl _ _).alloc (Nat.le_refl _) _
  replace hi := hi.below hbl
  cases ad with
  | none =>
    have hn0 : n = 0 := by
      rcases Nat.eq_zero_or_pos n with h0 | h0
      · exact h0
      · obtain ⟨b, off, hb, _⟩ := hi.cell 0 h0; simp at hb
    subst hn0
    have hx0 : xs = [] := List.eq_nil_of_length_eq_zero hi.len
    subst hx0
    have hr : (Builtin.append_ #[24, 24] ty #[.slice (some ⟨W.heap.size, 0, none⟩) 0 0, .slice none 0 c]).run Try.prog (W.alloc (.cells #[] 3)) = .ok (.slice (some ⟨W.heap.size, 0, none⟩) 0 0) (W.alloc (.cells #[] 3)) := run_append_room_src (P := Try.prog) (W.alloc (.cells #[] 3)) 24 24 ty 3 i Try.underlying24 hi0 W.heap.size 0 0 0 (.slice none 0 c) 0 [] (Src.ofNil _ Try.underlying24 c) (by omega) (by simp) (by simp)
    exact ⟨_, _, hr, hown.own, hbl, by simp⟩
  | some ad =>
    have hnews : ∀ j u, (xs.map (Value.int .i64))[j]? = some u → (W.alloc (.cells #[] 3)).cell? (ad.add j) = some u := by
      intro j u hu
      rw [List.getElem?_map] at hu
      have hj : j < n := by
        rw [← hi.len]
        rcases Nat.lt_or_ge j xs.length with h1 | h1
        · exact h1
        · rw [List.getElem?_eq_none h1] at hu; simp at hu
      obtain ⟨b, off, hb, hc⟩ := hi.cell j hj
      simp at hb
      subst hb
      rw [List.getD_eq_getElem?_getD] at hc
      rw [List.getElem?_eq_getElem (by rw [hi.len]; exact hj)] at hu hc
      simp at hu
      subst hu
      rw [Addr.add_lit]
      simpa using hc
    obtain ⟨v', w', hrun, h1, h2, _⟩ := run_append_own_at (P := Try.prog) (W.alloc (.cells #[] 3)) W.heap.size 24 ty 3 i (.int .i64 0) 1 8 Try.underlying24 hi0 hz0 hz1 hz2 rfl (by decide) _ 0 [] (by simpa using hown.row) ad n c (xs.map (Value.int .i64)) (by simp [hi.len]) hnews (by intro z hz; simp at hz; obtain ⟨y, _, rfl⟩ := hz; rfl) (by unfold maxLen; omega) (by omega) (by simp)
    refine ⟨v', w', hrun, (OwnInts.own ⟨hi.len, by simpa using h1, hi.rng⟩), hbl.grown h2 (by simp) (fun k hk => by simp [Value.ownBlock] at hk; omega), ?_⟩
    have := h2.size; simp at this; omega

end Go.Proofs.Ytehcjdbljdpmbaa

/- Contracts: ints in descending order, by the reference (l10Down). -/
namespace Go.Proofs.Ytehcjdbljdpmbaa
open Go.RowKit
set_option linter.unusedVariables false
set_option linter.unusedSimpArgs false
set_option synthInstance.maxSize 2000
set_option synthInstance.maxHeartbeats 400000

/-- 'append(v, ys...)' on ints of one's own, run: v lies in block g. -/
theorem run_appI (W : World) (B g n c : Nat) (xs : List Int) (ad : Addr) (m c2 : Nat) (ys : List Int) (ty : TypeId) (h : OwnInts B W (.slice (some ⟨g, 0, none⟩) n c) n xs) (hB : B ≤ W.heap.size) (hi : Ints W (some ad) m ys) (hn : n ≤ 1000000000) (hm : m ≤ 1000000000) :
    ∃ g' c' w', (Builtin.append_ #[24, 24] ty #[.slice (some ⟨g, 0, none⟩) n c, .slice (some ad) m c2]).run Try.prog W = .ok (.slice (some ⟨g', 0, none⟩) (n + m) c') w' ∧ OwnInts B w' (.slice (some ⟨g', 0, none⟩) (n + m) c') (n + m) (xs ++ ys) ∧ Below B W w' ∧ (g' = g ∨ W.heap.size ≤ g') ∧ ∀ k, k < W.heap.size → k ≠ g → w'.heap[k]? = W.heap[k]? := by
  obtain ⟨i, hi0, hz0, hz1, hz2⟩ := info_parts infoInt
  have hnews : ∀ j u, (ys.map (Value.int .i64))[j]? = some u → W.cell? (ad.add j) = some u := by
    intro j u hu
    rw [List.getElem?_map] at hu
    have hj : j < m := by
      rw [← hi.len]
      rcases Nat.lt_or_ge j ys.length with h1 | h1
      · exact h1
      · rw [List.getElem?_eq_none h1] at hu; simp at hu
    obtain ⟨b, off, hb, hc⟩ := hi.cell j hj
    simp at hb
    subst hb
    rw [List.getD_eq_getElem?_getD] at hc
    rw [List.getElem?_eq_getElem (by rw [hi.len]; exact hj)] at hu hc
    simp at hu
    subst hu
    rw [Addr.add_lit]
    simpa using hc
  obtain ⟨v', w', hrun, h1, h2, h3, h4⟩ := run_append_own_at (P := Try.prog) W B 24 ty 3 i (.int .i64 0) 1 8 Try.underlying24 hi0 hz0 hz1 hz2 rfl (by decide) _ n _ h.row ad m c2 (ys.map (Value.int .i64)) (by simp [hi.len]) hnews (by intro z hz; simp at hz; obtain ⟨y, _, rfl⟩ := hz; rfl) (by unfold maxLen; omega) (by omega) hB
  obtain ⟨a', cap', rfl, _, _⟩ := own_form h1
  have hlen : (xs ++ ys).length = n + m := by rw [List.length_append, h.len, hi.len]
  have hr : AllI64 (xs ++ ys) := fun x hx => by
    rcases List.mem_append.1 hx with hx | hx
    · exact h.rng x hx
    · exact hi.rng x hx
  rw [← List.map_append] at h1
  rcases h1.2 with ⟨hv, h0⟩ | ⟨g', cap, cur, hv, hB', hg', _⟩
  · have := (h3.1 hv).1; simp at this
  · simp at hv
    obtain ⟨rfl, rfl⟩ := hv
    have hs := h2.size
    refine ⟨g', cap', w', hrun, ⟨hlen, h1, hr⟩, (Below.refl B W).grown h2 hB (fun k hk => (h.row.lt k hk).1), ?_, fun k hk hne => ?_⟩
    · rcases h4 with h4 | h4
      · simp [Value.ownBlock] at h4; exact .inl h4
      · simp [Value.ownBlock] at h4; exact .inr (by omega)
    · exact h2.block k hk (by simp [Value.ownBlock]; omega)
theorem ints_of_block {W w' : World} {b off n : Nat} {xs : List Int} (h : Ints W (some ⟨b, off, none⟩) n xs) (hb : w'.heap[b]? = W.heap[b]?) : Ints w' (some ⟨b, off, none⟩) n xs :=
  ⟨h.len, h.small, fun i hi => by
    obtain ⟨b', o', ha, hc⟩ := h.cell i hi
    simp at ha
    obtain ⟨rfl, rfl⟩ := ha
    exact ⟨b, off, rfl, (World.cell?_of_block (a := ⟨b, off + i, none⟩) hb).trans hc⟩, h.rng⟩
theorem ints_one (W : World) (x : Int) (hx : I64 x) : Ints (W.alloc (.cells #[.int .i64 x] 3)) (some ⟨W.heap.size, 0, none⟩) 1 [x] :=
  ⟨rfl, by omega, fun i hi => by
    obtain rfl : i = 0 := by omega
    refine ⟨W.heap.size, 0, rfl, ?_⟩
    have h := cell_one_new W (.int .i64 x) 3 0 _ rfl
    rw [Addr.add_lit] at h
    exact h, fun y hy => by simp only [List.mem_singleton] at hy; subst hy; exact hx⟩
theorem Ints.dropTo {w : World} {b off n : Nat} {xs : List Int} (h : Ints w (some ⟨b, off, none⟩) n xs) {k : Nat} (hk : k ≤ n) : Ints w (some ⟨b, off + k, none⟩) (n - k) (xs.drop k) := by
  have hl := h.len
  refine ⟨by simp; omega, by have := h.small; omega, fun i hi => ?_, fun x hx => h.rng x (List.mem_of_mem_drop hx)⟩
  obtain ⟨b', o', ha, hc⟩ := h.cell (k + i) (by omega)
  simp at ha
  obtain ⟨rfl, rfl⟩ := ha
  refine ⟨b, off + k, rfl, ?_⟩
  rw [Nat.add_assoc, hc]
  simp [List.getD_eq_getElem?_getD, List.getElem?_drop]

theorem slice_end {g c q j : Nat} {ys : List Int} (hq : q ≤ j) (hc : j ≤ c) : ∃ adr : Addr, (if c = q then some (⟨g, 0, none⟩ : Addr) else some ⟨g, q, none⟩) = some adr ∧ ∀ W, Ints W (some ⟨g, 0, none⟩) j ys → Ints W (some adr) (j - q) (ys.drop q) := by
  by_cases h : c = q
  · refine ⟨⟨g, 0, none⟩, by rw [if_pos h], fun W hi => ?_⟩
    have hl := hi.len
    rw [List.drop_eq_nil_of_le (by omega), show j - q = 0 by omega]
    exact ⟨rfl, by omega, fun i h9 => by omega, fun x hx => by cases hx⟩
  · refine ⟨⟨g, q, none⟩, by rw [if_neg h], fun W hi => ?_⟩
    have := hi.dropTo hq
    rwa [Nat.zero_add] at this

set_option maxRecDepth 100000 in
set_option maxHeartbeats 4000000 in
theorem down_any (v : Value) (xs : List Int) (w : World) (h : rI.rep w [v] xs) (hn1 : xs.length ≤ 1000000) :
    Calls Try.prog 63 #[v] w fun e w' => ∃ b n c, e = .returned (.slice b n c) ∧ Own oI w.heap.size w'.heap.size w' [.slice b n c] (downS xs) ∧ Below w.heap.size w w' := by
  obtain ⟨a, cap, rfl, _, _, i0⟩ := rI_open h
  clear h
  obtain ⟨n, hl⟩ : ∃ n, xs.length = n := ⟨_, rfl⟩
  rw [hl] at i0 hn1 ⊢
  have H0 : Hid (([] : List Int).Pairwise (· ≥ ·) ∧ ([] : List Int).Perm (xs.take 0)) := Lib.hid ⟨List.Pairwise.nil, by simp⟩
  have hb0 : Below w.heap.size w w := Below.refl _ _
  go_enter Try.func63, Try.ntmps63
  obtain ⟨w1, hw1⟩ : ∃ W, W = w.alloc (.cells #[] 3) := ⟨_, rfl⟩
  have z1 : Below w.heap.size w w1 := by rw [hw1]; exact (Below.refl _ _).alloc (Nat.le_refl _) _
  have s1 : w1.heap.size = w.heap.size + 1 := by rw [hw1]; simp
  have hb1 := on hb0 z1
  have ho : ∀ S, Acc 3 O.int w.heap.size S w1.heap.size w1 (.slice (some ⟨w.heap.size, 0, none⟩) 0 0) [] := fun S => by rw [hw1]; exact Acc.empty (by omega) (by first | (simp; done) | (simp; omega))
  have hO : OwnInts w.heap.size w1 (.slice (some ⟨w.heap.size, 0, none⟩) 0 0) 0 [] := by rw [hw1]; exact own_empty (Nat.le_refl _)
  go_wp2_with fail
  rw [← hw1]
  clear hw1
  go_loopw [3, 4] (fun v i wr => ∃ (j g c : Nat) (ys : List Int), j ≤ n ∧ i = .int .i64 j ∧ v = .slice (some ⟨g, 0, none⟩) j c ∧ OwnInts w.heap.size wr (.slice (some ⟨g, 0, none⟩) j c) j ys ∧ Hid (ys.Pairwise (· ≥ ·) ∧ ys.Perm (xs.take j)) ∧ Below w.heap.size w wr) (fun _ i _ => n - (intOf i).toNat)
  case atStart => exact ⟨0, _, _, [], Nat.zero_le _, rfl, rfl, hO, H0.out, hb1⟩
  case round =>
    obtain ⟨j, g, c, ys, hj, rfl, rfl, hown, hP, hdr⟩ := hrel
    clear hO H0
    clear ho
    have sr := hdr.size
    obtain ⟨wo, rfl⟩ : ∃ W, W = wr := ⟨_, rfl⟩
    by_cases hlt : j < n
    · obtain ⟨b0, o0, x, rfl, hc, hx, hx1, hx2⟩ := i0.get hlt
      have c0_lt : b0 < w.heap.size := cell_lt hc
      have c0 : wo.cell? ⟨b0, o0 + j, none⟩ = some (.int .i64 x) := (hdr.cell (p := ⟨b0, o0 + j, none⟩) c0_lt).trans hc
      obtain ⟨hcn, hcm⟩ := hown.capn
      have hyl := hown.len
      have hgl := hown.row.lt g rfl
      have HX := Lib.hid (take_snoc xs j (by omega))
      have HXV := Lib.hid hx.out
      obtain ⟨hP1, hP2⟩ := hP.out
      have HP1 := Lib.hid hP1
      have HP2 := Lib.hid hP2
      clear hP1 hP2
      have iy := hown.ints
      have HIY := Lib.hid iy
      have HA0 : Hid (∀ t, j ≤ t → t < ys.length → ys.getD t 0 < x) := Lib.hid (fun t h1 h2 => by omega)
      clear hl i0 hx hc iy
      go_wp2_with fail
      go_loopw [5] (fun k wr => ∃ q : Nat, q ≤ j ∧ k = .int .i64 q ∧ Hid (∀ t, q ≤ t → t < ys.length → ys.getD t 0 < x) ∧ Drew wo wr) (fun k _ => (intOf k).toNat)
      case atStart => exact ⟨j, Nat.le_refl _, rfl, HA0.out, Drew.refl _⟩
      case round =>
        obtain ⟨q, hq, rfl, hA, hdd⟩ := hrel
        have hdd9 := hdd
        replace c0 := (hdd.cell _).trans c0
        by_cases hc9 : 0 < q ∧ ys.getD (q - 1) 0 < x
        · obtain ⟨h1, h2⟩ := hc9
          obtain ⟨p, rfl⟩ : ∃ p, q = p + 1 := ⟨q - 1, by omega⟩
          rw [Nat.add_sub_cancel] at h2
          obtain ⟨b9, o9, y, hb9, hcy, hy, hy1, hy2⟩ := HIY.out.get (show p < j by omega)
          simp at hb9
          obtain ⟨rfl, rfl⟩ := hb9
          rw [Nat.zero_add] at hcy
          have cy := (hdd.cell _).trans hcy
          have hyx : decide (y < x) = true := by rw [← hy.out]; exact decide_eq_true h2
          have hw9 : IntKind.i64.wrap (p : Int) = (p : Int) := IntWalk.i64_in _ (by omega)
          have HN : Hid (∀ t, p ≤ t → t < ys.length → ys.getD t 0 < x) := Lib.hid (fun t h3 h4 => by
            rcases Nat.eq_or_lt_of_le h3 with rfl | h5
            · exact h2
            · exact hA.out t h5 h4)
          have hpc : (p : Int) < (j : Int) := by omega
          clear hA HA0 h2 hcy hy hdd h1
          go_wp2_with fail
          go_quiet (fail)
          clear hw9 hyx
          go_wp2_with fail
          go_roundw
          case rel => exact ⟨p, by omega, by go_num, HN, hdd9.step _⟩
          case measure => simp [intOf] <;> omega
        · have HC : Hid (q = 0 ∨ x ≤ ys.getD (q - 1) 0) := Lib.hid (by omega)
          clear hc9
          have hqc : q ≤ c := by omega
          have hcs : decide (0 < q) = false ∨ ∃ (p : Nat) (y : Int), decide (0 < q) = true ∧ IntKind.i64.wrap ((q : Int) - 1) = (p : Int) ∧ (p : Int) < (j : Int) ∧ wr.cell? ⟨g, p, none⟩ = some (.int .i64 y) ∧ decide (y < x) = false := by
            rcases q with _ | p
            · exact .inl (by simp)
            · obtain ⟨b9, o9, y, hb9, hcy, hy, hy1, hy2⟩ := HIY.out.get (show p < j by omega)
              simp at hb9
              obtain ⟨rfl, rfl⟩ := hb9
              rw [Nat.zero_add] at hcy
              refine .inr ⟨p, y, by simp, ?_, by omega, (hdd.cell _).trans hcy, ?_⟩
              · rw [show (((p + 1 : Nat) : Int) - 1) = (p : Int) by omega]; exact IntWalk.i64_in _ (by omega)
              · rw [← hy.out]
                have := HC.out
                rw [Nat.add_sub_cancel] at this
                exact decide_eq_false (by omega)
          rcases hcs with hg1 | ⟨p, y, hg1, hw9, hpc, cy, hyx⟩
          · go_wp2_with fail
            refine wp_region_quiet_lit (by kernel_rfl) (by kernel_rfl) ?_
            repeat (go_big_quiet_step (fail))
            refine wpQuiet_nil ?_
            intro W8 hW8
            replace hW8 : Drew wr W8 := hW8
            have c8 := (hW8.cell _).trans c0
            replace hW8 : Drew wo W8 := hdd9.trans hW8
            have hb8 := onD hdr hW8
            have own8 := hown.below (hW8.below _)
            have iy8 := own8.ints
            have s8 := hb8.size
            have hgl8 := own8.row.lt g rfl
            have hjl : (j : Int) ≤ (c : Int) := by omega
            have hqj : (q : Int) ≤ (j : Int) := by omega
            have HYL := Lib.hid hyl
            clear hg1 hdd hdd9 hyl
            go_wp2_with fail
            refine wp_region_noPanic ?_
            refine wp_region_held_drew (S := (fun W => W.cell? ⟨b0, o0 + j, none⟩ = some (.int .i64 x))) (by kernel_rfl) ?hS2 (fun hHeld => ?_)
            case hS2 => exact c8
            refine wpAnyH_take (i := 1) (v := ?v1_3) rfl (by kernel_rfl) (by kernel_rfl) (by kernel_rfl) (fun _ _ _ h => h) (Or.inl ⟨by rfl, ?hy1_3⟩) (by assumption) ?rest1_3
            case hy1_3 => intro w hSw; (try dsimp only at hSw); go_simp; (try with_reducible rfl)
            try simp only [Act.put, List.getElem_toArray, List.getElem_cons_succ, List.getElem_cons_zero, List.setIfInBounds_toArray, List.set_cons_zero, List.set_cons_succ]
            refine wpAnyH_take (i := 2) (v := ?v2_4) rfl (by kernel_rfl) (by kernel_rfl) (by kernel_rfl) (fun _ _ _ h => h) (Or.inl ⟨by rfl, ?hy2_4⟩) (by assumption) ?rest2_4
            case hy2_4 => intro w hSw; (try dsimp only at hSw); go_simp; (try with_reducible rfl)
            try simp only [Act.put, List.getElem_toArray, List.getElem_cons_succ, List.getElem_cons_zero, List.setIfInBounds_toArray, List.set_cons_zero, List.set_cons_succ]
            refine wpAnyH_take (i := 3) (v := ?v3_5) rfl (by kernel_rfl) (by kernel_rfl) (by kernel_rfl) (fun _ _ _ h => h) (Or.inl ⟨by rfl, ?hy3_5⟩) (by assumption) ?rest3_5
            case hy3_5 => intro w hSw; (try dsimp only at hSw); go_simp; (try with_reducible rfl)
            try simp only [Act.put, List.getElem_toArray, List.getElem_cons_succ, List.getElem_cons_zero, List.setIfInBounds_toArray, List.set_cons_zero, List.set_cons_succ]
            refine wpAnyH_take (i := 5) (v := ?v5_6) rfl (by kernel_rfl) (by kernel_rfl) (by kernel_rfl) (fun _ _ _ h => h) (Or.inl ⟨by rfl, ?hy5_6⟩) (by assumption) ?rest5_6
            case hy5_6 => intro w hSw; (try dsimp only at hSw); go_simp; (try with_reducible rfl)
            try simp only [Act.put, List.getElem_toArray, List.getElem_cons_succ, List.getElem_cons_zero, List.setIfInBounds_toArray, List.set_cons_zero, List.set_cons_succ]
            refine wpAnyH_take (i := 6) (v := ?v6_7) rfl (by kernel_rfl) (by kernel_rfl) (by kernel_rfl) (fun _ _ _ h => h) (Or.inl ⟨by rfl, ?hy6_7⟩) (by assumption) ?rest6_7
            case hy6_7 => intro w hSw; (try dsimp only at hSw); go_simp; (try with_reducible rfl)
            try simp only [Act.put, List.getElem_toArray, List.getElem_cons_succ, List.getElem_cons_zero, List.setIfInBounds_toArray, List.set_cons_zero, List.set_cons_succ]
            refine wpAnyH_take (i := 7) (v := ?v7_8) rfl (by kernel_rfl) (by kernel_rfl) (by kernel_rfl) (fun _ _ _ h => h) (Or.inl ⟨by rfl, ?hy7_8⟩) (by assumption) ?rest7_8
            case hy7_8 => intro w hSw; (try dsimp only at hSw); go_simp; (try with_reducible rfl)
            try simp only [Act.put, List.getElem_toArray, List.getElem_cons_succ, List.getElem_cons_zero, List.setIfInBounds_toArray, List.set_cons_zero, List.set_cons_succ]
            refine wpAnyH_take (i := 8) (v := ?v8_9) rfl (by kernel_rfl) (by kernel_rfl) (by kernel_rfl) (fun _ _ _ h => h) (Or.inl ⟨by rfl, ?hy8_9⟩) (by assumption) ?rest8_9
            case hy8_9 => intro w hSw; (try dsimp only at hSw); go_simp; (try with_reducible rfl)
            try simp only [Act.put, List.getElem_toArray, List.getElem_cons_succ, List.getElem_cons_zero, List.setIfInBounds_toArray, List.set_cons_zero, List.set_cons_succ]
            refine wpAnyH_take (i := 11) (v := ?v11_10) rfl (by kernel_rfl) (by kernel_rfl) (by kernel_rfl) (fun _ _ _ h => h) (Or.inl ⟨by rfl, ?hy11_10⟩) (by assumption) ?rest11_10
            case hy11_10 => intro w hSw; (try dsimp only at hSw); go_simp; (try with_reducible rfl)
            try simp only [Act.put, List.getElem_toArray, List.getElem_cons_succ, List.getElem_cons_zero, List.setIfInBounds_toArray, List.set_cons_zero, List.set_cons_succ]
            refine wpAnyH_take (i := 12) (v := ?v12_11) rfl (by kernel_rfl) (by kernel_rfl) (by kernel_rfl) (fun _ _ _ h => h) (Or.inl ⟨by rfl, ?hy12_11⟩) (by assumption) ?rest12_11
            case hy12_11 => intro w hSw; (try dsimp only at hSw); go_simp; (try with_reducible rfl)
            try simp only [Act.put, List.getElem_toArray, List.getElem_cons_succ, List.getElem_cons_zero, List.setIfInBounds_toArray, List.set_cons_zero, List.set_cons_succ]
            refine wpAnyH_take (i := 13) (v := ?v13_12) rfl (by kernel_rfl) (by kernel_rfl) (by kernel_rfl) (fun _ _ _ h => h) (Or.inl ⟨by rfl, ?hy13_12⟩) (by assumption) ?rest13_12
            case hy13_12 => intro w hSw; (try dsimp only at hSw); go_simp; (try with_reducible rfl)
            try simp only [Act.put, List.getElem_toArray, List.getElem_cons_succ, List.getElem_cons_zero, List.setIfInBounds_toArray, List.set_cons_zero, List.set_cons_succ]
            obtain ⟨adr, hadr, hadi⟩ : ∃ adr : Addr, (if c = q then some (⟨g, 0, none⟩ : Addr) else some ⟨g, q, none⟩) = some adr ∧ ∀ W, Ints W (some ⟨g, 0, none⟩) j ys → Ints W (some adr) (j - q) (ys.drop q) := slice_end hq (by omega)
            rw [hadr]
            clear hadr
            refine wpAnyH_ready (rs := [0, 9]) (by kernel_rfl) (by simp) ?_
            refine AllReadyH.cons rfl (fun K hK => ?_) (AllReadyH.cons rfl (fun K hK => ?_) AllReadyH.nil)
            · skip
              go_simp
              obtain ⟨A, hA⟩ : ∃ Z9, Z9 = (W8.alloc (.cells #[] 3)).drew := ⟨_, rfl⟩
              have bA : Below W8.heap.size W8 A := by rw [hA]; exact (((Below.refl _ _).alloc (Nat.le_refl _) _).drew)
              have sA : A.heap.size ≤ W8.heap.size + 1 ∧ W8.heap.size + 1 ≤ A.heap.size := by rw [hA]; simp
              have cA : A.cell? ⟨b0, o0 + j, none⟩ = some (.int .i64 x) := (bA.cell (p := ⟨b0, o0 + j, none⟩) (by simp only []; omega)).trans c8
              have iyA := iy8.below bA
              have tA : Below W8.heap.size W8 A := bA
              have oE : OwnInts W8.heap.size A (.slice (some ⟨W8.heap.size, 0, none⟩) 0 0) 0 [] := by rw [hA]; exact own_empty (W := W8.drew) (Nat.le_refl _)
              rw [← hA]
              refine hK.out _ _ cA (fun hHeld => ?_)
              clear hK K hA
              try simp only [Act.put, List.getElem_toArray, List.getElem_cons_succ, List.getElem_cons_zero, List.setIfInBounds_toArray, List.set_cons_zero, List.set_cons_succ]
              refine wpAnyH_ready (rs := [4, 9]) (by kernel_rfl) (by simp) ?_
              refine AllReadyH.cons rfl (fun K hK => ?_) (AllReadyH.cons rfl (fun K hK => ?_) AllReadyH.nil)
              · skip
                have iyq := (iyA).takeTo hq
                obtain ⟨gB, cB9, B, hrB, oB, bbB, hgB, hkB⟩ := run_appI A W8.heap.size W8.heap.size 0 0 [] ⟨g, 0, none⟩ q c (ys.take q) 24 oE (by omega) iyq (by omega) (by omega)
                try simp only [Nat.zero_add, List.nil_append] at hrB oB
                refine step_app hrB (by rfl) (by rfl) (by rfl) (by rfl) (by rfl) ?_
                have iyB : Ints B (some ⟨g, 0, none⟩) j ys := ints_of_block iyA (hkB g (by omega) (by omega))
                have hgB2 : gB ≠ g := by omega
                have tB : Below W8.heap.size W8 B := tA.trans bbB
                have sB := bbB.size
                have cB : B.cell? ⟨b0, o0 + j, none⟩ = some (.int .i64 x) := (tB.cell (p := ⟨b0, o0 + j, none⟩) (by simp only []; omega)).trans c8
                refine hK.out _ _ cB (fun hHeld => ?_)
                clear hK K
                try simp only [Act.put, List.getElem_toArray, List.getElem_cons_succ, List.getElem_cons_zero, List.setIfInBounds_toArray, List.set_cons_zero, List.set_cons_succ]
                refine wpAnyH_ready (rs := [9]) (by kernel_rfl) (by simp) ?_
                refine AllReadyH.cons rfl (fun K hK => ?_) AllReadyH.nil
                go_simp
                obtain ⟨C, hC⟩ : ∃ Z9, Z9 = B.alloc (.cells #[.int .i64 x] 3) := ⟨_, rfl⟩
                have bC : Below B.heap.size B C := by rw [hC]; exact ((Below.refl _ _).alloc (Nat.le_refl _) _)
                have sC : C.heap.size ≤ B.heap.size + 1 ∧ B.heap.size + 1 ≤ C.heap.size := by rw [hC]; simp
                have cC : C.cell? ⟨b0, o0 + j, none⟩ = some (.int .i64 x) := (bC.cell (p := ⟨b0, o0 + j, none⟩) (by simp only []; omega)).trans cB
                have iyC := iyB.below bC
                have tC : Below W8.heap.size W8 C := tB.trans (bC.mono (by omega))
                have iX : Ints C (some ⟨B.heap.size, 0, none⟩) 1 [x] := by rw [hC]; exact ints_one B x ⟨by omega, by omega⟩
                have hxb : B.heap.size < C.heap.size := by omega
                rw [← hC]
                refine hK.out _ _ cC (fun hHeld => ?_)
                clear hK K hC
                try simp only [Act.put, List.getElem_toArray, List.getElem_cons_succ, List.getElem_cons_zero, List.setIfInBounds_toArray, List.set_cons_zero, List.set_cons_succ]
                have oC := oB.below bC
                have hgB3 := oB.row.lt gB rfl
                refine wpAnyH_ready (rs := [10]) (by kernel_rfl) (by simp) ?_
                refine AllReadyH.cons rfl (fun K hK => ?_) AllReadyH.nil
                obtain ⟨gU, cU9, U, hrU, oU, bbU, hgU, hkU⟩ := run_appI C W8.heap.size gB q cB9 (ys.take q) ⟨B.heap.size, 0, none⟩ 1 1 [x] 24 oC (by omega) iX (by omega) (by omega)
                try simp only [Nat.zero_add, List.nil_append] at hrU oU
                refine step_app hrU (by rfl) (by rfl) (by rfl) (by rfl) (by rfl) ?_
                have iyU : Ints U (some ⟨g, 0, none⟩) j ys := ints_of_block iyC (hkU g (by omega) (by omega))
                have hgU2 : gU ≠ g := by omega
                have tU : Below W8.heap.size W8 U := tC.trans bbU
                have sU := bbU.size
                have cU : U.cell? ⟨b0, o0 + j, none⟩ = some (.int .i64 x) := (tU.cell (p := ⟨b0, o0 + j, none⟩) (by simp only []; omega)).trans c8
                refine hK.out _ _ cU (fun hHeld => ?_)
                clear hK K
                try simp only [Act.put, List.getElem_toArray, List.getElem_cons_succ, List.getElem_cons_zero, List.setIfInBounds_toArray, List.set_cons_zero, List.set_cons_succ]
                refine wpAnyH_ready (rs := [14]) (by kernel_rfl) (by simp) ?_
                refine AllReadyH.cons rfl (fun K hK => ?_) AllReadyH.nil
                have iyd := hadi U iyU
                obtain ⟨gV, cV9, V, hrV, oV, bbV, hgV, hkV⟩ := run_appI U W8.heap.size gU (q + 1) cU9 (ys.take q ++ [x]) adr (j - q) (c - q) (ys.drop q) 24 oU (by omega) iyd (by omega) (by omega)
                try simp only [Nat.zero_add, List.nil_append] at hrV oV
                refine step_app hrV (by rfl) (by rfl) (by rfl) (by rfl) (by rfl) ?_
                have tV : Below W8.heap.size W8 V := tU.trans bbV
                have sV := bbV.size
                have cV : V.cell? ⟨b0, o0 + j, none⟩ = some (.int .i64 x) := (tV.cell (p := ⟨b0, o0 + j, none⟩) (by simp only []; omega)).trans c8
                refine hK.out _ _ cV (fun hHeld => ?_)
                clear hK K
                try simp only [Act.put, List.getElem_toArray, List.getElem_cons_succ, List.getElem_cons_zero, List.setIfInBounds_toArray, List.set_cons_zero, List.set_cons_succ]
                refine wpAnyH_take (i := 15) (v := ?v15_13) rfl (by kernel_rfl) (by kernel_rfl) (by kernel_rfl) (fun _ _ _ h => h) (Or.inl ⟨by rfl, ?hy15_13⟩) (by assumption) ?rest15_13
                case hy15_13 => intro w hSw; (try dsimp only at hSw); go_simp; (try with_reducible rfl)
                try simp only [Act.put, List.getElem_toArray, List.getElem_cons_succ, List.getElem_cons_zero, List.setIfInBounds_toArray, List.set_cons_zero, List.set_cons_succ]
                refine wpAnyH_done (by kernel_rfl) ?_ _
                refine NoPanic.normal ?_
                have hlen9 : q + 1 + (j - q) = j + 1 := by omega
                rw [hlen9] at oV
                have OV := Lib.hid oV
                have HL9 := Lib.hid hlen9
                have hs9 : w.heap.size ≤ W8.heap.size := s8
                have HP9 := Lib.hid (ins_ok HP1.out (by have := HYL.out; omega : q ≤ ys.length) HC.out hA.out)
                have HPX : Hid ((ys.take q ++ [x] ++ ys.drop q).Pairwise (· ≥ ·) ∧ (ys.take q ++ [x] ++ ys.drop q).Perm (xs.take (j + 1))) := Lib.hid ⟨HP9.out.1, by rw [HX.out, HXV.out]; exact HP9.out.2.trans (HP2.out.append_right _)⟩
                have hbV := hb8.trans (tV.mono (by omega))
                clear oV hlen9 oU oE
                go_wp2_with fail
                go_roundw
                case rel => exact ⟨j + 1, gV, cV9, ys.take q ++ [x] ++ ys.drop q, by omega, by go_num, by first | rfl | (rw [HL9.out]; done), by rw [HL9.out] at *; exact OV.out.base (by omega), HPX.out, hbV⟩
                case measure => simp [intOf]; omega
              · skip
                go_simp
                obtain ⟨B, hB⟩ : ∃ Z9, Z9 = A.alloc (.cells #[.int .i64 x] 3) := ⟨_, rfl⟩
                have bB : Below A.heap.size A B := by rw [hB]; exact ((Below.refl _ _).alloc (Nat.le_refl _) _)
                have sB : B.heap.size ≤ A.heap.size + 1 ∧ A.heap.size + 1 ≤ B.heap.size := by rw [hB]; simp
                have cB : B.cell? ⟨b0, o0 + j, none⟩ = some (.int .i64 x) := (bB.cell (p := ⟨b0, o0 + j, none⟩) (by simp only []; omega)).trans cA
                have iyB := iyA.below bB
                have tB : Below W8.heap.size W8 B := tA.trans (bB.mono (by omega))
                have iX : Ints B (some ⟨A.heap.size, 0, none⟩) 1 [x] := by rw [hB]; exact ints_one A x ⟨by omega, by omega⟩
                have hxb : A.heap.size < B.heap.size := by omega
                rw [← hB]
                refine hK.out _ _ cB (fun hHeld => ?_)
                clear hK K hB
                try simp only [Act.put, List.getElem_toArray, List.getElem_cons_succ, List.getElem_cons_zero, List.setIfInBounds_toArray, List.set_cons_zero, List.set_cons_succ]
                refine wpAnyH_ready (rs := [4]) (by kernel_rfl) (by simp) ?_
                refine AllReadyH.cons rfl (fun K hK => ?_) AllReadyH.nil
                have oEB := oE.below bB
                have iyq := (iyB).takeTo hq
                obtain ⟨gC, cC9, C, hrC, oC, bbC, hgC, hkC⟩ := run_appI B W8.heap.size W8.heap.size 0 0 [] ⟨g, 0, none⟩ q c (ys.take q) 24 oEB (by omega) iyq (by omega) (by omega)
                try simp only [Nat.zero_add, List.nil_append] at hrC oC
                refine step_app hrC (by rfl) (by rfl) (by rfl) (by rfl) (by rfl) ?_
                have iyC : Ints C (some ⟨g, 0, none⟩) j ys := ints_of_block iyB (hkC g (by omega) (by omega))
                have iXC : Ints C (some ⟨A.heap.size, 0, none⟩) 1 [x] := ints_of_block iX (hkC _ (by omega) (by omega))
                have hgC2 : gC ≠ g := by omega
                have tC : Below W8.heap.size W8 C := tB.trans bbC
                have sC := bbC.size
                have cC : C.cell? ⟨b0, o0 + j, none⟩ = some (.int .i64 x) := (tC.cell (p := ⟨b0, o0 + j, none⟩) (by simp only []; omega)).trans c8
                refine hK.out _ _ cC (fun hHeld => ?_)
                clear hK K
                try simp only [Act.put, List.getElem_toArray, List.getElem_cons_succ, List.getElem_cons_zero, List.setIfInBounds_toArray, List.set_cons_zero, List.set_cons_succ]
                have hgC3 := oC.row.lt gC rfl
                refine wpAnyH_ready (rs := [10]) (by kernel_rfl) (by simp) ?_
                refine AllReadyH.cons rfl (fun K hK => ?_) AllReadyH.nil
                obtain ⟨gU, cU9, U, hrU, oU, bbU, hgU, hkU⟩ := run_appI C W8.heap.size gC q cC9 (ys.take q) ⟨A.heap.size, 0, none⟩ 1 1 [x] 24 oC (by omega) iXC (by omega) (by omega)
                try simp only [Nat.zero_add, List.nil_append] at hrU oU
                refine step_app hrU (by rfl) (by rfl) (by rfl) (by rfl) (by rfl) ?_
                have iyU : Ints U (some ⟨g, 0, none⟩) j ys := ints_of_block iyC (hkU g (by omega) (by omega))
                have hgU2 : gU ≠ g := by omega
                have tU : Below W8.heap.size W8 U := tC.trans bbU
                have sU := bbU.size
                have cU : U.cell? ⟨b0, o0 + j, none⟩ = some (.int .i64 x) := (tU.cell (p := ⟨b0, o0 + j, none⟩) (by simp only []; omega)).trans c8
                refine hK.out _ _ cU (fun hHeld => ?_)
                clear hK K
                try simp only [Act.put, List.getElem_toArray, List.getElem_cons_succ, List.getElem_cons_zero, List.setIfInBounds_toArray, List.set_cons_zero, List.set_cons_succ]
                refine wpAnyH_ready (rs := [14]) (by kernel_rfl) (by simp) ?_
                refine AllReadyH.cons rfl (fun K hK => ?_) AllReadyH.nil
                have iyd := hadi U iyU
                obtain ⟨gV, cV9, V, hrV, oV, bbV, hgV, hkV⟩ := run_appI U W8.heap.size gU (q + 1) cU9 (ys.take q ++ [x]) adr (j - q) (c - q) (ys.drop q) 24 oU (by omega) iyd (by omega) (by omega)
                try simp only [Nat.zero_add, List.nil_append] at hrV oV
                refine step_app hrV (by rfl) (by rfl) (by rfl) (by rfl) (by rfl) ?_
                have tV : Below W8.heap.size W8 V := tU.trans bbV
                have sV := bbV.size
                have cV : V.cell? ⟨b0, o0 + j, none⟩ = some (.int .i64 x) := (tV.cell (p := ⟨b0, o0 + j, none⟩) (by simp only []; omega)).trans c8
                refine hK.out _ _ cV (fun hHeld => ?_)
                clear hK K
                try simp only [Act.put, List.getElem_toArray, List.getElem_cons_succ, List.getElem_cons_zero, List.setIfInBounds_toArray, List.set_cons_zero, List.set_cons_succ]
                refine wpAnyH_take (i := 15) (v := ?v15_14) rfl (by kernel_rfl) (by kernel_rfl) (by kernel_rfl) (fun _ _ _ h => h) (Or.inl ⟨by rfl, ?hy15_14⟩) (by assumption) ?rest15_14
                case hy15_14 => intro w hSw; (try dsimp only at hSw); go_simp; (try with_reducible rfl)
                try simp only [Act.put, List.getElem_toArray, List.getElem_cons_succ, List.getElem_cons_zero, List.setIfInBounds_toArray, List.set_cons_zero, List.set_cons_succ]
                refine wpAnyH_done (by kernel_rfl) ?_ _
                refine NoPanic.normal ?_
                have hlen9 : q + 1 + (j - q) = j + 1 := by omega
                rw [hlen9] at oV
                have OV := Lib.hid oV
                have HL9 := Lib.hid hlen9
                have hs9 : w.heap.size ≤ W8.heap.size := s8
                have HP9 := Lib.hid (ins_ok HP1.out (by have := HYL.out; omega : q ≤ ys.length) HC.out hA.out)
                have HPX : Hid ((ys.take q ++ [x] ++ ys.drop q).Pairwise (· ≥ ·) ∧ (ys.take q ++ [x] ++ ys.drop q).Perm (xs.take (j + 1))) := Lib.hid ⟨HP9.out.1, by rw [HX.out, HXV.out]; exact HP9.out.2.trans (HP2.out.append_right _)⟩
                have hbV := hb8.trans (tV.mono (by omega))
                clear oV hlen9 oU oE
                go_wp2_with fail
                go_roundw
                case rel => exact ⟨j + 1, gV, cV9, ys.take q ++ [x] ++ ys.drop q, by omega, by go_num, by first | rfl | (rw [HL9.out]; done), by rw [HL9.out] at *; exact OV.out.base (by omega), HPX.out, hbV⟩
                case measure => simp [intOf]; omega
            · skip
              go_simp
              obtain ⟨A, hA⟩ : ∃ Z9, Z9 = (W8.alloc (.cells #[.int .i64 x] 3)).drew := ⟨_, rfl⟩
              have bA : Below W8.heap.size W8 A := by rw [hA]; exact (((Below.refl _ _).alloc (Nat.le_refl _) _).drew)
              have sA : A.heap.size ≤ W8.heap.size + 1 ∧ W8.heap.size + 1 ≤ A.heap.size := by rw [hA]; simp
              have cA : A.cell? ⟨b0, o0 + j, none⟩ = some (.int .i64 x) := (bA.cell (p := ⟨b0, o0 + j, none⟩) (by simp only []; omega)).trans c8
              have iyA := iy8.below bA
              have tA : Below W8.heap.size W8 A := bA
              have iX : Ints A (some ⟨W8.heap.size, 0, none⟩) 1 [x] := by rw [hA]; exact ints_one W8.drew x ⟨by omega, by omega⟩
              have hxb : W8.heap.size < A.heap.size := by omega
              rw [← hA]
              refine hK.out _ _ cA (fun hHeld => ?_)
              clear hK K hA
              try simp only [Act.put, List.getElem_toArray, List.getElem_cons_succ, List.getElem_cons_zero, List.setIfInBounds_toArray, List.set_cons_zero, List.set_cons_succ]
              refine wpAnyH_ready (rs := [0]) (by kernel_rfl) (by simp) ?_
              refine AllReadyH.cons rfl (fun K hK => ?_) AllReadyH.nil
              go_simp
              obtain ⟨B, hB⟩ : ∃ Z9, Z9 = A.alloc (.cells #[] 3) := ⟨_, rfl⟩
              have bB : Below A.heap.size A B := by rw [hB]; exact ((Below.refl _ _).alloc (Nat.le_refl _) _)
              have sB : B.heap.size ≤ A.heap.size + 1 ∧ A.heap.size + 1 ≤ B.heap.size := by rw [hB]; simp
              have cB : B.cell? ⟨b0, o0 + j, none⟩ = some (.int .i64 x) := (bB.cell (p := ⟨b0, o0 + j, none⟩) (by simp only []; omega)).trans cA
              have iyB := iyA.below bB
              have tB : Below W8.heap.size W8 B := tA.trans (bB.mono (by omega))
              have oE : OwnInts W8.heap.size B (.slice (some ⟨A.heap.size, 0, none⟩) 0 0) 0 [] := by rw [hB]; exact own_empty (W := A) (by omega)
              rw [← hB]
              refine hK.out _ _ cB (fun hHeld => ?_)
              clear hK K hB
              try simp only [Act.put, List.getElem_toArray, List.getElem_cons_succ, List.getElem_cons_zero, List.setIfInBounds_toArray, List.set_cons_zero, List.set_cons_succ]
              refine wpAnyH_ready (rs := [4]) (by kernel_rfl) (by simp) ?_
              refine AllReadyH.cons rfl (fun K hK => ?_) AllReadyH.nil
              have iXB := iX.below bB
              have iyq := (iyB).takeTo hq
              obtain ⟨gC, cC9, C, hrC, oC, bbC, hgC, hkC⟩ := run_appI B W8.heap.size A.heap.size 0 0 [] ⟨g, 0, none⟩ q c (ys.take q) 24 oE (by omega) iyq (by omega) (by omega)
              try simp only [Nat.zero_add, List.nil_append] at hrC oC
              refine step_app hrC (by rfl) (by rfl) (by rfl) (by rfl) (by rfl) ?_
              have iyC : Ints C (some ⟨g, 0, none⟩) j ys := ints_of_block iyB (hkC g (by omega) (by omega))
              have iXC : Ints C (some ⟨W8.heap.size, 0, none⟩) 1 [x] := ints_of_block iXB (hkC _ (by omega) (by omega))
              have hgC2 : gC ≠ g := by omega
              have tC : Below W8.heap.size W8 C := tB.trans bbC
              have sC := bbC.size
              have cC : C.cell? ⟨b0, o0 + j, none⟩ = some (.int .i64 x) := (tC.cell (p := ⟨b0, o0 + j, none⟩) (by simp only []; omega)).trans c8
              refine hK.out _ _ cC (fun hHeld => ?_)
              clear hK K
              try simp only [Act.put, List.getElem_toArray, List.getElem_cons_succ, List.getElem_cons_zero, List.setIfInBounds_toArray, List.set_cons_zero, List.set_cons_succ]
              have hgC3 := oC.row.lt gC rfl
              refine wpAnyH_ready (rs := [10]) (by kernel_rfl) (by simp) ?_
              refine AllReadyH.cons rfl (fun K hK => ?_) AllReadyH.nil
              obtain ⟨gU, cU9, U, hrU, oU, bbU, hgU, hkU⟩ := run_appI C W8.heap.size gC q cC9 (ys.take q) ⟨W8.heap.size, 0, none⟩ 1 1 [x] 24 oC (by omega) iXC (by omega) (by omega)
              try simp only [Nat.zero_add, List.nil_append] at hrU oU
              refine step_app hrU (by rfl) (by rfl) (by rfl) (by rfl) (by rfl) ?_
              have iyU : Ints U (some ⟨g, 0, none⟩) j ys := ints_of_block iyC (hkU g (by omega) (by omega))
              have hgU2 : gU ≠ g := by omega
              have tU : Below W8.heap.size W8 U := tC.trans bbU
              have sU := bbU.size
              have cU : U.cell? ⟨b0, o0 + j, none⟩ = some (.int .i64 x) := (tU.cell (p := ⟨b0, o0 + j, none⟩) (by simp only []; omega)).trans c8
              refine hK.out _ _ cU (fun hHeld => ?_)
              clear hK K
              try simp only [Act.put, List.getElem_toArray, List.getElem_cons_succ, List.getElem_cons_zero, List.setIfInBounds_toArray, List.set_cons_zero, List.set_cons_succ]
              refine wpAnyH_ready (rs := [14]) (by kernel_rfl) (by simp) ?_
              refine AllReadyH.cons rfl (fun K hK => ?_) AllReadyH.nil
              have iyd := hadi U iyU
              obtain ⟨gV, cV9, V, hrV, oV, bbV, hgV, hkV⟩ := run_appI U W8.heap.size gU (q + 1) cU9 (ys.take q ++ [x]) adr (j - q) (c - q) (ys.drop q) 24 oU (by omega) iyd (by omega) (by omega)
              try simp only [Nat.zero_add, List.nil_append] at hrV oV
              refine step_app hrV (by rfl) (by rfl) (by rfl) (by rfl) (by rfl) ?_
              have tV : Below W8.heap.size W8 V := tU.trans bbV
              have sV := bbV.size
              have cV : V.cell? ⟨b0, o0 + j, none⟩ = some (.int .i64 x) := (tV.cell (p := ⟨b0, o0 + j, none⟩) (by simp only []; omega)).trans c8
              refine hK.out _ _ cV (fun hHeld => ?_)
              clear hK K
              try simp only [Act.put, List.getElem_toArray, List.getElem_cons_succ, List.getElem_cons_zero, List.setIfInBounds_toArray, List.set_cons_zero, List.set_cons_succ]
              refine wpAnyH_take (i := 15) (v := ?v15_15) rfl (by kernel_rfl) (by kernel_rfl) (by kernel_rfl) (fun _ _ _ h => h) (Or.inl ⟨by rfl, ?hy15_15⟩) (by assumption) ?rest15_15
              case hy15_15 => intro w hSw; (try dsimp only at hSw); go_simp; (try with_reducible rfl)
              try simp only [Act.put, List.getElem_toArray, List.getElem_cons_succ, List.getElem_cons_zero, List.setIfInBounds_toArray, List.set_cons_zero, List.set_cons_succ]
              refine wpAnyH_done (by kernel_rfl) ?_ _
              refine NoPanic.normal ?_
              have hlen9 : q + 1 + (j - q) = j + 1 := by omega
              rw [hlen9] at oV
              have OV := Lib.hid oV
              have HL9 := Lib.hid hlen9
              have hs9 : w.heap.size ≤ W8.heap.size := s8
              have HP9 := Lib.hid (ins_ok HP1.out (by have := HYL.out; omega : q ≤ ys.length) HC.out hA.out)
              have HPX : Hid ((ys.take q ++ [x] ++ ys.drop q).Pairwise (· ≥ ·) ∧ (ys.take q ++ [x] ++ ys.drop q).Perm (xs.take (j + 1))) := Lib.hid ⟨HP9.out.1, by rw [HX.out, HXV.out]; exact HP9.out.2.trans (HP2.out.append_right _)⟩
              have hbV := hb8.trans (tV.mono (by omega))
              clear oV hlen9 oU oE
              go_wp2_with fail
              go_roundw
              case rel => exact ⟨j + 1, gV, cV9, ys.take q ++ [x] ++ ys.drop q, by omega, by go_num, by first | rfl | (rw [HL9.out]; done), by rw [HL9.out] at *; exact OV.out.base (by omega), HPX.out, hbV⟩
              case measure => simp [intOf]; omega
          · go_wp2_with fail
            refine wp_region_quiet_lit (by kernel_rfl) (by kernel_rfl) ?_
            repeat (go_big_quiet_step (fail))
            refine wpQuiet_nil ?_
            intro W8 hW8
            replace hW8 : Drew wr W8 := hW8
            have c8 := (hW8.cell _).trans c0
            replace hW8 : Drew wo W8 := hdd9.trans hW8
            have hb8 := onD hdr hW8
            have own8 := hown.below (hW8.below _)
            have iy8 := own8.ints
            have s8 := hb8.size
            have hgl8 := own8.row.lt g rfl
            have hjl : (j : Int) ≤ (c : Int) := by omega
            have hqj : (q : Int) ≤ (j : Int) := by omega
            have HYL := Lib.hid hyl
            clear hg1 hdd hdd9 hyl
            go_wp2_with fail
            refine wp_region_noPanic ?_
            refine wp_region_held_drew (S := (fun W => W.cell? ⟨b0, o0 + j, none⟩ = some (.int .i64 x))) (by kernel_rfl) ?hS16 (fun hHeld => ?_)
            case hS16 => exact c8
            refine wpAnyH_take (i := 1) (v := ?v1_17) rfl (by kernel_rfl) (by kernel_rfl) (by kernel_rfl) (fun _ _ _ h => h) (Or.inl ⟨by rfl, ?hy1_17⟩) (by assumption) ?rest1_17
            case hy1_17 => intro w hSw; (try dsimp only at hSw); go_simp; (try with_reducible rfl)
            try simp only [Act.put, List.getElem_toArray, List.getElem_cons_succ, List.getElem_cons_zero, List.setIfInBounds_toArray, List.set_cons_zero, List.set_cons_succ]
            refine wpAnyH_take (i := 2) (v := ?v2_18) rfl (by kernel_rfl) (by kernel_rfl) (by kernel_rfl) (fun _ _ _ h => h) (Or.inl ⟨by rfl, ?hy2_18⟩) (by assumption) ?rest2_18
            case hy2_18 => intro w hSw; (try dsimp only at hSw); go_simp; (try with_reducible rfl)
            try simp only [Act.put, List.getElem_toArray, List.getElem_cons_succ, List.getElem_cons_zero, List.setIfInBounds_toArray, List.set_cons_zero, List.set_cons_succ]
            refine wpAnyH_take (i := 3) (v := ?v3_19) rfl (by kernel_rfl) (by kernel_rfl) (by kernel_rfl) (fun _ _ _ h => h) (Or.inl ⟨by rfl, ?hy3_19⟩) (by assumption) ?rest3_19
            case hy3_19 => intro w hSw; (try dsimp only at hSw); go_simp; (try with_reducible rfl)
            try simp only [Act.put, List.getElem_toArray, List.getElem_cons_succ, List.getElem_cons_zero, List.setIfInBounds_toArray, List.set_cons_zero, List.set_cons_succ]
            refine wpAnyH_take (i := 5) (v := ?v5_20) rfl (by kernel_rfl) (by kernel_rfl) (by kernel_rfl) (fun _ _ _ h => h) (Or.inl ⟨by rfl, ?hy5_20⟩) (by assumption) ?rest5_20
            case hy5_20 => intro w hSw; (try dsimp only at hSw); go_simp; (try with_reducible rfl)
            try simp only [Act.put, List.getElem_toArray, List.getElem_cons_succ, List.getElem_cons_zero, List.setIfInBounds_toArray, List.set_cons_zero, List.set_cons_succ]
            refine wpAnyH_take (i := 6) (v := ?v6_21) rfl (by kernel_rfl) (by kernel_rfl) (by kernel_rfl) (fun _ _ _ h => h) (Or.inl ⟨by rfl, ?hy6_21⟩) (by assumption) ?rest6_21
            case hy6_21 => intro w hSw; (try dsimp only at hSw); go_simp; (try with_reducible rfl)
            try simp only [Act.put, List.getElem_toArray, List.getElem_cons_succ, List.getElem_cons_zero, List.setIfInBounds_toArray, List.set_cons_zero, List.set_cons_succ]
            refine wpAnyH_take (i := 7) (v := ?v7_22) rfl (by kernel_rfl) (by kernel_rfl) (by kernel_rfl) (fun _ _ _ h => h) (Or.inl ⟨by rfl, ?hy7_22⟩) (by assumption) ?rest7_22
            case hy7_22 => intro w hSw; (try dsimp only at hSw); go_simp; (try with_reducible rfl)
            try simp only [Act.put, List.getElem_toArray, List.getElem_cons_succ, List.getElem_cons_zero, List.setIfInBounds_toArray, List.set_cons_zero, List.set_cons_succ]
            refine wpAnyH_take (i := 8) (v := ?v8_23) rfl (by kernel_rfl) (by kernel_rfl) (by kernel_rfl) (fun _ _ _ h => h) (Or.inl ⟨by rfl, ?hy8_23⟩) (by assumption) ?rest8_23
            case hy8_23 => intro w hSw; (try dsimp only at hSw); go_simp; (try with_reducible rfl)
            try simp only [Act.put, List.getElem_toArray, List.getElem_cons_succ, List.getElem_cons_zero, List.setIfInBounds_toArray, List.set_cons_zero, List.set_cons_succ]
            refine wpAnyH_take (i := 11) (v := ?v11_24) rfl (by kernel_rfl) (by kernel_rfl) (by kernel_rfl) (fun _ _ _ h => h) (Or.inl ⟨by rfl, ?hy11_24⟩) (by assumption) ?rest11_24
            case hy11_24 => intro w hSw; (try dsimp only at hSw); go_simp; (try with_reducible rfl)
            try simp only [Act.put, List.getElem_toArray, List.getElem_cons_succ, List.getElem_cons_zero, List.setIfInBounds_toArray, List.set_cons_zero, List.set_cons_succ]
            refine wpAnyH_take (i := 12) (v := ?v12_25) rfl (by kernel_rfl) (by kernel_rfl) (by kernel_rfl) (fun _ _ _ h => h) (Or.inl ⟨by rfl, ?hy12_25⟩) (by assumption) ?rest12_25
            case hy12_25 => intro w hSw; (try dsimp only at hSw); go_simp; (try with_reducible rfl)
            try simp only [Act.put, List.getElem_toArray, List.getElem_cons_succ, List.getElem_cons_zero, List.setIfInBounds_toArray, List.set_cons_zero, List.set_cons_succ]
            refine wpAnyH_take (i := 13) (v := ?v13_26) rfl (by kernel_rfl) (by kernel_rfl) (by kernel_rfl) (fun _ _ _ h => h) (Or.inl ⟨by rfl, ?hy13_26⟩) (by assumption) ?rest13_26
            case hy13_26 => intro w hSw; (try dsimp only at hSw); go_simp; (try with_reducible rfl)
            try simp only [Act.put, List.getElem_toArray, List.getElem_cons_succ, List.getElem_cons_zero, List.setIfInBounds_toArray, List.set_cons_zero, List.set_cons_succ]
            obtain ⟨adr, hadr, hadi⟩ : ∃ adr : Addr, (if c = q then some (⟨g, 0, none⟩ : Addr) else some ⟨g, q, none⟩) = some adr ∧ ∀ W, Ints W (some ⟨g, 0, none⟩) j ys → Ints W (some adr) (j - q) (ys.drop q) := slice_end hq (by omega)
            rw [hadr]
            clear hadr
            refine wpAnyH_ready (rs := [0, 9]) (by kernel_rfl) (by simp) ?_
            refine AllReadyH.cons rfl (fun K hK => ?_) (AllReadyH.cons rfl (fun K hK => ?_) AllReadyH.nil)
            · skip
              go_simp
              obtain ⟨A, hA⟩ : ∃ Z9, Z9 = (W8.alloc (.cells #[] 3)).drew := ⟨_, rfl⟩
              have bA : Below W8.heap.size W8 A := by rw [hA]; exact (((Below.refl _ _).alloc (Nat.le_refl _) _).drew)
              have sA : A.heap.size ≤ W8.heap.size + 1 ∧ W8.heap.size + 1 ≤ A.heap.size := by rw [hA]; simp
              have cA : A.cell? ⟨b0, o0 + j, none⟩ = some (.int .i64 x) := (bA.cell (p := ⟨b0, o0 + j, none⟩) (by simp only []; omega)).trans c8
              have iyA := iy8.below bA
              have tA : Below W8.heap.size W8 A := bA
              have oE : OwnInts W8.heap.size A (.slice (some ⟨W8.heap.size, 0, none⟩) 0 0) 0 [] := by rw [hA]; exact own_empty (W := W8.drew) (Nat.le_refl _)
              rw [← hA]
              refine hK.out _ _ cA (fun hHeld => ?_)
              clear hK K hA
              try simp only [Act.put, List.getElem_toArray, List.getElem_cons_succ, List.getElem_cons_zero, List.setIfInBounds_toArray, List.set_cons_zero, List.set_cons_succ]
              refine wpAnyH_ready (rs := [4, 9]) (by kernel_rfl) (by simp) ?_
              refine AllReadyH.cons rfl (fun K hK => ?_) (AllReadyH.cons rfl (fun K hK => ?_) AllReadyH.nil)
              · skip
                have iyq := (iyA).takeTo hq
                obtain ⟨gB, cB9, B, hrB, oB, bbB, hgB, hkB⟩ := run_appI A W8.heap.size W8.heap.size 0 0 [] ⟨g, 0, none⟩ q c (ys.take q) 24 oE (by omega) iyq (by omega) (by omega)
                try simp only [Nat.zero_add, List.nil_append] at hrB oB
                refine step_app hrB (by rfl) (by rfl) (by rfl) (by rfl) (by rfl) ?_
                have iyB : Ints B (some ⟨g, 0, none⟩) j ys := ints_of_block iyA (hkB g (by omega) (by omega))
                have hgB2 : gB ≠ g := by omega
                have tB : Below W8.heap.size W8 B := tA.trans bbB
                have sB := bbB.size
                have cB : B.cell? ⟨b0, o0 + j, none⟩ = some (.int .i64 x) := (tB.cell (p := ⟨b0, o0 + j, none⟩) (by simp only []; omega)).trans c8
                refine hK.out _ _ cB (fun hHeld => ?_)
                clear hK K
                try simp only [Act.put, List.getElem_toArray, List.getElem_cons_succ, List.getElem_cons_zero, List.setIfInBounds_toArray, List.set_cons_zero, List.set_cons_succ]
                refine wpAnyH_ready (rs := [9]) (by kernel_rfl) (by simp) ?_
                refine AllReadyH.cons rfl (fun K hK => ?_) AllReadyH.nil
                go_simp
                obtain ⟨C, hC⟩ : ∃ Z9, Z9 = B.alloc (.cells #[.int .i64 x] 3) := ⟨_, rfl⟩
                have bC : Below B.heap.size B C := by rw [hC]; exact ((Below.refl _ _).alloc (Nat.le_refl _) _)
                have sC : C.heap.size ≤ B.heap.size + 1 ∧ B.heap.size + 1 ≤ C.heap.size := by rw [hC]; simp
                have cC : C.cell? ⟨b0, o0 + j, none⟩ = some (.int .i64 x) := (bC.cell (p := ⟨b0, o0 + j, none⟩) (by simp only []; omega)).trans cB
                have iyC := iyB.below bC
                have tC : Below W8.heap.size W8 C := tB.trans (bC.mono (by omega))
                have iX : Ints C (some ⟨B.heap.size, 0, none⟩) 1 [x] := by rw [hC]; exact ints_one B x ⟨by omega, by omega⟩
                have hxb : B.heap.size < C.heap.size := by omega
                rw [← hC]
                refine hK.out _ _ cC (fun hHeld => ?_)
                clear hK K hC
                try simp only [Act.put, List.getElem_toArray, List.getElem_cons_succ, List.getElem_cons_zero, List.setIfInBounds_toArray, List.set_cons_zero, List.set_cons_succ]
                have oC := oB.below bC
                have hgB3 := oB.row.lt gB rfl
                refine wpAnyH_ready (rs := [10]) (by kernel_rfl) (by simp) ?_
                refine AllReadyH.cons rfl (fun K hK => ?_) AllReadyH.nil
                obtain ⟨gU, cU9, U, hrU, oU, bbU, hgU, hkU⟩ := run_appI C W8.heap.size gB q cB9 (ys.take q) ⟨B.heap.size, 0, none⟩ 1 1 [x] 24 oC (by omega) iX (by omega) (by omega)
                try simp only [Nat.zero_add, List.nil_append] at hrU oU
                refine step_app hrU (by rfl) (by rfl) (by rfl) (by rfl) (by rfl) ?_
                have iyU : Ints U (some ⟨g, 0, none⟩) j ys := ints_of_block iyC (hkU g (by omega) (by omega))
                have hgU2 : gU ≠ g := by omega
                have tU : Below W8.heap.size W8 U := tC.trans bbU
                have sU := bbU.size
                have cU : U.cell? ⟨b0, o0 + j, none⟩ = some (.int .i64 x) := (tU.cell (p := ⟨b0, o0 + j, none⟩) (by simp only []; omega)).trans c8
                refine hK.out _ _ cU (fun hHeld => ?_)
                clear hK K
                try simp only [Act.put, List.getElem_toArray, List.getElem_cons_succ, List.getElem_cons_zero, List.setIfInBounds_toArray, List.set_cons_zero, List.set_cons_succ]
                refine wpAnyH_ready (rs := [14]) (by kernel_rfl) (by simp) ?_
                refine AllReadyH.cons rfl (fun K hK => ?_) AllReadyH.nil
                have iyd := hadi U iyU
                obtain ⟨gV, cV9, V, hrV, oV, bbV, hgV, hkV⟩ := run_appI U W8.heap.size gU (q + 1) cU9 (ys.take q ++ [x]) adr (j - q) (c - q) (ys.drop q) 24 oU (by omega) iyd (by omega) (by omega)
                try simp only [Nat.zero_add, List.nil_append] at hrV oV
                refine step_app hrV (by rfl) (by rfl) (by rfl) (by rfl) (by rfl) ?_
                have tV : Below W8.heap.size W8 V := tU.trans bbV
                have sV := bbV.size
                have cV : V.cell? ⟨b0, o0 + j, none⟩ = some (.int .i64 x) := (tV.cell (p := ⟨b0, o0 + j, none⟩) (by simp only []; omega)).trans c8
                refine hK.out _ _ cV (fun hHeld => ?_)
                clear hK K
                try simp only [Act.put, List.getElem_toArray, List.getElem_cons_succ, List.getElem_cons_zero, List.setIfInBounds_toArray, List.set_cons_zero, List.set_cons_succ]
                refine wpAnyH_take (i := 15) (v := ?v15_27) rfl (by kernel_rfl) (by kernel_rfl) (by kernel_rfl) (fun _ _ _ h => h) (Or.inl ⟨by rfl, ?hy15_27⟩) (by assumption) ?rest15_27
                case hy15_27 => intro w hSw; (try dsimp only at hSw); go_simp; (try with_reducible rfl)
                try simp only [Act.put, List.getElem_toArray, List.getElem_cons_succ, List.getElem_cons_zero, List.setIfInBounds_toArray, List.set_cons_zero, List.set_cons_succ]
                refine wpAnyH_done (by kernel_rfl) ?_ _
                refine NoPanic.normal ?_
                have hlen9 : q + 1 + (j - q) = j + 1 := by omega
                rw [hlen9] at oV
                have OV := Lib.hid oV
                have HL9 := Lib.hid hlen9
                have hs9 : w.heap.size ≤ W8.heap.size := s8
                have HP9 := Lib.hid (ins_ok HP1.out (by have := HYL.out; omega : q ≤ ys.length) HC.out hA.out)
                have HPX : Hid ((ys.take q ++ [x] ++ ys.drop q).Pairwise (· ≥ ·) ∧ (ys.take q ++ [x] ++ ys.drop q).Perm (xs.take (j + 1))) := Lib.hid ⟨HP9.out.1, by rw [HX.out, HXV.out]; exact HP9.out.2.trans (HP2.out.append_right _)⟩
                have hbV := hb8.trans (tV.mono (by omega))
                clear oV hlen9 oU oE
                go_wp2_with fail
                go_roundw
                case rel => exact ⟨j + 1, gV, cV9, ys.take q ++ [x] ++ ys.drop q, by omega, by go_num, by first | rfl | (rw [HL9.out]; done), by rw [HL9.out] at *; exact OV.out.base (by omega), HPX.out, hbV⟩
                case measure => simp [intOf]; omega
              · skip
                go_simp
                obtain ⟨B, hB⟩ : ∃ Z9, Z9 = A.alloc (.cells #[.int .i64 x] 3) := ⟨_, rfl⟩
                have bB : Below A.heap.size A B := by rw [hB]; exact ((Below.refl _ _).alloc (Nat.le_refl _) _)
                have sB : B.heap.size ≤ A.heap.size + 1 ∧ A.heap.size + 1 ≤ B.heap.size := by rw [hB]; simp
                have cB : B.cell? ⟨b0, o0 + j, none⟩ = some (.int .i64 x) := (bB.cell (p := ⟨b0, o0 + j, none⟩) (by simp only []; omega)).trans cA
                have iyB := iyA.below bB
                have tB : Below W8.heap.size W8 B := tA.trans (bB.mono (by omega))
                have iX : Ints B (some ⟨A.heap.size, 0, none⟩) 1 [x] := by rw [hB]; exact ints_one A x ⟨by omega, by omega⟩
                have hxb : A.heap.size < B.heap.size := by omega
                rw [← hB]
                refine hK.out _ _ cB (fun hHeld => ?_)
                clear hK K hB
                try simp only [Act.put, List.getElem_toArray, List.getElem_cons_succ, List.getElem_cons_zero, List.setIfInBounds_toArray, List.set_cons_zero, List.set_cons_succ]
                refine wpAnyH_ready (rs := [4]) (by kernel_rfl) (by simp) ?_
                refine AllReadyH.cons rfl (fun K hK => ?_) AllReadyH.nil
                have oEB := oE.below bB
                have iyq := (iyB).takeTo hq
                obtain ⟨gC, cC9, C, hrC, oC, bbC, hgC, hkC⟩ := run_appI B W8.heap.size W8.heap.size 0 0 [] ⟨g, 0, none⟩ q c (ys.take q) 24 oEB (by omega) iyq (by omega) (by omega)
                try simp only [Nat.zero_add, List.nil_append] at hrC oC
                refine step_app hrC (by rfl) (by rfl) (by rfl) (by rfl) (by rfl) ?_
                have iyC : Ints C (some ⟨g, 0, none⟩) j ys := ints_of_block iyB (hkC g (by omega) (by omega))
                have iXC : Ints C (some ⟨A.heap.size, 0, none⟩) 1 [x] := ints_of_block iX (hkC _ (by omega) (by omega))
                have hgC2 : gC ≠ g := by omega
                have tC : Below W8.heap.size W8 C := tB.trans bbC
                have sC := bbC.size
                have cC : C.cell? ⟨b0, o0 + j, none⟩ = some (.int .i64 x) := (tC.cell (p := ⟨b0, o0 + j, none⟩) (by simp only []; omega)).trans c8
                refine hK.out _ _ cC (fun hHeld => ?_)
                clear hK K
                try simp only [Act.put, List.getElem_toArray, List.getElem_cons_succ, List.getElem_cons_zero, List.setIfInBounds_toArray, List.set_cons_zero, List.set_cons_succ]
                have hgC3 := oC.row.lt gC rfl
                refine wpAnyH_ready (rs := [10]) (by kernel_rfl) (by simp) ?_
                refine AllReadyH.cons rfl (fun K hK => ?_) AllReadyH.nil
                obtain ⟨gU, cU9, U, hrU, oU, bbU, hgU, hkU⟩ := run_appI C W8.heap.size gC q cC9 (ys.take q) ⟨A.heap.size, 0, none⟩ 1 1 [x] 24 oC (by omega) iXC (by omega) (by omega)
                try simp only [Nat.zero_add, List.nil_append] at hrU oU
                refine step_app hrU (by rfl) (by rfl) (by rfl) (by rfl) (by rfl) ?_
                have iyU : Ints U (some ⟨g, 0, none⟩) j ys := ints_of_block iyC (hkU g (by omega) (by omega))
                have hgU2 : gU ≠ g := by omega
                have tU : Below W8.heap.size W8 U := tC.trans bbU
                have sU := bbU.size
                have cU : U.cell? ⟨b0, o0 + j, none⟩ = some (.int .i64 x) := (tU.cell (p := ⟨b0, o0 + j, none⟩) (by simp only []; omega)).trans c8
                refine hK.out _ _ cU (fun hHeld => ?_)
                clear hK K
                try simp only [Act.put, List.getElem_toArray, List.getElem_cons_succ, List.getElem_cons_zero, List.setIfInBounds_toArray, List.set_cons_zero, List.set_cons_succ]
                refine wpAnyH_ready (rs := [14]) (by kernel_rfl) (by simp) ?_
                refine AllReadyH.cons rfl (fun K hK => ?_) AllReadyH.nil
                have iyd := hadi U iyU
                obtain ⟨gV, cV9, V, hrV, oV, bbV, hgV, hkV⟩ := run_appI U W8.heap.size gU (q + 1) cU9 (ys.take q ++ [x]) adr (j - q) (c - q) (ys.drop q) 24 oU (by omega) iyd (by omega) (by omega)
                try simp only [Nat.zero_add, List.nil_append] at hrV oV
                refine step_app hrV (by rfl) (by rfl) (by rfl) (by rfl) (by rfl) ?_
                have tV : Below W8.heap.size W8 V := tU.trans bbV
                have sV := bbV.size
                have cV : V.cell? ⟨b0, o0 + j, none⟩ = some (.int .i64 x) := (tV.cell (p := ⟨b0, o0 + j, none⟩) (by simp only []; omega)).trans c8
                refine hK.out _ _ cV (fun hHeld => ?_)
                clear hK K
                try simp only [Act.put, List.getElem_toArray, List.getElem_cons_succ, List.getElem_cons_zero, List.setIfInBounds_toArray, List.set_cons_zero, List.set_cons_succ]
                refine wpAnyH_take (i := 15) (v := ?v15_28) rfl (by kernel_rfl) (by kernel_rfl) (by kernel_rfl) (fun _ _ _ h => h) (Or.inl ⟨by rfl, ?hy15_28⟩) (by assumption) ?rest15_28
                case hy15_28 => intro w hSw; (try dsimp only at hSw); go_simp; (try with_reducible rfl)
                try simp only [Act.put, List.getElem_toArray, List.getElem_cons_succ, List.getElem_cons_zero, List.setIfInBounds_toArray, List.set_cons_zero, List.set_cons_succ]
                refine wpAnyH_done (by kernel_rfl) ?_ _
                refine NoPanic.normal ?_
                have hlen9 : q + 1 + (j - q) = j + 1 := by omega
                rw [hlen9] at oV
                have OV := Lib.hid oV
                have HL9 := Lib.hid hlen9
                have hs9 : w.heap.size ≤ W8.heap.size := s8
                have HP9 := Lib.hid (ins_ok HP1.out (by have := HYL.out; omega : q ≤ ys.length) HC.out hA.out)
                have HPX : Hid ((ys.take q ++ [x] ++ ys.drop q).Pairwise (· ≥ ·) ∧ (ys.take q ++ [x] ++ ys.drop q).Perm (xs.take (j + 1))) := Lib.hid ⟨HP9.out.1, by rw [HX.out, HXV.out]; exact HP9.out.2.trans (HP2.out.append_right _)⟩
                have hbV := hb8.trans (tV.mono (by omega))
                clear oV hlen9 oU oE
                go_wp2_with fail
                go_roundw
                case rel => exact ⟨j + 1, gV, cV9, ys.take q ++ [x] ++ ys.drop q, by omega, by go_num, by first | rfl | (rw [HL9.out]; done), by rw [HL9.out] at *; exact OV.out.base (by omega), HPX.out, hbV⟩
                case measure => simp [intOf]; omega
            · skip
              go_simp
              obtain ⟨A, hA⟩ : ∃ Z9, Z9 = (W8.alloc (.cells #[.int .i64 x] 3)).drew := ⟨_, rfl⟩
              have bA : Below W8.heap.size W8 A := by rw [hA]; exact (((Below.refl _ _).alloc (Nat.le_refl _) _).drew)
              have sA : A.heap.size ≤ W8.heap.size + 1 ∧ W8.heap.size + 1 ≤ A.heap.size := by rw [hA]; simp
              have cA : A.cell? ⟨b0, o0 + j, none⟩ = some (.int .i64 x) := (bA.cell (p := ⟨b0, o0 + j, none⟩) (by simp only []; omega)).trans c8
              have iyA := iy8.below bA
              have tA : Below W8.heap.size W8 A := bA
              have iX : Ints A (some ⟨W8.heap.size, 0, none⟩) 1 [x] := by rw [hA]; exact ints_one W8.drew x ⟨by omega, by omega⟩
              have hxb : W8.heap.size < A.heap.size := by omega
              rw [← hA]
              refine hK.out _ _ cA (fun hHeld => ?_)
              clear hK K hA
              try simp only [Act.put, List.getElem_toArray, List.getElem_cons_succ, List.getElem_cons_zero, List.setIfInBounds_toArray, List.set_cons_zero, List.set_cons_succ]
              refine wpAnyH_ready (rs := [0]) (by kernel_rfl) (by simp) ?_
              refine AllReadyH.cons rfl (fun K hK => ?_) AllReadyH.nil
              go_simp
              obtain ⟨B, hB⟩ : ∃ Z9, Z9 = A.alloc (.cells #[] 3) := ⟨_, rfl⟩
              have bB : Below A.heap.size A B := by rw [hB]; exact ((Below.refl _ _).alloc (Nat.le_refl _) _)
              have sB : B.heap.size ≤ A.heap.size + 1 ∧ A.heap.size + 1 ≤ B.heap.size := by rw [hB]; simp
              have cB : B.cell? ⟨b0, o0 + j, none⟩ = some (.int .i64 x) := (bB.cell (p := ⟨b0, o0 + j, none⟩) (by simp only []; omega)).trans cA
              have iyB := iyA.below bB
              have tB : Below W8.heap.size W8 B := tA.trans (bB.mono (by omega))
              have oE : OwnInts W8.heap.size B (.slice (some ⟨A.heap.size, 0, none⟩) 0 0) 0 [] := by rw [hB]; exact own_empty (W := A) (by omega)
              rw [← hB]
              refine hK.out _ _ cB (fun hHeld => ?_)
              clear hK K hB
              try simp only [Act.put, List.getElem_toArray, List.getElem_cons_succ, List.getElem_cons_zero, List.setIfInBounds_toArray, List.set_cons_zero, List.set_cons_succ]
              refine wpAnyH_ready (rs := [4]) (by kernel_rfl) (by simp) ?_
              refine AllReadyH.cons rfl (fun K hK => ?_) AllReadyH.nil
              have iXB := iX.below bB
              have iyq := (iyB).takeTo hq
              obtain ⟨gC, cC9, C, hrC, oC, bbC, hgC, hkC⟩ := run_appI B W8.heap.size A.heap.size 0 0 [] ⟨g, 0, none⟩ q c (ys.take q) 24 oE (by omega) iyq (by omega) (by omega)
              try simp only [Nat.zero_add, List.nil_append] at hrC oC
              refine step_app hrC (by rfl) (by rfl) (by rfl) (by rfl) (by rfl) ?_
              have iyC : Ints C (some ⟨g, 0, none⟩) j ys := ints_of_block iyB (hkC g (by omega) (by omega))
              have iXC : Ints C (some ⟨W8.heap.size, 0, none⟩) 1 [x] := ints_of_block iXB (hkC _ (by omega) (by omega))
              have hgC2 : gC ≠ g := by omega
              have tC : Below W8.heap.size W8 C := tB.trans bbC
              have sC := bbC.size
              have cC : C.cell? ⟨b0, o0 + j, none⟩ = some (.int .i64 x) := (tC.cell (p := ⟨b0, o0 + j, none⟩) (by simp only []; omega)).trans c8
              refine hK.out _ _ cC (fun hHeld => ?_)
              clear hK K
              try simp only [Act.put, List.getElem_toArray, List.getElem_cons_succ, List.getElem_cons_zero, List.setIfInBounds_toArray, List.set_cons_zero, List.set_cons_succ]
              have hgC3 := oC.row.lt gC rfl
              refine wpAnyH_ready (rs := [10]) (by kernel_rfl) (by simp) ?_
              refine AllReadyH.cons rfl (fun K hK => ?_) AllReadyH.nil
              obtain ⟨gU, cU9, U, hrU, oU, bbU, hgU, hkU⟩ := run_appI C W8.heap.size gC q cC9 (ys.take q) ⟨W8.heap.size, 0, none⟩ 1 1 [x] 24 oC (by omega) iXC (by omega) (by omega)
              try simp only [Nat.zero_add, List.nil_append] at hrU oU
              refine step_app hrU (by rfl) (by rfl) (by rfl) (by rfl) (by rfl) ?_
              have iyU : Ints U (some ⟨g, 0, none⟩) j ys := ints_of_block iyC (hkU g (by omega) (by omega))
              have hgU2 : gU ≠ g := by omega
              have tU : Below W8.heap.size W8 U := tC.trans bbU
              have sU := bbU.size
              have cU : U.cell? ⟨b0, o0 + j, none⟩ = some (.int .i64 x) := (tU.cell (p := ⟨b0, o0 + j, none⟩) (by simp only []; omega)).trans c8
              refine hK.out _ _ cU (fun hHeld => ?_)
              clear hK K
              try simp only [Act.put, List.getElem_toArray, List.getElem_cons_succ, List.getElem_cons_zero, List.setIfInBounds_toArray, List.set_cons_zero, List.set_cons_succ]
              refine wpAnyH_ready (rs := [14]) (by kernel_rfl) (by simp) ?_
              refine AllReadyH.cons rfl (fun K hK => ?_) AllReadyH.nil
              have iyd := hadi U iyU
              obtain ⟨gV, cV9, V, hrV, oV, bbV, hgV, hkV⟩ := run_appI U W8.heap.size gU (q + 1) cU9 (ys.take q ++ [x]) adr (j - q) (c - q) (ys.drop q) 24 oU (by omega) iyd (by omega) (by omega)
              try simp only [Nat.zero_add, List.nil_append] at hrV oV
              refine step_app hrV (by rfl) (by rfl) (by rfl) (by rfl) (by rfl) ?_
              have tV : Below W8.heap.size W8 V := tU.trans bbV
              have sV := bbV.size
              have cV : V.cell? ⟨b0, o0 + j, none⟩ = some (.int .i64 x) := (tV.cell (p := ⟨b0, o0 + j, none⟩) (by simp only []; omega)).trans c8
              refine hK.out _ _ cV (fun hHeld => ?_)
              clear hK K
              try simp only [Act.put, List.getElem_toArray, List.getElem_cons_succ, List.getElem_cons_zero, List.setIfInBounds_toArray, List.set_cons_zero, List.set_cons_succ]
              refine wpAnyH_take (i := 15) (v := ?v15_29) rfl (by kernel_rfl) (by kernel_rfl) (by kernel_rfl) (fun _ _ _ h => h) (Or.inl ⟨by rfl, ?hy15_29⟩) (by assumption) ?rest15_29
              case hy15_29 => intro w hSw; (try dsimp only at hSw); go_simp; (try with_reducible rfl)
              try simp only [Act.put, List.getElem_toArray, List.getElem_cons_succ, List.getElem_cons_zero, List.setIfInBounds_toArray, List.set_cons_zero, List.set_cons_succ]
              refine wpAnyH_done (by kernel_rfl) ?_ _
              refine NoPanic.normal ?_
              have hlen9 : q + 1 + (j - q) = j + 1 := by omega
              rw [hlen9] at oV
              have OV := Lib.hid oV
              have HL9 := Lib.hid hlen9
              have hs9 : w.heap.size ≤ W8.heap.size := s8
              have HP9 := Lib.hid (ins_ok HP1.out (by have := HYL.out; omega : q ≤ ys.length) HC.out hA.out)
              have HPX : Hid ((ys.take q ++ [x] ++ ys.drop q).Pairwise (· ≥ ·) ∧ (ys.take q ++ [x] ++ ys.drop q).Perm (xs.take (j + 1))) := Lib.hid ⟨HP9.out.1, by rw [HX.out, HXV.out]; exact HP9.out.2.trans (HP2.out.append_right _)⟩
              have hbV := hb8.trans (tV.mono (by omega))
              clear oV hlen9 oU oE
              go_wp2_with fail
              go_roundw
              case rel => exact ⟨j + 1, gV, cV9, ys.take q ++ [x] ++ ys.drop q, by omega, by go_num, by first | rfl | (rw [HL9.out]; done), by rw [HL9.out] at *; exact OV.out.base (by omega), HPX.out, hbV⟩
              case measure => simp [intOf]; omega
    · obtain rfl : n = j := by omega
      have HE : Hid (ys = downS xs) := Lib.hid (downS_uniq (by have := hP.out.2; rwa [List.take_of_length_le (by omega)] at this) hP.out.1)
      have HO : Hid (Own oI w.heap.size wo.heap.size wo [.slice (some ⟨g, 0, none⟩) n c] ys) := Lib.hid hown.own
      clear hl i0 hown
      go_wp2_with fail
      go_ret
      exact ⟨_, _, _, rfl, by rw [← HE.out]; exact HO.out, hdr⟩

end Go.Proofs.Ytehcjdbljdpmbaa

/- Contracts: a row put among rows, by the reference (l4Put). -/
namespace Go.Proofs.Ytehcjdbljdpmbaa
open Go.RowKit
set_option linter.unusedVariables false
set_option linter.unusedSimpArgs false
set_option synthInstance.maxSize 2000
set_option synthInstance.maxHeartbeats 400000

theorem putL_at {r x : List Int} {rows : List (List Int)} {j : Nat} (p : Bool) (h : rows[j]? = some x) : putL r p (rows.drop j) = if decide (0 < cmpRows x r) && !(p || decide (cmpRows x r = 0)) then r :: x :: putL r true (rows.drop (j + 1)) else x :: putL r (p || decide (cmpRows x r = 0)) (rows.drop (j + 1)) := by
  rw [drop_at h]; rfl
theorem putL_end {r : List Int} {rows : List (List Int)} {j : Nat} (p : Bool) (h : rows.length ≤ j) : putL r p (rows.drop j) = if p then [] else [r] := by
  rw [List.drop_eq_nil_of_le h]; rfl

set_option maxRecDepth 100000 in
set_option maxHeartbeats 4000000 in
theorem l4Put_any (u v : Value) (rows : List (List Int)) (r : List Int) (w : World) (h : rII.rep w [u] rows) (h' : rI.rep w [v] r) (hn1 : rows.length ≤ 1000000) (hrows : ∀ (j : Nat) (x : List Int), rows[j]? = some x → x.length ≤ 100000000) (hr1 : r.length ≤ 100000000) :
    Calls Try.prog 90 #[u, v] w fun e w' => ∃ ub un uc, e = .returned (.slice ub un uc) ∧ Own oII w.heap.size w'.heap.size w' [.slice ub un uc] (putL r false rows) ∧ Below w.heap.size w w' := by
  obtain ⟨a, cap, rfl, _, _, t0⟩ := rS_open h
  obtain ⟨b, cap2, rfl, _, _, ir⟩ := rI_open h'
  clear h h'
  obtain ⟨n, hl⟩ : ∃ n, rows.length = n := ⟨_, rfl⟩
  obtain ⟨m, hm⟩ : ∃ m, r.length = m := ⟨_, rfl⟩
  rw [hl] at t0 hn1 ⊢
  rw [hm] at ir hr1 ⊢
  have HR := Lib.hid hrows
  have HV : Hid (putL r false rows = [] ++ putL r false (rows.drop 0)) := Lib.hid (by simp)
  have IR := Lib.hid (fun W (hW : Below w.heap.size w W) => ir.below hW)
  clear hrows ir
  have hb0 : Below w.heap.size w w := Below.refl _ _
  go_enter Try.func90, Try.ntmps90
  obtain ⟨w1, hw1⟩ : ∃ W, W = w.alloc (.cells #[] 24) := ⟨_, rfl⟩
  have z1 : Below w.heap.size w w1 := by rw [hw1]; exact (Below.refl _ _).alloc (Nat.le_refl _) _
  have s1 : w1.heap.size = w.heap.size + 1 := by rw [hw1]; simp
  have hb1 := on hb0 z1
  have ho : ∀ S, Acc 24 oI w.heap.size S w1.heap.size w1 (.slice (some ⟨w.heap.size, 0, none⟩) 0 0) [] := fun S => by rw [hw1]; exact Acc.empty (by omega) (by first | (simp; done) | (simp; omega))
  go_wp2_with fail
  rw [← hw1]
  clear hw1
  go_loopw [5, 6, 7] (fun v p k wr => ∃ (j : Nat) (q : Bool) (out : List (List Int)), j ≤ n ∧ k = .int .i64 j ∧ p = .bool q ∧ Hid (putL r false rows = out ++ putL r q (rows.drop j)) ∧ out.length ≤ 2 * j ∧ Acc 24 oI w.heap.size w1.heap.size wr.heap.size wr v out ∧ Turn w.heap.size (w.heap.size + 1) w1 wr) (fun _ _ k _ => n - (intOf k).toNat)
  case atStart => exact ⟨0, false, [], Nat.zero_le _, rfl, rfl, HV.out, Nat.zero_le _, (ho _).wide (Nat.le_refl _) (by omega), turn_refl _ _ _⟩
  case round =>
    obtain ⟨j, q, out, hj, rfl, rfl, hE, hol, hacc, hdr⟩ := hrel
    have hlc := hdr
    have hE0 : w1.heap.size = w.heap.size + 1 := by omega
    clear ho
    have s2 := hdr.size
    have hb2 := hb1.trans ((hdr.below (by omega)).mono (by omega))
    by_cases hlt : j < n
    · obtain ⟨b0, o0, r1, m1, q1, x, rfl, hc, hx, hi, hq1, hq2⟩ := t0.row hlt
      have hclt : b0 < w.heap.size := cell_lt hc
      have c0 : wr.cell? ⟨b0, o0 + j, none⟩ = some (.slice r1 m1 q1) := (hb2.cell (p := ⟨b0, o0 + j, none⟩) hclt).trans hc
      have HX := Lib.hid (fun W (hW : Below w.heap.size w W) => hi.below hW)
      have hxl := HR.out j x hx.out
      have hm1 : m1 ≤ 100000000 := by rw [← hi.len]; exact hxl
      have HP := Lib.hid (putL_at (r := r) q hx.out)
      have HC := Lib.hid (fun W (hW : Below w.heap.size w W) => cmp_spec r1 b m1 m q1 cap2 x r W (hi.below hW) (IR.out W hW))
      obtain ⟨d, hd⟩ : ∃ d, d = cmpRows x r := ⟨_, rfl⟩
      have hrng : d = -1 ∨ d = 0 ∨ d = 1 := by rw [hd]; exact cmpRows_rng x r
      have HP2 : Hid (putL r q (rows.drop j) = if decide (0 < d) && !(q || decide (d = 0)) then r :: x :: putL r true (rows.drop (j + 1)) else x :: putL r (q || decide (d = 0)) (rows.drop (j + 1))) := Lib.hid (by rw [hd]; exact HP.out)
      have HC2 : Hid (∀ W, Below w.heap.size w W → Calls Try.prog 56 #[.slice r1 m1 q1, .slice b m cap2] W fun e w' => e = .returned (.int .i64 d) ∧ Drew W w') := Lib.hid (by rw [hd]; exact HC.out)
      have HC0 := Lib.hid hc
      clear hc hx hi hl hE0 HP HC hd
      rcases hrng with rfl | rfl | rfl
      all_goals cases q
      case inl.false =>
        have HE : Hid (putL r false rows = (out ++ [x]) ++ putL r false (rows.drop (j + 1))) := Lib.hid (by rw [hE.out, HP2.out]; simp)
        clear HP2 hE
        go_wp2_with fail
        refine (HC2.out _ hb2).mono ?_
        rintro e w3 ⟨rfl, z3⟩
        replace z3 : Below wr.heap.size wr w3 := z3.below _
        have s4 := z3.size
        have hb4 := on hb2 z3
        replace hlc := hlc.trans (turn_below z3 (Nat.le_refl _))
        replace hacc := hacc.below z3 (by omega)
        replace c0 := (z3.cell (p := ⟨b0, o0 + j, none⟩) (by simp only []; omega)).trans c0
        have i2 := (HX.out _ hb4).below ((Below.refl _ _).alloc (Nat.le_refl _) (.cells #[] 3))
        have c0a := cell_ad (o := .cells #[] 3) c0
        go_wp2_with (first | (at_builtin; refine wpList_copyI _ _ _ _ _ _ x rfl i2 (by omega) rfl rfl rfl rfl ?_; intro vc wc own1 zc szc; obtain ⟨ac, cc, rfl, _⟩ := own_form own1.row; clear i2; replace hacc := hacc.below zc (by omega); replace hlc := hlc.trans (turn_below zc (Nat.le_refl _)); have sc := zc.size; have oy := own1.own; have hone : ∀ z ∈ [Value.slice ac m1 cc], z.oneCell' = true := (by intro z hz; simp at hz; subst hz; rfl)) | (at_builtin; refine wpList_acc Try.underlying32 infoI rfl (by decide) (by decide) rfl _ _ _ _ [.slice ac m1 cc] x hacc oy hone (by omega) (by omega) (by omega) (by omega) hlc rfl (by omega) (by omega) rfl rfl rfl rfl rfl ?_; intro v1 w1 hacc1 ht1 hsz1; obtain ⟨ad, nd, cd, rfl⟩ := hacc1.form3))
        go_roundw
        case rel => exact ⟨j + 1, false, out ++ [x], by omega, by go_num, rfl, HE.out, by rw [List.length_append]; simp; omega, hacc1, ht1⟩
        case measure => simp [intOf]; omega
      case inl.true =>
        have HE : Hid (putL r false rows = (out ++ [x]) ++ putL r true (rows.drop (j + 1))) := Lib.hid (by rw [hE.out, HP2.out]; simp)
        clear HP2 hE
        go_wp2_with fail
        refine (HC2.out _ hb2).mono ?_
        rintro e w5 ⟨rfl, z5⟩
        replace z5 : Below wr.heap.size wr w5 := z5.below _
        have s6 := z5.size
        have hb6 := on hb2 z5
        replace hlc := hlc.trans (turn_below z5 (Nat.le_refl _))
        replace hacc := hacc.below z5 (by omega)
        replace c0 := (z5.cell (p := ⟨b0, o0 + j, none⟩) (by simp only []; omega)).trans c0
        have i2 := (HX.out _ hb6).below ((Below.refl _ _).alloc (Nat.le_refl _) (.cells #[] 3))
        have c0a := cell_ad (o := .cells #[] 3) c0
        go_wp2_with (first | (at_builtin; refine wpList_copyI _ _ _ _ _ _ x rfl i2 (by omega) rfl rfl rfl rfl ?_; intro vc wc own1 zc szc; obtain ⟨ac, cc, rfl, _⟩ := own_form own1.row; clear i2; replace hacc := hacc.below zc (by omega); replace hlc := hlc.trans (turn_below zc (Nat.le_refl _)); have sc := zc.size; have oy := own1.own; have hone : ∀ z ∈ [Value.slice ac m1 cc], z.oneCell' = true := (by intro z hz; simp at hz; subst hz; rfl)) | (at_builtin; refine wpList_acc Try.underlying32 infoI rfl (by decide) (by decide) rfl _ _ _ _ [.slice ac m1 cc] x hacc oy hone (by omega) (by omega) (by omega) (by omega) hlc rfl (by omega) (by omega) rfl rfl rfl rfl rfl ?_; intro v1 w1 hacc1 ht1 hsz1; obtain ⟨ad, nd, cd, rfl⟩ := hacc1.form3))
        go_roundw
        case rel => exact ⟨j + 1, true, out ++ [x], by omega, by go_num, rfl, HE.out, by rw [List.length_append]; simp; omega, hacc1, ht1⟩
        case measure => simp [intOf]; omega
      case inr.inl.false =>
        have HE : Hid (putL r false rows = (out ++ [x]) ++ putL r true (rows.drop (j + 1))) := Lib.hid (by rw [hE.out, HP2.out]; simp)
        clear HP2 hE
        go_wp2_with fail
        refine (HC2.out _ hb2).mono ?_
        rintro e w7 ⟨rfl, z7⟩
        replace z7 : Below wr.heap.size wr w7 := z7.below _
        have s8 := z7.size
        have hb8 := on hb2 z7
        replace hlc := hlc.trans (turn_below z7 (Nat.le_refl _))
        replace hacc := hacc.below z7 (by omega)
        replace c0 := (z7.cell (p := ⟨b0, o0 + j, none⟩) (by simp only []; omega)).trans c0
        have i2 := (HX.out _ hb8).below ((Below.refl _ _).alloc (Nat.le_refl _) (.cells #[] 3))
        have c0a := cell_ad (o := .cells #[] 3) c0
        go_wp2_with (first | (at_builtin; refine wpList_copyI _ _ _ _ _ _ x rfl i2 (by omega) rfl rfl rfl rfl ?_; intro vc wc own1 zc szc; obtain ⟨ac, cc, rfl, _⟩ := own_form own1.row; clear i2; replace hacc := hacc.below zc (by omega); replace hlc := hlc.trans (turn_below zc (Nat.le_refl _)); have sc := zc.size; have oy := own1.own; have hone : ∀ z ∈ [Value.slice ac m1 cc], z.oneCell' = true := (by intro z hz; simp at hz; subst hz; rfl)) | (at_builtin; refine wpList_acc Try.underlying32 infoI rfl (by decide) (by decide) rfl _ _ _ _ [.slice ac m1 cc] x hacc oy hone (by omega) (by omega) (by omega) (by omega) hlc rfl (by omega) (by omega) rfl rfl rfl rfl rfl ?_; intro v1 w1 hacc1 ht1 hsz1; obtain ⟨ad, nd, cd, rfl⟩ := hacc1.form3))
        go_roundw
        case rel => exact ⟨j + 1, true, out ++ [x], by omega, by go_num, rfl, HE.out, by rw [List.length_append]; simp; omega, hacc1, ht1⟩
        case measure => simp [intOf]; omega
      case inr.inl.true =>
        have HE : Hid (putL r false rows = (out ++ [x]) ++ putL r true (rows.drop (j + 1))) := Lib.hid (by rw [hE.out, HP2.out]; simp)
        clear HP2 hE
        go_wp2_with fail
        refine (HC2.out _ hb2).mono ?_
        rintro e w9 ⟨rfl, z9⟩
        replace z9 : Below wr.heap.size wr w9 := z9.below _
        have s10 := z9.size
        have hb10 := on hb2 z9
        replace hlc := hlc.trans (turn_below z9 (Nat.le_refl _))
        replace hacc := hacc.below z9 (by omega)
        replace c0 := (z9.cell (p := ⟨b0, o0 + j, none⟩) (by simp only []; omega)).trans c0
        have i2 := (HX.out _ hb10).below ((Below.refl _ _).alloc (Nat.le_refl _) (.cells #[] 3))
        have c0a := cell_ad (o := .cells #[] 3) c0
        go_wp2_with (first | (at_builtin; refine wpList_copyI _ _ _ _ _ _ x rfl i2 (by omega) rfl rfl rfl rfl ?_; intro vc wc own1 zc szc; obtain ⟨ac, cc, rfl, _⟩ := own_form own1.row; clear i2; replace hacc := hacc.below zc (by omega); replace hlc := hlc.trans (turn_below zc (Nat.le_refl _)); have sc := zc.size; have oy := own1.own; have hone : ∀ z ∈ [Value.slice ac m1 cc], z.oneCell' = true := (by intro z hz; simp at hz; subst hz; rfl)) | (at_builtin; refine wpList_acc Try.underlying32 infoI rfl (by decide) (by decide) rfl _ _ _ _ [.slice ac m1 cc] x hacc oy hone (by omega) (by omega) (by omega) (by omega) hlc rfl (by omega) (by omega) rfl rfl rfl rfl rfl ?_; intro v1 w1 hacc1 ht1 hsz1; obtain ⟨ad, nd, cd, rfl⟩ := hacc1.form3))
        go_roundw
        case rel => exact ⟨j + 1, true, out ++ [x], by omega, by go_num, rfl, HE.out, by rw [List.length_append]; simp; omega, hacc1, ht1⟩
        case measure => simp [intOf]; omega
      case inr.inr.true =>
        have HE : Hid (putL r false rows = (out ++ [x]) ++ putL r true (rows.drop (j + 1))) := Lib.hid (by rw [hE.out, HP2.out]; simp)
        clear HP2 hE
        go_wp2_with fail
        refine (HC2.out _ hb2).mono ?_
        rintro e w11 ⟨rfl, z11⟩
        replace z11 : Below wr.heap.size wr w11 := z11.below _
        have s12 := z11.size
        have hb12 := on hb2 z11
        replace hlc := hlc.trans (turn_below z11 (Nat.le_refl _))
        replace hacc := hacc.below z11 (by omega)
        replace c0 := (z11.cell (p := ⟨b0, o0 + j, none⟩) (by simp only []; omega)).trans c0
        have i2 := (HX.out _ hb12).below ((Below.refl _ _).alloc (Nat.le_refl _) (.cells #[] 3))
        have c0a := cell_ad (o := .cells #[] 3) c0
        go_wp2_with (first | (at_builtin; refine wpList_copyI _ _ _ _ _ _ x rfl i2 (by omega) rfl rfl rfl rfl ?_; intro vc wc own1 zc szc; obtain ⟨ac, cc, rfl, _⟩ := own_form own1.row; clear i2; replace hacc := hacc.below zc (by omega); replace hlc := hlc.trans (turn_below zc (Nat.le_refl _)); have sc := zc.size; have oy := own1.own; have hone : ∀ z ∈ [Value.slice ac m1 cc], z.oneCell' = true := (by intro z hz; simp at hz; subst hz; rfl)) | (at_builtin; refine wpList_acc Try.underlying32 infoI rfl (by decide) (by decide) rfl _ _ _ _ [.slice ac m1 cc] x hacc oy hone (by omega) (by omega) (by omega) (by omega) hlc rfl (by omega) (by omega) rfl rfl rfl rfl rfl ?_; intro v1 w1 hacc1 ht1 hsz1; obtain ⟨ad, nd, cd, rfl⟩ := hacc1.form3))
        go_roundw
        case rel => exact ⟨j + 1, true, out ++ [x], by omega, by go_num, rfl, HE.out, by rw [List.length_append]; simp; omega, hacc1, ht1⟩
        case measure => simp [intOf]; omega
      -- the row goes in ahead of this one
      case inr.inr.false =>
        have HE : Hid (putL r false rows = ((out ++ [r]) ++ [x]) ++ putL r true (rows.drop (j + 1))) := Lib.hid (by rw [hE.out, HP2.out]; simp)
        clear HP2 hE
        go_wp2_with fail
        refine (HC2.out _ hb2).mono ?_
        rintro e w13 ⟨rfl, z13⟩
        replace z13 : Below wr.heap.size wr w13 := z13.below _
        have s14 := z13.size
        have hb14 := on hb2 z13
        replace hlc := hlc.trans (turn_below z13 (Nat.le_refl _))
        replace hacc := hacc.below z13 (by omega)
        replace c0 := (z13.cell (p := ⟨b0, o0 + j, none⟩) (by simp only []; omega)).trans c0
        have i2 := (IR.out _ hb14).below ((Below.refl _ _).alloc (Nat.le_refl _) (.cells #[] 3))
        have hol1 : (out ++ [r]).length ≤ 2 * j + 1 := by rw [List.length_append]; simp; omega
        go_wp2_with (first | (at_builtin; refine wpList_copyI _ _ _ _ _ _ r rfl i2 (by omega) rfl rfl rfl rfl ?_; intro vc wc own1 zc szc; obtain ⟨ac, cc, rfl, _⟩ := own_form own1.row; clear i2; replace hacc := hacc.below zc (by omega); replace hlc := hlc.trans (turn_below zc (Nat.le_refl _)); have sc := zc.size; have oy := own1.own; have hone : ∀ z ∈ [Value.slice ac m cc], z.oneCell' = true := (by intro z hz; simp at hz; subst hz; rfl); have c0c := (zc.cell (p := ⟨b0, o0 + j, none⟩) (by simp only []; omega)).trans c0) | (at_builtin; refine wpList_acc Try.underlying32 infoI rfl (by decide) (by decide) rfl _ _ _ _ [.slice ac m cc] r hacc oy hone (by omega) (by omega) (by omega) (by omega) hlc rfl (by omega) (by omega) rfl rfl rfl rfl rfl ?_; intro v1 wd hacc1 ht1 hsz1; obtain ⟨ad, nd, cd, rfl⟩ := hacc1.form3; have hbd := hb1.trans ((ht1.below (by omega)).mono (by omega)); have sd := ht1.size; have c1 := cell_ad (o := .cells #[] 3) ((hbd.cell (p := ⟨b0, o0 + j, none⟩) hclt).trans HC0.out); have i3 := (HX.out _ hbd).below ((Below.refl _ _).alloc (Nat.le_refl _) (.cells #[] 3)); clear hacc hlc oy hone own1 zc; have hacc := hacc1; have hlc := ht1; clear hacc1 ht1) | (at_builtin; refine wpList_copyI _ _ _ _ _ _ x rfl i3 (by omega) rfl rfl rfl rfl ?_; intro vc wc own1 zc szc; obtain ⟨ac, cc, rfl, _⟩ := own_form own1.row; clear i3; replace hacc := hacc.below zc (by omega); replace hlc := hlc.trans (turn_below zc (Nat.le_refl _)); have sc := zc.size; have oy := own1.own; have hone : ∀ z ∈ [Value.slice ac m1 cc], z.oneCell' = true := (by intro z hz; simp at hz; subst hz; rfl)) | (at_builtin; refine wpList_acc Try.underlying32 infoI rfl (by decide) (by decide) rfl _ _ _ _ [.slice ac m1 cc] x hacc oy hone (by omega) (by omega) (by omega) (by omega) hlc rfl (by omega) (by omega) rfl rfl rfl rfl rfl ?_; intro v1 w1 hacc1 ht1 hsz1; obtain ⟨ad, nd, cd, rfl⟩ := hacc1.form3))
        go_roundw
        case rel => exact ⟨j + 1, true, out ++ [r] ++ [x], by omega, by go_num, rfl, HE.out, by rw [List.length_append]; simp only [List.length_cons, List.length_nil]; omega, hacc1, ht1⟩
        case measure => simp [intOf]; omega
    · have hjn : j = n := by omega
      have HE : Hid (putL r false rows = out ++ if q then [] else [r]) := Lib.hid (by rw [hE.out, putL_end q (by omega)])
      clear hE
      cases q with
      | true =>
        obtain ⟨ad, nd, cd, rfl⟩ := hacc.form3
        have HO := Lib.hid (hacc.own (B := w.heap.size) (by omega) (by omega) (Nat.le_refl _))
        clear hacc hl
        go_wp2_with fail
        go_ret
        exact ⟨_, _, _, rfl, by rw [HE.out, if_pos trivial, List.append_nil]; exact HO.out, hb2⟩
      | false =>
        have i2 := (IR.out _ hb2).below ((Below.refl _ _).alloc (Nat.le_refl _) (.cells #[] 3))
        clear hl
        go_wp2_with (first | (at_builtin; refine wpList_copyI _ _ _ _ _ _ r rfl i2 (by omega) rfl rfl rfl rfl ?_; intro vc wc own1 zc szc; obtain ⟨ac, cc, rfl, _⟩ := own_form own1.row; clear i2; replace hacc := hacc.below zc (by omega); replace hlc := hlc.trans (turn_below zc (Nat.le_refl _)); have sc := zc.size; have oy := own1.own; have hone : ∀ z ∈ [Value.slice ac m cc], z.oneCell' = true := (by intro z hz; simp at hz; subst hz; rfl)) | (at_builtin; refine wpList_acc Try.underlying32 infoI rfl (by decide) (by decide) rfl _ _ _ _ [.slice ac m cc] r hacc oy hone (by omega) (by omega) (by omega) (by omega) hlc rfl (by omega) (by omega) rfl rfl rfl rfl rfl ?_; intro v1 w1 hacc1 ht1 hsz1; obtain ⟨ad, nd, cd, rfl⟩ := hacc1.form3))
        have hbd := hb1.trans ((ht1.below (by omega)).mono (by omega))
        have HO := Lib.hid (hacc1.own (B := w.heap.size) (by omega) (by omega) (Nat.le_refl _))
        clear hacc hlc hacc1 oy hone
        go_wp2_with fail
        go_ret
        exact ⟨_, _, _, rfl, by rw [HE.out]; exact HO.out, hbd⟩

end Go.Proofs.Ytehcjdbljdpmbaa

/- Contracts: the reference's draws (3): tables. -/
namespace Go.Proofs.Ytehcjdbljdpmbaa
open Go.RowKit
set_option linter.unusedVariables false
set_option linter.unusedSimpArgs false
set_option synthInstance.maxSize 2000
set_option synthInstance.maxHeartbeats 400000

theorem turn_on' {lo hi : Nat} {a b c : World} (h : Turn lo hi a b) (k : Below a.heap.size b c) : Turn lo hi a c :=
  ⟨k.os.trans h.os, k.tape.trans h.tape, k.output.trans h.output, Nat.le_trans h.size k.size, fun i h1 h2 => (k.block i h1).trans (h.block i h1 h2)⟩
theorem Cur.below' {w w' : World} {cb bn bc C : Nat} {ba : Option Addr} (h : Cur w cb ba bn bc) (hb : Below C w w') (hC : cb < C) : Cur w' cb ba bn bc := by
  obtain ⟨⟨i, hh, a1, a2, a3, a4, a5, a6, a7⟩, hby⟩ := h
  refine ⟨⟨i, hh, a1, a2, (hb.cell (p := ⟨cb, 0, none⟩) hC).trans a3, (hb.cell (p := ⟨cb, 1, none⟩) hC).trans a4, (hb.cell (p := ⟨cb, 2, none⟩) hC).trans a5, (hb.frozen (p := ⟨cb, 1, none⟩) hC).trans a6, (hb.frozen (p := ⟨cb, 2, none⟩) hC).trans a7⟩, hby.small, fun j hj => ?_⟩
  obtain ⟨b, off, v, ha, hbc, hc, hv⟩ := hby.cell j hj
  exact ⟨b, off, v, ha, hbc, (hb.cell (p := ⟨b, off + j, none⟩) (by simp only []; omega)).trans hc, hv⟩
theorem Turn.frozen {lo hi : Nat} {w w' : World} (h : Turn lo hi w w') {p : Addr} (h1 : p.block < w.heap.size) (h2 : p.block < lo ∨ hi ≤ p.block) : w'.frozen? p = w.frozen? p := World.frozen?_of_block (h.block _ h1 h2)
/-- The state of l4Tab's loop. -/
def TabSt (w : World) (cb : Nat) (ba : Option Addr) (bn bc : Nat) (name : ByteArray) (A M K : Nat) (wr : World) : Prop :=
  ∃ (b : Option Addr) (n c : Nat) (rows : List (List Int)), rows.length + K ≤ M ∧
    wr.cell? ⟨w.heap.size, 0, none⟩ = some (.string (ByteArray.mk #[])) ∧ wr.cell? ⟨w.heap.size, 1, none⟩ = some (.int .i64 0) ∧ wr.cell? ⟨w.heap.size, 2, none⟩ = some (.slice none 0 0) ∧
    wr.frozen? ⟨w.heap.size, 0, none⟩ = false ∧ wr.frozen? ⟨w.heap.size, 1, none⟩ = false ∧ wr.frozen? ⟨w.heap.size, 2, none⟩ = false ∧
    wr.cell? ⟨w.heap.size + 1, 0, none⟩ = some (.string name) ∧ wr.cell? ⟨w.heap.size + 1, 1, none⟩ = some (.int .i64 (A : Int)) ∧ wr.cell? ⟨w.heap.size + 1, 2, none⟩ = some (.slice b n c) ∧ wr.frozen? ⟨w.heap.size + 1, 2, none⟩ = false ∧
    Own oII (w.heap.size + 1 + 1) wr.heap.size wr [.slice b n c] rows ∧ (∀ r ∈ rows, r.length = A ∧ ∀ v ∈ r, 0 ≤ v ∧ v ≤ 1000000) ∧ Cur wr cb ba bn bc ∧ Turn cb (cb + 1) w wr ∧ w.heap.size + 1 + 1 ≤ wr.heap.size

set_option maxRecDepth 100000 in
set_option maxHeartbeats 2000000 in
theorem l4Tab_any (w : World) (cb : Nat) (ba : Option Addr) (bn bc : Nat) (name : ByteArray) (A M V : Nat) (hA : A ≤ 3) (hM : M ≤ 100) (hV : V ≤ 100) (h : Cur w cb ba bn bc) (hcb : cb < w.heap.size) :
    Calls Try.prog 84 #[.pointer (some ⟨cb, 0, none⟩), .string name, .int .i64 (A : Int), .int .i64 (M : Int), .int .i64 (V : Int)] w fun e w' => ∃ b n c rows, e = .returned (.agg #[.string name, .int .i64 (A : Int), .slice b n c]) ∧ Own oII w.heap.size w'.heap.size w' [.slice b n c] rows ∧ rows.length ≤ M ∧ (∀ r ∈ rows, r.length = A ∧ ∀ v ∈ r, 0 ≤ v ∧ v ≤ 1000000) ∧ Cur w' cb ba bn bc ∧ Turn cb (cb + 1) w w' := by
  obtain ⟨w1, hw1⟩ : ∃ W, W = w.alloc (.cells #[.string (ByteArray.mk #[]), .int .i64 0, .slice none 0 0] 34) := ⟨_, rfl⟩
  obtain ⟨w2, hw2⟩ : ∃ W, W = w1.alloc (.cells #[.string name, .int .i64 (A : Int), .slice none 0 0] 34) := ⟨_, rfl⟩
  have s1 : w1.heap.size = w.heap.size + 1 := by rw [hw1]; simp
  have s2 : w2.heap.size = w.heap.size + 1 + 1 := by rw [hw2]; simp [s1]
  have z1 : Below w.heap.size w w1 := by rw [hw1]; exact (Below.refl _ _).alloc (Nat.le_refl _) _
  have z2 : Below w1.heap.size w1 w2 := by rw [hw2]; exact (Below.refl _ _).alloc (Nat.le_refl _) _
  have R_0 : w2.cell? ⟨w.heap.size, 0, none⟩ = some (.string (ByteArray.mk #[])) := (z2.cell (p := ⟨w.heap.size, 0, none⟩) (by simp only []; omega)).trans (by rw [hw1]; exact box_cell (Below.refl _ _) rfl)
  have R_1 : w2.cell? ⟨w.heap.size, 1, none⟩ = some (.int .i64 0) := (z2.cell (p := ⟨w.heap.size, 1, none⟩) (by simp only []; omega)).trans (by rw [hw1]; exact box_cell (Below.refl _ _) rfl)
  have R_2 : w2.cell? ⟨w.heap.size, 2, none⟩ = some (.slice none 0 0) := (z2.cell (p := ⟨w.heap.size, 2, none⟩) (by simp only []; omega)).trans (by rw [hw1]; exact box_cell (Below.refl _ _) rfl)
  have R_f0 : w2.frozen? ⟨w.heap.size, 0, none⟩ = false := (z2.frozen (p := ⟨w.heap.size, 0, none⟩) (by simp only []; omega)).trans (by rw [hw1]; exact box_frozen (Below.refl _ _))
  have R_f1 : w2.frozen? ⟨w.heap.size, 1, none⟩ = false := (z2.frozen (p := ⟨w.heap.size, 1, none⟩) (by simp only []; omega)).trans (by rw [hw1]; exact box_frozen (Below.refl _ _))
  have R_f2 : w2.frozen? ⟨w.heap.size, 2, none⟩ = false := (z2.frozen (p := ⟨w.heap.size, 2, none⟩) (by simp only []; omega)).trans (by rw [hw1]; exact box_frozen (Below.refl _ _))
  have X_0 : w2.cell? ⟨w.heap.size + 1, 0, none⟩ = some (.string name) := by rw [hw2, ← s1]; exact box_cell (Below.refl _ _) rfl
  have X_1 : w2.cell? ⟨w.heap.size + 1, 1, none⟩ = some (.int .i64 (A : Int)) := by rw [hw2, ← s1]; exact box_cell (Below.refl _ _) rfl
  have X_2 : w2.cell? ⟨w.heap.size + 1, 2, none⟩ = some (.slice none 0 0) := by rw [hw2, ← s1]; exact box_cell (Below.refl _ _) rfl
  have X_f2 : w2.frozen? ⟨w.heap.size + 1, 2, none⟩ = false := by rw [hw2, ← s1]; exact box_frozen (Below.refl _ _)
  have HC := Lib.hid ((h.below' z1 hcb).below' z2 (by omega))
  have t2 : Turn cb (cb + 1) w w2 := turn_below (on z1 z2) (Nat.le_refl _)
  clear h z1 z2
  have HB := Lib.hid (l1Below_any w2 cb ba bn bc ((M : Int) + 1) (by omega) HC.out)
  go_enter Try.func84, Try.ntmps84
  go_wp2_with fail
  rw [← hw1, ← hw2]
  clear hw1 hw2 HC
  refine HB.out.mono ?_
  rintro e w3 ⟨k0, rfl, hk0, hk1, hk2, hc3, hk3⟩
  obtain ⟨K, rfl⟩ := Int.eq_ofNat_of_zero_le hk0
  have hK : K ≤ M := by have := hk1 (by omega); omega
  have s3 := hk3.size
  have t3 := t2.trans hk3.turn
  replace R_0 := (hk3.turn.cell (p := ⟨w.heap.size, 0, none⟩) (by simp only []; omega) (by simp only []; omega)).trans R_0
  replace R_1 := (hk3.turn.cell (p := ⟨w.heap.size, 1, none⟩) (by simp only []; omega) (by simp only []; omega)).trans R_1
  replace R_2 := (hk3.turn.cell (p := ⟨w.heap.size, 2, none⟩) (by simp only []; omega) (by simp only []; omega)).trans R_2
  replace R_f0 := (hk3.turn.frozen (p := ⟨w.heap.size, 0, none⟩) (by simp only []; omega) (by simp only []; omega)).trans R_f0
  replace R_f1 := (hk3.turn.frozen (p := ⟨w.heap.size, 1, none⟩) (by simp only []; omega) (by simp only []; omega)).trans R_f1
  replace R_f2 := (hk3.turn.frozen (p := ⟨w.heap.size, 2, none⟩) (by simp only []; omega) (by simp only []; omega)).trans R_f2
  replace X_0 := (hk3.turn.cell (p := ⟨w.heap.size + 1, 0, none⟩) (by simp only []; omega) (by simp only []; omega)).trans X_0
  replace X_1 := (hk3.turn.cell (p := ⟨w.heap.size + 1, 1, none⟩) (by simp only []; omega) (by simp only []; omega)).trans X_1
  replace X_2 := (hk3.turn.cell (p := ⟨w.heap.size + 1, 2, none⟩) (by simp only []; omega) (by simp only []; omega)).trans X_2
  replace X_f2 := (hk3.turn.frozen (p := ⟨w.heap.size + 1, 2, none⟩) (by simp only []; omega) (by simp only []; omega)).trans X_f2
  clear hk0 hk1 hk2 hk3 t2 HB
  have HST : Hid (TabSt w cb ba bn bc name A M K w3) := Lib.hid ⟨none, 0, 0, [], by simpa using hK, R_0, R_1, R_2, R_f0, R_f1, R_f2, X_0, X_1, X_2, X_f2, (own_nil_S (B := w.heap.size + 1 + 1)).mono (Nat.le_refl _) (by omega), by simp, hc3, t3, by omega⟩
  clear R_0 R_1 R_2 R_f0 R_f1 R_f2 X_0 X_1 X_2 X_f2 hc3 t3 s1 s2 s3
  go_wp2_with fail
  go_loopw [12] (fun k wr => ∃ K : Nat, k = .int .i64 (K : Int) ∧ Hid (TabSt w cb ba bn bc name A M K wr)) (fun k _ => (intOf k).toNat)
  case atStart => exact ⟨K, rfl, HST⟩
  case round =>
    clear HST hK
    obtain ⟨Kn, rfl, HS⟩ := hrel
    obtain ⟨b, n, c, rows, hrk, R_0, R_1, R_2, R_f0, R_f1, R_f2, X_0, X_1, X_2, X_f2, ho, hrw, hcur, ht, hsz⟩ := HS.out
    clear HS
    by_cases hK0 : 0 < Kn
    · have hKi : (Kn : Int) > 0 := by omega
      obtain ⟨wl, hwl⟩ : ∃ W, W = wr := ⟨_, rfl⟩
      subst hwl
      obtain ⟨wA, hwA⟩ : ∃ W, W = wl.alloc (.cells #[] 3) := ⟨_, rfl⟩
      have zA : Below wl.heap.size wl wA := by rw [hwA]; exact (Below.refl _ _).alloc (Nat.le_refl _) _
      have sA : wA.heap.size = wl.heap.size + 1 := by rw [hwA]; simp
      have HOA : Hid (Own oI wl.heap.size wA.heap.size wA [.slice (some ⟨wl.heap.size, 0, none⟩) 0 0] []) := Lib.hid (by rw [hwA]; exact (own_empty (Nat.le_refl wl.heap.size)).own)
      have HCA := Lib.hid (hcur.below' zA (by omega))
      have HTA : Hid (Turn cb (cb + 1) wl wA) := Lib.hid (turn_below zA (Nat.le_refl _))
      have HOR := Lib.hid ho
      have HRW := Lib.hid hrw
      have HT := Lib.hid ht
      clear ho hrw ht hcur zA
      go_wp2_with fail
      rw [← hwA]
      clear hwA
      go_loopw [13, 14] (fun v i wi => ∃ (j n' c' : Nat) (b' : Option Addr) (xs : List Int), j ≤ A ∧ i = .int .i64 (j : Int) ∧ v = .slice b' n' c' ∧ Own oI wl.heap.size wi.heap.size wi [.slice b' n' c'] xs ∧ xs.length = j ∧ (∀ v ∈ xs, 0 ≤ v ∧ v ≤ 1000000) ∧ Cur wi cb ba bn bc ∧ Turn cb (cb + 1) wl wi) (fun _ i _ => A - (intOf i).toNat)
      case atStart => exact ⟨0, 0, 0, _, [], Nat.zero_le _, rfl, rfl, HOA.out, rfl, by simp, HCA.out, HTA.out⟩
      case round =>
        clear HOA HCA HTA
        obtain ⟨j, n', c', b', xs, hj, rfl, rfl, ho, hxl, hxr, hcur, ht⟩ := hrel
        have hts := ht.size
        by_cases hlt : j < A
        · have HON := Lib.hid (l1Below_any wr cb ba bn bc (V : Int) (by omega) hcur)
          have HOW := Lib.hid ho
          have HTT := Lib.hid ht
          have HXR := Lib.hid hxr
          clear hcur ho ht hxr
          go_wp2_with fail
          refine HON.out.mono ?_
          rintro e w1 ⟨x, rfl, hx0, hx1, hx2, hc1, hk1⟩
          have o1 := HOW.out.kept hk1 (.inr (by omega))
          have hz1 : w1.heap.size ≤ wr.heap.size := Nat.le_of_eq hk1.size
          have hz2 : wr.heap.size ≤ w1.heap.size := Nat.le_of_eq hk1.size.symm
          have t1 := HTT.out.trans hk1.turn
          obtain ⟨na, nn, nc, wn, hrn, on_, hbn, hzn⟩ := own_num 24 o1 (r := x) ⟨by omega, by omega⟩ (by omega) hts (by omega) rfl
          have HCN := Lib.hid (hc1.below' hbn (by omega))
          have TN := Lib.hid (turn_on' t1 hbn)
          have ON := Lib.hid on_
          have HX2 : Hid (∀ v ∈ xs ++ [x], 0 ≤ v ∧ v ≤ 1000000) := Lib.hid (by
            intro v hv
            rcases List.mem_append.1 hv with hv | hv
            · exact HXR.out v hv
            · simp at hv; subst hv; exact ⟨hx0, hx2⟩)
          clear o1 t1 on_ hk1 hc1 hx1
          go_wp2_with ((at_builtin; refine wpList_app_run hrn rfl rfl rfl rfl rfl ?_))
          go_roundw
          case rel => exact ⟨j + 1, nn, nc, na, xs ++ [x], by omega, by go_num, rfl, ON.out, by rw [List.length_append]; simp; omega, HX2.out, HCN.out, TN.out⟩
          case measure => simp [intOf]; omega
        · obtain ⟨K2, rfl⟩ : ∃ K2, Kn = K2 + 1 := ⟨Kn - 1, by omega⟩
          have hjA : xs.length = A := by omega
          replace R_0 := (ht.cell (p := ⟨w.heap.size, 0, none⟩) (by simp only []; omega) (by simp only []; omega)).trans R_0
          replace R_1 := (ht.cell (p := ⟨w.heap.size, 1, none⟩) (by simp only []; omega) (by simp only []; omega)).trans R_1
          replace R_2 := (ht.cell (p := ⟨w.heap.size, 2, none⟩) (by simp only []; omega) (by simp only []; omega)).trans R_2
          replace R_f0 := (ht.frozen (p := ⟨w.heap.size, 0, none⟩) (by simp only []; omega) (by simp only []; omega)).trans R_f0
          replace R_f1 := (ht.frozen (p := ⟨w.heap.size, 1, none⟩) (by simp only []; omega) (by simp only []; omega)).trans R_f1
          replace R_f2 := (ht.frozen (p := ⟨w.heap.size, 2, none⟩) (by simp only []; omega) (by simp only []; omega)).trans R_f2
          replace X_0 := (ht.cell (p := ⟨w.heap.size + 1, 0, none⟩) (by simp only []; omega) (by simp only []; omega)).trans X_0
          replace X_1 := (ht.cell (p := ⟨w.heap.size + 1, 1, none⟩) (by simp only []; omega) (by simp only []; omega)).trans X_1
          replace X_2 := (ht.cell (p := ⟨w.heap.size + 1, 2, none⟩) (by simp only []; omega) (by simp only []; omega)).trans X_2
          replace X_f2 := (ht.frozen (p := ⟨w.heap.size + 1, 2, none⟩) (by simp only []; omega) (by simp only []; omega)).trans X_f2
          have oR := HOR.out.turn ht (.inr (by omega))
          have T2 := HT.out.trans ht
          have HPUT := Lib.hid (l4Put_any _ _ rows xs wr (oR.rd reads_II) (ho.rd reads_I) (by omega) (fun q x hq => by have := (HRW.out x (List.mem_of_getElem? hq)).1; omega) (by omega))
          have HCU := Lib.hid hcur
          have HXR := Lib.hid hxr
          have HT2 := Lib.hid T2
          clear ho hcur ht hxr oR T2 HOR HT
          go_wp2_with fail
          refine HPUT.out.mono ?_
          rintro e w4 ⟨ub, un, uc, rfl, o4, z4⟩
          have s4 := z4.size
          replace R_0 := (z4.cell (p := ⟨w.heap.size, 0, none⟩) (by simp only []; omega)).trans R_0
          replace R_1 := (z4.cell (p := ⟨w.heap.size, 1, none⟩) (by simp only []; omega)).trans R_1
          replace R_2 := (z4.cell (p := ⟨w.heap.size, 2, none⟩) (by simp only []; omega)).trans R_2
          replace R_f0 := (z4.frozen (p := ⟨w.heap.size, 0, none⟩) (by simp only []; omega)).trans R_f0
          replace R_f1 := (z4.frozen (p := ⟨w.heap.size, 1, none⟩) (by simp only []; omega)).trans R_f1
          replace R_f2 := (z4.frozen (p := ⟨w.heap.size, 2, none⟩) (by simp only []; omega)).trans R_f2
          replace X_0 := (z4.cell (p := ⟨w.heap.size + 1, 0, none⟩) (by simp only []; omega)).trans X_0
          replace X_1 := (z4.cell (p := ⟨w.heap.size + 1, 1, none⟩) (by simp only []; omega)).trans X_1
          replace X_2 := (z4.cell (p := ⟨w.heap.size + 1, 2, none⟩) (by simp only []; omega)).trans X_2
          replace X_f2 := (z4.frozen (p := ⟨w.heap.size + 1, 2, none⟩) (by simp only []; omega)).trans X_f2
          have zS : Below w.heap.size w4 (w4.setCell ⟨w.heap.size + 1, 2, none⟩ (.slice ub un uc)) := Below.setCell (Below.refl _ _) (by simp only []; omega) _
          have HS2 : Hid (TabSt w cb ba bn bc name A M K2 (w4.setCell ⟨w.heap.size + 1, 2, none⟩ (.slice ub un uc))) := Lib.hid ⟨ub, un, uc, putL xs false rows, by have := putL_len xs false rows; omega,
            by simp [go_sem, R_0], by simp [go_sem, R_1], by simp [go_sem, R_2], by simp [go_sem, R_f0], by simp [go_sem, R_f1], by simp [go_sem, R_f2], by simp [go_sem, X_0], by simp [go_sem, X_1], by simp [go_sem, X_2], by simp [go_sem, X_f2],
            (Own.setOut o4 rfl (by simp only []; omega)).mono (by omega) (by simp [World.setCell]),
            fun r hr => by
              rcases (putL_mem xs).1 hr with rfl | hr
              · exact ⟨hjA, HXR.out⟩
              · exact HRW.out r hr,
            (HCU.out.below' z4 (by omega)).below' zS (by omega), turn_on' HT2.out ((z4.mono (by omega)).trans zS), by simp [World.setCell]; omega⟩
          clear HPUT HCU HXR HT2 o4 z4 zS HRW
          go_wp2_with fail
          go_roundw
          case rel => exact ⟨K2, by go_num, HS2⟩
          case measure => simp [intOf]
    · obtain rfl : Kn = 0 := by omega
      have HOR := Lib.hid ho
      have HRW := Lib.hid hrw
      have HT := Lib.hid ht
      have HCU := Lib.hid hcur
      clear ho hrw ht hcur
      go_wp2_with fail
      refine bodyPost_ret (v := .agg #[.string name, .int .i64 (A : Int), .slice b n c]) (by simp [results, Try.results84, go_sem, R_0, R_1, R_2, R_f0, R_f1, R_f2, X_0, X_1, X_2]) rfl ⟨b, n, c, rows, rfl, ?_, by omega, HRW.out, ?_, ?_⟩
      · refine Own.mono (lo := w.heap.size + 1 + 1) (hi := wr.heap.size) ?_ (by omega) (by simp [World.setCell])
        repeat (refine Own.setOut ?_ rfl (by simp only []; omega))
        exact HOR.out
      · refine HCU.out.below' (C := w.heap.size) ?_ hcb
        repeat (refine Below.setCell ?_ (by simp only []; omega) _)
        exact Below.refl _ _
      · refine turn_on' HT.out ?_
        repeat (refine Below.setCell ?_ (by simp only []; omega) _)
        exact Below.refl _ _

theorem infoRow3 : (Try.prog.info? 24).map (fun i => (i.zero, i.size, i.bytes)) = some (some (.slice none 0 0), 1, 24) := by kernel_rfl
/-- A row of one's own goes into rows of one's own. -/
theorem own_row {lo hi h2 : Nat} {W W1 : World} {v : Value} {ys : List (List Int)} {b : Option Addr} {n0 c0 : Nat} {r : List Int} (ty : TypeId) (h : Own oII lo hi W [v] ys) (hr : Own oI hi h2 W [.slice b n0 c0] r) (hh2 : h2 ≤ W.heap.size) (hlo : lo ≤ hi) (hhi : hi ≤ h2) (hn : ys.length ≤ 1000000) (hW1 : W1 = W.alloc (.cells #[.slice b n0 c0] 24)) :
    ∃ a n c w', (Builtin.append_ #[32, 32] ty #[v, .slice (some ⟨W.heap.size, 0, none⟩) 1 1]).run Try.prog W1 = .ok (.slice a n c) w' ∧ Own oII lo w'.heap.size w' [.slice a n c] (ys ++ [r]) ∧ Below lo W w' ∧ W.heap.size < w'.heap.size := by
  obtain ⟨fu, a2, a4, a9⟩ := h
  obtain ⟨fr, b2, b4, b9⟩ := hr
  obtain ⟨a, n, c, w', fu', hrun, c1, c2, c3, c4, ⟨c5, c6, c7⟩, c8⟩ := run_app_fp (W := W) (W1 := W1) Try.underlying32 infoRow3 rfl (by decide) (by decide) (o' := oI) rfl ty v ys [.slice b n0 c0] r fu fr a2 a4 b2 b4 (fun k hk hk2 => by have := a9 k hk2; have := b9 k hk; omega) (by intro z hz; simp at hz; subst hz; rfl) (by omega) hW1
  refine ⟨a, n, c, w', hrun, ⟨fu', c1, c2, fun k hk => ?_⟩, ⟨c5, c6, c7, by omega, fun k hk => c8 k (by omega) (fun hk2 => by have := a9 k hk2; omega)⟩, c4⟩
  rcases c3 k hk with h9 | h9 | h9
  · have := a9 k h9; omega
  · have := b9 k h9; omega
  · omega

end Go.Proofs.Ytehcjdbljdpmbaa

/- Contracts: groups of a table and their counts, by the reference. -/
namespace Go.Proofs.Ytehcjdbljdpmbaa
open Go.RowKit
set_option linter.unusedVariables false
set_option linter.unusedSimpArgs false
set_option synthInstance.maxSize 2000
set_option synthInstance.maxHeartbeats 400000

theorem Acc.turn {α : Type} {E : TypeId} {o : OS α} {lo S hi lo' hi' : Nat} {w w' : World} {v : Value} {xs : List α} (h : Acc E o lo S hi w v xs) (ht : Turn lo' hi' w w') (h1 : lo < lo' ∨ hi' ≤ lo) (h2 : hi' ≤ S) (hs : hi ≤ w.heap.size) : Acc E o lo S hi w' v xs := by
  obtain ⟨fp, h3, h4, h5⟩ := h
  exact ⟨fp, (O.slice E o).frame h3 (fun k hk => ht.block k (by have := (h5 k hk).2; omega) (by have := (h5 k hk).1; omega)), h4, h5⟩
theorem Acc.rdII {lo S hi : Nat} {w : World} {v : Value} {xs : List (List Int)} (h : Acc 24 oI lo S hi w v xs) : rII.rep w [v] xs := (h.own (B := 0) (Nat.zero_le _) (Nat.zero_le _) (Nat.le_refl _)).rd reads_II
theorem canon_step {rows : List (List Int)} {cs r : List Int} {j : Nat} (h : rows[j]? = some r) : canon (selRows (rows.take (j + 1)) cs) = putL (sel r cs) false (canon (selRows (rows.take j) cs)) := by
  rw [selRows_step h, canon_snoc]

set_option maxRecDepth 100000 in
set_option maxHeartbeats 4000000 in
theorem groups_spec (v : Value) (cs : List Value) (t : DT) (cols : List Int) (w : World) (ht : rT.rep w cs t) (h' : rI.rep w [v] cols) :
    Calls Try.prog 62 #[.agg cs.toArray, v] w fun e w' => ∃ b1 n1 c1 b2 n2 c2, e = .returned (.tuple #[.slice b1 n1 c1, .slice b2 n2 c2]) ∧ Own oII w.heap.size w'.heap.size w' [.slice b1 n1 c1] (grpV t cols) ∧ Own oI w.heap.size w'.heap.size w' [.slice b2 n2 c2] (grpN t cols) ∧ Below w.heap.size w w' := by
  obtain ⟨b, m, d, hv⟩ := rI_form h'
  simp at hv; subst hv
  obtain ⟨ub, un, uc, rfl, hs, hi, g1⟩ := rT_open ht
  have i0 := rI_ints h'
  have t0 := rS_sl g1
  have hl := t0.len
  have hn := t0.small
  have hml := i0.len
  have HVT := Lib.hid (fun W (hW : Below w.heap.size w W) => l10Cols_any _ t b m d cols W (rT.mono ht hW) (i0.below hW))
  obtain ⟨s, ar, rows⟩ := t
  simp only at hs hi g1 HVT t0 hl
  have HAR : Hid (colsT (s, ar, rows) cols = true → TOk (s, ar, rows) ∧ colsB ar cols = true) := Lib.hid (fun h => by rw [colsT, Bool.and_eq_true] at h; exact ⟨TOk.of h.2, h.1⟩)
  have HE0 : Hid (colsT (s, ar, rows) cols = false → grpV (s, ar, rows) cols = [] ∧ grpN (s, ar, rows) cols = []) := Lib.hid (fun h => by simp [grpV, grpN, h])
  have HE1 : Hid (colsT (s, ar, rows) cols = true → grpV (s, ar, rows) cols = canon (selRows rows cols) ∧ grpN (s, ar, rows) cols = countsOf (canon (selRows rows cols)) (selRows rows cols)) := Lib.hid (fun h => by simp [grpV, grpN, h, groups])
  obtain ⟨V, hV⟩ : ∃ V, colsT (s, ar, rows) cols = V := ⟨_, rfl⟩
  rw [hV] at HAR HE0 HE1
  have HVT2 : Hid (∀ W, Below w.heap.size w W → Calls Try.prog 88 #[.agg #[.string s, .int .i64 ar, .slice ub un uc], .slice b m d] W fun e w' => e = .returned (.bool V) ∧ Below W.heap.size W w') := Lib.hid (fun W hW => by rw [← hV]; exact HVT.out W hW)
  clear hV ht h' g1 hs hi HVT
  have hb0 : Below w.heap.size w w := Below.refl _ _
  go_enter Try.func62, Try.ntmps62
  obtain ⟨w1, hw1⟩ : ∃ W, W = w.alloc (.cells #[.string s, .int .i64 ar, .slice ub un uc] 34) := ⟨_, rfl⟩
  have z1 : Below w.heap.size w w1 := by rw [hw1]; exact (Below.refl _ _).alloc (Nat.le_refl _) _
  have s1 : w1.heap.size = w.heap.size + 1 := by rw [hw1]; simp
  have hb1 := on hb0 z1
  have t_0 : w1.cell? ⟨w.heap.size, 0, none⟩ = some (.string s) := by rw [hw1]; exact box_cell (Below.refl _ _) rfl
  have t_1 : w1.cell? ⟨w.heap.size, 1, none⟩ = some (.int .i64 ar) := by rw [hw1]; exact box_cell (Below.refl _ _) rfl
  have t_2 : w1.cell? ⟨w.heap.size, 2, none⟩ = some (.slice ub un uc) := by rw [hw1]; exact box_cell (Below.refl _ _) rfl
  have raw1_t_0 := t_0
  have raw1_t_1 := t_1
  have raw1_t_2 := t_2
  rw [hw1] at raw1_t_0 raw1_t_1 raw1_t_2
  obtain ⟨w2, hw2⟩ : ∃ W, W = w1.alloc (.cells #[] 24) := ⟨_, rfl⟩
  have z2 : Below w1.heap.size w1 w2 := by rw [hw2]; exact (Below.refl _ _).alloc (Nat.le_refl _) _
  have s2 : w2.heap.size = w1.heap.size + 1 := by rw [hw2]; simp
  have hb2 := on hb1 z2
  replace t_0 := (z2.cell (p := ⟨w.heap.size, 0, none⟩) (by simp only []; omega)).trans t_0
  replace t_1 := (z2.cell (p := ⟨w.heap.size, 1, none⟩) (by simp only []; omega)).trans t_1
  replace t_2 := (z2.cell (p := ⟨w.heap.size, 2, none⟩) (by simp only []; omega)).trans t_2
  have he1 : ∀ S, Acc 24 oI w1.heap.size S w2.heap.size w2 (.slice (some ⟨w.heap.size + 1, 0, none⟩) 0 0) [] := fun S => by rw [hw2]; exact Acc.empty (by omega) (by first | (simp; done) | (simp; omega))
  have raw2_t_0 := t_0
  have raw2_t_1 := t_1
  have raw2_t_2 := t_2
  rw [hw2, hw1] at raw2_t_0 raw2_t_1 raw2_t_2
  obtain ⟨w3, hw3⟩ : ∃ W, W = w2.alloc (.cells #[] 3) := ⟨_, rfl⟩
  have z3 : Below w2.heap.size w2 w3 := by rw [hw3]; exact (Below.refl _ _).alloc (Nat.le_refl _) _
  have s3 : w3.heap.size = w2.heap.size + 1 := by rw [hw3]; simp
  have hb3 := on hb2 z3
  replace t_0 := (z3.cell (p := ⟨w.heap.size, 0, none⟩) (by simp only []; omega)).trans t_0
  replace t_1 := (z3.cell (p := ⟨w.heap.size, 1, none⟩) (by simp only []; omega)).trans t_1
  replace t_2 := (z3.cell (p := ⟨w.heap.size, 2, none⟩) (by simp only []; omega)).trans t_2
  replace he1 := fun S => (he1 S).below z3 (by omega)
  have he2 : ∀ S, Acc 3 O.int w2.heap.size S w3.heap.size w3 (.slice (some ⟨w.heap.size + 1 + 1, 0, none⟩) 0 0) [] := fun S => by rw [hw3]; exact Acc.empty (by omega) (by first | (simp; done) | (simp; omega))
  have raw3_t_0 := t_0
  have raw3_t_1 := t_1
  have raw3_t_2 := t_2
  rw [hw3, hw2, hw1] at raw3_t_0 raw3_t_1 raw3_t_2
  go_wp2_with fail
  rw [← hw1]
  rw [← hw2]
  rw [← hw3]
  clear hw3 hw2 hw1
  clear raw1_t_0 raw1_t_1 raw1_t_2 raw2_t_0 raw2_t_1 raw2_t_2 raw3_t_0 raw3_t_1 raw3_t_2
  refine (HVT2.out _ hb3).mono ?_
  rintro e w9 ⟨rfl, z9⟩
  have s4 := z9.size
  have hb4 := on hb3 z9
  replace t_0 := (z9.cell (p := ⟨w.heap.size, 0, none⟩) (by simp only []; omega)).trans t_0
  replace t_1 := (z9.cell (p := ⟨w.heap.size, 1, none⟩) (by simp only []; omega)).trans t_1
  replace t_2 := (z9.cell (p := ⟨w.heap.size, 2, none⟩) (by simp only []; omega)).trans t_2
  replace he1 := fun S => (he1 S).below z9 (by omega)
  replace he2 := fun S => (he2 S).below z9 (by omega)
  cases V with
  | false =>
    obtain ⟨hE1, hE2⟩ := HE0.out rfl
    have H1 := Lib.hid hE1
    have H2 := Lib.hid hE2
    have HO1 := Lib.hid ((he1 w9.heap.size).own (B := w.heap.size) (hi' := w9.heap.size) (by omega) (by omega) (by omega))
    have HO2 := Lib.hid ((he2 w9.heap.size).own (B := w.heap.size) (hi' := w9.heap.size) (by omega) (by omega) (by omega))
    clear hE1 hE2 he1 he2
    go_wp2_with fail
    refine bodyPost_ret (v := .tuple #[.slice (some ⟨w.heap.size + 1, 0, none⟩) 0 0, .slice (some ⟨w.heap.size + 1 + 1, 0, none⟩) 0 0]) (by simp [results, Try.results62, go_sem]) rfl ⟨_, _, _, _, _, _, rfl, by rw [H1.out]; exact HO1.out, by rw [H2.out]; exact HO2.out, hb4⟩
  | true =>
    obtain ⟨hT, hcb⟩ := HAR.out rfl
    have hA := hT.ar
    have hr8 := hT.len
    simp only at hA hr8
    have hm3 := colsB_len' (by omega) hcb
    have hcl3 : cols.length ≤ 3 := by omega
    obtain ⟨hE1, hE2⟩ := HE1.out rfl
    have H1 := Lib.hid hE1
    have H2 := Lib.hid hE2
    have hm4 : m ≤ 3 := by omega
    have hun8 : un ≤ 8 := by omega
    have I0 := Lib.hid (fun W (hW : Below w.heap.size w W) => i0.below hW)
    clear hE1 hE2 HE0 HE1 HVT2 HAR hml i0 hT hcb hm3
    go_wp2_with fail
    go_loopw [6, 8] (fun v k wr => ∃ j : Nat, j ≤ un ∧ k = .int .i64 j ∧ Acc 24 oI w1.heap.size w9.heap.size wr.heap.size wr v (canon (selRows (rows.take j) cols)) ∧ Below w9.heap.size w9 wr) (fun _ k _ => un - (intOf k).toNat)
    case atStart => exact ⟨0, Nat.zero_le _, rfl, by rw [List.take_zero]; exact (he1 _).wide (Nat.le_refl _) (by omega), Below.refl _ _⟩
    case round =>
      obtain ⟨j, hj, rfl, hacc, hdr⟩ := hrel
      have hlc := hdr
      clear he1
      have s5 := hdr.size
      have hb5 := on hb4 hdr
      replace t_0 := (hdr.cell (p := ⟨w.heap.size, 0, none⟩) (by simp only []; omega)).trans t_0
      replace t_1 := (hdr.cell (p := ⟨w.heap.size, 1, none⟩) (by simp only []; omega)).trans t_1
      replace t_2 := (hdr.cell (p := ⟨w.heap.size, 2, none⟩) (by simp only []; omega)).trans t_2
      replace he2 := fun S => (he2 S).below hdr (by omega)
      have hclen : (canon (selRows (rows.take j) cols)).length ≤ 8 := by have := canon_len (selRows (rows.take j) cols); rw [selRows_len] at this; have := List.length_take_le j rows; omega
      have hcrow : ∀ (i : Nat) (x : List Int), (canon (selRows (rows.take j) cols))[i]? = some x → x.length ≤ 3 := fun i x hx => by
        have h9 := canon_mem.1 (List.mem_of_getElem? hx)
        simp only [selRows, List.mem_map] at h9
        obtain ⟨y, _, rfl⟩ := h9
        have := sel_len y cols; omega
      by_cases hlt : j < un
      · obtain ⟨b0, o0, r1, m1, q1, x, rfl, hc, hx, hi, hq1, hq2⟩ := t0.row hlt
        have hclt : b0 < w.heap.size := cell_lt hc
        have c0 : wr.cell? ⟨b0, o0 + j, none⟩ = some (.slice r1 m1 q1) := (hb5.cell (p := ⟨b0, o0 + j, none⟩) hclt).trans hc
        have HX := Lib.hid (fun W (hW : Below w.heap.size w W) => hi.below hW)
        have HS := Lib.hid (canon_step (cs := cols) hx.out)
        have HCR := Lib.hid hcrow
        clear hc hx hi hl t0 hcrow
        go_wp2_with fail
        refine (sel_spec _ _ _ _ _ _ x cols _ (HX.out _ hb5) (I0.out _ hb5) (by omega)).mono ?_
        rintro e w8 ⟨ab, nb, cb, rfl, oy, z8⟩
        have s6 := z8.size
        have hb6 := on hb5 z8
        replace t_0 := (z8.cell (p := ⟨w.heap.size, 0, none⟩) (by simp only []; omega)).trans t_0
        replace t_1 := (z8.cell (p := ⟨w.heap.size, 1, none⟩) (by simp only []; omega)).trans t_1
        replace t_2 := (z8.cell (p := ⟨w.heap.size, 2, none⟩) (by simp only []; omega)).trans t_2
        replace he2 := fun S => (he2 S).below z8 (by omega)
        replace hlc := on hlc z8
        replace c0 := (z8.cell (p := ⟨b0, o0 + j, none⟩) (by simp only []; omega)).trans c0
        replace hacc := hacc.below z8 (by omega)
        obtain ⟨va, vn, vc, rfl⟩ := hacc.form3
        have hxl := sel_len x cols
        have HSR : Hid (rI.rep w8 [.slice ab nb cb] (sel x cols)) := Lib.hid (oy.rd reads_I)
        clear oy
        go_wp2_with fail
        refine (l4Put_any _ _ _ (sel x cols) _ hacc.rdII HSR.out (by omega) (fun i y hy => by have := HCR.out i y hy; omega) (by omega)).mono ?_
        rintro e wP ⟨pa, pn, pc, rfl, op, zP⟩
        have sP := zP.size
        replace hlc := on hlc zP
        rw [← HS.out] at op
        go_wp2_with fail
        go_roundw
        case rel => exact ⟨j + 1, by omega, by go_num, (Acc.of op).wide (by omega) (Nat.le_refl _), hlc⟩
        case measure => simp [intOf]; omega
      · obtain rfl : un = j := by omega
        obtain ⟨wl, rfl⟩ : ∃ W, W = wr := ⟨_, rfl⟩
        rw [List.take_of_length_le (by omega)] at hacc
        obtain ⟨va, vn, vc, rfl⟩ := hacc.form3
        obtain ⟨all, hall⟩ : ∃ all, selRows rows cols = all := ⟨_, rfl⟩
        have HALL : Hid (∀ (i : Nat) (x : List Int), rows[i]? = some x → all[i]? = some (sel x cols)) := Lib.hid (fun i x h => by rw [← hall]; exact selRows_get h)
        have hal : all.length = un := by rw [← hall, selRows_len]; exact hl
        rw [hall] at hacc H1 H2
        obtain ⟨gs, hgs⟩ : ∃ gs, canon all = gs := ⟨_, rfl⟩
        rw [hgs] at hacc H1 H2
        have hgl := (rS_sl hacc.rdII).len
        have hgl8 : gs.length ≤ 8 := by rw [← hgs]; have := canon_len all; omega
        have hvn : vn ≤ 8 := by omega
        have HAL := Lib.hid hal
        have HGL := Lib.hid hgl
        clear hall hgs hclen hcrow hal hl hgl
        clear hlc
        go_wp2_with fail
        go_loopw [7, 11] (fun v k wr => ∃ j : Nat, j ≤ vn ∧ k = .int .i64 j ∧ Acc 3 O.int w2.heap.size wl.heap.size wr.heap.size wr v (countsOf (gs.take j) all) ∧ Turn w2.heap.size (w2.heap.size + 1) wl wr) (fun _ k _ => vn - (intOf k).toNat)
        case atStart => exact ⟨0, Nat.zero_le _, rfl, by rw [List.take_zero]; exact (he2 _).wide (Nat.le_refl _) (by omega), turn_refl _ _ _⟩
        case round =>
          obtain ⟨j, hj, rfl, hcc, hdr⟩ := hrel
          have hld := hdr
          clear he2
          obtain ⟨wo, rfl⟩ : ∃ W, W = wr := ⟨_, rfl⟩
          replace hacc := Acc.turn hacc hdr (show w1.heap.size < w2.heap.size ∨ w2.heap.size + 1 ≤ w1.heap.size by omega) (show w2.heap.size + 1 ≤ w9.heap.size by omega) (Nat.le_refl _)
          have s7 := hdr.size
          have hb7 := hb5.trans ((hdr.below (by omega)).mono (by omega))
          replace t_0 := (hdr.cell (p := ⟨w.heap.size, 0, none⟩) (by simp only []; omega) (by simp only []; omega)).trans t_0
          replace t_1 := (hdr.cell (p := ⟨w.heap.size, 1, none⟩) (by simp only []; omega) (by simp only []; omega)).trans t_1
          replace t_2 := (hdr.cell (p := ⟨w.heap.size, 2, none⟩) (by simp only []; omega) (by simp only []; omega)).trans t_2
          by_cases hlt : j < vn
          · obtain ⟨b0, o0, r1, m1, q1, g, rfl, hc, hx, hig, _, _⟩ := (rS_sl hacc.rdII).row hlt
            have c0 := hc
            have hb0lt := cell_lt hc
            simp only at hb0lt
            have HIG := Lib.hid (fun W (hW : Below wo.heap.size wo W) => hig.below hW)
            have HS := Lib.hid (countsOf_step (all := all) hx.out)
            have H0 : Hid (cntRow g all = 0 + cntRow g (all.drop 0)) := Lib.hid (by simp)
            have hcl8 : (countsOf (gs.take j) all).length ≤ 8 := by rw [countsOf_len]; have := List.length_take_le j gs; omega
            clear hc hx hig
            have hle0 : Below wo.heap.size wo wo := Below.refl _ _
            go_wp2_with fail
            go_loopw [12, 13] (fun n i wr => ∃ i' c : Nat, i' ≤ un ∧ i = .int .i64 i' ∧ n = .int .i64 c ∧ c ≤ i' ∧ Hid (cntRow g all = c + cntRow g (all.drop i')) ∧ Below wo.heap.size wo wr) (fun _ i _ => un - (intOf i).toNat)
            case atStart => exact ⟨0, 0, Nat.zero_le _, rfl, rfl, Nat.le_refl _, H0.out, Below.refl _ _⟩
            case round =>
              obtain ⟨i, c, hi, rfl, rfl, hci, hC, hdr2⟩ := hrel
              have hle := hdr2
              clear H0 hle0
              have s8 := hdr2.size
              have hb8 := on hb7 hdr2
              replace t_0 := (hdr2.cell (p := ⟨w.heap.size, 0, none⟩) (by simp only []; omega)).trans t_0
              replace t_1 := (hdr2.cell (p := ⟨w.heap.size, 1, none⟩) (by simp only []; omega)).trans t_1
              replace t_2 := (hdr2.cell (p := ⟨w.heap.size, 2, none⟩) (by simp only []; omega)).trans t_2
              replace hacc := hacc.below hdr2 (by omega)
              replace c0 := (hdr2.cell (p := ⟨b0, o0 + j, none⟩) (by simp only []; omega)).trans c0
              replace hcc := hcc.below hdr2 (by omega)
              replace hld := hld.trans (turn_below hdr2 (Nat.le_refl _))
              by_cases hlti : i < un
              · obtain ⟨b3, o3, r3, m3, q3, x, rfl, hc3, hx3, hi3, _, _⟩ := t0.row hlti
                have hclt3 : b3 < w.heap.size := cell_lt hc3
                have c3 : wr.cell? ⟨b3, o3 + i, none⟩ = some (.slice r3 m3 q3) := (hb8.cell (p := ⟨b3, o3 + i, none⟩) hclt3).trans hc3
                have HX := Lib.hid (fun W (hW : Below w.heap.size w W) => hi3.below hW)
                obtain ⟨d, hd⟩ : ∃ d, d = cmpRows (sel x cols) g := ⟨_, rfl⟩
                have hrng : d = -1 ∨ d = 0 ∨ d = 1 := by rw [hd]; exact cmpRows_rng _ _
                have HC : Hid (cntRow g all = c + ((if d = 0 then 1 else 0) + cntRow g (all.drop (i + 1)))) := Lib.hid (by
                  rw [hC.out, cntRow_at (HALL.out i x hx3.out), hd]
                  by_cases e : sel x cols = g
                  · rw [if_pos e, if_pos ((cmpRows_zero _ _).2 e)]
                  · rw [if_neg e, if_neg (fun h => e ((cmpRows_zero _ _).1 h))])
                have HCMP : Hid (∀ (ab : Option Addr) (nb cb : Nat) (W : World), Ints W ab nb (sel x cols) → Below wo.heap.size wo W → Calls Try.prog 56 #[.slice ab nb cb, .slice r1 m1 q1] W fun e w' => e = .returned (.int .i64 d) ∧ Drew W w') := Lib.hid (fun ab nb cb W h1 h2 => by rw [hd]; exact cmp_spec ab r1 nb m1 cb q1 _ g W h1 (HIG.out W h2))
                clear hc3 hx3 hi3 t0 hd hC
                go_wp2_with fail
                refine (sel_spec _ _ _ _ _ _ x cols _ (HX.out _ hb8) (I0.out _ hb8) (by omega)).mono ?_
                rintro e w8 ⟨ab, nb, cb, rfl, oy, z8⟩
                have s9 := z8.size
                have hb9 := on hb8 z8
                replace t_0 := (z8.cell (p := ⟨w.heap.size, 0, none⟩) (by simp only []; omega)).trans t_0
                replace t_1 := (z8.cell (p := ⟨w.heap.size, 1, none⟩) (by simp only []; omega)).trans t_1
                replace t_2 := (z8.cell (p := ⟨w.heap.size, 2, none⟩) (by simp only []; omega)).trans t_2
                replace hacc := hacc.below z8 (by omega)
                replace c0 := (z8.cell (p := ⟨b0, o0 + j, none⟩) (by simp only []; omega)).trans c0
                replace hcc := hcc.below z8 (by omega)
                replace hld := hld.trans (turn_below z8 (Nat.le_refl _))
                replace hle := on hle z8
                replace c3 := (z8.cell (p := ⟨b3, o3 + i, none⟩) (by simp only []; omega)).trans c3
                have HIY : Hid (Ints w8 ab nb (sel x cols)) := Lib.hid (rI_ints (oy.rd reads_I))
                clear oy
                rcases hrng with rfl | rfl | rfl
                · go_wp2_with fail
                  refine (HCMP.out _ _ _ _ HIY.out hle).mono ?_
                  rintro e w10 ⟨rfl, z10⟩
                  replace z10 : Below w8.heap.size w8 w10 := z10.below _
                  have s11 := z10.size
                  have hb11 := on hb9 z10
                  replace t_0 := (z10.cell (p := ⟨w.heap.size, 0, none⟩) (by simp only []; omega)).trans t_0
                  replace t_1 := (z10.cell (p := ⟨w.heap.size, 1, none⟩) (by simp only []; omega)).trans t_1
                  replace t_2 := (z10.cell (p := ⟨w.heap.size, 2, none⟩) (by simp only []; omega)).trans t_2
                  replace hacc := hacc.below z10 (by omega)
                  replace c0 := (z10.cell (p := ⟨b0, o0 + j, none⟩) (by simp only []; omega)).trans c0
                  replace hcc := hcc.below z10 (by omega)
                  replace hld := hld.trans (turn_below z10 (Nat.le_refl _))
                  replace hle := on hle z10
                  replace c3 := (z10.cell (p := ⟨b3, o3 + i, none⟩) (by simp only []; omega)).trans c3
                  have HE : Hid (cntRow g all = c + cntRow g (all.drop (i + 1))) := Lib.hid (by rw [HC.out]; simp)
                  go_wp2_with fail
                  go_roundw
                  case rel => exact ⟨i + 1, c, by omega, by go_num, rfl, by omega, HE.out, hle⟩
                  case measure => simp [intOf]; omega
                · go_wp2_with fail
                  refine (HCMP.out _ _ _ _ HIY.out hle).mono ?_
                  rintro e w12 ⟨rfl, z12⟩
                  replace z12 : Below w8.heap.size w8 w12 := z12.below _
                  have s13 := z12.size
                  have hb13 := on hb9 z12
                  replace t_0 := (z12.cell (p := ⟨w.heap.size, 0, none⟩) (by simp only []; omega)).trans t_0
                  replace t_1 := (z12.cell (p := ⟨w.heap.size, 1, none⟩) (by simp only []; omega)).trans t_1
                  replace t_2 := (z12.cell (p := ⟨w.heap.size, 2, none⟩) (by simp only []; omega)).trans t_2
                  replace hacc := hacc.below z12 (by omega)
                  replace c0 := (z12.cell (p := ⟨b0, o0 + j, none⟩) (by simp only []; omega)).trans c0
                  replace hcc := hcc.below z12 (by omega)
                  replace hld := hld.trans (turn_below z12 (Nat.le_refl _))
                  replace hle := on hle z12
                  replace c3 := (z12.cell (p := ⟨b3, o3 + i, none⟩) (by simp only []; omega)).trans c3
                  have HE : Hid (cntRow g all = (c + 1) + cntRow g (all.drop (i + 1))) := Lib.hid (by rw [HC.out]; simp; omega)
                  go_wp2_with fail
                  go_roundw
                  case rel => exact ⟨i + 1, c + 1, by omega, by go_num, by go_num, by omega, HE.out, hle⟩
                  case measure => simp [intOf]; omega
                · go_wp2_with fail
                  refine (HCMP.out _ _ _ _ HIY.out hle).mono ?_
                  rintro e w14 ⟨rfl, z14⟩
                  replace z14 : Below w8.heap.size w8 w14 := z14.below _
                  have s15 := z14.size
                  have hb15 := on hb9 z14
                  replace t_0 := (z14.cell (p := ⟨w.heap.size, 0, none⟩) (by simp only []; omega)).trans t_0
                  replace t_1 := (z14.cell (p := ⟨w.heap.size, 1, none⟩) (by simp only []; omega)).trans t_1
                  replace t_2 := (z14.cell (p := ⟨w.heap.size, 2, none⟩) (by simp only []; omega)).trans t_2
                  replace hacc := hacc.below z14 (by omega)
                  replace c0 := (z14.cell (p := ⟨b0, o0 + j, none⟩) (by simp only []; omega)).trans c0
                  replace hcc := hcc.below z14 (by omega)
                  replace hld := hld.trans (turn_below z14 (Nat.le_refl _))
                  replace hle := on hle z14
                  replace c3 := (z14.cell (p := ⟨b3, o3 + i, none⟩) (by simp only []; omega)).trans c3
                  have HE : Hid (cntRow g all = c + cntRow g (all.drop (i + 1))) := Lib.hid (by rw [HC.out]; simp)
                  go_wp2_with fail
                  go_roundw
                  case rel => exact ⟨i + 1, c, by omega, by go_num, rfl, by omega, HE.out, hle⟩
                  case measure => simp [intOf]; omega
              · have hR : cntRow g all = c := by rw [hC.out, cntRow_end (by have := HAL.out; omega)]; rfl
                have HS2 : Hid (countsOf (gs.take (j + 1)) all = countsOf (gs.take j) all ++ [(c : Int)]) := Lib.hid (by rw [HS.out, hR])
                clear hR hC
                go_wp2_with ((at_builtin; refine wpList_accI _ _ _ _ _ hcc hld rfl (by omega) (by omega) ⟨by omega, by omega⟩ (by omega) rfl rfl rfl rfl rfl ?_; intro v' w1 hacc' ht' hsz'))
                rw [← HS2.out] at hacc'
                go_roundw
                case rel => exact ⟨j + 1, by omega, by go_num, hacc', ht'⟩
                case measure => simp [intOf]; omega
          · rw [List.take_of_length_le (by have := HGL.out; omega)] at hcc
            obtain ⟨ca, cn, cd, rfl⟩ := hcc.form3
            have HO1 := Lib.hid (hacc.own (B := w.heap.size) (hi' := wo.heap.size) (by omega) (by omega) (by omega))
            have HO2 := Lib.hid (hcc.own (B := w.heap.size) (hi' := wo.heap.size) (by omega) (by omega) (by omega))
            clear hacc hcc t0
            go_wp2_with fail
            refine bodyPost_ret (v := .tuple #[.slice va vn vc, .slice ca cn cd]) (by simp [results, Try.results62, go_sem]) rfl ⟨_, _, _, _, _, _, rfl, by rw [H1.out]; exact HO1.out, by rw [H2.out]; exact HO2.out, hb7⟩

end Go.Proofs.Ytehcjdbljdpmbaa

/- Contracts: the reference's draws (2): sets of columns. -/
namespace Go.Proofs.Ytehcjdbljdpmbaa
open Go.RowKit
set_option linter.unusedVariables false
set_option linter.unusedSimpArgs false
set_option synthInstance.maxSize 2000
set_option synthInstance.maxHeartbeats 400000

theorem ints_four (W : World) (x y z v : Int) (hx : I64 x) (hy : I64 y) (hz : I64 z) (hv : I64 v) : Ints (W.alloc (.cells #[.int .i64 x, .int .i64 y, .int .i64 z, .int .i64 v] 3)) (some ⟨W.heap.size, 0, none⟩) 4 [x, y, z, v] :=
  ⟨rfl, by omega, fun i hi => by
    refine ⟨W.heap.size, 0, rfl, ?_⟩
    rw [Nat.zero_add]
    rcases (by omega : i = 0 ∨ i = 1 ∨ i = 2 ∨ i = 3) with rfl | rfl | rfl | rfl <;> exact box_cell (Below.refl _ _) rfl, fun u hu => by
    simp only [List.mem_cons, List.not_mem_nil, or_false] at hu
    rcases hu with rfl | rfl | rfl | rfl <;> assumption⟩
theorem Cur.below {w w' : World} {cb bn bc C : Nat} {ba : Option Addr} (h : Cur w cb ba bn bc) (hb : Below C w w') (hC : cb < C) : Cur w' cb ba bn bc := by
  obtain ⟨⟨i, hh, a1, a2, a3, a4, a5, a6, a7⟩, hby⟩ := h
  refine ⟨⟨i, hh, a1, a2, (hb.cell (p := ⟨cb, 0, none⟩) hC).trans a3, (hb.cell (p := ⟨cb, 1, none⟩) hC).trans a4, (hb.cell (p := ⟨cb, 2, none⟩) hC).trans a5, (hb.frozen (p := ⟨cb, 1, none⟩) hC).trans a6, (hb.frozen (p := ⟨cb, 2, none⟩) hC).trans a7⟩, hby.small, fun j hj => ?_⟩
  obtain ⟨b, off, v, ha, hbc, hc, hv⟩ := hby.cell j hj
  exact ⟨b, off, v, ha, hbc, (hb.cell (p := ⟨b, off + j, none⟩) (by simp only []; omega)).trans hc, hv⟩

set_option maxRecDepth 100000 in
set_option maxHeartbeats 2000000 in
theorem l10Set_any (w : World) (cb : Nat) (ba : Option Addr) (bn bc : Nat) (N : Nat) (hN : N ≤ 1000) (h : Cur w cb ba bn bc) (hcb : cb < w.heap.size) :
    Calls Try.prog 86 #[.pointer (some ⟨cb, 0, none⟩), .int .i64 (N : Int)] w fun e w' => ∃ b n c xs, e = .returned (.slice b n c) ∧ Own oI w.heap.size w'.heap.size w' [.slice b n c] xs ∧ xs.length ≤ N + 1 ∧ Cur w' cb ba bn bc ∧ Turn cb (cb + 1) w w' := by
  have HC0 := Lib.hid (h.below ((Below.refl w.heap.size w).alloc (Nat.le_refl _) (.cells #[] 3)) hcb)
  have HO0 : Hid (Own oI w.heap.size (w.alloc (.cells #[] 3)).heap.size (w.alloc (.cells #[] 3)) [.slice (some ⟨w.heap.size, 0, none⟩) 0 0] []) := Lib.hid (own_empty (Nat.le_refl w.heap.size)).own
  have HT0 : Hid (Turn cb (cb + 1) w (w.alloc (.cells #[] 3))) := Lib.hid (turn_below ((Below.refl w.heap.size w).alloc (Nat.le_refl _) _) (Nat.le_refl _))
  clear h
  go_enter Try.func86, Try.ntmps86
  go_wp2_with fail
  go_loopw [5, 6] (fun v i wr => ∃ (j n c : Nat) (b : Option Addr) (xs : List Int), j ≤ N ∧ i = .int .i64 j ∧ v = .slice b n c ∧ Own oI w.heap.size wr.heap.size wr [.slice b n c] xs ∧ xs.length ≤ j ∧ Cur wr cb ba bn bc ∧ Turn cb (cb + 1) w wr) (fun _ i _ => N - (intOf i).toNat)
  case atStart => exact ⟨0, 0, 0, _, [], Nat.zero_le _, rfl, rfl, HO0.out, Nat.le_refl _, HC0.out, HT0.out⟩
  case round =>
    obtain ⟨j, n, c, b, xs, hj, rfl, rfl, ho, hxl, hcur, ht⟩ := hrel
    have hts := ht.size
    by_cases hlt : j < N
    · have HON := Lib.hid (l1Once_any wr cb ba bn bc 2 (by omega) hcur)
      have HOW := Lib.hid ho
      have HTT := Lib.hid ht
      clear HC0 HO0 HT0 hcur ho ht
      go_wp2_with fail
      refine HON.out.mono ?_
      rintro e w1 ⟨t, rfl, hc1, hk1⟩
      have o1 := HOW.out.kept hk1 (.inr (by omega))
      have hz1 : w1.heap.size ≤ wr.heap.size := Nat.le_of_eq hk1.size
      have hz2 : wr.heap.size ≤ w1.heap.size := Nat.le_of_eq hk1.size.symm
      have t1 := HTT.out.trans hk1.turn
      have HC1 := Lib.hid hc1
      clear hk1 hc1
      cases t with
      | true =>
        obtain ⟨na, nn, nc, wn, hrn, on, hbn, hzn⟩ := own_num 24 o1 (r := (j : Int)) ⟨by omega, by omega⟩ (by omega) hts (by omega) rfl
        have HCN := Lib.hid (HC1.out.below hbn hcb)
        have TN := Lib.hid (turn_on' t1 hbn)
        have ON := Lib.hid on
        clear o1 t1 on
        go_wp2_with ((at_builtin; refine wpList_app_run hrn rfl rfl rfl rfl rfl ?_))
        go_roundw
        case rel => exact ⟨j + 1, nn, nc, na, xs ++ [(j : Int)], by omega, by go_num, rfl, ON.out, by rw [List.length_append]; simp; omega, HCN.out, TN.out⟩
        case measure => simp [intOf]; omega
      | false =>
        have O1 := Lib.hid (o1.mono (Nat.le_refl _) (show wr.heap.size ≤ w1.heap.size by omega))
        have T1 := Lib.hid t1
        clear o1 t1
        go_wp2_with fail
        go_roundw
        case rel => exact ⟨j + 1, n, c, b, xs, by omega, by go_num, rfl, O1.out, by omega, HC1.out, T1.out⟩
        case measure => simp [intOf]; omega
    · have HON := Lib.hid (l1Once_any wr cb ba bn bc 12 (by omega) hcur)
      have HOW := Lib.hid ho
      have HTT := Lib.hid ht
      clear HC0 HO0 HT0 hcur ho ht
      go_wp2_with fail
      refine HON.out.mono ?_
      rintro e w1 ⟨t, rfl, hc1, hk1⟩
      have o1 := HOW.out.kept hk1 (.inr (by omega))
      have hz1 : w1.heap.size ≤ wr.heap.size := Nat.le_of_eq hk1.size
      have hz2 : wr.heap.size ≤ w1.heap.size := Nat.le_of_eq hk1.size.symm
      have t1 := HTT.out.trans hk1.turn
      have HC1 := Lib.hid hc1
      clear hk1 hc1
      cases t with
      | false =>
        have O1 := Lib.hid (o1.mono (Nat.le_refl _) (show wr.heap.size ≤ w1.heap.size by omega))
        have T1 := Lib.hid t1
        clear o1 t1
        go_wp2_with fail
        go_ret
        exact ⟨_, _, _, xs, rfl, O1.out, by omega, HC1.out, T1.out⟩
      | true =>
        have hbA : Below w1.heap.size w1 (w1.alloc (.cells #[.int .i64 (-1), .int .i64 0, .int .i64 3, .int .i64 9223372036854775807] 3)) := (Below.refl _ _).alloc (Nat.le_refl _) _
        have HP := Lib.hid (l1PickInt_any (w1.alloc (.cells #[.int .i64 (-1), .int .i64 0, .int .i64 3, .int .i64 9223372036854775807] 3)) cb ba bn bc w1.heap.size 4 4 [-1, 0, 3, 9223372036854775807] (by omega) (by omega) (ints_four w1 _ _ _ _ (by constructor <;> decide) (by constructor <;> decide) (by constructor <;> decide) (by constructor <;> decide)) (by omega) (HC1.out.below hbA (by omega)))
        have oA := o1.below hbA (by omega)
        have tA := t1.trans (turn_below hbA (Nat.le_refl _))
        have sA : w1.heap.size ≤ (w1.alloc (.cells #[.int .i64 (-1), .int .i64 0, .int .i64 3, .int .i64 9223372036854775807] 3)).heap.size := hbA.size
        have OA := Lib.hid oA
        have TA := Lib.hid tA
        have SA := Lib.hid sA
        clear o1 t1 oA tA sA hbA
        go_wp2_with fail
        refine HP.out.mono ?_
        rintro e w2 ⟨x, rfl, hx, hc2, hk2⟩
        have hx64 : I64 x := by
          simp only [List.mem_cons, List.not_mem_nil, or_false] at hx
          rcases hx with rfl | rfl | rfl | rfl <;> (constructor <;> decide)
        have hz3 : w1.heap.size ≤ w2.heap.size := by rw [hk2.size]; exact SA.out
        have o2 := OA.out.kept hk2 (.inr (by omega))
        obtain ⟨na, nn, nc, wn, hrn, on, hbn, hzn⟩ := own_num 24 o2 (r := x) hx64 (by omega) hts (by omega) rfl
        have HCN := Lib.hid (hc2.below hbn hcb)
        have TN := Lib.hid (turn_on' (TA.out.trans hk2.turn) hbn)
        have ON := Lib.hid on
        clear o2 on hc2 hk2 hx hx64
        go_wp2_with ((at_builtin; refine wpList_app_run hrn rfl rfl rfl rfl rfl ?_))
        go_ret
        exact ⟨_, _, _, xs ++ [x], rfl, ON.out, by rw [List.length_append]; simp; omega, HCN.out, TN.out⟩

end Go.Proofs.Ytehcjdbljdpmbaa
