/- Texts joined for one claim: CompF, CopyS, GrpP, ValidDb. -/
import Derived.Test.YtbkoddikfpkocaaQ90a0a60cd3
import Derived.Lib.SliceRun

/- Contracts: rows compacted by the library (slices.CompactFunc); rows sorted, each once (impl.sorted). -/
namespace Go.Proofs.Ytbkoddikfpkocaa
open Go.RowKit Go.Sort
set_option linter.unusedVariables false
set_option linter.unusedSimpArgs false
set_option synthInstance.maxSize 2000
set_option synthInstance.maxHeartbeats 400000

theorem At.cell {g c j : Nat} {W : World} {vs : List Value} {u : Value} (h : At g c W vs) (hj : vs[j]? = some u) : W.cell? ⟨g, j, none⟩ = some u ∧ W.frozen? ⟨g, j, none⟩ = false := by
  obtain ⟨cur, hb, hs, ht⟩ := h.ex
  have hjl := (List.getElem?_eq_some_iff.1 hj).1
  have h1 : (cur.toList.take vs.length)[j]? = some u := by rw [ht]; exact hj
  rw [List.getElem?_take_of_lt hjl] at h1
  refine ⟨?_, ?_⟩
  · simp only [World.cell?, hb]; simpa using h1
  · simp only [World.frozen?, hb]; simp
theorem At.drew {g c : Nat} {W W' : World} {vs : List Value} (h : At g c W vs) (hd : Drew W W') : At g c W' vs := by
  obtain ⟨m, rfl⟩ := hd
  exact ⟨h.ex, h.le, h.cap⟩
theorem At.set {g c k : Nat} {W : World} {vs : List Value} (h : At g c W vs) (u : Value) : At g c (W.setCell ⟨g, k, none⟩ u) (vs.set k u) := by
  obtain ⟨cur, hb, hs, ht⟩ := h.ex
  refine ⟨⟨cur.setIfInBounds k u, ?_, by simp [hs], ?_⟩, by simpa using h.le, h.cap⟩
  · rw [setCell_eq]
    simp only [mapBlock, Array.getElem?_modify, if_true, hb, Option.map_some, onCells]
  · rw [List.length_set, Array.toList_setIfInBounds, List.take_set, ht]
theorem But.set {g k : Nat} {w W : World} (h : But g w W) (u : Value) : But g w (W.setCell ⟨g, k, none⟩ u) := fun i h1 h2 => by
  rw [← h i h1 h2]; exact Below.heap_setCell _ _ _ _ h1
theorem At.pre {g c : Nat} {W : World} {us vs : List Value} (h : At g c W (us ++ vs)) : At g c W us := by
  obtain ⟨cur, hb, hs, ht⟩ := h.ex
  have hle := h.le
  rw [List.length_append] at hle
  refine ⟨⟨cur, hb, hs, ?_⟩, by omega, h.cap⟩
  have h1 := congrArg (List.take us.length) ht
  rw [List.take_take, List.length_append, Nat.min_eq_left (by omega), List.take_left' rfl] at h1
  exact h1
theorem eqFn_any (a b : Option Addr) (n m cap cap' : Nat) (xs ys : List Int) (w : World) (h : Ints w a n xs) (h' : Ints w b m ys) :
    Calls Try.prog 191 #[.slice a n cap, .slice b m cap'] w fun e w' => e = .returned (.bool (decide (xs = ys))) ∧ Drew w w' := by
  have HC := Lib.hid (equalInts a b n m cap cap' xs ys w h h')
  clear h h'
  go_enter Try.func191, Try.ntmps191
  go_wp2_with (go_at_call 141; refine HC.out.mono ?_; rintro e w9 ⟨rfl, hd⟩)
  go_ret
  exact ⟨rfl, hd⟩
theorem El.ints {w W : World} {g : Nat} (x : El w g) (hb : But g w W) : ∃ a cap, x.v = .slice a x.xs.length cap ∧ Ints W a x.xs.length x.xs := by
  obtain ⟨a, cap, h, ho, _⟩ := oI_own (hb.rep x)
  simp at h
  exact ⟨a, cap, h, ho.ints⟩
/-- The comparison, at elements. -/
theorem eqEl_any {w W : World} {g : Nat} (x y : El w g) (hb : But g w W) :
    Calls Try.prog 191 #[x.v, y.v] W fun e w' => e = .returned (.bool (decide (x.xs = y.xs))) ∧ Drew W w' := by
  obtain ⟨a, cap, h1, i1⟩ := x.ints hb
  obtain ⟨b, cap', h2, i2⟩ := y.ints hb
  rw [h1, h2]
  exact eqFn_any a b _ _ cap cap' _ _ W i1 i2

theorem setCells_pre {g c : Nat} : ∀ (zs : List Value) {W : World} {vs : List Value} {o : Nat}, At g c W vs → vs.length ≤ o → At g c (W.setCells g o zs) vs
  | [], W, vs, o, h, _ => h
  | z :: t, W, vs, o, h, ho => by
    have h1 := h.set (k := o) z
    rw [List.set_eq_of_length_le ho] at h1
    exact setCells_pre t h1 (by omega)
theorem setCells_turn {g : Nat} : ∀ (zs : List Value) (W : World) (o : Nat), Turn g (g + 1) W (W.setCells g o zs)
  | [], W, o => turn_refl _ _ _
  | z :: t, W, o => ((turn_refl g (g + 1) W).setIn (p := ⟨g, o, none⟩) (Nat.le_refl _) (Nat.lt_succ_self _) z).trans (setCells_turn t _ (o + 1))
theorem turn_drew {lo hi : Nat} {a b : World} (h : Drew a b) : Turn lo hi a b := by
  obtain ⟨m, rfl⟩ := h
  exact ⟨rfl, rfl, rfl, Nat.le_refl _, fun _ _ _ => rfl⟩
theorem Turn.but {g : Nat} {w a b : World} (h : But g w a) (hs : w.heap.size ≤ a.heap.size) (k : Turn g (g + 1) a b) : But g w b := fun i h1 h2 =>
  (k.block i (by omega) (by omega)).trans (h i h1 h2)
theorem dedRow_skip {α : Type} {key : α → List Int} {d : List α} {p : Nat} (h : keepAt key d p = false) : dedRow key d (p + 1) = dedRow key d p := by
  rw [dedRow, dedRow, dedTo_skip h]

set_option maxRecDepth 100000 in
set_option maxHeartbeats 4000000 in
theorem compF_any {w : World} {g c : Nat} (d : List (El w g)) (w1 : World) (ha : At g c w1 (d.map El.v)) (hb : But g w w1) (hsz : w.heap.size ≤ w1.heap.size) (hg : g < w.heap.size) (n : Nat) (hnl : d.length = n) (hn : n ≤ 1000000000) :
    Calls Try.prog 190 #[.slice (some ⟨g, 0, none⟩) n c, .func (.func 191) #[] #[]] w1 fun e w2 => e = .returned (.slice (some ⟨g, 0, none⟩) (dedTo El.xs d n).length c) ∧ At g c w2 ((dedTo El.xs d n).map El.v) ∧ Turn g (g + 1) w1 w2 := by
  have hcap : n ≤ c := by have := ha.le; simpa [hnl] using this
  have hcm := ha.cap
  have hcm2 : c ≤ 9223372036854775807 := by unfold maxLen at hcm; omega
  have hbq : ∀ W, Drew w1 W → But g w W := fun W h i h1 h2 => by obtain ⟨m, rfl⟩ := h; exact hb i h1 h2
  by_cases h2 : n < 2
  · have HD : Hid (dedTo El.xs d n = d) := Lib.hid (by
      rw [dedTo_all (fun j hj => by (obtain rfl : j = 0 := (by omega)); exact keepAt_zero), List.take_of_length_le (by omega)])
    have HA := Lib.hid ha
    clear ha hb hbq
    go_enter Try.func190, Try.ntmps190
    go_wp2_with fail
    go_ret
    exact ⟨by rw [HD.out, hnl]; rfl, by rw [HD.out]; exact HA.out, turn_refl _ _ _⟩
  go_enter Try.func190, Try.ntmps190
  go_wp2_with fail
  go_loopw [5] (fun s wr => ∃ k : Nat, 1 ≤ k ∧ k ≤ n ∧ s = .int .i64 k ∧ Hid (∀ j, j < k → keepAt El.xs d j = true) ∧ Drew w1 wr) (fun s _ => n - (intOf s).toNat)
  case atStart => exact ⟨1, Nat.le_refl _, by omega, rfl, Lib.hid (fun j hj => by (obtain rfl : j = 0 := (by omega)); exact keepAt_zero), Drew.refl _⟩
  case round =>
    obtain ⟨k, hk1, hk, rfl, hall, hdr⟩ := hrel
    obtain ⟨i, rfl⟩ : ∃ i, k = i + 1 := ⟨k - 1, by omega⟩
    have hld := hdr
    have ha2 := ha.drew hdr
    have hb2 := hbq wr hdr
    by_cases hlt : i + 1 < n
    · obtain ⟨x, hx⟩ : ∃ x, d[i + 1]? = some x := ⟨_, List.getElem?_eq_getElem (by omega)⟩
      obtain ⟨y, hy⟩ : ∃ y, d[i]? = some y := ⟨_, List.getElem?_eq_getElem (by omega)⟩
      obtain ⟨c1, f1⟩ := ha2.cell (j := i + 1) (u := x.v) (by simp [hx])
      obtain ⟨c0, f0⟩ := ha2.cell (j := i) (u := y.v) (by simp [hy])
      have heq := fun q => eqEl_any (W := wr.drewN q) x y (fun j h1 h2 => hb2 j h1 h2)
      have hka := keepAt_at (key := El.xs) hx hy
      obtain ⟨t, ht⟩ : ∃ t, decide (x.xs = y.xs) = t := ⟨_, rfl⟩
      rw [ht] at hka
      simp only [ht] at heq
      have HEQ := Lib.hid heq
      have HKA := Lib.hid hka
      have hi63 : IntKind.i64.wrap (i : Int) = (i : Int) := IntWalk.i64_in _ (by omega)
      clear heq hka ht
      cases t with
      | false =>
        have HALL : Hid (∀ j, j < i + 1 + 1 → keepAt El.xs d j = true) := Lib.hid (fun j hj => by
          by_cases e : j = i + 1
          · subst e; exact HKA.out
          · exact hall.out j (by omega))
        clear hall HKA
        go_wp2_with fail
        go_quiet ((go_at_call 191; exact quiet_drew (HEQ.out _)))
        clear hi63
        go_wp2_with fail
        go_roundw
        case rel => exact ⟨i + 1 + 1, by omega, by omega, by go_num, HALL, hld.step _⟩
        case measure => simp [intOf]; omega
      | true =>
        have hd1 : dedTo El.xs d (i + 1) = d.take (i + 1) := dedTo_all (fun j hj => hall.out j hj)
        have hd2 : dedTo El.xs d (i + 1 + 1) = d.take (i + 1) := by rw [dedTo_skip HKA.out, hd1]
        have hdl : (dedTo El.xs d (i + 1 + 1)).length = i + 1 := by rw [hd2, List.length_take]; omega
        have hdr2 : dedRow El.xs d (i + 1 + 1) = d := by rw [dedRow, hdl, hd2, List.take_append_drop]
        have HD1 := Lib.hid hdl
        have HD2 := Lib.hid hdr2
        clear hall HKA hd1 hd2 hdl hdr2
        go_wp2_with fail
        go_quiet ((go_at_call 191; exact quiet_drew (HEQ.out _)))
        clear hi63 HEQ
        have hwq := fun q => (turn_drew (lo := g) (hi := g + 1) (hld.step q))
        have haq := fun q => ha.drew (hld.step q)
        go_wp2_with fail
        go_loopw [5, 7] (fun s5 s7 wr => ∃ k2 kk : Nat, 1 ≤ k2 ∧ i + 1 + k2 ≤ n ∧ s7 = .int .i64 k2 ∧ s5 = .int .i64 kk ∧ kk + 1 ≤ i + 1 + k2 ∧ Hid ((dedTo El.xs d (i + 1 + k2)).length = kk) ∧ At g c wr ((dedRow El.xs d (i + 1 + k2)).map El.v) ∧ Turn g (g + 1) w1 wr) (fun _ s7 _ => n - (i + 1 + (intOf s7).toNat))
        case atStart => exact ⟨1, i + 1, Nat.le_refl _, by omega, rfl, rfl, by omega, HD1, by rw [HD2.out]; exact haq _, hwq _⟩
        case round =>
          obtain ⟨k2, kk, hk21, hk2, rfl, rfl, hkk, hlen, hA, hT⟩ := hrel
          obtain ⟨q, rfl⟩ : ∃ q, k2 = q + 1 := ⟨k2 - 1, by omega⟩
          have hb3 := Turn.but hb hsz hT
          clear haq hwq ha2 hb2
          by_cases hlt2 : i + 1 + (q + 1) < n
          · obtain ⟨x2, hx2⟩ : ∃ x, d[i + 1 + (q + 1)]? = some x := ⟨_, List.getElem?_eq_getElem (by omega)⟩
            obtain ⟨y2, hy2⟩ : ∃ y, d[i + 1 + q]? = some y := ⟨_, List.getElem?_eq_getElem (by omega)⟩
            obtain ⟨c3, f3⟩ := hA.cell (j := i + 1 + (q + 1)) (u := x2.v) (by rw [List.getElem?_map, dedRow_get (by rw [hlen.out]; omega), hx2]; rfl)
            obtain ⟨c2, f2⟩ := hA.cell (j := i + 1 + q) (u := y2.v) (by rw [List.getElem?_map, dedRow_get (by rw [hlen.out]; omega), hy2]; rfl)
            obtain ⟨z, hz⟩ : ∃ z, d[kk]? = some z := ⟨_, List.getElem?_eq_getElem (by omega)⟩
            obtain ⟨ck, fk⟩ := hA.cell (j := kk) (u := z.v) (by rw [List.getElem?_map, dedRow_get (by rw [hlen.out]; omega), hz]; rfl)
            have heq := fun q => eqEl_any (W := wr.drewN q) x2 y2 (fun j h1 h2 => hb3 j h1 h2)
            have hka : keepAt El.xs d (i + 1 + (q + 1)) = !decide (x2.xs = y2.xs) := keepAt_at (key := El.xs) (p := i + 1 + q) hx2 hy2
            obtain ⟨t, ht⟩ : ∃ t, decide (x2.xs = y2.xs) = t := ⟨_, rfl⟩
            rw [ht] at hka
            simp only [ht] at heq
            have HEQ := Lib.hid heq
            have hi63 : IntKind.i64.wrap (q : Int) = (q : Int) := IntWalk.i64_in _ (by omega)
            clear heq ht
            cases t with
            | true =>
              have HLEN : Hid ((dedTo El.xs d (i + 1 + (q + 1 + 1))).length = kk) := Lib.hid (by
                show (dedTo El.xs d (i + 1 + (q + 1) + 1)).length = kk
                rw [dedTo_skip hka, hlen.out])
              have HROW : Hid (dedRow El.xs d (i + 1 + (q + 1 + 1)) = dedRow El.xs d (i + 1 + (q + 1))) := Lib.hid (dedRow_skip hka)
              clear hka hlen
              go_wp2_with fail
              go_quiet ((go_at_call 191; exact quiet_drew (HEQ.out _)))
              clear hi63
              go_wp2_with fail
              go_roundw
              case rel => exact ⟨q + 1 + 1, kk, by omega, by omega, by go_num, rfl, by omega, HLEN, by rw [HROW.out]; exact hA.drew ⟨_, rfl⟩, hT.trans (turn_drew ⟨_, rfl⟩)⟩
              case measure => simp [intOf]; omega
            | false =>
              have HLEN : Hid ((dedTo El.xs d (i + 1 + (q + 1 + 1))).length = kk + 1) := Lib.hid (by
                show (dedTo El.xs d (i + 1 + (q + 1) + 1)).length = kk + 1
                rw [dedTo_keep hx2 hka, List.length_append, hlen.out]; rfl)
              have HROW : Hid ((dedRow El.xs d (i + 1 + (q + 1))).set kk x2 = dedRow El.xs d (i + 1 + (q + 1 + 1))) := Lib.hid (by
                have h9 := dedRow_set (key := El.xs) hx2 hka
                rw [hlen.out] at h9; exact h9)
              obtain ⟨xa, xcp, hxv⟩ := x2.form
              rw [hxv] at c3 HEQ
              clear hka hlen
              go_wp2_with fail
              go_quiet ((go_at_call 191; exact quiet_drew (HEQ.out _)))
              clear hi63
              go_wp2_with fail
              go_roundw
              case rel =>
                refine ⟨q + 1 + 1, kk + 1, by omega, by omega, by go_num, by go_num, by omega, HLEN, ?_, ?_⟩
                · rw [← HROW.out, List.map_set]
                  rw [hxv]
                  exact (hA.drew ⟨_, rfl⟩).set _
                · exact (hT.trans (turn_drew ⟨_, rfl⟩)).setIn (p := ⟨g, kk, none⟩) (Nat.le_refl _) (Nat.lt_succ_self _) _
              case measure => simp [intOf]; omega
          · have hpn : i + 1 + (q + 1) = n := by omega
            rw [hpn] at hA hlen
            have hkn : kk < n := by omega
            have hcl : ∀ ty, (Builtin.clear_ #[32] ty #[.slice (some ⟨g, kk, none⟩) (n - kk) (c - kk)]).run Try.prog wr = .ok (.tuple #[]) (wr.setCells g kk (List.replicate (n - kk) (.slice none 0 0))) := fun ty =>
              Lib.run_clear_slice wr 32 24 ty (.slice none 0 0) Try.underlying32 Try.zeroValue24 rfl rfl g kk (n - kk) (c - kk) (by omega)
                (fun j hj => by
                  obtain ⟨u, hu⟩ : ∃ u, ((dedRow El.xs d n).map El.v)[kk + j]? = some u := ⟨_, List.getElem?_eq_getElem (by rw [List.length_map, dedRow_len (by omega)]; omega)⟩
                  rw [(hA.cell hu).1]; rfl)
                (fun j hj => by
                  obtain ⟨u, hu⟩ : ∃ u, ((dedRow El.xs d n).map El.v)[kk + j]? = some u := ⟨_, List.getElem?_eq_getElem (by rw [List.length_map, dedRow_len (by omega)]; omega)⟩
                  exact (hA.cell hu).2)
            have HA := Lib.hid (show At g c (wr.setCells g kk (List.replicate (n - kk) (.slice none 0 0))) ((dedTo El.xs d n).map El.v) from
              setCells_pre _ (by rw [dedRow, List.map_append] at hA; exact hA.pre) (by rw [List.length_map, hlen.out]; exact Nat.le_refl _))
            have HT := Lib.hid (hT.trans (setCells_turn (List.replicate (n - kk) (.slice none 0 0)) wr kk))
            clear hA hT hb3 hpn
            go_wp2_with fail
            go_ret
            exact ⟨by rw [hlen.out]; rfl, HA.out, HT.out⟩
    · have hkn : i + 1 = n := by omega
      have HD : Hid (dedTo El.xs d n = d) := Lib.hid (by
        rw [dedTo_all (fun j hj => hall.out j (by omega)), List.take_of_length_le (by omega)])
      have HA := Lib.hid ha2
      clear hall ha2 hb2 ha hb hbq
      go_wp2_with fail
      go_ret
      exact ⟨by rw [HD.out, hnl]; rfl, by rw [HD.out]; exact HA.out, turn_drew hld⟩

theorem But.sortA {w : World} {g m : Nat} (dk : Array (El w g)) (os : Array Obj) : But g w (Go.Proofs.sortWorld El.v w g 0 m dk os) := fun k hk hs => by
  unfold Go.Proofs.sortWorld
  rw [heap_grow_old _ _ (by rw [size_putRow]; exact hs)]
  simp only [putRow, mapBlock, Array.getElem?_modify]
  rw [if_neg (Ne.symm hk)]
  rfl
theorem sortW_below {w : World} {g m lo : Nat} (dk : Array (El w g)) (os : Array Obj) (hl : lo ≤ w.heap.size) (hg : lo ≤ g) : Below lo w (Go.Proofs.sortWorld El.v w g 0 m dk os) :=
  ⟨rfl, rfl, rfl, by unfold Go.Proofs.sortWorld; rw [size_grow, size_putRow]; exact Nat.le_add_right _ _, fun k hk => But.sortA dk os k (by omega) (by omega)⟩
/-- impl.CompareRows, wherever the library's sort calls it. -/
theorem cmpLays {w : World} {g n : Nat} : Go.Proofs.CmpLays1 Try.prog 189 #[] (El.v (w := w) (g := g)) cfE g 0 n w := by
  intro m os dk hs x y
  obtain ⟨a, cap, h1, i1⟩ := x.ints (But.sortA (m := m) dk os)
  obtain ⟨b, cap', h2, i2⟩ := y.ints (But.sortA (m := m) dk os)
  rw [h1, h2]
  refine (cmpRows_any a b _ _ cap cap' _ _ _ i1 i2).mono ?_
  rintro e w' ⟨rfl, rfl⟩
  exact ⟨rfl, 0, #[], (grow_empty _).symm⟩
theorem own_nilptr {lo hi n c : Nat} {w : World} {rows : List (List Int)} {a : Option Addr} (h : Own oII lo hi w [.slice a n c] rows) : (a = none ∧ n = 0 ∧ c = 0 ∧ rows = []) ∨ ∃ g, a = some ⟨g, 0, none⟩ ∧ rows.length = n := by
  obtain ⟨fp, ⟨v, css, fs, hv, rfl, h1, h2⟩, hn, hb⟩ := h
  simp only [List.cons.injEq, and_true] at hv
  subst hv
  have hr := oI.rows_len h2
  rcases h1.2 with ⟨h9, h0⟩ | ⟨g, cap, cur, hv', _, _, _, _, _, _⟩
  · simp at h9
    exact .inl ⟨h9.1, h9.2.1, h9.2.2, List.eq_nil_of_length_eq_zero h0⟩
  · simp at hv'
    exact .inr ⟨g, hv'.1, hv'.2.1.symm⟩

end Go.Proofs.Ytbkoddikfpkocaa

/- Contracts: the copy of a table, of the reference. -/
namespace Go.Proofs.Ytbkoddikfpkocaa
open Go.RowKit Go.Sort
set_option linter.unusedVariables false
set_option linter.unusedSimpArgs false
set_option synthInstance.maxSize 2000
set_option synthInstance.maxHeartbeats 400000

/-- A builtin append at a step of a region that draws, by its run. -/
theorem step_app {ops : Array Oper} {o : Oper} {a : Act} {K : Act → World → Prop} {Q : Exit → Act → World → Prop} {E : Prop} {w w' : World} {s x : Operand} {t t' : TypeId} {vs vx v' : Value}
    {ty : TypeId} (hrun : (Builtin.append_ #[t, t'] ty #[vs, vx]).run Try.prog w = .ok v' w') (hty : o.type = ty) (hgd : o.guard = none)
    (ho : o.op = .call { callee := .builtin .append, args := #[s, x], argTypes := #[t, t'] }) (hs : a.eval s = vs) (hx : a.eval x = vx)
    (h : K (a.put o.dst v') w') :
    if Region.wanted o (yielded ops a.tmps) = true then Oper.wp Try.prog o a w K Q else E := by
  have hw : Region.wanted o (yielded ops a.tmps) = true := by simp [Region.wanted, hgd]
  rw [if_pos hw]
  unfold Oper.wp execOp
  simp only [ho, resolve, invoke, builtin, Sem.run_bind, Sem.run_pure, Result.andThen_ok, List.map_toArray, List.map_cons, List.map_nil, hs, hx, hty, hrun]
  exact h

theorem cell_ad {w : World} {o : Obj} {p : Addr} {v : Value} (h : w.cell? p = some v) : (w.alloc o).cell? p = some v :=
  (((Below.refl _ _).alloc (Nat.le_refl _) o).cell (p := p) (World.block_lt_of_cell? w p h)).trans h
theorem cell_add {w : World} {o : Obj} {p : Addr} {v : Value} (h : w.cell? p = some v) : (w.alloc o).drew.cell? p = some v :=
  (((Below.refl _ _).alloc (Nat.le_refl _) o).drew.cell (p := p) (World.block_lt_of_cell? w p h)).trans h
/-- What a cell holds. -/
def valAt (W : World) (p : Addr) : Value := (W.cell? p).getD undef
theorem valAt_eq {W : World} {p : Addr} {v : Value} (h : W.cell? p = some v) : valAt W p = v := by unfold valAt; rw [h]; rfl
theorem valAt_of {W : World} {p : Addr} {v : Value} (h : W.cell? p = some v) : W.cell? p = some (valAt W p) := by rw [valAt_eq h, h]
theorem valAt_set {W : World} {p q : Addr} {u v : Value} (h : W.cell? q = some v) : (W.setCell p u).cell? q = some (valAt (W.setCell p u) q) := by
  obtain ⟨v', h'⟩ := cell?_setCell_some (p := p) (x := u) h
  exact valAt_of h'
theorem cell_set {W : World} {p q : Addr} {u v : Value} (h : W.cell? q = some v) (hne : q.block ≠ p.block) : (W.setCell p u).cell? q = some v :=
  (World.cell?_of_block (a := q) (Below.heap_setCell _ _ _ _ hne)).trans h
/-- 'append([]int{}, xs...)', run. -/
theorem run_copyI (W W1 : World) (ty : TypeId) (n c : Nat) (ad : Option Addr) (xs : List Int) (hi : Ints W ad n xs) (hn : n ≤ 1000000000000) (hW1 : W1 = W.alloc (.cells #[] 3)) :
    ∃ v' w', (Builtin.append_ #[24, 24] ty #[.slice (some ⟨W.heap.size, 0, none⟩) 0 0, .slice ad n c]).run Try.prog W1 = .ok v' w' ∧ Own oI W.heap.size w'.heap.size w' [v'] xs ∧ Below W.heap.size W w' ∧ W.heap.size < w'.heap.size := by
  subst hW1
  obtain ⟨i, hi0, hz0, hz1, hz2⟩ := info_parts infoInt
  have hown := own_empty (Nat.le_refl W.heap.size)
  have hbl : Below W.heap.size W (W.alloc (.cells #[] 3)) := (Below.refl _ _).alloc (Nat.le_refl _) _
  replace hi := hi.below hbl
  cases ad with
  | none =>
    have hn0 : n = 0 := by
      rcases Nat.eq_zero_or_pos n with h0 | h0
      · exact h0
      · obtain ⟨b, off, hb, _⟩ := hi.cell 0 h0; simp at hb
    subst hn0
    have hx0 : xs = [] := List.eq_nil_of_length_eq_zero hi.len
    subst hx0
    have hr : (Builtin.append_ #[24, 24] ty #[.slice (some ⟨W.heap.size, 0, none⟩) 0 0, .slice none 0 c]).run Try.prog (W.alloc (.cells #[] 3)) = .ok (.slice (some ⟨W.heap.size, 0, none⟩) 0 0) (W.alloc (.cells #[] 3)) := run_append_room_src (P := Try.prog) (W.alloc (.cells #[] 3)) 24 24 ty 3 i Try.underlying24 hi0 W.heap.size 0 0 0 (.slice none 0 c) 0 [] (Src.ofNil _ Try.underlying24 c) (by omega) (by simp) (by simp)
    exact ⟨_, _, hr, hown.own, hbl, by simp⟩
  | some ad =>
    have hnews : ∀ j u, (xs.map (Value.int .i64))[j]? = some u → (W.alloc (.cells #[] 3)).cell? (ad.add j) = some u := by
      intro j u hu
      rw [List.getElem?_map] at hu
      have hj : j < n := by
        rw [← hi.len]
        rcases Nat.lt_or_ge j xs.length with h1 | h1
        · exact h1
        · rw [List.getElem?_eq_none h1] at hu; simp at hu
      obtain ⟨b, off, hb, hc⟩ := hi.cell j hj
      simp at hb
      subst hb
      rw [List.getD_eq_getElem?_getD] at hc
      rw [List.getElem?_eq_getElem (by rw [hi.len]; exact hj)] at hu hc
      simp at hu
      subst hu
      rw [Addr.add_lit]
      simpa using hc
    obtain ⟨v', w', hrun, h1, h2, _⟩ := run_append_own_at (P := Try.prog) (W.alloc (.cells #[] 3)) W.heap.size 24 ty 3 i (.int .i64 0) 1 8 Try.underlying24 hi0 hz0 hz1 hz2 rfl (by decide) _ 0 [] (by simpa using hown.row) ad n c (xs.map (Value.int .i64)) (by simp [hi.len]) hnews (by intro z hz; simp at hz; obtain ⟨y, _, rfl⟩ := hz; rfl) (by unfold maxLen; omega) (by omega) (by simp)
    refine ⟨v', w', hrun, (OwnInts.own ⟨hi.len, by simpa using h1, hi.rng⟩), hbl.grown h2 (by simp) (fun k hk => by simp [Value.ownBlock] at hk; omega), ?_⟩
    have := h2.size; simp at this; omega

set_option maxRecDepth 100000 in
set_option maxHeartbeats 2000000 in
theorem l4Copy_any (cs : List Value) (x : DT) (w : World) (h : rT.rep w cs x) (hn : bulk_T x ≤ 100000000) :
    Calls Try.prog 193 #[.agg cs.toArray] w fun e w' => ∃ ds, e = .returned (.agg ds.toArray) ∧ Own oT w.heap.size w'.heap.size w' ds x ∧ Below w.heap.size w w' := by
  obtain ⟨ub, un, uc, rfl, hs, hi, g1⟩ := rT_open h
  clear h
  obtain ⟨s, i, rows⟩ := x
  simp only at hs hi g1
  have hn2 : bulk_II rows ≤ 100000000 := by unfold bulk_T at hn; simp only at hn; omega
  clear hn
  have t0 := rS_sl g1
  have hl := t0.len
  have hn1 : un ≤ 100000000 := by unfold bulk_II at hn2; omega
  have hrows : ∀ (j : Nat) (r : List Int), rows[j]? = some r → r.length ≤ 100000000 := fun j r hr => by
    have h9 := sumBy_mem bulk_I hr; unfold bulk_II at hn2; unfold bulk_I at h9 hn2; omega
  have HR := Lib.hid hrows
  clear hrows hn2
  have hb0 : Below w.heap.size w w := Below.refl _ _
  go_enter Try.func193, Try.ntmps193
  obtain ⟨w1, hw1⟩ : ∃ W, W = w.alloc (.cells #[.string s, .int .i64 i, .slice ub un uc] 34) := ⟨_, rfl⟩
  have z1 : Below w.heap.size w w1 := by rw [hw1]; exact (Below.refl _ _).alloc (Nat.le_refl _) _
  have s1 : w1.heap.size = w.heap.size + 1 := by rw [hw1]; simp
  have hb1 := on hb0 z1
  have b_0 : w1.cell? ⟨w.heap.size, 0, none⟩ = some (.string s) := by rw [hw1]; exact box_cell (Below.refl _ _) rfl
  have b_1 : w1.cell? ⟨w.heap.size, 1, none⟩ = some (.int .i64 i) := by rw [hw1]; exact box_cell (Below.refl _ _) rfl
  have b_2 : w1.cell? ⟨w.heap.size, 2, none⟩ = some (.slice ub un uc) := by rw [hw1]; exact box_cell (Below.refl _ _) rfl
  have b_f0 : w1.frozen? ⟨w.heap.size, 0, none⟩ = false := by rw [hw1]; exact box_frozen (Below.refl _ _)
  have b_f1 : w1.frozen? ⟨w.heap.size, 1, none⟩ = false := by rw [hw1]; exact box_frozen (Below.refl _ _)
  have b_f2 : w1.frozen? ⟨w.heap.size, 2, none⟩ = false := by rw [hw1]; exact box_frozen (Below.refl _ _)
  have raw1_b_0 := b_0
  have raw1_b_1 := b_1
  have raw1_b_2 := b_2
  rw [hw1] at raw1_b_0 raw1_b_1 raw1_b_2
  obtain ⟨w2, hw2⟩ : ∃ W, W = w1.alloc (.cells #[.string ⟨#[]⟩, .int .i64 0, .slice none 0 0] 34) := ⟨_, rfl⟩
  have z2 : Below w1.heap.size w1 w2 := by rw [hw2]; exact (Below.refl _ _).alloc (Nat.le_refl _) _
  have s2 : w2.heap.size = w1.heap.size + 1 := by rw [hw2]; simp
  have hb2 := on hb1 z2
  replace b_0 := (z2.cell (p := ⟨w.heap.size, 0, none⟩) (by simp only []; omega)).trans b_0
  replace b_1 := (z2.cell (p := ⟨w.heap.size, 1, none⟩) (by simp only []; omega)).trans b_1
  replace b_2 := (z2.cell (p := ⟨w.heap.size, 2, none⟩) (by simp only []; omega)).trans b_2
  replace b_f0 := (z2.frozen (p := ⟨w.heap.size, 0, none⟩) (by simp only []; omega)).trans b_f0
  replace b_f1 := (z2.frozen (p := ⟨w.heap.size, 1, none⟩) (by simp only []; omega)).trans b_f1
  replace b_f2 := (z2.frozen (p := ⟨w.heap.size, 2, none⟩) (by simp only []; omega)).trans b_f2
  have e2 : w1.heap.size = w.heap.size + 1 := by omega
  have r_0 : w2.cell? ⟨w1.heap.size, 0, none⟩ = some (.string ⟨#[]⟩) := by rw [hw2]; exact box_cell (Below.refl _ _) rfl
  have r_1 : w2.cell? ⟨w1.heap.size, 1, none⟩ = some (.int .i64 0) := by rw [hw2]; exact box_cell (Below.refl _ _) rfl
  have r_2 : w2.cell? ⟨w1.heap.size, 2, none⟩ = some (.slice none 0 0) := by rw [hw2]; exact box_cell (Below.refl _ _) rfl
  rw [e2] at r_0 r_1 r_2
  have r_f0 : w2.frozen? ⟨w1.heap.size, 0, none⟩ = false := by rw [hw2]; exact box_frozen (Below.refl _ _)
  have r_f1 : w2.frozen? ⟨w1.heap.size, 1, none⟩ = false := by rw [hw2]; exact box_frozen (Below.refl _ _)
  have r_f2 : w2.frozen? ⟨w1.heap.size, 2, none⟩ = false := by rw [hw2]; exact box_frozen (Below.refl _ _)
  rw [e2] at r_f0 r_f1 r_f2
  have raw2_b_0 := b_0
  have raw2_b_1 := b_1
  have raw2_b_2 := b_2
  have raw2_r_0 := r_0
  have raw2_r_1 := r_1
  have raw2_r_2 := r_2
  rw [hw2, hw1] at raw2_b_0 raw2_b_1 raw2_b_2 raw2_r_0 raw2_r_1 raw2_r_2
  obtain ⟨w3, hw3⟩ : ∃ W, W = w2.alloc (.cells #[.string s, .int .i64 i, .slice none 0 0] 34) := ⟨_, rfl⟩
  have z3 : Below w2.heap.size w2 w3 := by rw [hw3]; exact (Below.refl _ _).alloc (Nat.le_refl _) _
  have s3 : w3.heap.size = w2.heap.size + 1 := by rw [hw3]; simp
  have hb3 := on hb2 z3
  replace b_0 := (z3.cell (p := ⟨w.heap.size, 0, none⟩) (by simp only []; omega)).trans b_0
  replace b_1 := (z3.cell (p := ⟨w.heap.size, 1, none⟩) (by simp only []; omega)).trans b_1
  replace b_2 := (z3.cell (p := ⟨w.heap.size, 2, none⟩) (by simp only []; omega)).trans b_2
  replace b_f0 := (z3.frozen (p := ⟨w.heap.size, 0, none⟩) (by simp only []; omega)).trans b_f0
  replace b_f1 := (z3.frozen (p := ⟨w.heap.size, 1, none⟩) (by simp only []; omega)).trans b_f1
  replace b_f2 := (z3.frozen (p := ⟨w.heap.size, 2, none⟩) (by simp only []; omega)).trans b_f2
  replace r_0 := (z3.cell (p := ⟨w.heap.size + 1, 0, none⟩) (by simp only []; omega)).trans r_0
  replace r_1 := (z3.cell (p := ⟨w.heap.size + 1, 1, none⟩) (by simp only []; omega)).trans r_1
  replace r_2 := (z3.cell (p := ⟨w.heap.size + 1, 2, none⟩) (by simp only []; omega)).trans r_2
  replace r_f0 := (z3.frozen (p := ⟨w.heap.size + 1, 0, none⟩) (by simp only []; omega)).trans r_f0
  replace r_f1 := (z3.frozen (p := ⟨w.heap.size + 1, 1, none⟩) (by simp only []; omega)).trans r_f1
  replace r_f2 := (z3.frozen (p := ⟨w.heap.size + 1, 2, none⟩) (by simp only []; omega)).trans r_f2
  have e3 : w2.heap.size = w.heap.size + 1 + 1 := by omega
  have x_0 : w3.cell? ⟨w2.heap.size, 0, none⟩ = some (.string s) := by rw [hw3]; exact box_cell (Below.refl _ _) rfl
  have x_1 : w3.cell? ⟨w2.heap.size, 1, none⟩ = some (.int .i64 i) := by rw [hw3]; exact box_cell (Below.refl _ _) rfl
  have x_2 : w3.cell? ⟨w2.heap.size, 2, none⟩ = some (.slice none 0 0) := by rw [hw3]; exact box_cell (Below.refl _ _) rfl
  rw [e3] at x_0 x_1 x_2
  have x_f0 : w3.frozen? ⟨w2.heap.size, 0, none⟩ = false := by rw [hw3]; exact box_frozen (Below.refl _ _)
  have x_f1 : w3.frozen? ⟨w2.heap.size, 1, none⟩ = false := by rw [hw3]; exact box_frozen (Below.refl _ _)
  have x_f2 : w3.frozen? ⟨w2.heap.size, 2, none⟩ = false := by rw [hw3]; exact box_frozen (Below.refl _ _)
  rw [e3] at x_f0 x_f1 x_f2
  have raw3_b_0 := b_0
  have raw3_b_1 := b_1
  have raw3_b_2 := b_2
  have raw3_r_0 := r_0
  have raw3_r_1 := r_1
  have raw3_r_2 := r_2
  have raw3_x_0 := x_0
  have raw3_x_1 := x_1
  have raw3_x_2 := x_2
  rw [hw3, hw2, hw1] at raw3_b_0 raw3_b_1 raw3_b_2 raw3_r_0 raw3_r_1 raw3_r_2 raw3_x_0 raw3_x_1 raw3_x_2
  go_wp2_with fail
  rw [← hw1]
  rw [← hw2]
  rw [← hw3]
  clear hw3 hw2 hw1
  clear raw1_b_0 raw1_b_1 raw1_b_2 raw2_b_0 raw2_b_1 raw2_b_2 raw2_r_0 raw2_r_1 raw2_r_2 raw3_b_0 raw3_b_1 raw3_b_2 raw3_r_0 raw3_r_1 raw3_r_2 raw3_x_0 raw3_x_1 raw3_x_2
  go_loopw [4] (fun k wr => ∃ (j : Nat) (v : Value), j ≤ un ∧ k = .int .i64 j ∧ wr.cell? ⟨w.heap.size + 1 + 1, 0, none⟩ = some (.string s) ∧ wr.cell? ⟨w.heap.size + 1 + 1, 1, none⟩ = some (.int .i64 i) ∧ wr.cell? ⟨w.heap.size + 1 + 1, 2, none⟩ = some v ∧ wr.frozen? ⟨w.heap.size + 1 + 1, 2, none⟩ = false ∧ Acc 24 oI w3.heap.size w3.heap.size wr.heap.size wr v (rows.take j) ∧ Turn (w.heap.size + 1 + 1) (w.heap.size + 1 + 1 + 1) w3 wr) (fun k _ => un - (intOf k).toNat)
  case atStart => exact ⟨0, _, Nat.zero_le _, rfl, x_0, x_1, x_2, x_f2, Acc.nil, turn_refl _ _ _⟩
  case round =>
    obtain ⟨j, v, hj, rfl, hv0, hv1, hv, hf, hacc, hdr⟩ := hrel
    have hlc := hdr
    have hE0 : w3.heap.size = w.heap.size + 3 := by omega
    obtain ⟨va, vn, vc, rfl⟩ := hacc.form3
    clear x_0 x_1 x_2 x_f0 x_f1 x_f2
    have s4 := hdr.size
    have hb4 := hb3.trans ((hdr.below (by omega)).mono (by omega))
    replace b_0 := (hdr.cell (p := ⟨w.heap.size, 0, none⟩) (by simp only []; omega) (by simp only []; omega)).trans b_0
    replace b_1 := (hdr.cell (p := ⟨w.heap.size, 1, none⟩) (by simp only []; omega) (by simp only []; omega)).trans b_1
    replace b_2 := (hdr.cell (p := ⟨w.heap.size, 2, none⟩) (by simp only []; omega) (by simp only []; omega)).trans b_2
    replace b_f0 := (World.frozen?_of_block (a := ⟨w.heap.size, 0, none⟩) (hdr.block _ (by simp only []; omega) (by simp only []; omega))).trans b_f0
    replace b_f1 := (World.frozen?_of_block (a := ⟨w.heap.size, 1, none⟩) (hdr.block _ (by simp only []; omega) (by simp only []; omega))).trans b_f1
    replace b_f2 := (World.frozen?_of_block (a := ⟨w.heap.size, 2, none⟩) (hdr.block _ (by simp only []; omega) (by simp only []; omega))).trans b_f2
    replace r_0 := (hdr.cell (p := ⟨w.heap.size + 1, 0, none⟩) (by simp only []; omega) (by simp only []; omega)).trans r_0
    replace r_1 := (hdr.cell (p := ⟨w.heap.size + 1, 1, none⟩) (by simp only []; omega) (by simp only []; omega)).trans r_1
    replace r_2 := (hdr.cell (p := ⟨w.heap.size + 1, 2, none⟩) (by simp only []; omega) (by simp only []; omega)).trans r_2
    replace r_f0 := (World.frozen?_of_block (a := ⟨w.heap.size + 1, 0, none⟩) (hdr.block _ (by simp only []; omega) (by simp only []; omega))).trans r_f0
    replace r_f1 := (World.frozen?_of_block (a := ⟨w.heap.size + 1, 1, none⟩) (hdr.block _ (by simp only []; omega) (by simp only []; omega))).trans r_f1
    replace r_f2 := (World.frozen?_of_block (a := ⟨w.heap.size + 1, 2, none⟩) (hdr.block _ (by simp only []; omega) (by simp only []; omega))).trans r_f2
    have y_0 : wr.cell? ⟨w.heap.size + 1 + 1, 0, none⟩ = some (.string s) := hv0
    have y_1 : wr.cell? ⟨w.heap.size + 1 + 1, 1, none⟩ = some (.int .i64 i) := hv1
    have y_2 : wr.cell? ⟨w.heap.size + 1 + 1, 2, none⟩ = some (.slice va vn vc) := hv
    have hlen : (rows.take j).length ≤ j := List.length_take_le _ _
    by_cases hlt : j < un
    · obtain ⟨b1, o1, ra, rn, rc, t, rfl, hc, hx, hri, hq1, hq2⟩ := t0.row hlt
      have hclt : b1 < w.heap.size := cell_lt hc
      have e_0 : wr.cell? ⟨b1, o1 + j, none⟩ = some (.slice ra rn rc) := (hb4.cell (p := ⟨b1, o1 + j, none⟩) hclt).trans hc
      have HT := Lib.hid (take_snoc' rows j t hx.out)
      have hxl := HR.out j t hx.out
      clear hx hc t0 hl g1
      go_wp2_with fail
      have hri2 := (hri.below hb4).below (Below.refl wr.heap.size wr).drew
      have htl : t.length ≤ 100000000 := hxl
      have hrn : rn ≤ 100000000 := by rw [← hri.len]; exact hxl
      refine wp_region_noPanic ?_
      refine wp_region_lastP (fun W => W.cell? ⟨w.heap.size, 2, none⟩ = some (.slice (some ⟨b1, o1, none⟩) un uc) ∧ W.cell? ⟨w.heap.size + 1 + 1, 2, none⟩ = some (.slice va vn vc) ∧ W.cell? ⟨b1, o1 + j, none⟩ = some (.slice ra rn rc)) 12 (by kernel_rfl) rfl (by kernel_rfl) (by kernel_rfl) ?hS (fun hHeld ops hops => ?_)
      case hS => exact ⟨b_2, y_2, e_0⟩
      simp only [List.pop_toArray, List.dropLast_cons_cons, List.dropLast_singleton] at hops
      subst hops
      refine wpAnyH_take (i := 0) (v := ?v0) rfl (by kernel_rfl) (by kernel_rfl) (by kernel_rfl) (fun _ _ _ h => h) (Or.inl ⟨by rfl, ?hy0⟩) (by assumption) ?rest0
      case hy0 => intro w hSw; (try dsimp only at hSw); go_simp; (try with_reducible rfl)
      try simp only [Act.put, List.setIfInBounds_toArray, List.set_cons_zero, List.set_cons_succ]
      refine wpAnyH_take (i := 1) (v := ?v1) rfl (by kernel_rfl) (by kernel_rfl) (by kernel_rfl) (fun _ _ _ h => h) (Or.inl ⟨by rfl, ?hy1⟩) (by assumption) ?rest1
      case hy1 => intro w hSw; (try dsimp only at hSw); go_simp; (try with_reducible rfl)
      try simp only [Act.put, List.setIfInBounds_toArray, List.set_cons_zero, List.set_cons_succ]
      refine wpAnyH_take (i := 3) (v := ?v3) rfl (by kernel_rfl) (by kernel_rfl) (by kernel_rfl) (fun _ _ _ h => h) (Or.inl ⟨by rfl, ?hy3⟩) (by assumption) ?rest3
      case hy3 => intro w hSw; (try dsimp only at hSw); go_simp; (try with_reducible rfl)
      try simp only [Act.put, List.setIfInBounds_toArray, List.set_cons_zero, List.set_cons_succ]
      refine wpAnyH_take (i := 4) (v := ?v4) rfl (by kernel_rfl) (by kernel_rfl) (by kernel_rfl) (fun _ _ _ h => h) (Or.inl ⟨by rfl, ?hy4⟩) (by assumption) ?rest4
      case hy4 => intro w hSw; (try dsimp only at hSw); go_simp; (try with_reducible rfl)
      try simp only [Act.put, List.setIfInBounds_toArray, List.set_cons_zero, List.set_cons_succ]
      refine wpAnyH_take (i := 5) (v := ?v5) rfl (by kernel_rfl) (by kernel_rfl) (by kernel_rfl) (fun _ _ _ h => h) (Or.inl ⟨by rfl, ?hy5⟩) (by assumption) ?rest5
      case hy5 => intro w hSw; (try dsimp only at hSw); go_simp; (try with_reducible rfl)
      try simp only [Act.put, List.setIfInBounds_toArray, List.set_cons_zero, List.set_cons_succ]
      refine wpAnyH_take (i := 6) (v := ?v6) rfl (by kernel_rfl) (by kernel_rfl) (by kernel_rfl) (fun _ _ _ h => h) (Or.inl ⟨by rfl, ?hy6⟩) (by assumption) ?rest6
      case hy6 => intro w hSw; (try dsimp only at hSw); go_simp; (try with_reducible rfl)
      try simp only [Act.put, List.setIfInBounds_toArray, List.set_cons_zero, List.set_cons_succ]
      refine wpAnyH_take (i := 7) (v := ?v7) rfl (by kernel_rfl) (by kernel_rfl) (by kernel_rfl) (fun _ _ _ h => h) (Or.inl ⟨by rfl, ?hy7⟩) (by assumption) ?rest7
      case hy7 => intro w hSw; (try dsimp only at hSw); go_simp; (try with_reducible rfl)
      try simp only [Act.put, List.setIfInBounds_toArray, List.set_cons_zero, List.set_cons_succ]
      refine wpAnyH_ready (rs := [2]) (by kernel_rfl) (by simp) ?_
      refine AllReadyH.cons rfl (fun K hK => ?_) AllReadyH.nil
      go_simp
      refine hK.out _ _ ?_ (fun hHeld => ?_)
      · exact ⟨cell_add b_2, cell_add y_2, cell_add e_0⟩
      clear hK K
      try simp only [Act.put, List.setIfInBounds_toArray, List.set_cons_zero, List.set_cons_succ]
      refine wpAnyH_ready (rs := [8]) (by kernel_rfl) (by simp) ?_
      refine AllReadyH.cons rfl (fun K hK => ?_) AllReadyH.nil
      obtain ⟨v1, w1, hr1, ho1, hbw, hsz1⟩ := run_copyI wr.drew (wr.alloc (.cells #[] 3)).drew 24 rn rc ra t hri2 (by omega) rfl
      refine step_app hr1 (by rfl) (by rfl) (by rfl) (by rfl) (by rfl) ?_
      obtain ⟨a1, n1, c1, rfl⟩ := oI_form1 ho1
      have hb5 : Below wr.heap.size wr w1 := (Below.refl _ _).drew.trans hbw
      have hS1 := (⟨(hb5.cell (p := ⟨w.heap.size, 2, none⟩) (by simp only []; omega)).trans b_2, (hb5.cell (p := ⟨w.heap.size + 1 + 1, 2, none⟩) (by simp only []; omega)).trans y_2, (hb5.cell (p := ⟨b1, o1 + j, none⟩) (by simp only []; omega)).trans e_0⟩ : (fun W => W.cell? ⟨w.heap.size, 2, none⟩ = some (.slice (some ⟨b1, o1, none⟩) un uc) ∧ W.cell? ⟨w.heap.size + 1 + 1, 2, none⟩ = some (.slice va vn vc) ∧ W.cell? ⟨b1, o1 + j, none⟩ = some (.slice ra rn rc)) w1)
      have ho2 : Own oI wr.heap.size w1.heap.size w1 [.slice a1 n1 c1] t := ho1
      have hsz3 : wr.heap.size < w1.heap.size := hsz1
      refine hK.out _ _ ?_ (fun hHeld => ?_)
      · exact hS1
      clear hK K
      try simp only [Act.put, List.setIfInBounds_toArray, List.set_cons_zero, List.set_cons_succ]
      refine wpAnyH_ready (rs := [9]) (by kernel_rfl) (by simp) ?_
      refine AllReadyH.cons rfl (fun K hK => ?_) AllReadyH.nil
      go_simp
      refine hK.out _ _ ?_ (fun hHeld => ?_)
      · exact ⟨cell_ad hS1.1, cell_ad hS1.2.1, cell_ad hS1.2.2⟩
      clear hK K
      try simp only [Act.put, List.setIfInBounds_toArray, List.set_cons_zero, List.set_cons_succ]
      refine wpAnyH_ready (rs := [10]) (by kernel_rfl) (by simp) ?_
      refine AllReadyH.cons rfl (fun K hK => ?_) AllReadyH.nil
      obtain ⟨v2, w2, hr2, hacc2, ht2, hsz2, hk2⟩ := run_acc Try.underlying32 infoI rfl (by decide) (by decide) rfl 32 (.slice va vn vc) (rows.take j) [.slice a1 n1 c1] t (hacc.below hb5 (Nat.le_refl _)) ho2 (by intro z hz; simp at hz; subst hz; rfl) s4 (Nat.le_refl _) (by omega) (Nat.le_refl _) (hlc.trans (turn_below hb5 (Nat.le_refl _))) rfl (.inr (Nat.le_refl _)) (by omega) (by omega) rfl
      refine step_app hr2 (by rfl) (by rfl) (by rfl) (by rfl) (by rfl) ?_
      obtain ⟨a2, n2, c2, rfl⟩ := hacc2.form3
      have hS2 := (⟨(World.cell?_of_block (a := ⟨w.heap.size, 2, none⟩) (hk2 _ (by simp only []; omega) (by simp only []; omega))).trans hS1.1, (World.cell?_of_block (a := ⟨w.heap.size + 1 + 1, 2, none⟩) (hk2 _ (by simp only []; omega) (by simp only []; omega))).trans hS1.2.1, (World.cell?_of_block (a := ⟨b1, o1 + j, none⟩) (hk2 _ (by simp only []; omega) (by simp only []; omega))).trans hS1.2.2⟩ : (fun W => W.cell? ⟨w.heap.size, 2, none⟩ = some (.slice (some ⟨b1, o1, none⟩) un uc) ∧ W.cell? ⟨w.heap.size + 1 + 1, 2, none⟩ = some (.slice va vn vc) ∧ W.cell? ⟨b1, o1 + j, none⟩ = some (.slice ra rn rc)) w2)
      have y_d := hS2.2.1
      have hf2 : w2.frozen? ⟨w.heap.size + 1 + 1, 2, none⟩ = false := (World.frozen?_of_block (a := ⟨w.heap.size + 1 + 1, 2, none⟩) (hk2 _ (by simp only []; omega) (by simp only []; omega))).trans ((hb5.frozen (p := ⟨w.heap.size + 1 + 1, 2, none⟩) (by simp only []; omega)).trans hf)
      refine hK.out _ _ ?_ (fun hHeld => ?_)
      · exact hS2
      clear hK K
      try simp only [Act.put, List.setIfInBounds_toArray, List.set_cons_zero, List.set_cons_succ]
      refine wpAnyH_take (i := 11) (v := ?v11) rfl (by kernel_rfl) (by kernel_rfl) (by kernel_rfl) (fun _ _ _ h => h) (Or.inl ⟨by rfl, ?hy11⟩) (by assumption) ?rest11
      case hy11 => intro w hSw; (try dsimp only at hSw); go_simp; (try with_reducible rfl)
      try simp only [Act.put, List.setIfInBounds_toArray, List.set_cons_zero, List.set_cons_succ]
      refine wpAnyH_done (by kernel_rfl) ?_ _
      simp only [LastQ]
      go_simp
      refine NoPanic.normal ?_
      have y_0d : w2.cell? ⟨w.heap.size + 1 + 1, 0, none⟩ = some (.string s) := (World.cell?_of_block (a := ⟨w.heap.size + 1 + 1, 0, none⟩) (hk2 _ (by simp only []; omega) (by simp only []; omega))).trans ((hb5.cell (p := ⟨w.heap.size + 1 + 1, 0, none⟩) (by simp only []; omega)).trans y_0)
      have y_1d : w2.cell? ⟨w.heap.size + 1 + 1, 1, none⟩ = some (.int .i64 i) := (World.cell?_of_block (a := ⟨w.heap.size + 1 + 1, 1, none⟩) (hk2 _ (by simp only []; omega) (by simp only []; omega))).trans ((hb5.cell (p := ⟨w.heap.size + 1 + 1, 1, none⟩) (by simp only []; omega)).trans y_1)
      rw [← HT.out] at hacc2
      have hacc3 := hacc2.setOut (p := ⟨w.heap.size + 1 + 1, 2, none⟩) (hi' := (w2.setCell ⟨w.heap.size + 1 + 1, 2, none⟩ (.slice a2 n2 c2)).heap.size) (.slice a2 n2 c2) (by simp only []; omega) (by simp only []; omega) (by simp [World.setCell])
      have ht3 := ht2.setIn (p := ⟨w.heap.size + 1 + 1, 2, none⟩) (by simp) (by simp) (.slice a2 n2 c2)
      have k0 : (w2.setCell ⟨w.heap.size + 1 + 1, 2, none⟩ (.slice a2 n2 c2)).cell? ⟨w.heap.size + 1 + 1, 0, none⟩ = some (.string s) := by go_simp
      have k1 : (w2.setCell ⟨w.heap.size + 1 + 1, 2, none⟩ (.slice a2 n2 c2)).cell? ⟨w.heap.size + 1 + 1, 1, none⟩ = some (.int .i64 i) := by go_simp
      have k2 : (w2.setCell ⟨w.heap.size + 1 + 1, 2, none⟩ (.slice a2 n2 c2)).cell? ⟨w.heap.size + 1 + 1, 2, none⟩ = some (.slice a2 n2 c2) := by go_simp
      have k3 : (w2.setCell ⟨w.heap.size + 1 + 1, 2, none⟩ (.slice a2 n2 c2)).frozen? ⟨w.heap.size + 1 + 1, 2, none⟩ = false := by go_simp
      go_wp2_with fail
      refine ⟨⟨j + 1, .slice a2 n2 c2, by omega, by go_num, k0, k1, k2, k3, hacc3, ht3⟩, ?_⟩
      simp [intOf]; omega
    · obtain rfl : j = un := by omega
      rw [List.take_of_length_le (by omega)] at hacc
      go_wp2_with fail
      refine bodyPost_ret (v := .agg #[.string s, .int .i64 i, .slice va vn vc]) (by simp [results, Try.results193, go_sem, y_0, y_1, y_2, r_0, r_1, r_2, r_f0, r_f1, r_f2]) rfl ⟨_, rfl, ?_, ?_⟩
      · refine oT_mk (x := (s, i, rows)) hs hi (l2 := w.heap.size + 1 + 1 + 1) (m2 := wr.heap.size) ?_ (by omega) (by simp [World.setCell])
        repeat (refine Own.setOut ?_ rfl (by simp only []; omega))
        exact hacc.own (by omega) (by omega) (Nat.le_refl _)
      · repeat (refine Below.setCell ?_ (by simp only []; omega) _)
        exact hb4

end Go.Proofs.Ytbkoddikfpkocaa

/- Plain: groups of a table, degrees. -/
namespace Go.Proofs.Ytbkoddikfpkocaa
open Go.RowKit
set_option linter.unusedVariables false
set_option linter.unusedSimpArgs false

theorem colsFrom_len' {n : Int} : ∀ {p : Int} {xs : List Int}, -1 ≤ p → p ≤ n - 1 → colsFrom n p xs = true → (xs.length : Int) ≤ n - 1 - p
  | p, [], h1, h2, _ => by simp; omega
  | p, v :: t, h1, h2, h => by
    simp only [colsFrom, Bool.and_eq_true, decide_eq_true_eq, betw] at h
    have := colsFrom_len' (p := v) (xs := t) (by omega) (by omega) h.2
    simp only [List.length_cons]; omega
theorem colsB_len' {n : Int} {xs : List Int} (hn : 0 ≤ n) (h : colsB n xs = true) : (xs.length : Int) ≤ n := by
  have := colsFrom_len' (n := n) (p := -1) (xs := xs) (by omega) (by omega) h
  omega
/-- Rows at columns. -/
def selRows (rows : List (List Int)) (cs : List Int) : List (List Int) := rows.map (fun r => sel r cs)
theorem selRows_len (rows : List (List Int)) (cs : List Int) : (selRows rows cs).length = rows.length := by simp [selRows]
theorem selRows_step {rows : List (List Int)} {cs r : List Int} {j : Nat} (h : rows[j]? = some r) : selRows (rows.take (j + 1)) cs = selRows (rows.take j) cs ++ [sel r cs] := by
  rw [List.take_add_one, h]; simp [selRows]
theorem selRows_get {rows : List (List Int)} {cs r : List Int} {j : Nat} (h : rows[j]? = some r) : (selRows rows cs)[j]? = some (sel r cs) := by simp [selRows, h]
/-- How often each of some rows stands among rows. -/
def countsOf (gs all : List (List Int)) : List Int := gs.map (fun g => (cntRow g all : Int))
theorem countsOf_len (gs all : List (List Int)) : (countsOf gs all).length = gs.length := by simp [countsOf]
theorem countsOf_step {gs all : List (List Int)} {g : List Int} {j : Nat} (h : gs[j]? = some g) : countsOf (gs.take (j + 1)) all = countsOf (gs.take j) all ++ [(cntRow g all : Int)] := by
  rw [List.take_add_one, h]; simp [countsOf]
theorem cntRow_at {g r : List Int} {all : List (List Int)} {j : Nat} (h : all[j]? = some r) : cntRow g (all.drop j) = (if r = g then 1 else 0) + cntRow g (all.drop (j + 1)) := by
  obtain ⟨h1, rfl⟩ := List.getElem?_eq_some_iff.1 h
  rw [List.drop_eq_getElem_cons h1]
  unfold cntRow
  rw [List.filter_cons]
  by_cases e : all[j] = g <;> simp [e] <;> omega
theorem cntRow_end {g : List Int} {all : List (List Int)} {j : Nat} (h : all.length ≤ j) : cntRow g (all.drop j) = 0 := by
  rw [List.drop_eq_nil_of_le h]; rfl
theorem cntRow_take {g r : List Int} {all : List (List Int)} {j : Nat} (h : all[j]? = some r) : cntRow g (all.take (j + 1)) = cntRow g (all.take j) + (if r = g then 1 else 0) := by
  rw [List.take_add_one, h]
  unfold cntRow
  rw [List.filter_append, List.length_append]
  by_cases e : r = g <;> simp [e]
theorem cntRow_le (g : List Int) (all : List (List Int)) : cntRow g all ≤ all.length := List.length_filter_le _ _
def groups (t : DT) (cs : List Int) : List (List Int) := canon (selRows t.2.2 cs)
/-- GroupCounts. -/
def grpV (t : DT) (cs : List Int) : List (List Int) := if colsT t cs then groups t cs else []
def grpN (t : DT) (cs : List Int) : List Int := if colsT t cs then countsOf (groups t cs) (selRows t.2.2 cs) else []
/-- In descending order. -/
def downS (l : List Int) : List Int := (l.mergeSort (fun x y => decide (x ≤ y))).reverse
theorem downS_len (l : List Int) : (downS l).length = l.length := by simp [downS]
theorem downS_uniq {l s : List Int} (hp : s.Perm l) (hs : s.Pairwise (· ≥ ·)) : s = downS l := by
  refine List.Perm.eq_of_pairwise (le := (· ≥ ·)) (fun a b _ _ h k => Int.le_antisymm k h) hs ?_ (hp.trans ((List.mergeSort_perm l _).symm.trans (List.reverse_perm _).symm))
  unfold downS
  rw [List.pairwise_reverse]
  have := List.pairwise_mergeSort (le := fun x y : Int => decide (x ≤ y)) (by intro a b c; simp; omega) (by intro a b; simp; omega) l
  exact this.imp fun h => by simpa using h
theorem ins_ok {out : List Int} {x : Int} {k : Nat} (hs : out.Pairwise (· ≥ ·)) (hk : k ≤ out.length) (h1 : k = 0 ∨ x ≤ out.getD (k - 1) 0) (h2 : ∀ j, k ≤ j → j < out.length → out.getD j 0 < x) :
    (out.take k ++ [x] ++ out.drop k).Pairwise (· ≥ ·) ∧ (out.take k ++ [x] ++ out.drop k).Perm (out ++ [x]) := by
  have hg : ∀ j (hj : j < out.length), out.getD j 0 = out[j] := fun j hj => by rw [List.getD_eq_getElem?_getD, List.getElem?_eq_getElem hj]; rfl
  have hmono : ∀ i j, i ≤ j → j < out.length → out.getD j 0 ≤ out.getD i 0 := fun i j hij hj => by
    rcases Nat.eq_or_lt_of_le hij with rfl | hlt
    · exact Int.le_refl _
    · rw [hg i (by omega), hg j hj]; exact (List.pairwise_iff_getElem.1 hs) i j (by omega) hj hlt
  constructor
  · rw [List.append_assoc, List.pairwise_append]
    refine ⟨hs.sublist (List.take_sublist _ _), ?_, ?_⟩
    · rw [List.singleton_append, List.pairwise_cons]
      refine ⟨?_, hs.sublist (List.drop_sublist _ _)⟩
      intro y hy
      obtain ⟨j, hj, rfl⟩ := List.mem_iff_getElem.1 hy
      rw [List.length_drop] at hj
      rw [List.getElem_drop, ← hg (k + j) (by omega)]
      have := h2 (k + j) (by omega) (by omega)
      omega
    · intro a ha b hb
      obtain ⟨i, hi, rfl⟩ := List.mem_iff_getElem.1 ha
      rw [List.length_take] at hi
      rw [List.getElem_take, ← hg i (by omega)]
      have hax : x ≤ out.getD i 0 := by
        rcases h1 with h | h
        · omega
        · have := hmono i (k - 1) (by omega) (by omega); omega
      rcases List.mem_append.1 hb with hb | hb
      · simp only [List.mem_singleton] at hb; subst hb; exact hax
      · obtain ⟨j, hj, rfl⟩ := List.mem_iff_getElem.1 hb
        rw [List.length_drop] at hj
        rw [List.getElem_drop, ← hg (k + j) (by omega)]
        have := hmono i (k + j) (by omega) (by omega)
        omega
  · have h9 : (out.take k ++ ([x] ++ out.drop k)).Perm (out.take k ++ (out.drop k ++ [x])) := List.Perm.append_left _ List.perm_append_comm
    rw [List.append_assoc]
    refine h9.trans ?_
    rw [← List.append_assoc, List.take_append_drop]
/-- DegreeSequence. -/
def degSeq (t : DT) (cs : List Int) : List Int := downS (grpN t cs)
/-- The first of a list, 0 if there is none. -/
def headOr (l : List Int) : Int := l.headD 0
theorem headOr_get (l : List Int) : headOr l = l.getD 0 0 := by cases l <;> rfl

end Go.Proofs.Ytbkoddikfpkocaa

/- Contracts: whether a database is valid. -/
namespace Go.Proofs.Ytbkoddikfpkocaa
open Go.RowKit Go.Sort
set_option linter.unusedVariables false
set_option linter.unusedSimpArgs false
set_option synthInstance.maxSize 2000
set_option synthInstance.maxHeartbeats 400000

/-- Names compared. -/
def ltB (s t : ByteArray) : Bool := Op.bytesLess s.toList t.toList
def dbFrom (p : Option ByteArray) : List DT → Bool
  | [] => true
  | t :: r => validT t && ((match p with | none => true | some q => ltB q t.1) && dbFrom (some t.1) r)
/-- Whether a database is valid. -/
def validDb (db : DDb) : Bool := dbFrom none db && decide (db.length ≤ 6)
def prevN (db : List DT) : Nat → Option ByteArray
  | 0 => none
  | j + 1 => (db[j]?).map (fun t => t.1)
theorem dbFrom_at {p : Option ByteArray} {db : List DT} {j : Nat} {t : DT} (h : db[j]? = some t) : dbFrom p (db.drop j) = (validT t && ((match p with | none => true | some q => ltB q t.1) && dbFrom (some t.1) (db.drop (j + 1)))) := by
  rw [drop_at h]; rfl
theorem dbFrom_end {p : Option ByteArray} {db : List DT} {j : Nat} (h : db.length ≤ j) : dbFrom p (db.drop j) = true := by
  rw [List.drop_eq_nil_of_le h]; rfl
theorem prevN_at {db : List DT} {j : Nat} {t : DT} (h : db[j]? = some t) : prevN db (j + 1) = some t.1 := by simp [prevN, h]
theorem validDb_no {db : DDb} (h : dbFrom none db = false) : validDb db = false := by simp [validDb, h]
theorem validDb_len {db : DDb} {n : Nat} (hl : db.length = n) (h : dbFrom none db = true) : validDb db = decide ((n : Int) ≤ 6) := by
  rw [validDb, h, hl, Bool.eq_iff_iff]; simp only [Bool.true_and, decide_eq_true_eq]; omega

set_option maxHeartbeats 4000000 in
theorem validDb_impl (cs : List Value) (x : DDb) (w : World) (h : rDb.rep w cs x) :
    Calls Try.prog 196 #[.agg cs.toArray] w fun e w' => e = .returned (.bool (validDb x)) ∧ Below w.heap.size w w' := by
  obtain ⟨ub, un, uc, rfl, g1⟩ := rDb_open h
  clear h
  have t1 := rS_sl g1
  have hl := t1.len
  have hn := t1.small
  have HV : Hid (dbFrom none x = dbFrom (prevN x 0) (x.drop 0)) := rfl
  have HL := Lib.hid hl
  have hb0 : Below w.heap.size w w := Below.refl _ _
  go_enter Try.func196, Try.ntmps196
  obtain ⟨w1, hw1⟩ : ∃ W, W = w.alloc (.cells #[.slice ub un uc] 89) := ⟨_, rfl⟩
  have z1 : Below w.heap.size w w1 := by rw [hw1]; exact (Below.refl _ _).alloc (Nat.le_refl _) _
  have s1 : w1.heap.size = w.heap.size + 1 := by rw [hw1]; simp
  have hb1 := on hb0 z1
  have b_0 : w1.cell? ⟨w.heap.size, 0, none⟩ = some (.slice ub un uc) := by rw [hw1]; exact box_cell (Below.refl _ _) rfl
  have raw1_b_0 := b_0
  rw [hw1] at raw1_b_0
  go_wp2_with fail
  rw [← hw1]
  clear hw1
  clear raw1_b_0
  go_loopw [8] (fun k wr => ∃ j : Nat, j ≤ un ∧ k = .int .i64 j ∧ Hid (dbFrom none x = dbFrom (prevN x j) (x.drop j)) ∧ Below w1.heap.size w1 wr) (fun k _ => un - (intOf k).toNat)
  case atStart => exact ⟨0, Nat.zero_le _, rfl, HV.out, Below.refl _ _⟩
  case round =>
    obtain ⟨j, hj, rfl, hE, hdr⟩ := hrel
    obtain ⟨wo, rfl⟩ : ∃ W, W = wr := ⟨_, rfl⟩
    have hlc := hdr
    have s2 := hdr.size
    have hb2 := on hb1 hdr
    replace b_0 := (hdr.cell (p := ⟨w.heap.size, 0, none⟩) (by simp only []; omega)).trans b_0
    by_cases hlt : j < un
    · obtain ⟨b1, o1, cs, t, rfl, hx, hr, hc⟩ := t1.at hlt
      have HA := Lib.hid (hE.out.trans (dbFrom_at hx.out))
      have HP := Lib.hid (prevN_at hx.out)
      obtain ⟨s, i, rows⟩ := t
      obtain ⟨tb, tn, tc, rfl, hs, hi, g2⟩ := rT_open hr
      simp only at hs hi g2 HA HP
      have e_lt : b1 < w.heap.size := cell_lt (hc 0 _ rfl)
      have e_0 : wo.cell? ⟨b1, o1 + j * 3, none⟩ = some (.string s) := (hb2.cell (p := ⟨b1, o1 + j * 3, none⟩) e_lt).trans (by have h9 := hc 0 _ rfl; rw [← Nat.add_assoc] at h9; exact h9)
      have e_1 : wo.cell? ⟨b1, o1 + j * 3 + 1, none⟩ = some (.int .i64 i) := (hb2.cell (p := ⟨b1, o1 + j * 3 + 1, none⟩) e_lt).trans (by have h9 := hc 1 _ rfl; rw [← Nat.add_assoc] at h9; exact h9)
      have e_2 : wo.cell? ⟨b1, o1 + j * 3 + 2, none⟩ = some (.slice tb tn tc) := (hb2.cell (p := ⟨b1, o1 + j * 3 + 2, none⟩) e_lt).trans (by have h9 := hc 2 _ rfl; rw [← Nat.add_assoc] at h9; exact h9)
      have hcall := fun W (hW : Below w.heap.size w W) => validT_impl [.string s, .int .i64 i, .slice tb tn tc] (s, i, rows) W (rT.mono hr hW)
      obtain ⟨v, hv⟩ : ∃ v, v = validT (s, i, rows) := ⟨_, rfl⟩
      rw [← hv] at hcall HA
      have HC := Lib.hid hcall
      clear hcall hv hE HV hc hr g2 hl
      by_cases hj0 : j = 0
      · subst hj0
        have z_0 : wo.cell? ⟨b1, o1, none⟩ = some (.string s) := by have h9 := e_0; rw [Nat.zero_mul, Nat.add_zero] at h9; exact h9
        have z_1 : wo.cell? ⟨b1, o1 + 1, none⟩ = some (.int .i64 i) := by have h9 := e_1; rw [Nat.zero_mul, Nat.add_zero] at h9; exact h9
        have z_2 : wo.cell? ⟨b1, o1 + 2, none⟩ = some (.slice tb tn tc) := by have h9 := e_2; rw [Nat.zero_mul, Nat.add_zero] at h9; exact h9
        clear e_0 e_1 e_2
        have HA1 : Hid (dbFrom none x = (v && dbFrom (prevN x (0 + 1)) (x.drop (0 + 1)))) := Lib.hid (by rw [HA.out, HP.out]; simp [prevN])
        clear hx HA HP t1
        cases v with
        | true =>
          have HE : Hid (dbFrom none x = dbFrom (prevN x (0 + 1)) (x.drop (0 + 1))) := Lib.hid (by rw [HA1.out]; rfl)
          obtain ⟨w3, hw3⟩ : ∃ W, W = wo.alloc (.cells #[.string s, .int .i64 i, .slice tb tn tc] 34) := ⟨_, rfl⟩
          have z3 : Below wo.heap.size wo w3 := by rw [hw3]; exact (Below.refl _ _).alloc (Nat.le_refl _) _
          have s3 : w3.heap.size = wo.heap.size + 1 := by rw [hw3]; simp
          have hb3 := on hb2 z3
          have old3_b_0 := b_0
          have old3_z_0 := z_0
          have old3_z_1 := z_1
          have old3_z_2 := z_2
          replace b_0 := (z3.cell (p := ⟨w.heap.size, 0, none⟩) (by simp only []; omega)).trans b_0
          replace hlc := on hlc z3
          replace z_0 := (z3.cell (p := ⟨b1, o1, none⟩) (by simp only []; omega)).trans z_0
          replace z_1 := (z3.cell (p := ⟨b1, o1 + 1, none⟩) (by simp only []; omega)).trans z_1
          replace z_2 := (z3.cell (p := ⟨b1, o1 + 2, none⟩) (by simp only []; omega)).trans z_2
          have p_0 : w3.cell? ⟨wo.heap.size, 0, none⟩ = some (.string s) := by rw [hw3]; exact box_cell (Below.refl _ _) rfl
          have p_1 : w3.cell? ⟨wo.heap.size, 1, none⟩ = some (.int .i64 i) := by rw [hw3]; exact box_cell (Below.refl _ _) rfl
          have p_2 : w3.cell? ⟨wo.heap.size, 2, none⟩ = some (.slice tb tn tc) := by rw [hw3]; exact box_cell (Below.refl _ _) rfl
          have raw3_b_0 := b_0
          have raw3_z_0 := z_0
          have raw3_z_1 := z_1
          have raw3_z_2 := z_2
          have raw3_p_0 := p_0
          have raw3_p_1 := p_1
          have raw3_p_2 := p_2
          rw [hw3] at raw3_b_0 raw3_z_0 raw3_z_1 raw3_z_2 raw3_p_0 raw3_p_1 raw3_p_2
          go_wp2_with fail
          rw [← hw3]
          clear hw3
          clear old3_b_0 old3_z_0 old3_z_1 old3_z_2 raw3_b_0 raw3_z_0 raw3_z_1 raw3_z_2 raw3_p_0 raw3_p_1 raw3_p_2
          have rg_b_0 := cell_regrown b_0
          have rg_z_0 := cell_regrown z_0
          have rg_z_1 := cell_regrown z_1
          have rg_z_2 := cell_regrown z_2
          have rg_p_0 := cell_regrown p_0
          have rg_p_1 := cell_regrown p_1
          have rg_p_2 := cell_regrown p_2
          refine wp_region_quiet_below (by kernel_rfl) (by kernel_rfl) ?_
          repeat (go_big_quiet_step ((first | (go_at_call 137; exact Calls.regrown_of (HC.out _ (on hb3 (below_regrown _ _ _)))))))
          refine wpQuiet_nil ?_
          intro w4 hw4
          have z4 : Below w3.heap.size w3 w4 := by obtain ⟨p9, e9⟩ := hw4; rw [e9]; exact below_regrown _ _ _
          clear hw4 rg_b_0 rg_z_0 rg_z_1 rg_z_2 rg_p_0 rg_p_1 rg_p_2
          have s5 := z4.size
          have hb5 := on hb3 z4
          replace b_0 := (z4.cell (p := ⟨w.heap.size, 0, none⟩) (by simp only []; omega)).trans b_0
          replace hlc := on hlc z4
          replace z_0 := (z4.cell (p := ⟨b1, o1, none⟩) (by simp only []; omega)).trans z_0
          replace z_1 := (z4.cell (p := ⟨b1, o1 + 1, none⟩) (by simp only []; omega)).trans z_1
          replace z_2 := (z4.cell (p := ⟨b1, o1 + 2, none⟩) (by simp only []; omega)).trans z_2
          replace p_0 := (z4.cell (p := ⟨wo.heap.size, 0, none⟩) (by simp only []; omega)).trans p_0
          replace p_1 := (z4.cell (p := ⟨wo.heap.size, 1, none⟩) (by simp only []; omega)).trans p_1
          replace p_2 := (z4.cell (p := ⟨wo.heap.size, 2, none⟩) (by simp only []; omega)).trans p_2
          go_wp2_with fail
          go_roundw
          case rel => exact ⟨1, by omega, rfl, HE.out, hlc⟩
          case measure => simp [intOf]; omega
        | false =>
          have HE := Lib.hid (validDb_no (db := x) (by rw [HA1.out]; rfl))
          obtain ⟨w6, hw6⟩ : ∃ W, W = wo.alloc (.cells #[.string s, .int .i64 i, .slice tb tn tc] 34) := ⟨_, rfl⟩
          have z6 : Below wo.heap.size wo w6 := by rw [hw6]; exact (Below.refl _ _).alloc (Nat.le_refl _) _
          have s6 : w6.heap.size = wo.heap.size + 1 := by rw [hw6]; simp
          have hb6 := on hb2 z6
          have old6_b_0 := b_0
          have old6_z_0 := z_0
          have old6_z_1 := z_1
          have old6_z_2 := z_2
          replace b_0 := (z6.cell (p := ⟨w.heap.size, 0, none⟩) (by simp only []; omega)).trans b_0
          replace hlc := on hlc z6
          replace z_0 := (z6.cell (p := ⟨b1, o1, none⟩) (by simp only []; omega)).trans z_0
          replace z_1 := (z6.cell (p := ⟨b1, o1 + 1, none⟩) (by simp only []; omega)).trans z_1
          replace z_2 := (z6.cell (p := ⟨b1, o1 + 2, none⟩) (by simp only []; omega)).trans z_2
          have p_0 : w6.cell? ⟨wo.heap.size, 0, none⟩ = some (.string s) := by rw [hw6]; exact box_cell (Below.refl _ _) rfl
          have p_1 : w6.cell? ⟨wo.heap.size, 1, none⟩ = some (.int .i64 i) := by rw [hw6]; exact box_cell (Below.refl _ _) rfl
          have p_2 : w6.cell? ⟨wo.heap.size, 2, none⟩ = some (.slice tb tn tc) := by rw [hw6]; exact box_cell (Below.refl _ _) rfl
          have raw6_b_0 := b_0
          have raw6_z_0 := z_0
          have raw6_z_1 := z_1
          have raw6_z_2 := z_2
          have raw6_p_0 := p_0
          have raw6_p_1 := p_1
          have raw6_p_2 := p_2
          rw [hw6] at raw6_b_0 raw6_z_0 raw6_z_1 raw6_z_2 raw6_p_0 raw6_p_1 raw6_p_2
          go_wp2_with fail
          rw [← hw6]
          clear hw6
          clear old6_b_0 old6_z_0 old6_z_1 old6_z_2 raw6_b_0 raw6_z_0 raw6_z_1 raw6_z_2 raw6_p_0 raw6_p_1 raw6_p_2
          have rg_b_0 := cell_regrown b_0
          have rg_z_0 := cell_regrown z_0
          have rg_z_1 := cell_regrown z_1
          have rg_z_2 := cell_regrown z_2
          have rg_p_0 := cell_regrown p_0
          have rg_p_1 := cell_regrown p_1
          have rg_p_2 := cell_regrown p_2
          refine wp_region_quiet_below (by kernel_rfl) (by kernel_rfl) ?_
          repeat (go_big_quiet_step ((first | (go_at_call 137; exact Calls.regrown_of (HC.out _ (on hb6 (below_regrown _ _ _)))))))
          refine wpQuiet_nil ?_
          intro w7 hw7
          have z7 : Below w6.heap.size w6 w7 := by obtain ⟨p9, e9⟩ := hw7; rw [e9]; exact below_regrown _ _ _
          clear hw7 rg_b_0 rg_z_0 rg_z_1 rg_z_2 rg_p_0 rg_p_1 rg_p_2
          have s8 := z7.size
          have hb8 := on hb6 z7
          replace b_0 := (z7.cell (p := ⟨w.heap.size, 0, none⟩) (by simp only []; omega)).trans b_0
          replace hlc := on hlc z7
          replace z_0 := (z7.cell (p := ⟨b1, o1, none⟩) (by simp only []; omega)).trans z_0
          replace z_1 := (z7.cell (p := ⟨b1, o1 + 1, none⟩) (by simp only []; omega)).trans z_1
          replace z_2 := (z7.cell (p := ⟨b1, o1 + 2, none⟩) (by simp only []; omega)).trans z_2
          replace p_0 := (z7.cell (p := ⟨wo.heap.size, 0, none⟩) (by simp only []; omega)).trans p_0
          replace p_1 := (z7.cell (p := ⟨wo.heap.size, 1, none⟩) (by simp only []; omega)).trans p_1
          replace p_2 := (z7.cell (p := ⟨wo.heap.size, 2, none⟩) (by simp only []; omega)).trans p_2
          go_wp2_with fail
          go_ret
          exact ⟨ret_bool HE.out.symm, hb8⟩
      obtain ⟨l, rfl⟩ : ∃ l, j = l + 1 := ⟨j - 1, by omega⟩
      obtain ⟨b9, o9, cs, t, hb9, hy, hr, hc⟩ := t1.at (show l < un by omega)
      simp at hb9
      obtain ⟨rfl, rfl⟩ := hb9
      have HP2 := Lib.hid (prevN_at hy.out)
      obtain ⟨s2, i2, rows2⟩ := t
      obtain ⟨tb2, tn2, tc2, rfl, hs2, hi2, g2⟩ := rT_open hr
      simp only at HP2
      have f_lt : b1 < w.heap.size := cell_lt (hc 0 _ rfl)
      have f_0 : wo.cell? ⟨b1, o1 + l * 3, none⟩ = some (.string s2) := (hb2.cell (p := ⟨b1, o1 + l * 3, none⟩) f_lt).trans (by have h9 := hc 0 _ rfl; rw [← Nat.add_assoc] at h9; exact h9)
      have f_1 : wo.cell? ⟨b1, o1 + l * 3 + 1, none⟩ = some (.int .i64 i2) := (hb2.cell (p := ⟨b1, o1 + l * 3 + 1, none⟩) f_lt).trans (by have h9 := hc 1 _ rfl; rw [← Nat.add_assoc] at h9; exact h9)
      have f_2 : wo.cell? ⟨b1, o1 + l * 3 + 2, none⟩ = some (.slice tb2 tn2 tc2) := (hb2.cell (p := ⟨b1, o1 + l * 3 + 2, none⟩) f_lt).trans (by have h9 := hc 2 _ rfl; rw [← Nat.add_assoc] at h9; exact h9)
      have HA1 : Hid (dbFrom none x = (v && (ltB s2 s && dbFrom (prevN x (l + 1 + 1)) (x.drop (l + 1 + 1))))) := Lib.hid (by rw [HA.out, HP.out, HP2.out])
      clear hx hy HA HP HP2 t1 hc hr g2 hj0
      obtain ⟨q, hq⟩ : ∃ q, q = ltB s2 s := ⟨_, rfl⟩
      rw [← hq] at HA1
      have hq2 : Op.bytesLess s2.toList s.toList = q := hq.symm
      clear hq
      have hi63 : IntKind.i64.wrap (l : Int) = (l : Int) := IntWalk.i64_in _ (by omega)
      cases v with
      | false =>
        have HE := Lib.hid (validDb_no (db := x) (by rw [HA1.out]; rfl))
        obtain ⟨w9, hw9⟩ : ∃ W, W = wo.alloc (.cells #[.string s, .int .i64 i, .slice tb tn tc] 34) := ⟨_, rfl⟩
        have z9 : Below wo.heap.size wo w9 := by rw [hw9]; exact (Below.refl _ _).alloc (Nat.le_refl _) _
        have s9 : w9.heap.size = wo.heap.size + 1 := by rw [hw9]; simp
        have hb9 := on hb2 z9
        have old9_b_0 := b_0
        have old9_e_0 := e_0
        have old9_e_1 := e_1
        have old9_e_2 := e_2
        have old9_f_0 := f_0
        have old9_f_1 := f_1
        have old9_f_2 := f_2
        replace b_0 := (z9.cell (p := ⟨w.heap.size, 0, none⟩) (by simp only []; omega)).trans b_0
        replace hlc := on hlc z9
        replace e_0 := (z9.cell (p := ⟨b1, o1 + (l + 1) * 3, none⟩) (by simp only []; omega)).trans e_0
        replace e_1 := (z9.cell (p := ⟨b1, o1 + (l + 1) * 3 + 1, none⟩) (by simp only []; omega)).trans e_1
        replace e_2 := (z9.cell (p := ⟨b1, o1 + (l + 1) * 3 + 2, none⟩) (by simp only []; omega)).trans e_2
        replace f_0 := (z9.cell (p := ⟨b1, o1 + l * 3, none⟩) (by simp only []; omega)).trans f_0
        replace f_1 := (z9.cell (p := ⟨b1, o1 + l * 3 + 1, none⟩) (by simp only []; omega)).trans f_1
        replace f_2 := (z9.cell (p := ⟨b1, o1 + l * 3 + 2, none⟩) (by simp only []; omega)).trans f_2
        have p_0 : w9.cell? ⟨wo.heap.size, 0, none⟩ = some (.string s) := by rw [hw9]; exact box_cell (Below.refl _ _) rfl
        have p_1 : w9.cell? ⟨wo.heap.size, 1, none⟩ = some (.int .i64 i) := by rw [hw9]; exact box_cell (Below.refl _ _) rfl
        have p_2 : w9.cell? ⟨wo.heap.size, 2, none⟩ = some (.slice tb tn tc) := by rw [hw9]; exact box_cell (Below.refl _ _) rfl
        have raw9_b_0 := b_0
        have raw9_e_0 := e_0
        have raw9_e_1 := e_1
        have raw9_e_2 := e_2
        have raw9_f_0 := f_0
        have raw9_f_1 := f_1
        have raw9_f_2 := f_2
        have raw9_p_0 := p_0
        have raw9_p_1 := p_1
        have raw9_p_2 := p_2
        rw [hw9] at raw9_b_0 raw9_e_0 raw9_e_1 raw9_e_2 raw9_f_0 raw9_f_1 raw9_f_2 raw9_p_0 raw9_p_1 raw9_p_2
        go_wp2_with fail
        rw [← hw9]
        clear hw9
        clear old9_b_0 old9_e_0 old9_e_1 old9_e_2 old9_f_0 old9_f_1 old9_f_2 raw9_b_0 raw9_e_0 raw9_e_1 raw9_e_2 raw9_f_0 raw9_f_1 raw9_f_2 raw9_p_0 raw9_p_1 raw9_p_2
        have rg_b_0 := cell_regrown b_0
        have rg_e_0 := cell_regrown e_0
        have rg_e_1 := cell_regrown e_1
        have rg_e_2 := cell_regrown e_2
        have rg_f_0 := cell_regrown f_0
        have rg_f_1 := cell_regrown f_1
        have rg_f_2 := cell_regrown f_2
        have rg_p_0 := cell_regrown p_0
        have rg_p_1 := cell_regrown p_1
        have rg_p_2 := cell_regrown p_2
        refine wp_region_quiet_below (by kernel_rfl) (by kernel_rfl) ?_
        repeat (go_big_quiet_step ((first | (go_at_call 137; exact Calls.regrown_of (HC.out _ (on hb9 (below_regrown _ _ _)))))))
        refine wpQuiet_nil ?_
        intro w10 hw10
        have z10 : Below w9.heap.size w9 w10 := by obtain ⟨p9, e9⟩ := hw10; rw [e9]; exact below_regrown _ _ _
        clear hw10 rg_b_0 rg_e_0 rg_e_1 rg_e_2 rg_f_0 rg_f_1 rg_f_2 rg_p_0 rg_p_1 rg_p_2
        have s11 := z10.size
        have hb11 := on hb9 z10
        replace b_0 := (z10.cell (p := ⟨w.heap.size, 0, none⟩) (by simp only []; omega)).trans b_0
        replace hlc := on hlc z10
        replace e_0 := (z10.cell (p := ⟨b1, o1 + (l + 1) * 3, none⟩) (by simp only []; omega)).trans e_0
        replace e_1 := (z10.cell (p := ⟨b1, o1 + (l + 1) * 3 + 1, none⟩) (by simp only []; omega)).trans e_1
        replace e_2 := (z10.cell (p := ⟨b1, o1 + (l + 1) * 3 + 2, none⟩) (by simp only []; omega)).trans e_2
        replace f_0 := (z10.cell (p := ⟨b1, o1 + l * 3, none⟩) (by simp only []; omega)).trans f_0
        replace f_1 := (z10.cell (p := ⟨b1, o1 + l * 3 + 1, none⟩) (by simp only []; omega)).trans f_1
        replace f_2 := (z10.cell (p := ⟨b1, o1 + l * 3 + 2, none⟩) (by simp only []; omega)).trans f_2
        replace p_0 := (z10.cell (p := ⟨wo.heap.size, 0, none⟩) (by simp only []; omega)).trans p_0
        replace p_1 := (z10.cell (p := ⟨wo.heap.size, 1, none⟩) (by simp only []; omega)).trans p_1
        replace p_2 := (z10.cell (p := ⟨wo.heap.size, 2, none⟩) (by simp only []; omega)).trans p_2
        clear hi63
        go_wp2_with fail
        go_ret
        exact ⟨ret_bool HE.out.symm, hb11⟩
      | true =>
        cases q with
        | false =>
          have HE := Lib.hid (validDb_no (db := x) (by rw [HA1.out]; rfl))
          obtain ⟨w12, hw12⟩ : ∃ W, W = wo.alloc (.cells #[.string s, .int .i64 i, .slice tb tn tc] 34) := ⟨_, rfl⟩
          have z12 : Below wo.heap.size wo w12 := by rw [hw12]; exact (Below.refl _ _).alloc (Nat.le_refl _) _
          have s12 : w12.heap.size = wo.heap.size + 1 := by rw [hw12]; simp
          have hb12 := on hb2 z12
          have old12_b_0 := b_0
          have old12_e_0 := e_0
          have old12_e_1 := e_1
          have old12_e_2 := e_2
          have old12_f_0 := f_0
          have old12_f_1 := f_1
          have old12_f_2 := f_2
          replace b_0 := (z12.cell (p := ⟨w.heap.size, 0, none⟩) (by simp only []; omega)).trans b_0
          replace hlc := on hlc z12
          replace e_0 := (z12.cell (p := ⟨b1, o1 + (l + 1) * 3, none⟩) (by simp only []; omega)).trans e_0
          replace e_1 := (z12.cell (p := ⟨b1, o1 + (l + 1) * 3 + 1, none⟩) (by simp only []; omega)).trans e_1
          replace e_2 := (z12.cell (p := ⟨b1, o1 + (l + 1) * 3 + 2, none⟩) (by simp only []; omega)).trans e_2
          replace f_0 := (z12.cell (p := ⟨b1, o1 + l * 3, none⟩) (by simp only []; omega)).trans f_0
          replace f_1 := (z12.cell (p := ⟨b1, o1 + l * 3 + 1, none⟩) (by simp only []; omega)).trans f_1
          replace f_2 := (z12.cell (p := ⟨b1, o1 + l * 3 + 2, none⟩) (by simp only []; omega)).trans f_2
          have p_0 : w12.cell? ⟨wo.heap.size, 0, none⟩ = some (.string s) := by rw [hw12]; exact box_cell (Below.refl _ _) rfl
          have p_1 : w12.cell? ⟨wo.heap.size, 1, none⟩ = some (.int .i64 i) := by rw [hw12]; exact box_cell (Below.refl _ _) rfl
          have p_2 : w12.cell? ⟨wo.heap.size, 2, none⟩ = some (.slice tb tn tc) := by rw [hw12]; exact box_cell (Below.refl _ _) rfl
          have raw12_b_0 := b_0
          have raw12_e_0 := e_0
          have raw12_e_1 := e_1
          have raw12_e_2 := e_2
          have raw12_f_0 := f_0
          have raw12_f_1 := f_1
          have raw12_f_2 := f_2
          have raw12_p_0 := p_0
          have raw12_p_1 := p_1
          have raw12_p_2 := p_2
          rw [hw12] at raw12_b_0 raw12_e_0 raw12_e_1 raw12_e_2 raw12_f_0 raw12_f_1 raw12_f_2 raw12_p_0 raw12_p_1 raw12_p_2
          go_wp2_with fail
          rw [← hw12]
          clear hw12
          clear old12_b_0 old12_e_0 old12_e_1 old12_e_2 old12_f_0 old12_f_1 old12_f_2 raw12_b_0 raw12_e_0 raw12_e_1 raw12_e_2 raw12_f_0 raw12_f_1 raw12_f_2 raw12_p_0 raw12_p_1 raw12_p_2
          have rg_b_0 := cell_regrown b_0
          have rg_e_0 := cell_regrown e_0
          have rg_e_1 := cell_regrown e_1
          have rg_e_2 := cell_regrown e_2
          have rg_f_0 := cell_regrown f_0
          have rg_f_1 := cell_regrown f_1
          have rg_f_2 := cell_regrown f_2
          have rg_p_0 := cell_regrown p_0
          have rg_p_1 := cell_regrown p_1
          have rg_p_2 := cell_regrown p_2
          refine wp_region_quiet_below (by kernel_rfl) (by kernel_rfl) ?_
          repeat (go_big_quiet_step ((first | (go_at_call 137; exact Calls.regrown_of (HC.out _ (on hb12 (below_regrown _ _ _)))))))
          refine wpQuiet_nil ?_
          intro w13 hw13
          have z13 : Below w12.heap.size w12 w13 := by obtain ⟨p9, e9⟩ := hw13; rw [e9]; exact below_regrown _ _ _
          clear hw13 rg_b_0 rg_e_0 rg_e_1 rg_e_2 rg_f_0 rg_f_1 rg_f_2 rg_p_0 rg_p_1 rg_p_2
          have s14 := z13.size
          have hb14 := on hb12 z13
          replace b_0 := (z13.cell (p := ⟨w.heap.size, 0, none⟩) (by simp only []; omega)).trans b_0
          replace hlc := on hlc z13
          replace e_0 := (z13.cell (p := ⟨b1, o1 + (l + 1) * 3, none⟩) (by simp only []; omega)).trans e_0
          replace e_1 := (z13.cell (p := ⟨b1, o1 + (l + 1) * 3 + 1, none⟩) (by simp only []; omega)).trans e_1
          replace e_2 := (z13.cell (p := ⟨b1, o1 + (l + 1) * 3 + 2, none⟩) (by simp only []; omega)).trans e_2
          replace f_0 := (z13.cell (p := ⟨b1, o1 + l * 3, none⟩) (by simp only []; omega)).trans f_0
          replace f_1 := (z13.cell (p := ⟨b1, o1 + l * 3 + 1, none⟩) (by simp only []; omega)).trans f_1
          replace f_2 := (z13.cell (p := ⟨b1, o1 + l * 3 + 2, none⟩) (by simp only []; omega)).trans f_2
          replace p_0 := (z13.cell (p := ⟨wo.heap.size, 0, none⟩) (by simp only []; omega)).trans p_0
          replace p_1 := (z13.cell (p := ⟨wo.heap.size, 1, none⟩) (by simp only []; omega)).trans p_1
          replace p_2 := (z13.cell (p := ⟨wo.heap.size, 2, none⟩) (by simp only []; omega)).trans p_2
          clear hi63
          go_wp2_with fail
          go_ret
          exact ⟨ret_bool HE.out.symm, hb14⟩
        | true =>
          have HE : Hid (dbFrom none x = dbFrom (prevN x (l + 1 + 1)) (x.drop (l + 1 + 1))) := Lib.hid (by rw [HA1.out]; rfl)
          obtain ⟨w15, hw15⟩ : ∃ W, W = wo.alloc (.cells #[.string s, .int .i64 i, .slice tb tn tc] 34) := ⟨_, rfl⟩
          have z15 : Below wo.heap.size wo w15 := by rw [hw15]; exact (Below.refl _ _).alloc (Nat.le_refl _) _
          have s15 : w15.heap.size = wo.heap.size + 1 := by rw [hw15]; simp
          have hb15 := on hb2 z15
          have old15_b_0 := b_0
          have old15_e_0 := e_0
          have old15_e_1 := e_1
          have old15_e_2 := e_2
          have old15_f_0 := f_0
          have old15_f_1 := f_1
          have old15_f_2 := f_2
          replace b_0 := (z15.cell (p := ⟨w.heap.size, 0, none⟩) (by simp only []; omega)).trans b_0
          replace hlc := on hlc z15
          replace e_0 := (z15.cell (p := ⟨b1, o1 + (l + 1) * 3, none⟩) (by simp only []; omega)).trans e_0
          replace e_1 := (z15.cell (p := ⟨b1, o1 + (l + 1) * 3 + 1, none⟩) (by simp only []; omega)).trans e_1
          replace e_2 := (z15.cell (p := ⟨b1, o1 + (l + 1) * 3 + 2, none⟩) (by simp only []; omega)).trans e_2
          replace f_0 := (z15.cell (p := ⟨b1, o1 + l * 3, none⟩) (by simp only []; omega)).trans f_0
          replace f_1 := (z15.cell (p := ⟨b1, o1 + l * 3 + 1, none⟩) (by simp only []; omega)).trans f_1
          replace f_2 := (z15.cell (p := ⟨b1, o1 + l * 3 + 2, none⟩) (by simp only []; omega)).trans f_2
          have p_0 : w15.cell? ⟨wo.heap.size, 0, none⟩ = some (.string s) := by rw [hw15]; exact box_cell (Below.refl _ _) rfl
          have p_1 : w15.cell? ⟨wo.heap.size, 1, none⟩ = some (.int .i64 i) := by rw [hw15]; exact box_cell (Below.refl _ _) rfl
          have p_2 : w15.cell? ⟨wo.heap.size, 2, none⟩ = some (.slice tb tn tc) := by rw [hw15]; exact box_cell (Below.refl _ _) rfl
          have raw15_b_0 := b_0
          have raw15_e_0 := e_0
          have raw15_e_1 := e_1
          have raw15_e_2 := e_2
          have raw15_f_0 := f_0
          have raw15_f_1 := f_1
          have raw15_f_2 := f_2
          have raw15_p_0 := p_0
          have raw15_p_1 := p_1
          have raw15_p_2 := p_2
          rw [hw15] at raw15_b_0 raw15_e_0 raw15_e_1 raw15_e_2 raw15_f_0 raw15_f_1 raw15_f_2 raw15_p_0 raw15_p_1 raw15_p_2
          go_wp2_with fail
          rw [← hw15]
          clear hw15
          clear old15_b_0 old15_e_0 old15_e_1 old15_e_2 old15_f_0 old15_f_1 old15_f_2 raw15_b_0 raw15_e_0 raw15_e_1 raw15_e_2 raw15_f_0 raw15_f_1 raw15_f_2 raw15_p_0 raw15_p_1 raw15_p_2
          have rg_b_0 := cell_regrown b_0
          have rg_e_0 := cell_regrown e_0
          have rg_e_1 := cell_regrown e_1
          have rg_e_2 := cell_regrown e_2
          have rg_f_0 := cell_regrown f_0
          have rg_f_1 := cell_regrown f_1
          have rg_f_2 := cell_regrown f_2
          have rg_p_0 := cell_regrown p_0
          have rg_p_1 := cell_regrown p_1
          have rg_p_2 := cell_regrown p_2
          refine wp_region_quiet_below (by kernel_rfl) (by kernel_rfl) ?_
          repeat (go_big_quiet_step ((first | (go_at_call 137; exact Calls.regrown_of (HC.out _ (on hb15 (below_regrown _ _ _)))))))
          refine wpQuiet_nil ?_
          intro w16 hw16
          have z16 : Below w15.heap.size w15 w16 := by obtain ⟨p9, e9⟩ := hw16; rw [e9]; exact below_regrown _ _ _
          clear hw16 rg_b_0 rg_e_0 rg_e_1 rg_e_2 rg_f_0 rg_f_1 rg_f_2 rg_p_0 rg_p_1 rg_p_2
          have s17 := z16.size
          have hb17 := on hb15 z16
          replace b_0 := (z16.cell (p := ⟨w.heap.size, 0, none⟩) (by simp only []; omega)).trans b_0
          replace hlc := on hlc z16
          replace e_0 := (z16.cell (p := ⟨b1, o1 + (l + 1) * 3, none⟩) (by simp only []; omega)).trans e_0
          replace e_1 := (z16.cell (p := ⟨b1, o1 + (l + 1) * 3 + 1, none⟩) (by simp only []; omega)).trans e_1
          replace e_2 := (z16.cell (p := ⟨b1, o1 + (l + 1) * 3 + 2, none⟩) (by simp only []; omega)).trans e_2
          replace f_0 := (z16.cell (p := ⟨b1, o1 + l * 3, none⟩) (by simp only []; omega)).trans f_0
          replace f_1 := (z16.cell (p := ⟨b1, o1 + l * 3 + 1, none⟩) (by simp only []; omega)).trans f_1
          replace f_2 := (z16.cell (p := ⟨b1, o1 + l * 3 + 2, none⟩) (by simp only []; omega)).trans f_2
          replace p_0 := (z16.cell (p := ⟨wo.heap.size, 0, none⟩) (by simp only []; omega)).trans p_0
          replace p_1 := (z16.cell (p := ⟨wo.heap.size, 1, none⟩) (by simp only []; omega)).trans p_1
          replace p_2 := (z16.cell (p := ⟨wo.heap.size, 2, none⟩) (by simp only []; omega)).trans p_2
          clear hi63
          go_wp2_with fail
          go_roundw
          case rel => exact ⟨l + 1 + 1, by omega, by go_num, HE.out, hlc⟩
          case measure => simp [intOf]; omega
    · have HE := Lib.hid (validDb_len HL.out (hE.out.trans (dbFrom_end (by have := HL.out; omega))))
      clear t1 hl hE HV
      go_wp2_with fail
      go_ret
      exact ⟨ret_bool (by rw [HE.out]), hb2⟩

set_option maxHeartbeats 4000000 in
theorem validDb_spec (cs : List Value) (x : DDb) (w : World) (h : rDb.rep w cs x) :
    Calls Try.prog 192 #[.agg cs.toArray] w fun e w' => e = .returned (.bool (validDb x)) ∧ Below w.heap.size w w' := by
  obtain ⟨ub, un, uc, rfl, g1⟩ := rDb_open h
  clear h
  have t1 := rS_sl g1
  have hl := t1.len
  have hn := t1.small
  have HV : Hid (dbFrom none x = dbFrom (prevN x 0) (x.drop 0)) := rfl
  have HL := Lib.hid hl
  have hb0 : Below w.heap.size w w := Below.refl _ _
  go_enter Try.func192, Try.ntmps192
  obtain ⟨w1, hw1⟩ : ∃ W, W = w.alloc (.cells #[.slice ub un uc] 89) := ⟨_, rfl⟩
  have z1 : Below w.heap.size w w1 := by rw [hw1]; exact (Below.refl _ _).alloc (Nat.le_refl _) _
  have s1 : w1.heap.size = w.heap.size + 1 := by rw [hw1]; simp
  have hb1 := on hb0 z1
  have b_0 : w1.cell? ⟨w.heap.size, 0, none⟩ = some (.slice ub un uc) := by rw [hw1]; exact box_cell (Below.refl _ _) rfl
  have raw1_b_0 := b_0
  rw [hw1] at raw1_b_0
  go_wp2_with fail
  rw [← hw1]
  clear hw1
  clear raw1_b_0
  go_loopw [3] (fun k wr => ∃ j : Nat, j ≤ un ∧ k = .int .i64 j ∧ Hid (dbFrom none x = dbFrom (prevN x j) (x.drop j)) ∧ Below w1.heap.size w1 wr) (fun k _ => un - (intOf k).toNat)
  case atStart => exact ⟨0, Nat.zero_le _, rfl, HV.out, Below.refl _ _⟩
  case round =>
    obtain ⟨j, hj, rfl, hE, hdr⟩ := hrel
    obtain ⟨wo, rfl⟩ : ∃ W, W = wr := ⟨_, rfl⟩
    have hlc := hdr
    have s2 := hdr.size
    have hb2 := on hb1 hdr
    replace b_0 := (hdr.cell (p := ⟨w.heap.size, 0, none⟩) (by simp only []; omega)).trans b_0
    by_cases hlt : j < un
    · obtain ⟨b1, o1, cs, t, rfl, hx, hr, hc⟩ := t1.at hlt
      have HA := Lib.hid (hE.out.trans (dbFrom_at hx.out))
      have HP := Lib.hid (prevN_at hx.out)
      obtain ⟨s, i, rows⟩ := t
      obtain ⟨tb, tn, tc, rfl, hs, hi, g2⟩ := rT_open hr
      simp only at hs hi g2 HA HP
      have e_lt : b1 < w.heap.size := cell_lt (hc 0 _ rfl)
      have e_0 : wo.cell? ⟨b1, o1 + j * 3, none⟩ = some (.string s) := (hb2.cell (p := ⟨b1, o1 + j * 3, none⟩) e_lt).trans (by have h9 := hc 0 _ rfl; rw [← Nat.add_assoc] at h9; exact h9)
      have e_1 : wo.cell? ⟨b1, o1 + j * 3 + 1, none⟩ = some (.int .i64 i) := (hb2.cell (p := ⟨b1, o1 + j * 3 + 1, none⟩) e_lt).trans (by have h9 := hc 1 _ rfl; rw [← Nat.add_assoc] at h9; exact h9)
      have e_2 : wo.cell? ⟨b1, o1 + j * 3 + 2, none⟩ = some (.slice tb tn tc) := (hb2.cell (p := ⟨b1, o1 + j * 3 + 2, none⟩) e_lt).trans (by have h9 := hc 2 _ rfl; rw [← Nat.add_assoc] at h9; exact h9)
      have hcall := fun W (hW : Below w.heap.size w W) => validT_spec [.string s, .int .i64 i, .slice tb tn tc] (s, i, rows) W (rT.mono hr hW)
      obtain ⟨v, hv⟩ : ∃ v, v = validT (s, i, rows) := ⟨_, rfl⟩
      rw [← hv] at hcall HA
      have HC := Lib.hid hcall
      clear hcall hv hE HV hc hr g2 hl
      by_cases hj0 : j = 0
      · subst hj0
        have z_0 : wo.cell? ⟨b1, o1, none⟩ = some (.string s) := by have h9 := e_0; rw [Nat.zero_mul, Nat.add_zero] at h9; exact h9
        have z_1 : wo.cell? ⟨b1, o1 + 1, none⟩ = some (.int .i64 i) := by have h9 := e_1; rw [Nat.zero_mul, Nat.add_zero] at h9; exact h9
        have z_2 : wo.cell? ⟨b1, o1 + 2, none⟩ = some (.slice tb tn tc) := by have h9 := e_2; rw [Nat.zero_mul, Nat.add_zero] at h9; exact h9
        clear e_0 e_1 e_2
        have HA1 : Hid (dbFrom none x = (v && dbFrom (prevN x (0 + 1)) (x.drop (0 + 1)))) := Lib.hid (by rw [HA.out, HP.out]; simp [prevN])
        clear hx HA HP t1
        cases v with
        | true =>
          have HE : Hid (dbFrom none x = dbFrom (prevN x (0 + 1)) (x.drop (0 + 1))) := Lib.hid (by rw [HA1.out]; rfl)
          go_wp2_with fail
          have rg_b_0 := cell_regrown b_0
          have rg_z_0 := cell_regrown z_0
          have rg_z_1 := cell_regrown z_1
          have rg_z_2 := cell_regrown z_2
          refine wp_region_quiet_below (by kernel_rfl) (by kernel_rfl) ?_
          repeat (go_big_quiet_step ((first | (go_at_call 27; exact Calls.regrown_of (HC.out _ (on hb2 (below_regrown _ _ _)))))))
          refine wpQuiet_nil ?_
          intro w3 hw3
          have z3 : Below wo.heap.size wo w3 := by obtain ⟨p9, e9⟩ := hw3; rw [e9]; exact below_regrown _ _ _
          clear hw3 rg_b_0 rg_z_0 rg_z_1 rg_z_2
          have s4 := z3.size
          have hb4 := on hb2 z3
          replace b_0 := (z3.cell (p := ⟨w.heap.size, 0, none⟩) (by simp only []; omega)).trans b_0
          replace hlc := on hlc z3
          replace z_0 := (z3.cell (p := ⟨b1, o1, none⟩) (by simp only []; omega)).trans z_0
          replace z_1 := (z3.cell (p := ⟨b1, o1 + 1, none⟩) (by simp only []; omega)).trans z_1
          replace z_2 := (z3.cell (p := ⟨b1, o1 + 2, none⟩) (by simp only []; omega)).trans z_2
          go_wp2_with fail
          go_roundw
          case rel => exact ⟨1, by omega, rfl, HE.out, hlc⟩
          case measure => simp [intOf]; omega
        | false =>
          have HE := Lib.hid (validDb_no (db := x) (by rw [HA1.out]; rfl))
          go_wp2_with fail
          have rg_b_0 := cell_regrown b_0
          have rg_z_0 := cell_regrown z_0
          have rg_z_1 := cell_regrown z_1
          have rg_z_2 := cell_regrown z_2
          refine wp_region_quiet_below (by kernel_rfl) (by kernel_rfl) ?_
          repeat (go_big_quiet_step ((first | (go_at_call 27; exact Calls.regrown_of (HC.out _ (on hb2 (below_regrown _ _ _)))))))
          refine wpQuiet_nil ?_
          intro w5 hw5
          have z5 : Below wo.heap.size wo w5 := by obtain ⟨p9, e9⟩ := hw5; rw [e9]; exact below_regrown _ _ _
          clear hw5 rg_b_0 rg_z_0 rg_z_1 rg_z_2
          have s6 := z5.size
          have hb6 := on hb2 z5
          replace b_0 := (z5.cell (p := ⟨w.heap.size, 0, none⟩) (by simp only []; omega)).trans b_0
          replace hlc := on hlc z5
          replace z_0 := (z5.cell (p := ⟨b1, o1, none⟩) (by simp only []; omega)).trans z_0
          replace z_1 := (z5.cell (p := ⟨b1, o1 + 1, none⟩) (by simp only []; omega)).trans z_1
          replace z_2 := (z5.cell (p := ⟨b1, o1 + 2, none⟩) (by simp only []; omega)).trans z_2
          go_wp2_with fail
          go_ret
          exact ⟨ret_bool HE.out.symm, hb6⟩
      obtain ⟨l, rfl⟩ : ∃ l, j = l + 1 := ⟨j - 1, by omega⟩
      obtain ⟨b9, o9, cs, t, hb9, hy, hr, hc⟩ := t1.at (show l < un by omega)
      simp at hb9
      obtain ⟨rfl, rfl⟩ := hb9
      have HP2 := Lib.hid (prevN_at hy.out)
      obtain ⟨s2, i2, rows2⟩ := t
      obtain ⟨tb2, tn2, tc2, rfl, hs2, hi2, g2⟩ := rT_open hr
      simp only at HP2
      have f_lt : b1 < w.heap.size := cell_lt (hc 0 _ rfl)
      have f_0 : wo.cell? ⟨b1, o1 + l * 3, none⟩ = some (.string s2) := (hb2.cell (p := ⟨b1, o1 + l * 3, none⟩) f_lt).trans (by have h9 := hc 0 _ rfl; rw [← Nat.add_assoc] at h9; exact h9)
      have f_1 : wo.cell? ⟨b1, o1 + l * 3 + 1, none⟩ = some (.int .i64 i2) := (hb2.cell (p := ⟨b1, o1 + l * 3 + 1, none⟩) f_lt).trans (by have h9 := hc 1 _ rfl; rw [← Nat.add_assoc] at h9; exact h9)
      have f_2 : wo.cell? ⟨b1, o1 + l * 3 + 2, none⟩ = some (.slice tb2 tn2 tc2) := (hb2.cell (p := ⟨b1, o1 + l * 3 + 2, none⟩) f_lt).trans (by have h9 := hc 2 _ rfl; rw [← Nat.add_assoc] at h9; exact h9)
      have HA1 : Hid (dbFrom none x = (v && (ltB s2 s && dbFrom (prevN x (l + 1 + 1)) (x.drop (l + 1 + 1))))) := Lib.hid (by rw [HA.out, HP.out, HP2.out])
      clear hx hy HA HP HP2 t1 hc hr g2 hj0
      obtain ⟨q, hq⟩ : ∃ q, q = ltB s2 s := ⟨_, rfl⟩
      rw [← hq] at HA1
      have hq2 : Op.bytesLess s2.toList s.toList = q := hq.symm
      clear hq
      have hi63 : IntKind.i64.wrap (l : Int) = (l : Int) := IntWalk.i64_in _ (by omega)
      cases v with
      | false =>
        have HE := Lib.hid (validDb_no (db := x) (by rw [HA1.out]; rfl))
        go_wp2_with fail
        have rg_b_0 := cell_regrown b_0
        have rg_e_0 := cell_regrown e_0
        have rg_e_1 := cell_regrown e_1
        have rg_e_2 := cell_regrown e_2
        have rg_f_0 := cell_regrown f_0
        have rg_f_1 := cell_regrown f_1
        have rg_f_2 := cell_regrown f_2
        refine wp_region_quiet_below (by kernel_rfl) (by kernel_rfl) ?_
        repeat (go_big_quiet_step ((first | (go_at_call 27; exact Calls.regrown_of (HC.out _ (on hb2 (below_regrown _ _ _)))))))
        refine wpQuiet_nil ?_
        intro w7 hw7
        have z7 : Below wo.heap.size wo w7 := by obtain ⟨p9, e9⟩ := hw7; rw [e9]; exact below_regrown _ _ _
        clear hw7 rg_b_0 rg_e_0 rg_e_1 rg_e_2 rg_f_0 rg_f_1 rg_f_2
        have s8 := z7.size
        have hb8 := on hb2 z7
        replace b_0 := (z7.cell (p := ⟨w.heap.size, 0, none⟩) (by simp only []; omega)).trans b_0
        replace hlc := on hlc z7
        replace e_0 := (z7.cell (p := ⟨b1, o1 + (l + 1) * 3, none⟩) (by simp only []; omega)).trans e_0
        replace e_1 := (z7.cell (p := ⟨b1, o1 + (l + 1) * 3 + 1, none⟩) (by simp only []; omega)).trans e_1
        replace e_2 := (z7.cell (p := ⟨b1, o1 + (l + 1) * 3 + 2, none⟩) (by simp only []; omega)).trans e_2
        replace f_0 := (z7.cell (p := ⟨b1, o1 + l * 3, none⟩) (by simp only []; omega)).trans f_0
        replace f_1 := (z7.cell (p := ⟨b1, o1 + l * 3 + 1, none⟩) (by simp only []; omega)).trans f_1
        replace f_2 := (z7.cell (p := ⟨b1, o1 + l * 3 + 2, none⟩) (by simp only []; omega)).trans f_2
        clear hi63
        go_wp2_with fail
        go_ret
        exact ⟨ret_bool HE.out.symm, hb8⟩
      | true =>
        cases q with
        | false =>
          have HE := Lib.hid (validDb_no (db := x) (by rw [HA1.out]; rfl))
          go_wp2_with fail
          have rg_b_0 := cell_regrown b_0
          have rg_e_0 := cell_regrown e_0
          have rg_e_1 := cell_regrown e_1
          have rg_e_2 := cell_regrown e_2
          have rg_f_0 := cell_regrown f_0
          have rg_f_1 := cell_regrown f_1
          have rg_f_2 := cell_regrown f_2
          refine wp_region_quiet_below (by kernel_rfl) (by kernel_rfl) ?_
          repeat (go_big_quiet_step ((first | (go_at_call 27; exact Calls.regrown_of (HC.out _ (on hb2 (below_regrown _ _ _)))))))
          refine wpQuiet_nil ?_
          intro w9 hw9
          have z9 : Below wo.heap.size wo w9 := by obtain ⟨p9, e9⟩ := hw9; rw [e9]; exact below_regrown _ _ _
          clear hw9 rg_b_0 rg_e_0 rg_e_1 rg_e_2 rg_f_0 rg_f_1 rg_f_2
          have s10 := z9.size
          have hb10 := on hb2 z9
          replace b_0 := (z9.cell (p := ⟨w.heap.size, 0, none⟩) (by simp only []; omega)).trans b_0
          replace hlc := on hlc z9
          replace e_0 := (z9.cell (p := ⟨b1, o1 + (l + 1) * 3, none⟩) (by simp only []; omega)).trans e_0
          replace e_1 := (z9.cell (p := ⟨b1, o1 + (l + 1) * 3 + 1, none⟩) (by simp only []; omega)).trans e_1
          replace e_2 := (z9.cell (p := ⟨b1, o1 + (l + 1) * 3 + 2, none⟩) (by simp only []; omega)).trans e_2
          replace f_0 := (z9.cell (p := ⟨b1, o1 + l * 3, none⟩) (by simp only []; omega)).trans f_0
          replace f_1 := (z9.cell (p := ⟨b1, o1 + l * 3 + 1, none⟩) (by simp only []; omega)).trans f_1
          replace f_2 := (z9.cell (p := ⟨b1, o1 + l * 3 + 2, none⟩) (by simp only []; omega)).trans f_2
          clear hi63
          go_wp2_with fail
          go_ret
          exact ⟨ret_bool HE.out.symm, hb10⟩
        | true =>
          have HE : Hid (dbFrom none x = dbFrom (prevN x (l + 1 + 1)) (x.drop (l + 1 + 1))) := Lib.hid (by rw [HA1.out]; rfl)
          go_wp2_with fail
          have rg_b_0 := cell_regrown b_0
          have rg_e_0 := cell_regrown e_0
          have rg_e_1 := cell_regrown e_1
          have rg_e_2 := cell_regrown e_2
          have rg_f_0 := cell_regrown f_0
          have rg_f_1 := cell_regrown f_1
          have rg_f_2 := cell_regrown f_2
          refine wp_region_quiet_below (by kernel_rfl) (by kernel_rfl) ?_
          repeat (go_big_quiet_step ((first | (go_at_call 27; exact Calls.regrown_of (HC.out _ (on hb2 (below_regrown _ _ _)))))))
          refine wpQuiet_nil ?_
          intro w11 hw11
          have z11 : Below wo.heap.size wo w11 := by obtain ⟨p9, e9⟩ := hw11; rw [e9]; exact below_regrown _ _ _
          clear hw11 rg_b_0 rg_e_0 rg_e_1 rg_e_2 rg_f_0 rg_f_1 rg_f_2
          have s12 := z11.size
          have hb12 := on hb2 z11
          replace b_0 := (z11.cell (p := ⟨w.heap.size, 0, none⟩) (by simp only []; omega)).trans b_0
          replace hlc := on hlc z11
          replace e_0 := (z11.cell (p := ⟨b1, o1 + (l + 1) * 3, none⟩) (by simp only []; omega)).trans e_0
          replace e_1 := (z11.cell (p := ⟨b1, o1 + (l + 1) * 3 + 1, none⟩) (by simp only []; omega)).trans e_1
          replace e_2 := (z11.cell (p := ⟨b1, o1 + (l + 1) * 3 + 2, none⟩) (by simp only []; omega)).trans e_2
          replace f_0 := (z11.cell (p := ⟨b1, o1 + l * 3, none⟩) (by simp only []; omega)).trans f_0
          replace f_1 := (z11.cell (p := ⟨b1, o1 + l * 3 + 1, none⟩) (by simp only []; omega)).trans f_1
          replace f_2 := (z11.cell (p := ⟨b1, o1 + l * 3 + 2, none⟩) (by simp only []; omega)).trans f_2
          clear hi63
          go_wp2_with fail
          go_roundw
          case rel => exact ⟨l + 1 + 1, by omega, by go_num, HE.out, hlc⟩
          case measure => simp [intOf]; omega
    · have HE := Lib.hid (validDb_len HL.out (hE.out.trans (dbFrom_end (by have := HL.out; omega))))
      clear t1 hl hE HV
      go_wp2_with fail
      go_ret
      exact ⟨ret_bool (by rw [HE.out]), hb2⟩

end Go.Proofs.Ytbkoddikfpkocaa
