/- Texts joined for one claim: CompF, Sorted, GrpI. -/
import Derived.Test.YtehcjdbljdpmbaaQfbf199fc4e
import Derived.Test.YtehcjdbljdpmbaaQ97469d5ac6
import Derived.Test.YtehcjdbljdpmbaaQ44bceabf94
import Derived.Test.YtehcjdbljdpmbaaQ333daf5705
import Derived.Test.YtehcjdbljdpmbaaQdd5f131b17
import Derived.Test.YtehcjdbljdpmbaaQf757018822
import Derived.Lib.SliceRun
import Derived.Shelf.SlSortCmp.NoneTotal

/- Contracts: rows compacted by the library (slices.CompactFunc); rows sorted, each once (impl.sorted). -/
namespace Go.Proofs.Ytehcjdbljdpmbaa
open Go.RowKit Go.Sort
set_option linter.unusedVariables false
set_option linter.unusedSimpArgs false
set_option synthInstance.maxSize 2000
set_option synthInstance.maxHeartbeats 400000

theorem At.cell {g c j : Nat} {W : World} {vs : List Value} {u : Value} (h : At g c W vs) (hj : vs[j]? = some u) : W.cell? ⟨g, j, none⟩ = some u ∧ W.frozen? ⟨g, j, none⟩ = false := by
  obtain ⟨cur, hb, hs, ht⟩ := h.ex
  have hjl := (List.getElem?_eq_some_iff.1 hj).1
  have h1 : (cur.toList.take vs.length)[j]? = some u := by rw [ht]; exact hj
  rw [List.getElem?_take_of_lt hjl] at h1
  refine ⟨?_, ?_⟩
  · simp only [World.cell?, hb]; simpa using h1
  · simp only [World.frozen?, hb]; simp
theorem At.drew {g c : Nat} {W W' : World} {vs : List Value} (h : At g c W vs) (hd : Drew W W') : At g c W' vs := by
  obtain ⟨m, rfl⟩ := hd
  exact ⟨h.ex, h.le, h.cap⟩
theorem At.set {g c k : Nat} {W : World} {vs : List Value} (h : At g c W vs) (u : Value) : At g c (W.setCell ⟨g, k, none⟩ u) (vs.set k u) := by
  obtain ⟨cur, hb, hs, ht⟩ := h.ex
  refine ⟨⟨cur.setIfInBounds k u, ?_, by simp [hs], ?_⟩, by simpa using h.le, h.cap⟩
  · rw [setCell_eq]
    simp only [mapBlock, Array.getElem?_modify, if_true, hb, Option.map_some, onCells]
  · rw [List.length_set, Array.toList_setIfInBounds, List.take_set, ht]
theorem But.set {g k : Nat} {w W : World} (h : But g w W) (u : Value) : But g w (W.setCell ⟨g, k, none⟩ u) := fun i h1 h2 => by
  rw [← h i h1 h2]; exact Below.heap_setCell _ _ _ _ h1
theorem At.pre {g c : Nat} {W : World} {us vs : List Value} (h : At g c W (us ++ vs)) : At g c W us := by
  obtain ⟨cur, hb, hs, ht⟩ := h.ex
  have hle := h.le
  rw [List.length_append] at hle
  refine ⟨⟨cur, hb, hs, ?_⟩, by omega, h.cap⟩
  have h1 := congrArg (List.take us.length) ht
  rw [List.take_take, List.length_append, Nat.min_eq_left (by omega), List.take_left' rfl] at h1
  exact h1
theorem eqFn_any (a b : Option Addr) (n m cap cap' : Nat) (xs ys : List Int) (w : World) (h : Ints w a n xs) (h' : Ints w b m ys) :
    Calls Try.prog 108 #[.slice a n cap, .slice b m cap'] w fun e w' => e = .returned (.bool (decide (xs = ys))) ∧ Drew w w' := by
  have HC := Lib.hid (equalInts a b n m cap cap' xs ys w h h')
  clear h h'
  go_enter Try.func108, Try.ntmps108
  go_wp2_with (go_at_call 82; refine HC.out.mono ?_; rintro e w9 ⟨rfl, hd⟩)
  go_ret
  exact ⟨rfl, hd⟩
theorem El.ints {w W : World} {g : Nat} (x : El w g) (hb : But g w W) : ∃ a cap, x.v = .slice a x.xs.length cap ∧ Ints W a x.xs.length x.xs := by
  obtain ⟨a, cap, h, ho, _⟩ := oI_own (hb.rep x)
  simp at h
  exact ⟨a, cap, h, ho.ints⟩
/-- The comparison, at elements. -/
theorem eqEl_any {w W : World} {g : Nat} (x y : El w g) (hb : But g w W) :
    Calls Try.prog 108 #[x.v, y.v] W fun e w' => e = .returned (.bool (decide (x.xs = y.xs))) ∧ Drew W w' := by
  obtain ⟨a, cap, h1, i1⟩ := x.ints hb
  obtain ⟨b, cap', h2, i2⟩ := y.ints hb
  rw [h1, h2]
  exact eqFn_any a b _ _ cap cap' _ _ W i1 i2

theorem setCells_pre {g c : Nat} : ∀ (zs : List Value) {W : World} {vs : List Value} {o : Nat}, At g c W vs → vs.length ≤ o → At g c (W.setCells g o zs) vs
  | [], W, vs, o, h, _ => h
  | z :: t, W, vs, o, h, ho => by
    have h1 := h.set (k := o) z
    rw [List.set_eq_of_length_le ho] at h1
    exact setCells_pre t h1 (by omega)
theorem setCells_turn {g : Nat} : ∀ (zs : List Value) (W : World) (o : Nat), Turn g (g + 1) W (W.setCells g o zs)
  | [], W, o => turn_refl _ _ _
  | z :: t, W, o => ((turn_refl g (g + 1) W).setIn (p := ⟨g, o, none⟩) (Nat.le_refl _) (Nat.lt_succ_self _) z).trans (setCells_turn t _ (o + 1))
theorem turn_drew {lo hi : Nat} {a b : World} (h : Drew a b) : Turn lo hi a b := by
  obtain ⟨m, rfl⟩ := h
  exact ⟨rfl, rfl, rfl, Nat.le_refl _, fun _ _ _ => rfl⟩
theorem Turn.but {g : Nat} {w a b : World} (h : But g w a) (hs : w.heap.size ≤ a.heap.size) (k : Turn g (g + 1) a b) : But g w b := fun i h1 h2 =>
  (k.block i (by omega) (by omega)).trans (h i h1 h2)
theorem dedRow_skip {α : Type} {key : α → List Int} {d : List α} {p : Nat} (h : keepAt key d p = false) : dedRow key d (p + 1) = dedRow key d p := by
  rw [dedRow, dedRow, dedTo_skip h]

set_option maxRecDepth 100000 in
set_option maxHeartbeats 4000000 in
theorem compF_any {w : World} {g c : Nat} (d : List (El w g)) (w1 : World) (ha : At g c w1 (d.map El.v)) (hb : But g w w1) (hsz : w.heap.size ≤ w1.heap.size) (hg : g < w.heap.size) (n : Nat) (hnl : d.length = n) (hn : n ≤ 1000000000) :
    Calls Try.prog 107 #[.slice (some ⟨g, 0, none⟩) n c, .func (.func 108) #[] #[]] w1 fun e w2 => e = .returned (.slice (some ⟨g, 0, none⟩) (dedTo El.xs d n).length c) ∧ At g c w2 ((dedTo El.xs d n).map El.v) ∧ Turn g (g + 1) w1 w2 := by
  have hcap : n ≤ c := by have := ha.le; simpa [hnl] using this
  have hcm := ha.cap
  have hcm2 : c ≤ 9223372036854775807 := by unfold maxLen at hcm; omega
  have hbq : ∀ W, Drew w1 W → But g w W := fun W h i h1 h2 => by obtain ⟨m, rfl⟩ := h; exact hb i h1 h2
  by_cases h2 : n < 2
  · have HD : Hid (dedTo El.xs d n = d) := Lib.hid (by
      rw [dedTo_all (fun j hj => by (obtain rfl : j = 0 := (by omega)); exact keepAt_zero), List.take_of_length_le (by omega)])
    have HA := Lib.hid ha
    clear ha hb hbq
    go_enter Try.func107, Try.ntmps107
    go_wp2_with fail
    go_ret
    exact ⟨by rw [HD.out, hnl]; rfl, by rw [HD.out]; exact HA.out, turn_refl _ _ _⟩
  go_enter Try.func107, Try.ntmps107
  go_wp2_with fail
  go_loopw [5] (fun s wr => ∃ k : Nat, 1 ≤ k ∧ k ≤ n ∧ s = .int .i64 k ∧ Hid (∀ j, j < k → keepAt El.xs d j = true) ∧ Drew w1 wr) (fun s _ => n - (intOf s).toNat)
  case atStart => exact ⟨1, Nat.le_refl _, by omega, rfl, Lib.hid (fun j hj => by (obtain rfl : j = 0 := (by omega)); exact keepAt_zero), Drew.refl _⟩
  case round =>
    obtain ⟨k, hk1, hk, rfl, hall, hdr⟩ := hrel
    obtain ⟨i, rfl⟩ : ∃ i, k = i + 1 := ⟨k - 1, by omega⟩
    have hld := hdr
    have ha2 := ha.drew hdr
    have hb2 := hbq wr hdr
    by_cases hlt : i + 1 < n
    · obtain ⟨x, hx⟩ : ∃ x, d[i + 1]? = some x := ⟨_, List.getElem?_eq_getElem (by omega)⟩
      obtain ⟨y, hy⟩ : ∃ y, d[i]? = some y := ⟨_, List.getElem?_eq_getElem (by omega)⟩
      obtain ⟨c1, f1⟩ := ha2.cell (j := i + 1) (u := x.v) (by simp [hx])
      obtain ⟨c0, f0⟩ := ha2.cell (j := i) (u := y.v) (by simp [hy])
      have heq := fun q => eqEl_any (W := wr.drewN q) x y (fun j h1 h2 => hb2 j h1 h2)
      have hka := keepAt_at (key := El.xs) hx hy
      obtain ⟨t, ht⟩ : ∃ t, decide (x.xs = y.xs) = t := ⟨_, rfl⟩
      rw [ht] at hka
      simp only [ht] at heq
      have HEQ := Lib.hid heq
      have HKA := Lib.hid hka
      have hi63 : IntKind.i64.wrap (i : Int) = (i : Int) := IntWalk.i64_in _ (by omega)
      clear heq hka ht
      cases t with
      | false =>
        have HALL : Hid (∀ j, j < i + 1 + 1 → keepAt El.xs d j = true) := Lib.hid (fun j hj => by
          by_cases e : j = i + 1
          · subst e; exact HKA.out
          · exact hall.out j (by omega))
        clear hall HKA
        go_wp2_with fail
        go_quiet ((go_at_call 108; exact quiet_drew (HEQ.out _)))
        clear hi63
        go_wp2_with fail
        go_roundw
        case rel => exact ⟨i + 1 + 1, by omega, by omega, by go_num, HALL, hld.step _⟩
        case measure => simp [intOf]; omega
      | true =>
        have hd1 : dedTo El.xs d (i + 1) = d.take (i + 1) := dedTo_all (fun j hj => hall.out j hj)
        have hd2 : dedTo El.xs d (i + 1 + 1) = d.take (i + 1) := by rw [dedTo_skip HKA.out, hd1]
        have hdl : (dedTo El.xs d (i + 1 + 1)).length = i + 1 := by rw [hd2, List.length_take]; omega
        have hdr2 : dedRow El.xs d (i + 1 + 1) = d := by rw [dedRow, hdl, hd2, List.take_append_drop]
        have HD1 := Lib.hid hdl
        have HD2 := Lib.hid hdr2
        clear hall HKA hd1 hd2 hdl hdr2
        go_wp2_with fail
        go_quiet ((go_at_call 108; exact quiet_drew (HEQ.out _)))
        clear hi63 HEQ
        have hwq := fun q => (turn_drew (lo := g) (hi := g + 1) (hld.step q))
        have haq := fun q => ha.drew (hld.step q)
        go_wp2_with fail
        go_loopw [5, 7] (fun s5 s7 wr => ∃ k2 kk : Nat, 1 ≤ k2 ∧ i + 1 + k2 ≤ n ∧ s7 = .int .i64 k2 ∧ s5 = .int .i64 kk ∧ kk + 1 ≤ i + 1 + k2 ∧ Hid ((dedTo El.xs d (i + 1 + k2)).length = kk) ∧ At g c wr ((dedRow El.xs d (i + 1 + k2)).map El.v) ∧ Turn g (g + 1) w1 wr) (fun _ s7 _ => n - (i + 1 + (intOf s7).toNat))
        case atStart => exact ⟨1, i + 1, Nat.le_refl _, by omega, rfl, rfl, by omega, HD1, by rw [HD2.out]; exact haq _, hwq _⟩
        case round =>
          obtain ⟨k2, kk, hk21, hk2, rfl, rfl, hkk, hlen, hA, hT⟩ := hrel
          obtain ⟨q, rfl⟩ : ∃ q, k2 = q + 1 := ⟨k2 - 1, by omega⟩
          have hb3 := Turn.but hb hsz hT
          clear haq hwq ha2 hb2
          by_cases hlt2 : i + 1 + (q + 1) < n
          · obtain ⟨x2, hx2⟩ : ∃ x, d[i + 1 + (q + 1)]? = some x := ⟨_, List.getElem?_eq_getElem (by omega)⟩
            obtain ⟨y2, hy2⟩ : ∃ y, d[i + 1 + q]? = some y := ⟨_, List.getElem?_eq_getElem (by omega)⟩
            obtain ⟨c3, f3⟩ := hA.cell (j := i + 1 + (q + 1)) (u := x2.v) (by rw [List.getElem?_map, dedRow_get (by rw [hlen.out]; omega), hx2]; rfl)
            obtain ⟨c2, f2⟩ := hA.cell (j := i + 1 + q) (u := y2.v) (by rw [List.getElem?_map, dedRow_get (by rw [hlen.out]; omega), hy2]; rfl)
            obtain ⟨z, hz⟩ : ∃ z, d[kk]? = some z := ⟨_, List.getElem?_eq_getElem (by omega)⟩
            obtain ⟨ck, fk⟩ := hA.cell (j := kk) (u := z.v) (by rw [List.getElem?_map, dedRow_get (by rw [hlen.out]; omega), hz]; rfl)
            have heq := fun q => eqEl_any (W := wr.drewN q) x2 y2 (fun j h1 h2 => hb3 j h1 h2)
            have hka : keepAt El.xs d (i + 1 + (q + 1)) = !decide (x2.xs = y2.xs) := keepAt_at (key := El.xs) (p := i + 1 + q) hx2 hy2
            obtain ⟨t, ht⟩ : ∃ t, decide (x2.xs = y2.xs) = t := ⟨_, rfl⟩
            rw [ht] at hka
            simp only [ht] at heq
            have HEQ := Lib.hid heq
            have hi63 : IntKind.i64.wrap (q : Int) = (q : Int) := IntWalk.i64_in _ (by omega)
            clear heq ht
            cases t with
            | true =>
              have HLEN : Hid ((dedTo El.xs d (i + 1 + (q + 1 + 1))).length = kk) := Lib.hid (by
                show (dedTo El.xs d (i + 1 + (q + 1) + 1)).length = kk
                rw [dedTo_skip hka, hlen.out])
              have HROW : Hid (dedRow El.xs d (i + 1 + (q + 1 + 1)) = dedRow El.xs d (i + 1 + (q + 1))) := Lib.hid (dedRow_skip hka)
              clear hka hlen
              go_wp2_with fail
              go_quiet ((go_at_call 108; exact quiet_drew (HEQ.out _)))
              clear hi63
              go_wp2_with fail
              go_roundw
              case rel => exact ⟨q + 1 + 1, kk, by omega, by omega, by go_num, rfl, by omega, HLEN, by rw [HROW.out]; exact hA.drew ⟨_, rfl⟩, hT.trans (turn_drew ⟨_, rfl⟩)⟩
              case measure => simp [intOf]; omega
            | false =>
              have HLEN : Hid ((dedTo El.xs d (i + 1 + (q + 1 + 1))).length = kk + 1) := Lib.hid (by
                show (dedTo El.xs d (i + 1 + (q + 1) + 1)).length = kk + 1
                rw [dedTo_keep hx2 hka, List.length_append, hlen.out]; rfl)
              have HROW : Hid ((dedRow El.xs d (i + 1 + (q + 1))).set kk x2 = dedRow El.xs d (i + 1 + (q + 1 + 1))) := Lib.hid (by
                have h9 := dedRow_set (key := El.xs) hx2 hka
                rw [hlen.out] at h9; exact h9)
              obtain ⟨xa, xcp, hxv⟩ := x2.form
              rw [hxv] at c3 HEQ
              clear hka hlen
              go_wp2_with fail
              go_quiet ((go_at_call 108; exact quiet_drew (HEQ.out _)))
              clear hi63
              go_wp2_with fail
              go_roundw
              case rel =>
                refine ⟨q + 1 + 1, kk + 1, by omega, by omega, by go_num, by go_num, by omega, HLEN, ?_, ?_⟩
                · rw [← HROW.out, List.map_set]
                  rw [hxv]
                  exact (hA.drew ⟨_, rfl⟩).set _
                · exact (hT.trans (turn_drew ⟨_, rfl⟩)).setIn (p := ⟨g, kk, none⟩) (Nat.le_refl _) (Nat.lt_succ_self _) _
              case measure => simp [intOf]; omega
          · have hpn : i + 1 + (q + 1) = n := by omega
            rw [hpn] at hA hlen
            have hkn : kk < n := by omega
            have hcl : ∀ ty, (Builtin.clear_ #[32] ty #[.slice (some ⟨g, kk, none⟩) (n - kk) (c - kk)]).run Try.prog wr = .ok (.tuple #[]) (wr.setCells g kk (List.replicate (n - kk) (.slice none 0 0))) := fun ty =>
              Lib.run_clear_slice wr 32 24 ty (.slice none 0 0) Try.underlying32 Try.zeroValue24 rfl rfl g kk (n - kk) (c - kk) (by omega)
                (fun j hj => by
                  obtain ⟨u, hu⟩ : ∃ u, ((dedRow El.xs d n).map El.v)[kk + j]? = some u := ⟨_, List.getElem?_eq_getElem (by rw [List.length_map, dedRow_len (by omega)]; omega)⟩
                  rw [(hA.cell hu).1]; rfl)
                (fun j hj => by
                  obtain ⟨u, hu⟩ : ∃ u, ((dedRow El.xs d n).map El.v)[kk + j]? = some u := ⟨_, List.getElem?_eq_getElem (by rw [List.length_map, dedRow_len (by omega)]; omega)⟩
                  exact (hA.cell hu).2)
            have HA := Lib.hid (show At g c (wr.setCells g kk (List.replicate (n - kk) (.slice none 0 0))) ((dedTo El.xs d n).map El.v) from
              setCells_pre _ (by rw [dedRow, List.map_append] at hA; exact hA.pre) (by rw [List.length_map, hlen.out]; exact Nat.le_refl _))
            have HT := Lib.hid (hT.trans (setCells_turn (List.replicate (n - kk) (.slice none 0 0)) wr kk))
            clear hA hT hb3 hpn
            go_wp2_with fail
            go_ret
            exact ⟨by rw [hlen.out]; rfl, HA.out, HT.out⟩
    · have hkn : i + 1 = n := by omega
      have HD : Hid (dedTo El.xs d n = d) := Lib.hid (by
        rw [dedTo_all (fun j hj => hall.out j (by omega)), List.take_of_length_le (by omega)])
      have HA := Lib.hid ha2
      clear hall ha2 hb2 ha hb hbq
      go_wp2_with fail
      go_ret
      exact ⟨by rw [HD.out, hnl]; rfl, by rw [HD.out]; exact HA.out, turn_drew hld⟩

theorem But.sortA {w : World} {g m : Nat} (dk : Array (El w g)) (os : Array Obj) : But g w (Go.Proofs.sortWorld El.v w g 0 m dk os) := fun k hk hs => by
  unfold Go.Proofs.sortWorld
  rw [heap_grow_old _ _ (by rw [size_putRow]; exact hs)]
  simp only [putRow, mapBlock, Array.getElem?_modify]
  rw [if_neg (Ne.symm hk)]
  rfl
theorem sortW_below {w : World} {g m lo : Nat} (dk : Array (El w g)) (os : Array Obj) (hl : lo ≤ w.heap.size) (hg : lo ≤ g) : Below lo w (Go.Proofs.sortWorld El.v w g 0 m dk os) :=
  ⟨rfl, rfl, rfl, by unfold Go.Proofs.sortWorld; rw [size_grow, size_putRow]; exact Nat.le_add_right _ _, fun k hk => But.sortA dk os k (by omega) (by omega)⟩
/-- impl.CompareRows, wherever the library's sort calls it. -/
theorem cmpLays {w : World} {g n : Nat} : Go.Proofs.CmpLays1 Try.prog 106 #[] (El.v (w := w) (g := g)) cfE g 0 n w := by
  intro m os dk hs x y
  obtain ⟨a, cap, h1, i1⟩ := x.ints (But.sortA (m := m) dk os)
  obtain ⟨b, cap', h2, i2⟩ := y.ints (But.sortA (m := m) dk os)
  rw [h1, h2]
  refine (cmpRows_any a b _ _ cap cap' _ _ _ i1 i2).mono ?_
  rintro e w' ⟨rfl, rfl⟩
  exact ⟨rfl, 0, #[], (grow_empty _).symm⟩
theorem own_nilptr {lo hi n c : Nat} {w : World} {rows : List (List Int)} {a : Option Addr} (h : Own oII lo hi w [.slice a n c] rows) : (a = none ∧ n = 0 ∧ c = 0 ∧ rows = []) ∨ ∃ g, a = some ⟨g, 0, none⟩ ∧ rows.length = n := by
  obtain ⟨fp, ⟨v, css, fs, hv, rfl, h1, h2⟩, hn, hb⟩ := h
  simp only [List.cons.injEq, and_true] at hv
  subst hv
  have hr := oI.rows_len h2
  rcases h1.2 with ⟨h9, h0⟩ | ⟨g, cap, cur, hv', _, _, _, _, _, _⟩
  · simp at h9
    exact .inl ⟨h9.1, h9.2.1, h9.2.2, List.eq_nil_of_length_eq_zero h0⟩
  · simp at hv'
    exact .inr ⟨g, hv'.1, hv'.2.1.symm⟩

end Go.Proofs.Ytehcjdbljdpmbaa

/- Contracts: rows sorted, each once (impl.sorted). -/
namespace Go.Proofs.Ytehcjdbljdpmbaa
open Go.RowKit Go.Sort
set_option linter.unusedVariables false
set_option linter.unusedSimpArgs false
set_option synthInstance.maxSize 2000
set_option synthInstance.maxHeartbeats 400000

theorem compF_nil (w : World) :
    Calls Try.prog 107 #[.slice none 0 0, .func (.func 108) #[] #[]] w fun e w' => e = .returned (.slice none 0 0) ∧ w' = w := by
  go_enter Try.func107, Try.ntmps107
  go_wp2_with fail
  go_ret
  exact ⟨rfl, rfl⟩

set_option maxHeartbeats 2000000 in
theorem sorted_any (v : Value) (rows : List (List Int)) (w : World) (h : rII.rep w [v] rows) (hn : bulk_II rows ≤ 100000000) :
    Calls Try.prog 81 #[v] w fun e w' => ∃ u, e = .returned u ∧ Own oII w.heap.size w'.heap.size w' [u] (canon rows) ∧ Below w.heap.size w w' := by
  have HC := Lib.hid (copyRows_any v rows w h hn)
  clear h
  go_enter Try.func81, Try.ntmps81
  go_wp2_with fail
  refine HC.out.mono ?_
  rintro e w1 ⟨u, rfl, ho, z1⟩
  have s1 := z1.size
  obtain ⟨a, n, c, rfl⟩ := oII_form1 ho
  rcases own_nilptr ho with ⟨rfl, rfl, rfl, rfl⟩ | ⟨g, rfl, hln⟩
  · have HO := Lib.hid ho
    clear ho
    go_wp2_with fail
    refine (Go.Proofs.AnyF.slices_SortFunc_none { Try.laysSlF6_f105 with } none 0 _ w1).mono ?_
    rintro e w' ⟨rfl, rfl⟩
    go_wp2_with fail
    refine (compF_nil _).mono ?_
    rintro e w' ⟨rfl, rfl⟩
    go_wp2_with fail
    go_ret
    exact ⟨_, rfl, by simpa [canon] using HO.out, z1⟩
  · obtain ⟨d, hd, hdl, hat, hg, hnd, hbd⟩ := rows_open ho
    have hgl : w.heap.size ≤ g := (hbd g (by simp)).1
    have hn9 : n ≤ 1000000000 := by
      have : rows.length ≤ bulk_II rows := by unfold bulk_II; omega
      omega
    have hsort := Try.slices_SortFunc El.v (fun x => x.one) cfE (swoE w1 g) 106 #[] g 0 c d.toArray w1 (enters_of Try.func106 (by kernel_rfl) rfl) cmpLays hat.holds hg (by simp; omega)
    rw [List.size_toArray, hdl] at hsort
    have HS := Lib.hid hsort
    clear hsort ho
    go_wp2_with fail
    refine HS.out.mono ?_
    rintro e w2 ⟨rfl, d', m, os, hp, hs, rfl⟩
    obtain ⟨hp1, hp2⟩ := permIn_all (d := d) (d' := d') (by rw [List.size_toArray, hdl]; exact hp)
    obtain ⟨hat2, hbut⟩ := At.sort (n := m) (d' := d'.toList) os hat hg (by simp; omega)
    rw [Array.toArray_toList] at hat2 hbut
    have hbl := sortW_below (lo := w.heap.size) (m := m) d' os s1 hgl
    obtain ⟨W, hW⟩ : ∃ W, W = Go.Proofs.sortWorld El.v w1 g 0 m d' os := ⟨_, rfl⟩
    rw [← hW] at hat2 hbut hbl ⊢
    have sW : w1.heap.size ≤ W.heap.size := by rw [hW]; exact (sortW_below (lo := 0) (m := m) d' os (Nat.zero_le _) (Nat.zero_le _)).size
    have HCF := Lib.hid (compF_any d'.toList W hat2 hbut sW hg n (by simp; omega) hn9)
    have HP := Lib.hid hp1
    have HSP := Lib.hid (sorted_pair (d' := d') (by rw [hp2, hdl]; exact hs))
    clear hW hat2 hat hp hs HS HC
    go_wp2_with fail
    refine HCF.out.mono ?_
    rintro e w3 ⟨rfl, hat3, hT⟩
    have hln2 : d'.toList.length = n := by simp; omega
    have hmap : (dedTo El.xs d'.toList n).map El.xs = canon rows := by
      rw [dedTo_map (by omega), List.take_of_length_le (by simp; omega)]
      refine dedup_canon (HSP.out.imp fun h => by omega) fun z => ?_
      rw [← hd]
      exact (HP.out.map El.xs).mem_iff
    have hsub : (dedTo El.xs d'.toList n).Sublist d'.toList := by
      have := dedTo_sub El.xs d'.toList n
      rwa [List.take_of_length_le (by omega)] at this
    have hfp : (fps (dedTo El.xs d'.toList n)).Sublist (fps d'.toList) := fps_sub hsub
    have hfq := fps_perm HP.out
    have hnd2 : (g :: fps d'.toList).Nodup := (List.Perm.nodup_iff (hfq.cons g)).2 hnd
    have key := rows_close (lo := w.heap.size) (hi := w1.heap.size) hat3 (Turn.but hbut sW hT) (hnd2.sublist (hfp.cons_cons g)) (fun k hk => by
      rcases List.mem_cons.1 hk with rfl | hk
      · exact hbd k (by simp)
      · exact hbd k (List.mem_cons_of_mem _ (hfq.mem_iff.1 (hfp.subset hk))))
    rw [hmap] at key
    have hs3 := hT.size
    have HK := Lib.hid (key.mono (Nat.le_refl _) (show w1.heap.size ≤ w3.heap.size by omega))
    have HB := Lib.hid (((z1.trans hbl).trans ((hT.below (by omega)).mono hgl) : Below w.heap.size w w3))
    clear key hmap hsub hfp hfq hnd2 hat3 HCF
    go_wp2_with fail
    go_ret
    exact ⟨_, rfl, HK.out, HB.out⟩

end Go.Proofs.Ytehcjdbljdpmbaa

/- Contracts: groups of a table and their counts, by the program. -/
namespace Go.Proofs.Ytehcjdbljdpmbaa
open Go.RowKit
set_option linter.unusedVariables false
set_option linter.unusedSimpArgs false
set_option synthInstance.maxSize 2000
set_option synthInstance.maxHeartbeats 400000

/-- A row's block lies in the range that is owned. -/
theorem own_blk {α : Type} {t : TypeId} {o : OS α} {lo hi b off n c : Nat} {w : World} {xs : List α} (h : Own (O.slice t o) lo hi w [.slice (some ⟨b, off, none⟩) n c] xs) : lo ≤ b ∧ b < hi := by
  obtain ⟨fp, ⟨v, css, fps, hv, rfl, _, _⟩, _, hb⟩ := h
  simp at hv
  subst hv
  exact hb b (by simp [bl, Value.ownBlock])
/-- A row that has been read stays where only other blocks turn. -/
theorem row_keep {lo hi lo' hi' b off n c j m c' : Nat} {w w' : World} {r : Option Addr} {rows : List (List Int)} {xs : List Int} (h : Own oII lo hi w [.slice (some ⟨b, off, none⟩) n c] rows) (hc : w.cell? ⟨b, off + j, none⟩ = some (.slice r m c')) (hj : j < n) (hx : rows[j]? = some xs)
    (ht : Turn lo' hi' w w') (hd : hi ≤ lo' ∨ hi' ≤ lo) : Ints w' r m xs := by
  have hb := own_blk h
  have hlt := cell_lt hc
  simp only at hlt
  obtain ⟨b1, o1, r1, m1, q1, x1, ha, hc1, hx1, hi1, _⟩ := (rS_sl ((h.turn ht hd).rd reads_II)).row hj
  simp at ha
  obtain ⟨rfl, rfl⟩ := ha
  rw [ht.cell (p := ⟨b, off + j, none⟩) hlt (by simp only []; omega), hc] at hc1
  simp at hc1
  obtain ⟨rfl, rfl, rfl⟩ := hc1
  have := hx1.out
  rw [hx] at this
  obtain rfl := Option.some.inj this
  exact hi1
theorem bulk_sel {rows : List (List Int)} {cols : List Int} (h1 : rows.length ≤ 8) (h2 : cols.length ≤ 3) : bulk_II (selRows rows cols) ≤ 100 := by
  have h3 : sumBy bulk_I (selRows rows cols) ≤ (selRows rows cols).length * 3 := sumBy_bound (fun r hr => by
    simp only [selRows, List.mem_map] at hr
    obtain ⟨x, _, rfl⟩ := hr
    have := sel_len x cols
    unfold bulk_I; omega)
  rw [selRows_len] at h3
  unfold bulk_II
  rw [selRows_len]
  omega
/-- The counts on the way: those of the first j rows, then c, then noughts. -/
def cl (gs all : List (List Int)) (n j c : Nat) : List Int := countsOf (gs.take j) all ++ ((c : Int) :: List.replicate (n - (j + 1)) 0)
theorem cl_start {gs all : List (List Int)} {n j : Nat} (h : j < n) : countsOf (gs.take j) all ++ List.replicate (n - j) 0 = cl gs all n j 0 := by
  rw [cl, show n - j = (n - (j + 1)) + 1 by omega, List.replicate_succ]; rfl
theorem cl_pos {gs all : List (List Int)} {n j : Nat} (hl : gs.length = n) (h : j < n) : (countsOf (gs.take j) all).length = j := by
  rw [countsOf_len, List.length_take]; omega
theorem cl_len {gs all : List (List Int)} {n j c : Nat} (hl : gs.length = n) (h : j < n) : (cl gs all n j c).length = n := by
  rw [cl, List.length_append, cl_pos hl h, List.length_cons, List.length_replicate]; omega
theorem cl_get {gs all : List (List Int)} {n j c : Nat} (hl : gs.length = n) (h : j < n) : (cl gs all n j c)[j]? = some (c : Int) := by
  rw [cl, List.getElem?_append_right (by rw [cl_pos hl h]; exact Nat.le_refl _), cl_pos hl h, Nat.sub_self]; rfl
theorem cl_set {gs all : List (List Int)} {n j c : Nat} (hl : gs.length = n) (h : j < n) : (cl gs all n j c).set j ((c : Int) + 1) = cl gs all n j (c + 1) := by
  rw [cl, List.set_append_right _ _ (by rw [cl_pos hl h]; exact Nat.le_refl _), cl_pos hl h, Nat.sub_self]; simp [cl]
theorem cl_end {gs all : List (List Int)} {g : List Int} {n j : Nat} (hg : gs[j]? = some g) : cl gs all n j (cntRow g all) = countsOf (gs.take (j + 1)) all ++ List.replicate (n - (j + 1)) 0 := by
  rw [cl, countsOf_step hg]; simp

set_option maxRecDepth 100000 in
set_option maxHeartbeats 4000000 in
theorem groups_impl (v : Value) (cs : List Value) (t : DT) (cols : List Int) (w : World) (ht : rT.rep w cs t) (h' : rI.rep w [v] cols) :
    Calls Try.prog 42 #[.agg cs.toArray, v] w fun e w' => ∃ b1 n1 c1 b2 n2 c2, ∃ wm : World, e = .returned (.tuple #[.slice b1 n1 c1, .slice b2 n2 c2]) ∧ Own oII w.heap.size wm.heap.size w' [.slice b1 n1 c1] (grpV t cols) ∧ Own oI wm.heap.size w'.heap.size w' [.slice b2 n2 c2] (grpN t cols) ∧ w.heap.size ≤ wm.heap.size ∧ wm.heap.size ≤ w'.heap.size ∧ Below w.heap.size w w' := by
  obtain ⟨b, m, d, hv⟩ := rI_form h'
  simp at hv; subst hv
  obtain ⟨ub, un, uc, rfl, hs, hi, g1⟩ := rT_open ht
  have i0 := rI_ints h'
  have t0 := rS_sl g1
  have hl := t0.len
  have hn := t0.small
  have hml := i0.len
  have HVT := Lib.hid (fun W (hW : Below w.heap.size w W) => validT_impl _ t W (rT.mono ht hW))
  obtain ⟨s, ar, rows⟩ := t
  simp only at hs hi g1 HVT t0 hl
  have HK : Hid (colsT (s, ar, rows) cols = (colsB ar cols && validT (s, ar, rows))) := Lib.hid rfl
  have HAR : Hid (validT (s, ar, rows) = true → TOk (s, ar, rows)) := Lib.hid TOk.of
  obtain ⟨V, hV⟩ : ∃ V, validT (s, ar, rows) = V := ⟨_, rfl⟩
  rw [hV] at HVT HK HAR
  have HE0 : Hid (colsT (s, ar, rows) cols = false → grpV (s, ar, rows) cols = [] ∧ grpN (s, ar, rows) cols = []) := Lib.hid (fun h => by simp [grpV, grpN, h])
  have HE1 : Hid (colsT (s, ar, rows) cols = true → grpV (s, ar, rows) cols = canon (selRows rows cols) ∧ grpN (s, ar, rows) cols = countsOf (canon (selRows rows cols)) (selRows rows cols)) := Lib.hid (fun h => by simp [grpV, grpN, h, groups])
  clear hV ht h' g1 hs hi
  have hb0 : Below w.heap.size w w := Below.refl _ _
  go_enter Try.func42, Try.ntmps42
  obtain ⟨w1, hw1⟩ : ∃ W, W = w.alloc (.cells #[.string s, .int .i64 ar, .slice ub un uc] 34) := ⟨_, rfl⟩
  have z1 : Below w.heap.size w w1 := by rw [hw1]; exact (Below.refl _ _).alloc (Nat.le_refl _) _
  have s1 : w1.heap.size = w.heap.size + 1 := by rw [hw1]; simp
  have hb1 := on hb0 z1
  have t_0 : w1.cell? ⟨w.heap.size, 0, none⟩ = some (.string s) := by rw [hw1]; exact box_cell (Below.refl _ _) rfl
  have t_1 : w1.cell? ⟨w.heap.size, 1, none⟩ = some (.int .i64 ar) := by rw [hw1]; exact box_cell (Below.refl _ _) rfl
  have t_2 : w1.cell? ⟨w.heap.size, 2, none⟩ = some (.slice ub un uc) := by rw [hw1]; exact box_cell (Below.refl _ _) rfl
  have raw1_t_0 := t_0
  have raw1_t_1 := t_1
  have raw1_t_2 := t_2
  rw [hw1] at raw1_t_0 raw1_t_1 raw1_t_2
  go_wp2_with fail
  rw [← hw1]
  clear hw1
  clear raw1_t_0 raw1_t_1 raw1_t_2
  refine (HVT.out _ hb1).mono ?_
  rintro e w9 ⟨rfl, z9⟩
  have s2 := z9.size
  have hb2 := on hb1 z9
  replace t_0 := (z9.cell (p := ⟨w.heap.size, 0, none⟩) (by simp only []; omega)).trans t_0
  replace t_1 := (z9.cell (p := ⟨w.heap.size, 1, none⟩) (by simp only []; omega)).trans t_1
  replace t_2 := (z9.cell (p := ⟨w.heap.size, 2, none⟩) (by simp only []; omega)).trans t_2
  cases V with
  | false =>
    obtain ⟨hE1, hE2⟩ := HE0.out (by rw [HK.out, Bool.and_false])
    have H1 := Lib.hid hE1
    have H2 := Lib.hid hE2
    clear hE1 hE2
    go_wp2_with fail
    refine bodyPost_ret (v := .tuple #[.slice none 0 0, .slice none 0 0]) (by simp [results, Try.results42, go_sem]) rfl ⟨_, _, _, _, _, _, w, rfl, by rw [H1.out]; exact own_nil_S.mono (Nat.le_refl _) (Nat.le_refl _), by rw [H2.out]; exact own_nil_S.mono (Nat.le_refl _) (by omega), Nat.le_refl _, by omega, hb2⟩
  | true =>
    have hT := HAR.out rfl
    have hA := hT.ar
    have hr8 := hT.len
    simp only at hA hr8
    obtain ⟨N, rfl⟩ : ∃ N : Nat, ar = (N : Int) := ⟨ar.toNat, by omega⟩
    have hco := columnsOk_any b m d cols (N : Int) w9 (i0.below hb2) ⟨by omega, by omega⟩ (by omega)
    have HCL : Hid (colsB (N : Int) cols = true → (cols.length : Int) ≤ (N : Int)) := Lib.hid (colsB_len' (by omega))
    obtain ⟨q, hq⟩ : ∃ q, colsB (N : Int) cols = q := ⟨_, rfl⟩
    rw [hq] at hco HK HCL
    have HCO := Lib.hid hco
    clear hco hq HVT HAR hT
    go_wp2_with fail
    refine HCO.out.mono ?_
    rintro e w' ⟨rfl, rfl⟩
    cases q with
    | false =>
      obtain ⟨hE1, hE2⟩ := HE0.out (by rw [HK.out]; rfl)
      have H1 := Lib.hid hE1
      have H2 := Lib.hid hE2
      clear hE1 hE2
      go_wp2_with fail
      refine bodyPost_ret (v := .tuple #[.slice none 0 0, .slice none 0 0]) (by simp [results, Try.results42, go_sem]) rfl ⟨_, _, _, _, _, _, w, rfl, by rw [H1.out]; exact own_nil_S.mono (Nat.le_refl _) (Nat.le_refl _), by rw [H2.out]; exact own_nil_S.mono (Nat.le_refl _) (by omega), Nat.le_refl _, by omega, hb2⟩
    | true =>
      obtain ⟨hE1, hE2⟩ := HE1.out (by rw [HK.out]; rfl)
      have H1 := Lib.hid hE1
      have H2 := Lib.hid hE2
      have hm3 := HCL.out rfl
      have hm4 : m ≤ 3 := by omega
      have hun8 : un ≤ 8 := by omega
      have HBU := Lib.hid (bulk_sel (rows := rows) (cols := cols) hr8 (by omega))
      have I0 := Lib.hid (fun W (hW : Below w.heap.size w W) => i0.below hW)
      clear hE1 hE2 HE0 HE1 HK HCL HCO hml i0
      obtain ⟨w3, hw3⟩ : ∃ W, W = w9.alloc (.cells #[] 24) := ⟨_, rfl⟩
      have z3 : Below w9.heap.size w9 w3 := by rw [hw3]; exact (Below.refl _ _).alloc (Nat.le_refl _) _
      have s3 : w3.heap.size = w9.heap.size + 1 := by rw [hw3]; simp
      have hb3 := on hb2 z3
      replace t_0 := (z3.cell (p := ⟨w.heap.size, 0, none⟩) (by simp only []; omega)).trans t_0
      replace t_1 := (z3.cell (p := ⟨w.heap.size, 1, none⟩) (by simp only []; omega)).trans t_1
      replace t_2 := (z3.cell (p := ⟨w.heap.size, 2, none⟩) (by simp only []; omega)).trans t_2
      have ho : ∀ S, Acc 24 oI w9.heap.size S w3.heap.size w3 (.slice (some ⟨w9.heap.size, 0, none⟩) 0 0) [] := fun S => by rw [hw3]; exact Acc.empty (by omega) (by first | (simp; done) | (simp; omega))
      have raw3_t_0 := t_0
      have raw3_t_1 := t_1
      have raw3_t_2 := t_2
      rw [hw3] at raw3_t_0 raw3_t_1 raw3_t_2
      go_wp2_with fail
      rw [← hw3]
      clear hw3
      clear raw3_t_0 raw3_t_1 raw3_t_2
      go_loopw [6, 31] (fun v k wr => ∃ j : Nat, j ≤ un ∧ k = .int .i64 j ∧ Acc 24 oI w9.heap.size w3.heap.size wr.heap.size wr v (selRows (rows.take j) cols) ∧ Turn w9.heap.size (w9.heap.size + 1) w3 wr) (fun _ k _ => un - (intOf k).toNat)
      case atStart => exact ⟨0, Nat.zero_le _, rfl, by rw [List.take_zero]; exact (ho _).wide (Nat.le_refl _) (by omega), turn_refl _ _ _⟩
      case round =>
        obtain ⟨j, hj, rfl, hacc, hdr⟩ := hrel
        have hlc := hdr
        clear ho
        have s4 := hdr.size
        have hb4 := hb3.trans ((hdr.below (by omega)).mono (by omega))
        replace t_0 := (hdr.cell (p := ⟨w.heap.size, 0, none⟩) (by simp only []; omega) (by simp only []; omega)).trans t_0
        replace t_1 := (hdr.cell (p := ⟨w.heap.size, 1, none⟩) (by simp only []; omega) (by simp only []; omega)).trans t_1
        replace t_2 := (hdr.cell (p := ⟨w.heap.size, 2, none⟩) (by simp only []; omega) (by simp only []; omega)).trans t_2
        have hlen : (selRows (rows.take j) cols).length ≤ 8 := by rw [selRows_len]; have := List.length_take_le j rows; omega
        by_cases hlt : j < un
        · obtain ⟨b0, o0, r1, m1, q1, x, rfl, hc, hx, hi, hq1, hq2⟩ := t0.row hlt
          have hclt : b0 < w.heap.size := cell_lt hc
          have c0 : wr.cell? ⟨b0, o0 + j, none⟩ = some (.slice r1 m1 q1) := (hb4.cell (p := ⟨b0, o0 + j, none⟩) hclt).trans hc
          have HX := Lib.hid (fun W (hW : Below w.heap.size w W) => hi.below hW)
          have HS := Lib.hid (selRows_step (cs := cols) hx.out)
          clear hc hx hi hl t0
          go_wp2_with fail
          refine (sel_impl _ _ _ _ _ _ x cols _ (HX.out _ hb4) (I0.out _ hb4) (by omega)).mono ?_
          rintro e w8 ⟨ab, nb, cb, rfl, oy, z8⟩
          have s5 := z8.size
          have hb5 := on hb4 z8
          replace t_0 := (z8.cell (p := ⟨w.heap.size, 0, none⟩) (by simp only []; omega)).trans t_0
          replace t_1 := (z8.cell (p := ⟨w.heap.size, 1, none⟩) (by simp only []; omega)).trans t_1
          replace t_2 := (z8.cell (p := ⟨w.heap.size, 2, none⟩) (by simp only []; omega)).trans t_2
          replace hlc := hlc.trans (turn_below z8 (Nat.le_refl _))
          replace hacc := hacc.below z8 (by omega)
          replace c0 := (z8.cell (p := ⟨b0, o0 + j, none⟩) (by simp only []; omega)).trans c0
          have hone : ∀ z ∈ [Value.slice ab nb cb], z.oneCell' = true := by intro z hz; simp at hz; subst hz; rfl
          go_wp2_with ((at_builtin; refine wpList_acc Try.underlying32 infoI rfl (by decide) (by decide) rfl _ _ _ _ [.slice ab nb cb] (sel x cols) hacc oy hone (by omega) (by omega) (by omega) (by omega) hlc rfl (by omega) (by omega) rfl rfl rfl rfl rfl ?_; intro v' w1 hacc' ht' hsz'))
          rw [← HS.out] at hacc'
          go_roundw
          case rel => exact ⟨j + 1, by omega, by go_num, hacc', ht'⟩
          case measure => simp [intOf]; omega
        · obtain rfl : un = j := by omega
          obtain ⟨wl, rfl⟩ : ∃ W, W = wr := ⟨_, rfl⟩
          obtain ⟨ab, an, ac, rfl⟩ := hacc.form3
          rw [List.take_of_length_le (by omega)] at hacc
          have o1 := hacc.own (B := w9.heap.size) (hi' := wl.heap.size) (Nat.le_refl _) (by omega) (by omega)
          obtain ⟨all, hall⟩ : ∃ all, selRows rows cols = all := ⟨_, rfl⟩
          have hal8 : all.length ≤ 8 := by rw [← hall, selRows_len]; omega
          rw [hall] at o1 H1 H2 HBU
          clear hacc hall hlen t0 hl I0
          clear hlc
          go_wp2_with fail
          refine (sorted_any _ all _ (o1.rd reads_II) (by have := HBU.out; omega)).mono ?_
          rintro e wS ⟨u, rfl, o2, zS⟩
          obtain ⟨gb, gn, gc, rfl⟩ := oII_form1 o2
          have s6 := zS.size
          have hb6 := on hb4 zS
          replace t_0 := (zS.cell (p := ⟨w.heap.size, 0, none⟩) (by simp only []; omega)).trans t_0
          replace t_1 := (zS.cell (p := ⟨w.heap.size, 1, none⟩) (by simp only []; omega)).trans t_1
          replace t_2 := (zS.cell (p := ⟨w.heap.size, 2, none⟩) (by simp only []; omega)).trans t_2
          replace o1 := o1.below zS (by omega)
          obtain ⟨gs, hgs⟩ : ∃ gs, canon all = gs := ⟨_, rfl⟩
          have hgl8 : gs.length ≤ 8 := by rw [← hgs]; have := canon_len all; omega
          rw [hgs] at o2 H1 H2
          have hgl := (rS_sl (o2.rd reads_II)).len
          have hal := (rS_sl (o1.rd reads_II)).len
          have HGL := Lib.hid hgl
          have HAL := Lib.hid hal
          have hgn : gn ≤ 8 := by omega
          have han : an ≤ 8 := by omega
          clear hgs hgl hal
          go_wp2_with (at_make; refine wpList_mk _ _ gn (by omega) rfl rfl rfl rfl ?_; intro wM hown zM hzM; have s7 := zM.size; have hb7 := on hb6 zM; replace t_0 := (zM.cell (p := ⟨w.heap.size, 0, none⟩) (by simp only []; omega)).trans t_0; replace t_1 := (zM.cell (p := ⟨w.heap.size, 1, none⟩) (by simp only []; omega)).trans t_1; replace t_2 := (zM.cell (p := ⟨w.heap.size, 2, none⟩) (by simp only []; omega)).trans t_2; replace o1 := o1.below zM (by omega); replace o2 := o2.below zM (by omega))
          have hwM : wM.heap.size = wM.heap.size := rfl
          clear hwM
          have H0 : Hid (List.replicate gn (0 : Int) = countsOf (gs.take 0) all ++ List.replicate (gn - 0) 0) := Lib.hid (by simp [countsOf])
          go_loopw [53] (fun k wr => ∃ j : Nat, j ≤ gn ∧ k = .int .i64 j ∧ wr.ownsRow wS.heap.size 3 1 (.slice (some ⟨wS.heap.size, 0, none⟩) gn gn) gn ((countsOf (gs.take j) all ++ List.replicate (gn - j) 0).map (Value.int .i64)) ∧ Turn wS.heap.size (wS.heap.size + 1) wM wr) (fun k _ => gn - (intOf k).toNat)
          case atStart => exact ⟨0, Nat.zero_le _, rfl, by rw [← H0.out]; exact hown, turn_refl _ _ _⟩
          case round =>
            obtain ⟨j, hj, rfl, hcl, hdr⟩ := hrel
            have hlc := hdr
            obtain ⟨wo, rfl⟩ : ∃ W, W = wr := ⟨_, rfl⟩
            clear hown H0
            have s8 := hdr.size
            have hb8 := hb7.trans ((hdr.below (by omega)).mono (by omega))
            replace t_0 := (hdr.cell (p := ⟨w.heap.size, 0, none⟩) (by simp only []; omega) (by simp only []; omega)).trans t_0
            replace t_1 := (hdr.cell (p := ⟨w.heap.size, 1, none⟩) (by simp only []; omega) (by simp only []; omega)).trans t_1
            replace t_2 := (hdr.cell (p := ⟨w.heap.size, 2, none⟩) (by simp only []; omega) (by simp only []; omega)).trans t_2
            replace o1 := o1.turn hdr (by omega)
            replace o2 := o2.turn hdr (by omega)
            by_cases hlt : j < gn
            · obtain ⟨b0, o0, r1, m1, q1, g, rfl, hc, hx, hig, _, _⟩ := (rS_sl (o2.rd reads_II)).row hlt
              have c0 : wo.cell? ⟨b0, o0 + j, none⟩ = some (.slice r1 m1 q1) := hc
              have o2b := o2
              have hb0r := (own_blk o2).2
              have hb0lt := cell_lt hc
              simp only at hb0lt
              have hkg := fun (W : World) (hW : Turn wS.heap.size (wS.heap.size + 1) wo W) => row_keep o2b hc hlt hx.out hW (by omega)
              have HKG := Lib.hid hkg
              have HEND := Lib.hid (cl_end (all := all) (n := gn) hx.out)
              rw [cl_start hlt] at hcl
              have HST : Hid (0 = cntRow g (all.take 0)) := Lib.hid (by simp [cntRow])
              clear hkg o2b hc hx hig
              go_wp2_with fail
              go_loopw [60] (fun k wr => ∃ i c : Nat, i ≤ an ∧ k = .int .i64 i ∧ Hid (c = cntRow g (all.take i)) ∧ c ≤ i ∧ wr.ownsRow wS.heap.size 3 1 (.slice (some ⟨wS.heap.size, 0, none⟩) gn gn) gn ((cl gs all gn j c).map (Value.int .i64)) ∧ Turn wS.heap.size (wS.heap.size + 1) wM wr ∧ Turn wS.heap.size (wS.heap.size + 1) wo wr) (fun k _ => an - (intOf k).toNat)
              case atStart => exact ⟨0, 0, Nat.zero_le _, rfl, HST.out, Nat.le_refl _, hcl, hlc, turn_refl _ _ _⟩
              case round =>
                obtain ⟨i, c, hi, rfl, hC, hci, hcl2, hdr2, hdr3⟩ := hrel
                clear hcl HST
                have s9 := hdr3.size
                have hb9 := hb8.trans ((hdr3.below (by omega)).mono (by omega))
                replace t_0 := (hdr3.cell (p := ⟨w.heap.size, 0, none⟩) (by simp only []; omega) (by simp only []; omega)).trans t_0
                replace t_1 := (hdr3.cell (p := ⟨w.heap.size, 1, none⟩) (by simp only []; omega) (by simp only []; omega)).trans t_1
                replace t_2 := (hdr3.cell (p := ⟨w.heap.size, 2, none⟩) (by simp only []; omega) (by simp only []; omega)).trans t_2
                replace o1 := o1.turn hdr3 (by omega)
                replace o2 := o2.turn hdr3 (by omega)
                replace c0 := (hdr3.cell (p := ⟨b0, o0 + j, none⟩) (by simp only []; omega) (by simp only []; omega)).trans c0
                by_cases hlti : i < an
                · obtain ⟨b3, o3, r3, m3, q3, x, rfl, hc3, hx3, hix, _, _⟩ := (rS_sl (o1.rd reads_II)).row hlti
                  have c3 := hc3
                  have hb3lt := cell_lt hc3
                  simp only at hb3lt
                  have hb3r := (own_blk o1).2
                  have hc8 : c ≤ 8 := by omega
                  obtain ⟨t, htt⟩ : ∃ t, decide (g = x) = t := ⟨_, rfl⟩
                  have hce := equalInts r1 r3 m1 m3 q1 q3 g x wr (HKG.out wr hdr3) hix
                  rw [htt] at hce
                  have HCE := Lib.hid hce
                  have HCT := Lib.hid (cntRow_take (g := g) hx3.out)
                  have HIX : Hid (cntRow g (all.take (i + 1)) = c + (if x = g then 1 else 0)) := Lib.hid (by rw [HCT.out, ← hC.out])
                  clear hce hc3 hx3 hix hC HCT
                  cases t with
                  | false =>
                    have HN : Hid (c = cntRow g (all.take (i + 1))) := Lib.hid (by rw [HIX.out, if_neg (fun h => by rw [h] at htt; simp at htt)]; rfl)
                    clear htt HIX
                    go_wp2_with fail
                    refine (HCE.out).mono ?_
                    rintro e w10 ⟨rfl, z10⟩
                    replace z10 : Below wr.heap.size wr w10 := z10.below _
                    have s11 := z10.size
                    have hb11 := on hb9 z10
                    replace t_0 := (z10.cell (p := ⟨w.heap.size, 0, none⟩) (by simp only []; omega)).trans t_0
                    replace t_1 := (z10.cell (p := ⟨w.heap.size, 1, none⟩) (by simp only []; omega)).trans t_1
                    replace t_2 := (z10.cell (p := ⟨w.heap.size, 2, none⟩) (by simp only []; omega)).trans t_2
                    replace o1 := o1.below z10 (by omega)
                    replace o2 := o2.below z10 (by omega)
                    replace c0 := (z10.cell (p := ⟨b0, o0 + j, none⟩) (by simp only []; omega)).trans c0
                    replace c3 := (z10.cell (p := ⟨b3, o3 + i, none⟩) (by simp only []; omega)).trans c3
                    have HR := Lib.hid (own_below hcl2 z10 (Nat.le_refl _))
                    replace hdr2 := hdr2.trans (turn_below z10 (Nat.le_refl _))
                    replace hdr3 := hdr3.trans (turn_below z10 (Nat.le_refl _))
                    clear hcl2
                    go_wp2_with fail
                    go_roundw
                    case rel => exact ⟨i + 1, c, by omega, by go_num, HN.out, by omega, HR.out, hdr2, hdr3⟩
                    case measure => simp [intOf]; omega
                  | true =>
                    have HN : Hid (c + 1 = cntRow g (all.take (i + 1))) := Lib.hid (by rw [HIX.out, if_pos (of_decide_eq_true htt).symm])
                    clear htt HIX
                    go_wp2_with fail
                    refine (HCE.out).mono ?_
                    rintro e w12 ⟨rfl, z12⟩
                    replace z12 : Below wr.heap.size wr w12 := z12.below _
                    have s13 := z12.size
                    have hb13 := on hb9 z12
                    replace t_0 := (z12.cell (p := ⟨w.heap.size, 0, none⟩) (by simp only []; omega)).trans t_0
                    replace t_1 := (z12.cell (p := ⟨w.heap.size, 1, none⟩) (by simp only []; omega)).trans t_1
                    replace t_2 := (z12.cell (p := ⟨w.heap.size, 2, none⟩) (by simp only []; omega)).trans t_2
                    replace o1 := o1.below z12 (by omega)
                    replace o2 := o2.below z12 (by omega)
                    replace c0 := (z12.cell (p := ⟨b0, o0 + j, none⟩) (by simp only []; omega)).trans c0
                    replace c3 := (z12.cell (p := ⟨b3, o3 + i, none⟩) (by simp only []; omega)).trans c3
                    have hcl3 := own_below hcl2 z12 (Nat.le_refl _)
                    replace hdr2 := hdr2.trans (turn_below z12 (Nat.le_refl _))
                    replace hdr3 := hdr3.trans (turn_below z12 (Nat.le_refl _))
                    clear hcl2
                    have cj : w12.cell? ⟨wS.heap.size, j, none⟩ = some (.int .i64 (c : Int)) := by
                      rw [hcl3.cellAt j (by omega), List.getElem?_map, cl_get HGL.out hlt]; rfl
                    have hfz := hcl3.frozenAt j
                    have HR : Hid ((w12.setCell ⟨wS.heap.size, j, none⟩ (.int .i64 ((c : Int) + 1))).ownsRow wS.heap.size 3 1 (.slice (some ⟨wS.heap.size, 0, none⟩) gn gn) gn ((cl gs all gn j (c + 1)).map (Value.int .i64))) := Lib.hid (by
                      have h9 := (hcl3.stored j (.int .i64 ((c : Int) + 1))).1
                      rw [← cl_set HGL.out hlt, List.map_set]; exact h9)
                    clear hcl3
                    go_wp2_with fail
                    go_roundw
                    case rel => exact ⟨i + 1, c + 1, by omega, by go_num, HN.out, by omega, HR.out, hdr2.setIn (p := ⟨wS.heap.size, j, none⟩) (Nat.le_refl _) (Nat.lt_succ_self _) _, hdr3.setIn (p := ⟨wS.heap.size, j, none⟩) (Nat.le_refl _) (Nat.lt_succ_self _) _⟩
                    case measure => simp [intOf]; omega
                · have HN : Hid (cl gs all gn j c = countsOf (gs.take (j + 1)) all ++ List.replicate (gn - (j + 1)) 0) := Lib.hid (by
                    rw [hC.out, List.take_of_length_le (by have := HAL.out; omega), HEND.out])
                  rw [HN.out] at hcl2
                  have HR := Lib.hid hcl2
                  clear hcl2 hC
                  go_wp2_with fail
                  go_roundw
                  case rel => exact ⟨j + 1, by omega, by go_num, HR.out, hdr2⟩
                  case measure => simp [intOf]; omega
            · have hjn : j = gn := by omega
              have e : countsOf (gs.take j) all ++ List.replicate (gn - j) 0 = countsOf gs all := by
                rw [List.take_of_length_le (by have := HGL.out; omega), show gn - j = 0 by omega]; simp
              rw [e] at hcl
              have HO : Hid (OwnInts wS.heap.size wo (.slice (some ⟨wS.heap.size, 0, none⟩) gn gn) gn (countsOf gs all)) := Lib.hid ⟨by rw [countsOf_len]; exact HGL.out, hcl, fun y hy => by
                simp only [countsOf, List.mem_map] at hy
                obtain ⟨z, _, rfl⟩ := hy
                have := cntRow_le z all
                exact ⟨by omega, by omega⟩⟩
              have HO2 := Lib.hid (o2.mono (lo' := w.heap.size) (hi' := wS.heap.size) (by omega) (by omega))
              clear hcl e o2 o1
              go_wp2_with fail
              refine bodyPost_ret (v := .tuple #[.slice gb gn gc, .slice (some ⟨wS.heap.size, 0, none⟩) gn gn]) (by simp [results, Try.results42, go_sem]) rfl ⟨_, _, _, _, _, _, wS, rfl, by rw [H1.out]; exact HO2.out, by rw [H2.out]; exact HO.out.own, by omega, by omega, hb8⟩

end Go.Proofs.Ytehcjdbljdpmbaa
