/- Texts joined for one claim: RowMem, Sel, ValidQ, CompF, CopyS, EvalP, MDb, MQ, MaskP, ODb, Two. -/
import Derived.Test.YtkipgbgkhffkkaaGreatQ673b674ffb
import Derived.Shelf.SlSortCmp.Whole1
import Derived.Deep.RegionHeld3
import Derived.Lib.SliceRun

/- Rows in memory, as the library's sort takes them: elements of one cell, each with its ints and its blocks. -/
namespace Go.Proofs.YtkipgbgkhffkkaaGreat
open Go.RowKit Go.Sort
set_option linter.unusedVariables false
set_option linter.unusedSimpArgs false

/-- An element of rows in block g: its cell, its ints, its blocks. -/
structure El (w : World) (g : Nat) where
  v : Value
  xs : List Int
  fp : List Nat
  rep : oI.rep w [v] xs fp
  off : g ∉ fp
def El.none (w : World) (g : Nat) : El w g := ⟨.slice .none 0 0, [], [], ⟨_, [], [], rfl, by simp [bl, Value.ownBlock], World.ownsRow_nil _ _ _ _, trivial⟩, by simp⟩
instance (w : World) (g : Nat) : Inhabited (El w g) := ⟨El.none w g⟩
theorem El.one {w : World} {g : Nat} (x : El w g) : x.v.oneCell' = true := by
  obtain ⟨a, cap, h, _⟩ := oI_own x.rep
  simp at h
  rw [h]; rfl
theorem El.form {w : World} {g : Nat} (x : El w g) : ∃ a cap, x.v = .slice a x.xs.length cap := by
  obtain ⟨a, cap, h, _⟩ := oI_own x.rep
  simp at h
  exact ⟨a, cap, h⟩
theorem El.lt {w : World} {g : Nat} (x : El w g) : ∀ k ∈ x.fp, k < w.heap.size := oI.lt x.rep
/-- All blocks of elements. -/
def fps {w : World} {g : Nat} (d : List (El w g)) : List Nat := (d.map El.fp).flatten
/-- Block g's cells begin with these. -/
structure At (g c : Nat) (w' : World) (vs : List Value) : Prop where
  ex : ∃ cur, w'.heap[g]? = some (.cells cur 30 (0, 0)) ∧ cur.size = c ∧ cur.toList.take vs.length = vs
  le : vs.length ≤ c
  cap : c ≤ maxLen
/-- All blocks but g are as they were in w. -/
def But (g : Nat) (w w' : World) : Prop := ∀ k, k ≠ g → k < w.heap.size → w'.heap[k]? = w.heap[k]?
theorem But.refl (g : Nat) (w : World) : But g w w := fun _ _ _ => rfl
theorem But.trans {g : Nat} {a b c : World} (h : But g a b) (k : But g b c) (hs : a.heap.size ≤ b.heap.size) : But g a c := fun i h1 h2 => (k i h1 (by omega)).trans (h i h1 h2)
theorem But.rep {w w' : World} {g : Nat} (h : But g w w') (x : El w g) : oI.rep w' [x.v] x.xs x.fp :=
  oI.frame x.rep fun k hk => h k (fun e => x.off (e ▸ hk)) (x.lt k hk)
theorem At.holds {w w' : World} {g c : Nat} {d : List (El w g)} (h : At g c w' (d.map El.v)) : Holds El.v w' g 0 d.toArray := by
  obtain ⟨cur, hb, hs, ht⟩ := h.ex
  have hle := h.le
  simp only [List.length_map] at ht hle
  intro j hj
  simp only [List.size_toArray] at hj
  have hv : cur[j]? = some ((d[j]'hj).v) := by
    have h1 : (cur.toList.take d.length)[j]? = some ((d[j]'hj).v) := by rw [ht]; simp [hj]
    rw [List.getElem?_take_of_lt hj] at h1
    simpa using h1
  have e : d.toArray[j]! = d[j]'hj := by simp [hj]
  rw [e]
  refine ⟨?_, ?_⟩
  · simp only [World.cell?, hb, Nat.zero_add]
    exact hv
  · simp only [World.frozen?, hb]
    simp
/-- Rows of one's own, opened. -/
theorem rows_open {lo hi g n c : Nat} {w : World} {rows : List (List Int)} (h : Own oII lo hi w [.slice (some ⟨g, 0, .none⟩) n c] rows) :
    ∃ d : List (El w g), d.map El.xs = rows ∧ d.length = n ∧ At g c w (d.map El.v) ∧ g < w.heap.size ∧ (g :: fps d).Nodup ∧ ∀ k ∈ g :: fps d, lo ≤ k ∧ k < hi := by
  obtain ⟨fp, ⟨v, css, fs, hv, rfl, h1, h2⟩, hn, hb⟩ := h
  simp only [List.cons.injEq, and_true] at hv
  subst hv
  have hbl : bl (.slice (some ⟨g, 0, .none⟩) n c) = [g] := rfl
  rw [hbl] at hn hb
  have hgs := h1.lt g rfl
  obtain ⟨hlen, hor⟩ := h1
  rcases hor with ⟨h9, _⟩ | ⟨g', cap, cur, hv', _, hg, hnc, hcm, hcs, htk⟩
  · simp at h9
  simp at hv'
  obtain ⟨rfl, rfl, rfl⟩ := hv'
  have key : ∀ (css : List (List Value)) (xs : List (List Int)) (fs : List (List Nat)), oI.rows w css xs fs → g ∉ fs.flatten →
      ∃ d : List (El w g), d.map El.xs = xs ∧ d.map El.fp = fs ∧ d.map El.v = css.flatten := by
    intro css
    induction css with
    | nil =>
      intro xs fs h _
      match xs, fs, h with
      | [], [], _ => exact ⟨[], rfl, rfl, rfl⟩
    | cons c cs ih =>
      intro xs fs h hg
      match xs, fs, h with
      | x :: xs, f :: fs, h =>
        simp only [List.flatten_cons, List.mem_append, not_or] at hg
        obtain ⟨d, h1, h2, h3⟩ := ih xs fs h.2 hg.2
        obtain ⟨a, cap, rfl, _⟩ := oI_own h.1
        exact ⟨⟨_, x, f, h.1, hg.1⟩ :: d, by simp [h1], by simp [h2], by simp [h3]⟩
  obtain ⟨d, h1', h2', h3'⟩ := key css rows fs h2 (fun hm => (List.nodup_append.1 hn).2.2 g (by simp) g hm rfl)
  have hdl : d.length = rows.length := by rw [← h1']; simp
  refine ⟨d, h1', hdl, ⟨⟨cur, hg, by simpa [oI, O.slice] using hcs, ?_⟩, by simp [hdl]; exact hnc, hcm⟩, hgs.2, by unfold fps; rw [h2']; simpa using hn, by unfold fps; rw [h2']; simpa using hb⟩
  rw [h3'] 
  have e : css.flatten.length = rows.length * 1 := by simpa [oI, O.slice] using hlen
  rw [e]
  simpa [oI, O.slice] using htk
/-- Rows of one's own, closed. -/
theorem rows_close {lo hi g c : Nat} {w w' : World} {d : List (El w g)} (ha : At g c w' (d.map El.v)) (hb : But g w w') (hn : (g :: fps d).Nodup) (hr : ∀ k ∈ g :: fps d, lo ≤ k ∧ k < hi) :
    Own oII lo hi w' [.slice (some ⟨g, 0, .none⟩) d.length c] (d.map El.xs) := by
  refine ⟨g :: fps d, ⟨_, d.map fun x => [x.v], d.map El.fp, rfl, rfl, ?_, ?_⟩, hn, hr⟩
  · obtain ⟨cur, h1, h2, h3⟩ := ha.ex
    have hle := ha.le
    simp only [List.length_map] at h3 hle
    have e : (d.map fun x => [x.v]).flatten = d.map El.v := by
      clear h3 ha hn hr hle
      induction d with
      | nil => rfl
      | cons x t ih => simp [ih]
    rw [e]
    refine ⟨by simp [oI, O.slice], .inr ⟨g, c, cur, by simp, Nat.zero_le _, h1, by simpa using hle, ha.cap, by simpa [oI, O.slice] using h2, by simpa [oI, O.slice] using h3⟩⟩
  · clear ha hn hr
    induction d with
    | nil => trivial
    | cons x t ih => exact ⟨hb.rep x, ih⟩
/-- The row laid anew. -/
theorem At.put {w w1 : World} {g c : Nat} {d d' : List (El w g)} (h : At g c w1 (d.map El.v)) (hl : d'.length = d.length) : At g c (putRow El.v w1 g 0 d'.toArray) (d'.map El.v) := by
  obtain ⟨cur, hb, hs, ht⟩ := h.ex
  have hle := h.le
  simp only [List.length_map] at ht hle
  refine ⟨⟨putCells El.v 0 d'.toArray cur, ?_, by simp [putCells, hs], ?_⟩, by simp; omega, h.cap⟩
  · simp only [putRow, mapBlock, Array.getElem?_modify, if_true, hb, Option.map_some, onCells]
  · apply List.ext_getElem?
    intro j
    by_cases hj : j < d'.length
    · have hjc : j < cur.size := by omega
      rw [List.length_map, List.getElem?_take_of_lt hj]
      simp [putCells, Array.getElem?_mapIdx, hj, hjc]
    · rw [List.getElem?_eq_none (by simp; omega), List.getElem?_eq_none (by simp; omega)]
theorem But.put {w w1 : World} {g : Nat} {d' : List (El w g)} (h : But g w w1) : But g w (putRow El.v w1 g 0 d'.toArray) := fun k hk hs => by
  rw [← h k hk hs]
  simp only [putRow, mapBlock, Array.getElem?_modify]
  rw [if_neg (Ne.symm hk)]
theorem At.grow {g c : Nat} {w1 : World} {vs : List Value} (h : At g c w1 vs) (hg : g < w1.heap.size) (os : Array Obj) : At g c (grow w1 os) vs := by
  obtain ⟨cur, hb, hs, ht⟩ := h.ex
  exact ⟨⟨cur, by rw [heap_grow_old w1 os hg]; exact hb, hs, ht⟩, h.le, h.cap⟩
theorem But.grow {g : Nat} {w w1 : World} (h : But g w w1) (hs : w.heap.size ≤ w1.heap.size) (os : Array Obj) : But g w (grow w1 os) := fun k hk h2 => by
  rw [heap_grow_old w1 os (by omega)]; exact h k hk h2
theorem At.sort {w : World} {g c n : Nat} {d : List (El w g)} {d' : List (El w g)} (os : Array Obj) (h : At g c w (d.map El.v)) (hg : g < w.heap.size) (hl : d'.length = d.length) :
    At g c (Go.Proofs.sortWorld El.v w g 0 n d'.toArray os) (d'.map El.v) ∧ But g w (Go.Proofs.sortWorld El.v w g 0 n d'.toArray os) := by
  have h1 : At g c (Go.Sort.ahead w n) (d.map El.v) := ⟨h.ex, h.le, h.cap⟩
  exact ⟨(h1.put hl).grow (by rw [size_putRow]; exact hg) os, (But.put (w1 := Go.Sort.ahead w n) (But.refl g w)).grow (by rw [size_putRow]; exact Nat.le_refl _) os⟩
theorem fps_perm {w : World} {g : Nat} {d d' : List (El w g)} (h : d'.Perm d) : (fps d').Perm (fps d) := (h.map _).flatten
theorem fps_sub {w : World} {g : Nat} {d d' : List (El w g)} (h : d'.Sublist d) : (fps d').Sublist (fps d) := by
  induction h with
  | slnil => exact List.Sublist.refl _
  | cons x _ ih => exact ih.trans (List.sublist_append_right x.fp _)
  | cons_cons x _ ih => exact (List.Sublist.refl x.fp).append ih
/-- Sorted in the order of their ints. -/
def cfE {w : World} {g : Nat} (x y : El w g) : Int := cmpRows x.xs y.xs
theorem swoE (w : World) (g : Nat) : SWO (Go.Proofs.ltOf (cfE (w := w) (g := g))) where
  irrefl x := by simp [Go.Proofs.ltOf, cfE, cmpRows_self]
  trans x y z h1 h2 := decide_eq_true (cmpRows_lt_trans (of_decide_eq_true h1) (of_decide_eq_true h2))
  ntrans x y z h1 h2 := by
    refine decide_eq_false fun h3 => ?_
    have h1' := of_decide_eq_false h1
    have h2' := of_decide_eq_false h2
    simp only [cfE] at h1' h2' h3
    rcases Int.lt_trichotomy (cmpRows x.xs y.xs) 0 with h | h | h
    · exact h1' h
    · have := (cmpRows_zero _ _).1 h
      rw [this] at h3; exact h2' h3
    · have hyx := cmpRows_gt_iff.1 h
      exact h2' (cmpRows_lt_trans hyx h3)
theorem sorted_pair {w : World} {g : Nat} {d' : Array (El w g)} (h : SortedIn (Go.Proofs.ltOf cfE) 0 d'.size d') : (d'.toList.map El.xs).Pairwise (fun a b => ¬ cmpRows b a < 0) := by
  rw [List.pairwise_map, List.pairwise_iff_getElem]
  intro i j hi hj hij
  simp only [Array.length_toList] at hi hj
  have h1 := h i j (Nat.zero_le _) hij hj
  rw [getElem!_pos d' i hi, getElem!_pos d' j hj] at h1
  exact of_decide_eq_false h1
theorem permIn_all {w : World} {g : Nat} {d : List (El w g)} {d' : Array (El w g)} (h : PermIn 0 d.toArray.size d.toArray d') : d'.toList.Perm d ∧ d'.size = d.length := by
  obtain ⟨h1, _, h3⟩ := h
  simp only [List.size_toArray] at h1 h3
  refine ⟨?_, h1⟩
  have e1 : d'.extract 0 d.length = d' := by rw [← h1]; exact Array.extract_size
  have e2 : (d.toArray.extract 0 d.length).toList = d := by simp
  rw [e1, e2] at h3
  exact h3

end Go.Proofs.YtkipgbgkhffkkaaGreat

/- Contracts: columns selected from a row. -/
namespace Go.Proofs.YtkipgbgkhffkkaaGreat
open Go.RowKit
set_option linter.unusedVariables false
set_option linter.unusedSimpArgs false
set_option synthInstance.maxSize 2000
set_option synthInstance.maxHeartbeats 400000

/-- Whether columns are columns of a row. -/
def selOk (row cols : List Int) : Bool := cols.all (fun c => betw c 0 ((row.length : Int) - 1))
/-- The values of a row at columns. -/
def selAt (row cols : List Int) : List Int := cols.map (fun c => row.getD c.toNat 0)
def sel (row cols : List Int) : List Int := if selOk row cols then selAt row cols else []
theorem selAt_len (row cols : List Int) : (selAt row cols).length = cols.length := by simp [selAt]
theorem sel_len (row cols : List Int) : (sel row cols).length ≤ cols.length := by
  unfold sel; split <;> simp [selAt]
theorem selAt_step {row cols : List Int} {j : Nat} {c : Nat} {x : Int} (hj : j < cols.length) (hc : cols.getD j 0 = (c : Int)) (hx : row.getD c 0 = x) : selAt row (cols.take (j + 1)) = selAt row (cols.take j) ++ [x] := by
  rw [take_snoc cols j hj, hc]; simp only [selAt, List.map_append, List.map_cons, List.map_nil, Int.toNat_natCast, hx]
theorem selOk_no {row cols : List Int} {j : Nat} {x : Int} (hj : j < cols.length) (hc : cols.getD j 0 = x) (hb : betw x 0 ((row.length : Int) - 1) = false) : selOk row cols = false := by
  rw [selOk, List.all_eq_false]
  refine ⟨x, ?_, by rw [hb]; simp⟩
  rw [← hc, List.getD_eq_getElem?_getD, List.getElem?_eq_getElem hj]
  exact List.getElem_mem hj
theorem selOk_at {row cols : List Int} {j : Nat} {x : Int} (hj : j < cols.length) (hc : cols.getD j 0 = x) : selOk row (cols.drop j) = (betw x 0 ((row.length : Int) - 1) && selOk row (cols.drop (j + 1))) := by
  rw [drop_cons cols j hj, hc]; rfl
theorem selOk_end {row cols : List Int} {j : Nat} (hj : cols.length ≤ j) : selOk row (cols.drop j) = true := by
  rw [List.drop_eq_nil_of_le hj]; rfl
theorem I64.nat {x : Int} (h : betw x 0 9223372036854775806 = true) : ∃ c : Nat, x = (c : Int) := by
  refine ⟨x.toNat, ?_⟩
  simp only [betw, Bool.and_eq_true, decide_eq_true_eq] at h; omega
theorem betw_nat {x m : Int} (h : betw x 0 m = true) : ∃ c : Nat, x = (c : Int) ∧ (c : Int) ≤ m := by
  simp only [betw, Bool.and_eq_true, decide_eq_true_eq] at h
  exact ⟨x.toNat, by omega, by omega⟩

set_option maxHeartbeats 2000000 in
theorem sel_impl (a b : Option Addr) (n m cap cap' : Nat) (row cols : List Int) (w : World) (h : Ints w a n row) (h' : Ints w b m cols) (hm : m ≤ 1048576) :
    Calls Tryz.prog 90 #[.slice a n cap, .slice b m cap'] w fun e w' => ∃ vb vn vc, e = .returned (.tuple #[.slice vb vn vc, .bool (selOk row cols)]) ∧ Own oI w.heap.size w'.heap.size w' [.slice vb vn vc] (sel row cols) ∧ Below w.heap.size w w' := by
  have hl := h.len
  have hl' := h'.len
  have hn := h.small
  have hn' := h'.small
  have HV : Hid (selOk row cols = selOk row (cols.drop 0)) := Lib.hid (by simp)
  have hwn : IntKind.i64.wrap ((n : Int) - 1) = (n : Int) - 1 := IntWalk.i64_in _ (by omega)
  have hb0 : Below w.heap.size w w := Below.refl _ _
  go_enter Tryz.func90, Tryz.ntmps90
  obtain ⟨w1, hw1⟩ : ∃ W, W = w.alloc (.cells #[] 3) := ⟨_, rfl⟩
  have z1 : Below w.heap.size w w1 := by rw [hw1]; exact (Below.refl _ _).alloc (Nat.le_refl _) _
  have s1 : w1.heap.size = w.heap.size + 1 := by rw [hw1]; simp
  have hb1 := on hb0 z1
  have ho : ∀ S, Acc 3 O.int w.heap.size S w1.heap.size w1 (.slice (some ⟨w.heap.size, 0, none⟩) 0 0) [] := fun S => by rw [hw1]; exact Acc.empty (by omega) (by first | (simp; done) | (simp; omega))
  go_wp2_with fail
  rw [← hw1]
  clear hw1
  go_loopw [6, 12] (fun v i wr => ∃ j : Nat, j ≤ m ∧ i = .int .i64 j ∧ Hid (selOk row cols = selOk row (cols.drop j)) ∧ Acc 3 O.int w.heap.size w1.heap.size wr.heap.size wr v (selAt row (cols.take j)) ∧ Turn w.heap.size (w.heap.size + 1) w1 wr) (fun _ i _ => m - (intOf i).toNat)
  case atStart => exact ⟨0, Nat.zero_le _, rfl, HV.out, by rw [List.take_zero]; exact (ho _).wide (Nat.le_refl _) (by omega), turn_refl _ _ _⟩
  case round =>
    obtain ⟨j, hj, rfl, hE, hacc, hdr⟩ := hrel
    have hlc := hdr
    have s2 := hdr.size
    have hb2 := hb1.trans ((hdr.below (by omega)).mono (by omega))
    have hbl : (selAt row (cols.take j)).length ≤ 1048576 := by rw [selAt_len]; have h2 : (cols.take j).length ≤ j := List.length_take_le _ _; omega
    by_cases hlt : j < m
    · obtain ⟨b1, o1, x, rfl, hc, hx, _, _⟩ := h'.get hlt
      have c0_lt : b1 < w.heap.size := cell_lt hc
      have c0 : wr.cell? ⟨b1, o1 + j, none⟩ = some (.int .i64 x) := (hb2.cell (p := ⟨b1, o1 + j, none⟩) c0_lt).trans hc
      have hcall := fun W => within_any x 0 ((n : Int) - 1) W
      by_cases hb : betw x 0 ((n : Int) - 1) = true
      case neg =>
        replace hb : betw x 0 ((n : Int) - 1) = false := by simpa using hb
        have HE := Lib.hid (selOk_no (row := row) (by omega) hx.out (by rw [hl]; exact hb))
        rw [hb] at hcall
        have HC := Lib.hid hcall
        have HS := Lib.hid (show sel row cols = [] by simp [sel, HE.out])
        clear h h' hb hcall hE HV hl hl' ho hx hc hacc
        go_wp2_with fail
        refine (HC.out _).mono ?_
        rintro e w' ⟨rfl, rfl⟩
        go_wp2_with fail
        refine bodyPost_ret (v := .tuple #[.slice none 0 0, .bool false]) (by simp [results, Tryz.results90, go_sem]) rfl ⟨_, _, _, by rw [HE.out], by rw [HS.out]; exact own_nil_S.mono (Nat.le_refl _) (by omega), hb2⟩
      obtain ⟨c, rfl, hcn⟩ := betw_nat hb
      rw [hb] at hcall
      have HC := Lib.hid hcall
      obtain ⟨b2, o2, y, rfl, hcy, hy, hy1, hy2⟩ := h.get (show c < n by omega)
      have cy_lt : b2 < w.heap.size := cell_lt hcy
      have cy : wr.cell? ⟨b2, o2 + c, none⟩ = some (.int .i64 y) := (hb2.cell (p := ⟨b2, o2 + c, none⟩) cy_lt).trans hcy
      have HB := Lib.hid (selAt_step (show j < cols.length by omega) hx.out hy.out)
      have HE : Hid (selOk row cols = selOk row (cols.drop (j + 1))) := Lib.hid (by rw [hE.out, selOk_at (by omega) hx.out, hl, hb]; rfl)
      clear h h' hb hcall hE HV hl hl' ho hx hc hy hcy
      go_wp2_with (first
        | (go_at_call 57; refine (HC.out _).mono ?_; rintro e w' ⟨rfl, rfl⟩)
        | (at_builtin; refine wpList_accI _ _ _ _ _ hacc hlc rfl (by omega) (Nat.le_refl _) ⟨by omega, by omega⟩ (by omega) rfl rfl rfl rfl rfl ?_; intro v' w1 hacc' ht' hsz'))
      rw [← HB.out] at hacc'
      go_roundw
      case rel => exact ⟨j + 1, by omega, by go_num, HE.out, hacc', ht'⟩
      case measure => simp [intOf]; omega
    · obtain rfl : j = m := by omega
      have HE : Hid (selOk row cols = true) := Lib.hid (by rw [hE.out, selOk_end (by omega)])
      have HS := Lib.hid (show sel row cols = selAt row cols by simp [sel, HE.out])
      rw [List.take_of_length_le (by omega), ← HS.out] at hacc
      obtain ⟨a', n', cap2, rfl⟩ := hacc.form3
      have HO := Lib.hid (hacc.own (B := w.heap.size) (by omega) (by omega) (Nat.le_refl _))
      clear hacc h h' hl hl' ho hE HV
      go_wp2_with fail
      refine bodyPost_ret (v := .tuple #[.slice a' n' cap2, .bool true]) (by simp [results, Tryz.results90, go_sem]) rfl ⟨_, _, _, by rw [HE.out], HO.out, hb2⟩


end Go.Proofs.YtkipgbgkhffkkaaGreat

/- Contracts: whether a query is valid. -/
namespace Go.Proofs.YtkipgbgkhffkkaaGreat
open Go.RowKit
set_option linter.unusedVariables false
set_option linter.unusedSimpArgs false

/-- Variables as bits, laid over some. -/
def vbits (m : Nat) : List Int → Nat
  | [] => m
  | v :: t => vbits (m ||| 2 ^ v.toNat) t
def varsFrom (n : Int) (pre : List Int) : List Int → Bool
  | [] => true
  | v :: t => betw v 0 (n - 1) && !has pre v && varsFrom n (pre ++ [v]) t
def validFrom (n m : Nat) : List DA → Bool
  | [] => decide (m = 2 ^ n - 1)
  | a :: t => nameB a.1 && betw a.2.length 1 3 && (varsFrom n [] a.2 && validFrom n (vbits m a.2) t)
/-- Whether a query is valid. -/
def validQ (q : DQ) : Bool := betw q.1 1 4 && betw q.2.length 1 4 && validFrom q.1.toNat 0 q.2

theorem validQ_no1 {q : DQ} (h : betw q.1 1 4 = false) : validQ q = false := by simp [validQ, h]
theorem validQ_no2 {q : DQ} (h : betw q.2.length 1 4 = false) : validQ q = false := by simp [validQ, h]
theorem validQ_go {n : Nat} {xs : List DA} (h : betw (n : Int) 1 4 = true) (h' : betw xs.length 1 4 = true) : validQ ((n : Int), xs) = validFrom n 0 (xs.drop 0) := by simp [validQ, h, h']
theorem validFrom_at {n m j : Nat} {xs : List DA} {a : DA} (h : xs[j]? = some a) : validFrom n m (xs.drop j) = (nameB a.1 && betw a.2.length 1 3 && (varsFrom n (a.2.take 0) (a.2.drop 0) && validFrom n (vbits m (a.2.drop 0)) (xs.drop (j + 1)))) := by
  obtain ⟨h1, rfl⟩ := List.getElem?_eq_some_iff.1 h
  rw [List.drop_eq_getElem_cons h1]; simp [validFrom]
theorem validFrom_end {n m j : Nat} {xs : List DA} (h : xs.length ≤ j) : validFrom n m (xs.drop j) = decide (m = 2 ^ n - 1) := by
  rw [List.drop_eq_nil_of_le h]; rfl
theorem vars_no {n : Int} {k : Nat} {v : Int} {vs : List Int} (hk : k < vs.length) (hv : vs.getD k 0 = v) (h : (betw v 0 (n - 1) && !has (vs.take k) v) = false) : varsFrom n (vs.take k) (vs.drop k) = false := by
  rw [drop_cons vs k hk, hv, varsFrom, h]; rfl
theorem vars_yes {n : Int} {k : Nat} {v : Int} {vs : List Int} (hk : k < vs.length) (hv : vs.getD k 0 = v) (h : betw v 0 (n - 1) = true) (h' : has (vs.take k) v = false) : varsFrom n (vs.take k) (vs.drop k) = varsFrom n (vs.take (k + 1)) (vs.drop (k + 1)) := by
  rw [drop_cons vs k hk, hv, varsFrom, h, h', take_snoc vs k hk, hv]; simp
theorem vbits_at {m k : Nat} {v : Nat} {vs : List Int} (hk : k < vs.length) (hv : vs.getD k 0 = (v : Int)) : vbits m (vs.drop k) = vbits (m ||| 2 ^ v) (vs.drop (k + 1)) := by
  rw [drop_cons vs k hk, hv, vbits]; simp
theorem vars_end {n : Int} {k : Nat} {vs : List Int} (hk : vs.length ≤ k) : varsFrom n (vs.take k) (vs.drop k) = true := by
  rw [List.drop_eq_nil_of_le hk]; rfl
theorem vbits_end {m k : Nat} {vs : List Int} (hk : vs.length ≤ k) : vbits m (vs.drop k) = m := by
  rw [List.drop_eq_nil_of_le hk]; rfl
theorem or_lt {m v n : Nat} (h : m < 2 ^ n) (hv : v < n) : m ||| 2 ^ v < 2 ^ n := Nat.or_lt_two_pow h (Nat.pow_lt_pow_right (by omega) hv)
theorem pow_le16 {n : Nat} (h : n ≤ 4) : 2 ^ n ≤ 16 := by
  have := Nat.pow_le_pow_right (show 0 < 2 by omega) h
  omega
theorem Ints.takeTo {w : World} {a : Option Addr} {n : Nat} {xs : List Int} (h : Ints w a n xs) {k : Nat} (hk : k ≤ n) : Ints w a k (xs.take k) := by
  have hl := h.len
  refine ⟨by simp; omega, by have := h.small; omega, fun i hi => ?_, fun x hx => h.rng x (List.mem_of_mem_take hx)⟩
  obtain ⟨b, off, ha, hc⟩ := h.cell i (by omega)
  refine ⟨b, off, ha, ?_⟩
  rw [hc]
  congr 2
  simp [List.getD_eq_getElem?_getD, hi]

/-- Block g holds n bools: the bits of m. -/
structure Bools (w : World) (g n m : Nat) : Prop where
  blk : ∃ E, w.heap[g]? = some (.cells ((List.range n).map (fun i => Value.bool (m.testBit i))).toArray E)
theorem Bools.below {w w' : World} {g n m C : Nat} (h : Bools w g n m) (hb : Below C w w') (hC : g < C) : Bools w' g n m := by
  obtain ⟨E, h⟩ := h.blk
  exact ⟨E, by rw [hb.block g hC]; exact h⟩
theorem Bools.cell {w : World} {g n m : Nat} (h : Bools w g n m) {i : Nat} (hi : i < n) : w.cell? ⟨g, i, none⟩ = some (.bool (m.testBit i)) := by
  obtain ⟨E, h⟩ := h.blk
  simp [World.cell?, h, hi]
theorem Bools.frozen {w : World} {g n m : Nat} (h : Bools w g n m) (i : Nat) : w.frozen? ⟨g, i, none⟩ = false := by
  obtain ⟨E, h⟩ := h.blk
  simp [World.frozen?, h]
theorem Bools.lt {w : World} {g n m : Nat} (h : Bools w g n m) : g < w.heap.size := by
  obtain ⟨E, h⟩ := h.blk
  exact (Array.getElem?_eq_some_iff.1 h).1
theorem Bools.set {w : World} {g n m : Nat} (h : Bools w g n m) {v : Nat} (hv : v < n) : Bools (w.setCell ⟨g, v, none⟩ (.bool true)) g n (m ||| 2 ^ v) := by
  obtain ⟨E, h⟩ := h.blk
  refine ⟨E, ?_⟩
  rw [heap_setCell_same w g v _ E _ h]
  congr 2
  apply Array.ext'
  simp only [Array.toList_setIfInBounds]
  apply List.ext_getElem?
  intro i
  rw [List.getElem?_set]
  by_cases hi : i < n
  · by_cases hiv : v = i
    · subst hiv; simp [hi, Nat.testBit_or, Nat.testBit_two_pow_self]
    · simp [hi, hiv, Nat.testBit_or, Nat.testBit_two_pow_of_ne hiv]
  · have : v ≠ i := by omega
    simp [hi, this]
theorem Bools.of_part {B : Nat} {w : World} {g n : Nat} {xs : List Bool} {E : TypeId} (h : Part E O.bool [.bool false] B w g n 0 xs) : Bools w g n 0 := by
  obtain ⟨css, fps, h1, h2, _⟩ := h
  have : css = [] := by
    have := (O.bool.rows_len h2).1
    simpa using this
  subst this
  refine ⟨E, ?_⟩
  rw [h1]
  congr 2
  simp only [List.flatten_nil, List.nil_append, Nat.sub_zero]
  congr 1
  apply List.ext_getElem?
  intro i
  have := rep_flat [Value.bool false] (by simp) n i
  rw [this]
  by_cases hi : i < n <;> simp [hi, Nat.mod_one]

theorem Turn.setCell {lo hi : Nat} {a w : World} (h : Turn lo hi a w) {p : Addr} (h1 : lo ≤ p.block) (h2 : p.block < hi) (u : Value) : Turn lo hi a (w.setCell p u) :=
  h.trans ((Kept.refl lo hi w).setCell h1 h2 u).turn

theorem wrap_pow {n : Nat} (h : n ≤ 16) : wrap64 ((2 : Int) ^ n) = ((2 ^ n : Nat) : Int) := by
  have h1 := Nat.pow_le_pow_right (show 0 < 2 by omega) h
  have h2 : ((2 : Int) ^ n) = ((2 ^ n : Nat) : Int) := by simp
  rw [h2]
  generalize 2 ^ n = p at h1
  exact IntWalk.wrap64_in _ ⟨by omega, by omega⟩
theorem or_pow {m v : Nat} (hm : m < 65536) (hv : v ≤ 16) : bits .or .i64 (m : Int) (wrap64 ((2 : Int) ^ v)) = ((m ||| 2 ^ v : Nat) : Int) := by
  have h1 := Nat.pow_le_pow_right (show 0 < 2 by omega) hv
  rw [wrap_pow hv]
  generalize 2 ^ v = p at h1
  exact bits_or_nat _ _ (by omega) (by omega)
theorem full_eq {m n : Nat} (hn : n ≤ 16) : ((m : Int) == wrap64 (wrap64 ((2 : Int) ^ n) - 1)) = decide (m = 2 ^ n - 1) := by
  have h1 := Nat.pow_le_pow_right (show 0 < 2 by omega) hn
  have h2 := Nat.two_pow_pos n
  rw [wrap_pow hn]
  generalize 2 ^ n = p at h1 h2
  rw [IntWalk.wrap64_in _ ⟨by omega, by omega⟩, Bool.eq_iff_iff]
  simp only [beq_iff_eq, decide_eq_true_eq]
  omega

set_option maxHeartbeats 400000 in
theorem indexBools (g n m cap : Nat) (w : World) (h : Bools w g n m) (hn : n ≤ 4) (hm : m < 2 ^ n) :
    Calls Tryz.prog 144 #[.slice (some ⟨g, 0, none⟩) n cap, .bool false] w fun e w' => ∃ r : Int, e = .returned (.int .i64 r) ∧ decide (0 ≤ r) = !decide (m = 2 ^ n - 1) ∧ w = w' := by
  go_enter Tryz.func144, Tryz.ntmps144
  go_wp2
  go_loop [5, 8] (fun _ i => ∃ j : Nat, j ≤ n ∧ i = .int .i64 j ∧ Hid (∀ i, i < j → m.testBit i = true)) (fun _ i => n - (intOf i).toNat)
  case atStart => exact ⟨0, Nat.zero_le _, rfl, by simp [Hid]⟩
  case round =>
    obtain ⟨j, hj, rfl, hE⟩ := hrel
    by_cases hlt : j < n
    · have hc := h.cell hlt
      obtain ⟨t, ht⟩ : ∃ t, t = m.testBit j := ⟨_, rfl⟩
      rw [← ht] at hc
      cases t with
      | true =>
        have HE := Lib.hid (show ∀ i, i < j + 1 → m.testBit i = true by
          intro i hi
          rcases Nat.lt_or_ge i j with h1 | h1
          · exact hE.out i h1
          · obtain rfl : i = j := by omega
            exact ht.symm)
        clear h ht hm
        go_wp2
        go_round
        case rel => exact ⟨j + 1, by omega, by go_num, HE.out⟩
        case measure => simp [intOf]; omega
      | false =>
        have HE := Lib.hid (show (!decide (m = 2 ^ n - 1)) = true by
          simp only [Bool.not_eq_true', decide_eq_false_iff_not]
          intro e
          subst e
          rw [Nat.testBit_two_pow_sub_one] at ht
          simp [hlt] at ht)
        clear h ht hm
        go_wp2
        go_ret
        exact ⟨_, rfl, by rw [HE.out]; simp, rfl⟩
    · have HE := Lib.hid (show (!decide (m = 2 ^ n - 1)) = false by
        simp only [Bool.not_eq_false', decide_eq_true_eq]
        apply Nat.eq_of_testBit_eq
        intro i
        rw [Nat.testBit_two_pow_sub_one]
        by_cases hi : i < n
        · rw [hE.out i (by omega)]; simp [hi]
        · simp only [hi, decide_false]
          exact Nat.testBit_lt_two_pow (Nat.lt_of_lt_of_le hm (Nat.pow_le_pow_right (by omega) (by omega))))
      clear h hm
      go_wp2
      go_ret
      exact ⟨_, rfl, by rw [HE.out]; rfl, rfl⟩

theorem containsBools (g n m cap : Nat) (w : World) (h : Bools w g n m) (hn : n ≤ 4) (hm : m < 2 ^ n) :
    Calls Tryz.prog 123 #[.slice (some ⟨g, 0, none⟩) n cap, .bool false] w fun e w' => e = .returned (.bool (!decide (m = 2 ^ n - 1))) ∧ w = w' := by
  go_enter Tryz.func123, Tryz.ntmps123
  go_wp2_with fail
  refine (indexBools _ _ _ _ _ h hn hm).mono ?_
  rintro e w' ⟨r, rfl, hr, rfl⟩
  have HR := Lib.hid hr
  clear hr hm
  go_wp2_with fail
  go_ret
  exact ⟨ret_bool HR.out, rfl⟩

end Go.Proofs.YtkipgbgkhffkkaaGreat

/- Contracts: rows compacted by the library (slices.CompactFunc); rows sorted, each once (impl.sorted). -/
namespace Go.Proofs.YtkipgbgkhffkkaaGreat
open Go.RowKit Go.Sort
set_option linter.unusedVariables false
set_option linter.unusedSimpArgs false
set_option synthInstance.maxSize 2000
set_option synthInstance.maxHeartbeats 400000

theorem At.cell {g c j : Nat} {W : World} {vs : List Value} {u : Value} (h : At g c W vs) (hj : vs[j]? = some u) : W.cell? ⟨g, j, none⟩ = some u ∧ W.frozen? ⟨g, j, none⟩ = false := by
  obtain ⟨cur, hb, hs, ht⟩ := h.ex
  have hjl := (List.getElem?_eq_some_iff.1 hj).1
  have h1 : (cur.toList.take vs.length)[j]? = some u := by rw [ht]; exact hj
  rw [List.getElem?_take_of_lt hjl] at h1
  refine ⟨?_, ?_⟩
  · simp only [World.cell?, hb]; simpa using h1
  · simp only [World.frozen?, hb]; simp
theorem At.drew {g c : Nat} {W W' : World} {vs : List Value} (h : At g c W vs) (hd : Drew W W') : At g c W' vs := by
  obtain ⟨m, rfl⟩ := hd
  exact ⟨h.ex, h.le, h.cap⟩
theorem At.set {g c k : Nat} {W : World} {vs : List Value} (h : At g c W vs) (u : Value) : At g c (W.setCell ⟨g, k, none⟩ u) (vs.set k u) := by
  obtain ⟨cur, hb, hs, ht⟩ := h.ex
  refine ⟨⟨cur.setIfInBounds k u, ?_, by simp [hs], ?_⟩, by simpa using h.le, h.cap⟩
  · rw [setCell_eq]
    simp only [mapBlock, Array.getElem?_modify, if_true, hb, Option.map_some, onCells]
  · rw [List.length_set, Array.toList_setIfInBounds, List.take_set, ht]
theorem But.set {g k : Nat} {w W : World} (h : But g w W) (u : Value) : But g w (W.setCell ⟨g, k, none⟩ u) := fun i h1 h2 => by
  rw [← h i h1 h2]; exact Below.heap_setCell _ _ _ _ h1
theorem At.pre {g c : Nat} {W : World} {us vs : List Value} (h : At g c W (us ++ vs)) : At g c W us := by
  obtain ⟨cur, hb, hs, ht⟩ := h.ex
  have hle := h.le
  rw [List.length_append] at hle
  refine ⟨⟨cur, hb, hs, ?_⟩, by omega, h.cap⟩
  have h1 := congrArg (List.take us.length) ht
  rw [List.take_take, List.length_append, Nat.min_eq_left (by omega), List.take_left' rfl] at h1
  exact h1
theorem eqFn_any (a b : Option Addr) (n m cap cap' : Nat) (xs ys : List Int) (w : World) (h : Ints w a n xs) (h' : Ints w b m ys) :
    Calls Tryz.prog 133 #[.slice a n cap, .slice b m cap'] w fun e w' => e = .returned (.bool (decide (xs = ys))) ∧ Drew w w' := by
  have HC := Lib.hid (equalInts a b n m cap cap' xs ys w h h')
  clear h h'
  go_enter Tryz.func133, Tryz.ntmps133
  go_wp2_with (go_at_call 64; refine HC.out.mono ?_; rintro e w9 ⟨rfl, hd⟩)
  go_ret
  exact ⟨rfl, hd⟩
theorem El.ints {w W : World} {g : Nat} (x : El w g) (hb : But g w W) : ∃ a cap, x.v = .slice a x.xs.length cap ∧ Ints W a x.xs.length x.xs := by
  obtain ⟨a, cap, h, ho, _⟩ := oI_own (hb.rep x)
  simp at h
  exact ⟨a, cap, h, ho.ints⟩
/-- The comparison, at elements. -/
theorem eqEl_any {w W : World} {g : Nat} (x y : El w g) (hb : But g w W) :
    Calls Tryz.prog 133 #[x.v, y.v] W fun e w' => e = .returned (.bool (decide (x.xs = y.xs))) ∧ Drew W w' := by
  obtain ⟨a, cap, h1, i1⟩ := x.ints hb
  obtain ⟨b, cap', h2, i2⟩ := y.ints hb
  rw [h1, h2]
  exact eqFn_any a b _ _ cap cap' _ _ W i1 i2

theorem setCells_pre {g c : Nat} : ∀ (zs : List Value) {W : World} {vs : List Value} {o : Nat}, At g c W vs → vs.length ≤ o → At g c (W.setCells g o zs) vs
  | [], W, vs, o, h, _ => h
  | z :: t, W, vs, o, h, ho => by
    have h1 := h.set (k := o) z
    rw [List.set_eq_of_length_le ho] at h1
    exact setCells_pre t h1 (by omega)
theorem setCells_turn {g : Nat} : ∀ (zs : List Value) (W : World) (o : Nat), Turn g (g + 1) W (W.setCells g o zs)
  | [], W, o => turn_refl _ _ _
  | z :: t, W, o => ((turn_refl g (g + 1) W).setIn (p := ⟨g, o, none⟩) (Nat.le_refl _) (Nat.lt_succ_self _) z).trans (setCells_turn t _ (o + 1))
theorem turn_drew {lo hi : Nat} {a b : World} (h : Drew a b) : Turn lo hi a b := by
  obtain ⟨m, rfl⟩ := h
  exact ⟨rfl, rfl, rfl, Nat.le_refl _, fun _ _ _ => rfl⟩
theorem Turn.but {g : Nat} {w a b : World} (h : But g w a) (hs : w.heap.size ≤ a.heap.size) (k : Turn g (g + 1) a b) : But g w b := fun i h1 h2 =>
  (k.block i (by omega) (by omega)).trans (h i h1 h2)
theorem dedRow_skip {α : Type} {key : α → List Int} {d : List α} {p : Nat} (h : keepAt key d p = false) : dedRow key d (p + 1) = dedRow key d p := by
  rw [dedRow, dedRow, dedTo_skip h]

set_option maxRecDepth 100000 in
set_option maxHeartbeats 4000000 in
theorem compF_any {w : World} {g c : Nat} (d : List (El w g)) (w1 : World) (ha : At g c w1 (d.map El.v)) (hb : But g w w1) (hsz : w.heap.size ≤ w1.heap.size) (hg : g < w.heap.size) (n : Nat) (hnl : d.length = n) (hn : n ≤ 1000000000) :
    Calls Tryz.prog 132 #[.slice (some ⟨g, 0, none⟩) n c, .func (.func 133) #[] #[]] w1 fun e w2 => e = .returned (.slice (some ⟨g, 0, none⟩) (dedTo El.xs d n).length c) ∧ At g c w2 ((dedTo El.xs d n).map El.v) ∧ Turn g (g + 1) w1 w2 := by
  have hcap : n ≤ c := by have := ha.le; simpa [hnl] using this
  have hcm := ha.cap
  have hcm2 : c ≤ 9223372036854775807 := by unfold maxLen at hcm; omega
  have hbq : ∀ W, Drew w1 W → But g w W := fun W h i h1 h2 => by obtain ⟨m, rfl⟩ := h; exact hb i h1 h2
  by_cases h2 : n < 2
  · have HD : Hid (dedTo El.xs d n = d) := Lib.hid (by
      rw [dedTo_all (fun j hj => by (obtain rfl : j = 0 := (by omega)); exact keepAt_zero), List.take_of_length_le (by omega)])
    have HA := Lib.hid ha
    clear ha hb hbq
    go_enter Tryz.func132, Tryz.ntmps132
    go_wp2_with fail
    go_ret
    exact ⟨by rw [HD.out, hnl]; rfl, by rw [HD.out]; exact HA.out, turn_refl _ _ _⟩
  go_enter Tryz.func132, Tryz.ntmps132
  go_wp2_with fail
  go_loopw [5] (fun s wr => ∃ k : Nat, 1 ≤ k ∧ k ≤ n ∧ s = .int .i64 k ∧ Hid (∀ j, j < k → keepAt El.xs d j = true) ∧ Drew w1 wr) (fun s _ => n - (intOf s).toNat)
  case atStart => exact ⟨1, Nat.le_refl _, by omega, rfl, Lib.hid (fun j hj => by (obtain rfl : j = 0 := (by omega)); exact keepAt_zero), Drew.refl _⟩
  case round =>
    obtain ⟨k, hk1, hk, rfl, hall, hdr⟩ := hrel
    obtain ⟨i, rfl⟩ : ∃ i, k = i + 1 := ⟨k - 1, by omega⟩
    have hld := hdr
    have ha2 := ha.drew hdr
    have hb2 := hbq wr hdr
    by_cases hlt : i + 1 < n
    · obtain ⟨x, hx⟩ : ∃ x, d[i + 1]? = some x := ⟨_, List.getElem?_eq_getElem (by omega)⟩
      obtain ⟨y, hy⟩ : ∃ y, d[i]? = some y := ⟨_, List.getElem?_eq_getElem (by omega)⟩
      obtain ⟨c1, f1⟩ := ha2.cell (j := i + 1) (u := x.v) (by simp [hx])
      obtain ⟨c0, f0⟩ := ha2.cell (j := i) (u := y.v) (by simp [hy])
      have heq := fun q => eqEl_any (W := wr.drewN q) x y (fun j h1 h2 => hb2 j h1 h2)
      have hka := keepAt_at (key := El.xs) hx hy
      obtain ⟨t, ht⟩ : ∃ t, decide (x.xs = y.xs) = t := ⟨_, rfl⟩
      rw [ht] at hka
      simp only [ht] at heq
      have HEQ := Lib.hid heq
      have HKA := Lib.hid hka
      have hi63 : IntKind.i64.wrap (i : Int) = (i : Int) := IntWalk.i64_in _ (by omega)
      clear heq hka ht
      cases t with
      | false =>
        have HALL : Hid (∀ j, j < i + 1 + 1 → keepAt El.xs d j = true) := Lib.hid (fun j hj => by
          by_cases e : j = i + 1
          · subst e; exact HKA.out
          · exact hall.out j (by omega))
        clear hall HKA
        go_wp2_with fail
        go_quiet ((go_at_call 133; exact quiet_drew (HEQ.out _)))
        clear hi63
        go_wp2_with fail
        go_roundw
        case rel => exact ⟨i + 1 + 1, by omega, by omega, by go_num, HALL, hld.step _⟩
        case measure => simp [intOf]; omega
      | true =>
        have hd1 : dedTo El.xs d (i + 1) = d.take (i + 1) := dedTo_all (fun j hj => hall.out j hj)
        have hd2 : dedTo El.xs d (i + 1 + 1) = d.take (i + 1) := by rw [dedTo_skip HKA.out, hd1]
        have hdl : (dedTo El.xs d (i + 1 + 1)).length = i + 1 := by rw [hd2, List.length_take]; omega
        have hdr2 : dedRow El.xs d (i + 1 + 1) = d := by rw [dedRow, hdl, hd2, List.take_append_drop]
        have HD1 := Lib.hid hdl
        have HD2 := Lib.hid hdr2
        clear hall HKA hd1 hd2 hdl hdr2
        go_wp2_with fail
        go_quiet ((go_at_call 133; exact quiet_drew (HEQ.out _)))
        clear hi63 HEQ
        have hwq := fun q => (turn_drew (lo := g) (hi := g + 1) (hld.step q))
        have haq := fun q => ha.drew (hld.step q)
        go_wp2_with fail
        go_loopw [5, 7] (fun s5 s7 wr => ∃ k2 kk : Nat, 1 ≤ k2 ∧ i + 1 + k2 ≤ n ∧ s7 = .int .i64 k2 ∧ s5 = .int .i64 kk ∧ kk + 1 ≤ i + 1 + k2 ∧ Hid ((dedTo El.xs d (i + 1 + k2)).length = kk) ∧ At g c wr ((dedRow El.xs d (i + 1 + k2)).map El.v) ∧ Turn g (g + 1) w1 wr) (fun _ s7 _ => n - (i + 1 + (intOf s7).toNat))
        case atStart => exact ⟨1, i + 1, Nat.le_refl _, by omega, rfl, rfl, by omega, HD1, by rw [HD2.out]; exact haq _, hwq _⟩
        case round =>
          obtain ⟨k2, kk, hk21, hk2, rfl, rfl, hkk, hlen, hA, hT⟩ := hrel
          obtain ⟨q, rfl⟩ : ∃ q, k2 = q + 1 := ⟨k2 - 1, by omega⟩
          have hb3 := Turn.but hb hsz hT
          clear haq hwq ha2 hb2
          by_cases hlt2 : i + 1 + (q + 1) < n
          · obtain ⟨x2, hx2⟩ : ∃ x, d[i + 1 + (q + 1)]? = some x := ⟨_, List.getElem?_eq_getElem (by omega)⟩
            obtain ⟨y2, hy2⟩ : ∃ y, d[i + 1 + q]? = some y := ⟨_, List.getElem?_eq_getElem (by omega)⟩
            obtain ⟨c3, f3⟩ := hA.cell (j := i + 1 + (q + 1)) (u := x2.v) (by rw [List.getElem?_map, dedRow_get (by rw [hlen.out]; omega), hx2]; rfl)
            obtain ⟨c2, f2⟩ := hA.cell (j := i + 1 + q) (u := y2.v) (by rw [List.getElem?_map, dedRow_get (by rw [hlen.out]; omega), hy2]; rfl)
            obtain ⟨z, hz⟩ : ∃ z, d[kk]? = some z := ⟨_, List.getElem?_eq_getElem (by omega)⟩
            obtain ⟨ck, fk⟩ := hA.cell (j := kk) (u := z.v) (by rw [List.getElem?_map, dedRow_get (by rw [hlen.out]; omega), hz]; rfl)
            have heq := fun q => eqEl_any (W := wr.drewN q) x2 y2 (fun j h1 h2 => hb3 j h1 h2)
            have hka : keepAt El.xs d (i + 1 + (q + 1)) = !decide (x2.xs = y2.xs) := keepAt_at (key := El.xs) (p := i + 1 + q) hx2 hy2
            obtain ⟨t, ht⟩ : ∃ t, decide (x2.xs = y2.xs) = t := ⟨_, rfl⟩
            rw [ht] at hka
            simp only [ht] at heq
            have HEQ := Lib.hid heq
            have hi63 : IntKind.i64.wrap (q : Int) = (q : Int) := IntWalk.i64_in _ (by omega)
            clear heq ht
            cases t with
            | true =>
              have HLEN : Hid ((dedTo El.xs d (i + 1 + (q + 1 + 1))).length = kk) := Lib.hid (by
                show (dedTo El.xs d (i + 1 + (q + 1) + 1)).length = kk
                rw [dedTo_skip hka, hlen.out])
              have HROW : Hid (dedRow El.xs d (i + 1 + (q + 1 + 1)) = dedRow El.xs d (i + 1 + (q + 1))) := Lib.hid (dedRow_skip hka)
              clear hka hlen
              go_wp2_with fail
              go_quiet ((go_at_call 133; exact quiet_drew (HEQ.out _)))
              clear hi63
              go_wp2_with fail
              go_roundw
              case rel => exact ⟨q + 1 + 1, kk, by omega, by omega, by go_num, rfl, by omega, HLEN, by rw [HROW.out]; exact hA.drew ⟨_, rfl⟩, hT.trans (turn_drew ⟨_, rfl⟩)⟩
              case measure => simp [intOf]; omega
            | false =>
              have HLEN : Hid ((dedTo El.xs d (i + 1 + (q + 1 + 1))).length = kk + 1) := Lib.hid (by
                show (dedTo El.xs d (i + 1 + (q + 1) + 1)).length = kk + 1
                rw [dedTo_keep hx2 hka, List.length_append, hlen.out]; rfl)
              have HROW : Hid ((dedRow El.xs d (i + 1 + (q + 1))).set kk x2 = dedRow El.xs d (i + 1 + (q + 1 + 1))) := Lib.hid (by
                have h9 := dedRow_set (key := El.xs) hx2 hka
                rw [hlen.out] at h9; exact h9)
              obtain ⟨xa, xcp, hxv⟩ := x2.form
              rw [hxv] at c3 HEQ
              clear hka hlen
              go_wp2_with fail
              go_quiet ((go_at_call 133; exact quiet_drew (HEQ.out _)))
              clear hi63
              go_wp2_with fail
              go_roundw
              case rel =>
                refine ⟨q + 1 + 1, kk + 1, by omega, by omega, by go_num, by go_num, by omega, HLEN, ?_, ?_⟩
                · rw [← HROW.out, List.map_set]
                  rw [hxv]
                  exact (hA.drew ⟨_, rfl⟩).set _
                · exact (hT.trans (turn_drew ⟨_, rfl⟩)).setIn (p := ⟨g, kk, none⟩) (Nat.le_refl _) (Nat.lt_succ_self _) _
              case measure => simp [intOf]; omega
          · have hpn : i + 1 + (q + 1) = n := by omega
            rw [hpn] at hA hlen
            have hkn : kk < n := by omega
            have hcl : ∀ ty, (Builtin.clear_ #[47] ty #[.slice (some ⟨g, kk, none⟩) (n - kk) (c - kk)]).run Tryz.prog wr = .ok (.tuple #[]) (wr.setCells g kk (List.replicate (n - kk) (.slice none 0 0))) := fun ty =>
              Lib.run_clear_slice wr 47 30 ty (.slice none 0 0) Tryz.underlying47 Tryz.zeroValue30 rfl rfl g kk (n - kk) (c - kk) (by omega)
                (fun j hj => by
                  obtain ⟨u, hu⟩ : ∃ u, ((dedRow El.xs d n).map El.v)[kk + j]? = some u := ⟨_, List.getElem?_eq_getElem (by rw [List.length_map, dedRow_len (by omega)]; omega)⟩
                  rw [(hA.cell hu).1]; rfl)
                (fun j hj => by
                  obtain ⟨u, hu⟩ : ∃ u, ((dedRow El.xs d n).map El.v)[kk + j]? = some u := ⟨_, List.getElem?_eq_getElem (by rw [List.length_map, dedRow_len (by omega)]; omega)⟩
                  exact (hA.cell hu).2)
            have HA := Lib.hid (show At g c (wr.setCells g kk (List.replicate (n - kk) (.slice none 0 0))) ((dedTo El.xs d n).map El.v) from
              setCells_pre _ (by rw [dedRow, List.map_append] at hA; exact hA.pre) (by rw [List.length_map, hlen.out]; exact Nat.le_refl _))
            have HT := Lib.hid (hT.trans (setCells_turn (List.replicate (n - kk) (.slice none 0 0)) wr kk))
            clear hA hT hb3 hpn
            go_wp2_with fail
            go_ret
            exact ⟨by rw [hlen.out]; rfl, HA.out, HT.out⟩
    · have hkn : i + 1 = n := by omega
      have HD : Hid (dedTo El.xs d n = d) := Lib.hid (by
        rw [dedTo_all (fun j hj => hall.out j (by omega)), List.take_of_length_le (by omega)])
      have HA := Lib.hid ha2
      clear hall ha2 hb2 ha hb hbq
      go_wp2_with fail
      go_ret
      exact ⟨by rw [HD.out, hnl]; rfl, by rw [HD.out]; exact HA.out, turn_drew hld⟩

theorem But.sortA {w : World} {g m : Nat} (dk : Array (El w g)) (os : Array Obj) : But g w (Go.Proofs.sortWorld El.v w g 0 m dk os) := fun k hk hs => by
  unfold Go.Proofs.sortWorld
  rw [heap_grow_old _ _ (by rw [size_putRow]; exact hs)]
  simp only [putRow, mapBlock, Array.getElem?_modify]
  rw [if_neg (Ne.symm hk)]
  rfl
theorem sortW_below {w : World} {g m lo : Nat} (dk : Array (El w g)) (os : Array Obj) (hl : lo ≤ w.heap.size) (hg : lo ≤ g) : Below lo w (Go.Proofs.sortWorld El.v w g 0 m dk os) :=
  ⟨rfl, rfl, rfl, by unfold Go.Proofs.sortWorld; rw [size_grow, size_putRow]; exact Nat.le_add_right _ _, fun k hk => But.sortA dk os k (by omega) (by omega)⟩
/-- impl.CompareRows, wherever the library's sort calls it. -/
theorem cmpLays {w : World} {g n : Nat} : Go.Proofs.CmpLays1 Tryz.prog 107 #[] (El.v (w := w) (g := g)) cfE g 0 n w := by
  intro m os dk hs x y
  obtain ⟨a, cap, h1, i1⟩ := x.ints (But.sortA (m := m) dk os)
  obtain ⟨b, cap', h2, i2⟩ := y.ints (But.sortA (m := m) dk os)
  rw [h1, h2]
  refine (cmpRows_any a b _ _ cap cap' _ _ _ i1 i2).mono ?_
  rintro e w' ⟨rfl, rfl⟩
  exact ⟨rfl, 0, #[], (grow_empty _).symm⟩
theorem own_nilptr {lo hi n c : Nat} {w : World} {rows : List (List Int)} {a : Option Addr} (h : Own oII lo hi w [.slice a n c] rows) : (a = none ∧ n = 0 ∧ c = 0 ∧ rows = []) ∨ ∃ g, a = some ⟨g, 0, none⟩ ∧ rows.length = n := by
  obtain ⟨fp, ⟨v, css, fs, hv, rfl, h1, h2⟩, hn, hb⟩ := h
  simp only [List.cons.injEq, and_true] at hv
  subst hv
  have hr := oI.rows_len h2
  rcases h1.2 with ⟨h9, h0⟩ | ⟨g, cap, cur, hv', _, _, _, _, _, _⟩
  · simp at h9
    exact .inl ⟨h9.1, h9.2.1, h9.2.2, List.eq_nil_of_length_eq_zero h0⟩
  · simp at hv'
    exact .inr ⟨g, hv'.1, hv'.2.1.symm⟩

end Go.Proofs.YtkipgbgkhffkkaaGreat

/- Contracts: the copy of a table, of the reference. -/
namespace Go.Proofs.YtkipgbgkhffkkaaGreat
open Go.RowKit Go.Sort
set_option linter.unusedVariables false
set_option linter.unusedSimpArgs false
set_option synthInstance.maxSize 2000
set_option synthInstance.maxHeartbeats 400000

/-- A builtin append at a step of a region that draws, by its run. -/
theorem step_app {ops : Array Oper} {o : Oper} {a : Act} {K : Act → World → Prop} {Q : Exit → Act → World → Prop} {E : Prop} {w w' : World} {s x : Operand} {t t' : TypeId} {vs vx v' : Value}
    {ty : TypeId} (hrun : (Builtin.append_ #[t, t'] ty #[vs, vx]).run Tryz.prog w = .ok v' w') (hty : o.type = ty) (hgd : o.guard = none)
    (ho : o.op = .call { callee := .builtin .append, args := #[s, x], argTypes := #[t, t'] }) (hs : a.eval s = vs) (hx : a.eval x = vx)
    (h : K (a.put o.dst v') w') :
    if Region.wanted o (yielded ops a.tmps) = true then Oper.wp Tryz.prog o a w K Q else E := by
  have hw : Region.wanted o (yielded ops a.tmps) = true := by simp [Region.wanted, hgd]
  rw [if_pos hw]
  unfold Oper.wp execOp
  simp only [ho, resolve, invoke, builtin, Sem.run_bind, Sem.run_pure, Result.andThen_ok, List.map_toArray, List.map_cons, List.map_nil, hs, hx, hty, hrun]
  exact h

theorem cell_ad {w : World} {o : Obj} {p : Addr} {v : Value} (h : w.cell? p = some v) : (w.alloc o).cell? p = some v :=
  (((Below.refl _ _).alloc (Nat.le_refl _) o).cell (p := p) (World.block_lt_of_cell? w p h)).trans h
theorem cell_add {w : World} {o : Obj} {p : Addr} {v : Value} (h : w.cell? p = some v) : (w.alloc o).drew.cell? p = some v :=
  (((Below.refl _ _).alloc (Nat.le_refl _) o).drew.cell (p := p) (World.block_lt_of_cell? w p h)).trans h
/-- What a cell holds. -/
def valAt (W : World) (p : Addr) : Value := (W.cell? p).getD undef
theorem valAt_eq {W : World} {p : Addr} {v : Value} (h : W.cell? p = some v) : valAt W p = v := by unfold valAt; rw [h]; rfl
theorem valAt_of {W : World} {p : Addr} {v : Value} (h : W.cell? p = some v) : W.cell? p = some (valAt W p) := by rw [valAt_eq h, h]
theorem valAt_set {W : World} {p q : Addr} {u v : Value} (h : W.cell? q = some v) : (W.setCell p u).cell? q = some (valAt (W.setCell p u) q) := by
  obtain ⟨v', h'⟩ := cell?_setCell_some (p := p) (x := u) h
  exact valAt_of h'
theorem cell_set {W : World} {p q : Addr} {u v : Value} (h : W.cell? q = some v) (hne : q.block ≠ p.block) : (W.setCell p u).cell? q = some v :=
  (World.cell?_of_block (a := q) (Below.heap_setCell _ _ _ _ hne)).trans h
/-- 'append([]int{}, xs...)', run. -/
theorem run_copyI (W W1 : World) (ty : TypeId) (n c : Nat) (ad : Option Addr) (xs : List Int) (hi : Ints W ad n xs) (hn : n ≤ 1000000000000) (hW1 : W1 = W.alloc (.cells #[] 3)) :
    ∃ v' w', (Builtin.append_ #[30, 30] ty #[.slice (some ⟨W.heap.size, 0, none⟩) 0 0, .slice ad n c]).run Tryz.prog W1 = .ok v' w' ∧ Own oI W.heap.size w'.heap.size w' [v'] xs ∧ Below W.heap.size W w' ∧ W.heap.size < w'.heap.size := by
  subst hW1
  obtain ⟨i, hi0, hz0, hz1, hz2⟩ := info_parts infoInt
  have hown := own_empty (Nat.le_refl W.heap.size)
  have hbl : Below W.heap.size W (W.alloc (.cells #[] 3)) := (Below.refl _ _).alloc (Nat.le_refl _) _
  replace hi := hi.below hbl
  cases ad with
  | none =>
    have hn0 : n = 0 := by
      rcases Nat.eq_zero_or_pos n with h0 | h0
      · exact h0
      · obtain ⟨b, off, hb, _⟩ := hi.cell 0 h0; simp at hb
    subst hn0
    have hx0 : xs = [] := List.eq_nil_of_length_eq_zero hi.len
    subst hx0
    have hr : (Builtin.append_ #[30, 30] ty #[.slice (some ⟨W.heap.size, 0, none⟩) 0 0, .slice none 0 c]).run Tryz.prog (W.alloc (.cells #[] 3)) = .ok (.slice (some ⟨W.heap.size, 0, none⟩) 0 0) (W.alloc (.cells #[] 3)) := run_append_room_src (P := Tryz.prog) (W.alloc (.cells #[] 3)) 30 30 ty 3 i Tryz.underlying30 hi0 W.heap.size 0 0 0 (.slice none 0 c) 0 [] (Src.ofNil _ Tryz.underlying30 c) (by omega) (by simp) (by simp)
    exact ⟨_, _, hr, hown.own, hbl, by simp⟩
  | some ad =>
    have hnews : ∀ j u, (xs.map (Value.int .i64))[j]? = some u → (W.alloc (.cells #[] 3)).cell? (ad.add j) = some u := by
      intro j u hu
      rw [List.getElem?_map] at hu
      have hj : j < n := by
        rw [← hi.len]
        rcases Nat.lt_or_ge j xs.length with h1 | h1
        · exact h1
        · rw [List.getElem?_eq_none h1] at hu; simp at hu
      obtain ⟨b, off, hb, hc⟩ := hi.cell j hj
      simp at hb
      subst hb
      rw [List.getD_eq_getElem?_getD] at hc
      rw [List.getElem?_eq_getElem (by rw [hi.len]; exact hj)] at hu hc
      simp at hu
      subst hu
      rw [Addr.add_lit]
      simpa using hc
    obtain ⟨v', w', hrun, h1, h2, _⟩ := run_append_own_at (P := Tryz.prog) (W.alloc (.cells #[] 3)) W.heap.size 30 ty 3 i (.int .i64 0) 1 8 Tryz.underlying30 hi0 hz0 hz1 hz2 rfl (by decide) _ 0 [] (by simpa using hown.row) ad n c (xs.map (Value.int .i64)) (by simp [hi.len]) hnews (by intro z hz; simp at hz; obtain ⟨y, _, rfl⟩ := hz; rfl) (by unfold maxLen; omega) (by omega) (by simp)
    refine ⟨v', w', hrun, (OwnInts.own ⟨hi.len, by simpa using h1, hi.rng⟩), hbl.grown h2 (by simp) (fun k hk => by simp [Value.ownBlock] at hk; omega), ?_⟩
    have := h2.size; simp at this; omega

set_option maxRecDepth 100000 in
set_option maxHeartbeats 2000000 in
theorem l4Copy_any (cs : List Value) (x : DT) (w : World) (h : rT.rep w cs x) (hn : bulk_T x ≤ 100000000) :
    Calls Tryz.prog 74 #[.agg cs.toArray] w fun e w' => ∃ ds, e = .returned (.agg ds.toArray) ∧ Own oT w.heap.size w'.heap.size w' ds x ∧ Below w.heap.size w w' := by
  obtain ⟨ub, un, uc, rfl, hs, hi, g1⟩ := rT_open h
  clear h
  obtain ⟨s, i, rows⟩ := x
  simp only at hs hi g1
  have hn2 : bulk_II rows ≤ 100000000 := by unfold bulk_T at hn; simp only at hn; omega
  clear hn
  have t0 := rS_sl g1
  have hl := t0.len
  have hn1 : un ≤ 100000000 := by unfold bulk_II at hn2; omega
  have hrows : ∀ (j : Nat) (r : List Int), rows[j]? = some r → r.length ≤ 100000000 := fun j r hr => by
    have h9 := sumBy_mem bulk_I hr; unfold bulk_II at hn2; unfold bulk_I at h9 hn2; omega
  have HR := Lib.hid hrows
  clear hrows hn2
  have hb0 : Below w.heap.size w w := Below.refl _ _
  go_enter Tryz.func74, Tryz.ntmps74
  obtain ⟨w1, hw1⟩ : ∃ W, W = w.alloc (.cells #[.string s, .int .i64 i, .slice ub un uc] 65) := ⟨_, rfl⟩
  have z1 : Below w.heap.size w w1 := by rw [hw1]; exact (Below.refl _ _).alloc (Nat.le_refl _) _
  have s1 : w1.heap.size = w.heap.size + 1 := by rw [hw1]; simp
  have hb1 := on hb0 z1
  have b_0 : w1.cell? ⟨w.heap.size, 0, none⟩ = some (.string s) := by rw [hw1]; exact box_cell (Below.refl _ _) rfl
  have b_1 : w1.cell? ⟨w.heap.size, 1, none⟩ = some (.int .i64 i) := by rw [hw1]; exact box_cell (Below.refl _ _) rfl
  have b_2 : w1.cell? ⟨w.heap.size, 2, none⟩ = some (.slice ub un uc) := by rw [hw1]; exact box_cell (Below.refl _ _) rfl
  have b_f0 : w1.frozen? ⟨w.heap.size, 0, none⟩ = false := by rw [hw1]; exact box_frozen (Below.refl _ _)
  have b_f1 : w1.frozen? ⟨w.heap.size, 1, none⟩ = false := by rw [hw1]; exact box_frozen (Below.refl _ _)
  have b_f2 : w1.frozen? ⟨w.heap.size, 2, none⟩ = false := by rw [hw1]; exact box_frozen (Below.refl _ _)
  have raw1_b_0 := b_0
  have raw1_b_1 := b_1
  have raw1_b_2 := b_2
  rw [hw1] at raw1_b_0 raw1_b_1 raw1_b_2
  obtain ⟨w2, hw2⟩ : ∃ W, W = w1.alloc (.cells #[.string ⟨#[]⟩, .int .i64 0, .slice none 0 0] 65) := ⟨_, rfl⟩
  have z2 : Below w1.heap.size w1 w2 := by rw [hw2]; exact (Below.refl _ _).alloc (Nat.le_refl _) _
  have s2 : w2.heap.size = w1.heap.size + 1 := by rw [hw2]; simp
  have hb2 := on hb1 z2
  replace b_0 := (z2.cell (p := ⟨w.heap.size, 0, none⟩) (by simp only []; omega)).trans b_0
  replace b_1 := (z2.cell (p := ⟨w.heap.size, 1, none⟩) (by simp only []; omega)).trans b_1
  replace b_2 := (z2.cell (p := ⟨w.heap.size, 2, none⟩) (by simp only []; omega)).trans b_2
  replace b_f0 := (z2.frozen (p := ⟨w.heap.size, 0, none⟩) (by simp only []; omega)).trans b_f0
  replace b_f1 := (z2.frozen (p := ⟨w.heap.size, 1, none⟩) (by simp only []; omega)).trans b_f1
  replace b_f2 := (z2.frozen (p := ⟨w.heap.size, 2, none⟩) (by simp only []; omega)).trans b_f2
  have e2 : w1.heap.size = w.heap.size + 1 := by omega
  have r_0 : w2.cell? ⟨w1.heap.size, 0, none⟩ = some (.string ⟨#[]⟩) := by rw [hw2]; exact box_cell (Below.refl _ _) rfl
  have r_1 : w2.cell? ⟨w1.heap.size, 1, none⟩ = some (.int .i64 0) := by rw [hw2]; exact box_cell (Below.refl _ _) rfl
  have r_2 : w2.cell? ⟨w1.heap.size, 2, none⟩ = some (.slice none 0 0) := by rw [hw2]; exact box_cell (Below.refl _ _) rfl
  rw [e2] at r_0 r_1 r_2
  have r_f0 : w2.frozen? ⟨w1.heap.size, 0, none⟩ = false := by rw [hw2]; exact box_frozen (Below.refl _ _)
  have r_f1 : w2.frozen? ⟨w1.heap.size, 1, none⟩ = false := by rw [hw2]; exact box_frozen (Below.refl _ _)
  have r_f2 : w2.frozen? ⟨w1.heap.size, 2, none⟩ = false := by rw [hw2]; exact box_frozen (Below.refl _ _)
  rw [e2] at r_f0 r_f1 r_f2
  have raw2_b_0 := b_0
  have raw2_b_1 := b_1
  have raw2_b_2 := b_2
  have raw2_r_0 := r_0
  have raw2_r_1 := r_1
  have raw2_r_2 := r_2
  rw [hw2, hw1] at raw2_b_0 raw2_b_1 raw2_b_2 raw2_r_0 raw2_r_1 raw2_r_2
  obtain ⟨w3, hw3⟩ : ∃ W, W = w2.alloc (.cells #[.string s, .int .i64 i, .slice none 0 0] 65) := ⟨_, rfl⟩
  have z3 : Below w2.heap.size w2 w3 := by rw [hw3]; exact (Below.refl _ _).alloc (Nat.le_refl _) _
  have s3 : w3.heap.size = w2.heap.size + 1 := by rw [hw3]; simp
  have hb3 := on hb2 z3
  replace b_0 := (z3.cell (p := ⟨w.heap.size, 0, none⟩) (by simp only []; omega)).trans b_0
  replace b_1 := (z3.cell (p := ⟨w.heap.size, 1, none⟩) (by simp only []; omega)).trans b_1
  replace b_2 := (z3.cell (p := ⟨w.heap.size, 2, none⟩) (by simp only []; omega)).trans b_2
  replace b_f0 := (z3.frozen (p := ⟨w.heap.size, 0, none⟩) (by simp only []; omega)).trans b_f0
  replace b_f1 := (z3.frozen (p := ⟨w.heap.size, 1, none⟩) (by simp only []; omega)).trans b_f1
  replace b_f2 := (z3.frozen (p := ⟨w.heap.size, 2, none⟩) (by simp only []; omega)).trans b_f2
  replace r_0 := (z3.cell (p := ⟨w.heap.size + 1, 0, none⟩) (by simp only []; omega)).trans r_0
  replace r_1 := (z3.cell (p := ⟨w.heap.size + 1, 1, none⟩) (by simp only []; omega)).trans r_1
  replace r_2 := (z3.cell (p := ⟨w.heap.size + 1, 2, none⟩) (by simp only []; omega)).trans r_2
  replace r_f0 := (z3.frozen (p := ⟨w.heap.size + 1, 0, none⟩) (by simp only []; omega)).trans r_f0
  replace r_f1 := (z3.frozen (p := ⟨w.heap.size + 1, 1, none⟩) (by simp only []; omega)).trans r_f1
  replace r_f2 := (z3.frozen (p := ⟨w.heap.size + 1, 2, none⟩) (by simp only []; omega)).trans r_f2
  have e3 : w2.heap.size = w.heap.size + 1 + 1 := by omega
  have x_0 : w3.cell? ⟨w2.heap.size, 0, none⟩ = some (.string s) := by rw [hw3]; exact box_cell (Below.refl _ _) rfl
  have x_1 : w3.cell? ⟨w2.heap.size, 1, none⟩ = some (.int .i64 i) := by rw [hw3]; exact box_cell (Below.refl _ _) rfl
  have x_2 : w3.cell? ⟨w2.heap.size, 2, none⟩ = some (.slice none 0 0) := by rw [hw3]; exact box_cell (Below.refl _ _) rfl
  rw [e3] at x_0 x_1 x_2
  have x_f0 : w3.frozen? ⟨w2.heap.size, 0, none⟩ = false := by rw [hw3]; exact box_frozen (Below.refl _ _)
  have x_f1 : w3.frozen? ⟨w2.heap.size, 1, none⟩ = false := by rw [hw3]; exact box_frozen (Below.refl _ _)
  have x_f2 : w3.frozen? ⟨w2.heap.size, 2, none⟩ = false := by rw [hw3]; exact box_frozen (Below.refl _ _)
  rw [e3] at x_f0 x_f1 x_f2
  have raw3_b_0 := b_0
  have raw3_b_1 := b_1
  have raw3_b_2 := b_2
  have raw3_r_0 := r_0
  have raw3_r_1 := r_1
  have raw3_r_2 := r_2
  have raw3_x_0 := x_0
  have raw3_x_1 := x_1
  have raw3_x_2 := x_2
  rw [hw3, hw2, hw1] at raw3_b_0 raw3_b_1 raw3_b_2 raw3_r_0 raw3_r_1 raw3_r_2 raw3_x_0 raw3_x_1 raw3_x_2
  go_wp2_with fail
  rw [← hw1]
  rw [← hw2]
  rw [← hw3]
  clear hw3 hw2 hw1
  clear raw1_b_0 raw1_b_1 raw1_b_2 raw2_b_0 raw2_b_1 raw2_b_2 raw2_r_0 raw2_r_1 raw2_r_2 raw3_b_0 raw3_b_1 raw3_b_2 raw3_r_0 raw3_r_1 raw3_r_2 raw3_x_0 raw3_x_1 raw3_x_2
  go_loopw [4] (fun k wr => ∃ (j : Nat) (v : Value), j ≤ un ∧ k = .int .i64 j ∧ wr.cell? ⟨w.heap.size + 1 + 1, 0, none⟩ = some (.string s) ∧ wr.cell? ⟨w.heap.size + 1 + 1, 1, none⟩ = some (.int .i64 i) ∧ wr.cell? ⟨w.heap.size + 1 + 1, 2, none⟩ = some v ∧ wr.frozen? ⟨w.heap.size + 1 + 1, 2, none⟩ = false ∧ Acc 30 oI w3.heap.size w3.heap.size wr.heap.size wr v (rows.take j) ∧ Turn (w.heap.size + 1 + 1) (w.heap.size + 1 + 1 + 1) w3 wr) (fun k _ => un - (intOf k).toNat)
  case atStart => exact ⟨0, _, Nat.zero_le _, rfl, x_0, x_1, x_2, x_f2, Acc.nil, turn_refl _ _ _⟩
  case round =>
    obtain ⟨j, v, hj, rfl, hv0, hv1, hv, hf, hacc, hdr⟩ := hrel
    have hlc := hdr
    have hE0 : w3.heap.size = w.heap.size + 3 := by omega
    obtain ⟨va, vn, vc, rfl⟩ := hacc.form3
    clear x_0 x_1 x_2 x_f0 x_f1 x_f2
    have s4 := hdr.size
    have hb4 := hb3.trans ((hdr.below (by omega)).mono (by omega))
    replace b_0 := (hdr.cell (p := ⟨w.heap.size, 0, none⟩) (by simp only []; omega) (by simp only []; omega)).trans b_0
    replace b_1 := (hdr.cell (p := ⟨w.heap.size, 1, none⟩) (by simp only []; omega) (by simp only []; omega)).trans b_1
    replace b_2 := (hdr.cell (p := ⟨w.heap.size, 2, none⟩) (by simp only []; omega) (by simp only []; omega)).trans b_2
    replace b_f0 := (World.frozen?_of_block (a := ⟨w.heap.size, 0, none⟩) (hdr.block _ (by simp only []; omega) (by simp only []; omega))).trans b_f0
    replace b_f1 := (World.frozen?_of_block (a := ⟨w.heap.size, 1, none⟩) (hdr.block _ (by simp only []; omega) (by simp only []; omega))).trans b_f1
    replace b_f2 := (World.frozen?_of_block (a := ⟨w.heap.size, 2, none⟩) (hdr.block _ (by simp only []; omega) (by simp only []; omega))).trans b_f2
    replace r_0 := (hdr.cell (p := ⟨w.heap.size + 1, 0, none⟩) (by simp only []; omega) (by simp only []; omega)).trans r_0
    replace r_1 := (hdr.cell (p := ⟨w.heap.size + 1, 1, none⟩) (by simp only []; omega) (by simp only []; omega)).trans r_1
    replace r_2 := (hdr.cell (p := ⟨w.heap.size + 1, 2, none⟩) (by simp only []; omega) (by simp only []; omega)).trans r_2
    replace r_f0 := (World.frozen?_of_block (a := ⟨w.heap.size + 1, 0, none⟩) (hdr.block _ (by simp only []; omega) (by simp only []; omega))).trans r_f0
    replace r_f1 := (World.frozen?_of_block (a := ⟨w.heap.size + 1, 1, none⟩) (hdr.block _ (by simp only []; omega) (by simp only []; omega))).trans r_f1
    replace r_f2 := (World.frozen?_of_block (a := ⟨w.heap.size + 1, 2, none⟩) (hdr.block _ (by simp only []; omega) (by simp only []; omega))).trans r_f2
    have y_0 : wr.cell? ⟨w.heap.size + 1 + 1, 0, none⟩ = some (.string s) := hv0
    have y_1 : wr.cell? ⟨w.heap.size + 1 + 1, 1, none⟩ = some (.int .i64 i) := hv1
    have y_2 : wr.cell? ⟨w.heap.size + 1 + 1, 2, none⟩ = some (.slice va vn vc) := hv
    have hlen : (rows.take j).length ≤ j := List.length_take_le _ _
    by_cases hlt : j < un
    · obtain ⟨b1, o1, ra, rn, rc, t, rfl, hc, hx, hri, hq1, hq2⟩ := t0.row hlt
      have hclt : b1 < w.heap.size := cell_lt hc
      have e_0 : wr.cell? ⟨b1, o1 + j, none⟩ = some (.slice ra rn rc) := (hb4.cell (p := ⟨b1, o1 + j, none⟩) hclt).trans hc
      have HT := Lib.hid (take_snoc' rows j t hx.out)
      have hxl := HR.out j t hx.out
      clear hx hc t0 hl g1
      go_wp2_with fail
      have hri2 := (hri.below hb4).below (Below.refl wr.heap.size wr).drew
      have htl : t.length ≤ 100000000 := hxl
      have hrn : rn ≤ 100000000 := by rw [← hri.len]; exact hxl
      refine wp_region_noPanic ?_
      refine wp_region_lastP (fun W => W.cell? ⟨w.heap.size, 2, none⟩ = some (.slice (some ⟨b1, o1, none⟩) un uc) ∧ W.cell? ⟨w.heap.size + 1 + 1, 2, none⟩ = some (.slice va vn vc) ∧ W.cell? ⟨b1, o1 + j, none⟩ = some (.slice ra rn rc)) 12 (by kernel_rfl) rfl (by kernel_rfl) (by kernel_rfl) ?hS (fun hHeld ops hops => ?_)
      case hS => exact ⟨b_2, y_2, e_0⟩
      simp only [List.pop_toArray, List.dropLast_cons_cons, List.dropLast_singleton] at hops
      subst hops
      refine wpAnyH_take (i := 0) (v := ?v0) rfl (by kernel_rfl) (by kernel_rfl) (by kernel_rfl) (fun _ _ _ h => h) (Or.inl ⟨by rfl, ?hy0⟩) (by assumption) ?rest0
      case hy0 => intro w hSw; (try dsimp only at hSw); go_simp; (try with_reducible rfl)
      try simp only [Act.put, List.setIfInBounds_toArray, List.set_cons_zero, List.set_cons_succ]
      refine wpAnyH_take (i := 1) (v := ?v1) rfl (by kernel_rfl) (by kernel_rfl) (by kernel_rfl) (fun _ _ _ h => h) (Or.inl ⟨by rfl, ?hy1⟩) (by assumption) ?rest1
      case hy1 => intro w hSw; (try dsimp only at hSw); go_simp; (try with_reducible rfl)
      try simp only [Act.put, List.setIfInBounds_toArray, List.set_cons_zero, List.set_cons_succ]
      refine wpAnyH_take (i := 3) (v := ?v3) rfl (by kernel_rfl) (by kernel_rfl) (by kernel_rfl) (fun _ _ _ h => h) (Or.inl ⟨by rfl, ?hy3⟩) (by assumption) ?rest3
      case hy3 => intro w hSw; (try dsimp only at hSw); go_simp; (try with_reducible rfl)
      try simp only [Act.put, List.setIfInBounds_toArray, List.set_cons_zero, List.set_cons_succ]
      refine wpAnyH_take (i := 4) (v := ?v4) rfl (by kernel_rfl) (by kernel_rfl) (by kernel_rfl) (fun _ _ _ h => h) (Or.inl ⟨by rfl, ?hy4⟩) (by assumption) ?rest4
      case hy4 => intro w hSw; (try dsimp only at hSw); go_simp; (try with_reducible rfl)
      try simp only [Act.put, List.setIfInBounds_toArray, List.set_cons_zero, List.set_cons_succ]
      refine wpAnyH_take (i := 5) (v := ?v5) rfl (by kernel_rfl) (by kernel_rfl) (by kernel_rfl) (fun _ _ _ h => h) (Or.inl ⟨by rfl, ?hy5⟩) (by assumption) ?rest5
      case hy5 => intro w hSw; (try dsimp only at hSw); go_simp; (try with_reducible rfl)
      try simp only [Act.put, List.setIfInBounds_toArray, List.set_cons_zero, List.set_cons_succ]
      refine wpAnyH_take (i := 6) (v := ?v6) rfl (by kernel_rfl) (by kernel_rfl) (by kernel_rfl) (fun _ _ _ h => h) (Or.inl ⟨by rfl, ?hy6⟩) (by assumption) ?rest6
      case hy6 => intro w hSw; (try dsimp only at hSw); go_simp; (try with_reducible rfl)
      try simp only [Act.put, List.setIfInBounds_toArray, List.set_cons_zero, List.set_cons_succ]
      refine wpAnyH_take (i := 7) (v := ?v7) rfl (by kernel_rfl) (by kernel_rfl) (by kernel_rfl) (fun _ _ _ h => h) (Or.inl ⟨by rfl, ?hy7⟩) (by assumption) ?rest7
      case hy7 => intro w hSw; (try dsimp only at hSw); go_simp; (try with_reducible rfl)
      try simp only [Act.put, List.setIfInBounds_toArray, List.set_cons_zero, List.set_cons_succ]
      refine wpAnyH_ready (rs := [2]) (by kernel_rfl) (by simp) ?_
      refine AllReadyH.cons rfl (fun K hK => ?_) AllReadyH.nil
      go_simp
      refine hK.out _ _ ?_ (fun hHeld => ?_)
      · exact ⟨cell_add b_2, cell_add y_2, cell_add e_0⟩
      clear hK K
      try simp only [Act.put, List.setIfInBounds_toArray, List.set_cons_zero, List.set_cons_succ]
      refine wpAnyH_ready (rs := [8]) (by kernel_rfl) (by simp) ?_
      refine AllReadyH.cons rfl (fun K hK => ?_) AllReadyH.nil
      obtain ⟨v1, w1, hr1, ho1, hbw, hsz1⟩ := run_copyI wr.drew (wr.alloc (.cells #[] 3)).drew 30 rn rc ra t hri2 (by omega) rfl
      refine step_app hr1 (by rfl) (by rfl) (by rfl) (by rfl) (by rfl) ?_
      obtain ⟨a1, n1, c1, rfl⟩ := oI_form1 ho1
      have hb5 : Below wr.heap.size wr w1 := (Below.refl _ _).drew.trans hbw
      have hS1 := (⟨(hb5.cell (p := ⟨w.heap.size, 2, none⟩) (by simp only []; omega)).trans b_2, (hb5.cell (p := ⟨w.heap.size + 1 + 1, 2, none⟩) (by simp only []; omega)).trans y_2, (hb5.cell (p := ⟨b1, o1 + j, none⟩) (by simp only []; omega)).trans e_0⟩ : (fun W => W.cell? ⟨w.heap.size, 2, none⟩ = some (.slice (some ⟨b1, o1, none⟩) un uc) ∧ W.cell? ⟨w.heap.size + 1 + 1, 2, none⟩ = some (.slice va vn vc) ∧ W.cell? ⟨b1, o1 + j, none⟩ = some (.slice ra rn rc)) w1)
      have ho2 : Own oI wr.heap.size w1.heap.size w1 [.slice a1 n1 c1] t := ho1
      have hsz3 : wr.heap.size < w1.heap.size := hsz1
      refine hK.out _ _ ?_ (fun hHeld => ?_)
      · exact hS1
      clear hK K
      try simp only [Act.put, List.setIfInBounds_toArray, List.set_cons_zero, List.set_cons_succ]
      refine wpAnyH_ready (rs := [9]) (by kernel_rfl) (by simp) ?_
      refine AllReadyH.cons rfl (fun K hK => ?_) AllReadyH.nil
      go_simp
      refine hK.out _ _ ?_ (fun hHeld => ?_)
      · exact ⟨cell_ad hS1.1, cell_ad hS1.2.1, cell_ad hS1.2.2⟩
      clear hK K
      try simp only [Act.put, List.setIfInBounds_toArray, List.set_cons_zero, List.set_cons_succ]
      refine wpAnyH_ready (rs := [10]) (by kernel_rfl) (by simp) ?_
      refine AllReadyH.cons rfl (fun K hK => ?_) AllReadyH.nil
      obtain ⟨v2, w2, hr2, hacc2, ht2, hsz2, hk2⟩ := run_acc Tryz.underlying47 infoI rfl (by decide) (by decide) rfl 47 (.slice va vn vc) (rows.take j) [.slice a1 n1 c1] t (hacc.below hb5 (Nat.le_refl _)) ho2 (by intro z hz; simp at hz; subst hz; rfl) s4 (Nat.le_refl _) (by omega) (Nat.le_refl _) (hlc.trans (turn_below hb5 (Nat.le_refl _))) rfl (.inr (Nat.le_refl _)) (by omega) (by omega) rfl
      refine step_app hr2 (by rfl) (by rfl) (by rfl) (by rfl) (by rfl) ?_
      obtain ⟨a2, n2, c2, rfl⟩ := hacc2.form3
      have hS2 := (⟨(World.cell?_of_block (a := ⟨w.heap.size, 2, none⟩) (hk2 _ (by simp only []; omega) (by simp only []; omega))).trans hS1.1, (World.cell?_of_block (a := ⟨w.heap.size + 1 + 1, 2, none⟩) (hk2 _ (by simp only []; omega) (by simp only []; omega))).trans hS1.2.1, (World.cell?_of_block (a := ⟨b1, o1 + j, none⟩) (hk2 _ (by simp only []; omega) (by simp only []; omega))).trans hS1.2.2⟩ : (fun W => W.cell? ⟨w.heap.size, 2, none⟩ = some (.slice (some ⟨b1, o1, none⟩) un uc) ∧ W.cell? ⟨w.heap.size + 1 + 1, 2, none⟩ = some (.slice va vn vc) ∧ W.cell? ⟨b1, o1 + j, none⟩ = some (.slice ra rn rc)) w2)
      have y_d := hS2.2.1
      have hf2 : w2.frozen? ⟨w.heap.size + 1 + 1, 2, none⟩ = false := (World.frozen?_of_block (a := ⟨w.heap.size + 1 + 1, 2, none⟩) (hk2 _ (by simp only []; omega) (by simp only []; omega))).trans ((hb5.frozen (p := ⟨w.heap.size + 1 + 1, 2, none⟩) (by simp only []; omega)).trans hf)
      refine hK.out _ _ ?_ (fun hHeld => ?_)
      · exact hS2
      clear hK K
      try simp only [Act.put, List.setIfInBounds_toArray, List.set_cons_zero, List.set_cons_succ]
      refine wpAnyH_take (i := 11) (v := ?v11) rfl (by kernel_rfl) (by kernel_rfl) (by kernel_rfl) (fun _ _ _ h => h) (Or.inl ⟨by rfl, ?hy11⟩) (by assumption) ?rest11
      case hy11 => intro w hSw; (try dsimp only at hSw); go_simp; (try with_reducible rfl)
      try simp only [Act.put, List.setIfInBounds_toArray, List.set_cons_zero, List.set_cons_succ]
      refine wpAnyH_done (by kernel_rfl) ?_ _
      simp only [LastQ]
      go_simp
      refine NoPanic.normal ?_
      have y_0d : w2.cell? ⟨w.heap.size + 1 + 1, 0, none⟩ = some (.string s) := (World.cell?_of_block (a := ⟨w.heap.size + 1 + 1, 0, none⟩) (hk2 _ (by simp only []; omega) (by simp only []; omega))).trans ((hb5.cell (p := ⟨w.heap.size + 1 + 1, 0, none⟩) (by simp only []; omega)).trans y_0)
      have y_1d : w2.cell? ⟨w.heap.size + 1 + 1, 1, none⟩ = some (.int .i64 i) := (World.cell?_of_block (a := ⟨w.heap.size + 1 + 1, 1, none⟩) (hk2 _ (by simp only []; omega) (by simp only []; omega))).trans ((hb5.cell (p := ⟨w.heap.size + 1 + 1, 1, none⟩) (by simp only []; omega)).trans y_1)
      rw [← HT.out] at hacc2
      have hacc3 := hacc2.setOut (p := ⟨w.heap.size + 1 + 1, 2, none⟩) (hi' := (w2.setCell ⟨w.heap.size + 1 + 1, 2, none⟩ (.slice a2 n2 c2)).heap.size) (.slice a2 n2 c2) (by simp only []; omega) (by simp only []; omega) (by simp [World.setCell])
      have ht3 := ht2.setIn (p := ⟨w.heap.size + 1 + 1, 2, none⟩) (by simp) (by simp) (.slice a2 n2 c2)
      have k0 : (w2.setCell ⟨w.heap.size + 1 + 1, 2, none⟩ (.slice a2 n2 c2)).cell? ⟨w.heap.size + 1 + 1, 0, none⟩ = some (.string s) := by go_simp
      have k1 : (w2.setCell ⟨w.heap.size + 1 + 1, 2, none⟩ (.slice a2 n2 c2)).cell? ⟨w.heap.size + 1 + 1, 1, none⟩ = some (.int .i64 i) := by go_simp
      have k2 : (w2.setCell ⟨w.heap.size + 1 + 1, 2, none⟩ (.slice a2 n2 c2)).cell? ⟨w.heap.size + 1 + 1, 2, none⟩ = some (.slice a2 n2 c2) := by go_simp
      have k3 : (w2.setCell ⟨w.heap.size + 1 + 1, 2, none⟩ (.slice a2 n2 c2)).frozen? ⟨w.heap.size + 1 + 1, 2, none⟩ = false := by go_simp
      go_wp2_with fail
      refine ⟨⟨j + 1, .slice a2 n2 c2, by omega, by go_num, k0, k1, k2, k3, hacc3, ht3⟩, ?_⟩
      simp [intOf]; omega
    · obtain rfl : j = un := by omega
      rw [List.take_of_length_le (by omega)] at hacc
      go_wp2_with fail
      refine bodyPost_ret (v := .agg #[.string s, .int .i64 i, .slice va vn vc]) (by simp [results, Tryz.results74, go_sem, y_0, y_1, y_2, r_0, r_1, r_2, r_f0, r_f1, r_f2]) rfl ⟨_, rfl, ?_, ?_⟩
      · refine oT_mk (x := (s, i, rows)) hs hi (l2 := w.heap.size + 1 + 1 + 1) (m2 := wr.heap.size) ?_ (by omega) (by simp [World.setCell])
        repeat (refine Own.setOut ?_ rfl (by simp only []; omega))
        exact hacc.own (by omega) (by omega) (Nat.le_refl _)
      · repeat (refine Below.setCell ?_ (by simp only []; omega) _)
        exact hb4

end Go.Proofs.YtkipgbgkhffkkaaGreat

/- Plain: answers of queries: joined atom by atom (the program), or searched value by value (the reference). -/
namespace Go.Proofs.YtkipgbgkhffkkaaGreat
open Go.RowKit
set_option linter.unusedVariables false
set_option linter.unusedSimpArgs false

/-- A table's rows, and the variables of an atom for it. -/
abbrev RA := List (List Int) × List Int
/-- Whether a row of a table agrees with the first values of an answer. -/
def agreeJ (av vars row r : List Int) (k j : Nat) : Bool := !decide (vars.getD j 0 = av.getD k 0) || decide (row.getD j 0 = r.getD k 0)
def agreeK (av vars row r : List Int) (k : Nat) : Bool := (List.range row.length).all (agreeJ av vars row r k)
def agree (av vars row r : List Int) : Bool := (List.range av.length).all (agreeK av vars row r)
def fitsB (vars row : List Int) (p : RA) : Bool := p.1.any (agree p.2 vars row)
def fitsAll (l : List RA) (vars row : List Int) : Bool := l.all (fitsB vars row)
theorem agree_iff {av vars row r : List Int} : agree av vars row r = true ↔ ∀ k, k < av.length → ∀ j, j < row.length → vars.getD j 0 = av.getD k 0 → row.getD j 0 = r.getD k 0 := by
  simp only [agree, agreeK, agreeJ, List.all_eq_true, List.mem_range, Bool.or_eq_true, Bool.not_eq_true', decide_eq_false_iff_not, decide_eq_true_eq]
  constructor
  · intro h k hk j hj e
    rcases h k hk j hj with h | h
    · exact absurd e h
    · exact h
  · intro h k hk j hj
    by_cases e : vars.getD j 0 = av.getD k 0
    · exact .inr (h k hk j hj e)
    · exact .inl e
theorem getD_left {xs ys : List Int} {j : Nat} (h : j < xs.length) : (xs ++ ys).getD j 0 = xs.getD j 0 := by
  simp [List.getD_eq_getElem?_getD, List.getElem?_append_left h]
theorem agree_pre {av vars row s r : List Int} (h : agree av vars (row ++ s) r = true) : agree av vars row r = true := by
  rw [agree_iff] at h ⊢
  intro k hk j hj e
  have := h k hk j (by rw [List.length_append]; omega) e
  rwa [getD_left hj] at this
theorem fitsAll_iff {l : List RA} {vars row : List Int} : fitsAll l vars row = true ↔ ∀ p ∈ l, ∃ r ∈ p.1, agree p.2 vars row r = true := by
  simp only [fitsAll, fitsB, List.all_eq_true, List.any_eq_true]
theorem fitsAll_pre {l : List RA} {vars row s : List Int} (h : fitsAll l vars (row ++ s) = true) : fitsAll l vars row = true := by
  rw [fitsAll_iff] at h ⊢
  intro p hp
  obtain ⟨r, hr, ha⟩ := h p hp
  exact ⟨r, hr, agree_pre ha⟩

/-- The reference's search: k values are still to come. -/
def walkE (l : List RA) (vars : List Int) : Nat → List Int → List (List Int)
  | 0, row => if fitsAll l vars row then [row] else []
  | k + 1, row => if fitsAll l vars row then (List.range 10).flatMap (fun v : Nat => walkE l vars k (row ++ [(v : Int)])) else []
theorem walkE_mem {l : List RA} {vars : List Int} : ∀ {k : Nat} {row z : List Int}, z ∈ walkE l vars k row ↔ ∃ s, z = row ++ s ∧ s.length = k ∧ (∀ x ∈ s, 0 ≤ x ∧ x ≤ 9) ∧ fitsAll l vars z = true
  | 0, row, z => by
    unfold walkE
    constructor
    · intro h
      split at h
      · rename_i hf
        simp only [List.mem_singleton] at h
        subst h
        exact ⟨[], by simp, rfl, by simp, hf⟩
      · cases h
    · rintro ⟨s, rfl, hs, _, hf⟩
      have : s = [] := List.eq_nil_of_length_eq_zero hs
      subst this
      rw [List.append_nil] at hf ⊢
      rw [if_pos hf]; simp
  | k + 1, row, z => by
    unfold walkE
    constructor
    · intro h
      split at h
      · obtain ⟨v, hv, hz⟩ := List.mem_flatMap.1 h
        rw [List.mem_range] at hv
        obtain ⟨s, rfl, hs, hx, hf⟩ := walkE_mem.1 hz
        refine ⟨(v : Int) :: s, by simp, by simp [hs], fun x hx' => ?_, hf⟩
        rcases List.mem_cons.1 hx' with rfl | hx'
        · omega
        · exact hx x hx'
      · cases h
    · rintro ⟨s, rfl, hs, hx, hf⟩
      match s, hs with
      | x :: t, hs =>
        rw [if_pos (fitsAll_pre hf)]
        have hx0 := hx x (by simp)
        obtain ⟨v, rfl⟩ := Int.eq_ofNat_of_zero_le hx0.1
        refine List.mem_flatMap.2 ⟨v, List.mem_range.2 (by omega), walkE_mem.2 ⟨t, by simp, by simpa using hs, fun y hy => hx y (by simp [hy]), hf⟩⟩
theorem cmpRows_pre : ∀ (p a b : List Int), cmpRows (p ++ a) (p ++ b) = cmpRows a b
  | [], a, b => rfl
  | x :: p, a, b => by
    show cmpRows (x :: (p ++ a)) (x :: (p ++ b)) = _
    rw [cmpRows, if_neg (by omega), if_neg (by omega)]
    exact cmpRows_pre p a b
theorem walkE_asc {l : List RA} {vars : List Int} : ∀ {k : Nat} {row : List Int}, Asc (walkE l vars k row)
  | 0, row => by unfold walkE; split <;> simp [Asc]
  | k + 1, row => by
    unfold walkE
    split
    · unfold Asc
      rw [List.pairwise_flatMap]
      refine ⟨fun v _ => walkE_asc, ?_⟩
      refine List.pairwise_lt_range.imp ?_
      intro a b hab x hx y hy
      obtain ⟨s, rfl, _⟩ := walkE_mem.1 hx
      obtain ⟨t, rfl, _⟩ := walkE_mem.1 hy
      rw [List.append_assoc, List.append_assoc, cmpRows_pre]
      show cmpRows ((a : Int) :: s) ((b : Int) :: t) < 0
      rw [cmpRows, if_pos (by omega)]; omega
    · exact List.Pairwise.nil
theorem walkE_len (l : List RA) (vars : List Int) : ∀ (k : Nat) (row : List Int), (walkE l vars k row).length ≤ 10 ^ k
  | 0, row => by unfold walkE; split <;> simp
  | k + 1, row => by
    unfold walkE
    split
    · rw [List.length_flatMap]
      have h : ∀ (n : Nat), ((List.range n).map (fun v : Nat => (walkE l vars k (row ++ [(v : Int)])).length)).sum ≤ n * 10 ^ k := by
        intro n
        induction n with
        | zero => simp
        | succ n ih =>
          rw [List.range_succ, List.map_append, List.sum_append, Nat.succ_mul]
          have := walkE_len l vars k (row ++ [(n : Int)])
          simp only [List.map_cons, List.map_nil, List.sum_cons, List.sum_nil]
          omega
      have := h 10
      rw [Nat.pow_succ]; omega
    · simp

/-- The program's join: the values so far, with those of a row put in for an atom's first k variables. -/
def fillX (av r : List Int) : Nat → List Int → List Int
  | 0, x => x
  | k + 1, x => (fillX av r k x).set (av.getD k 0).toNat (r.getD k 0)
def fillAt (av r x : List Int) (k : Nat) : Bool := decide ((fillX av r k x).getD (av.getD k 0).toNat 0 = -1) || decide ((fillX av r k x).getD (av.getD k 0).toNat 0 = r.getD k 0)
def fillOk (av r : List Int) : Nat → List Int → Bool
  | 0, _ => true
  | k + 1, x => fillOk av r k x && fillAt av r x k
def joinRows (av x : List Int) (rows : List (List Int)) : List (List Int) := rows.filterMap (fun r => if fillOk av r av.length x then some (fillX av r av.length x) else none)
def joinL (p : RA) (l : List (List Int)) : List (List Int) := l.flatMap (fun x => joinRows p.2 x p.1)
theorem fillX_len (av r : List Int) : ∀ (k : Nat) (x : List Int), (fillX av r k x).length = x.length
  | 0, x => rfl
  | k + 1, x => by rw [fillX, List.length_set, fillX_len av r k x]
theorem joinRows_len (av x : List Int) (rows : List (List Int)) : (joinRows av x rows).length ≤ rows.length := List.length_filterMap_le _ _
theorem joinRows_at {av x r : List Int} {rows : List (List Int)} {j : Nat} (h : rows[j]? = some r) : joinRows av x (rows.take (j + 1)) = joinRows av x (rows.take j) ++ (if fillOk av r av.length x then [fillX av r av.length x] else []) := by
  rw [List.take_add_one, h]
  simp only [joinRows, List.filterMap_append, Option.toList_some, List.filterMap_cons, List.filterMap_nil]
  split <;> simp_all
theorem joinL_at {p : RA} {l : List (List Int)} {x : List Int} {j : Nat} (h : l[j]? = some x) : joinL p (l.take (j + 1)) = joinL p (l.take j) ++ joinRows p.2 x p.1 := by
  rw [List.take_add_one, h]; simp [joinL]
theorem joinL_len (p : RA) (l : List (List Int)) : (joinL p l).length ≤ l.length * p.1.length := by
  induction l with
  | nil => simp [joinL]
  | cons x t ih =>
    have h1 := joinRows_len p.2 x p.1
    simp only [joinL, List.flatMap_cons, List.length_append, List.length_cons] at ih ⊢
    rw [Nat.succ_mul]; omega
/-- What tables and atoms of a valid query for a database are known to hold. -/
structure FineA (n : Nat) (p : RA) : Prop where
  nodup : p.2.Nodup
  rng : ∀ v ∈ p.2, 0 ≤ v ∧ v < (n : Int)
  row : ∀ r ∈ p.1, r.length = p.2.length ∧ ∀ x ∈ r, 0 ≤ x ∧ x ≤ 9
theorem getD_mem {xs : List Int} {k : Nat} (h : k < xs.length) : xs.getD k 0 ∈ xs := by
  rw [List.getD_eq_getElem?_getD, List.getElem?_eq_getElem h]; exact List.getElem_mem h
theorem getD_inj {xs : List Int} (hn : xs.Nodup) {i k : Nat} (hi : i < xs.length) (hk : k < xs.length) (h : xs.getD i 0 = xs.getD k 0) : i = k := by
  rw [List.getD_eq_getElem?_getD, List.getD_eq_getElem?_getD, List.getElem?_eq_getElem hi, List.getElem?_eq_getElem hk] at h
  have h' := List.pairwise_iff_getElem.1 hn
  simp only [Option.getD_some] at h
  rcases Nat.lt_trichotomy i k with e | e | e
  · exact absurd h (h' i k hi hk e)
  · exact e
  · exact absurd h.symm (h' k i hk hi e)
theorem FineA.place {n : Nat} {p : RA} (h : FineA n p) {k : Nat} (hk : k < p.2.length) : ∃ v : Nat, p.2.getD k 0 = (v : Int) ∧ v < n := by
  have := h.rng _ (getD_mem hk)
  exact ⟨(p.2.getD k 0).toNat, by omega, by omega⟩
theorem getD_set {xs : List Int} {i j : Nat} {u : Int} : (xs.set i u).getD j 0 = if i = j ∧ i < xs.length then u else xs.getD j 0 := by
  rw [List.getD_eq_getElem?_getD, List.getD_eq_getElem?_getD, List.getElem?_set]
  by_cases h : i = j
  · subst h
    by_cases h2 : i < xs.length
    · simp [h2]
    · simp [h2, List.getElem?_eq_none (Nat.le_of_not_lt h2)]
  · simp [h]
theorem fillX_other {av r x : List Int} {v : Nat} : ∀ {k : Nat}, (∀ i, i < k → (av.getD i 0).toNat ≠ v) → (fillX av r k x).getD v 0 = x.getD v 0
  | 0, _ => rfl
  | k + 1, h => by
    rw [fillX, getD_set, if_neg (fun h2 => h k (by omega) h2.1), fillX_other fun i hi => h i (by omega)]
theorem fillX_same {n : Nat} {p : RA} (hp : FineA n p) {r x : List Int} (hx : x.length = n) : ∀ {k : Nat}, k ≤ p.2.length → ∀ i, i < k → (fillX p.2 r k x).getD (p.2.getD i 0).toNat 0 = r.getD i 0
  | 0, _, i, hi => by omega
  | k + 1, hk, i, hi => by
    obtain ⟨v, hv, hvn⟩ := hp.place (k := k) (by omega)
    rw [fillX, getD_set, fillX_len, hx]
    by_cases e : i = k
    · subst e
      rw [if_pos ⟨rfl, by rw [hv]; omega⟩]
    · obtain ⟨u, hu, _⟩ := hp.place (k := i) (by omega)
      rw [if_neg (fun h2 => e ?_), fillX_same hp hx (by omega) i (by omega)]
      refine getD_inj hp.nodup (by omega) (by omega) ?_
      rw [hu, hv] at h2 ⊢
      have := h2.1
      omega
theorem fillOk_iff {n : Nat} {p : RA} (hp : FineA n p) {r x : List Int} : ∀ {k : Nat}, k ≤ p.2.length → (fillOk p.2 r k x = true ↔ ∀ i, i < k → x.getD (p.2.getD i 0).toNat 0 = -1 ∨ x.getD (p.2.getD i 0).toNat 0 = r.getD i 0)
  | 0, _ => by simp [fillOk]
  | k + 1, hk => by
    have e : (fillX p.2 r k x).getD (p.2.getD k 0).toNat 0 = x.getD (p.2.getD k 0).toNat 0 := by
      refine fillX_other fun i hi h => ?_
      obtain ⟨u, hu, _⟩ := hp.place (k := i) (by omega)
      obtain ⟨v, hv, _⟩ := hp.place (k := k) (by omega)
      have := getD_inj hp.nodup (i := i) (k := k) (by omega) (by omega) (by rw [hu, hv] at h ⊢; omega)
      omega
    rw [fillOk, Bool.and_eq_true, fillOk_iff hp (by omega), fillAt, e, Bool.or_eq_true, decide_eq_true_eq, decide_eq_true_eq]
    constructor
    · rintro ⟨h1, h2⟩ i hi
      by_cases e : i = k
      · subst e; exact h2
      · exact h1 i (by omega)
    · intro h
      exact ⟨fun i hi => h i (by omega), h k (by omega)⟩
/-- What the program's list holds when the atoms of L have been joined. -/
structure GoodX (n : Nat) (L : List RA) (x : List Int) : Prop where
  len : x.length = n
  free : ∀ v, v < n → (∀ p ∈ L, (v : Int) ∉ p.2) → x.getD v 0 = -1
  row : ∀ p ∈ L, ∃ r ∈ p.1, ∀ k, k < p.2.length → x.getD (p.2.getD k 0).toNat 0 = r.getD k 0
theorem mem_getD {xs : List Int} {x : Int} (h : x ∈ xs) : ∃ k, k < xs.length ∧ xs.getD k 0 = x := by
  obtain ⟨k, hk, rfl⟩ := List.mem_iff_getElem.1 h
  exact ⟨k, hk, by rw [List.getD_eq_getElem?_getD, List.getElem?_eq_getElem hk]; rfl⟩
theorem ext_getD {xs ys : List Int} (hl : xs.length = ys.length) (h : ∀ j, j < xs.length → xs.getD j 0 = ys.getD j 0) : xs = ys := by
  refine List.ext_getElem hl fun j h1 h2 => ?_
  have := h j h1
  rw [List.getD_eq_getElem?_getD, List.getD_eq_getElem?_getD, List.getElem?_eq_getElem h1, List.getElem?_eq_getElem h2] at this
  exact this
theorem rangeMap_getD {n v : Nat} (f : Nat → Int) (h : v < n) : ((List.range n).map f).getD v 0 = f v := by
  rw [List.getD_eq_getElem?_getD, List.getElem?_map, List.getElem?_range h]; rfl
theorem joinL_good {n : Nat} {L : List RA} {l : List (List Int)} {p : RA} (hl : ∀ x, x ∈ l ↔ GoodX n L x) (hL : ∀ q ∈ L, FineA n q) (hp : FineA n p) (x : List Int) : x ∈ joinL p l ↔ GoodX n (L ++ [p]) x := by
  have hmem : x ∈ joinL p l ↔ ∃ y ∈ l, ∃ r ∈ p.1, fillOk p.2 r p.2.length y = true ∧ fillX p.2 r p.2.length y = x := by
    simp only [joinL, joinRows, List.mem_flatMap, List.mem_filterMap]
    constructor
    · rintro ⟨y, hy, r, hr, h⟩
      split at h
      · rename_i ho; exact ⟨y, hy, r, hr, ho, by simpa using h⟩
      · cases h
    · rintro ⟨y, hy, r, hr, ho, rfl⟩
      exact ⟨y, hy, r, hr, by rw [if_pos ho]⟩
  rw [hmem]
  constructor
  · rintro ⟨y, hy, r, hr, ho, rfl⟩
    have gy := (hl y).1 hy
    have ho' := (fillOk_iff hp (Nat.le_refl _)).1 ho
    have hrr := hp.row r hr
    refine ⟨by rw [fillX_len]; exact gy.len, fun v hv hnv => ?_, fun q hq => ?_⟩
    · rw [fillX_other fun i hi e => ?_]
      · exact gy.free v hv fun q hq => hnv q (List.mem_append_left _ hq)
      · obtain ⟨u, hu, _⟩ := hp.place hi
        refine hnv p (by simp) ?_
        have h3 := getD_mem hi
        rw [hu] at h3 e
        have : u = v := by omega
        rwa [this] at h3
    · rcases List.mem_append.1 hq with hq | hq
      · obtain ⟨s, hs, hsk⟩ := gy.row q hq
        refine ⟨s, hs, fun k hk => ?_⟩
        obtain ⟨u, hu, _⟩ := (hL q hq).place hk
        by_cases e : ∃ i, i < p.2.length ∧ (p.2.getD i 0).toNat = (q.2.getD k 0).toNat
        · obtain ⟨i, hi, e⟩ := e
          have h1 := ho' i hi
          rw [← e, fillX_same hp gy.len (Nat.le_refl _) i hi]
          rw [e, hsk k hk] at h1
          have h2 := ((hL q hq).row s hs).2 (s.getD k 0) (getD_mem (by rw [((hL q hq).row s hs).1]; exact hk))
          omega
        · rw [fillX_other fun i hi h => e ⟨i, hi, h⟩]
          exact hsk k hk
      · simp only [List.mem_singleton] at hq
        subst hq
        exact ⟨r, hr, fun k hk => fillX_same hp gy.len (Nat.le_refl _) k hk⟩
  · intro gx
    obtain ⟨r, hr, hrk⟩ := gx.row p (by simp)
    obtain ⟨y, hy⟩ : ∃ y, y = (List.range n).map (fun v : Nat => if L.any (fun q => has q.2 (v : Int)) then x.getD v 0 else -1) := ⟨_, rfl⟩
    have hyl : y.length = n := by rw [hy]; simp
    have hyv : ∀ v, v < n → y.getD v 0 = if L.any (fun q => has q.2 (v : Int)) then x.getD v 0 else -1 := fun v hv => by rw [hy, rangeMap_getD _ hv]
    refine ⟨y, (hl y).2 ⟨hyl, fun v hv hnv => ?_, fun q hq => ?_⟩, r, hr, ?_, ?_⟩
    · rw [hyv v hv, if_neg]
      simp only [List.any_eq_true, has, decide_eq_true_eq, not_exists, not_and]
      exact fun q hq => hnv q hq
    · obtain ⟨s, hs, hsk⟩ := gx.row q (List.mem_append_left _ hq)
      refine ⟨s, hs, fun k hk => ?_⟩
      obtain ⟨u, hu, hun⟩ := (hL q hq).place hk
      rw [← hsk k hk, hu]
      simp only [Int.toNat_natCast]
      rw [hyv u hun, if_pos]
      simp only [List.any_eq_true, has, decide_eq_true_eq]
      exact ⟨q, hq, by rw [← hu]; exact getD_mem hk⟩
    · rw [fillOk_iff hp (Nat.le_refl _)]
      intro i hi
      obtain ⟨u, hu, hun⟩ := hp.place hi
      have h1 := hrk i hi
      rw [hu] at h1 ⊢
      simp only [Int.toNat_natCast] at h1 ⊢
      rw [hyv u hun]
      split
      · exact .inr h1
      · exact .inl rfl
    · refine ext_getD (by rw [fillX_len, hyl, gx.len]) fun v hv => ?_
      rw [fillX_len, hyl] at hv
      by_cases e : ∃ i, i < p.2.length ∧ (p.2.getD i 0).toNat = v
      · obtain ⟨i, hi, rfl⟩ := e
        rw [fillX_same hp hyl (Nat.le_refl _) i hi, hrk i hi]
      · rw [fillX_other fun i hi h => e ⟨i, hi, h⟩, hyv v hv]
        split
        · rfl
        · rename_i h3
          refine (gx.free v hv fun q hq hm => ?_).symm
          rcases List.mem_append.1 hq with hq | hq
          · exact h3 (by simp only [List.any_eq_true, has, decide_eq_true_eq]; exact ⟨q, hq, hm⟩)
          · simp only [List.mem_singleton] at hq
            subst hq
            obtain ⟨i, hi, hiv⟩ := mem_getD hm
            exact e ⟨i, hi, by rw [hiv]; simp⟩
/-- All atoms joined. -/
def joinAll (n : Nat) (L : List RA) : List (List Int) := L.foldl (fun l p => joinL p l) [List.replicate n (-1)]
theorem joinAll_good {n : Nat} {L : List RA} (hL : ∀ q ∈ L, FineA n q) (x : List Int) : x ∈ joinAll n L ↔ GoodX n L x := by
  have key : ∀ (M K : List RA) (l : List (List Int)), (∀ x, x ∈ l ↔ GoodX n K x) → (∀ q ∈ K, FineA n q) → (∀ q ∈ M, FineA n q) → ∀ x, x ∈ M.foldl (fun l p => joinL p l) l ↔ GoodX n (K ++ M) x := by
    intro M
    induction M with
    | nil => intro K l h _ _ x; simpa using h x
    | cons p M ih =>
      intro K l h hK hM x
      have := ih (K ++ [p]) (joinL p l) (joinL_good h hK (hM p (by simp))) (fun q hq => by
        rcases List.mem_append.1 hq with hq | hq
        · exact hK q hq
        · simp only [List.mem_singleton] at hq; subst hq; exact hM q (by simp)) (fun q hq => hM q (by simp [hq])) x
      simpa using this
  have h0 : ∀ x, x ∈ [List.replicate n (-1 : Int)] ↔ GoodX n [] x := by
    intro x
    simp only [List.mem_singleton]
    constructor
    · rintro rfl
      refine ⟨by simp, fun v hv _ => ?_, fun p hp => by cases hp⟩
      rw [List.getD_eq_getElem?_getD, List.getElem?_replicate, if_pos hv]; rfl
    · intro g
      refine ext_getD (by rw [g.len]; simp) fun v hv => ?_
      rw [g.len] at hv
      rw [g.free v hv (fun p hp => by cases hp), List.getD_eq_getElem?_getD, List.getElem?_replicate, if_pos hv]; rfl
  have := key L [] _ h0 (fun q hq => by cases hq) hL x
  simpa [joinAll] using this
theorem joinAll_snoc (n : Nat) (L : List RA) (p : RA) : joinAll n (L ++ [p]) = joinL p (joinAll n L) := by simp [joinAll]
theorem joinAll_len {n : Nat} {L : List RA} (h : ∀ p ∈ L, p.1.length ≤ 8) : (joinAll n L).length ≤ 8 ^ L.length := by
  have key : ∀ (M : List RA) (l : List (List Int)), (∀ p ∈ M, p.1.length ≤ 8) → (M.foldl (fun l p => joinL p l) l).length ≤ l.length * 8 ^ M.length := by
    intro M
    induction M with
    | nil => intro l _; simp
    | cons p M ih =>
      intro l h
      have h1 := ih (joinL p l) (fun q hq => h q (by simp [hq]))
      have h2 := joinL_len p l
      have h3 : l.length * p.1.length ≤ l.length * 8 := Nat.mul_le_mul_left _ (h p (by simp))
      have h4 : (joinL p l).length * 8 ^ M.length ≤ l.length * 8 * 8 ^ M.length := Nat.mul_le_mul_right _ (Nat.le_trans h2 h3)
      rw [List.foldl_cons, List.length_cons, Nat.pow_succ, Nat.mul_comm (8 ^ M.length) 8, ← Nat.mul_assoc]
      exact Nat.le_trans h1 h4
  simpa [joinAll] using key L [List.replicate n (-1)] h
theorem joinAll_row {n : Nat} {L : List RA} (hL : ∀ q ∈ L, FineA n q) {x : List Int} (h : x ∈ joinAll n L) : x.length = n := ((joinAll_good hL x).1 h).len
/-- The two answers are one. -/
theorem answer_eq {n : Nat} {L : List RA} {V : List Int} (hL : ∀ q ∈ L, FineA n q) (hV : V.Nodup) (hm : ∀ v, v ∈ V ↔ (0 ≤ v ∧ v < (n : Int) ∧ ∃ p ∈ L, v ∈ p.2)) : canon ((joinAll n L).map (fun x => sel x V)) = walkE L V V.length [] := by
  refine (canon_uniq walkE_asc fun z => ?_).symm
  have hsel : ∀ x, x ∈ joinAll n L → sel x V = selAt x V := fun x hx => by
    unfold sel
    rw [if_pos]
    rw [selOk, List.all_eq_true]
    intro v hv
    have h1 := (hm v).1 hv
    rw [joinAll_row hL hx]
    simp only [betw, Bool.and_eq_true, decide_eq_true_eq]
    omega
  rw [walkE_mem, List.mem_map]
  constructor
  · rintro ⟨s, hze, hs, hx, hf⟩
    rw [List.nil_append] at hze
    subst hze
    obtain ⟨x, hxe⟩ : ∃ x, x = (List.range n).map (fun v : Nat => if (v : Int) ∈ V then z.getD (V.idxOf (v : Int)) 0 else -1) := ⟨_, rfl⟩
    have hxl : x.length = n := by rw [hxe]; simp
    have hxv : ∀ v, v < n → x.getD v 0 = if (v : Int) ∈ V then z.getD (V.idxOf (v : Int)) 0 else -1 := fun v hv => by rw [hxe, rangeMap_getD _ hv]
    have gx : GoodX n L x := by
      refine ⟨hxl, fun v hv hnv => ?_, fun p hp => ?_⟩
      · rw [hxv v hv, if_neg]
        intro hvV
        obtain ⟨p, hp, hpv⟩ := ((hm _).1 hvV).2.2
        exact hnv p hp hpv
      · obtain ⟨r, hr, ha⟩ := fitsAll_iff.1 hf p hp
        rw [agree_iff] at ha
        refine ⟨r, hr, fun k hk => ?_⟩
        obtain ⟨u, hu, hun⟩ := (hL p hp).place hk
        have huV : (u : Int) ∈ V := (hm _).2 ⟨by omega, by omega, p, hp, by rw [← hu]; exact getD_mem hk⟩
        have hi := List.idxOf_lt_length_of_mem huV
        rw [hu]
        simp only [Int.toNat_natCast]
        rw [hxv u hun, if_pos huV]
        refine ha k hk _ (by rw [hs]; exact hi) ?_
        rw [hu, List.getD_eq_getElem?_getD, List.getElem?_eq_getElem hi]
        simp
    have hxj := (joinAll_good hL x).2 gx
    refine ⟨x, hxj, ?_⟩
    rw [hsel x hxj]
    refine ext_getD (by rw [selAt_len, hs]) fun j hj => ?_
    rw [selAt_len] at hj
    have hVj : V.getD j 0 ∈ V := getD_mem hj
    have h1 := (hm _).1 hVj
    have e : (selAt x V).getD j 0 = x.getD (V.getD j 0).toNat 0 := by
      simp [selAt, List.getD_eq_getElem?_getD, List.getElem?_map, List.getElem?_eq_getElem hj]
    obtain ⟨u, hu⟩ := Int.eq_ofNat_of_zero_le h1.1
    rw [e, hu]
    simp only [Int.toNat_natCast]
    rw [hu] at hVj h1
    rw [hxv u (by omega), if_pos hVj]
    congr 1
    refine getD_inj hV (List.idxOf_lt_length_of_mem hVj) hj ?_
    rw [hu, List.getD_eq_getElem?_getD, List.getElem?_eq_getElem (List.idxOf_lt_length_of_mem hVj)]
    simp
  · rintro ⟨x, hx, rfl⟩
    have gx := (joinAll_good hL x).1 hx
    rw [hsel x hx]
    have e : ∀ j, j < V.length → (selAt x V).getD j 0 = x.getD (V.getD j 0).toNat 0 := fun j hj => by
      simp [selAt, List.getD_eq_getElem?_getD, List.getElem?_map, List.getElem?_eq_getElem hj]
    have hval : ∀ v ∈ V, 0 ≤ x.getD v.toNat 0 ∧ x.getD v.toNat 0 ≤ 9 := by
      intro v hv
      obtain ⟨_, _, p, hp, hpv⟩ := (hm v).1 hv
      obtain ⟨r, hr, hrk⟩ := gx.row p hp
      obtain ⟨k, hk, rfl⟩ := mem_getD hpv
      rw [hrk k hk]
      exact ((hL p hp).row r hr).2 _ (getD_mem (by rw [((hL p hp).row r hr).1]; exact hk))
    refine ⟨selAt x V, by simp, selAt_len x V, ?_, ?_⟩
    · intro y hy
      simp only [selAt, List.mem_map] at hy
      obtain ⟨v, hv, rfl⟩ := hy
      exact hval v hv
    · rw [fitsAll_iff]
      intro p hp
      obtain ⟨r, hr, hrk⟩ := gx.row p hp
      refine ⟨r, hr, agree_iff.2 fun k hk j hj ej => ?_⟩
      rw [selAt_len] at hj
      rw [e j hj, ej, hrk k hk]

end Go.Proofs.YtkipgbgkhffkkaaGreat

/- Marks of databases. Written by a program. -/
namespace Go.Proofs.YtkipgbgkhffkkaaGreat
open Go.RowKit
set_option linter.unusedVariables false
set_option linter.unusedSimpArgs false
set_option synthInstance.maxSize 2000
set_option synthInstance.maxHeartbeats 400000

def cnt_Db (x : DDb) : Nat := cnt_Tl x
def mk_Db (k : Int) (x : DDb) : DDb := mk_Tl k x
theorem cnt_le_Db (x : DDb) : cnt_Db x ≤ 2 * bulk_Db x := by
  have h0 := cnt_le_Tl x
  simp only [cnt_Db, bulk_Db]; omega

set_option maxHeartbeats 1000000 in
theorem mark_Db (us : List Value) (x : DDb) (k : Int) (lo hi : Nat) (w : World) (h : Own oDb lo hi w us x) (hh : hi ≤ w.heap.size) (k0 : 1 ≤ k) (k1 : k + cnt_Db x ≤ 1000000000) (hb : bulk_Db x ≤ 100000000) :
    Calls Tryz.prog 16 #[.agg us.toArray, .int .i64 k] w fun e w' => e = .returned (.int .i64 (k + cnt_Db x)) ∧ Own oDb lo hi w' us (mk_Db k x) ∧ Turn lo hi w w' := by
  obtain ⟨fp, hrep, hfn, hfr⟩ := h
  have t0 := hrep
  obtain ⟨a0, n0, rfl⟩ := oS_len t0
  have HN := Lib.hid hfn
  have HFR := Lib.hid hfr
  try simp only [List.nodup_append, List.nil_append, List.append_nil] at hfn
  have hn0 : fp.Nodup := by first | exact hfn | exact hfn.1 | exact hfn.2.1 | exact hfn.2.1.1 | exact hfn.2.1.2.1
  have hlt0 : ∀ p9, p9 ∈ fp → p9 < w.heap.size := fun p9 hp9 => by have := hfr p9 (by simp [hp9]); omega
  simp only [cnt_Db, bulk_Db] at *
  clear hfn hfr
  go_enter Tryz.func16, Tryz.ntmps16
  obtain ⟨w1, hw1⟩ : ∃ W, W = w.alloc (.cells #[.slice a0 x.length n0] 34) := ⟨_, rfl⟩
  have z1 : Below w.heap.size w w1 := by rw [hw1]; exact (Below.refl _ _).alloc (Nat.le_refl _) _
  have A1 := Alt.below (fp := fp) z1
  have c0 : w1.cell? ⟨w.heap.size, 0, none⟩ = some (.slice a0 x.length n0) := by rw [hw1]; exact box_cell (Below.refl _ _) rfl
  replace t0 := oTl.frame t0 (fun p9 hp9 => z1.block p9 (hlt0 p9 hp9))
  have hz1 := z1.size
  go_wp2_with fail
  rw [← hw1]
  clear hw1 z1
  refine (markR_Tl a0 x.length n0 x fp _ _ t0 hn0 (by omega) (by omega) (by omega)).mono ?_
  rintro e w2 ⟨rfl, t0, z2⟩
  have A2 := A1.trans (z2.mono (fq := fp) (fun p9 hp9 => by simp [hp9]))
  clear z2
  have HR : Hid (Own oDb lo hi w2 [.slice a0 x.length n0] (mk_Db k x) ∧ Turn lo hi w w2) := ⟨⟨_, t0, HN.out, HFR.out⟩, A2.turn HFR.out⟩
  clear t0 A1 A2
  go_wp2_with fail
  go_ret
  exact ⟨ret_int (by simp only [cnt_I, cnt_II] <;> omega), HR.out⟩

end Go.Proofs.YtkipgbgkhffkkaaGreat

/- Marks of queries. Written by a program. -/
namespace Go.Proofs.YtkipgbgkhffkkaaGreat
open Go.RowKit
set_option linter.unusedVariables false
set_option linter.unusedSimpArgs false
set_option synthInstance.maxSize 2000
set_option synthInstance.maxHeartbeats 400000

def cnt_Q (x : DQ) : Nat := cnt_As x.2
def mk_Q (k : Int) (x : DQ) : DQ := (x.1, mk_As k x.2)
theorem cnt_le_Q (x : DQ) : cnt_Q x ≤ 2 * bulk_Q x := by
  have h1 := cnt_le_As x.2
  simp only [cnt_Q, bulk_Q]; omega

set_option maxHeartbeats 1000000 in
theorem mark_Q (us : List Value) (x : DQ) (k : Int) (lo hi : Nat) (w : World) (h : Own oQ lo hi w us x) (hh : hi ≤ w.heap.size) (k0 : 1 ≤ k) (k1 : k + cnt_Q x ≤ 1000000000) (hb : bulk_Q x ≤ 100000000) :
    Calls Tryz.prog 17 #[.agg us.toArray, .int .i64 k] w fun e w' => e = .returned (.int .i64 (k + cnt_Q x)) ∧ Own oQ lo hi w' us (mk_Q k x) ∧ Turn lo hi w w' := by
  obtain ⟨fp, hrep, hfn, hfr⟩ := h
  obtain ⟨c0, d0, p0, q0, rfl, rfl, ⟨rfl, hs0, rfl⟩, t1⟩ := hrep
  obtain ⟨a1, n1, rfl⟩ := oS_len t1
  have HN := Lib.hid hfn
  have HFR := Lib.hid hfr
  try simp only [List.nodup_append, List.nil_append, List.append_nil] at hfn
  have hn1 : q0.Nodup := by first | exact hfn | exact hfn.1 | exact hfn.2.1 | exact hfn.2.1.1 | exact hfn.2.1.2.1
  have hlt1 : ∀ p9, p9 ∈ q0 → p9 < w.heap.size := fun p9 hp9 => by have := hfr p9 (by simp [hp9]); omega
  simp only [cnt_Q, bulk_Q] at *
  clear hfn hfr
  go_enter Tryz.func17, Tryz.ntmps17
  obtain ⟨w1, hw1⟩ : ∃ W, W = w.alloc (.cells #[.int .i64 x.1, .slice a1 x.2.length n1] 38) := ⟨_, rfl⟩
  have z1 : Below w.heap.size w w1 := by rw [hw1]; exact (Below.refl _ _).alloc (Nat.le_refl _) _
  have A1 := Alt.below (fp := [] ++ q0) z1
  have c1 : w1.cell? ⟨w.heap.size, 1, none⟩ = some (.slice a1 x.2.length n1) := by rw [hw1]; exact box_cell (Below.refl _ _) rfl
  replace t1 := oAs.frame t1 (fun p9 hp9 => z1.block p9 (hlt1 p9 hp9))
  have hz1 := z1.size
  go_wp2_with fail
  rw [← hw1]
  clear hw1 z1
  refine (markR_As a1 x.2.length n1 x.2 q0 _ _ t1 hn1 (by omega) (by omega) (by omega)).mono ?_
  rintro e w2 ⟨rfl, t1, z2⟩
  have A2 := A1.trans (z2.mono (fq := [] ++ q0) (fun p9 hp9 => by simp [hp9]))
  clear z2
  have HR : Hid (Own oQ lo hi w2 [.int .i64 x.1, .slice a1 x.2.length n1] (mk_Q k x) ∧ Turn lo hi w w2) := ⟨⟨_, ⟨[.int .i64 x.1], [.slice a1 x.2.length n1], [], _, rfl, rfl, ⟨rfl, hs0, rfl⟩, t1⟩, HN.out, HFR.out⟩, A2.turn HFR.out⟩
  clear t1 A1 A2
  go_wp2_with fail
  go_ret
  exact ⟨ret_int (by simp only [cnt_I, cnt_II] <;> omega), HR.out⟩

end Go.Proofs.YtkipgbgkhffkkaaGreat

/- Plain facts: masks of atoms, and the variables of what they hold. -/
namespace Go.Proofs.YtkipgbgkhffkkaaGreat
open Go.RowKit
set_option linter.unusedVariables false
set_option linter.unusedSimpArgs false

/-- What a valid query is known to hold. -/
structure QOk (q : DQ) (n : Nat) : Prop where
  cnt : q.1 = n
  pos : 1 ≤ n
  le : n ≤ 4
  lpos : 1 ≤ q.2.length
  len : q.2.length ≤ 4
  name : ∀ a ∈ q.2, nameB a.1 = true
  vpos : ∀ a ∈ q.2, 1 ≤ a.2.length
  vlen : ∀ a ∈ q.2, a.2.length ≤ 3
  vars : ∀ a ∈ q.2, ∀ v ∈ a.2, 0 ≤ v ∧ v < n
theorem varsFrom_mem {n : Int} : ∀ {vs pre : List Int}, varsFrom n pre vs = true → ∀ v ∈ vs, 0 ≤ v ∧ v < n
  | [], _, _, v, hv => by cases hv
  | x :: t, pre, h, v, hv => by
    simp only [varsFrom, Bool.and_eq_true, betw, decide_eq_true_eq] at h
    rcases List.mem_cons.1 hv with rfl | hv
    · omega
    · exact varsFrom_mem h.2 v hv
theorem validFrom_atoms {n : Nat} : ∀ {xs : List DA} {m : Nat}, validFrom n m xs = true → ∀ a ∈ xs, nameB a.1 = true ∧ 1 ≤ a.2.length ∧ a.2.length ≤ 3 ∧ ∀ v ∈ a.2, 0 ≤ v ∧ v < (n : Int)
  | [], _, _, a, ha => by cases ha
  | x :: t, m, h, a, ha => by
    simp only [validFrom, Bool.and_eq_true, betw, decide_eq_true_eq] at h
    rcases List.mem_cons.1 ha with rfl | ha
    · exact ⟨h.1.1, by omega, by omega, varsFrom_mem h.2.1⟩
    · exact validFrom_atoms h.2.2 a ha
theorem QOk.of {q : DQ} (h : validQ q = true) : ∃ n, QOk q n := by
  simp only [validQ, Bool.and_eq_true, betw, decide_eq_true_eq] at h
  have hf := validFrom_atoms h.2
  refine ⟨q.1.toNat, by omega, by omega, by omega, by omega, by omega, fun a ha => (hf a ha).1, fun a ha => (hf a ha).2.1, fun a ha => (hf a ha).2.2.1, fun a ha => (hf a ha).2.2.2⟩

/-- The variables, as bits, of the atoms of a mask; i: the first atom's number. -/
def qbits (K m : Nat) : Nat → List DA → Nat
  | _, [] => m
  | i, a :: t => qbits K (if bitAt K i then vbits m a.2 else m) (i + 1) t
/-- The variables of a mask. -/
def bitsOf (q : DQ) (K : Nat) : Nat := qbits K 0 0 q.2

theorem qbits_at {K m j : Nat} {xs : List DA} {a : DA} (h : xs[j]? = some a) : qbits K m j (xs.drop j) = qbits K (if bitAt K j then vbits m (a.2.drop 0) else m) (j + 1) (xs.drop (j + 1)) := by
  obtain ⟨h1, rfl⟩ := List.getElem?_eq_some_iff.1 h
  rw [List.drop_eq_getElem_cons h1]; simp [qbits]
theorem qbits_end {K m j : Nat} {xs : List DA} (h : xs.length ≤ j) : qbits K m j (xs.drop j) = m := by
  rw [List.drop_eq_nil_of_le h]; rfl

theorem vbits_or : ∀ (vs : List Int) (m : Nat), vbits m vs = m ||| vbits 0 vs
  | [], m => by simp [vbits]
  | v :: t, m => by
    rw [vbits, vbits, vbits_or t (m ||| 2 ^ v.toNat), vbits_or t (0 ||| 2 ^ v.toNat), Nat.zero_or, Nat.or_assoc]
theorem vbits_lt {n : Nat} : ∀ {vs : List Int} {m : Nat}, (∀ v ∈ vs, 0 ≤ v ∧ v < (n : Int)) → m < 2 ^ n → vbits m vs < 2 ^ n
  | [], m, _, hm => hm
  | v :: t, m, h, hm => by
    have h1 := h v (by simp)
    have h2 : v.toNat < n := by omega
    show vbits (m ||| 2 ^ v.toNat) t < 2 ^ n
    exact @vbits_lt n t (m ||| 2 ^ v.toNat) (fun x hx => h x (by simp [hx])) (or_lt hm h2)
theorem vbits_test {j : Nat} : ∀ {vs : List Int} {m : Nat}, (∀ v ∈ vs, 0 ≤ v) → ((vbits m vs).testBit j = (m.testBit j || has vs (j : Int)))
  | [], m, _ => by simp [vbits, has]
  | v :: t, m, h => by
    have hv := h v (by simp)
    rw [vbits, vbits_test (fun x hx => h x (by simp [hx])), Nat.testBit_or, Bool.or_assoc]
    congr 1
    obtain ⟨k, rfl⟩ := Int.eq_ofNat_of_zero_le hv
    by_cases e : k = j
    · subst e
      simp [Nat.testBit_two_pow_self, has]
    · have e' : ¬ (j : Int) = (k : Int) := by omega
      simp [Nat.testBit_two_pow_of_ne e, has, e']
theorem qbits_lt {K n : Nat} : ∀ {xs : List DA} {m i : Nat}, (∀ a ∈ xs, ∀ v ∈ a.2, 0 ≤ v ∧ v < (n : Int)) → m < 2 ^ n → qbits K m i xs < 2 ^ n
  | [], m, i, _, hm => hm
  | a :: t, m, i, h, hm => by
    rw [qbits]
    refine qbits_lt (fun b hb => h b (by simp [hb])) ?_
    split
    · exact vbits_lt (h a (by simp)) hm
    · exact hm
theorem QOk.bits_lt {q : DQ} {n : Nat} (h : QOk q n) (K : Nat) : bitsOf q K < 2 ^ n := qbits_lt h.vars (Nat.two_pow_pos _)
/-- Whether some atom of a mask, from atom i on, holds variable v. -/
def someFrom (K v : Nat) : Nat → List DA → Bool
  | _, [] => false
  | i, a :: t => (bitAt K i && has a.2 (v : Int)) || someFrom K v (i + 1) t
theorem someFrom_at {K v j : Nat} {xs : List DA} {a : DA} (h : xs[j]? = some a) : someFrom K v j (xs.drop j) = ((bitAt K j && has a.2 (v : Int)) || someFrom K v (j + 1) (xs.drop (j + 1))) := by
  obtain ⟨h1, rfl⟩ := List.getElem?_eq_some_iff.1 h
  rw [List.drop_eq_getElem_cons h1]; rfl
theorem someFrom_end {K v j : Nat} {xs : List DA} (h : xs.length ≤ j) : someFrom K v j (xs.drop j) = false := by
  rw [List.drop_eq_nil_of_le h]; rfl
theorem qbits_some {K v : Nat} : ∀ {xs : List DA} {m i : Nat}, (∀ a ∈ xs, ∀ v ∈ a.2, 0 ≤ v) → ((qbits K m i xs).testBit v = (m.testBit v || someFrom K v i xs))
  | [], m, i, _ => by simp [qbits, someFrom]
  | a :: t, m, i, h => by
    rw [qbits, qbits_some (fun b hb => h b (by simp [hb])), someFrom]
    split
    · rename_i hb; rw [vbits_test (h a (by simp)), hb]; simp [Bool.or_assoc]
    · rename_i hb; simp [hb]
theorem QOk.some {q : DQ} {n : Nat} (h : QOk q n) (K v : Nat) : bitAt (bitsOf q K) v = someFrom K v 0 (q.2.drop 0) := by
  rw [bitAt_testBit, bitsOf, qbits_some (fun a ha x hx => (h.vars a ha x hx).1)]; simp
/-- The variables of a mask. -/
def varsOf (q : DQ) (K : Nat) : List Int := bitsTo (bitsOf q K) 4
theorem bitsTo_more {x n : Nat} (h : x < 2 ^ n) : ∀ k, bitsTo x (n + k) = bitsTo x n
  | 0 => rfl
  | k + 1 => by
    rw [show n + (k + 1) = n + k + 1 by omega, bitsTo_no, bitsTo_more h k]
    rw [bitAt_testBit]
    exact Nat.testBit_lt_two_pow (Nat.lt_of_lt_of_le h (Nat.pow_le_pow_right (by omega) (by omega)))
theorem QOk.varsOf {q : DQ} {n : Nat} (h : QOk q n) (K : Nat) : varsOf q K = bitsTo (bitsOf q K) n := by
  have := bitsTo_more (h.bits_lt K) (4 - n)
  rw [show n + (4 - n) = 4 by have := h.le; omega] at this
  exact this
theorem bitsTo_has {x : Nat} : ∀ {m v : Nat}, has (bitsTo x m) (v : Int) = (decide (v < m) && x.testBit v)
  | 0, v => by simp [bitsTo, has]
  | m + 1, v => by
    have ih := @bitsTo_has x m v
    simp only [has] at ih ⊢
    rw [Bool.eq_iff_iff] at ih ⊢
    simp only [decide_eq_true_eq, Bool.and_eq_true] at ih ⊢
    simp only [bitsTo, List.mem_append]
    rw [bitAt_testBit]
    constructor
    · rintro (h | h)
      · have := ih.1 h; exact ⟨by omega, this.2⟩
      · split at h
        · rename_i hb; simp only [List.mem_singleton] at h; obtain rfl : v = m := by omega
          exact ⟨by omega, hb⟩
        · simp at h
    · rintro ⟨h1, h2⟩
      rcases Nat.lt_or_ge v m with h3 | h3
      · exact .inl (ih.2 ⟨h3, h2⟩)
      · obtain rfl : v = m := by omega
        right; simp [h2]
theorem varsOf_has (q : DQ) {K v : Nat} (hv : v < 4) : has (varsOf q K) (v : Int) = (bitsOf q K).testBit v := by
  rw [Go.Proofs.YtkipgbgkhffkkaaGreat.varsOf, bitsTo_has]; simp [hv]

/-- The full mask of a query. -/
def fullMask (q : DQ) : Int := if validQ q then ((2 ^ q.2.length - 1 : Nat) : Int) else 0
/-- Whether a query is valid and a mask one of its atoms. -/
def maskOkB (q : DQ) (k : Int) : Bool := validQ q && betw k 0 ((2 ^ q.2.length - 1 : Nat) : Int)
/-- MaskVariables. -/
def maskVars (q : DQ) (k : Int) : List Int := if maskOkB q k then varsOf q k.toNat else []
theorem maskVars_no {q : DQ} {k : Int} (h : maskOkB q k = false) : maskVars q k = [] := by simp [maskVars, h]
theorem maskVars_yes {q : DQ} {K : Nat} (h : maskOkB q (K : Int) = true) : maskVars q (K : Int) = varsOf q K := by simp [maskVars, h]
theorem maskOkB_lt {q : DQ} {k : Int} (h : maskOkB q k = true) : ∃ K : Nat, k = K ∧ K < 2 ^ q.2.length := by
  simp only [maskOkB, Bool.and_eq_true, betw, decide_eq_true_eq] at h
  have := Nat.two_pow_pos q.2.length
  exact ⟨k.toNat, by omega, by omega⟩
theorem maskOkB_valid {q : DQ} {k : Int} (h : maskOkB q k = true) : validQ q = true := by
  simp only [maskOkB, Bool.and_eq_true] at h; exact h.1
theorem varsOf_len (q : DQ) (K : Nat) : (varsOf q K).length ≤ 4 := bitsTo_len _ _
theorem maskVars_len (q : DQ) (k : Int) : (maskVars q k).length ≤ 4 := by
  unfold maskVars; split
  · exact varsOf_len _ _
  · simp
/-- What of one list is among another. -/
def both (xs ys : List Int) : List Int := xs.filter (has ys)
theorem both_yes {xs ys : List Int} {j : Nat} {x : Int} (hj : j < xs.length) (hx : xs.getD j 0 = x) (h : has ys x = true) : both (xs.take (j + 1)) ys = both (xs.take j) ys ++ [x] := by
  rw [take_snoc xs j hj, hx, both, List.filter_append, both]; simp [h]
theorem both_no {xs ys : List Int} {j : Nat} {x : Int} (hj : j < xs.length) (hx : xs.getD j 0 = x) (h : has ys x = false) : both (xs.take (j + 1)) ys = both (xs.take j) ys := by
  rw [take_snoc xs j hj, hx, both, List.filter_append, both]; simp [h]
theorem both_len (xs ys : List Int) : (both xs ys).length ≤ xs.length := List.length_filter_le _ _
theorem both_end {xs ys : List Int} {j : Nat} (h : xs.length ≤ j) : both (xs.take j) ys = both xs ys := by rw [List.take_of_length_le h]
end Go.Proofs.YtkipgbgkhffkkaaGreat

/- Arguments of kind Db opened. Written by a program. -/
namespace Go.Proofs.YtkipgbgkhffkkaaGreat
open Go.ChangeShapes Go.WideShapes Go.ChangeAt Go.RowKit
set_option linter.unusedVariables false
set_option maxRecDepth 100000

theorem opens_Db : Opens 24 rDb := opens_struct1 Tryz.underlying24 (by kernel_rfl) rfl (by kernel_rfl) opens_Tl
abbrev kDb_in := agg_in rDb
theorem open_kDb_in {H : Type} {enc : TypeId × Value → H} {W : World} {d : DataW H} {ps : List MemPlace} {v : Value} (hv : Value.okWide Tryz.prog W .any 0 24 v) (h : DataW.Trod enc Tryz.prog W 0 (fun _ => true) true 24 v d ps) : kDb_in W v :=
  open_agg_in Tryz.underlying24 opens_Db hv h

end Go.Proofs.YtkipgbgkhffkkaaGreat

/- Two slices that a loop appends to (rows, and ints), beside a cell of its own. -/
namespace Go.Proofs.YtkipgbgkhffkkaaGreat
open Go.RowKit
set_option linter.unusedVariables false
set_option linter.unusedSimpArgs false

/-- append of one element, run: the footprints told. -/
theorem run_app_fp {α : Type} {T E size bytes : Nat} {z : Value} (hT : Tryz.prog.underlying T = some (.slice E)) (hE : (Tryz.prog.info? E).map (fun i => (i.zero, i.size, i.bytes)) = some (some z, size, bytes)) (hz : z.cells.size = size) (hpos : 0 < size) (hby : bytes ≤ 1000)
    {o' : OS α} (hsz : o'.size = size) {W W1 : World} (ty : TypeId) (v : Value) (xs : List α) (c : List Value) (y : α) (fv fy : List Nat)
    (hv : (O.slice E o').rep W [v] xs fv) (hnd : fv.Nodup) (hyr : o'.rep W c y fy) (hynd : fy.Nodup) (hdis : ∀ k ∈ fy, k ∉ fv) (hone : ∀ u ∈ c, u.oneCell' = true) (hn : xs.length ≤ 100000000) (hW1 : W1 = W.alloc (.cells c.toArray E)) :
    ∃ a n cp w' fv', (Builtin.append_ #[T, T] ty #[v, .slice (some ⟨W.heap.size, 0, none⟩) 1 1]).run Tryz.prog W1 = .ok (.slice a n cp) w' ∧ (O.slice E o').rep w' [.slice a n cp] (xs ++ [y]) fv' ∧ fv'.Nodup ∧ (∀ k ∈ fv', k ∈ fv ∨ k ∈ fy ∨ (W.heap.size < k ∧ k < w'.heap.size)) ∧ W.heap.size < w'.heap.size ∧ (w'.os = W.os ∧ w'.tape = W.tape ∧ w'.output = W.output) ∧ (∀ k, k < W.heap.size → k ∉ fv → w'.heap[k]? = W.heap[k]?) := by
  subst hW1
  obtain ⟨i, hi, hz0, hz1, hz2⟩ := info_parts hE
  have hlt9 := (O.slice E o').lt hv
  obtain ⟨v1, css, fps, hv1, rfl, hrow, hrows⟩ := hv
  simp at hv1
  subst hv1
  have hclen : c.length = size := by rw [← hsz]; exact o'.len hyr
  rw [hsz] at hrow
  have hnl := List.nodup_append.1 hnd
  have hnew : Below W.heap.size W (W.alloc (.cells c.toArray E)) := (Below.refl _ _).alloc (Nat.le_refl _) _
  have hrow1 := own_below hrow hnew (Nat.le_refl _)
  have hylt := o'.lt hyr
  have hby2 : (xs.length + 1) * bytes ≤ 140737488355328 := Nat.le_trans (Nat.mul_le_mul (show xs.length + 1 ≤ 100000001 by omega) hby) (by decide)
  obtain ⟨v', w', hrun, h3, h4, _, h5⟩ := run_append_own_at (P := Tryz.prog) (W.alloc (.cells c.toArray E)) 0 T ty E i z size bytes hT hi hz0 hz1 hz2 hz hpos v xs.length css.flatten hrow1 ⟨W.heap.size, 0, none⟩ 1 1 c (by omega) (fresh_cells W c E) hone (by unfold maxLen; omega) hby2 (Nat.zero_le _)
  obtain ⟨a', cp, rfl, _, _⟩ := own_form h3
  have hsz' := h4.size
  simp at hsz'
  have hv' : ∀ k ∈ bl (.slice a' (xs.length + 1) cp), k ∈ bl v ∨ k = W.heap.size + 1 := by
    intro k hk
    have hk' : (Value.slice a' (xs.length + 1) cp).ownBlock = some k := by simpa [bl] using hk
    rcases h5 with h5 | h5
    · left; simp only [bl]; rw [← h5, hk']; simp
    · right
      rw [h5] at hk'
      simp at hk'
      omega
  have hkeep : ∀ k, k < W.heap.size → k ∉ bl v → w'.heap[k]? = W.heap[k]? := by
    intro k hk hn
    rw [h4.block k (by simp; omega) (fun e => hn (by simp only [bl]; rw [← e]; simp)), Below.heap_alloc W _ k hk]
  refine ⟨a', xs.length + 1, cp, w', bl (.slice a' (xs.length + 1) cp) ++ (fps ++ [fy]).flatten, hrun, ⟨_, css ++ [c], fps ++ [fy], rfl, rfl, ?_, ?_⟩, ?_, ?_, by omega, ⟨h4.os, h4.tape, h4.output⟩, fun k hk hx => hkeep k hk (fun hb => hx (List.mem_append_left _ hb))⟩
  · rw [hsz]; simpa using h3
  · have hk2 : ∀ k, k ∈ fps.flatten ++ fy → w'.heap[k]? = W.heap[k]? := by
      intro k hk
      rcases List.mem_append.1 hk with hk | hk
      · exact hkeep k (hlt9 k (List.mem_append_right _ hk)) (fun hb => hnl.2.2 k hb k hk rfl)
      · exact hkeep k (hylt k hk) (fun hb => hdis k hk (List.mem_append_left _ hb))
    exact o'.rows_snoc (o'.frame hyr (fun k hk => hk2 k (List.mem_append_right _ hk))) (o'.rows_frame hrows (fun k hk => hk2 k (List.mem_append_left _ hk)))
  · rw [List.flatten_append, List.nodup_append]
    refine ⟨by unfold bl; cases (Value.slice a' (xs.length + 1) cp).ownBlock <;> simp, ?_, ?_⟩
    · rw [List.nodup_append]
      refine ⟨hnl.2.1, by simpa using hynd, ?_⟩
      intro p hp q hq e
      subst e
      exact hdis p (by simpa using hq) (List.mem_append_right _ hp)
    · intro p hp q hq e
      subst e
      rcases hv' p hp with h8 | h8
      · rcases List.mem_append.1 hq with hq | hq
        · exact hnl.2.2 p h8 p hq rfl
        · exact hdis p (by simpa using hq) (List.mem_append_left _ h8)
      · rcases List.mem_append.1 hq with hq | hq
        · have := hlt9 p (List.mem_append_right _ hq); omega
        · have := hylt p (by simpa using hq); omega
  · intro k hk
    rcases List.mem_append.1 hk with hk | hk
    · rcases hv' k hk with h8 | h8
      · exact .inl (List.mem_append_left _ h8)
      · have h9 := (h3.lt k (by simpa [bl] using hk)).2
        exact .inr (.inr (by omega))
    · simp only [List.flatten_append, List.mem_append] at hk
      rcases hk with hk | hk
      · exact .inl (List.mem_append_right _ hk)
      · exact .inr (.inl (by simpa using hk))

/-- v (rows) and u (ints) are slices of the call's own, apart, from lo on; the block cb is no part of them. -/
def Two (lo hi cb : Nat) (w : World) (v u : Value) (xs : List (List Int)) (ys : List Int) : Prop :=
  ∃ fv fu, oII.rep w [v] xs fv ∧ oI.rep w [u] ys fu ∧ fv.Nodup ∧ fu.Nodup ∧ (∀ k ∈ fv, k ∉ fu) ∧ cb ∉ fv ∧ cb ∉ fu ∧ (∀ k ∈ fv, lo ≤ k ∧ k < hi) ∧ (∀ k ∈ fu, lo ≤ k ∧ k < hi)
theorem Two.mono {lo hi hi' cb : Nat} {w : World} {v u : Value} {xs : List (List Int)} {ys : List Int} (h : Two lo hi cb w v u xs ys) (hh : hi ≤ hi') : Two lo hi' cb w v u xs ys := by
  obtain ⟨fv, fu, h1, h2, h3, h4, h5, h6, h7, h8, h9⟩ := h
  exact ⟨fv, fu, h1, h2, h3, h4, h5, h6, h7, fun k hk => by have := h8 k hk; omega, fun k hk => by have := h9 k hk; omega⟩
theorem Two.frame {lo hi cb : Nat} {w w' : World} {v u : Value} {xs : List (List Int)} {ys : List Int} (h : Two lo hi cb w v u xs ys) (hb : ∀ k, lo ≤ k → k < hi → k ≠ cb → w'.heap[k]? = w.heap[k]?) : Two lo hi cb w' v u xs ys := by
  obtain ⟨fv, fu, h1, h2, h3, h4, h5, h6, h7, h8, h9⟩ := h
  exact ⟨fv, fu, oII.frame h1 (fun k hk => hb k (h8 k hk).1 (h8 k hk).2 (fun e => h6 (e ▸ hk))), oI.frame h2 (fun k hk => hb k (h9 k hk).1 (h9 k hk).2 (fun e => h7 (e ▸ hk))), h3, h4, h5, h6, h7, h8, h9⟩
theorem Two.below {lo hi cb C : Nat} {w w' : World} {v u : Value} {xs : List (List Int)} {ys : List Int} (h : Two lo hi cb w v u xs ys) (hb : Below C w w') (hC : hi ≤ C) : Two lo hi cb w' v u xs ys :=
  h.frame fun k _ hk _ => hb.block k (by omega)
/-- Another cell. -/
theorem Two.recb {lo hi cb cb' : Nat} {w : World} {v u : Value} {xs : List (List Int)} {ys : List Int} (h : Two lo hi cb w v u xs ys) (hc : hi ≤ cb' ∨ cb' < lo) : Two lo hi cb' w v u xs ys := by
  obtain ⟨fv, fu, h1, h2, h3, h4, h5, h6, h7, h8, h9⟩ := h
  exact ⟨fv, fu, h1, h2, h3, h4, h5, fun hk => by have := h8 _ hk; omega, fun hk => by have := h9 _ hk; omega, h8, h9⟩
theorem Two.set {lo hi cb i : Nat} {w : World} {v u : Value} {xs : List (List Int)} {ys : List Int} (h : Two lo hi cb w v u xs ys) (x : Value) : Two lo hi cb (w.setCell ⟨cb, i, none⟩ x) v u xs ys :=
  h.frame fun k _ _ hk => Below.heap_setCell _ _ _ _ hk
theorem Two.fst {lo hi cb : Nat} {w : World} {v u : Value} {xs : List (List Int)} {ys : List Int} (h : Two lo hi cb w v u xs ys) : Own oII lo hi w [v] xs := by
  obtain ⟨fv, fu, h1, h2, h3, h4, h5, h6, h7, h8, h9⟩ := h
  exact ⟨fv, h1, h3, h8⟩
theorem Two.snd {lo hi cb : Nat} {w : World} {v u : Value} {xs : List (List Int)} {ys : List Int} (h : Two lo hi cb w v u xs ys) : Own oI lo hi w [u] ys := by
  obtain ⟨fv, fu, h1, h2, h3, h4, h5, h6, h7, h8, h9⟩ := h
  exact ⟨fu, h2, h4, h9⟩
theorem Two.mk {lo mid hi cb : Nat} {w : World} {v u : Value} {xs : List (List Int)} {ys : List Int} (h : Own oII lo mid w [v] xs) (k : Own oI mid hi w [u] ys) (hc : cb < lo ∨ hi ≤ cb) (h1 : lo ≤ mid) (h2 : mid ≤ hi) : Two lo hi cb w v u xs ys := by
  obtain ⟨fv, a1, a2, a3⟩ := h
  obtain ⟨fu, b1, b2, b3⟩ := k
  exact ⟨fv, fu, a1, b1, a2, b2, fun k hk hk2 => by have := a3 k hk; have := b3 k hk2; omega, fun hk => by have := a3 _ hk; omega, fun hk => by have := b3 _ hk; omega, fun k hk => by have := a3 k hk; omega, fun k hk => by have := b3 k hk; omega⟩

/-- A row goes in. -/
theorem Two.row {lo hi cb h1 h2 : Nat} {W W1 : World} {v u y : Value} {xs : List (List Int)} {ys r : List Int} (ty : TypeId) (h : Two lo hi cb W v u xs ys) (hy : Own oI h1 h2 W [y] r) (hone : y.oneCell' = true) (hh1 : hi ≤ h1) (hh : h1 ≤ h2) (hh2 : h2 ≤ W.heap.size) (hcb : cb < h1) (hlo : lo ≤ hi) (hn : xs.length ≤ 1000000) (hW1 : W1 = W.alloc (.cells #[y] 30)) :
    ∃ a n c w', (Builtin.append_ #[47, 47] ty #[v, .slice (some ⟨W.heap.size, 0, none⟩) 1 1]).run Tryz.prog W1 = .ok (.slice a n c) w' ∧ Two lo w'.heap.size cb w' (.slice a n c) u (xs ++ [r]) ys ∧ Below lo W w' ∧ W.heap.size < w'.heap.size ∧ w'.heap[cb]? = W.heap[cb]? := by
  obtain ⟨fv, fu, a1, a2, a3, a4, a5, a6, a7, a8, a9⟩ := h
  obtain ⟨fy, b1, b2, b3⟩ := hy
  obtain ⟨a, n, c, w', fv', hr, c1, c2, c3, c4, ⟨c5, c6, c7⟩, c8⟩ := run_app_fp (W := W) (W1 := W1) Tryz.underlying47 infoI rfl (by decide) (by decide) rfl ty v xs [y] r fv fy a1 a3 b1 b2 (fun k hk hk2 => by have := b3 k hk; have := a8 k hk2; omega) (by intro z hz; simp at hz; subst hz; exact hone) (by omega) hW1
  have hcbW : cb < W.heap.size := by omega
  refine ⟨a, n, c, w', hr, ⟨fv', fu, c1, oI.frame a2 (fun k hk => c8 k (by have := a9 k hk; omega) (fun hk2 => a5 k hk2 hk)), c2, a4, fun k hk hk2 => ?_, fun hk => ?_, a7, fun k hk => ?_, fun k hk => by have := a9 k hk; omega⟩, ⟨c5, c6, c7, by omega, fun k hk => c8 k (by omega) (fun hk2 => by have := a8 k hk2; omega)⟩, c4, c8 cb hcbW a6⟩
  · have := a9 k hk2
    rcases c3 k hk with h9 | h9 | h9
    · exact a5 k h9 hk2
    · have := b3 k h9; omega
    · omega
  · rcases c3 _ hk with h9 | h9 | h9
    · exact a6 h9
    · have := b3 _ h9; omega
    · omega
  · rcases c3 k hk with h9 | h9 | h9
    · have := a8 k h9; omega
    · have := b3 k h9; omega
    · omega
/-- A number goes in. -/
theorem Two.num {lo hi cb : Nat} {W W1 : World} {v u : Value} {xs : List (List Int)} {ys : List Int} {r : Int} (ty : TypeId) (h : Two lo hi cb W v u xs ys) (hr : I64 r) (hh2 : hi ≤ W.heap.size) (hcb : cb < W.heap.size) (hlo : lo ≤ hi) (hn : ys.length ≤ 1000000) (hW1 : W1 = W.alloc (.cells #[.int .i64 r] 3)) :
    ∃ a n c w', (Builtin.append_ #[30, 30] ty #[u, .slice (some ⟨W.heap.size, 0, none⟩) 1 1]).run Tryz.prog W1 = .ok (.slice a n c) w' ∧ Two lo w'.heap.size cb w' v (.slice a n c) xs (ys ++ [r]) ∧ Below lo W w' ∧ W.heap.size < w'.heap.size ∧ w'.heap[cb]? = W.heap[cb]? := by
  obtain ⟨fv, fu, a1, a2, a3, a4, a5, a6, a7, a8, a9⟩ := h
  obtain ⟨a, n, c, w', fu', hrun, c1, c2, c3, c4, ⟨c5, c6, c7⟩, c8⟩ := run_app_fp (W := W) (W1 := W1) Tryz.underlying30 infoInt rfl (by decide) (by decide) rfl ty u ys [.int .i64 r] r fu [] a2 a4 (o' := O.int) ⟨rfl, hr, rfl⟩ (by simp) (fun k hk => by cases hk) (by intro z hz; simp at hz; subst hz; rfl) (by omega) hW1
  refine ⟨a, n, c, w', hrun, ⟨fv, fu', oII.frame a1 (fun k hk => c8 k (by have := a8 k hk; omega) (fun hk2 => a5 k hk hk2)), c1, a3, c2, fun k hk hk2 => ?_, a6, fun hk => ?_, fun k hk => by have := a8 k hk; omega, fun k hk => ?_⟩, ⟨c5, c6, c7, by omega, fun k hk => c8 k (by omega) (fun hk2 => by have := a9 k hk2; omega)⟩, c4, c8 cb hcb a7⟩
  · have := a8 k hk
    rcases c3 k hk2 with h9 | h9 | h9
    · exact a5 k hk h9
    · cases h9
    · omega
  · rcases c3 _ hk with h9 | h9 | h9
    · exact a7 h9
    · cases h9
    · omega
  · rcases c3 k hk with h9 | h9 | h9
    · have := a9 k h9; omega
    · cases h9
    · omega
/-- A builtin append, by its run. -/
theorem wpList_app_run {W W' : World} {ops : Array Oper} {rest : List Oper} {o : Oper} {a : Act} {Q : Exit → Act → World → Prop} {s x : Operand} {t t' ty : TypeId} {vs vx v' : Value}
    (hrun : (Builtin.append_ #[t, t'] ty #[vs, vx]).run Tryz.prog W = .ok v' W') (hty : o.type = ty) (hgd : o.guard = none)
    (ho : o.op = .call { callee := .builtin .append, args := #[s, x], argTypes := #[t, t'] }) (hs : a.eval s = vs) (hx : a.eval x = vx)
    (h : wpList Tryz.prog ops Q rest (a.put o.dst v') W') : wpList Tryz.prog ops Q (o :: rest) a W := by
  refine wpList_plain hgd fun K hK => ?_
  unfold Oper.wp execOp
  simp only [ho, resolve, invoke, builtin, Sem.run_bind, Sem.run_pure, Result.andThen_ok, List.map_toArray, List.map_cons, List.map_nil, hs, hx, hty, hrun]
  exact hK _ _ h

end Go.Proofs.YtkipgbgkhffkkaaGreat
