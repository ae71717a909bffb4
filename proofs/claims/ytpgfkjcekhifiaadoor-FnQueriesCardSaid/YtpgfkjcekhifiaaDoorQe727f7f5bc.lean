/- Texts joined for one claim: Fmt, FmtQ. -/
import Derived.Test.YtpgfkjcekhifiaaDoorQ6503b1f19f
import Derived.Test.YtpgfkjcekhifiaaDoorQe6e654f134
import Derived.Test.YtpgfkjcekhifiaaDoorQade03a00d9
import Derived.Lib.Join
import Derived.Deep.RegionHeld3

/- Contracts: texts of rows, answers and queries, both ways. -/
namespace Go.Proofs.YtpgfkjcekhifiaaDoor
open Go.RowKit
set_option linter.unusedVariables false
set_option linter.unusedSimpArgs false
set_option synthInstance.maxSize 2000
set_option synthInstance.maxHeartbeats 400000

theorem bs_of (s : ByteArray) : bs s.data.toList = s := by
  apply ByteArray.ext
  simp [bs]
/-- Words with a space between. -/
def spaced (ws : List (List UInt8)) : List UInt8 := Lib.join ws [32]
theorem spaced_snoc {ws : List (List UInt8)} {j : Nat} {y : List UInt8} (h : ws[j]? = some y) : spaced (ws.take (j + 1)) = (if j = 0 then y else spaced (ws.take j) ++ [32] ++ y) := by
  match ws with
  | [] => simp at h
  | x :: r =>
    cases j with
    | zero => simp at h; subst h; simp [spaced, Lib.join_one]
    | succ j =>
      rw [if_neg (by omega)]
      simp only [spaced, List.take_succ_cons, Lib.join_cons]
      rw [Lib.joinTail_take_succ [32] r j y (by simpa using h)]
      simp
theorem spaced_len (ws : List (List UInt8)) : (spaced ws).length ≤ ws.length + Lib.lens ws := by
  match ws with
  | [] => simp [spaced, Lib.join_nil, Lib.lens]
  | x :: r =>
    rw [spaced, Lib.join_cons, List.length_append, Lib.joinTail_length]
    simp [Lib.lens]
    omega
theorem lens_take (ws : List (List UInt8)) (j : Nat) : (spaced (ws.take j)).length ≤ ws.length + Lib.lens ws := by
  have h1 := spaced_len (ws.take j)
  have h2 := Lib.lens_take_le ws j
  have h3 := List.length_take_le j ws
  have h4 := List.length_take_le' j ws
  omega
theorem lens_digs (rows : List (List Int)) : Lib.lens (rows.map digsOf) = sumBy bulk_I rows := by
  simp only [Lib.lens, sumBy, List.map_map]
  congr 1
  apply List.map_congr_left
  intro r _
  simp [digsOf, bulk_I]
theorem infoStr : (Tryd.prog.info? 9).map (fun i => (i.zero, i.size, i.bytes)) = some (some (.string ⟨#[]⟩), 1, 16) := by kernel_rfl

/-- Words of the call's own, joined by the library. -/
theorem joined_any {lo S hi : Nat} {w : World} {a : Option Addr} {n c : Nat} {ws : List (List UInt8)} (h : Acc 9 O.str lo S hi w (.slice a n c) (ws.map bs)) (hlen : ws.length + Lib.lens ws ≤ 100000000) :
    Calls Tryd.prog 46 #[.slice a n c, .string ⟨#[32]⟩] w fun e w' => e = .returned (.string (bs (spaced ws))) ∧ Below w.heap.size w w' := by
  obtain ⟨fp, ⟨v1, css, fps, hv, _, h1, h2⟩, _⟩ := h
  simp at hv
  subst hv
  obtain ⟨a', cap', he, hn, hb⟩ := own_form h1
  simp at he
  obtain ⟨rfl, hnl, rfl⟩ := he
  have hnl2 : n = (ws.map bs).length := by rw [List.length_map]; exact hnl
  subst hnl2
  cases ws with
  | nil =>
    refine (Tryd.strings_Join_none a c ⟨#[32]⟩ w).mono ?_
    rintro e w' ⟨rfl, rfl⟩
    exact ⟨rfl, Below.refl _ _⟩
  | cons y r =>
    rcases h1.2 with ⟨h3, h4⟩ | ⟨g, cap, cur, h3, _, hg, _⟩
    · simp at h4
    · simp at h3
      obtain ⟨rfl, rfl⟩ := h3
      have hcells : ∀ (j : Nat) x, ((y :: r).map bs)[j]? = some x → w.cell? ⟨g, 0 + j, none⟩ = some (.string x) := fun j x hx => by
        obtain ⟨cj, f, hc, hf, hr⟩ := O.str.rows_get h2 j x hx
        obtain ⟨rfl, _, _⟩ := hr
        have h9 := flatten_get O.str h2 j 0 _ _ hc (show [Value.string x][0]? = some _ from rfl)
        have e : j * O.str.size + 0 = j := by show j * 1 + 0 = j; omega
        rw [e] at h9
        obtain ⟨g2, hg2, hcell⟩ := own_cell h1 j _ h9
        simp at hg2
        subst hg2
        rw [Nat.zero_add]
        exact hcell
      have hid9 : ((fun x : ByteArray => x.data.toList) ∘ bs) = id := by funext l; simp
      have hmap : ((y :: r).map bs).map (·.data.toList) = y :: r := by rw [List.map_map, hid9, List.map_id]
      have hsl := spaced_len (y :: r)
      have hc := own_cap h1
      have hj := Tryd.strings_Join g 0 _ ((y :: r).map bs) ⟨#[32]⟩ w hcells (Array.getElem?_eq_some_iff.1 hg).1 (by rw [List.length_map]; omega) hc.1 (by rw [hmap]; show (spaced (y :: r)).length ≤ _; omega)
      rw [hmap] at hj
      exact hj

/-- The text of an answer. -/
def fmtAn (x : DAn) : List UInt8 := if validAn x then namesOf x.1 ++ [58] ++ spaced (x.2.map digsOf) else []
theorem validAn_dig {x : DAn} (h : validAn x = true) : ∀ r ∈ x.2, ∀ v ∈ r, 0 ≤ v ∧ v ≤ 9 := by
  intro r hr v hv
  simp only [validAn, Bool.and_eq_true] at h
  have h2 := List.all_eq_true.1 h.1.2 r hr
  rw [rowB, Bool.and_eq_true] at h2
  have h3 := List.all_eq_true.1 h2.1 v hv
  simpa [betw] using h3
theorem names_impl' (v : Value) (vs : List Int) (w : World) (h : rI.rep w [v] vs) (hn : vs.length ≤ 1048576) :
    Calls Tryd.prog 45 #[v] w fun e w' => e = .returned (.string (bs (namesOf vs))) ∧ Below w.heap.size w w' :=
  (names_impl v vs w h hn).mono fun e w' ⟨h1, h2⟩ => ⟨h1, by subst h2; exact Below.refl _ _⟩

end Go.Proofs.YtpgfkjcekhifiaaDoor

/- Contracts: texts of queries, both ways. -/
namespace Go.Proofs.YtpgfkjcekhifiaaDoor
open Go.RowKit
set_option linter.unusedVariables false
set_option linter.unusedSimpArgs false
set_option synthInstance.maxSize 2000
set_option synthInstance.maxHeartbeats 400000

theorem step_app2 {ops : Array Oper} {o : Oper} {a : Act} {K : Act → World → Prop} {Q : Exit → Act → World → Prop} {E : Prop} {w w' : World} {s x : Operand} {t t' : TypeId} {vs vx v' : Value}
    {ty : TypeId} (hrun : (Builtin.append_ #[t, t'] ty #[vs, vx]).run Tryd.prog w = .ok v' w') (hty : o.type = ty) (hgd : o.guard = none)
    (ho : o.op = .call { callee := .builtin .append, args := #[s, x], argTypes := #[t, t'] }) (hs : a.eval s = vs) (hx : a.eval x = vx)
    (h : K (a.put o.dst v') w') :
    if Region.wanted o (yielded ops a.tmps) = true then Oper.wp Tryd.prog o a w K Q else E := by
  have hw : Region.wanted o (yielded ops a.tmps) = true := by simp [Region.wanted, hgd]
  rw [if_pos hw]
  unfold Oper.wp execOp
  simp only [ho, resolve, invoke, builtin, Sem.run_bind, Sem.run_pure, Result.andThen_ok, List.map_toArray, List.map_cons, List.map_nil, hs, hx, hty, hrun]
  exact h
/-- append of one element in a loop, with what stays. -/
theorem run_accF {α : Type} {T E size bytes : Nat} {z : Value} (hT : Tryd.prog.underlying T = some (.slice E)) (hE : (Tryd.prog.info? E).map (fun i => (i.zero, i.size, i.bytes)) = some (some z, size, bytes)) (hz : z.cells.size = size) (hpos : 0 < size) (hby : bytes ≤ 1000)
    {o' : OS α} (hsz : o'.size = size) {lo S hi9 h1 h2 : Nat} {W0 W W1 : World} (ty : TypeId) (v : Value) (xs : List α) (c : List Value) (y : α)
    (hown : Acc E o' lo S hi9 W v xs) (hy : Own o' h1 h2 W c y) (hone : ∀ u ∈ c, u.oneCell' = true) (hhi : hi9 ≤ h1) (hS1 : S ≤ h1) (hlo : lo < S) (ht : Turn lo (lo + 1) W0 W) (hS : W0.heap.size = S) (hn : xs.length ≤ 100000000) (hW1 : W1 = W.alloc (.cells c.toArray E)) :
    ∃ a n cp w', (Builtin.append_ #[T, T] ty #[v, .slice (some ⟨W.heap.size, 0, none⟩) 1 1]).run Tryd.prog W1 = .ok (.slice a n cp) w' ∧ Acc E o' lo S w'.heap.size w' (.slice a n cp) (xs ++ [y]) ∧ Turn lo (lo + 1) W0 w' ∧ W.heap.size < w'.heap.size ∧ (∀ k, k < W.heap.size → hi9 ≤ k → w'.heap[k]? = W.heap[k]?) := by
  obtain ⟨fv, f1, f2, f3⟩ := hown
  obtain ⟨fy, b1, b2, b3⟩ := hy
  have hts := ht.size
  have hyl := o'.lt b1
  obtain ⟨a, n, cp, w', fv', hr, c1, c2, c3, c4, ⟨c5, c6, c7⟩, c8⟩ := run_app_fp (W := W) (W1 := W1) hT hE hz hpos hby hsz ty v xs c y fv fy f1 f2 b1 b2 (fun k hk hk2 => by have := b3 k hk; have := (f3 k hk2).2; omega) hone hn hW1
  refine ⟨a, n, cp, w', hr, ⟨fv', c1, c2, fun k hk => ?_⟩, ⟨c5.trans ht.os, c6.trans ht.tape, c7.trans ht.output, by omega, fun k hk hx => ?_⟩, c4, fun k hk hx => c8 k hk (fun hb => by have := (f3 k hb).2; omega)⟩
  · rcases c3 k hk with h | h | h
    · have := f3 k h; have := (O.slice E o').lt f1 k h; omega
    · have := b3 k h; have := hyl k h; omega
    · omega
  · rw [c8 k (by omega) (fun hb => by have := (f3 k hb).1; omega)]
    exact ht.block k hk hx

theorem cell_box2 {W : World} {p : Addr} {v : Value} {x : Obj} (h : W.cell? p = some v) : (W.drew.alloc x).cell? p = some v :=
  ((Below.refl W.heap.size W).drew.alloc (Nat.le_refl _) x |>.cell (cell_lt h)).trans h
/-- The text of an atom, and of a query. -/
def wordA (a : DA) : List UInt8 := a.1.data.toList ++ [40] ++ namesOf a.2 ++ [41]
def fmtQ (q : DQ) : List UInt8 := if validQ q then spaced (q.2.map wordA) else []
theorem wordA_bs (ml : List UInt8) (vs : List Int) : wordA (bs ml, vs) = ml ++ [40] ++ namesOf vs ++ [41] := by simp [wordA]
theorem name_len {ml : List UInt8} (h : nameB (bs ml) = true) : ml.length = 1 := by
  simp only [nameB, Bool.and_eq_true, decide_eq_true_eq] at h
  have := h.1
  rwa [bs_size] at this
theorem lens_atoms : ∀ {xs : List DA}, (∀ a ∈ xs, (wordA a).length ≤ 6) → Lib.lens (xs.map wordA) ≤ 6 * xs.length
  | [], _ => by simp [Lib.lens]
  | a :: t, h => by
    have h1 := h a (by simp)
    have h2 := lens_atoms (fun b hb => h b (List.mem_cons_of_mem a hb))
    simp only [Lib.lens, List.map_cons, List.sum_cons, List.length_cons] at h2 ⊢
    omega
theorem word_len {q : DQ} {n : Nat} (hq : QOk q n) : ∀ a ∈ q.2, (wordA a).length ≤ 6 := by
  intro a ha
  have h1 := hq.name a ha
  have h2 := hq.vlen a ha
  have h3 := namesOf_len a.2
  simp only [nameB, Bool.and_eq_true, decide_eq_true_eq] at h1
  have h4 : a.1.data.toList.length = 1 := h1.1
  simp only [wordA, List.length_append, List.length_cons, List.length_nil]
  omega

set_option maxRecDepth 100000 in
set_option maxHeartbeats 2000000 in
theorem fmtQ_impl (cs : List Value) (x : DQ) (w : World) (h : rQ.rep w cs x) :
    Calls Tryd.prog 19 #[.agg cs.toArray] w fun e w' => e = .returned (.string (bs (fmtQ x))) ∧ Below w.heap.size w w' := by
  have HV := Lib.hid (fun W (hW : Below w.heap.size w W) => validQ_impl cs x W (rQ.mono h hW))
  obtain ⟨qb, qn, qc, rfl, hi2, gq⟩ := rQ_open h
  obtain ⟨ok, hok⟩ : ∃ ok, validQ x = ok := ⟨_, rfl⟩
  rw [hok] at HV
  have HF : Hid (fmtQ x = if ok then spaced (x.2.map wordA) else []) := Lib.hid (by rw [fmtQ, hok])
  have HQ : Hid (ok = true → x.2.length ≤ 4 ∧ (∀ a ∈ x.2, (wordA a).length ≤ 6) ∧ (∀ a ∈ x.2, nameB a.1 = true ∧ a.2.length ≤ 3)) := Lib.hid (fun h9 => by
    obtain ⟨n, hq⟩ := QOk.of (hok.trans h9)
    exact ⟨hq.len, word_len hq, fun a ha => ⟨hq.name a ha, hq.vlen a ha⟩⟩)
  obtain ⟨vq, xs⟩ := x
  simp only at hi2 gq HQ
  have t0 := rS_sl gq
  have hl := t0.len
  clear h gq hok
  have hb0 : Below w.heap.size w w := Below.refl _ _
  go_enter Tryd.func19, Tryd.ntmps19
  obtain ⟨w1, hw1⟩ : ∃ W, W = w.alloc (.cells #[.int .i64 vq, .slice qb qn qc] 24) := ⟨_, rfl⟩
  have z1 : Below w.heap.size w w1 := by rw [hw1]; exact (Below.refl _ _).alloc (Nat.le_refl _) _
  have s1 : w1.heap.size = w.heap.size + 1 := by rw [hw1]; simp
  have hb1 := on hb0 z1
  have q_0 : w1.cell? ⟨w.heap.size, 0, none⟩ = some (.int .i64 vq) := by rw [hw1]; exact box_cell (Below.refl _ _) rfl
  have q_1 : w1.cell? ⟨w.heap.size, 1, none⟩ = some (.slice qb qn qc) := by rw [hw1]; exact box_cell (Below.refl _ _) rfl
  have raw1_q_0 := q_0
  have raw1_q_1 := q_1
  rw [hw1] at raw1_q_0 raw1_q_1
  go_wp2_with fail
  rw [← hw1]
  clear hw1
  clear raw1_q_0 raw1_q_1
  refine (HV.out _ hb1).mono ?_
  rintro e wV ⟨rfl, zV⟩
  have s2 := zV.size
  have hb2 := on hb1 zV
  replace q_0 := (zV.cell (p := ⟨w.heap.size, 0, none⟩) (by simp only []; omega)).trans q_0
  replace q_1 := (zV.cell (p := ⟨w.heap.size, 1, none⟩) (by simp only []; omega)).trans q_1
  cases ok with
  | false =>
    have HE : Hid (fmtQ (vq, xs) = []) := Lib.hid (by rw [HF.out]; rfl)
    go_wp2_with fail
    go_ret
    exact ⟨by rw [HE.out]; rfl, hb2⟩
  | true =>
    obtain ⟨hx4, hw6, hnm⟩ := HQ.out rfl
    have HE : Hid (fmtQ (vq, xs) = spaced (xs.map wordA)) := Lib.hid (by rw [HF.out]; rfl)
    have HNM := Lib.hid hnm
    have hlens := lens_atoms hw6
    clear HQ HF hnm hw6
    obtain ⟨w3, hw3⟩ : ∃ W, W = wV.alloc (.cells #[] 9) := ⟨_, rfl⟩
    have z3 : Below wV.heap.size wV w3 := by rw [hw3]; exact (Below.refl _ _).alloc (Nat.le_refl _) _
    have s3 : w3.heap.size = wV.heap.size + 1 := by rw [hw3]; simp
    have hb3 := on hb2 z3
    replace q_0 := (z3.cell (p := ⟨w.heap.size, 0, none⟩) (by simp only []; omega)).trans q_0
    replace q_1 := (z3.cell (p := ⟨w.heap.size, 1, none⟩) (by simp only []; omega)).trans q_1
    have he : ∀ S, Acc 9 O.str wV.heap.size S w3.heap.size w3 (.slice (some ⟨wV.heap.size, 0, none⟩) 0 0) [] := fun S => by rw [hw3]; exact Acc.empty (by omega) (by first | (simp; done) | (simp; omega))
    have raw3_q_0 := q_0
    have raw3_q_1 := q_1
    rw [hw3] at raw3_q_0 raw3_q_1
    go_wp2_with fail
    rw [← hw3]
    clear hw3
    clear raw3_q_0 raw3_q_1
    have hW1s : wV.heap.size < w3.heap.size := by omega
    go_loopw [3, 13] (fun v k wr => ∃ (j n9 c9 : Nat) (a9 : Option Addr), j ≤ qn ∧ k = .int .i64 j ∧ v = .slice a9 n9 c9 ∧ Acc 9 O.str wV.heap.size w3.heap.size wr.heap.size wr (.slice a9 n9 c9) (((xs.take j).map wordA).map bs) ∧ Turn wV.heap.size (wV.heap.size + 1) w3 wr) (fun _ k _ => qn - (intOf k).toNat)
    case atStart => exact ⟨0, _, _, _, Nat.zero_le _, rfl, rfl, (he _).wide (Nat.le_refl _) (by omega), turn_refl _ _ _⟩
    case round =>
      obtain ⟨j, n9, c9, a9, hj, rfl, rfl, hacc, hdr⟩ := hrel
      have hlc := hdr
      clear he
      have s4 := hdr.size
      have hb4 := hb3.trans ((hdr.below (by omega)).mono (by omega))
      replace q_0 := (hdr.cell (p := ⟨w.heap.size, 0, none⟩) (by simp only []; omega) (by simp only []; omega)).trans q_0
      replace q_1 := (hdr.cell (p := ⟨w.heap.size, 1, none⟩) (by simp only []; omega) (by simp only []; omega)).trans q_1
      obtain ⟨wo, rfl⟩ : ∃ W, W = wr := ⟨_, rfl⟩
      by_cases hlt : j < qn
      · obtain ⟨b1, o1, cs, a, rfl, hx, hr, hc⟩ := t0.at hlt
        obtain ⟨m1, vs⟩ := a
        obtain ⟨ml, rfl⟩ : ∃ ml, m1 = bs ml := ⟨_, (bs_of m1).symm⟩
        obtain ⟨vb, vn, vc, rfl, hs, gv⟩ := rA_open hr
        have hxm := List.mem_of_getElem? hx.out
        have hnl := name_len (HNM.out _ hxm).1
        have hvl := (HNM.out _ hxm).2
        simp only at hvl gv
        have hno := namesOf_len vs
        have e_lt : b1 < w.heap.size := cell_lt (hc 0 _ rfl)
        have e_0 : wo.cell? ⟨b1, o1 + j * 2, none⟩ = some (.string (bs ml)) := (hb4.cell (p := ⟨b1, o1 + j * 2, none⟩) e_lt).trans (by have h9 := hc 0 _ rfl; rw [← Nat.add_assoc] at h9; exact h9)
        have e_1 : wo.cell? ⟨b1, o1 + j * 2 + 1, none⟩ = some (.slice vb vn vc) := (hb4.cell (p := ⟨b1, o1 + j * 2 + 1, none⟩) e_lt).trans (by have h9 := hc 1 _ rfl; rw [← Nat.add_assoc] at h9; exact h9)
        have HW : Hid (((xs.take (j + 1)).map wordA).map bs = ((xs.take j).map wordA).map bs ++ [bs (wordA (bs ml, vs))]) := Lib.hid (by rw [List.take_add_one, hx.out]; simp)
        have HWB := Lib.hid (wordA_bs ml vs)
        have h3 := List.length_take_le j xs
        clear hc hx hr hs hxm
        obtain ⟨w5, hw5⟩ : ∃ W, W = wo.alloc (.cells #[.string (bs ml), .slice vb vn vc] 43) := ⟨_, rfl⟩
        have z5 : Below wo.heap.size wo w5 := by rw [hw5]; exact (Below.refl _ _).alloc (Nat.le_refl _) _
        have s5 : w5.heap.size = wo.heap.size + 1 := by rw [hw5]; simp
        have hb5 := on hb4 z5
        have old5_q_0 := q_0
        have old5_q_1 := q_1
        have old5_e_0 := e_0
        have old5_e_1 := e_1
        replace q_0 := (z5.cell (p := ⟨w.heap.size, 0, none⟩) (by simp only []; omega)).trans q_0
        replace q_1 := (z5.cell (p := ⟨w.heap.size, 1, none⟩) (by simp only []; omega)).trans q_1
        replace e_0 := (z5.cell (p := ⟨b1, o1 + j * 2, none⟩) (by simp only []; omega)).trans e_0
        replace e_1 := (z5.cell (p := ⟨b1, o1 + j * 2 + 1, none⟩) (by simp only []; omega)).trans e_1
        have a_0 : w5.cell? ⟨wo.heap.size, 0, none⟩ = some (.string (bs ml)) := by rw [hw5]; exact box_cell (Below.refl _ _) rfl
        have a_1 : w5.cell? ⟨wo.heap.size, 1, none⟩ = some (.slice vb vn vc) := by rw [hw5]; exact box_cell (Below.refl _ _) rfl
        have raw5_q_0 := q_0
        have raw5_q_1 := q_1
        have raw5_e_0 := e_0
        have raw5_e_1 := e_1
        have raw5_a_0 := a_0
        have raw5_a_1 := a_1
        rw [hw5] at raw5_q_0 raw5_q_1 raw5_e_0 raw5_e_1 raw5_a_0 raw5_a_1
        have hax : w5.heap.size = wo.heap.size + 1 := by omega
        have hacc2 := (hacc.below (show Below wo.heap.size wo w5 by assumption) (Nat.le_refl _)).below ((Below.refl w5.heap.size w5).drew) (by omega)
        have hlc2 := (hlc.trans (turn_below (show Below wo.heap.size wo w5 by assumption) (by omega))).trans (turn_below ((Below.refl w5.heap.size w5).drew) (Nat.le_refl _))
        have HN := Lib.hid (names_impl (.slice vb vn vc) vs w5.drew (rI.mono gv (hb5).drew) (by omega))
        have hwl : (bs (wordA (bs ml, vs))).size ≤ 9223372036854775807 := by
          rw [HWB.out, bs_size]
          simp only [List.length_append, List.length_cons, List.length_nil]
          omega
        have hgz : w5.drew.heap.size = w5.heap.size := rfl
        obtain ⟨va2, vn2, vc2, wN, hrun, haccN, htN, hsN, hfr⟩ := run_accF Tryd.underlying47 infoStr rfl (by decide) (by decide) (o' := O.str) rfl (lo := wV.heap.size) (W0 := w3) (W := w5.drew) 47 _ _ [.string (bs (wordA (bs ml, vs)))] (bs (wordA (bs ml, vs))) hacc2 (own_str (lo := wo.heap.size) (hi := wo.heap.size) hwl) (by intro z hz; simp at hz; subst hz; rfl) (Nat.le_refl _) (by omega) hW1s hlc2 rfl (by rw [List.length_map, List.length_map]; omega) rfl
        have k_0 : wN.cell? ⟨wo.heap.size, 0, none⟩ = some (.string (bs ml)) := (World.cell?_of_block (a := ⟨wo.heap.size, 0, none⟩) (hfr wo.heap.size (by rw [hgz]; omega) (Nat.le_refl _))).trans a_0
        have k_1 : wN.cell? ⟨wo.heap.size, 1, none⟩ = some (.slice vb vn vc) := (World.cell?_of_block (a := ⟨wo.heap.size, 1, none⟩) (hfr wo.heap.size (by rw [hgz]; omega) (Nat.le_refl _))).trans a_1
        have hword : ((bs ml ++ ByteArray.mk #[40]) ++ bs (namesOf vs)) ++ ByteArray.mk #[41] = bs (wordA (bs ml, vs)) := by
          rw [HWB.out, ← bs_app, ← bs_app, ← bs_app]
        rw [show w5.drew.heap.size = wo.heap.size + 1 from hax] at hrun
        have HC9 := Lib.hid haccN
        have HT9 := Lib.hid htN
        clear hacc hacc2 hlc hlc2 haccN htN hfr gv
        have hgs : w5.heap.size = wo.heap.size + 1 := hax
        go_wp2_with fail
        rw [← hw5]
        clear hw5
        clear old5_q_0 old5_q_1 old5_e_0 old5_e_1 raw5_q_0 raw5_q_1 raw5_e_0 raw5_e_1 raw5_a_0 raw5_a_1
        refine wp_region_noPanic ?_
        refine wp_region_held_drew (S := (fun W => W.cell? ⟨wo.heap.size, 0, none⟩ = some (.string (bs ml)) ∧ W.cell? ⟨wo.heap.size, 1, none⟩ = some (.slice vb vn vc))) (by kernel_rfl) ?hS6 (fun hHeld => ?_)
        case hS6 => exact ⟨a_0, a_1⟩
        refine wpAnyH_take (i := 0) (v := ?v0_7) rfl (by kernel_rfl) (by kernel_rfl) (by kernel_rfl) (fun _ _ _ h => h) (Or.inl ⟨by rfl, ?hy0_7⟩) (by assumption) ?rest0_7
        case hy0_7 => intro w hSw; (try dsimp only at hSw); go_simp; (try with_reducible rfl)
        try simp only [Act.put, List.getElem_toArray, List.getElem_cons_succ, List.getElem_cons_zero, List.setIfInBounds_toArray, List.set_cons_zero, List.set_cons_succ]
        refine wpAnyH_take (i := 1) (v := ?v1_8) rfl (by kernel_rfl) (by kernel_rfl) (by kernel_rfl) (fun _ _ _ h => h) (Or.inl ⟨by rfl, ?hy1_8⟩) (by assumption) ?rest1_8
        case hy1_8 => intro w hSw; (try dsimp only at hSw); go_simp; (try with_reducible rfl)
        try simp only [Act.put, List.getElem_toArray, List.getElem_cons_succ, List.getElem_cons_zero, List.setIfInBounds_toArray, List.set_cons_zero, List.set_cons_succ]
        refine wpAnyH_take (i := 2) (v := ?v2_9) rfl (by kernel_rfl) (by kernel_rfl) (by kernel_rfl) (fun _ _ _ h => h) (Or.inl ⟨by rfl, ?hy2_9⟩) (by assumption) ?rest2_9
        case hy2_9 => intro w hSw; (try dsimp only at hSw); go_simp; (try with_reducible rfl)
        try simp only [Act.put, List.getElem_toArray, List.getElem_cons_succ, List.getElem_cons_zero, List.setIfInBounds_toArray, List.set_cons_zero, List.set_cons_succ]
        refine wpAnyH_take (i := 3) (v := ?v3q) rfl (by kernel_rfl) (by kernel_rfl) (by kernel_rfl) (fun _ _ _ h => h) (Or.inl ⟨by rfl, ?hy3q⟩) (by assumption) ?rest3q
        case hy3q => intro w hSw; (try dsimp only at hSw); go_simp; (first | (with_reducible rfl) | rfl | (split <;> first | rfl | (exfalso; omega)))
        try simp only [Act.put, List.getElem_toArray, List.getElem_cons_succ, List.getElem_cons_zero, List.setIfInBounds_toArray, List.set_cons_zero, List.set_cons_succ]
        refine wpAnyH_take (i := 4) (v := ?v4_10) rfl (by kernel_rfl) (by kernel_rfl) (by kernel_rfl) (fun _ _ _ h => h) (Or.inl ⟨by rfl, ?hy4_10⟩) (by assumption) ?rest4_10
        case hy4_10 => intro w hSw; (try dsimp only at hSw); go_simp; (try with_reducible rfl)
        try simp only [Act.put, List.getElem_toArray, List.getElem_cons_succ, List.getElem_cons_zero, List.setIfInBounds_toArray, List.set_cons_zero, List.set_cons_succ]
        refine wpAnyH_take (i := 5) (v := ?v5_11) rfl (by kernel_rfl) (by kernel_rfl) (by kernel_rfl) (fun _ _ _ h => h) (Or.inl ⟨by rfl, ?hy5_11⟩) (by assumption) ?rest5_11
        case hy5_11 => intro w hSw; (try dsimp only at hSw); go_simp; (try with_reducible rfl)
        try simp only [Act.put, List.getElem_toArray, List.getElem_cons_succ, List.getElem_cons_zero, List.setIfInBounds_toArray, List.set_cons_zero, List.set_cons_succ]
        refine wpAnyH_ready (rs := [6]) (by kernel_rfl) (by simp) ?_
        refine AllReadyH.cons rfl (fun K hK => ?_) AllReadyH.nil
        go_simp; (refine HN.out.mono ?_); rintro e w' ⟨rfl, rfl⟩
        refine hK.out _ _ ?_ (fun hHeld => ?_)
        · exact ⟨a_0, a_1⟩
        clear hK K
        try simp only [Act.put, List.setIfInBounds_toArray, List.set_cons_zero, List.set_cons_succ]
        refine wpAnyH_take (i := 7) (v := ?v7q) rfl (by kernel_rfl) (by kernel_rfl) (by kernel_rfl) (fun _ _ _ h => h) (Or.inl ⟨by rfl, ?hy7q⟩) (by assumption) ?rest7q
        case hy7q => intro w hSw; (try dsimp only at hSw); go_simp; (first | (with_reducible rfl) | rfl | (split <;> first | rfl | (exfalso; omega)))
        try simp only [Act.put, List.getElem_toArray, List.getElem_cons_succ, List.getElem_cons_zero, List.setIfInBounds_toArray, List.set_cons_zero, List.set_cons_succ]
        refine wpAnyH_take (i := 8) (v := .string (bs (wordA (bs ml, vs)))) rfl (by kernel_rfl) (by kernel_rfl) (by kernel_rfl) (fun _ _ _ h => h) (Or.inl ⟨by rfl, ?hy8q⟩) (by assumption) ?rest8q
        case hy8q => intro w hSw; (try dsimp only at hSw); go_simp; (first | exact hword | exact congrArg Value.string hword | omega | (rw [hword]))
        try simp only [Act.put, List.getElem_toArray, List.getElem_cons_succ, List.getElem_cons_zero, List.setIfInBounds_toArray, List.set_cons_zero, List.set_cons_succ]
        refine wpAnyH_ready (rs := [9]) (by kernel_rfl) (by simp) ?_
        refine AllReadyH.cons rfl (fun K hK => ?_) AllReadyH.nil
        go_simp
        refine hK.out _ _ ?_ (fun hHeld => ?_)
        · exact ⟨cell_box2 a_0, cell_box2 a_1⟩
        clear hK K
        try simp only [Act.put, List.setIfInBounds_toArray, List.set_cons_zero, List.set_cons_succ]
        refine wpAnyH_ready (rs := [10]) (by kernel_rfl) (by simp) ?_
        refine AllReadyH.cons rfl (fun K hK => ?_) AllReadyH.nil
        refine step_app2 hrun (by rfl) (by rfl) (by rfl) (by rfl) (by rfl) ?_
        refine hK.out _ _ ?_ (fun hHeld => ?_)
        · exact ⟨k_0, k_1⟩
        clear hK K
        try simp only [Act.put, List.setIfInBounds_toArray, List.set_cons_zero, List.set_cons_succ]
        refine wpAnyH_take (i := 11) (v := ?v11_12) rfl (by kernel_rfl) (by kernel_rfl) (by kernel_rfl) (fun _ _ _ h => h) (Or.inl ⟨by rfl, ?hy11_12⟩) (by assumption) ?rest11_12
        case hy11_12 => intro w hSw; (try dsimp only at hSw); go_simp; (try with_reducible rfl)
        try simp only [Act.put, List.getElem_toArray, List.getElem_cons_succ, List.getElem_cons_zero, List.setIfInBounds_toArray, List.set_cons_zero, List.set_cons_succ]
        refine wpAnyH_done (by kernel_rfl) ?_ _
        refine NoPanic.normal ?_
        go_wp2_with fail
        go_roundw
        case rel => exact ⟨j + 1, vn2, vc2, va2, by omega, by go_num, rfl, by rw [HW.out]; exact HC9.out, HT9.out⟩
        case measure => simp [intOf]; omega
      · rw [show xs.take j = xs from List.take_of_length_le (by omega)] at hacc
        have HJ := Lib.hid (joined_any hacc (by rw [List.length_map]; omega))
        clear hacc
        go_wp2_with fail
        refine HJ.out.mono ?_
        rintro e w8 ⟨rfl, z8⟩
        have s13 := z8.size
        have hb13 := on hb4 z8
        replace q_0 := (z8.cell (p := ⟨w.heap.size, 0, none⟩) (by simp only []; omega)).trans q_0
        replace q_1 := (z8.cell (p := ⟨w.heap.size, 1, none⟩) (by simp only []; omega)).trans q_1
        go_wp2_with fail
        go_ret
        exact ⟨by rw [HE.out]; rfl, hb13⟩

set_option maxRecDepth 100000 in
set_option maxHeartbeats 2000000 in
theorem fmtQ_spec (cs : List Value) (x : DQ) (w : World) (h : rQ.rep w cs x) :
    Calls Tryd.prog 28 #[.agg cs.toArray] w fun e w' => e = .returned (.string (bs (fmtQ x))) ∧ Below w.heap.size w w' := by
  have HV := Lib.hid (fun W (hW : Below w.heap.size w W) => validQ_spec cs x W (rQ.mono h hW))
  obtain ⟨qb, qn, qc, rfl, hi2, gq⟩ := rQ_open h
  obtain ⟨ok, hok⟩ : ∃ ok, validQ x = ok := ⟨_, rfl⟩
  rw [hok] at HV
  have HF : Hid (fmtQ x = if ok then spaced (x.2.map wordA) else []) := Lib.hid (by rw [fmtQ, hok])
  have HQ : Hid (ok = true → x.2.length ≤ 4 ∧ (∀ a ∈ x.2, (wordA a).length ≤ 6) ∧ (∀ a ∈ x.2, nameB a.1 = true ∧ a.2.length ≤ 3)) := Lib.hid (fun h9 => by
    obtain ⟨n, hq⟩ := QOk.of (hok.trans h9)
    exact ⟨hq.len, word_len hq, fun a ha => ⟨hq.name a ha, hq.vlen a ha⟩⟩)
  obtain ⟨vq, xs⟩ := x
  simp only at hi2 gq HQ
  have t0 := rS_sl gq
  have hl := t0.len
  have hqs := t0.small
  clear h gq hok
  have hb0 : Below w.heap.size w w := Below.refl _ _
  go_enter Tryd.func28, Tryd.ntmps28
  obtain ⟨w1, hw1⟩ : ∃ W, W = w.alloc (.cells #[.int .i64 vq, .slice qb qn qc] 24) := ⟨_, rfl⟩
  have z1 : Below w.heap.size w w1 := by rw [hw1]; exact (Below.refl _ _).alloc (Nat.le_refl _) _
  have s1 : w1.heap.size = w.heap.size + 1 := by rw [hw1]; simp
  have hb1 := on hb0 z1
  have q_0 : w1.cell? ⟨w.heap.size, 0, none⟩ = some (.int .i64 vq) := by rw [hw1]; exact box_cell (Below.refl _ _) rfl
  have q_1 : w1.cell? ⟨w.heap.size, 1, none⟩ = some (.slice qb qn qc) := by rw [hw1]; exact box_cell (Below.refl _ _) rfl
  have raw1_q_0 := q_0
  have raw1_q_1 := q_1
  rw [hw1] at raw1_q_0 raw1_q_1
  go_wp2_with fail
  rw [← hw1]
  clear hw1
  clear raw1_q_0 raw1_q_1
  go_loopw [3, 4] (fun s k wr => ∃ j : Nat, j ≤ qn ∧ (ok = false → j = 0) ∧ k = .int .i64 j ∧ s = .string (bs (spaced ((xs.map wordA).take j))) ∧ Below w1.heap.size w1 wr) (fun _ k _ => qn - (intOf k).toNat)
  case atStart => exact ⟨0, Nat.zero_le _, fun _ => rfl, rfl, by rw [List.take_zero]; rfl, Below.refl _ _⟩
  case round =>
    obtain ⟨j, hj, hj9, rfl, rfl, hdr⟩ := hrel
    have hlc := hdr
    have s2 := hdr.size
    have hb2 := on hb1 hdr
    replace q_0 := (hdr.cell (p := ⟨w.heap.size, 0, none⟩) (by simp only []; omega)).trans q_0
    replace q_1 := (hdr.cell (p := ⟨w.heap.size, 1, none⟩) (by simp only []; omega)).trans q_1
    by_cases hlt : j < qn
    · go_wp2_with fail
      refine (HV.out _ hb2).mono ?_
      rintro e w5 ⟨rfl, z5⟩
      have s3 := z5.size
      have hb3 := on hb2 z5
      replace q_0 := (z5.cell (p := ⟨w.heap.size, 0, none⟩) (by simp only []; omega)).trans q_0
      replace q_1 := (z5.cell (p := ⟨w.heap.size, 1, none⟩) (by simp only []; omega)).trans q_1
      replace hlc := on hlc z5
      cases ok with
      | false =>
        obtain rfl : j = 0 := hj9 rfl
        have HE : Hid (fmtQ (vq, xs) = []) := Lib.hid (by rw [HF.out]; rfl)
        go_wp2_with fail
        go_ret
        exact ⟨by rw [HE.out]; rfl, hb3⟩
      | true =>
        obtain ⟨wr, rfl⟩ : ∃ W, W = w5 := ⟨_, rfl⟩
        obtain ⟨hx4, hw6, hnm⟩ := HQ.out rfl
        have hlens := lens_atoms hw6
        have hpj := lens_take (xs.map wordA) j
        rw [List.length_map] at hpj
        obtain ⟨b1, o1, cs, a, rfl, hx, hr, hc⟩ := t0.at hlt
        obtain ⟨m1, vs⟩ := a
        obtain ⟨ml, rfl⟩ : ∃ ml, m1 = bs ml := ⟨_, (bs_of m1).symm⟩
        obtain ⟨vb, vn, vc, rfl, hs, gv⟩ := rA_open hr
        have hxm := List.mem_of_getElem? hx.out
        have hnl := name_len (hnm _ hxm).1
        have hvl := (hnm _ hxm).2
        simp only at hvl gv
        have hno := namesOf_len vs
        have e_lt : b1 < w.heap.size := cell_lt (hc 0 _ rfl)
        have e_0 : wr.cell? ⟨b1, o1 + j * 2, none⟩ = some (.string (bs ml)) := (hb3.cell (p := ⟨b1, o1 + j * 2, none⟩) e_lt).trans (by have h9 := hc 0 _ rfl; rw [← Nat.add_assoc] at h9; exact h9)
        have e_1 : wr.cell? ⟨b1, o1 + j * 2 + 1, none⟩ = some (.slice vb vn vc) := (hb3.cell (p := ⟨b1, o1 + j * 2 + 1, none⟩) e_lt).trans (by have h9 := hc 1 _ rfl; rw [← Nat.add_assoc] at h9; exact h9)
        have HS := Lib.hid (spaced_snoc (ws := xs.map wordA) (j := j) (y := wordA (bs ml, vs)) (by rw [List.getElem?_map, hx.out]; rfl))
        have HWB := Lib.hid (wordA_bs ml vs)
        have HN := Lib.hid (fun n9 => names_spec (.slice vb vn vc) vs (wr.drewN n9) (rI.mono gv ((hb3).trans ((Drew.below ⟨n9, rfl⟩ _)))) (by omega))
        have hjq : (j : Int) < (qn : Int) := by omega
        clear hc hx hr hs hxm hnm hw6 gv HQ
        by_cases hj0 : j = 0
        · skip
          subst hj0
          have e9_0 : wr.cell? ⟨b1, o1, none⟩ = some (.string (bs ml)) := by simpa using e_0
          have e9_1 : wr.cell? ⟨b1, o1 + 1, none⟩ = some (.slice vb vn vc) := by simpa using e_1
          clear e_0 e_1
          have HEQ : Hid (bs (spaced ((xs.map wordA).take (0 + 1))) = (((bs (spaced []) ++ bs ml) ++ ByteArray.mk #[40]) ++ bs (namesOf vs)) ++ ByteArray.mk #[41]) := Lib.hid (by rw [HS.out, if_pos rfl, HWB.out, ← bs_app, ← bs_app, ← bs_app, show bs (spaced []) ++ bs ml = bs ml from by rw [bs_app]; rfl])
          have hz1 : ¬ 9223372036854775807 < (bs (spaced [])).size + (bs ml).size := by simp [bs, ByteArray.size] at *; omega
          have hz2 : ¬ 9223372036854775807 < (bs (spaced []) ++ bs ml).size + (ByteArray.mk #[40]).size := by simp [bs, ByteArray.size] at *; omega
          have hz3 : ¬ 9223372036854775807 < (bs (spaced []) ++ bs ml ++ ByteArray.mk #[40]).size + (bs (namesOf vs)).size := by simp [bs, ByteArray.size] at *; omega
          have hz4 : ¬ 9223372036854775807 < (bs (spaced []) ++ bs ml ++ ByteArray.mk #[40] ++ bs (namesOf vs)).size + (ByteArray.mk #[41]).size := by simp [bs, ByteArray.size] at *; omega
          go_wp2_with fail
          go_quiet ((go_at_call 55; exact quiet_same (HN.out _)))
          go_wp2_with fail
          go_roundw
          case rel => exact ⟨0 + 1, by omega, (fun h9 => by cases h9), by go_num, by rw [HEQ.out], onD hlc ⟨_, rfl⟩⟩
          case measure => simp [intOf]; omega
        · skip
          have hj1 : (0 : Int) < (j : Int) := by omega
          have HEQ : Hid (bs (spaced ((xs.map wordA).take (j + 1))) = ((((bs (spaced ((xs.map wordA).take j)) ++ ByteArray.mk #[32]) ++ bs ml) ++ ByteArray.mk #[40]) ++ bs (namesOf vs)) ++ ByteArray.mk #[41]) := Lib.hid (by rw [HS.out, if_neg hj0, HWB.out]; simp only [← bs_app, ByteArray.append_assoc])
          have hz0 : ¬ 9223372036854775807 < (bs (spaced ((xs.map wordA).take j))).size + (ByteArray.mk #[32]).size := by simp [bs, ByteArray.size] at *; omega
          have hz1 : ¬ 9223372036854775807 < ((bs (spaced ((xs.map wordA).take j)) ++ ByteArray.mk #[32])).size + (bs ml).size := by simp [bs, ByteArray.size] at *; omega
          have hz2 : ¬ 9223372036854775807 < ((bs (spaced ((xs.map wordA).take j)) ++ ByteArray.mk #[32]) ++ bs ml).size + (ByteArray.mk #[40]).size := by simp [bs, ByteArray.size] at *; omega
          have hz3 : ¬ 9223372036854775807 < ((bs (spaced ((xs.map wordA).take j)) ++ ByteArray.mk #[32]) ++ bs ml ++ ByteArray.mk #[40]).size + (bs (namesOf vs)).size := by simp [bs, ByteArray.size] at *; omega
          have hz4 : ¬ 9223372036854775807 < ((bs (spaced ((xs.map wordA).take j)) ++ ByteArray.mk #[32]) ++ bs ml ++ ByteArray.mk #[40] ++ bs (namesOf vs)).size + (ByteArray.mk #[41]).size := by simp [bs, ByteArray.size] at *; omega
          go_wp2_with fail
          go_quiet ((go_at_call 55; exact quiet_same (HN.out _)))
          go_wp2_with fail
          go_roundw
          case rel => exact ⟨j + 1, by omega, (fun h9 => by cases h9), by go_num, by rw [HEQ.out], onD hlc ⟨_, rfl⟩⟩
          case measure => simp [intOf]; omega
    · have HE : Hid (fmtQ (vq, xs) = spaced ((xs.map wordA).take j)) := Lib.hid (by
        rw [HF.out]
        cases ok with
        | true => rw [if_pos rfl, List.take_of_length_le (by rw [List.length_map]; omega)]
        | false => obtain rfl : j = 0 := hj9 rfl; rfl)
      go_wp2_with fail
      go_ret
      exact ⟨by rw [HE.out]; rfl, hb2⟩

end Go.Proofs.YtpgfkjcekhifiaaDoor
