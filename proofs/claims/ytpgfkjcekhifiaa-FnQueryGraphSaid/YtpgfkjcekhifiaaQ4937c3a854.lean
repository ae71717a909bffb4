/- Texts joined for one claim: Fmt, FmtQ. -/
import Derived.Test.YtpgfkjcekhifiaaQa2549267d5
import Derived.Test.YtpgfkjcekhifiaaQ17bdfeec0e
import Derived.Test.YtpgfkjcekhifiaaQbd9fa34d1b
import Derived.Lib.Join
import Derived.Deep.RegionHeld3

/- Contracts: texts of rows, answers and queries, both ways. -/
namespace Go.Proofs.Ytpgfkjcekhifiaa
open Go.RowKit
set_option linter.unusedVariables false
set_option linter.unusedSimpArgs false
set_option synthInstance.maxSize 2000
set_option synthInstance.maxHeartbeats 400000

theorem bs_of (s : ByteArray) : bs s.data.toList = s := by
  apply ByteArray.ext
  simp [bs]
/-- Words with a space between. -/
def spaced (ws : List (List UInt8)) : List UInt8 := Lib.join ws [32]
theorem spaced_snoc {ws : List (List UInt8)} {j : Nat} {y : List UInt8} (h : ws[j]? = some y) : spaced (ws.take (j + 1)) = (if j = 0 then y else spaced (ws.take j) ++ [32] ++ y) := by
  match ws with
  | [] => simp at h
  | x :: r =>
    cases j with
    | zero => simp at h; subst h; simp [spaced, Lib.join_one]
    | succ j =>
      rw [if_neg (by omega)]
      simp only [spaced, List.take_succ_cons, Lib.join_cons]
      rw [Lib.joinTail_take_succ [32] r j y (by simpa using h)]
      simp
theorem spaced_len (ws : List (List UInt8)) : (spaced ws).length ≤ ws.length + Lib.lens ws := by
  match ws with
  | [] => simp [spaced, Lib.join_nil, Lib.lens]
  | x :: r =>
    rw [spaced, Lib.join_cons, List.length_append, Lib.joinTail_length]
    simp [Lib.lens]
    omega
theorem lens_take (ws : List (List UInt8)) (j : Nat) : (spaced (ws.take j)).length ≤ ws.length + Lib.lens ws := by
  have h1 := spaced_len (ws.take j)
  have h2 := Lib.lens_take_le ws j
  have h3 := List.length_take_le j ws
  have h4 := List.length_take_le' j ws
  omega
theorem lens_digs (rows : List (List Int)) : Lib.lens (rows.map digsOf) = sumBy bulk_I rows := by
  simp only [Lib.lens, sumBy, List.map_map]
  congr 1
  apply List.map_congr_left
  intro r _
  simp [digsOf, bulk_I]
theorem infoStr : (Try.prog.info? 9).map (fun i => (i.zero, i.size, i.bytes)) = some (some (.string ⟨#[]⟩), 1, 16) := by kernel_rfl

/-- The text of an answer. -/
def fmtAn (x : DAn) : List UInt8 := if validAn x then namesOf x.1 ++ [58] ++ spaced (x.2.map digsOf) else []

theorem validAn_dig {x : DAn} (h : validAn x = true) : ∀ r ∈ x.2, ∀ v ∈ r, 0 ≤ v ∧ v ≤ 9 := by
  intro r hr v hv
  simp only [validAn, Bool.and_eq_true] at h
  have h2 := List.all_eq_true.1 h.1.2 r hr
  rw [rowB, Bool.and_eq_true] at h2
  have h3 := List.all_eq_true.1 h2.1 v hv
  simpa [betw] using h3

end Go.Proofs.Ytpgfkjcekhifiaa

/- Contracts: texts of queries, both ways. -/
namespace Go.Proofs.Ytpgfkjcekhifiaa
open Go.RowKit
set_option linter.unusedVariables false
set_option linter.unusedSimpArgs false
set_option synthInstance.maxSize 2000
set_option synthInstance.maxHeartbeats 400000

theorem step_app2 {ops : Array Oper} {o : Oper} {a : Act} {K : Act → World → Prop} {Q : Exit → Act → World → Prop} {E : Prop} {w w' : World} {s x : Operand} {t t' : TypeId} {vs vx v' : Value}
    {ty : TypeId} (hrun : (Builtin.append_ #[t, t'] ty #[vs, vx]).run Try.prog w = .ok v' w') (hty : o.type = ty) (hgd : o.guard = none)
    (ho : o.op = .call { callee := .builtin .append, args := #[s, x], argTypes := #[t, t'] }) (hs : a.eval s = vs) (hx : a.eval x = vx)
    (h : K (a.put o.dst v') w') :
    if Region.wanted o (yielded ops a.tmps) = true then Oper.wp Try.prog o a w K Q else E := by
  have hw : Region.wanted o (yielded ops a.tmps) = true := by simp [Region.wanted, hgd]
  rw [if_pos hw]
  unfold Oper.wp execOp
  simp only [ho, resolve, invoke, builtin, Sem.run_bind, Sem.run_pure, Result.andThen_ok, List.map_toArray, List.map_cons, List.map_nil, hs, hx, hty, hrun]
  exact h
/-- append of one element in a loop, with what stays. -/
theorem run_accF {α : Type} {T E size bytes : Nat} {z : Value} (hT : Try.prog.underlying T = some (.slice E)) (hE : (Try.prog.info? E).map (fun i => (i.zero, i.size, i.bytes)) = some (some z, size, bytes)) (hz : z.cells.size = size) (hpos : 0 < size) (hby : bytes ≤ 1000)
    {o' : OS α} (hsz : o'.size = size) {lo S hi9 h1 h2 : Nat} {W0 W W1 : World} (ty : TypeId) (v : Value) (xs : List α) (c : List Value) (y : α)
    (hown : Acc E o' lo S hi9 W v xs) (hy : Own o' h1 h2 W c y) (hone : ∀ u ∈ c, u.oneCell' = true) (hhi : hi9 ≤ h1) (hS1 : S ≤ h1) (hlo : lo < S) (ht : Turn lo (lo + 1) W0 W) (hS : W0.heap.size = S) (hn : xs.length ≤ 100000000) (hW1 : W1 = W.alloc (.cells c.toArray E)) :
    ∃ a n cp w', (Builtin.append_ #[T, T] ty #[v, .slice (some ⟨W.heap.size, 0, none⟩) 1 1]).run Try.prog W1 = .ok (.slice a n cp) w' ∧ Acc E o' lo S w'.heap.size w' (.slice a n cp) (xs ++ [y]) ∧ Turn lo (lo + 1) W0 w' ∧ W.heap.size < w'.heap.size ∧ (∀ k, k < W.heap.size → hi9 ≤ k → w'.heap[k]? = W.heap[k]?) := by
  obtain ⟨fv, f1, f2, f3⟩ := hown
  obtain ⟨fy, b1, b2, b3⟩ := hy
  have hts := ht.size
  have hyl := o'.lt b1
  obtain ⟨a, n, cp, w', fv', hr, c1, c2, c3, c4, ⟨c5, c6, c7⟩, c8⟩ := run_app_fp (W := W) (W1 := W1) hT hE hz hpos hby hsz ty v xs c y fv fy f1 f2 b1 b2 (fun k hk hk2 => by have := b3 k hk; have := (f3 k hk2).2; omega) hone hn hW1
  refine ⟨a, n, cp, w', hr, ⟨fv', c1, c2, fun k hk => ?_⟩, ⟨c5.trans ht.os, c6.trans ht.tape, c7.trans ht.output, by omega, fun k hk hx => ?_⟩, c4, fun k hk hx => c8 k hk (fun hb => by have := (f3 k hb).2; omega)⟩
  · rcases c3 k hk with h | h | h
    · have := f3 k h; have := (O.slice E o').lt f1 k h; omega
    · have := b3 k h; have := hyl k h; omega
    · omega
  · rw [c8 k (by omega) (fun hb => by have := (f3 k hb).1; omega)]
    exact ht.block k hk hx

theorem cell_box2 {W : World} {p : Addr} {v : Value} {x : Obj} (h : W.cell? p = some v) : (W.drew.alloc x).cell? p = some v :=
  ((Below.refl W.heap.size W).drew.alloc (Nat.le_refl _) x |>.cell (cell_lt h)).trans h
/-- The text of an atom, and of a query. -/
def wordA (a : DA) : List UInt8 := a.1.data.toList ++ [40] ++ namesOf a.2 ++ [41]
def fmtQ (q : DQ) : List UInt8 := if validQ q then spaced (q.2.map wordA) else []
theorem wordA_bs (ml : List UInt8) (vs : List Int) : wordA (bs ml, vs) = ml ++ [40] ++ namesOf vs ++ [41] := by simp [wordA]
theorem name_len {ml : List UInt8} (h : nameB (bs ml) = true) : ml.length = 1 := by
  simp only [nameB, Bool.and_eq_true, decide_eq_true_eq] at h
  have := h.1
  rwa [bs_size] at this
theorem lens_atoms : ∀ {xs : List DA}, (∀ a ∈ xs, (wordA a).length ≤ 6) → Lib.lens (xs.map wordA) ≤ 6 * xs.length
  | [], _ => by simp [Lib.lens]
  | a :: t, h => by
    have h1 := h a (by simp)
    have h2 := lens_atoms (fun b hb => h b (List.mem_cons_of_mem a hb))
    simp only [Lib.lens, List.map_cons, List.sum_cons, List.length_cons] at h2 ⊢
    omega
theorem word_len {q : DQ} {n : Nat} (hq : QOk q n) : ∀ a ∈ q.2, (wordA a).length ≤ 6 := by
  intro a ha
  have h1 := hq.name a ha
  have h2 := hq.vlen a ha
  have h3 := namesOf_len a.2
  simp only [nameB, Bool.and_eq_true, decide_eq_true_eq] at h1
  have h4 : a.1.data.toList.length = 1 := h1.1
  simp only [wordA, List.length_append, List.length_cons, List.length_nil]
  omega

set_option maxRecDepth 100000 in
set_option maxHeartbeats 2000000 in
theorem fmtQ_spec (cs : List Value) (x : DQ) (w : World) (h : rQ.rep w cs x) :
    Calls Try.prog 56 #[.agg cs.toArray] w fun e w' => e = .returned (.string (bs (fmtQ x))) ∧ Below w.heap.size w w' := by
  have HV := Lib.hid (fun W (hW : Below w.heap.size w W) => validQ_spec cs x W (rQ.mono h hW))
  obtain ⟨qb, qn, qc, rfl, hi2, gq⟩ := rQ_open h
  obtain ⟨ok, hok⟩ : ∃ ok, validQ x = ok := ⟨_, rfl⟩
  rw [hok] at HV
  have HF : Hid (fmtQ x = if ok then spaced (x.2.map wordA) else []) := Lib.hid (by rw [fmtQ, hok])
  have HQ : Hid (ok = true → x.2.length ≤ 4 ∧ (∀ a ∈ x.2, (wordA a).length ≤ 6) ∧ (∀ a ∈ x.2, nameB a.1 = true ∧ a.2.length ≤ 3)) := Lib.hid (fun h9 => by
    obtain ⟨n, hq⟩ := QOk.of (hok.trans h9)
    exact ⟨hq.len, word_len hq, fun a ha => ⟨hq.name a ha, hq.vlen a ha⟩⟩)
  obtain ⟨vq, xs⟩ := x
  simp only at hi2 gq HQ
  have t0 := rS_sl gq
  have hl := t0.len
  have hqs := t0.small
  clear h gq hok
  have hb0 : Below w.heap.size w w := Below.refl _ _
  go_enter Try.func56, Try.ntmps56
  obtain ⟨w1, hw1⟩ : ∃ W, W = w.alloc (.cells #[.int .i64 vq, .slice qb qn qc] 26) := ⟨_, rfl⟩
  have z1 : Below w.heap.size w w1 := by rw [hw1]; exact (Below.refl _ _).alloc (Nat.le_refl _) _
  have s1 : w1.heap.size = w.heap.size + 1 := by rw [hw1]; simp
  have hb1 := on hb0 z1
  have q_0 : w1.cell? ⟨w.heap.size, 0, none⟩ = some (.int .i64 vq) := by rw [hw1]; exact box_cell (Below.refl _ _) rfl
  have q_1 : w1.cell? ⟨w.heap.size, 1, none⟩ = some (.slice qb qn qc) := by rw [hw1]; exact box_cell (Below.refl _ _) rfl
  have raw1_q_0 := q_0
  have raw1_q_1 := q_1
  rw [hw1] at raw1_q_0 raw1_q_1
  go_wp2_with fail
  rw [← hw1]
  clear hw1
  clear raw1_q_0 raw1_q_1
  go_loopw [3, 4] (fun s k wr => ∃ j : Nat, j ≤ qn ∧ (ok = false → j = 0) ∧ k = .int .i64 j ∧ s = .string (bs (spaced ((xs.map wordA).take j))) ∧ Below w1.heap.size w1 wr) (fun _ k _ => qn - (intOf k).toNat)
  case atStart => exact ⟨0, Nat.zero_le _, fun _ => rfl, rfl, by rw [List.take_zero]; rfl, Below.refl _ _⟩
  case round =>
    obtain ⟨j, hj, hj9, rfl, rfl, hdr⟩ := hrel
    have hlc := hdr
    have s2 := hdr.size
    have hb2 := on hb1 hdr
    replace q_0 := (hdr.cell (p := ⟨w.heap.size, 0, none⟩) (by simp only []; omega)).trans q_0
    replace q_1 := (hdr.cell (p := ⟨w.heap.size, 1, none⟩) (by simp only []; omega)).trans q_1
    by_cases hlt : j < qn
    · go_wp2_with fail
      refine (HV.out _ hb2).mono ?_
      rintro e w5 ⟨rfl, z5⟩
      have s3 := z5.size
      have hb3 := on hb2 z5
      replace q_0 := (z5.cell (p := ⟨w.heap.size, 0, none⟩) (by simp only []; omega)).trans q_0
      replace q_1 := (z5.cell (p := ⟨w.heap.size, 1, none⟩) (by simp only []; omega)).trans q_1
      replace hlc := on hlc z5
      cases ok with
      | false =>
        obtain rfl : j = 0 := hj9 rfl
        have HE : Hid (fmtQ (vq, xs) = []) := Lib.hid (by rw [HF.out]; rfl)
        go_wp2_with fail
        go_ret
        exact ⟨by rw [HE.out]; rfl, hb3⟩
      | true =>
        obtain ⟨wr, rfl⟩ : ∃ W, W = w5 := ⟨_, rfl⟩
        obtain ⟨hx4, hw6, hnm⟩ := HQ.out rfl
        have hlens := lens_atoms hw6
        have hpj := lens_take (xs.map wordA) j
        rw [List.length_map] at hpj
        obtain ⟨b1, o1, cs, a, rfl, hx, hr, hc⟩ := t0.at hlt
        obtain ⟨m1, vs⟩ := a
        obtain ⟨ml, rfl⟩ : ∃ ml, m1 = bs ml := ⟨_, (bs_of m1).symm⟩
        obtain ⟨vb, vn, vc, rfl, hs, gv⟩ := rA_open hr
        have hxm := List.mem_of_getElem? hx.out
        have hnl := name_len (hnm _ hxm).1
        have hvl := (hnm _ hxm).2
        simp only at hvl gv
        have hno := namesOf_len vs
        have e_lt : b1 < w.heap.size := cell_lt (hc 0 _ rfl)
        have e_0 : wr.cell? ⟨b1, o1 + j * 2, none⟩ = some (.string (bs ml)) := (hb3.cell (p := ⟨b1, o1 + j * 2, none⟩) e_lt).trans (by have h9 := hc 0 _ rfl; rw [← Nat.add_assoc] at h9; exact h9)
        have e_1 : wr.cell? ⟨b1, o1 + j * 2 + 1, none⟩ = some (.slice vb vn vc) := (hb3.cell (p := ⟨b1, o1 + j * 2 + 1, none⟩) e_lt).trans (by have h9 := hc 1 _ rfl; rw [← Nat.add_assoc] at h9; exact h9)
        have HS := Lib.hid (spaced_snoc (ws := xs.map wordA) (j := j) (y := wordA (bs ml, vs)) (by rw [List.getElem?_map, hx.out]; rfl))
        have HWB := Lib.hid (wordA_bs ml vs)
        have HN := Lib.hid (fun n9 => names_spec (.slice vb vn vc) vs (wr.drewN n9) (rI.mono gv ((hb3).trans ((Drew.below ⟨n9, rfl⟩ _)))) (by omega))
        have hjq : (j : Int) < (qn : Int) := by omega
        clear hc hx hr hs hxm hnm hw6 gv HQ
        by_cases hj0 : j = 0
        · skip
          subst hj0
          have e9_0 : wr.cell? ⟨b1, o1, none⟩ = some (.string (bs ml)) := by simpa using e_0
          have e9_1 : wr.cell? ⟨b1, o1 + 1, none⟩ = some (.slice vb vn vc) := by simpa using e_1
          clear e_0 e_1
          have HEQ : Hid (bs (spaced ((xs.map wordA).take (0 + 1))) = (((bs (spaced []) ++ bs ml) ++ ByteArray.mk #[40]) ++ bs (namesOf vs)) ++ ByteArray.mk #[41]) := Lib.hid (by rw [HS.out, if_pos rfl, HWB.out, ← bs_app, ← bs_app, ← bs_app, show bs (spaced []) ++ bs ml = bs ml from by rw [bs_app]; rfl])
          have hz1 : ¬ 9223372036854775807 < (bs (spaced [])).size + (bs ml).size := by simp [bs, ByteArray.size] at *; omega
          have hz2 : ¬ 9223372036854775807 < (bs (spaced []) ++ bs ml).size + (ByteArray.mk #[40]).size := by simp [bs, ByteArray.size] at *; omega
          have hz3 : ¬ 9223372036854775807 < (bs (spaced []) ++ bs ml ++ ByteArray.mk #[40]).size + (bs (namesOf vs)).size := by simp [bs, ByteArray.size] at *; omega
          have hz4 : ¬ 9223372036854775807 < (bs (spaced []) ++ bs ml ++ ByteArray.mk #[40] ++ bs (namesOf vs)).size + (ByteArray.mk #[41]).size := by simp [bs, ByteArray.size] at *; omega
          go_wp2_with fail
          go_quiet ((go_at_call 57; exact quiet_same (HN.out _)))
          go_wp2_with fail
          go_roundw
          case rel => exact ⟨0 + 1, by omega, (fun h9 => by cases h9), by go_num, by rw [HEQ.out], onD hlc ⟨_, rfl⟩⟩
          case measure => simp [intOf]; omega
        · skip
          have hj1 : (0 : Int) < (j : Int) := by omega
          have HEQ : Hid (bs (spaced ((xs.map wordA).take (j + 1))) = ((((bs (spaced ((xs.map wordA).take j)) ++ ByteArray.mk #[32]) ++ bs ml) ++ ByteArray.mk #[40]) ++ bs (namesOf vs)) ++ ByteArray.mk #[41]) := Lib.hid (by rw [HS.out, if_neg hj0, HWB.out]; simp only [← bs_app, ByteArray.append_assoc])
          have hz0 : ¬ 9223372036854775807 < (bs (spaced ((xs.map wordA).take j))).size + (ByteArray.mk #[32]).size := by simp [bs, ByteArray.size] at *; omega
          have hz1 : ¬ 9223372036854775807 < ((bs (spaced ((xs.map wordA).take j)) ++ ByteArray.mk #[32])).size + (bs ml).size := by simp [bs, ByteArray.size] at *; omega
          have hz2 : ¬ 9223372036854775807 < ((bs (spaced ((xs.map wordA).take j)) ++ ByteArray.mk #[32]) ++ bs ml).size + (ByteArray.mk #[40]).size := by simp [bs, ByteArray.size] at *; omega
          have hz3 : ¬ 9223372036854775807 < ((bs (spaced ((xs.map wordA).take j)) ++ ByteArray.mk #[32]) ++ bs ml ++ ByteArray.mk #[40]).size + (bs (namesOf vs)).size := by simp [bs, ByteArray.size] at *; omega
          have hz4 : ¬ 9223372036854775807 < ((bs (spaced ((xs.map wordA).take j)) ++ ByteArray.mk #[32]) ++ bs ml ++ ByteArray.mk #[40] ++ bs (namesOf vs)).size + (ByteArray.mk #[41]).size := by simp [bs, ByteArray.size] at *; omega
          go_wp2_with fail
          go_quiet ((go_at_call 57; exact quiet_same (HN.out _)))
          go_wp2_with fail
          go_roundw
          case rel => exact ⟨j + 1, by omega, (fun h9 => by cases h9), by go_num, by rw [HEQ.out], onD hlc ⟨_, rfl⟩⟩
          case measure => simp [intOf]; omega
    · have HE : Hid (fmtQ (vq, xs) = spaced ((xs.map wordA).take j)) := Lib.hid (by
        rw [HF.out]
        cases ok with
        | true => rw [if_pos rfl, List.take_of_length_le (by rw [List.length_map]; omega)]
        | false => obtain rfl : j = 0 := hj9 rfl; rfl)
      go_wp2_with fail
      go_ret
      exact ⟨by rw [HE.out]; rfl, hb2⟩

end Go.Proofs.Ytpgfkjcekhifiaa
