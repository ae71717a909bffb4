/- Texts joined for one claim: Two, ValidDb, ValidQI, ValidQS, CloP, Look, MaskC, KeyP, MaskV, MaskI, CloI. -/
import Derived.Test.YtbkoddikfpkocaaQ9c969ada00
import Derived.Deep.RegionHeld3

/- Two slices that a loop appends to (rows, and ints), beside a cell of its own. -/
namespace Go.Proofs.Ytbkoddikfpkocaa
open Go.RowKit
set_option linter.unusedVariables false
set_option linter.unusedSimpArgs false

/-- append of one element, run: the footprints told. -/
theorem run_app_fp {α : Type} {T E size bytes : Nat} {z : Value} (hT : Try.prog.underlying T = some (.slice E)) (hE : (Try.prog.info? E).map (fun i => (i.zero, i.size, i.bytes)) = some (some z, size, bytes)) (hz : z.cells.size = size) (hpos : 0 < size) (hby : bytes ≤ 1000)
    {o' : OS α} (hsz : o'.size = size) {W W1 : World} (ty : TypeId) (v : Value) (xs : List α) (c : List Value) (y : α) (fv fy : List Nat)
    (hv : (O.slice E o').rep W [v] xs fv) (hnd : fv.Nodup) (hyr : o'.rep W c y fy) (hynd : fy.Nodup) (hdis : ∀ k ∈ fy, k ∉ fv) (hone : ∀ u ∈ c, u.oneCell' = true) (hn : xs.length ≤ 100000000) (hW1 : W1 = W.alloc (.cells c.toArray E)) :
    ∃ a n cp w' fv', (Builtin.append_ #[T, T] ty #[v, .slice (some ⟨W.heap.size, 0, none⟩) 1 1]).run Try.prog W1 = .ok (.slice a n cp) w' ∧ (O.slice E o').rep w' [.slice a n cp] (xs ++ [y]) fv' ∧ fv'.Nodup ∧ (∀ k ∈ fv', k ∈ fv ∨ k ∈ fy ∨ (W.heap.size < k ∧ k < w'.heap.size)) ∧ W.heap.size < w'.heap.size ∧ (w'.os = W.os ∧ w'.tape = W.tape ∧ w'.output = W.output) ∧ (∀ k, k < W.heap.size → k ∉ fv → w'.heap[k]? = W.heap[k]?) := by
  subst hW1
  obtain ⟨i, hi, hz0, hz1, hz2⟩ := info_parts hE
  have hlt9 := (O.slice E o').lt hv
  obtain ⟨v1, css, fps, hv1, rfl, hrow, hrows⟩ := hv
  simp at hv1
  subst hv1
  have hclen : c.length = size := by rw [← hsz]; exact o'.len hyr
  rw [hsz] at hrow
  have hnl := List.nodup_append.1 hnd
  have hnew : Below W.heap.size W (W.alloc (.cells c.toArray E)) := (Below.refl _ _).alloc (Nat.le_refl _) _
  have hrow1 := own_below hrow hnew (Nat.le_refl _)
  have hylt := o'.lt hyr
  have hby2 : (xs.length + 1) * bytes ≤ 140737488355328 := Nat.le_trans (Nat.mul_le_mul (show xs.length + 1 ≤ 100000001 by omega) hby) (by decide)
  obtain ⟨v', w', hrun, h3, h4, _, h5⟩ := run_append_own_at (P := Try.prog) (W.alloc (.cells c.toArray E)) 0 T ty E i z size bytes hT hi hz0 hz1 hz2 hz hpos v xs.length css.flatten hrow1 ⟨W.heap.size, 0, none⟩ 1 1 c (by omega) (fresh_cells W c E) hone (by unfold maxLen; omega) hby2 (Nat.zero_le _)
  obtain ⟨a', cp, rfl, _, _⟩ := own_form h3
  have hsz' := h4.size
  simp at hsz'
  have hv' : ∀ k ∈ bl (.slice a' (xs.length + 1) cp), k ∈ bl v ∨ k = W.heap.size + 1 := by
    intro k hk
    have hk' : (Value.slice a' (xs.length + 1) cp).ownBlock = some k := by simpa [bl] using hk
    rcases h5 with h5 | h5
    · left; simp only [bl]; rw [← h5, hk']; simp
    · right
      rw [h5] at hk'
      simp at hk'
      omega
  have hkeep : ∀ k, k < W.heap.size → k ∉ bl v → w'.heap[k]? = W.heap[k]? := by
    intro k hk hn
    rw [h4.block k (by simp; omega) (fun e => hn (by simp only [bl]; rw [← e]; simp)), Below.heap_alloc W _ k hk]
  refine ⟨a', xs.length + 1, cp, w', bl (.slice a' (xs.length + 1) cp) ++ (fps ++ [fy]).flatten, hrun, ⟨_, css ++ [c], fps ++ [fy], rfl, rfl, ?_, ?_⟩, ?_, ?_, by omega, ⟨h4.os, h4.tape, h4.output⟩, fun k hk hx => hkeep k hk (fun hb => hx (List.mem_append_left _ hb))⟩
  · rw [hsz]; simpa using h3
  · have hk2 : ∀ k, k ∈ fps.flatten ++ fy → w'.heap[k]? = W.heap[k]? := by
      intro k hk
      rcases List.mem_append.1 hk with hk | hk
      · exact hkeep k (hlt9 k (List.mem_append_right _ hk)) (fun hb => hnl.2.2 k hb k hk rfl)
      · exact hkeep k (hylt k hk) (fun hb => hdis k hk (List.mem_append_left _ hb))
    exact o'.rows_snoc (o'.frame hyr (fun k hk => hk2 k (List.mem_append_right _ hk))) (o'.rows_frame hrows (fun k hk => hk2 k (List.mem_append_left _ hk)))
  · rw [List.flatten_append, List.nodup_append]
    refine ⟨by unfold bl; cases (Value.slice a' (xs.length + 1) cp).ownBlock <;> simp, ?_, ?_⟩
    · rw [List.nodup_append]
      refine ⟨hnl.2.1, by simpa using hynd, ?_⟩
      intro p hp q hq e
      subst e
      exact hdis p (by simpa using hq) (List.mem_append_right _ hp)
    · intro p hp q hq e
      subst e
      rcases hv' p hp with h8 | h8
      · rcases List.mem_append.1 hq with hq | hq
        · exact hnl.2.2 p h8 p hq rfl
        · exact hdis p (by simpa using hq) (List.mem_append_left _ h8)
      · rcases List.mem_append.1 hq with hq | hq
        · have := hlt9 p (List.mem_append_right _ hq); omega
        · have := hylt p (by simpa using hq); omega
  · intro k hk
    rcases List.mem_append.1 hk with hk | hk
    · rcases hv' k hk with h8 | h8
      · exact .inl (List.mem_append_left _ h8)
      · have h9 := (h3.lt k (by simpa [bl] using hk)).2
        exact .inr (.inr (by omega))
    · simp only [List.flatten_append, List.mem_append] at hk
      rcases hk with hk | hk
      · exact .inl (List.mem_append_right _ hk)
      · exact .inr (.inl (by simpa using hk))

/-- v (rows) and u (ints) are slices of the call's own, apart, from lo on; the block cb is no part of them. -/
def Two (lo hi cb : Nat) (w : World) (v u : Value) (xs : List (List Int)) (ys : List Int) : Prop :=
  ∃ fv fu, oII.rep w [v] xs fv ∧ oI.rep w [u] ys fu ∧ fv.Nodup ∧ fu.Nodup ∧ (∀ k ∈ fv, k ∉ fu) ∧ cb ∉ fv ∧ cb ∉ fu ∧ (∀ k ∈ fv, lo ≤ k ∧ k < hi) ∧ (∀ k ∈ fu, lo ≤ k ∧ k < hi)
theorem Two.mono {lo hi hi' cb : Nat} {w : World} {v u : Value} {xs : List (List Int)} {ys : List Int} (h : Two lo hi cb w v u xs ys) (hh : hi ≤ hi') : Two lo hi' cb w v u xs ys := by
  obtain ⟨fv, fu, h1, h2, h3, h4, h5, h6, h7, h8, h9⟩ := h
  exact ⟨fv, fu, h1, h2, h3, h4, h5, h6, h7, fun k hk => by have := h8 k hk; omega, fun k hk => by have := h9 k hk; omega⟩
theorem Two.frame {lo hi cb : Nat} {w w' : World} {v u : Value} {xs : List (List Int)} {ys : List Int} (h : Two lo hi cb w v u xs ys) (hb : ∀ k, lo ≤ k → k < hi → k ≠ cb → w'.heap[k]? = w.heap[k]?) : Two lo hi cb w' v u xs ys := by
  obtain ⟨fv, fu, h1, h2, h3, h4, h5, h6, h7, h8, h9⟩ := h
  exact ⟨fv, fu, oII.frame h1 (fun k hk => hb k (h8 k hk).1 (h8 k hk).2 (fun e => h6 (e ▸ hk))), oI.frame h2 (fun k hk => hb k (h9 k hk).1 (h9 k hk).2 (fun e => h7 (e ▸ hk))), h3, h4, h5, h6, h7, h8, h9⟩
theorem Two.below {lo hi cb C : Nat} {w w' : World} {v u : Value} {xs : List (List Int)} {ys : List Int} (h : Two lo hi cb w v u xs ys) (hb : Below C w w') (hC : hi ≤ C) : Two lo hi cb w' v u xs ys :=
  h.frame fun k _ hk _ => hb.block k (by omega)
/-- Another cell. -/
theorem Two.recb {lo hi cb cb' : Nat} {w : World} {v u : Value} {xs : List (List Int)} {ys : List Int} (h : Two lo hi cb w v u xs ys) (hc : hi ≤ cb' ∨ cb' < lo) : Two lo hi cb' w v u xs ys := by
  obtain ⟨fv, fu, h1, h2, h3, h4, h5, h6, h7, h8, h9⟩ := h
  exact ⟨fv, fu, h1, h2, h3, h4, h5, fun hk => by have := h8 _ hk; omega, fun hk => by have := h9 _ hk; omega, h8, h9⟩
theorem Two.set {lo hi cb i : Nat} {w : World} {v u : Value} {xs : List (List Int)} {ys : List Int} (h : Two lo hi cb w v u xs ys) (x : Value) : Two lo hi cb (w.setCell ⟨cb, i, none⟩ x) v u xs ys :=
  h.frame fun k _ _ hk => Below.heap_setCell _ _ _ _ hk
theorem Two.fst {lo hi cb : Nat} {w : World} {v u : Value} {xs : List (List Int)} {ys : List Int} (h : Two lo hi cb w v u xs ys) : Own oII lo hi w [v] xs := by
  obtain ⟨fv, fu, h1, h2, h3, h4, h5, h6, h7, h8, h9⟩ := h
  exact ⟨fv, h1, h3, h8⟩
theorem Two.snd {lo hi cb : Nat} {w : World} {v u : Value} {xs : List (List Int)} {ys : List Int} (h : Two lo hi cb w v u xs ys) : Own oI lo hi w [u] ys := by
  obtain ⟨fv, fu, h1, h2, h3, h4, h5, h6, h7, h8, h9⟩ := h
  exact ⟨fu, h2, h4, h9⟩
theorem Two.mk {lo mid hi cb : Nat} {w : World} {v u : Value} {xs : List (List Int)} {ys : List Int} (h : Own oII lo mid w [v] xs) (k : Own oI mid hi w [u] ys) (hc : cb < lo ∨ hi ≤ cb) (h1 : lo ≤ mid) (h2 : mid ≤ hi) : Two lo hi cb w v u xs ys := by
  obtain ⟨fv, a1, a2, a3⟩ := h
  obtain ⟨fu, b1, b2, b3⟩ := k
  exact ⟨fv, fu, a1, b1, a2, b2, fun k hk hk2 => by have := a3 k hk; have := b3 k hk2; omega, fun hk => by have := a3 _ hk; omega, fun hk => by have := b3 _ hk; omega, fun k hk => by have := a3 k hk; omega, fun k hk => by have := b3 k hk; omega⟩

/-- A row goes in. -/
theorem Two.row {lo hi cb h1 h2 : Nat} {W W1 : World} {v u y : Value} {xs : List (List Int)} {ys r : List Int} (ty : TypeId) (h : Two lo hi cb W v u xs ys) (hy : Own oI h1 h2 W [y] r) (hone : y.oneCell' = true) (hh1 : hi ≤ h1) (hh : h1 ≤ h2) (hh2 : h2 ≤ W.heap.size) (hcb : cb < h1) (hlo : lo ≤ hi) (hn : xs.length ≤ 1000000) (hW1 : W1 = W.alloc (.cells #[y] 24)) :
    ∃ a n c w', (Builtin.append_ #[32, 32] ty #[v, .slice (some ⟨W.heap.size, 0, none⟩) 1 1]).run Try.prog W1 = .ok (.slice a n c) w' ∧ Two lo w'.heap.size cb w' (.slice a n c) u (xs ++ [r]) ys ∧ Below lo W w' ∧ W.heap.size < w'.heap.size ∧ w'.heap[cb]? = W.heap[cb]? := by
  obtain ⟨fv, fu, a1, a2, a3, a4, a5, a6, a7, a8, a9⟩ := h
  obtain ⟨fy, b1, b2, b3⟩ := hy
  obtain ⟨a, n, c, w', fv', hr, c1, c2, c3, c4, ⟨c5, c6, c7⟩, c8⟩ := run_app_fp (W := W) (W1 := W1) Try.underlying32 infoI rfl (by decide) (by decide) rfl ty v xs [y] r fv fy a1 a3 b1 b2 (fun k hk hk2 => by have := b3 k hk; have := a8 k hk2; omega) (by intro z hz; simp at hz; subst hz; exact hone) (by omega) hW1
  have hcbW : cb < W.heap.size := by omega
  refine ⟨a, n, c, w', hr, ⟨fv', fu, c1, oI.frame a2 (fun k hk => c8 k (by have := a9 k hk; omega) (fun hk2 => a5 k hk2 hk)), c2, a4, fun k hk hk2 => ?_, fun hk => ?_, a7, fun k hk => ?_, fun k hk => by have := a9 k hk; omega⟩, ⟨c5, c6, c7, by omega, fun k hk => c8 k (by omega) (fun hk2 => by have := a8 k hk2; omega)⟩, c4, c8 cb hcbW a6⟩
  · have := a9 k hk2
    rcases c3 k hk with h9 | h9 | h9
    · exact a5 k h9 hk2
    · have := b3 k h9; omega
    · omega
  · rcases c3 _ hk with h9 | h9 | h9
    · exact a6 h9
    · have := b3 _ h9; omega
    · omega
  · rcases c3 k hk with h9 | h9 | h9
    · have := a8 k h9; omega
    · have := b3 k h9; omega
    · omega
/-- A number goes in. -/
theorem Two.num {lo hi cb : Nat} {W W1 : World} {v u : Value} {xs : List (List Int)} {ys : List Int} {r : Int} (ty : TypeId) (h : Two lo hi cb W v u xs ys) (hr : I64 r) (hh2 : hi ≤ W.heap.size) (hcb : cb < W.heap.size) (hlo : lo ≤ hi) (hn : ys.length ≤ 1000000) (hW1 : W1 = W.alloc (.cells #[.int .i64 r] 3)) :
    ∃ a n c w', (Builtin.append_ #[24, 24] ty #[u, .slice (some ⟨W.heap.size, 0, none⟩) 1 1]).run Try.prog W1 = .ok (.slice a n c) w' ∧ Two lo w'.heap.size cb w' v (.slice a n c) xs (ys ++ [r]) ∧ Below lo W w' ∧ W.heap.size < w'.heap.size ∧ w'.heap[cb]? = W.heap[cb]? := by
  obtain ⟨fv, fu, a1, a2, a3, a4, a5, a6, a7, a8, a9⟩ := h
  obtain ⟨a, n, c, w', fu', hrun, c1, c2, c3, c4, ⟨c5, c6, c7⟩, c8⟩ := run_app_fp (W := W) (W1 := W1) Try.underlying24 infoInt rfl (by decide) (by decide) rfl ty u ys [.int .i64 r] r fu [] a2 a4 (o' := O.int) ⟨rfl, hr, rfl⟩ (by simp) (fun k hk => by cases hk) (by intro z hz; simp at hz; subst hz; rfl) (by omega) hW1
  refine ⟨a, n, c, w', hrun, ⟨fv, fu', oII.frame a1 (fun k hk => c8 k (by have := a8 k hk; omega) (fun hk2 => a5 k hk hk2)), c1, a3, c2, fun k hk hk2 => ?_, a6, fun hk => ?_, fun k hk => by have := a8 k hk; omega, fun k hk => ?_⟩, ⟨c5, c6, c7, by omega, fun k hk => c8 k (by omega) (fun hk2 => by have := a9 k hk2; omega)⟩, c4, c8 cb hcb a7⟩
  · have := a8 k hk
    rcases c3 k hk2 with h9 | h9 | h9
    · exact a5 k hk h9
    · cases h9
    · omega
  · rcases c3 _ hk with h9 | h9 | h9
    · exact a7 h9
    · cases h9
    · omega
  · rcases c3 k hk with h9 | h9 | h9
    · have := a9 k h9; omega
    · cases h9
    · omega
/-- A builtin append, by its run. -/
theorem wpList_app_run {W W' : World} {ops : Array Oper} {rest : List Oper} {o : Oper} {a : Act} {Q : Exit → Act → World → Prop} {s x : Operand} {t t' ty : TypeId} {vs vx v' : Value}
    (hrun : (Builtin.append_ #[t, t'] ty #[vs, vx]).run Try.prog W = .ok v' W') (hty : o.type = ty) (hgd : o.guard = none)
    (ho : o.op = .call { callee := .builtin .append, args := #[s, x], argTypes := #[t, t'] }) (hs : a.eval s = vs) (hx : a.eval x = vx)
    (h : wpList Try.prog ops Q rest (a.put o.dst v') W') : wpList Try.prog ops Q (o :: rest) a W := by
  refine wpList_plain hgd fun K hK => ?_
  unfold Oper.wp execOp
  simp only [ho, resolve, invoke, builtin, Sem.run_bind, Sem.run_pure, Result.andThen_ok, List.map_toArray, List.map_cons, List.map_nil, hs, hx, hty, hrun]
  exact hK _ _ h

end Go.Proofs.Ytbkoddikfpkocaa

/- Contracts: whether a database is valid. -/
namespace Go.Proofs.Ytbkoddikfpkocaa
open Go.RowKit Go.Sort
set_option linter.unusedVariables false
set_option linter.unusedSimpArgs false
set_option synthInstance.maxSize 2000
set_option synthInstance.maxHeartbeats 400000

/-- Names compared. -/
def ltB (s t : ByteArray) : Bool := Op.bytesLess s.toList t.toList
def dbFrom (p : Option ByteArray) : List DT → Bool
  | [] => true
  | t :: r => validT t && ((match p with | none => true | some q => ltB q t.1) && dbFrom (some t.1) r)
/-- Whether a database is valid. -/
def validDb (db : DDb) : Bool := dbFrom none db && decide (db.length ≤ 6)
def prevN (db : List DT) : Nat → Option ByteArray
  | 0 => none
  | j + 1 => (db[j]?).map (fun t => t.1)
theorem dbFrom_at {p : Option ByteArray} {db : List DT} {j : Nat} {t : DT} (h : db[j]? = some t) : dbFrom p (db.drop j) = (validT t && ((match p with | none => true | some q => ltB q t.1) && dbFrom (some t.1) (db.drop (j + 1)))) := by
  rw [drop_at h]; rfl
theorem dbFrom_end {p : Option ByteArray} {db : List DT} {j : Nat} (h : db.length ≤ j) : dbFrom p (db.drop j) = true := by
  rw [List.drop_eq_nil_of_le h]; rfl
theorem prevN_at {db : List DT} {j : Nat} {t : DT} (h : db[j]? = some t) : prevN db (j + 1) = some t.1 := by simp [prevN, h]
theorem validDb_no {db : DDb} (h : dbFrom none db = false) : validDb db = false := by simp [validDb, h]
theorem validDb_len {db : DDb} {n : Nat} (hl : db.length = n) (h : dbFrom none db = true) : validDb db = decide ((n : Int) ≤ 6) := by
  rw [validDb, h, hl, Bool.eq_iff_iff]; simp only [Bool.true_and, decide_eq_true_eq]; omega

set_option maxHeartbeats 4000000 in
theorem validDb_impl (cs : List Value) (x : DDb) (w : World) (h : rDb.rep w cs x) :
    Calls Try.prog 196 #[.agg cs.toArray] w fun e w' => e = .returned (.bool (validDb x)) ∧ Below w.heap.size w w' := by
  obtain ⟨ub, un, uc, rfl, g1⟩ := rDb_open h
  clear h
  have t1 := rS_sl g1
  have hl := t1.len
  have hn := t1.small
  have HV : Hid (dbFrom none x = dbFrom (prevN x 0) (x.drop 0)) := rfl
  have HL := Lib.hid hl
  have hb0 : Below w.heap.size w w := Below.refl _ _
  go_enter Try.func196, Try.ntmps196
  obtain ⟨w1, hw1⟩ : ∃ W, W = w.alloc (.cells #[.slice ub un uc] 89) := ⟨_, rfl⟩
  have z1 : Below w.heap.size w w1 := by rw [hw1]; exact (Below.refl _ _).alloc (Nat.le_refl _) _
  have s1 : w1.heap.size = w.heap.size + 1 := by rw [hw1]; simp
  have hb1 := on hb0 z1
  have b_0 : w1.cell? ⟨w.heap.size, 0, none⟩ = some (.slice ub un uc) := by rw [hw1]; exact box_cell (Below.refl _ _) rfl
  have raw1_b_0 := b_0
  rw [hw1] at raw1_b_0
  go_wp2_with fail
  rw [← hw1]
  clear hw1
  clear raw1_b_0
  go_loopw [8] (fun k wr => ∃ j : Nat, j ≤ un ∧ k = .int .i64 j ∧ Hid (dbFrom none x = dbFrom (prevN x j) (x.drop j)) ∧ Below w1.heap.size w1 wr) (fun k _ => un - (intOf k).toNat)
  case atStart => exact ⟨0, Nat.zero_le _, rfl, HV.out, Below.refl _ _⟩
  case round =>
    obtain ⟨j, hj, rfl, hE, hdr⟩ := hrel
    obtain ⟨wo, rfl⟩ : ∃ W, W = wr := ⟨_, rfl⟩
    have hlc := hdr
    have s2 := hdr.size
    have hb2 := on hb1 hdr
    replace b_0 := (hdr.cell (p := ⟨w.heap.size, 0, none⟩) (by simp only []; omega)).trans b_0
    by_cases hlt : j < un
    · obtain ⟨b1, o1, cs, t, rfl, hx, hr, hc⟩ := t1.at hlt
      have HA := Lib.hid (hE.out.trans (dbFrom_at hx.out))
      have HP := Lib.hid (prevN_at hx.out)
      obtain ⟨s, i, rows⟩ := t
      obtain ⟨tb, tn, tc, rfl, hs, hi, g2⟩ := rT_open hr
      simp only at hs hi g2 HA HP
      have e_lt : b1 < w.heap.size := cell_lt (hc 0 _ rfl)
      have e_0 : wo.cell? ⟨b1, o1 + j * 3, none⟩ = some (.string s) := (hb2.cell (p := ⟨b1, o1 + j * 3, none⟩) e_lt).trans (by have h9 := hc 0 _ rfl; rw [← Nat.add_assoc] at h9; exact h9)
      have e_1 : wo.cell? ⟨b1, o1 + j * 3 + 1, none⟩ = some (.int .i64 i) := (hb2.cell (p := ⟨b1, o1 + j * 3 + 1, none⟩) e_lt).trans (by have h9 := hc 1 _ rfl; rw [← Nat.add_assoc] at h9; exact h9)
      have e_2 : wo.cell? ⟨b1, o1 + j * 3 + 2, none⟩ = some (.slice tb tn tc) := (hb2.cell (p := ⟨b1, o1 + j * 3 + 2, none⟩) e_lt).trans (by have h9 := hc 2 _ rfl; rw [← Nat.add_assoc] at h9; exact h9)
      have hcall := fun W (hW : Below w.heap.size w W) => validT_impl [.string s, .int .i64 i, .slice tb tn tc] (s, i, rows) W (rT.mono hr hW)
      obtain ⟨v, hv⟩ : ∃ v, v = validT (s, i, rows) := ⟨_, rfl⟩
      rw [← hv] at hcall HA
      have HC := Lib.hid hcall
      clear hcall hv hE HV hc hr g2 hl
      by_cases hj0 : j = 0
      · subst hj0
        have z_0 : wo.cell? ⟨b1, o1, none⟩ = some (.string s) := by have h9 := e_0; rw [Nat.zero_mul, Nat.add_zero] at h9; exact h9
        have z_1 : wo.cell? ⟨b1, o1 + 1, none⟩ = some (.int .i64 i) := by have h9 := e_1; rw [Nat.zero_mul, Nat.add_zero] at h9; exact h9
        have z_2 : wo.cell? ⟨b1, o1 + 2, none⟩ = some (.slice tb tn tc) := by have h9 := e_2; rw [Nat.zero_mul, Nat.add_zero] at h9; exact h9
        clear e_0 e_1 e_2
        have HA1 : Hid (dbFrom none x = (v && dbFrom (prevN x (0 + 1)) (x.drop (0 + 1)))) := Lib.hid (by rw [HA.out, HP.out]; simp [prevN])
        clear hx HA HP t1
        cases v with
        | true =>
          have HE : Hid (dbFrom none x = dbFrom (prevN x (0 + 1)) (x.drop (0 + 1))) := Lib.hid (by rw [HA1.out]; rfl)
          obtain ⟨w3, hw3⟩ : ∃ W, W = wo.alloc (.cells #[.string s, .int .i64 i, .slice tb tn tc] 34) := ⟨_, rfl⟩
          have z3 : Below wo.heap.size wo w3 := by rw [hw3]; exact (Below.refl _ _).alloc (Nat.le_refl _) _
          have s3 : w3.heap.size = wo.heap.size + 1 := by rw [hw3]; simp
          have hb3 := on hb2 z3
          have old3_b_0 := b_0
          have old3_z_0 := z_0
          have old3_z_1 := z_1
          have old3_z_2 := z_2
          replace b_0 := (z3.cell (p := ⟨w.heap.size, 0, none⟩) (by simp only []; omega)).trans b_0
          replace hlc := on hlc z3
          replace z_0 := (z3.cell (p := ⟨b1, o1, none⟩) (by simp only []; omega)).trans z_0
          replace z_1 := (z3.cell (p := ⟨b1, o1 + 1, none⟩) (by simp only []; omega)).trans z_1
          replace z_2 := (z3.cell (p := ⟨b1, o1 + 2, none⟩) (by simp only []; omega)).trans z_2
          have p_0 : w3.cell? ⟨wo.heap.size, 0, none⟩ = some (.string s) := by rw [hw3]; exact box_cell (Below.refl _ _) rfl
          have p_1 : w3.cell? ⟨wo.heap.size, 1, none⟩ = some (.int .i64 i) := by rw [hw3]; exact box_cell (Below.refl _ _) rfl
          have p_2 : w3.cell? ⟨wo.heap.size, 2, none⟩ = some (.slice tb tn tc) := by rw [hw3]; exact box_cell (Below.refl _ _) rfl
          have raw3_b_0 := b_0
          have raw3_z_0 := z_0
          have raw3_z_1 := z_1
          have raw3_z_2 := z_2
          have raw3_p_0 := p_0
          have raw3_p_1 := p_1
          have raw3_p_2 := p_2
          rw [hw3] at raw3_b_0 raw3_z_0 raw3_z_1 raw3_z_2 raw3_p_0 raw3_p_1 raw3_p_2
          go_wp2_with fail
          rw [← hw3]
          clear hw3
          clear old3_b_0 old3_z_0 old3_z_1 old3_z_2 raw3_b_0 raw3_z_0 raw3_z_1 raw3_z_2 raw3_p_0 raw3_p_1 raw3_p_2
          have rg_b_0 := cell_regrown b_0
          have rg_z_0 := cell_regrown z_0
          have rg_z_1 := cell_regrown z_1
          have rg_z_2 := cell_regrown z_2
          have rg_p_0 := cell_regrown p_0
          have rg_p_1 := cell_regrown p_1
          have rg_p_2 := cell_regrown p_2
          refine wp_region_quiet_below (by kernel_rfl) (by kernel_rfl) ?_
          repeat (go_big_quiet_step ((first | (go_at_call 137; exact Calls.regrown_of (HC.out _ (on hb3 (below_regrown _ _ _)))))))
          refine wpQuiet_nil ?_
          intro w4 hw4
          have z4 : Below w3.heap.size w3 w4 := by obtain ⟨p9, e9⟩ := hw4; rw [e9]; exact below_regrown _ _ _
          clear hw4 rg_b_0 rg_z_0 rg_z_1 rg_z_2 rg_p_0 rg_p_1 rg_p_2
          have s5 := z4.size
          have hb5 := on hb3 z4
          replace b_0 := (z4.cell (p := ⟨w.heap.size, 0, none⟩) (by simp only []; omega)).trans b_0
          replace hlc := on hlc z4
          replace z_0 := (z4.cell (p := ⟨b1, o1, none⟩) (by simp only []; omega)).trans z_0
          replace z_1 := (z4.cell (p := ⟨b1, o1 + 1, none⟩) (by simp only []; omega)).trans z_1
          replace z_2 := (z4.cell (p := ⟨b1, o1 + 2, none⟩) (by simp only []; omega)).trans z_2
          replace p_0 := (z4.cell (p := ⟨wo.heap.size, 0, none⟩) (by simp only []; omega)).trans p_0
          replace p_1 := (z4.cell (p := ⟨wo.heap.size, 1, none⟩) (by simp only []; omega)).trans p_1
          replace p_2 := (z4.cell (p := ⟨wo.heap.size, 2, none⟩) (by simp only []; omega)).trans p_2
          go_wp2_with fail
          go_roundw
          case rel => exact ⟨1, by omega, rfl, HE.out, hlc⟩
          case measure => simp [intOf]; omega
        | false =>
          have HE := Lib.hid (validDb_no (db := x) (by rw [HA1.out]; rfl))
          obtain ⟨w6, hw6⟩ : ∃ W, W = wo.alloc (.cells #[.string s, .int .i64 i, .slice tb tn tc] 34) := ⟨_, rfl⟩
          have z6 : Below wo.heap.size wo w6 := by rw [hw6]; exact (Below.refl _ _).alloc (Nat.le_refl _) _
          have s6 : w6.heap.size = wo.heap.size + 1 := by rw [hw6]; simp
          have hb6 := on hb2 z6
          have old6_b_0 := b_0
          have old6_z_0 := z_0
          have old6_z_1 := z_1
          have old6_z_2 := z_2
          replace b_0 := (z6.cell (p := ⟨w.heap.size, 0, none⟩) (by simp only []; omega)).trans b_0
          replace hlc := on hlc z6
          replace z_0 := (z6.cell (p := ⟨b1, o1, none⟩) (by simp only []; omega)).trans z_0
          replace z_1 := (z6.cell (p := ⟨b1, o1 + 1, none⟩) (by simp only []; omega)).trans z_1
          replace z_2 := (z6.cell (p := ⟨b1, o1 + 2, none⟩) (by simp only []; omega)).trans z_2
          have p_0 : w6.cell? ⟨wo.heap.size, 0, none⟩ = some (.string s) := by rw [hw6]; exact box_cell (Below.refl _ _) rfl
          have p_1 : w6.cell? ⟨wo.heap.size, 1, none⟩ = some (.int .i64 i) := by rw [hw6]; exact box_cell (Below.refl _ _) rfl
          have p_2 : w6.cell? ⟨wo.heap.size, 2, none⟩ = some (.slice tb tn tc) := by rw [hw6]; exact box_cell (Below.refl _ _) rfl
          have raw6_b_0 := b_0
          have raw6_z_0 := z_0
          have raw6_z_1 := z_1
          have raw6_z_2 := z_2
          have raw6_p_0 := p_0
          have raw6_p_1 := p_1
          have raw6_p_2 := p_2
          rw [hw6] at raw6_b_0 raw6_z_0 raw6_z_1 raw6_z_2 raw6_p_0 raw6_p_1 raw6_p_2
          go_wp2_with fail
          rw [← hw6]
          clear hw6
          clear old6_b_0 old6_z_0 old6_z_1 old6_z_2 raw6_b_0 raw6_z_0 raw6_z_1 raw6_z_2 raw6_p_0 raw6_p_1 raw6_p_2
          have rg_b_0 := cell_regrown b_0
          have rg_z_0 := cell_regrown z_0
          have rg_z_1 := cell_regrown z_1
          have rg_z_2 := cell_regrown z_2
          have rg_p_0 := cell_regrown p_0
          have rg_p_1 := cell_regrown p_1
          have rg_p_2 := cell_regrown p_2
          refine wp_region_quiet_below (by kernel_rfl) (by kernel_rfl) ?_
          repeat (go_big_quiet_step ((first | (go_at_call 137; exact Calls.regrown_of (HC.out _ (on hb6 (below_regrown _ _ _)))))))
          refine wpQuiet_nil ?_
          intro w7 hw7
          have z7 : Below w6.heap.size w6 w7 := by obtain ⟨p9, e9⟩ := hw7; rw [e9]; exact below_regrown _ _ _
          clear hw7 rg_b_0 rg_z_0 rg_z_1 rg_z_2 rg_p_0 rg_p_1 rg_p_2
          have s8 := z7.size
          have hb8 := on hb6 z7
          replace b_0 := (z7.cell (p := ⟨w.heap.size, 0, none⟩) (by simp only []; omega)).trans b_0
          replace hlc := on hlc z7
          replace z_0 := (z7.cell (p := ⟨b1, o1, none⟩) (by simp only []; omega)).trans z_0
          replace z_1 := (z7.cell (p := ⟨b1, o1 + 1, none⟩) (by simp only []; omega)).trans z_1
          replace z_2 := (z7.cell (p := ⟨b1, o1 + 2, none⟩) (by simp only []; omega)).trans z_2
          replace p_0 := (z7.cell (p := ⟨wo.heap.size, 0, none⟩) (by simp only []; omega)).trans p_0
          replace p_1 := (z7.cell (p := ⟨wo.heap.size, 1, none⟩) (by simp only []; omega)).trans p_1
          replace p_2 := (z7.cell (p := ⟨wo.heap.size, 2, none⟩) (by simp only []; omega)).trans p_2
          go_wp2_with fail
          go_ret
          exact ⟨ret_bool HE.out.symm, hb8⟩
      obtain ⟨l, rfl⟩ : ∃ l, j = l + 1 := ⟨j - 1, by omega⟩
      obtain ⟨b9, o9, cs, t, hb9, hy, hr, hc⟩ := t1.at (show l < un by omega)
      simp at hb9
      obtain ⟨rfl, rfl⟩ := hb9
      have HP2 := Lib.hid (prevN_at hy.out)
      obtain ⟨s2, i2, rows2⟩ := t
      obtain ⟨tb2, tn2, tc2, rfl, hs2, hi2, g2⟩ := rT_open hr
      simp only at HP2
      have f_lt : b1 < w.heap.size := cell_lt (hc 0 _ rfl)
      have f_0 : wo.cell? ⟨b1, o1 + l * 3, none⟩ = some (.string s2) := (hb2.cell (p := ⟨b1, o1 + l * 3, none⟩) f_lt).trans (by have h9 := hc 0 _ rfl; rw [← Nat.add_assoc] at h9; exact h9)
      have f_1 : wo.cell? ⟨b1, o1 + l * 3 + 1, none⟩ = some (.int .i64 i2) := (hb2.cell (p := ⟨b1, o1 + l * 3 + 1, none⟩) f_lt).trans (by have h9 := hc 1 _ rfl; rw [← Nat.add_assoc] at h9; exact h9)
      have f_2 : wo.cell? ⟨b1, o1 + l * 3 + 2, none⟩ = some (.slice tb2 tn2 tc2) := (hb2.cell (p := ⟨b1, o1 + l * 3 + 2, none⟩) f_lt).trans (by have h9 := hc 2 _ rfl; rw [← Nat.add_assoc] at h9; exact h9)
      have HA1 : Hid (dbFrom none x = (v && (ltB s2 s && dbFrom (prevN x (l + 1 + 1)) (x.drop (l + 1 + 1))))) := Lib.hid (by rw [HA.out, HP.out, HP2.out])
      clear hx hy HA HP HP2 t1 hc hr g2 hj0
      obtain ⟨q, hq⟩ : ∃ q, q = ltB s2 s := ⟨_, rfl⟩
      rw [← hq] at HA1
      have hq2 : Op.bytesLess s2.toList s.toList = q := hq.symm
      clear hq
      have hi63 : IntKind.i64.wrap (l : Int) = (l : Int) := IntWalk.i64_in _ (by omega)
      cases v with
      | false =>
        have HE := Lib.hid (validDb_no (db := x) (by rw [HA1.out]; rfl))
        obtain ⟨w9, hw9⟩ : ∃ W, W = wo.alloc (.cells #[.string s, .int .i64 i, .slice tb tn tc] 34) := ⟨_, rfl⟩
        have z9 : Below wo.heap.size wo w9 := by rw [hw9]; exact (Below.refl _ _).alloc (Nat.le_refl _) _
        have s9 : w9.heap.size = wo.heap.size + 1 := by rw [hw9]; simp
        have hb9 := on hb2 z9
        have old9_b_0 := b_0
        have old9_e_0 := e_0
        have old9_e_1 := e_1
        have old9_e_2 := e_2
        have old9_f_0 := f_0
        have old9_f_1 := f_1
        have old9_f_2 := f_2
        replace b_0 := (z9.cell (p := ⟨w.heap.size, 0, none⟩) (by simp only []; omega)).trans b_0
        replace hlc := on hlc z9
        replace e_0 := (z9.cell (p := ⟨b1, o1 + (l + 1) * 3, none⟩) (by simp only []; omega)).trans e_0
        replace e_1 := (z9.cell (p := ⟨b1, o1 + (l + 1) * 3 + 1, none⟩) (by simp only []; omega)).trans e_1
        replace e_2 := (z9.cell (p := ⟨b1, o1 + (l + 1) * 3 + 2, none⟩) (by simp only []; omega)).trans e_2
        replace f_0 := (z9.cell (p := ⟨b1, o1 + l * 3, none⟩) (by simp only []; omega)).trans f_0
        replace f_1 := (z9.cell (p := ⟨b1, o1 + l * 3 + 1, none⟩) (by simp only []; omega)).trans f_1
        replace f_2 := (z9.cell (p := ⟨b1, o1 + l * 3 + 2, none⟩) (by simp only []; omega)).trans f_2
        have p_0 : w9.cell? ⟨wo.heap.size, 0, none⟩ = some (.string s) := by rw [hw9]; exact box_cell (Below.refl _ _) rfl
        have p_1 : w9.cell? ⟨wo.heap.size, 1, none⟩ = some (.int .i64 i) := by rw [hw9]; exact box_cell (Below.refl _ _) rfl
        have p_2 : w9.cell? ⟨wo.heap.size, 2, none⟩ = some (.slice tb tn tc) := by rw [hw9]; exact box_cell (Below.refl _ _) rfl
        have raw9_b_0 := b_0
        have raw9_e_0 := e_0
        have raw9_e_1 := e_1
        have raw9_e_2 := e_2
        have raw9_f_0 := f_0
        have raw9_f_1 := f_1
        have raw9_f_2 := f_2
        have raw9_p_0 := p_0
        have raw9_p_1 := p_1
        have raw9_p_2 := p_2
        rw [hw9] at raw9_b_0 raw9_e_0 raw9_e_1 raw9_e_2 raw9_f_0 raw9_f_1 raw9_f_2 raw9_p_0 raw9_p_1 raw9_p_2
        go_wp2_with fail
        rw [← hw9]
        clear hw9
        clear old9_b_0 old9_e_0 old9_e_1 old9_e_2 old9_f_0 old9_f_1 old9_f_2 raw9_b_0 raw9_e_0 raw9_e_1 raw9_e_2 raw9_f_0 raw9_f_1 raw9_f_2 raw9_p_0 raw9_p_1 raw9_p_2
        have rg_b_0 := cell_regrown b_0
        have rg_e_0 := cell_regrown e_0
        have rg_e_1 := cell_regrown e_1
        have rg_e_2 := cell_regrown e_2
        have rg_f_0 := cell_regrown f_0
        have rg_f_1 := cell_regrown f_1
        have rg_f_2 := cell_regrown f_2
        have rg_p_0 := cell_regrown p_0
        have rg_p_1 := cell_regrown p_1
        have rg_p_2 := cell_regrown p_2
        refine wp_region_quiet_below (by kernel_rfl) (by kernel_rfl) ?_
        repeat (go_big_quiet_step ((first | (go_at_call 137; exact Calls.regrown_of (HC.out _ (on hb9 (below_regrown _ _ _)))))))
        refine wpQuiet_nil ?_
        intro w10 hw10
        have z10 : Below w9.heap.size w9 w10 := by obtain ⟨p9, e9⟩ := hw10; rw [e9]; exact below_regrown _ _ _
        clear hw10 rg_b_0 rg_e_0 rg_e_1 rg_e_2 rg_f_0 rg_f_1 rg_f_2 rg_p_0 rg_p_1 rg_p_2
        have s11 := z10.size
        have hb11 := on hb9 z10
        replace b_0 := (z10.cell (p := ⟨w.heap.size, 0, none⟩) (by simp only []; omega)).trans b_0
        replace hlc := on hlc z10
        replace e_0 := (z10.cell (p := ⟨b1, o1 + (l + 1) * 3, none⟩) (by simp only []; omega)).trans e_0
        replace e_1 := (z10.cell (p := ⟨b1, o1 + (l + 1) * 3 + 1, none⟩) (by simp only []; omega)).trans e_1
        replace e_2 := (z10.cell (p := ⟨b1, o1 + (l + 1) * 3 + 2, none⟩) (by simp only []; omega)).trans e_2
        replace f_0 := (z10.cell (p := ⟨b1, o1 + l * 3, none⟩) (by simp only []; omega)).trans f_0
        replace f_1 := (z10.cell (p := ⟨b1, o1 + l * 3 + 1, none⟩) (by simp only []; omega)).trans f_1
        replace f_2 := (z10.cell (p := ⟨b1, o1 + l * 3 + 2, none⟩) (by simp only []; omega)).trans f_2
        replace p_0 := (z10.cell (p := ⟨wo.heap.size, 0, none⟩) (by simp only []; omega)).trans p_0
        replace p_1 := (z10.cell (p := ⟨wo.heap.size, 1, none⟩) (by simp only []; omega)).trans p_1
        replace p_2 := (z10.cell (p := ⟨wo.heap.size, 2, none⟩) (by simp only []; omega)).trans p_2
        clear hi63
        go_wp2_with fail
        go_ret
        exact ⟨ret_bool HE.out.symm, hb11⟩
      | true =>
        cases q with
        | false =>
          have HE := Lib.hid (validDb_no (db := x) (by rw [HA1.out]; rfl))
          obtain ⟨w12, hw12⟩ : ∃ W, W = wo.alloc (.cells #[.string s, .int .i64 i, .slice tb tn tc] 34) := ⟨_, rfl⟩
          have z12 : Below wo.heap.size wo w12 := by rw [hw12]; exact (Below.refl _ _).alloc (Nat.le_refl _) _
          have s12 : w12.heap.size = wo.heap.size + 1 := by rw [hw12]; simp
          have hb12 := on hb2 z12
          have old12_b_0 := b_0
          have old12_e_0 := e_0
          have old12_e_1 := e_1
          have old12_e_2 := e_2
          have old12_f_0 := f_0
          have old12_f_1 := f_1
          have old12_f_2 := f_2
          replace b_0 := (z12.cell (p := ⟨w.heap.size, 0, none⟩) (by simp only []; omega)).trans b_0
          replace hlc := on hlc z12
          replace e_0 := (z12.cell (p := ⟨b1, o1 + (l + 1) * 3, none⟩) (by simp only []; omega)).trans e_0
          replace e_1 := (z12.cell (p := ⟨b1, o1 + (l + 1) * 3 + 1, none⟩) (by simp only []; omega)).trans e_1
          replace e_2 := (z12.cell (p := ⟨b1, o1 + (l + 1) * 3 + 2, none⟩) (by simp only []; omega)).trans e_2
          replace f_0 := (z12.cell (p := ⟨b1, o1 + l * 3, none⟩) (by simp only []; omega)).trans f_0
          replace f_1 := (z12.cell (p := ⟨b1, o1 + l * 3 + 1, none⟩) (by simp only []; omega)).trans f_1
          replace f_2 := (z12.cell (p := ⟨b1, o1 + l * 3 + 2, none⟩) (by simp only []; omega)).trans f_2
          have p_0 : w12.cell? ⟨wo.heap.size, 0, none⟩ = some (.string s) := by rw [hw12]; exact box_cell (Below.refl _ _) rfl
          have p_1 : w12.cell? ⟨wo.heap.size, 1, none⟩ = some (.int .i64 i) := by rw [hw12]; exact box_cell (Below.refl _ _) rfl
          have p_2 : w12.cell? ⟨wo.heap.size, 2, none⟩ = some (.slice tb tn tc) := by rw [hw12]; exact box_cell (Below.refl _ _) rfl
          have raw12_b_0 := b_0
          have raw12_e_0 := e_0
          have raw12_e_1 := e_1
          have raw12_e_2 := e_2
          have raw12_f_0 := f_0
          have raw12_f_1 := f_1
          have raw12_f_2 := f_2
          have raw12_p_0 := p_0
          have raw12_p_1 := p_1
          have raw12_p_2 := p_2
          rw [hw12] at raw12_b_0 raw12_e_0 raw12_e_1 raw12_e_2 raw12_f_0 raw12_f_1 raw12_f_2 raw12_p_0 raw12_p_1 raw12_p_2
          go_wp2_with fail
          rw [← hw12]
          clear hw12
          clear old12_b_0 old12_e_0 old12_e_1 old12_e_2 old12_f_0 old12_f_1 old12_f_2 raw12_b_0 raw12_e_0 raw12_e_1 raw12_e_2 raw12_f_0 raw12_f_1 raw12_f_2 raw12_p_0 raw12_p_1 raw12_p_2
          have rg_b_0 := cell_regrown b_0
          have rg_e_0 := cell_regrown e_0
          have rg_e_1 := cell_regrown e_1
          have rg_e_2 := cell_regrown e_2
          have rg_f_0 := cell_regrown f_0
          have rg_f_1 := cell_regrown f_1
          have rg_f_2 := cell_regrown f_2
          have rg_p_0 := cell_regrown p_0
          have rg_p_1 := cell_regrown p_1
          have rg_p_2 := cell_regrown p_2
          refine wp_region_quiet_below (by kernel_rfl) (by kernel_rfl) ?_
          repeat (go_big_quiet_step ((first | (go_at_call 137; exact Calls.regrown_of (HC.out _ (on hb12 (below_regrown _ _ _)))))))
          refine wpQuiet_nil ?_
          intro w13 hw13
          have z13 : Below w12.heap.size w12 w13 := by obtain ⟨p9, e9⟩ := hw13; rw [e9]; exact below_regrown _ _ _
          clear hw13 rg_b_0 rg_e_0 rg_e_1 rg_e_2 rg_f_0 rg_f_1 rg_f_2 rg_p_0 rg_p_1 rg_p_2
          have s14 := z13.size
          have hb14 := on hb12 z13
          replace b_0 := (z13.cell (p := ⟨w.heap.size, 0, none⟩) (by simp only []; omega)).trans b_0
          replace hlc := on hlc z13
          replace e_0 := (z13.cell (p := ⟨b1, o1 + (l + 1) * 3, none⟩) (by simp only []; omega)).trans e_0
          replace e_1 := (z13.cell (p := ⟨b1, o1 + (l + 1) * 3 + 1, none⟩) (by simp only []; omega)).trans e_1
          replace e_2 := (z13.cell (p := ⟨b1, o1 + (l + 1) * 3 + 2, none⟩) (by simp only []; omega)).trans e_2
          replace f_0 := (z13.cell (p := ⟨b1, o1 + l * 3, none⟩) (by simp only []; omega)).trans f_0
          replace f_1 := (z13.cell (p := ⟨b1, o1 + l * 3 + 1, none⟩) (by simp only []; omega)).trans f_1
          replace f_2 := (z13.cell (p := ⟨b1, o1 + l * 3 + 2, none⟩) (by simp only []; omega)).trans f_2
          replace p_0 := (z13.cell (p := ⟨wo.heap.size, 0, none⟩) (by simp only []; omega)).trans p_0
          replace p_1 := (z13.cell (p := ⟨wo.heap.size, 1, none⟩) (by simp only []; omega)).trans p_1
          replace p_2 := (z13.cell (p := ⟨wo.heap.size, 2, none⟩) (by simp only []; omega)).trans p_2
          clear hi63
          go_wp2_with fail
          go_ret
          exact ⟨ret_bool HE.out.symm, hb14⟩
        | true =>
          have HE : Hid (dbFrom none x = dbFrom (prevN x (l + 1 + 1)) (x.drop (l + 1 + 1))) := Lib.hid (by rw [HA1.out]; rfl)
          obtain ⟨w15, hw15⟩ : ∃ W, W = wo.alloc (.cells #[.string s, .int .i64 i, .slice tb tn tc] 34) := ⟨_, rfl⟩
          have z15 : Below wo.heap.size wo w15 := by rw [hw15]; exact (Below.refl _ _).alloc (Nat.le_refl _) _
          have s15 : w15.heap.size = wo.heap.size + 1 := by rw [hw15]; simp
          have hb15 := on hb2 z15
          have old15_b_0 := b_0
          have old15_e_0 := e_0
          have old15_e_1 := e_1
          have old15_e_2 := e_2
          have old15_f_0 := f_0
          have old15_f_1 := f_1
          have old15_f_2 := f_2
          replace b_0 := (z15.cell (p := ⟨w.heap.size, 0, none⟩) (by simp only []; omega)).trans b_0
          replace hlc := on hlc z15
          replace e_0 := (z15.cell (p := ⟨b1, o1 + (l + 1) * 3, none⟩) (by simp only []; omega)).trans e_0
          replace e_1 := (z15.cell (p := ⟨b1, o1 + (l + 1) * 3 + 1, none⟩) (by simp only []; omega)).trans e_1
          replace e_2 := (z15.cell (p := ⟨b1, o1 + (l + 1) * 3 + 2, none⟩) (by simp only []; omega)).trans e_2
          replace f_0 := (z15.cell (p := ⟨b1, o1 + l * 3, none⟩) (by simp only []; omega)).trans f_0
          replace f_1 := (z15.cell (p := ⟨b1, o1 + l * 3 + 1, none⟩) (by simp only []; omega)).trans f_1
          replace f_2 := (z15.cell (p := ⟨b1, o1 + l * 3 + 2, none⟩) (by simp only []; omega)).trans f_2
          have p_0 : w15.cell? ⟨wo.heap.size, 0, none⟩ = some (.string s) := by rw [hw15]; exact box_cell (Below.refl _ _) rfl
          have p_1 : w15.cell? ⟨wo.heap.size, 1, none⟩ = some (.int .i64 i) := by rw [hw15]; exact box_cell (Below.refl _ _) rfl
          have p_2 : w15.cell? ⟨wo.heap.size, 2, none⟩ = some (.slice tb tn tc) := by rw [hw15]; exact box_cell (Below.refl _ _) rfl
          have raw15_b_0 := b_0
          have raw15_e_0 := e_0
          have raw15_e_1 := e_1
          have raw15_e_2 := e_2
          have raw15_f_0 := f_0
          have raw15_f_1 := f_1
          have raw15_f_2 := f_2
          have raw15_p_0 := p_0
          have raw15_p_1 := p_1
          have raw15_p_2 := p_2
          rw [hw15] at raw15_b_0 raw15_e_0 raw15_e_1 raw15_e_2 raw15_f_0 raw15_f_1 raw15_f_2 raw15_p_0 raw15_p_1 raw15_p_2
          go_wp2_with fail
          rw [← hw15]
          clear hw15
          clear old15_b_0 old15_e_0 old15_e_1 old15_e_2 old15_f_0 old15_f_1 old15_f_2 raw15_b_0 raw15_e_0 raw15_e_1 raw15_e_2 raw15_f_0 raw15_f_1 raw15_f_2 raw15_p_0 raw15_p_1 raw15_p_2
          have rg_b_0 := cell_regrown b_0
          have rg_e_0 := cell_regrown e_0
          have rg_e_1 := cell_regrown e_1
          have rg_e_2 := cell_regrown e_2
          have rg_f_0 := cell_regrown f_0
          have rg_f_1 := cell_regrown f_1
          have rg_f_2 := cell_regrown f_2
          have rg_p_0 := cell_regrown p_0
          have rg_p_1 := cell_regrown p_1
          have rg_p_2 := cell_regrown p_2
          refine wp_region_quiet_below (by kernel_rfl) (by kernel_rfl) ?_
          repeat (go_big_quiet_step ((first | (go_at_call 137; exact Calls.regrown_of (HC.out _ (on hb15 (below_regrown _ _ _)))))))
          refine wpQuiet_nil ?_
          intro w16 hw16
          have z16 : Below w15.heap.size w15 w16 := by obtain ⟨p9, e9⟩ := hw16; rw [e9]; exact below_regrown _ _ _
          clear hw16 rg_b_0 rg_e_0 rg_e_1 rg_e_2 rg_f_0 rg_f_1 rg_f_2 rg_p_0 rg_p_1 rg_p_2
          have s17 := z16.size
          have hb17 := on hb15 z16
          replace b_0 := (z16.cell (p := ⟨w.heap.size, 0, none⟩) (by simp only []; omega)).trans b_0
          replace hlc := on hlc z16
          replace e_0 := (z16.cell (p := ⟨b1, o1 + (l + 1) * 3, none⟩) (by simp only []; omega)).trans e_0
          replace e_1 := (z16.cell (p := ⟨b1, o1 + (l + 1) * 3 + 1, none⟩) (by simp only []; omega)).trans e_1
          replace e_2 := (z16.cell (p := ⟨b1, o1 + (l + 1) * 3 + 2, none⟩) (by simp only []; omega)).trans e_2
          replace f_0 := (z16.cell (p := ⟨b1, o1 + l * 3, none⟩) (by simp only []; omega)).trans f_0
          replace f_1 := (z16.cell (p := ⟨b1, o1 + l * 3 + 1, none⟩) (by simp only []; omega)).trans f_1
          replace f_2 := (z16.cell (p := ⟨b1, o1 + l * 3 + 2, none⟩) (by simp only []; omega)).trans f_2
          replace p_0 := (z16.cell (p := ⟨wo.heap.size, 0, none⟩) (by simp only []; omega)).trans p_0
          replace p_1 := (z16.cell (p := ⟨wo.heap.size, 1, none⟩) (by simp only []; omega)).trans p_1
          replace p_2 := (z16.cell (p := ⟨wo.heap.size, 2, none⟩) (by simp only []; omega)).trans p_2
          clear hi63
          go_wp2_with fail
          go_roundw
          case rel => exact ⟨l + 1 + 1, by omega, by go_num, HE.out, hlc⟩
          case measure => simp [intOf]; omega
    · have HE := Lib.hid (validDb_len HL.out (hE.out.trans (dbFrom_end (by have := HL.out; omega))))
      clear t1 hl hE HV
      go_wp2_with fail
      go_ret
      exact ⟨ret_bool (by rw [HE.out]), hb2⟩

set_option maxHeartbeats 4000000 in
theorem validDb_spec (cs : List Value) (x : DDb) (w : World) (h : rDb.rep w cs x) :
    Calls Try.prog 192 #[.agg cs.toArray] w fun e w' => e = .returned (.bool (validDb x)) ∧ Below w.heap.size w w' := by
  obtain ⟨ub, un, uc, rfl, g1⟩ := rDb_open h
  clear h
  have t1 := rS_sl g1
  have hl := t1.len
  have hn := t1.small
  have HV : Hid (dbFrom none x = dbFrom (prevN x 0) (x.drop 0)) := rfl
  have HL := Lib.hid hl
  have hb0 : Below w.heap.size w w := Below.refl _ _
  go_enter Try.func192, Try.ntmps192
  obtain ⟨w1, hw1⟩ : ∃ W, W = w.alloc (.cells #[.slice ub un uc] 89) := ⟨_, rfl⟩
  have z1 : Below w.heap.size w w1 := by rw [hw1]; exact (Below.refl _ _).alloc (Nat.le_refl _) _
  have s1 : w1.heap.size = w.heap.size + 1 := by rw [hw1]; simp
  have hb1 := on hb0 z1
  have b_0 : w1.cell? ⟨w.heap.size, 0, none⟩ = some (.slice ub un uc) := by rw [hw1]; exact box_cell (Below.refl _ _) rfl
  have raw1_b_0 := b_0
  rw [hw1] at raw1_b_0
  go_wp2_with fail
  rw [← hw1]
  clear hw1
  clear raw1_b_0
  go_loopw [3] (fun k wr => ∃ j : Nat, j ≤ un ∧ k = .int .i64 j ∧ Hid (dbFrom none x = dbFrom (prevN x j) (x.drop j)) ∧ Below w1.heap.size w1 wr) (fun k _ => un - (intOf k).toNat)
  case atStart => exact ⟨0, Nat.zero_le _, rfl, HV.out, Below.refl _ _⟩
  case round =>
    obtain ⟨j, hj, rfl, hE, hdr⟩ := hrel
    obtain ⟨wo, rfl⟩ : ∃ W, W = wr := ⟨_, rfl⟩
    have hlc := hdr
    have s2 := hdr.size
    have hb2 := on hb1 hdr
    replace b_0 := (hdr.cell (p := ⟨w.heap.size, 0, none⟩) (by simp only []; omega)).trans b_0
    by_cases hlt : j < un
    · obtain ⟨b1, o1, cs, t, rfl, hx, hr, hc⟩ := t1.at hlt
      have HA := Lib.hid (hE.out.trans (dbFrom_at hx.out))
      have HP := Lib.hid (prevN_at hx.out)
      obtain ⟨s, i, rows⟩ := t
      obtain ⟨tb, tn, tc, rfl, hs, hi, g2⟩ := rT_open hr
      simp only at hs hi g2 HA HP
      have e_lt : b1 < w.heap.size := cell_lt (hc 0 _ rfl)
      have e_0 : wo.cell? ⟨b1, o1 + j * 3, none⟩ = some (.string s) := (hb2.cell (p := ⟨b1, o1 + j * 3, none⟩) e_lt).trans (by have h9 := hc 0 _ rfl; rw [← Nat.add_assoc] at h9; exact h9)
      have e_1 : wo.cell? ⟨b1, o1 + j * 3 + 1, none⟩ = some (.int .i64 i) := (hb2.cell (p := ⟨b1, o1 + j * 3 + 1, none⟩) e_lt).trans (by have h9 := hc 1 _ rfl; rw [← Nat.add_assoc] at h9; exact h9)
      have e_2 : wo.cell? ⟨b1, o1 + j * 3 + 2, none⟩ = some (.slice tb tn tc) := (hb2.cell (p := ⟨b1, o1 + j * 3 + 2, none⟩) e_lt).trans (by have h9 := hc 2 _ rfl; rw [← Nat.add_assoc] at h9; exact h9)
      have hcall := fun W (hW : Below w.heap.size w W) => validT_spec [.string s, .int .i64 i, .slice tb tn tc] (s, i, rows) W (rT.mono hr hW)
      obtain ⟨v, hv⟩ : ∃ v, v = validT (s, i, rows) := ⟨_, rfl⟩
      rw [← hv] at hcall HA
      have HC := Lib.hid hcall
      clear hcall hv hE HV hc hr g2 hl
      by_cases hj0 : j = 0
      · subst hj0
        have z_0 : wo.cell? ⟨b1, o1, none⟩ = some (.string s) := by have h9 := e_0; rw [Nat.zero_mul, Nat.add_zero] at h9; exact h9
        have z_1 : wo.cell? ⟨b1, o1 + 1, none⟩ = some (.int .i64 i) := by have h9 := e_1; rw [Nat.zero_mul, Nat.add_zero] at h9; exact h9
        have z_2 : wo.cell? ⟨b1, o1 + 2, none⟩ = some (.slice tb tn tc) := by have h9 := e_2; rw [Nat.zero_mul, Nat.add_zero] at h9; exact h9
        clear e_0 e_1 e_2
        have HA1 : Hid (dbFrom none x = (v && dbFrom (prevN x (0 + 1)) (x.drop (0 + 1)))) := Lib.hid (by rw [HA.out, HP.out]; simp [prevN])
        clear hx HA HP t1
        cases v with
        | true =>
          have HE : Hid (dbFrom none x = dbFrom (prevN x (0 + 1)) (x.drop (0 + 1))) := Lib.hid (by rw [HA1.out]; rfl)
          go_wp2_with fail
          have rg_b_0 := cell_regrown b_0
          have rg_z_0 := cell_regrown z_0
          have rg_z_1 := cell_regrown z_1
          have rg_z_2 := cell_regrown z_2
          refine wp_region_quiet_below (by kernel_rfl) (by kernel_rfl) ?_
          repeat (go_big_quiet_step ((first | (go_at_call 27; exact Calls.regrown_of (HC.out _ (on hb2 (below_regrown _ _ _)))))))
          refine wpQuiet_nil ?_
          intro w3 hw3
          have z3 : Below wo.heap.size wo w3 := by obtain ⟨p9, e9⟩ := hw3; rw [e9]; exact below_regrown _ _ _
          clear hw3 rg_b_0 rg_z_0 rg_z_1 rg_z_2
          have s4 := z3.size
          have hb4 := on hb2 z3
          replace b_0 := (z3.cell (p := ⟨w.heap.size, 0, none⟩) (by simp only []; omega)).trans b_0
          replace hlc := on hlc z3
          replace z_0 := (z3.cell (p := ⟨b1, o1, none⟩) (by simp only []; omega)).trans z_0
          replace z_1 := (z3.cell (p := ⟨b1, o1 + 1, none⟩) (by simp only []; omega)).trans z_1
          replace z_2 := (z3.cell (p := ⟨b1, o1 + 2, none⟩) (by simp only []; omega)).trans z_2
          go_wp2_with fail
          go_roundw
          case rel => exact ⟨1, by omega, rfl, HE.out, hlc⟩
          case measure => simp [intOf]; omega
        | false =>
          have HE := Lib.hid (validDb_no (db := x) (by rw [HA1.out]; rfl))
          go_wp2_with fail
          have rg_b_0 := cell_regrown b_0
          have rg_z_0 := cell_regrown z_0
          have rg_z_1 := cell_regrown z_1
          have rg_z_2 := cell_regrown z_2
          refine wp_region_quiet_below (by kernel_rfl) (by kernel_rfl) ?_
          repeat (go_big_quiet_step ((first | (go_at_call 27; exact Calls.regrown_of (HC.out _ (on hb2 (below_regrown _ _ _)))))))
          refine wpQuiet_nil ?_
          intro w5 hw5
          have z5 : Below wo.heap.size wo w5 := by obtain ⟨p9, e9⟩ := hw5; rw [e9]; exact below_regrown _ _ _
          clear hw5 rg_b_0 rg_z_0 rg_z_1 rg_z_2
          have s6 := z5.size
          have hb6 := on hb2 z5
          replace b_0 := (z5.cell (p := ⟨w.heap.size, 0, none⟩) (by simp only []; omega)).trans b_0
          replace hlc := on hlc z5
          replace z_0 := (z5.cell (p := ⟨b1, o1, none⟩) (by simp only []; omega)).trans z_0
          replace z_1 := (z5.cell (p := ⟨b1, o1 + 1, none⟩) (by simp only []; omega)).trans z_1
          replace z_2 := (z5.cell (p := ⟨b1, o1 + 2, none⟩) (by simp only []; omega)).trans z_2
          go_wp2_with fail
          go_ret
          exact ⟨ret_bool HE.out.symm, hb6⟩
      obtain ⟨l, rfl⟩ : ∃ l, j = l + 1 := ⟨j - 1, by omega⟩
      obtain ⟨b9, o9, cs, t, hb9, hy, hr, hc⟩ := t1.at (show l < un by omega)
      simp at hb9
      obtain ⟨rfl, rfl⟩ := hb9
      have HP2 := Lib.hid (prevN_at hy.out)
      obtain ⟨s2, i2, rows2⟩ := t
      obtain ⟨tb2, tn2, tc2, rfl, hs2, hi2, g2⟩ := rT_open hr
      simp only at HP2
      have f_lt : b1 < w.heap.size := cell_lt (hc 0 _ rfl)
      have f_0 : wo.cell? ⟨b1, o1 + l * 3, none⟩ = some (.string s2) := (hb2.cell (p := ⟨b1, o1 + l * 3, none⟩) f_lt).trans (by have h9 := hc 0 _ rfl; rw [← Nat.add_assoc] at h9; exact h9)
      have f_1 : wo.cell? ⟨b1, o1 + l * 3 + 1, none⟩ = some (.int .i64 i2) := (hb2.cell (p := ⟨b1, o1 + l * 3 + 1, none⟩) f_lt).trans (by have h9 := hc 1 _ rfl; rw [← Nat.add_assoc] at h9; exact h9)
      have f_2 : wo.cell? ⟨b1, o1 + l * 3 + 2, none⟩ = some (.slice tb2 tn2 tc2) := (hb2.cell (p := ⟨b1, o1 + l * 3 + 2, none⟩) f_lt).trans (by have h9 := hc 2 _ rfl; rw [← Nat.add_assoc] at h9; exact h9)
      have HA1 : Hid (dbFrom none x = (v && (ltB s2 s && dbFrom (prevN x (l + 1 + 1)) (x.drop (l + 1 + 1))))) := Lib.hid (by rw [HA.out, HP.out, HP2.out])
      clear hx hy HA HP HP2 t1 hc hr g2 hj0
      obtain ⟨q, hq⟩ : ∃ q, q = ltB s2 s := ⟨_, rfl⟩
      rw [← hq] at HA1
      have hq2 : Op.bytesLess s2.toList s.toList = q := hq.symm
      clear hq
      have hi63 : IntKind.i64.wrap (l : Int) = (l : Int) := IntWalk.i64_in _ (by omega)
      cases v with
      | false =>
        have HE := Lib.hid (validDb_no (db := x) (by rw [HA1.out]; rfl))
        go_wp2_with fail
        have rg_b_0 := cell_regrown b_0
        have rg_e_0 := cell_regrown e_0
        have rg_e_1 := cell_regrown e_1
        have rg_e_2 := cell_regrown e_2
        have rg_f_0 := cell_regrown f_0
        have rg_f_1 := cell_regrown f_1
        have rg_f_2 := cell_regrown f_2
        refine wp_region_quiet_below (by kernel_rfl) (by kernel_rfl) ?_
        repeat (go_big_quiet_step ((first | (go_at_call 27; exact Calls.regrown_of (HC.out _ (on hb2 (below_regrown _ _ _)))))))
        refine wpQuiet_nil ?_
        intro w7 hw7
        have z7 : Below wo.heap.size wo w7 := by obtain ⟨p9, e9⟩ := hw7; rw [e9]; exact below_regrown _ _ _
        clear hw7 rg_b_0 rg_e_0 rg_e_1 rg_e_2 rg_f_0 rg_f_1 rg_f_2
        have s8 := z7.size
        have hb8 := on hb2 z7
        replace b_0 := (z7.cell (p := ⟨w.heap.size, 0, none⟩) (by simp only []; omega)).trans b_0
        replace hlc := on hlc z7
        replace e_0 := (z7.cell (p := ⟨b1, o1 + (l + 1) * 3, none⟩) (by simp only []; omega)).trans e_0
        replace e_1 := (z7.cell (p := ⟨b1, o1 + (l + 1) * 3 + 1, none⟩) (by simp only []; omega)).trans e_1
        replace e_2 := (z7.cell (p := ⟨b1, o1 + (l + 1) * 3 + 2, none⟩) (by simp only []; omega)).trans e_2
        replace f_0 := (z7.cell (p := ⟨b1, o1 + l * 3, none⟩) (by simp only []; omega)).trans f_0
        replace f_1 := (z7.cell (p := ⟨b1, o1 + l * 3 + 1, none⟩) (by simp only []; omega)).trans f_1
        replace f_2 := (z7.cell (p := ⟨b1, o1 + l * 3 + 2, none⟩) (by simp only []; omega)).trans f_2
        clear hi63
        go_wp2_with fail
        go_ret
        exact ⟨ret_bool HE.out.symm, hb8⟩
      | true =>
        cases q with
        | false =>
          have HE := Lib.hid (validDb_no (db := x) (by rw [HA1.out]; rfl))
          go_wp2_with fail
          have rg_b_0 := cell_regrown b_0
          have rg_e_0 := cell_regrown e_0
          have rg_e_1 := cell_regrown e_1
          have rg_e_2 := cell_regrown e_2
          have rg_f_0 := cell_regrown f_0
          have rg_f_1 := cell_regrown f_1
          have rg_f_2 := cell_regrown f_2
          refine wp_region_quiet_below (by kernel_rfl) (by kernel_rfl) ?_
          repeat (go_big_quiet_step ((first | (go_at_call 27; exact Calls.regrown_of (HC.out _ (on hb2 (below_regrown _ _ _)))))))
          refine wpQuiet_nil ?_
          intro w9 hw9
          have z9 : Below wo.heap.size wo w9 := by obtain ⟨p9, e9⟩ := hw9; rw [e9]; exact below_regrown _ _ _
          clear hw9 rg_b_0 rg_e_0 rg_e_1 rg_e_2 rg_f_0 rg_f_1 rg_f_2
          have s10 := z9.size
          have hb10 := on hb2 z9
          replace b_0 := (z9.cell (p := ⟨w.heap.size, 0, none⟩) (by simp only []; omega)).trans b_0
          replace hlc := on hlc z9
          replace e_0 := (z9.cell (p := ⟨b1, o1 + (l + 1) * 3, none⟩) (by simp only []; omega)).trans e_0
          replace e_1 := (z9.cell (p := ⟨b1, o1 + (l + 1) * 3 + 1, none⟩) (by simp only []; omega)).trans e_1
          replace e_2 := (z9.cell (p := ⟨b1, o1 + (l + 1) * 3 + 2, none⟩) (by simp only []; omega)).trans e_2
          replace f_0 := (z9.cell (p := ⟨b1, o1 + l * 3, none⟩) (by simp only []; omega)).trans f_0
          replace f_1 := (z9.cell (p := ⟨b1, o1 + l * 3 + 1, none⟩) (by simp only []; omega)).trans f_1
          replace f_2 := (z9.cell (p := ⟨b1, o1 + l * 3 + 2, none⟩) (by simp only []; omega)).trans f_2
          clear hi63
          go_wp2_with fail
          go_ret
          exact ⟨ret_bool HE.out.symm, hb10⟩
        | true =>
          have HE : Hid (dbFrom none x = dbFrom (prevN x (l + 1 + 1)) (x.drop (l + 1 + 1))) := Lib.hid (by rw [HA1.out]; rfl)
          go_wp2_with fail
          have rg_b_0 := cell_regrown b_0
          have rg_e_0 := cell_regrown e_0
          have rg_e_1 := cell_regrown e_1
          have rg_e_2 := cell_regrown e_2
          have rg_f_0 := cell_regrown f_0
          have rg_f_1 := cell_regrown f_1
          have rg_f_2 := cell_regrown f_2
          refine wp_region_quiet_below (by kernel_rfl) (by kernel_rfl) ?_
          repeat (go_big_quiet_step ((first | (go_at_call 27; exact Calls.regrown_of (HC.out _ (on hb2 (below_regrown _ _ _)))))))
          refine wpQuiet_nil ?_
          intro w11 hw11
          have z11 : Below wo.heap.size wo w11 := by obtain ⟨p9, e9⟩ := hw11; rw [e9]; exact below_regrown _ _ _
          clear hw11 rg_b_0 rg_e_0 rg_e_1 rg_e_2 rg_f_0 rg_f_1 rg_f_2
          have s12 := z11.size
          have hb12 := on hb2 z11
          replace b_0 := (z11.cell (p := ⟨w.heap.size, 0, none⟩) (by simp only []; omega)).trans b_0
          replace hlc := on hlc z11
          replace e_0 := (z11.cell (p := ⟨b1, o1 + (l + 1) * 3, none⟩) (by simp only []; omega)).trans e_0
          replace e_1 := (z11.cell (p := ⟨b1, o1 + (l + 1) * 3 + 1, none⟩) (by simp only []; omega)).trans e_1
          replace e_2 := (z11.cell (p := ⟨b1, o1 + (l + 1) * 3 + 2, none⟩) (by simp only []; omega)).trans e_2
          replace f_0 := (z11.cell (p := ⟨b1, o1 + l * 3, none⟩) (by simp only []; omega)).trans f_0
          replace f_1 := (z11.cell (p := ⟨b1, o1 + l * 3 + 1, none⟩) (by simp only []; omega)).trans f_1
          replace f_2 := (z11.cell (p := ⟨b1, o1 + l * 3 + 2, none⟩) (by simp only []; omega)).trans f_2
          clear hi63
          go_wp2_with fail
          go_roundw
          case rel => exact ⟨l + 1 + 1, by omega, by go_num, HE.out, hlc⟩
          case measure => simp [intOf]; omega
    · have HE := Lib.hid (validDb_len HL.out (hE.out.trans (dbFrom_end (by have := HL.out; omega))))
      clear t1 hl hE HV
      go_wp2_with fail
      go_ret
      exact ⟨ret_bool (by rw [HE.out]), hb2⟩

end Go.Proofs.Ytbkoddikfpkocaa

/- Contracts: whether a query is valid: the program's. -/
namespace Go.Proofs.Ytbkoddikfpkocaa
open Go.RowKit
set_option linter.unusedVariables false
set_option linter.unusedSimpArgs false
set_option synthInstance.maxSize 2000
set_option synthInstance.maxHeartbeats 400000

theorem infoBool : (Try.prog.info? 4).map (fun i => (i.zero, i.size, i.bytes)) = some (some (.bool false), 1, 1) := by kernel_rfl

set_option maxHeartbeats 2000000 in
theorem validQ_impl (cs : List Value) (x : DQ) (w : World) (h : rQ.rep w cs x) :
    Calls Try.prog 116 #[.agg cs.toArray] w fun e w' => e = .returned (.bool (validQ x)) ∧ Below w.heap.size w w' := by
  obtain ⟨ub, un, uc, rfl, hi, g1⟩ := rQ_open h
  clear h
  obtain ⟨i, xs⟩ := x
  simp only at hi g1
  obtain ⟨hi1, hi2⟩ := hi
  have t0 := rS_sl g1
  have hl := t0.len
  have hn := t0.small
  clear t0
  have hb0 : Below w.heap.size w w := Below.refl _ _
  by_cases h1 : betw i 1 4 = true
  case neg =>
    replace h1 : betw i 1 4 = false := by simpa using h1
    have HE := Lib.hid (validQ_no1 (q := (i, xs)) h1)
    go_enter Try.func116, Try.ntmps116
    obtain ⟨w1, hw1⟩ : ∃ W, W = w.alloc (.cells #[.int .i64 i, .slice ub un uc] 46) := ⟨_, rfl⟩
    have z1 : Below w.heap.size w w1 := by rw [hw1]; exact (Below.refl _ _).alloc (Nat.le_refl _) _
    have s1 : w1.heap.size = w.heap.size + 1 := by rw [hw1]; simp
    have hb1 := on hb0 z1
    have b_0 : w1.cell? ⟨w.heap.size, 0, none⟩ = some (.int .i64 i) := by rw [hw1]; exact box_cell (Below.refl _ _) rfl
    have b_1 : w1.cell? ⟨w.heap.size, 1, none⟩ = some (.slice ub un uc) := by rw [hw1]; exact box_cell (Below.refl _ _) rfl
    have raw1_b_0 := b_0
    have raw1_b_1 := b_1
    rw [hw1] at raw1_b_0 raw1_b_1
    go_wp2_with fail
    rw [← hw1]
    clear hw1
    clear raw1_b_0 raw1_b_1
    refine (within_any _ _ _ _).mono ?_
    rintro e w' ⟨rfl, rfl⟩
    clear hl
    go_wp2_with fail
    go_ret
    exact ⟨ret_bool HE.out.symm, hb1⟩
  by_cases h2 : betw un 1 4 = true
  case neg =>
    replace h2 : betw un 1 4 = false := by simpa using h2
    have HE := Lib.hid (validQ_no2 (q := (i, xs)) (by simp only []; rw [hl]; exact h2))
    go_enter Try.func116, Try.ntmps116
    obtain ⟨w2, hw2⟩ : ∃ W, W = w.alloc (.cells #[.int .i64 i, .slice ub un uc] 46) := ⟨_, rfl⟩
    have z2 : Below w.heap.size w w2 := by rw [hw2]; exact (Below.refl _ _).alloc (Nat.le_refl _) _
    have s2 : w2.heap.size = w.heap.size + 1 := by rw [hw2]; simp
    have hb2 := on hb0 z2
    have b_0 : w2.cell? ⟨w.heap.size, 0, none⟩ = some (.int .i64 i) := by rw [hw2]; exact box_cell (Below.refl _ _) rfl
    have b_1 : w2.cell? ⟨w.heap.size, 1, none⟩ = some (.slice ub un uc) := by rw [hw2]; exact box_cell (Below.refl _ _) rfl
    have raw2_b_0 := b_0
    have raw2_b_1 := b_1
    rw [hw2] at raw2_b_0 raw2_b_1
    go_wp2_with fail
    rw [← hw2]
    clear hw2
    clear raw2_b_0 raw2_b_1
    refine (within_any _ _ _ _).mono ?_
    rintro e w' ⟨rfl, rfl⟩
    go_wp2_with fail
    refine (within_any _ _ _ _).mono ?_
    rintro e w' ⟨rfl, rfl⟩
    clear hl
    go_wp2_with fail
    go_ret
    exact ⟨ret_bool HE.out.symm, hb2⟩
  have h3 := h1
  simp only [betw, Bool.and_eq_true, decide_eq_true_eq] at h3
  obtain ⟨n, rfl⟩ := Int.eq_ofNat_of_zero_le (show 0 ≤ i by omega)
  have hn1 : 1 ≤ n ∧ n ≤ 4 := by omega
  obtain ⟨hn1, hn4⟩ := hn1
  clear h3 hi1 hi2
  have HV := Lib.hid (validQ_go (xs := xs) h1 (by rw [hl]; exact h2))
  have H2 := Lib.hid h2
  go_enter Try.func116, Try.ntmps116
  obtain ⟨w3, hw3⟩ : ∃ W, W = w.alloc (.cells #[.int .i64 n, .slice ub un uc] 46) := ⟨_, rfl⟩
  have z3 : Below w.heap.size w w3 := by rw [hw3]; exact (Below.refl _ _).alloc (Nat.le_refl _) _
  have s3 : w3.heap.size = w.heap.size + 1 := by rw [hw3]; simp
  have hb3 := on hb0 z3
  have b_0 : w3.cell? ⟨w.heap.size, 0, none⟩ = some (.int .i64 n) := by rw [hw3]; exact box_cell (Below.refl _ _) rfl
  have b_1 : w3.cell? ⟨w.heap.size, 1, none⟩ = some (.slice ub un uc) := by rw [hw3]; exact box_cell (Below.refl _ _) rfl
  have raw3_b_0 := b_0
  have raw3_b_1 := b_1
  rw [hw3] at raw3_b_0 raw3_b_1
  go_wp2_with fail
  rw [← hw3]
  clear hw3
  clear raw3_b_0 raw3_b_1
  refine (within_any _ _ _ _).mono ?_
  rintro e w' ⟨rfl, rfl⟩
  go_wp2_with fail
  refine (within_any _ _ _ _).mono ?_
  rintro e w' ⟨rfl, rfl⟩
  go_wp2_with (at_make; refine wpList_mkS Try.underlying159 infoBool rfl (by decide) (by decide) O.bool ([] : List Bool) _ _ n (by omega) rfl rfl rfl rfl ?_; intro w2 hp hz hz2; have s4 := hz.size; have hb4 := on hb3 hz; replace b_0 := (hz.cell (p := ⟨w.heap.size, 0, none⟩) (by simp only []; omega)).trans b_0; replace b_1 := (hz.cell (p := ⟨w.heap.size, 1, none⟩) (by simp only []; omega)).trans b_1)
  have B0 : Bools w2 (w.heap.size + 1) n 0 := by have h9 := Bools.of_part hp; rwa [show w3.heap.size = (w.heap.size + 1) by omega] at h9
  clear hp h1 h2
  go_loopw [25] (fun k wr => ∃ j m : Nat, j ≤ un ∧ m < 2 ^ n ∧ k = .int .i64 j ∧ Hid (validQ ((n : Int), xs) = validFrom n m (xs.drop j)) ∧ Bools wr (w.heap.size + 1) n m ∧ Turn (w.heap.size + 1) (w.heap.size + 2) w2 wr) (fun k _ => un - (intOf k).toNat)
  case atStart => exact ⟨0, 0, Nat.zero_le _, Nat.two_pow_pos _, rfl, HV.out, B0, turn_refl _ _ _⟩
  case round =>
    obtain ⟨j, m, hj, hm, rfl, hE, hB, hdr⟩ := hrel
    obtain ⟨wo, rfl⟩ : ∃ W, W = wr := ⟨_, rfl⟩
    have hlc := hdr
    clear B0
    have s5 := hdr.size
    have hb5 := hb4.trans ((hdr.below (by omega)).mono (by omega))
    replace b_0 := (hdr.cell (p := ⟨w.heap.size, 0, none⟩) (by simp only []; omega) (by simp only []; omega)).trans b_0
    replace b_1 := (hdr.cell (p := ⟨w.heap.size, 1, none⟩) (by simp only []; omega) (by simp only []; omega)).trans b_1
    have t0 := rS_sl g1
    have hm16 := pow_le16 hn4
    by_cases hlt : j < un
    · obtain ⟨b1, o1, cs, x, rfl, hx, hr, hc⟩ := t0.at hlt
      obtain ⟨s, vs⟩ := x
      obtain ⟨vb, vn, vc, rfl, hs, g2⟩ := rA_open hr
      simp only at hs g2
      have i0 := rI_ints g2
      have hvl := i0.len
      have hvs := i0.small
      obtain ⟨hvc, hvc2⟩ := rS_cap g2
      have e_lt : b1 < w.heap.size := cell_lt (hc 0 _ rfl)
      have e_0 : wo.cell? ⟨b1, o1 + j * 2, none⟩ = some (.string s) := (hb5.cell (p := ⟨b1, o1 + j * 2, none⟩) e_lt).trans (by have h9 := hc 0 _ rfl; rw [← Nat.add_assoc] at h9; exact h9)
      have e_1 : wo.cell? ⟨b1, o1 + j * 2 + 1, none⟩ = some (.slice vb vn vc) := (hb5.cell (p := ⟨b1, o1 + j * 2 + 1, none⟩) e_lt).trans (by have h9 := hc 1 _ rfl; rw [← Nat.add_assoc] at h9; exact h9)
      have HA := Lib.hid (hE.out.trans (validFrom_at hx.out))
      clear hc t0 hr hl hx hE i0 HV
      have hg := hB.lt
      obtain ⟨w6, hw6⟩ : ∃ W, W = wo.alloc (.cells #[.string s, .slice vb vn vc] 161) := ⟨_, rfl⟩
      have z6 : Below wo.heap.size wo w6 := by rw [hw6]; exact (Below.refl _ _).alloc (Nat.le_refl _) _
      have s6 : w6.heap.size = wo.heap.size + 1 := by rw [hw6]; simp
      have hb6 := on hb5 z6
      have old6_b_0 := b_0
      have old6_b_1 := b_1
      have old6_e_0 := e_0
      have old6_e_1 := e_1
      replace b_0 := (z6.cell (p := ⟨w.heap.size, 0, none⟩) (by simp only []; omega)).trans b_0
      replace b_1 := (z6.cell (p := ⟨w.heap.size, 1, none⟩) (by simp only []; omega)).trans b_1
      replace hlc := hlc.trans (turn_below z6 (Nat.le_refl _))
      replace e_0 := (z6.cell (p := ⟨b1, o1 + j * 2, none⟩) (by simp only []; omega)).trans e_0
      replace e_1 := (z6.cell (p := ⟨b1, o1 + j * 2 + 1, none⟩) (by simp only []; omega)).trans e_1
      replace hB := hB.below z6 (by omega)
      have p_0 : w6.cell? ⟨wo.heap.size, 0, none⟩ = some (.string s) := by rw [hw6]; exact box_cell (Below.refl _ _) rfl
      have p_1 : w6.cell? ⟨wo.heap.size, 1, none⟩ = some (.slice vb vn vc) := by rw [hw6]; exact box_cell (Below.refl _ _) rfl
      have raw6_b_0 := b_0
      have raw6_b_1 := b_1
      have raw6_e_0 := e_0
      have raw6_e_1 := e_1
      have raw6_p_0 := p_0
      have raw6_p_1 := p_1
      rw [hw6] at raw6_b_0 raw6_b_1 raw6_e_0 raw6_e_1 raw6_p_0 raw6_p_1
      by_cases h1 : nameB s = true
      case neg =>
        replace h1 : nameB s = false := by simpa using h1
        have HE := Lib.hid (show validQ ((n : Int), xs) = false by rw [HA.out]; simp [h1])
        go_wp2_with fail
        rw [← hw6]
        clear hw6
        clear old6_b_0 old6_b_1 old6_e_0 old6_e_1 raw6_b_0 raw6_b_1 raw6_e_0 raw6_e_1 raw6_p_0 raw6_p_1
        refine (nameOk_any _ _ hs).mono ?_
        rintro e w' ⟨rfl, rfl⟩
        go_wp2_with fail
        go_ret
        exact ⟨ret_bool HE.out.symm, hb6⟩
      by_cases h2 : betw vn 1 3 = true
      case neg =>
        replace h2 : betw vn 1 3 = false := by simpa using h2
        have HE := Lib.hid (show validQ ((n : Int), xs) = false by rw [HA.out]; simp [hvl, h2])
        go_wp2_with fail
        rw [← hw6]
        clear hw6
        clear old6_b_0 old6_b_1 old6_e_0 old6_e_1 raw6_b_0 raw6_b_1 raw6_e_0 raw6_e_1 raw6_p_0 raw6_p_1
        refine (nameOk_any _ _ hs).mono ?_
        rintro e w' ⟨rfl, rfl⟩
        go_wp2_with fail
        refine (within_any _ _ _ _).mono ?_
        rintro e w' ⟨rfl, rfl⟩
        go_wp2_with fail
        go_ret
        exact ⟨ret_bool HE.out.symm, hb6⟩
      have HA2 := Lib.hid (show validQ ((n : Int), xs) = (varsFrom n (vs.take 0) (vs.drop 0) && validFrom n (vbits m (vs.drop 0)) (xs.drop (j + 1))) by rw [HA.out]; simp [h1, hvl, h2])
      clear HA
      go_wp2_with fail
      rw [← hw6]
      clear hw6
      clear old6_b_0 old6_b_1 old6_e_0 old6_e_1 raw6_b_0 raw6_b_1 raw6_e_0 raw6_e_1 raw6_p_0 raw6_p_1
      refine (nameOk_any _ _ hs).mono ?_
      rintro e w' ⟨rfl, rfl⟩
      go_wp2_with fail
      refine (within_any _ _ _ _).mono ?_
      rintro e w' ⟨rfl, rfl⟩
      have h3 := h2
      simp only [betw, Bool.and_eq_true, decide_eq_true_eq] at h3
      go_wp2_with fail
      clear h1 h2
      go_loopw [43] (fun k wr => ∃ i m : Nat, i ≤ vn ∧ m < 2 ^ n ∧ k = .int .i64 i ∧ Hid (validQ ((n : Int), xs) = (varsFrom n (vs.take i) (vs.drop i) && validFrom n (vbits m (vs.drop i)) (xs.drop (j + 1)))) ∧ Bools wr (w.heap.size + 1) n m ∧ Turn (w.heap.size + 1) (w.heap.size + 2) w6 wr) (fun k _ => vn - (intOf k).toNat)
      case atStart => exact ⟨0, m, Nat.zero_le _, hm, rfl, HA2.out, hB, turn_refl _ _ _⟩
      case round =>
        obtain ⟨i, m, hi, hm, rfl, hE, hB, hdr⟩ := hrel
        have hlo := hdr
        have s7 := hdr.size
        have hb7 := hb6.trans ((hdr.below (by omega)).mono (by omega))
        replace b_0 := (hdr.cell (p := ⟨w.heap.size, 0, none⟩) (by simp only []; omega) (by simp only []; omega)).trans b_0
        replace b_1 := (hdr.cell (p := ⟨w.heap.size, 1, none⟩) (by simp only []; omega) (by simp only []; omega)).trans b_1
        replace hlc := hlc.trans hdr
        replace e_0 := (hdr.cell (p := ⟨b1, o1 + j * 2, none⟩) (by simp only []; omega) (by simp only []; omega)).trans e_0
        replace e_1 := (hdr.cell (p := ⟨b1, o1 + j * 2 + 1, none⟩) (by simp only []; omega) (by simp only []; omega)).trans e_1
        replace p_0 := (hdr.cell (p := ⟨wo.heap.size, 0, none⟩) (by simp only []; omega) (by simp only []; omega)).trans p_0
        replace p_1 := (hdr.cell (p := ⟨wo.heap.size, 1, none⟩) (by simp only []; omega) (by simp only []; omega)).trans p_1
        have hm16 := pow_le16 hn4
        have i0 := rI_ints g2
        by_cases hlv : i < vn
        · obtain ⟨b2, o2, v, rfl, hc, hv, hv1, hv2⟩ := i0.get hlv
          have v0_lt : b2 < w.heap.size := cell_lt hc
          have v0 : wr.cell? ⟨b2, o2 + i, none⟩ = some (.int .i64 v) := (hb7.cell (p := ⟨b2, o2 + i, none⟩) v0_lt).trans hc
          clear hc
          by_cases h4 : betw v 0 ((n : Int) - 1) = true
          case neg =>
            replace h4 : betw v 0 ((n : Int) - 1) = false := by simpa using h4
            have HE := Lib.hid (show validQ ((n : Int), xs) = false by rw [hE.out, vars_no (by omega) hv.out (by simp [h4])]; rfl)
            clear i0 hvl hB
            go_wp2_with fail
            refine (within_any _ _ _ _).mono ?_
            rintro e w' ⟨rfl, rfl⟩
            go_wp2_with fail
            go_ret
            exact ⟨ret_bool HE.out.symm, hb7⟩
          have hcall := contains_any (some ⟨b2, o2, none⟩) i vc (vs.take i) v wr ((i0.takeTo (by omega)).below hb7)
          obtain ⟨t, ht⟩ : ∃ t, t = has (vs.take i) v := ⟨_, rfl⟩
          rw [← ht] at hcall
          have HC := Lib.hid hcall
          clear hcall
          have h5 := h4
          simp only [betw, Bool.and_eq_true, decide_eq_true_eq] at h5
          obtain ⟨v, rfl⟩ := Int.eq_ofNat_of_zero_le h5.1
          have hvn : v < n := by omega
          clear h5
          cases t with
          | true =>
            have HE := Lib.hid (show validQ ((n : Int), xs) = false by rw [hE.out, vars_no (by omega) hv.out (by rw [← ht]; simp)]; rfl)
            clear i0 hvl ht hB
            go_wp2_with fail
            refine (within_any _ _ _ _).mono ?_
            rintro e w' ⟨rfl, rfl⟩
            go_wp2_with fail
            refine (HC.out).mono ?_
            rintro e w' ⟨rfl, rfl⟩
            go_wp2_with fail
            go_ret
            exact ⟨ret_bool HE.out.symm, hb7⟩
          | false =>
            have HE := Lib.hid (hE.out.trans (show _ = (varsFrom n (vs.take (i + 1)) (vs.drop (i + 1)) && validFrom n (vbits (m ||| 2 ^ v) (vs.drop (i + 1))) (xs.drop (j + 1))) by rw [vars_yes (by omega) hv.out h4 ht.symm, vbits_at (by omega) hv.out]))
            have hB' := hB.set hvn
            have hk := hB.cell hvn
            have hf := hB.frozen v
            have hmo := or_lt hm hvn
            clear i0 hvl ht hB
            go_wp2_with fail
            refine (within_any _ _ _ _).mono ?_
            rintro e w' ⟨rfl, rfl⟩
            go_wp2_with fail
            refine (HC.out).mono ?_
            rintro e w' ⟨rfl, rfl⟩
            go_wp2_with fail
            go_roundw
            case rel => exact ⟨i + 1, m ||| 2 ^ v, by omega, hmo, by go_num, HE.out, hB', hlo.setCell (Nat.le_refl _) (by simp only []; omega) _⟩
            case measure => simp [intOf]; omega
        · have HE := Lib.hid (show validQ ((n : Int), xs) = validFrom n m (xs.drop (j + 1)) by rw [hE.out, vars_end (by omega), vbits_end (by omega)]; rfl)
          clear i0 hvl
          go_wp2_with fail
          go_roundw
          case rel => exact ⟨j + 1, m, by omega, hm, by go_num, HE.out, hB, hlc⟩
          case measure => simp [intOf]; omega
    · have HE := Lib.hid (hE.out.trans (validFrom_end (by omega)))
      clear t0 hl hE HV
      go_wp2_with fail
      refine (containsBools _ _ _ _ _ hB hn4 hm).mono ?_
      rintro e w' ⟨rfl, rfl⟩
      obtain ⟨t, ht⟩ : ∃ t, t = decide (m = 2 ^ n - 1) := ⟨_, rfl⟩
      rw [← ht] at HE ⊢
      clear ht
      go_wp2_with fail
      go_ret
      exact ⟨ret_bool (by rw [HE.out] <;> simp), hb5⟩

end Go.Proofs.Ytbkoddikfpkocaa

/- Contracts: whether a query is valid: the reference's. -/
namespace Go.Proofs.Ytbkoddikfpkocaa
open Go.RowKit
set_option linter.unusedVariables false
set_option linter.unusedSimpArgs false
set_option synthInstance.maxSize 2000
set_option synthInstance.maxHeartbeats 400000

set_option maxHeartbeats 2000000 in
theorem validQ_spec (cs : List Value) (x : DQ) (w : World) (h : rQ.rep w cs x) :
    Calls Try.prog 117 #[.agg cs.toArray] w fun e w' => e = .returned (.bool (validQ x)) ∧ Below w.heap.size w w' := by
  obtain ⟨ub, un, uc, rfl, hi, g1⟩ := rQ_open h
  clear h
  obtain ⟨i, xs⟩ := x
  simp only at hi g1
  obtain ⟨hi1, hi2⟩ := hi
  have t0 := rS_sl g1
  have hl := t0.len
  have hn := t0.small
  clear t0
  have hb0 : Below w.heap.size w w := Below.refl _ _
  by_cases h1 : betw i 1 4 = true
  case neg =>
    replace h1 : betw i 1 4 = false := by simpa using h1
    have HE := Lib.hid (validQ_no1 (q := (i, xs)) h1)
    go_enter Try.func117, Try.ntmps117
    obtain ⟨w1, hw1⟩ : ∃ W, W = w.alloc (.cells #[.int .i64 i, .slice ub un uc] 46) := ⟨_, rfl⟩
    have z1 : Below w.heap.size w w1 := by rw [hw1]; exact (Below.refl _ _).alloc (Nat.le_refl _) _
    have s1 : w1.heap.size = w.heap.size + 1 := by rw [hw1]; simp
    have hb1 := on hb0 z1
    have b_0 : w1.cell? ⟨w.heap.size, 0, none⟩ = some (.int .i64 i) := by rw [hw1]; exact box_cell (Below.refl _ _) rfl
    have b_1 : w1.cell? ⟨w.heap.size, 1, none⟩ = some (.slice ub un uc) := by rw [hw1]; exact box_cell (Below.refl _ _) rfl
    have raw1_b_0 := b_0
    have raw1_b_1 := b_1
    rw [hw1] at raw1_b_0 raw1_b_1
    go_wp2_with fail
    rw [← hw1]
    clear hw1
    clear raw1_b_0 raw1_b_1
    refine (l1In_any _ _ _ _).mono ?_
    rintro e w' ⟨rfl, rfl⟩
    clear hl
    go_wp2_with fail
    go_ret
    exact ⟨ret_bool HE.out.symm, hb1⟩
  by_cases h2 : betw un 1 4 = true
  case neg =>
    replace h2 : betw un 1 4 = false := by simpa using h2
    have HE := Lib.hid (validQ_no2 (q := (i, xs)) (by simp only []; rw [hl]; exact h2))
    go_enter Try.func117, Try.ntmps117
    obtain ⟨w2, hw2⟩ : ∃ W, W = w.alloc (.cells #[.int .i64 i, .slice ub un uc] 46) := ⟨_, rfl⟩
    have z2 : Below w.heap.size w w2 := by rw [hw2]; exact (Below.refl _ _).alloc (Nat.le_refl _) _
    have s2 : w2.heap.size = w.heap.size + 1 := by rw [hw2]; simp
    have hb2 := on hb0 z2
    have b_0 : w2.cell? ⟨w.heap.size, 0, none⟩ = some (.int .i64 i) := by rw [hw2]; exact box_cell (Below.refl _ _) rfl
    have b_1 : w2.cell? ⟨w.heap.size, 1, none⟩ = some (.slice ub un uc) := by rw [hw2]; exact box_cell (Below.refl _ _) rfl
    have raw2_b_0 := b_0
    have raw2_b_1 := b_1
    rw [hw2] at raw2_b_0 raw2_b_1
    go_wp2_with fail
    rw [← hw2]
    clear hw2
    clear raw2_b_0 raw2_b_1
    refine (l1In_any _ _ _ _).mono ?_
    rintro e w' ⟨rfl, rfl⟩
    go_wp2_with fail
    refine (l1In_any _ _ _ _).mono ?_
    rintro e w' ⟨rfl, rfl⟩
    clear hl
    go_wp2_with fail
    go_ret
    exact ⟨ret_bool HE.out.symm, hb2⟩
  have h3 := h1
  simp only [betw, Bool.and_eq_true, decide_eq_true_eq] at h3
  obtain ⟨n, rfl⟩ := Int.eq_ofNat_of_zero_le (show 0 ≤ i by omega)
  have hn1 : 1 ≤ n ∧ n ≤ 4 := by omega
  obtain ⟨hn1, hn4⟩ := hn1
  clear h3 hi1 hi2
  have HV := Lib.hid (validQ_go (xs := xs) h1 (by rw [hl]; exact h2))
  have H2 := Lib.hid h2
  go_enter Try.func117, Try.ntmps117
  obtain ⟨w3, hw3⟩ : ∃ W, W = w.alloc (.cells #[.int .i64 n, .slice ub un uc] 46) := ⟨_, rfl⟩
  have z3 : Below w.heap.size w w3 := by rw [hw3]; exact (Below.refl _ _).alloc (Nat.le_refl _) _
  have s3 : w3.heap.size = w.heap.size + 1 := by rw [hw3]; simp
  have hb3 := on hb0 z3
  have b_0 : w3.cell? ⟨w.heap.size, 0, none⟩ = some (.int .i64 n) := by rw [hw3]; exact box_cell (Below.refl _ _) rfl
  have b_1 : w3.cell? ⟨w.heap.size, 1, none⟩ = some (.slice ub un uc) := by rw [hw3]; exact box_cell (Below.refl _ _) rfl
  have raw3_b_0 := b_0
  have raw3_b_1 := b_1
  rw [hw3] at raw3_b_0 raw3_b_1
  go_wp2_with fail
  rw [← hw3]
  clear hw3
  clear raw3_b_0 raw3_b_1
  refine (l1In_any _ _ _ _).mono ?_
  rintro e w' ⟨rfl, rfl⟩
  go_wp2_with fail
  refine (l1In_any _ _ _ _).mono ?_
  rintro e w' ⟨rfl, rfl⟩
  go_wp2_with fail
  clear h1 h2
  go_loopw [3, 4] (fun s k wr => ∃ j m : Nat, j ≤ un ∧ m < 2 ^ n ∧ k = .int .i64 j ∧ s = .int .i64 m ∧ Hid (validQ ((n : Int), xs) = validFrom n m (xs.drop j)) ∧ Below w3.heap.size w3 wr) (fun _ k _ => un - (intOf k).toNat)
  case atStart => exact ⟨0, 0, Nat.zero_le _, Nat.two_pow_pos _, rfl, rfl, HV.out, Below.refl _ _⟩
  case round =>
    obtain ⟨j, m, hj, hm, rfl, rfl, hE, hdr⟩ := hrel
    obtain ⟨wo, rfl⟩ : ∃ W, W = wr := ⟨_, rfl⟩
    have hlc := hdr
    have s4 := hdr.size
    have hb4 := on hb3 hdr
    replace b_0 := (hdr.cell (p := ⟨w.heap.size, 0, none⟩) (by simp only []; omega)).trans b_0
    replace b_1 := (hdr.cell (p := ⟨w.heap.size, 1, none⟩) (by simp only []; omega)).trans b_1
    have t0 := rS_sl g1
    have hm16 := pow_le16 hn4
    by_cases hlt : j < un
    · obtain ⟨b1, o1, cs, x, rfl, hx, hr, hc⟩ := t0.at hlt
      obtain ⟨s, vs⟩ := x
      obtain ⟨vb, vn, vc, rfl, hs, g2⟩ := rA_open hr
      simp only at hs g2
      have i0 := rI_ints g2
      have hvl := i0.len
      have hvs := i0.small
      obtain ⟨hvc, hvc2⟩ := rS_cap g2
      have e_lt : b1 < w.heap.size := cell_lt (hc 0 _ rfl)
      have e_0 : wo.cell? ⟨b1, o1 + j * 2, none⟩ = some (.string s) := (hb4.cell (p := ⟨b1, o1 + j * 2, none⟩) e_lt).trans (by have h9 := hc 0 _ rfl; rw [← Nat.add_assoc] at h9; exact h9)
      have e_1 : wo.cell? ⟨b1, o1 + j * 2 + 1, none⟩ = some (.slice vb vn vc) := (hb4.cell (p := ⟨b1, o1 + j * 2 + 1, none⟩) e_lt).trans (by have h9 := hc 1 _ rfl; rw [← Nat.add_assoc] at h9; exact h9)
      have HA := Lib.hid (hE.out.trans (validFrom_at hx.out))
      clear hc t0 hr hl hx hE i0 HV
      obtain ⟨w5, hw5⟩ : ∃ W, W = wo.alloc (.cells #[.string s, .slice vb vn vc] 161) := ⟨_, rfl⟩
      have z5 : Below wo.heap.size wo w5 := by rw [hw5]; exact (Below.refl _ _).alloc (Nat.le_refl _) _
      have s5 : w5.heap.size = wo.heap.size + 1 := by rw [hw5]; simp
      have hb5 := on hb4 z5
      have old5_b_0 := b_0
      have old5_b_1 := b_1
      have old5_e_0 := e_0
      have old5_e_1 := e_1
      replace b_0 := (z5.cell (p := ⟨w.heap.size, 0, none⟩) (by simp only []; omega)).trans b_0
      replace b_1 := (z5.cell (p := ⟨w.heap.size, 1, none⟩) (by simp only []; omega)).trans b_1
      replace hlc := on hlc z5
      replace e_0 := (z5.cell (p := ⟨b1, o1 + j * 2, none⟩) (by simp only []; omega)).trans e_0
      replace e_1 := (z5.cell (p := ⟨b1, o1 + j * 2 + 1, none⟩) (by simp only []; omega)).trans e_1
      have p_0 : w5.cell? ⟨wo.heap.size, 0, none⟩ = some (.string s) := by rw [hw5]; exact box_cell (Below.refl _ _) rfl
      have p_1 : w5.cell? ⟨wo.heap.size, 1, none⟩ = some (.slice vb vn vc) := by rw [hw5]; exact box_cell (Below.refl _ _) rfl
      have raw5_b_0 := b_0
      have raw5_b_1 := b_1
      have raw5_e_0 := e_0
      have raw5_e_1 := e_1
      have raw5_p_0 := p_0
      have raw5_p_1 := p_1
      rw [hw5] at raw5_b_0 raw5_b_1 raw5_e_0 raw5_e_1 raw5_p_0 raw5_p_1
      by_cases h1 : nameB s = true
      case neg =>
        replace h1 : nameB s = false := by simpa using h1
        have HE := Lib.hid (show validQ ((n : Int), xs) = false by rw [HA.out]; simp [h1])
        go_wp2_with fail
        rw [← hw5]
        clear hw5
        clear old5_b_0 old5_b_1 old5_e_0 old5_e_1 raw5_b_0 raw5_b_1 raw5_e_0 raw5_e_1 raw5_p_0 raw5_p_1
        refine (l4Name_any _ _ hs).mono ?_
        rintro e w' ⟨rfl, rfl⟩
        go_wp2_with fail
        go_ret
        exact ⟨ret_bool HE.out.symm, hb5⟩
      by_cases h2 : betw vn 1 3 = true
      case neg =>
        replace h2 : betw vn 1 3 = false := by simpa using h2
        have HE := Lib.hid (show validQ ((n : Int), xs) = false by rw [HA.out]; simp [hvl, h2])
        go_wp2_with fail
        rw [← hw5]
        clear hw5
        clear old5_b_0 old5_b_1 old5_e_0 old5_e_1 raw5_b_0 raw5_b_1 raw5_e_0 raw5_e_1 raw5_p_0 raw5_p_1
        refine (l4Name_any _ _ hs).mono ?_
        rintro e w' ⟨rfl, rfl⟩
        go_wp2_with fail
        refine (l1In_any _ _ _ _).mono ?_
        rintro e w' ⟨rfl, rfl⟩
        go_wp2_with fail
        go_ret
        exact ⟨ret_bool HE.out.symm, hb5⟩
      have HA2 := Lib.hid (show validQ ((n : Int), xs) = (varsFrom n (vs.take 0) (vs.drop 0) && validFrom n (vbits m (vs.drop 0)) (xs.drop (j + 1))) by rw [HA.out]; simp [h1, hvl, h2])
      clear HA
      go_wp2_with fail
      rw [← hw5]
      clear hw5
      clear old5_b_0 old5_b_1 old5_e_0 old5_e_1 raw5_b_0 raw5_b_1 raw5_e_0 raw5_e_1 raw5_p_0 raw5_p_1
      refine (l4Name_any _ _ hs).mono ?_
      rintro e w' ⟨rfl, rfl⟩
      go_wp2_with fail
      refine (l1In_any _ _ _ _).mono ?_
      rintro e w' ⟨rfl, rfl⟩
      have h3 := h2
      simp only [betw, Bool.and_eq_true, decide_eq_true_eq] at h3
      go_wp2_with fail
      clear h1 h2
      go_loopw [3, 6] (fun s k wr => ∃ i m : Nat, i ≤ vn ∧ m < 2 ^ n ∧ k = .int .i64 i ∧ s = .int .i64 m ∧ Hid (validQ ((n : Int), xs) = (varsFrom n (vs.take i) (vs.drop i) && validFrom n (vbits m (vs.drop i)) (xs.drop (j + 1)))) ∧ Drew w5 wr) (fun _ k _ => vn - (intOf k).toNat)
      case atStart => exact ⟨0, m, Nat.zero_le _, hm, rfl, rfl, HA2.out, Drew.refl _⟩
      case round =>
        obtain ⟨i, m, hi, hm, rfl, rfl, hE, hdr⟩ := hrel
        have hlo := hdr
        replace hdr : Below w5.heap.size w5 wr := hdr.below _
        have s6 := hdr.size
        have hb6 := on hb5 hdr
        replace b_0 := (hdr.cell (p := ⟨w.heap.size, 0, none⟩) (by simp only []; omega)).trans b_0
        replace b_1 := (hdr.cell (p := ⟨w.heap.size, 1, none⟩) (by simp only []; omega)).trans b_1
        replace hlc := on hlc hdr
        replace e_0 := (hdr.cell (p := ⟨b1, o1 + j * 2, none⟩) (by simp only []; omega)).trans e_0
        replace e_1 := (hdr.cell (p := ⟨b1, o1 + j * 2 + 1, none⟩) (by simp only []; omega)).trans e_1
        replace p_0 := (hdr.cell (p := ⟨wo.heap.size, 0, none⟩) (by simp only []; omega)).trans p_0
        replace p_1 := (hdr.cell (p := ⟨wo.heap.size, 1, none⟩) (by simp only []; omega)).trans p_1
        have hm16 := pow_le16 hn4
        have i0 := rI_ints g2
        by_cases hlv : i < vn
        · obtain ⟨b2, o2, v, rfl, hc, hv, hv1, hv2⟩ := i0.get hlv
          have v0_lt : b2 < w.heap.size := cell_lt hc
          have v0 : wr.cell? ⟨b2, o2 + i, none⟩ = some (.int .i64 v) := (hb6.cell (p := ⟨b2, o2 + i, none⟩) v0_lt).trans hc
          clear hc
          by_cases h4 : betw v 0 ((n : Int) - 1) = true
          case neg =>
            replace h4 : betw v 0 ((n : Int) - 1) = false := by simpa using h4
            have HE := Lib.hid (show validQ ((n : Int), xs) = false by rw [hE.out, vars_no (by omega) hv.out (by simp [h4])]; rfl)
            clear i0 hvl
            go_wp2_with fail
            go_quiet ((go_at_call 98; exact quiet_same (l1In_any _ _ _ _)))
            go_wp2_with fail
            go_ret
            exact ⟨ret_bool HE.out.symm, onD hb6 ⟨_, rfl⟩⟩
          have hcall := fun q => l7Has_any (some ⟨b2, o2, none⟩) i vc (vs.take i) v (wr.drewN q) (((i0.takeTo (by omega)).below hb6).drewN q)
          obtain ⟨t, ht⟩ : ∃ t, t = has (vs.take i) v := ⟨_, rfl⟩
          rw [← ht] at hcall
          have HC := Lib.hid hcall
          clear hcall
          have h5 := h4
          simp only [betw, Bool.and_eq_true, decide_eq_true_eq] at h5
          obtain ⟨v, rfl⟩ := Int.eq_ofNat_of_zero_le h5.1
          have hvn : v < n := by omega
          clear h5
          cases t with
          | true =>
            have HE := Lib.hid (show validQ ((n : Int), xs) = false by rw [hE.out, vars_no (by omega) hv.out (by rw [← ht]; simp)]; rfl)
            clear i0 hvl ht
            go_wp2_with fail
            go_quiet ((first | (go_at_call 98; exact quiet_same (l1In_any _ _ _ _)) | (go_at_call 119; exact quiet_same (HC.out _))))
            go_wp2_with fail
            go_ret
            exact ⟨ret_bool HE.out.symm, onD hb6 ⟨_, rfl⟩⟩
          | false =>
            have HE := Lib.hid (hE.out.trans (show _ = (varsFrom n (vs.take (i + 1)) (vs.drop (i + 1)) && validFrom n (vbits (m ||| 2 ^ v) (vs.drop (i + 1))) (xs.drop (j + 1))) by rw [vars_yes (by omega) hv.out h4 ht.symm, vbits_at (by omega) hv.out]))
            have hmo := or_lt hm hvn
            clear i0 hvl ht
            go_wp2_with fail
            go_quiet ((first | (go_at_call 98; exact quiet_same (l1In_any _ _ _ _)) | (go_at_call 119; exact quiet_same (HC.out _))))
            go_wp2_with fail
            go_roundw
            case rel => exact ⟨i + 1, m ||| 2 ^ v, by omega, hmo, by go_num, by show Value.int _ _ = _; first | (rw [or_pow (by omega) (by omega)]) | (rw [← or_pow (m := m) (v := v) (by omega) (by omega)]; rfl), HE.out, hlo.step _⟩
            case measure => simp [intOf]; omega
        · have HE := Lib.hid (show validQ ((n : Int), xs) = validFrom n m (xs.drop (j + 1)) by rw [hE.out, vars_end (by omega), vbits_end (by omega)]; rfl)
          clear i0 hvl
          go_wp2_with fail
          go_roundw
          case rel => exact ⟨j + 1, m, by omega, hm, by go_num, rfl, HE.out, hlc⟩
          case measure => simp [intOf]; omega
    · have HE := Lib.hid (hE.out.trans (validFrom_end (by omega)))
      clear t0 hl hE HV
      go_wp2_with fail
      go_ret
      exact ⟨ret_bool (by rw [HE.out]; exact full_eq (by omega)), hb4⟩

end Go.Proofs.Ytbkoddikfpkocaa

/- Plain: closures of columns. -/
namespace Go.Proofs.Ytbkoddikfpkocaa
open Go.RowKit
set_option linter.unusedVariables false
set_option linter.unusedSimpArgs false

/-- Whether a dependency is one of a table, its columns in range. -/
def depIn (name : ByteArray) (f : DDp) : Bool := decide (f.1 = name) && (betw f.2.2 0 2 && f.2.1.all (fun c => betw c 0 2))
/-- Whether columns are among those of a set. -/
def subM (m : Nat) (cs : List Int) : Bool := cs.all (fun c => bitAt m c.toNat)
/-- A dependency taken. -/
def stepM (name : ByteArray) (m : Nat) (f : DDp) : Nat := if depIn name f && subM m f.2.1 then m ||| 2 ^ f.2.2.toNat else m
/-- All dependencies taken once. -/
def passM (name : ByteArray) (ds : List DDp) (m : Nat) : Nat := ds.foldl (stepM name) m
/-- The closure of a set. -/
def clo (name : ByteArray) (ds : List DDp) (m : Nat) : Nat := passM name ds (passM name ds (passM name ds m))
/-- The set of columns in range. -/
def maskIn (cs : List Int) : Nat := (if has cs 0 then 1 else 0) ||| ((if has cs 1 then 2 else 0) ||| (if has cs 2 then 4 else 0))
/-- ColumnClosure. -/
def closure (ds : List DDp) (name : ByteArray) (cs : List Int) : List Int := bitsTo (clo name ds (maskIn cs)) 3

theorem depIn_to {name : ByteArray} {f : DDp} (h : depIn name f = true) : 0 ≤ f.2.2 ∧ f.2.2 ≤ 2 := by
  simp only [depIn, Bool.and_eq_true, betw, decide_eq_true_eq] at h
  exact h.2.1
theorem pow_to {x : Int} (h : 0 ≤ x ∧ x ≤ 2) : 2 ^ x.toNat < 8 := by
  obtain ⟨h1, h2⟩ := h
  have : x = 0 ∨ x = 1 ∨ x = 2 := by omega
  rcases this with rfl | rfl | rfl <;> decide
theorem stepM_lt {name : ByteArray} {m : Nat} {f : DDp} (hm : m < 8) : stepM name m f < 8 := by
  unfold stepM
  split
  · rename_i h
    rw [Bool.and_eq_true] at h
    exact Nat.or_lt_two_pow (n := 3) hm (pow_to (depIn_to h.1))
  · exact hm
theorem passM_lt {name : ByteArray} : ∀ {ds : List DDp} {m : Nat}, m < 8 → passM name ds m < 8
  | [], m, h => h
  | f :: t, m, h => passM_lt (ds := t) (stepM_lt h)
theorem and_absorb (m x : Nat) : m &&& (m ||| x) = m := by
  apply Nat.eq_of_testBit_eq; intro i
  rw [Nat.testBit_and, Nat.testBit_or]; cases m.testBit i <;> simp
theorem stepM_sub (name : ByteArray) (m : Nat) (f : DDp) : m &&& stepM name m f = m := by
  unfold stepM
  split
  · exact and_absorb m _
  · exact Nat.and_self m
theorem sub_trans {a b c : Nat} (h : a &&& b = a) (k : b &&& c = b) : a &&& c = a := by
  rw [← h, Nat.and_assoc, k]
theorem passM_sub (name : ByteArray) : ∀ (ds : List DDp) (m : Nat), m &&& passM name ds m = m
  | [], m => Nat.and_self m
  | f :: t, m => sub_trans (stepM_sub name m f) (passM_sub name t _)
def cnt3 (m : Nat) : Nat := m % 2 + m / 2 % 2 + m / 4 % 2
theorem cnt3_lt : ∀ a b : Fin 8, a.val &&& b.val = a.val → a ≠ b → cnt3 a.val < cnt3 b.val := by decide
theorem cnt3_top : ∀ a : Fin 8, 3 ≤ cnt3 a.val → a.val = 7 := by decide
theorem sub_top : ∀ a : Fin 8, 7 &&& a.val = 7 → a.val = 7 := by decide
theorem cnt3_sub {a b : Nat} (ha : a < 8) (hb : b < 8) (h : a &&& b = a) (hne : b ≠ a) : cnt3 a < cnt3 b :=
  cnt3_lt ⟨a, ha⟩ ⟨b, hb⟩ h (fun e => hne (by have := congrArg Fin.val e; exact this.symm))
/-- The closure is closed. -/
theorem clo_fix {name : ByteArray} {ds : List DDp} {m : Nat} (hm : m < 8) : passM name ds (clo name ds m) = clo name ds m := by
  unfold clo
  obtain ⟨p, hp⟩ : ∃ p, p = passM name ds := ⟨_, rfl⟩
  have hlt : ∀ x, x < 8 → p x < 8 := by rw [hp]; exact fun x h => passM_lt h
  have hsub : ∀ x, x &&& p x = x := by rw [hp]; exact fun x => passM_sub name ds x
  rw [← hp]
  by_cases h1 : p m = m
  · rw [h1, h1, h1, h1]
  by_cases h2 : p (p m) = p m
  · rw [h2, h2, h2]
  by_cases h3 : p (p (p m)) = p (p m)
  · rw [h3, h3]
  have l1 := hlt m hm
  have l2 := hlt _ l1
  have l3 := hlt _ l2
  have c1 := cnt3_sub hm l1 (hsub m) h1
  have c2 := cnt3_sub l1 l2 (hsub _) h2
  have c3 := cnt3_sub l2 l3 (hsub _) h3
  have h7 : p (p (p m)) = 7 := cnt3_top ⟨_, l3⟩ (by show 3 ≤ cnt3 (p (p (p m))); omega)
  have h8 := hsub (p (p (p m)))
  rw [h7] at h8 ⊢
  exact sub_top ⟨p 7, hlt 7 (by omega)⟩ h8
theorem clo_pass {name : ByteArray} {ds : List DDp} {m : Nat} (hm : m < 8) : clo name ds (passM name ds m) = clo name ds m := by
  have h := clo_fix (name := name) (ds := ds) hm
  show passM name ds (passM name ds (passM name ds (passM name ds m))) = _
  exact h
theorem clo_stop {name : ByteArray} {ds : List DDp} {m : Nat} (h : passM name ds m = m) : clo name ds m = m := by
  unfold clo; rw [h, h, h]
theorem clo_lt {name : ByteArray} {ds : List DDp} {m : Nat} (hm : m < 8) : clo name ds m < 8 := passM_lt (passM_lt (passM_lt hm))
theorem maskIn_lt (cs : List Int) : maskIn cs < 8 := by
  unfold maskIn; split <;> split <;> split <;> decide
theorem passM_at {name : ByteArray} {ds : List DDp} {m j : Nat} {f : DDp} (h : ds[j]? = some f) : passM name (ds.drop j) m = passM name (ds.drop (j + 1)) (stepM name m f) := by
  obtain ⟨h1, rfl⟩ := List.getElem?_eq_some_iff.1 h
  rw [List.drop_eq_getElem_cons h1]; rfl
theorem passM_end {name : ByteArray} {ds : List DDp} {m j : Nat} (h : ds.length ≤ j) : passM name (ds.drop j) m = m := by
  rw [List.drop_eq_nil_of_le h]; rfl

/-- A list that holds the columns of a set, each once. -/
structure Got (l : List Int) (m : Nat) : Prop where
  lt : m < 8
  nodup : l.Nodup
  rng : ∀ c ∈ l, 0 ≤ c ∧ c ≤ 2
  bit : ∀ j : Nat, j < 3 → bitAt m j = has l (j : Int)
theorem bitAt_or (m x j : Nat) : bitAt (m ||| x) j = (bitAt m j || bitAt x j) := by
  rw [bitAt_testBit, bitAt_testBit, bitAt_testBit, Nat.testBit_or]
theorem bitAt_pow (k j : Nat) : bitAt (2 ^ k) j = decide (k = j) := by
  rw [bitAt_testBit, Nat.testBit_two_pow]
theorem Got.add {l : List Int} {m : Nat} {c : Int} (h : Got l m) (hc : 0 ≤ c ∧ c ≤ 2) (hn : has l c = false) : Got (l ++ [c]) (m ||| 2 ^ c.toNat) := by
  refine ⟨Nat.or_lt_two_pow (n := 3) h.lt (pow_to hc), ?_, ?_, ?_⟩
  · rw [List.nodup_append]
    refine ⟨h.nodup, by simp, ?_⟩
    intro a ha b hb e
    simp only [List.mem_singleton] at hb
    subst hb; subst e
    simp [has, ha] at hn
  · intro a ha
    rcases List.mem_append.1 ha with ha | ha
    · exact h.rng a ha
    · simp only [List.mem_singleton] at ha; subst ha; exact hc
  · intro j hj
    rw [bitAt_or, h.bit j hj, bitAt_pow]
    unfold has
    rw [Bool.eq_iff_iff]
    simp only [Bool.or_eq_true, decide_eq_true_eq, List.mem_append, List.mem_singleton]
    constructor
    · rintro (h | h)
      · exact .inl h
      · exact .inr (by omega)
    · rintro (h | h)
      · exact .inl h
      · exact .inr (by omega)
theorem Got.old {l : List Int} {m : Nat} {c : Int} (h : Got l m) (hc : 0 ≤ c ∧ c ≤ 2) (hn : has l c = true) : m ||| 2 ^ c.toNat = m := by
  have h1 := h.bit c.toNat (by omega)
  rw [show ((c.toNat : Nat) : Int) = c by omega, hn] at h1
  apply Nat.eq_of_testBit_eq; intro i
  rw [Nat.testBit_or, Nat.testBit_two_pow]
  by_cases e : c.toNat = i
  · subst e; rw [bitAt_testBit] at h1; simp [h1]
  · simp [e]
theorem Got.sub {l : List Int} {m : Nat} {cs : List Int} (h : Got l m) (hc : ∀ c ∈ cs, 0 ≤ c ∧ c ≤ 2) : decide ((both cs l).length = cs.length) = subM m cs := by
  rw [Bool.eq_iff_iff]
  simp only [decide_eq_true_eq, subM, List.all_eq_true, both, List.length_filter_eq_length_iff]
  refine forall_congr' fun c => forall_congr' fun hm => ?_
  have hr := hc c hm
  have h1 := h.bit c.toNat (by omega)
  rw [show ((c.toNat : Nat) : Int) = c by omega] at h1
  rw [h1]
/-- The columns in order. -/
theorem bitsTo_sorted (m : Nat) : ∀ n, (bitsTo m n).Pairwise (· ≤ ·) ∧ (bitsTo m n).Nodup ∧ ∀ c, c ∈ bitsTo m n ↔ ∃ j : Nat, j < n ∧ c = (j : Int) ∧ bitAt m j = true
  | 0 => by simp [bitsTo]
  | n + 1 => by
    obtain ⟨h1, h2, h3⟩ := bitsTo_sorted m n
    by_cases hb : bitAt m n = true
    · rw [bitsTo_yes hb]
      refine ⟨?_, ?_, ?_⟩
      · rw [List.pairwise_append]
        refine ⟨h1, by simp, ?_⟩
        intro a ha b hb'
        simp only [List.mem_singleton] at hb'
        subst hb'
        obtain ⟨j, hj, rfl, _⟩ := (h3 a).1 ha
        omega
      · rw [List.nodup_append]
        refine ⟨h2, by simp, ?_⟩
        intro a ha b hb' e
        simp only [List.mem_singleton] at hb'
        subst hb'; subst e
        obtain ⟨j, hj, e2, _⟩ := (h3 _).1 ha
        omega
      · intro c
        simp only [List.mem_append, List.mem_singleton, h3]
        constructor
        · rintro (⟨j, hj, rfl, hb'⟩ | rfl)
          · exact ⟨j, by omega, rfl, hb'⟩
          · exact ⟨n, by omega, rfl, hb⟩
        · rintro ⟨j, hj, rfl, hb'⟩
          by_cases e : j = n
          · subst e; exact .inr rfl
          · exact .inl ⟨j, by omega, rfl, hb'⟩
    · rw [bitsTo_no (by simpa using hb)]
      refine ⟨h1, h2, fun c => ?_⟩
      rw [h3]
      constructor
      · rintro ⟨j, hj, rfl, hb'⟩; exact ⟨j, by omega, rfl, hb'⟩
      · rintro ⟨j, hj, rfl, hb'⟩
        by_cases e : j = n
        · subst e; exact absurd hb' hb
        · exact ⟨j, by omega, rfl, hb'⟩
theorem Got.perm {l : List Int} {m : Nat} (h : Got l m) : l.Perm (bitsTo m 3) := by
  obtain ⟨h1, h2, h3⟩ := bitsTo_sorted m 3
  refine (List.perm_ext_iff_of_nodup h.nodup h2).2 fun c => ?_
  rw [h3]
  constructor
  · intro hc
    have hr := h.rng c hc
    refine ⟨c.toNat, by omega, by omega, ?_⟩
    rw [h.bit _ (by omega), show ((c.toNat : Nat) : Int) = c by omega]
    simp [has, hc]
  · rintro ⟨j, hj, rfl, hb⟩
    rw [h.bit j hj] at hb
    simpa [has] using hb
theorem Got.len {l : List Int} {m : Nat} (h : Got l m) : l.length ≤ 3 := by
  rw [h.perm.length_eq]; exact bitsTo_len m 3
theorem Got.sorted {l s : List Int} {m : Nat} (h : Got l m) (hp : s.Perm l) (hs : s.Pairwise (· ≤ ·)) : s = bitsTo m 3 :=
  List.Perm.eq_of_pairwise (le := (· ≤ ·)) (fun a b _ _ => Int.le_antisymm) hs (bitsTo_sorted m 3).1 (hp.trans h.perm)

end Go.Proofs.Ytbkoddikfpkocaa

/- Contracts: tables looked up. -/
namespace Go.Proofs.Ytbkoddikfpkocaa
open Go.RowKit Go.Sort
set_option linter.unusedVariables false
set_option linter.unusedSimpArgs false
set_option synthInstance.maxSize 2000
set_option synthInstance.maxHeartbeats 400000

/-- The place of the first table of a name, from place j on; -1 if there is none. -/
def idxFrom (name : ByteArray) (j : Nat) : List DT → Int
  | [] => -1
  | t :: r => if t.1 = name then (j : Int) else idxFrom name (j + 1) r
/-- The table of a name. -/
def look (db : DDb) (name : ByteArray) : Option DT := if validDb db then db.find? (fun t => decide (t.1 = name)) else none
theorem idxFrom_yes {name : ByteArray} {j : Nat} {xs : List DT} {t : DT} (h : xs[j]? = some t) (hn : t.1 = name) : idxFrom name j (xs.drop j) = (j : Int) := by
  rw [drop_at h, idxFrom, if_pos hn]
theorem idxFrom_no {name : ByteArray} {j : Nat} {xs : List DT} {t : DT} (h : xs[j]? = some t) (hn : t.1 ≠ name) : idxFrom name j (xs.drop j) = idxFrom name (j + 1) (xs.drop (j + 1)) := by
  rw [drop_at h, idxFrom, if_neg hn]
theorem idxFrom_end {name : ByteArray} {j : Nat} {xs : List DT} (h : xs.length ≤ j) : idxFrom name j (xs.drop j) = -1 := by
  rw [List.drop_eq_nil_of_le h]; rfl
/-- What the place says. -/
theorem idx_find {name : ByteArray} : ∀ {xs : List DT} {j : Nat}, (idxFrom name j xs = -1 ∧ xs.find? (fun t => decide (t.1 = name)) = none) ∨ ∃ k t, idxFrom name j xs = ((j + k : Nat) : Int) ∧ xs[k]? = some t ∧ xs.find? (fun t => decide (t.1 = name)) = some t
  | [], j => .inl ⟨rfl, rfl⟩
  | t :: r, j => by
    by_cases h : t.1 = name
    · exact .inr ⟨0, t, by simp [idxFrom, h], rfl, by simp [h]⟩
    · rcases @idx_find name r (j + 1) with ⟨h1, h2⟩ | ⟨k, u, h1, h2, h3⟩
      · exact .inl ⟨by rw [idxFrom, if_neg h]; exact h1, by simp [h, h2]⟩
      · exact .inr ⟨k + 1, u, by rw [idxFrom, if_neg h, h1]; omega, by simpa using h2, by simp [h, h3]⟩
theorem dbFrom_mem : ∀ {xs : List DT} {p : Option ByteArray}, dbFrom p xs = true → ∀ t ∈ xs, validT t = true
  | [], _, _, t, ht => by cases ht
  | x :: r, p, h, t, ht => by
    simp only [dbFrom, Bool.and_eq_true] at h
    rcases List.mem_cons.1 ht with rfl | ht
    · exact h.1
    · exact dbFrom_mem h.2.2 t ht
theorem rowsB_mem {n : Int} {rows : List (List Int)} (h : rowsB n rows = true) : ∀ r ∈ rows, (r.length : Int) = n ∧ ∀ v ∈ r, 0 ≤ v ∧ v ≤ 9 := by
  intro r hr
  have h1 := (List.all_eq_true.1 h) r hr
  simp only [rowB, Bool.and_eq_true, decide_eq_true_eq, List.all_eq_true, betw] at h1
  exact ⟨h1.2, fun v hv => h1.1 v hv⟩
/-- What a valid table is known to hold. -/
structure TOk (t : DT) : Prop where
  name : nameB t.1 = true
  ar : 1 ≤ t.2.1 ∧ t.2.1 ≤ 3
  len : t.2.2.length ≤ 8
  row : ∀ r ∈ t.2.2, (r.length : Int) = t.2.1 ∧ ∀ v ∈ r, 0 ≤ v ∧ v ≤ 9
  asc : ascB t.2.2 = true
theorem TOk.of {t : DT} (h : validT t = true) : TOk t := by
  simp only [validT, Bool.and_eq_true, decide_eq_true_eq, betw] at h
  exact ⟨h.1, h.2.1, h.2.2.1, rowsB_mem h.2.2.2.1, h.2.2.2.2⟩
theorem sumBy_bound {α : Type} {f : α → Nat} {B : Nat} : ∀ {xs : List α}, (∀ x ∈ xs, f x ≤ B) → sumBy f xs ≤ xs.length * B
  | [], _ => by simp [sumBy]
  | x :: t, h => by
    have h1 := h x (by simp)
    have h2 := sumBy_bound (fun y hy => h y (List.mem_cons_of_mem x hy))
    simp only [sumBy, List.map_cons, List.sum_cons, List.length_cons, Nat.add_mul, Nat.one_mul] at h2 ⊢
    omega
theorem TOk.bulk {t : DT} (h : TOk t) : bulk_T t ≤ 100 := by
  have h1 : t.1.size = 1 := by have := h.name; simp only [nameB, Bool.and_eq_true, decide_eq_true_eq] at this; exact this.1
  have h2 := h.ar
  have h3 := h.len
  have h4 : sumBy bulk_I t.2.2 ≤ t.2.2.length * 3 := sumBy_bound (fun r hr => by have := (h.row r hr).1; unfold bulk_I; omega)
  have h5 := Nat.mul_le_mul_right 3 h3
  unfold bulk_T bulk_II
  omega
theorem look_ok {db : DDb} {name : ByteArray} {t : DT} (h : look db name = some t) : TOk t := by
  unfold look at h
  split at h
  · rename_i hv
    simp only [validDb, Bool.and_eq_true] at hv
    exact TOk.of (dbFrom_mem hv.1 t (List.mem_of_find?_eq_some h))
  · cases h
theorem look_name {db : DDb} {name : ByteArray} {t : DT} (h : look db name = some t) : t.1 = name := by
  unfold look at h
  split at h
  · have := List.find?_some h; simpa using this
  · cases h

set_option maxHeartbeats 400000 in
theorem lookFn_any (cs : List Value) (t : DT) (name : ByteArray) (p : Addr) (w : World) (h : rT.rep w cs t) (hp : w.cell? p = some (.string name)) (hps : p.spot = none) :
    Calls Try.prog 195 #[.agg cs.toArray, .pointer (some p)] w fun e w' => e = .returned (.bool (decide (t.1 = name))) ∧ Below w.heap.size w w' := by
  obtain ⟨ub, un, uc, rfl, hs, hi, g1⟩ := rT_open h
  obtain ⟨pb, po, ps⟩ := p
  simp only at hps
  subst hps
  have hlt : pb < w.heap.size := cell_lt hp
  clear h g1
  have hb0 : Below w.heap.size w w := Below.refl _ _
  have c0 : w.cell? ⟨pb, po, none⟩ = some (.string name) := hp
  clear hp
  go_enter Try.func195, Try.ntmps195
  obtain ⟨w1, hw1⟩ : ∃ W, W = w.alloc (.cells #[.string t.1, .int .i64 t.2.1, .slice ub un uc] 34) := ⟨_, rfl⟩
  have z1 : Below w.heap.size w w1 := by rw [hw1]; exact (Below.refl _ _).alloc (Nat.le_refl _) _
  have s1 : w1.heap.size = w.heap.size + 1 := by rw [hw1]; simp
  have hb1 := on hb0 z1
  have old1_c0 := c0
  replace c0 := (z1.cell (p := ⟨pb, po, none⟩) (by simp only []; omega)).trans c0
  have b_0 : w1.cell? ⟨w.heap.size, 0, none⟩ = some (.string t.1) := by rw [hw1]; exact box_cell (Below.refl _ _) rfl
  have b_1 : w1.cell? ⟨w.heap.size, 1, none⟩ = some (.int .i64 t.2.1) := by rw [hw1]; exact box_cell (Below.refl _ _) rfl
  have b_2 : w1.cell? ⟨w.heap.size, 2, none⟩ = some (.slice ub un uc) := by rw [hw1]; exact box_cell (Below.refl _ _) rfl
  have raw1_c0 := c0
  have raw1_b_0 := b_0
  have raw1_b_1 := b_1
  have raw1_b_2 := b_2
  rw [hw1] at raw1_c0 raw1_b_0 raw1_b_1 raw1_b_2
  by_cases e : t.1 = name
  · have HE := Lib.hid (show (t.1.toList == name.toList) = true by rw [e]; simp)
    have HD := Lib.hid (decide_eq_true e)
    clear e
    have hq := HE.out
    go_wp2_with fail
    go_ret
    exact ⟨ret_bool HD.out.symm, by first | exact hb1 | (rw [hw1] at hb1; exact hb1)⟩
  · have hq := bytes_ne e
    have HD := Lib.hid (decide_eq_false e)
    clear e
    go_wp2_with fail
    go_ret
    exact ⟨ret_bool HD.out.symm, by first | exact hb1 | (rw [hw1] at hb1; exact hb1)⟩

end Go.Proofs.Ytbkoddikfpkocaa

/- Contracts: masks of a query, and their variables. -/
namespace Go.Proofs.Ytbkoddikfpkocaa
open Go.RowKit
set_option linter.unusedVariables false
set_option linter.unusedSimpArgs false
set_option synthInstance.maxSize 2000
set_option synthInstance.maxHeartbeats 400000

theorem full_int {n : Nat} (hn : n ≤ 16) : wrap64 (wrap64 ((2 : Int) ^ n) - 1) = ((2 ^ n - 1 : Nat) : Int) := by
  have h1 := Nat.pow_le_pow_right (show 0 < 2 by omega) hn
  have h2 := Nat.two_pow_pos n
  rw [wrap_pow hn]
  generalize 2 ^ n = p at h1 h2
  rw [IntWalk.wrap64_in _ ⟨by omega, by omega⟩]
  omega
theorem fullMask_no {q : DQ} (h : validQ q = false) : fullMask q = 0 := by simp [fullMask, h]
theorem fullMask_yes {q : DQ} (h : validQ q = true) : fullMask q = ((2 ^ q.2.length - 1 : Nat) : Int) := by simp [fullMask, h]

set_option maxHeartbeats 800000 in
theorem fullMask_impl (cs : List Value) (x : DQ) (w : World) (h : rQ.rep w cs x) :
    Calls Try.prog 40 #[.agg cs.toArray] w fun e w' => e = .returned (.int .i64 (fullMask x)) ∧ Below w.heap.size w w' := by
  obtain ⟨ub, un, uc, rfl, hi, g1⟩ := rQ_open h
  have hl := (rS_sl g1).len
  clear g1 hi
  have hb0 : Below w.heap.size w w := Below.refl _ _
  go_enter Try.func40, Try.ntmps40
  obtain ⟨w1, hw1⟩ : ∃ W, W = w.alloc (.cells #[.int .i64 x.1, .slice ub un uc] 46) := ⟨_, rfl⟩
  have z1 : Below w.heap.size w w1 := by rw [hw1]; exact (Below.refl _ _).alloc (Nat.le_refl _) _
  have s1 : w1.heap.size = w.heap.size + 1 := by rw [hw1]; simp
  have hb1 := on hb0 z1
  have b_0 : w1.cell? ⟨w.heap.size, 0, none⟩ = some (.int .i64 x.1) := by rw [hw1]; exact box_cell (Below.refl _ _) rfl
  have b_1 : w1.cell? ⟨w.heap.size, 1, none⟩ = some (.slice ub un uc) := by rw [hw1]; exact box_cell (Below.refl _ _) rfl
  have raw1_b_0 := b_0
  have raw1_b_1 := b_1
  rw [hw1] at raw1_b_0 raw1_b_1
  go_wp2_with fail
  rw [← hw1]
  clear hw1
  clear raw1_b_0 raw1_b_1
  refine (validQ_impl _ x _ (rQ.mono h hb1)).mono ?_
  rintro e w2 ⟨rfl, z2⟩
  have s3 := z2.size
  have hb3 := on hb1 z2
  replace b_0 := (z2.cell (p := ⟨w.heap.size, 0, none⟩) (by simp only []; omega)).trans b_0
  replace b_1 := (z2.cell (p := ⟨w.heap.size, 1, none⟩) (by simp only []; omega)).trans b_1
  by_cases hv : validQ x = true
  case neg =>
    replace hv : validQ x = false := by simpa using hv
    have HE := Lib.hid (fullMask_no hv)
    clear hl
    go_wp2_with fail
    go_ret
    exact ⟨ret_int HE.out.symm, hb3⟩
  have h9 : un ≤ 16 := by obtain ⟨n, hq⟩ := QOk.of hv; have := hq.len; omega
  have HE := Lib.hid (show wrap64 (wrap64 ((2 : Int) ^ un) - 1) = fullMask x by rw [full_int h9, fullMask_yes hv, hl])
  clear hl
  go_wp2_with fail
  go_ret
  exact ⟨ret_int HE.out, hb3⟩

set_option maxHeartbeats 800000 in
theorem fullMask_spec (cs : List Value) (x : DQ) (w : World) (h : rQ.rep w cs x) :
    Calls Try.prog 41 #[.agg cs.toArray] w fun e w' => e = .returned (.int .i64 (fullMask x)) ∧ Below w.heap.size w w' := by
  obtain ⟨ub, un, uc, rfl, hi, g1⟩ := rQ_open h
  have hl := (rS_sl g1).len
  clear g1 hi
  have hb0 : Below w.heap.size w w := Below.refl _ _
  go_enter Try.func41, Try.ntmps41
  obtain ⟨w1, hw1⟩ : ∃ W, W = w.alloc (.cells #[.int .i64 x.1, .slice ub un uc] 46) := ⟨_, rfl⟩
  have z1 : Below w.heap.size w w1 := by rw [hw1]; exact (Below.refl _ _).alloc (Nat.le_refl _) _
  have s1 : w1.heap.size = w.heap.size + 1 := by rw [hw1]; simp
  have hb1 := on hb0 z1
  have b_0 : w1.cell? ⟨w.heap.size, 0, none⟩ = some (.int .i64 x.1) := by rw [hw1]; exact box_cell (Below.refl _ _) rfl
  have b_1 : w1.cell? ⟨w.heap.size, 1, none⟩ = some (.slice ub un uc) := by rw [hw1]; exact box_cell (Below.refl _ _) rfl
  have raw1_b_0 := b_0
  have raw1_b_1 := b_1
  rw [hw1] at raw1_b_0 raw1_b_1
  go_wp2_with fail
  rw [← hw1]
  clear hw1
  clear raw1_b_0 raw1_b_1
  refine (validQ_spec _ x _ (rQ.mono h hb1)).mono ?_
  rintro e w2 ⟨rfl, z2⟩
  have s3 := z2.size
  have hb3 := on hb1 z2
  replace b_0 := (z2.cell (p := ⟨w.heap.size, 0, none⟩) (by simp only []; omega)).trans b_0
  replace b_1 := (z2.cell (p := ⟨w.heap.size, 1, none⟩) (by simp only []; omega)).trans b_1
  by_cases hv : validQ x = true
  case neg =>
    replace hv : validQ x = false := by simpa using hv
    have HE := Lib.hid (fullMask_no hv)
    clear hl
    go_wp2_with fail
    go_ret
    exact ⟨ret_int HE.out.symm, hb3⟩
  have h9 : un ≤ 16 := by obtain ⟨n, hq⟩ := QOk.of hv; have := hq.len; omega
  have HE := Lib.hid (show wrap64 (wrap64 ((2 : Int) ^ un) - 1) = fullMask x by rw [full_int h9, fullMask_yes hv, hl])
  clear hl
  go_wp2_with fail
  go_ret
  exact ⟨ret_int HE.out, hb3⟩

set_option maxHeartbeats 800000 in
theorem maskOk_impl (cs : List Value) (x : DQ) (k : Int) (w : World) (h : rQ.rep w cs x) :
    Calls Try.prog 114 #[.agg cs.toArray, .int .i64 k] w fun e w' => e = .returned (.bool (maskOkB x k)) ∧ Below w.heap.size w w' := by
  obtain ⟨ub, un, uc, rfl, hi, g1⟩ := rQ_open h
  have hl := (rS_sl g1).len
  clear g1 hi
  have hb0 : Below w.heap.size w w := Below.refl _ _
  go_enter Try.func114, Try.ntmps114
  obtain ⟨w1, hw1⟩ : ∃ W, W = w.alloc (.cells #[.int .i64 x.1, .slice ub un uc] 46) := ⟨_, rfl⟩
  have z1 : Below w.heap.size w w1 := by rw [hw1]; exact (Below.refl _ _).alloc (Nat.le_refl _) _
  have s1 : w1.heap.size = w.heap.size + 1 := by rw [hw1]; simp
  have hb1 := on hb0 z1
  have b_0 : w1.cell? ⟨w.heap.size, 0, none⟩ = some (.int .i64 x.1) := by rw [hw1]; exact box_cell (Below.refl _ _) rfl
  have b_1 : w1.cell? ⟨w.heap.size, 1, none⟩ = some (.slice ub un uc) := by rw [hw1]; exact box_cell (Below.refl _ _) rfl
  have raw1_b_0 := b_0
  have raw1_b_1 := b_1
  rw [hw1] at raw1_b_0 raw1_b_1
  go_wp2_with fail
  rw [← hw1]
  clear hw1
  clear raw1_b_0 raw1_b_1
  refine (validQ_impl _ x _ (rQ.mono h hb1)).mono ?_
  rintro e w2 ⟨rfl, z2⟩
  have s3 := z2.size
  have hb3 := on hb1 z2
  replace b_0 := (z2.cell (p := ⟨w.heap.size, 0, none⟩) (by simp only []; omega)).trans b_0
  replace b_1 := (z2.cell (p := ⟨w.heap.size, 1, none⟩) (by simp only []; omega)).trans b_1
  by_cases hv : validQ x = true
  case neg =>
    replace hv : validQ x = false := by simpa using hv
    have HE := Lib.hid (show maskOkB x k = false by simp [maskOkB, hv])
    clear hl
    go_wp2_with fail
    go_ret
    exact ⟨ret_bool HE.out.symm, hb3⟩
  have h9 : un ≤ 16 := by obtain ⟨n, hq⟩ := QOk.of hv; have := hq.len; omega
  have HE := Lib.hid (show betw k 0 (wrap64 (wrap64 ((2 : Int) ^ un) - 1)) = maskOkB x k by rw [full_int h9, ← hl]; simp [maskOkB, hv])
  clear hl
  go_wp2_with fail
  refine (within_any _ _ _ _).mono ?_
  rintro e w' ⟨rfl, rfl⟩
  obtain ⟨t, ht⟩ : ∃ t, t = betw k 0 (wrap64 (wrap64 ((2 : Int) ^ un) - 1)) := ⟨_, rfl⟩
  rw [← ht] at HE ⊢
  clear ht
  go_wp2_with fail
  go_ret
  exact ⟨ret_bool HE.out, hb3⟩

set_option maxHeartbeats 800000 in
theorem maskOk_spec (cs : List Value) (x : DQ) (k : Int) (w : World) (h : rQ.rep w cs x) :
    Calls Try.prog 115 #[.agg cs.toArray, .int .i64 k] w fun e w' => e = .returned (.bool (maskOkB x k)) ∧ Below w.heap.size w w' := by
  obtain ⟨ub, un, uc, rfl, hi, g1⟩ := rQ_open h
  have hl := (rS_sl g1).len
  clear g1 hi
  have hb0 : Below w.heap.size w w := Below.refl _ _
  go_enter Try.func115, Try.ntmps115
  obtain ⟨w1, hw1⟩ : ∃ W, W = w.alloc (.cells #[.int .i64 x.1, .slice ub un uc] 46) := ⟨_, rfl⟩
  have z1 : Below w.heap.size w w1 := by rw [hw1]; exact (Below.refl _ _).alloc (Nat.le_refl _) _
  have s1 : w1.heap.size = w.heap.size + 1 := by rw [hw1]; simp
  have hb1 := on hb0 z1
  have b_0 : w1.cell? ⟨w.heap.size, 0, none⟩ = some (.int .i64 x.1) := by rw [hw1]; exact box_cell (Below.refl _ _) rfl
  have b_1 : w1.cell? ⟨w.heap.size, 1, none⟩ = some (.slice ub un uc) := by rw [hw1]; exact box_cell (Below.refl _ _) rfl
  have raw1_b_0 := b_0
  have raw1_b_1 := b_1
  rw [hw1] at raw1_b_0 raw1_b_1
  go_wp2_with fail
  rw [← hw1]
  clear hw1
  clear raw1_b_0 raw1_b_1
  refine (validQ_spec _ x _ (rQ.mono h hb1)).mono ?_
  rintro e w2 ⟨rfl, z2⟩
  have s3 := z2.size
  have hb3 := on hb1 z2
  replace b_0 := (z2.cell (p := ⟨w.heap.size, 0, none⟩) (by simp only []; omega)).trans b_0
  replace b_1 := (z2.cell (p := ⟨w.heap.size, 1, none⟩) (by simp only []; omega)).trans b_1
  by_cases hv : validQ x = true
  case neg =>
    replace hv : validQ x = false := by simpa using hv
    have HE := Lib.hid (show maskOkB x k = false by simp [maskOkB, hv])
    clear hl
    go_wp2_with fail
    go_ret
    exact ⟨ret_bool HE.out.symm, hb3⟩
  have h9 : un ≤ 16 := by obtain ⟨n, hq⟩ := QOk.of hv; have := hq.len; omega
  have HE := Lib.hid (show betw k 0 (wrap64 (wrap64 ((2 : Int) ^ un) - 1)) = maskOkB x k by rw [full_int h9, ← hl]; simp [maskOkB, hv])
  clear hl
  go_wp2_with fail
  refine (l1In_any _ _ _ _).mono ?_
  rintro e w' ⟨rfl, rfl⟩
  obtain ⟨t, ht⟩ : ∃ t, t = betw k 0 (wrap64 (wrap64 ((2 : Int) ^ un) - 1)) := ⟨_, rfl⟩
  rw [← ht] at HE ⊢
  clear ht
  go_wp2_with fail
  go_ret
  exact ⟨ret_bool HE.out, hb3⟩

end Go.Proofs.Ytbkoddikfpkocaa

/- Plain: keys, and the least ones. -/
namespace Go.Proofs.Ytbkoddikfpkocaa
open Go.RowKit
set_option linter.unusedVariables false
set_option linter.unusedSimpArgs false

/-- Whether all columns from place v on stand in a list. -/
def coverFrom (l : List Int) (n : Nat) : Nat → Nat → Bool
  | 0, _ => true
  | k + 1, v => has l (v : Int) && coverFrom l n k (v + 1)
/-- Whether all of n columns stand in a list. -/
def coverB (l : List Int) (n : Nat) : Bool := coverFrom l n n 0
theorem cover_at {l : List Int} {n v : Nat} (h : v < n) : coverFrom l n (n - v) v = (has l (v : Int) && coverFrom l n (n - (v + 1)) (v + 1)) := by
  rw [show n - v = (n - (v + 1)) + 1 by omega]; rfl
theorem cover_end {l : List Int} {n v : Nat} (h : n ≤ v) : coverFrom l n (n - v) v = true := by
  rw [show n - v = 0 by omega]; rfl
/-- IsKey. -/
def isKey (ds : List DDp) (t : DT) (cs : List Int) : Bool := colsT t cs && coverB (closure ds t.1 cs) t.2.1.toNat
/-- Whether a set of columns is a key. -/
def keyM (ds : List DDp) (t : DT) (m : Nat) : Bool := isKey ds t (bitsTo m 3)
/-- The sets below s that are least keys. -/
def minTo (key : Nat → Bool) : Nat → List Nat
  | 0 => []
  | s + 1 => if (minTo key s).all (fun k => !decide (k &&& s = k)) && key s then minTo key s ++ [s] else minTo key s
theorem minTo_yes {key : Nat → Bool} {s : Nat} (h : (minTo key s).all (fun k => !decide (k &&& s = k)) = true) (h' : key s = true) : minTo key (s + 1) = minTo key s ++ [s] := by
  rw [minTo, h, h']; rfl
theorem minTo_no1 {key : Nat → Bool} {s : Nat} (h : (minTo key s).all (fun k => !decide (k &&& s = k)) = false) : minTo key (s + 1) = minTo key s := by
  rw [minTo, h]; rfl
theorem minTo_no2 {key : Nat → Bool} {s : Nat} (h : key s = false) : minTo key (s + 1) = minTo key s := by
  rw [minTo, h, Bool.and_false]; rfl
theorem minTo_lt {key : Nat → Bool} : ∀ {s x : Nat}, x ∈ minTo key s → x < s
  | 0, x, h => by cases h
  | s + 1, x, h => by
    rw [minTo] at h
    split at h
    · rcases List.mem_append.1 h with h | h
      · have := minTo_lt h; omega
      · simp at h; omega
    · have := minTo_lt h; omega
theorem minTo_len {key : Nat → Bool} : ∀ s, (minTo key s).length ≤ s
  | 0 => by simp [minTo]
  | s + 1 => by
    have := minTo_len (key := key) s
    rw [minTo]
    split
    · simp; omega
    · omega
/-- A key below s has a least one within it. -/
theorem minTo_cover {key : Nat → Bool} : ∀ {s x : Nat}, x < s → key x = true → ∃ k ∈ minTo key s, k &&& x = k
  | 0, x, h, _ => by omega
  | s + 1, x, h, hk => by
    have keep : ∀ k, k ∈ minTo key s → k ∈ minTo key (s + 1) := fun k hk => by
      rw [minTo]; split
      · exact List.mem_append_left _ hk
      · exact hk
    by_cases e : x = s
    · subst e
      by_cases ha : (minTo key x).all (fun k => !decide (k &&& x = k)) = true
      · rw [minTo_yes ha hk]
        exact ⟨x, by simp, Nat.and_self x⟩
      · rw [Bool.not_eq_true, List.all_eq_false] at ha
        obtain ⟨k, h1, h2⟩ := ha
        exact ⟨k, keep k h1, by simpa using h2⟩
    · obtain ⟨k, h1, h2⟩ := minTo_cover (s := s) (by omega) hk
      exact ⟨k, keep k h1, h2⟩
theorem less_sub : ∀ s : Fin 8, ∀ k : Fin 3, bitAt s.val k.val = true → 2 ^ k.val ≤ s.val ∧ (s.val - 2 ^ k.val) &&& s.val = s.val - 2 ^ k.val := by decide
/-- The parts of s that lack one column, from column k on, none of them a key. -/
def partsFrom (key : Nat → Bool) (s n : Nat) : Nat → Nat → Bool
  | 0, _ => true
  | f + 1, k => (!bitAt s k || !key (s - 2 ^ k)) && partsFrom key s n f (k + 1)
theorem parts_at {key : Nat → Bool} {s n k : Nat} (h : k < n) : partsFrom key s n (n - k) k = ((!bitAt s k || !key (s - 2 ^ k)) && partsFrom key s n (n - (k + 1)) (k + 1)) := by
  rw [show n - k = (n - (k + 1)) + 1 by omega]; rfl
theorem parts_end {key : Nat → Bool} {s n k : Nat} (h : n ≤ k) : partsFrom key s n (n - k) k = true := by
  rw [show n - k = 0 by omega]; rfl
theorem parts_yes {key : Nat → Bool} {s n : Nat} (hs : s < 8) (hn : n ≤ 3) (h : (minTo key s).all (fun k => !decide (k &&& s = k)) = true) : ∀ f k, k + f ≤ n → partsFrom key s n f k = true
  | 0, k, _ => rfl
  | f + 1, k, hk => by
    rw [partsFrom, parts_yes hs hn h f (k + 1) (by omega), Bool.and_true]
    by_cases hb : bitAt s k = true
    · rw [hb, Bool.not_true, Bool.false_or]
      cases hkey : key (s - 2 ^ k) with
      | false => rfl
      | true =>
        obtain ⟨h1, h2⟩ := less_sub ⟨s, hs⟩ ⟨k, by omega⟩ hb
        simp only at h1 h2
        obtain ⟨x, hx, hxs⟩ := minTo_cover (key := key) (s := s) (x := s - 2 ^ k) (by have := Nat.two_pow_pos k; omega) hkey
        have h3 := List.all_eq_true.1 h x hx
        have h4 : x &&& s = x := sub_trans hxs h2
        simp [h4] at h3
    · simp [hb]
/-- MinimalKeys. -/
def minKeys (ds : List DDp) (t : DT) : List (List Int) := if validT t then (minTo (keyM ds t) (2 ^ t.2.1.toNat)).map (fun m => bitsTo m 3) else []
theorem minKeys_len (ds : List DDp) (t : DT) : (minKeys ds t).length ≤ 8 := by
  unfold minKeys
  split
  · rename_i h
    have hA := (TOk.of h).ar
    have h1 := minTo_len (key := keyM ds t) (2 ^ t.2.1.toNat)
    have h2 : 2 ^ t.2.1.toNat ≤ 8 := Nat.le_trans (Nat.pow_le_pow_right (by omega) (show t.2.1.toNat ≤ 3 by omega)) (by decide)
    simp only [List.length_map]; omega
  · simp

end Go.Proofs.Ytbkoddikfpkocaa

/- Contracts: the variables of a mask. -/
namespace Go.Proofs.Ytbkoddikfpkocaa
open Go.RowKit
set_option linter.unusedVariables false
set_option linter.unusedSimpArgs false
set_option synthInstance.maxSize 2000
set_option synthInstance.maxHeartbeats 400000

set_option maxHeartbeats 1000000 in
theorem l7Bits_any (cs : List Value) (x : DQ) (K n : Nat) (w : World) (h : rQ.rep w cs x) (hq : QOk x n) (hK : K < 16) :
    Calls Try.prog 177 #[.agg cs.toArray, .int .i64 K] w fun e w' => e = .returned (.int .i64 (bitsOf x K)) ∧ Below w.heap.size w w' := by
  obtain ⟨ub, un, uc, rfl, hi, g1⟩ := rQ_open h
  clear h hi
  obtain ⟨i, xs⟩ := x
  simp only at g1
  have t0 := rS_sl g1
  have hl := t0.len
  have hn4 := hq.le
  have hl4 := hq.len
  simp only at hl4
  have hun : un ≤ 4 := by omega
  have HQ := Lib.hid hq
  have HB := Lib.hid (show bitsOf (i, xs) K = qbits K 0 0 (xs.drop 0) by simp [bitsOf])
  clear hq hl4
  have hb0 : Below w.heap.size w w := Below.refl _ _
  go_enter Try.func177, Try.ntmps177
  obtain ⟨w1, hw1⟩ : ∃ W, W = w.alloc (.cells #[.int .i64 i, .slice ub un uc] 46) := ⟨_, rfl⟩
  have z1 : Below w.heap.size w w1 := by rw [hw1]; exact (Below.refl _ _).alloc (Nat.le_refl _) _
  have s1 : w1.heap.size = w.heap.size + 1 := by rw [hw1]; simp
  have hb1 := on hb0 z1
  have b_0 : w1.cell? ⟨w.heap.size, 0, none⟩ = some (.int .i64 i) := by rw [hw1]; exact box_cell (Below.refl _ _) rfl
  have b_1 : w1.cell? ⟨w.heap.size, 1, none⟩ = some (.slice ub un uc) := by rw [hw1]; exact box_cell (Below.refl _ _) rfl
  have raw1_b_0 := b_0
  have raw1_b_1 := b_1
  rw [hw1] at raw1_b_0 raw1_b_1
  go_wp2_with fail
  rw [← hw1]
  clear hw1
  clear raw1_b_0 raw1_b_1
  go_loopw [5, 6] (fun s k wr => ∃ j m : Nat, j ≤ un ∧ m < 2 ^ n ∧ k = .int .i64 j ∧ s = .int .i64 m ∧ Hid (bitsOf (i, xs) K = qbits K m j (xs.drop j)) ∧ Drew w1 wr) (fun _ k _ => un - (intOf k).toNat)
  case atStart => exact ⟨0, 0, Nat.zero_le _, Nat.two_pow_pos _, rfl, rfl, HB.out, Drew.refl _⟩
  case round =>
    obtain ⟨j, m, hj, hm, rfl, rfl, hE, hdr⟩ := hrel
    obtain ⟨wo, rfl⟩ : ∃ W, W = wr := ⟨_, rfl⟩
    have hlc := hdr
    replace hdr : Below w1.heap.size w1 wo := hdr.below _
    have s2 := hdr.size
    have hb2 := on hb1 hdr
    replace b_0 := (hdr.cell (p := ⟨w.heap.size, 0, none⟩) (by simp only []; omega)).trans b_0
    replace b_1 := (hdr.cell (p := ⟨w.heap.size, 1, none⟩) (by simp only []; omega)).trans b_1
    by_cases hlt : j < un
    · obtain ⟨b1, o1, cs, x, rfl, hx, hr, hc⟩ := t0.at hlt
      obtain ⟨s, vs⟩ := x
      obtain ⟨vb, vn, vc, rfl, hs, g2⟩ := rA_open hr
      simp only at hs g2
      have i0 := rI_ints g2
      have hvl := i0.len
      have hvs := i0.small
      have e_lt : b1 < w.heap.size := cell_lt (hc 0 _ rfl)
      have e_0 : wo.cell? ⟨b1, o1 + j * 2, none⟩ = some (.string s) := (hb2.cell (p := ⟨b1, o1 + j * 2, none⟩) e_lt).trans (by have h9 := hc 0 _ rfl; rw [← Nat.add_assoc] at h9; exact h9)
      have e_1 : wo.cell? ⟨b1, o1 + j * 2 + 1, none⟩ = some (.slice vb vn vc) := (hb2.cell (p := ⟨b1, o1 + j * 2 + 1, none⟩) e_lt).trans (by have h9 := hc 1 _ rfl; rw [← Nat.add_assoc] at h9; exact h9)
      have HA := Lib.hid (hE.out.trans (qbits_at hx.out))
      have HV := Lib.hid (HQ.out.vars _ (List.mem_of_getElem? hx.out))
      clear hc t0 hr hl hx hE HB
      simp only at HA HV
      have hbt := bit_test K j (by omega)
      cases hb : bitAt K j with
      | true =>
        rw [hb] at HA hbt
        replace HA : Hid (bitsOf (i, xs) K = qbits K (vbits m (vs.drop 0)) (j + 1) (xs.drop (j + 1))) := Lib.hid (by rw [HA.out]; simp)
        clear hb
        go_wp2_with fail
        go_loopw [5, 7] (fun s k wr => ∃ i' m : Nat, i' ≤ vn ∧ m < 2 ^ n ∧ k = .int .i64 i' ∧ s = .int .i64 m ∧ Hid (bitsOf (i, xs) K = qbits K (vbits m (vs.drop i')) (j + 1) (xs.drop (j + 1))) ∧ Drew wo wr) (fun _ k _ => vn - (intOf k).toNat)
        case atStart => exact ⟨0, m, Nat.zero_le _, hm, rfl, rfl, HA.out, Drew.refl _⟩
        case round =>
          obtain ⟨i', m, hi, hm, rfl, rfl, hE, hdr⟩ := hrel
          have hlo := hdr
          replace hdr : Below wo.heap.size wo wr := hdr.below _
          have s3 := hdr.size
          have hb3 := on hb2 hdr
          replace b_0 := (hdr.cell (p := ⟨w.heap.size, 0, none⟩) (by simp only []; omega)).trans b_0
          replace b_1 := (hdr.cell (p := ⟨w.heap.size, 1, none⟩) (by simp only []; omega)).trans b_1
          replace e_0 := (hdr.cell (p := ⟨b1, o1 + j * 2, none⟩) (by simp only []; omega)).trans e_0
          replace e_1 := (hdr.cell (p := ⟨b1, o1 + j * 2 + 1, none⟩) (by simp only []; omega)).trans e_1
          have hm16 := pow_le16 hn4
          by_cases hlv : i' < vn
          · obtain ⟨b2, o2, v, rfl, hc, hv, hv1, hv2⟩ := i0.get hlv
            have v0_lt : b2 < w.heap.size := cell_lt hc
            have v0 : wr.cell? ⟨b2, o2 + i', none⟩ = some (.int .i64 v) := (hb3.cell (p := ⟨b2, o2 + i', none⟩) v0_lt).trans hc
            clear hc
            have hvr := HV.out v (by rw [← hv.out]; exact List.getD_eq_getElem?_getD (l := vs) ▸ (by rw [List.getElem?_eq_getElem (by omega)]; exact List.getElem_mem _))
            obtain ⟨v, rfl⟩ := Int.eq_ofNat_of_zero_le hvr.1
            have hvn : v < n := by omega
            have HE := Lib.hid (hE.out.trans (show _ = qbits K (vbits (m ||| 2 ^ v) (vs.drop (i' + 1))) (j + 1) (xs.drop (j + 1)) by rw [vbits_at (by omega) hv.out]))
            have hmo := or_lt hm hvn
            clear i0 hvl hvr hv hE
            go_wp2_with fail
            go_roundw
            case rel => exact ⟨i' + 1, m ||| 2 ^ v, by omega, hmo, by go_num, by show Value.int _ _ = _; rw [or_pow (by omega) (by omega)], HE.out, hlo⟩
            case measure => simp [intOf]; omega
          · have HE := Lib.hid (show bitsOf (i, xs) K = qbits K m (j + 1) (xs.drop (j + 1)) by rw [hE.out, vbits_end (by omega)])
            clear i0 hvl hE
            go_wp2_with fail
            go_roundw
            case rel => exact ⟨j + 1, m, by omega, hm, by go_num, rfl, HE.out, hlc.trans hlo⟩
            case measure => simp [intOf]; omega
      | false =>
        rw [hb] at HA hbt
        replace HA : Hid (bitsOf (i, xs) K = qbits K m (j + 1) (xs.drop (j + 1))) := Lib.hid (by rw [HA.out]; simp)
        clear hb
        go_wp2_with fail
        go_loopw [5, 7] (fun s k wr => k = .int .i64 0 ∧ s = .int .i64 m ∧ wr = wo) (fun _ _ _ => 0)
        case atStart => exact ⟨rfl, rfl, rfl⟩
        case round =>
          obtain ⟨rfl, rfl, rfl⟩ := hrel
          clear i0 hvl
          by_cases hv0 : 0 < vn
          all_goals
            go_wp2_with fail
            go_roundw
            case rel => exact ⟨j + 1, m, by omega, hm, by go_num, rfl, HA.out, hlc⟩
            case measure => simp [intOf]; omega
    · have HE := Lib.hid (hE.out.trans (qbits_end (by omega)))
      clear t0 hl hE HB
      go_wp2_with fail
      go_ret
      exact ⟨ret_int (by rw [HE.out]), hb2⟩

set_option maxHeartbeats 1000000 in
theorem l7List_any (M : Nat) (w : World) (hM : M < 16) :
    Calls Try.prog 176 #[.int .i64 M] w fun e w' => ∃ b n c, e = .returned (.slice b n c) ∧ OwnInts w.heap.size w' (.slice b n c) n (bitsTo M 4) ∧ Below w.heap.size w w' := by
  go_enter Try.func176, Try.ntmps176
  go_wp2
  go_loopw [3, 4] (fun v i wr => ∃ (j : Nat), j ≤ 4 ∧ i = .int .i64 j ∧ ∃ n, OwnInts w.heap.size wr v n (bitsTo M j) ∧ Below w.heap.size w wr) (fun _ i _ => 4 - (intOf i).toNat)
  case atStart => exact ⟨0, Nat.zero_le _, rfl, 0, own_empty (Nat.le_refl _), (Below.refl _ _).alloc (Nat.le_refl _) _⟩
  case round =>
    obtain ⟨j, hj, rfl, n, hown, hbl⟩ := hrel
    have hsz := hbl.size
    have hn4 : n ≤ 4 := by have := hown.len; have := bitsTo_len M j; omega
    by_cases hlt : j < 4
    · cases hbit : bitAt M j with
      | true =>
        have ht := bit_test M j (by omega)
        rw [hbit] at ht
        have HB := Lib.hid hbit
        clear hbit
        go_wp2_with ((at_builtin; refine wpList_app1 _ _ _ _ _ _ hown hbl hsz ⟨by omega, by omega⟩ (by omega) rfl rfl rfl rfl ?_; intro v' w1 hown' hb' hsz'))
        rw [← bitsTo_yes HB.out] at hown'
        go_roundw
        case rel => exact ⟨j + 1, by omega, by go_num, n + 1, hown', hb'⟩
        case measure => simp [intOf]; omega
      | false =>
        have ht := bit_test M j (by omega)
        rw [hbit] at ht
        rw [← bitsTo_no hbit] at hown
        have HO := Lib.hid hown
        clear hbit hown
        go_wp2_with fail
        go_roundw
        case rel => exact ⟨j + 1, by omega, by go_num, n, HO.out, hbl⟩
        case measure => simp [intOf]; omega
    · obtain rfl : j = 4 := by omega
      obtain ⟨a, cap, rfl, _⟩ := own_form hown.row
      go_wp2
      go_ret
      exact ⟨_, _, _, rfl, hown, hbl⟩

set_option maxHeartbeats 1000000 in
theorem maskVars_spec (cs : List Value) (x : DQ) (k : Int) (w : World) (h : rQ.rep w cs x) :
    Calls Try.prog 118 #[.agg cs.toArray, .int .i64 k] w fun e w' => ∃ u, e = .returned u ∧ Own oI w.heap.size w'.heap.size w' [u] (maskVars x k) ∧ Below w.heap.size w w' := by
  obtain ⟨ub, un, uc, rfl⟩ := rQ_form h
  have hb0 : Below w.heap.size w w := Below.refl _ _
  go_enter Try.func118, Try.ntmps118
  obtain ⟨w1, hw1⟩ : ∃ W, W = w.alloc (.cells #[.int .i64 x.1, .slice ub un uc] 46) := ⟨_, rfl⟩
  have z1 : Below w.heap.size w w1 := by rw [hw1]; exact (Below.refl _ _).alloc (Nat.le_refl _) _
  have s1 : w1.heap.size = w.heap.size + 1 := by rw [hw1]; simp
  have hb1 := on hb0 z1
  have b_0 : w1.cell? ⟨w.heap.size, 0, none⟩ = some (.int .i64 x.1) := by rw [hw1]; exact box_cell (Below.refl _ _) rfl
  have b_1 : w1.cell? ⟨w.heap.size, 1, none⟩ = some (.slice ub un uc) := by rw [hw1]; exact box_cell (Below.refl _ _) rfl
  have raw1_b_0 := b_0
  have raw1_b_1 := b_1
  rw [hw1] at raw1_b_0 raw1_b_1
  go_wp2_with fail
  rw [← hw1]
  clear hw1
  clear raw1_b_0 raw1_b_1
  refine (maskOk_spec _ x k _ (rQ.mono h hb1)).mono ?_
  rintro e w2 ⟨rfl, z2⟩
  have s3 := z2.size
  have hb3 := on hb1 z2
  replace b_0 := (z2.cell (p := ⟨w.heap.size, 0, none⟩) (by simp only []; omega)).trans b_0
  replace b_1 := (z2.cell (p := ⟨w.heap.size, 1, none⟩) (by simp only []; omega)).trans b_1
  by_cases hv : maskOkB x k = true
  case neg =>
    replace hv : maskOkB x k = false := by simpa using hv
    have HE := Lib.hid (maskVars_no hv)
    go_wp2_with fail
    go_ret
    exact ⟨_, rfl, by rw [HE.out]; exact ((own_empty (Nat.le_refl _)).own).mono (by omega) (Nat.le_refl _), hb3.trans ((Below.refl _ _).alloc (by omega) _)⟩
  obtain ⟨K, rfl, hK⟩ := maskOkB_lt hv
  obtain ⟨n, hq⟩ := QOk.of (maskOkB_valid hv)
  have HE := Lib.hid (maskVars_yes hv)
  have HK := pow_le16 hq.len
  have hK16 : K < 16 := by omega
  clear hK HK
  go_wp2_with fail
  refine (l7Bits_any _ x K n _ (rQ.mono h hb3) hq hK16).mono ?_
  rintro e w4 ⟨rfl, z4⟩
  have s5 := z4.size
  have hb5 := on hb3 z4
  replace b_0 := (z4.cell (p := ⟨w.heap.size, 0, none⟩) (by simp only []; omega)).trans b_0
  replace b_1 := (z4.cell (p := ⟨w.heap.size, 1, none⟩) (by simp only []; omega)).trans b_1
  have hb16 : bitsOf x K < 16 := Nat.lt_of_lt_of_le (hq.bits_lt K) (pow_le16 hq.le)
  have HQ := Lib.hid hq
  clear hq
  go_wp2_with fail
  refine (l7List_any _ _ hb16).mono ?_
  rintro e w9 ⟨b, n9, c, rfl, ho, z9⟩
  have s6 := z9.size
  have hb6 := on hb5 z9
  replace b_0 := (z9.cell (p := ⟨w.heap.size, 0, none⟩) (by simp only []; omega)).trans b_0
  replace b_1 := (z9.cell (p := ⟨w.heap.size, 1, none⟩) (by simp only []; omega)).trans b_1
  go_wp2_with fail
  go_ret
  exact ⟨_, rfl, by rw [HE.out]; exact ho.own.mono (by omega) (Nat.le_refl _), hb6⟩

end Go.Proofs.Ytbkoddikfpkocaa

/- Contracts: the variables of a mask, by the program; shared variables. -/
namespace Go.Proofs.Ytbkoddikfpkocaa
open Go.RowKit
set_option linter.unusedVariables false
set_option linter.unusedSimpArgs false
set_option synthInstance.maxSize 2000
set_option synthInstance.maxHeartbeats 400000

theorem own_empty' {B : Nat} {W : World} {g : Nat} (hB : B ≤ W.heap.size) (hg : W.heap.size = g) : OwnInts B (W.alloc (.cells #[] 3)) (.slice (some ⟨g, 0, none⟩) 0 0) 0 [] := by
  subst hg; exact own_empty hB

theorem wpList_app1g {B : Nat} {w0 W : World} {ops : Array Oper} {rest : List Oper} {o : Oper} {a : Act} {Q : Exit → Act → World → Prop}
    (s x : Operand) (v : Value) (n g : Nat) (xs : List Int) (u : Int)
    (hown : OwnInts B W v n xs) (hb : Below B w0 W) (hB : B ≤ W.heap.size) (hu : I64 u) (hn : n ≤ 1000000000000) (hg : W.heap.size = g)
    (hgd : o.guard = none) (ho : o.op = .call { callee := .builtin .append, args := #[s, x], argTypes := #[24, 24] })
    (hs : a.eval s = v) (hx : a.eval x = .slice (some ⟨g, 0, none⟩) 1 1)
    (h : ∀ v' w', OwnInts B w' v' (n + 1) (xs ++ [u]) → Below B w0 w' → B ≤ w'.heap.size → wpList Try.prog ops Q rest (a.put o.dst v') w') :
    wpList Try.prog ops Q (o :: rest) a (W.alloc (.cells #[.int .i64 u] 3)) := by
  subst hg
  exact wpList_app1 s x v n xs u hown hb hB hu hn hgd ho hs hx h

set_option maxHeartbeats 2000000 in
theorem variables_any (cs : List Value) (x : DQ) (K n : Nat) (w : World) (h : rQ.rep w cs x) (hq : QOk x n) (hK : K < 16) :
    Calls Try.prog 178 #[.agg cs.toArray, .int .i64 K] w fun e w' => ∃ u, e = .returned u ∧ Own oI w.heap.size w'.heap.size w' [u] (varsOf x K) ∧ Below w.heap.size w w' := by
  obtain ⟨ub, un, uc, rfl, hi, g1⟩ := rQ_open h
  clear h hi
  obtain ⟨i, xs⟩ := x
  simp only at g1
  have t0 := rS_sl g1
  have hl := t0.len
  have hn4 := hq.le
  have hl4 := hq.len
  have hcnt := hq.cnt
  simp only at hl4 hcnt
  subst hcnt
  have hun : un ≤ 4 := by omega
  have HQ := Lib.hid hq
  obtain ⟨M, hM⟩ : ∃ M, M = bitsOf ((n : Int), xs) K := ⟨_, rfl⟩
  have HV := Lib.hid (show bitsTo M n = varsOf ((n : Int), xs) K by rw [hq.varsOf K, hM])
  have HS := Lib.hid (show ∀ v, bitAt M v = someFrom K v 0 (xs.drop 0) by intro v; rw [hM]; exact hq.some K v)
  clear hq hl4 hM
  have hb0 : Below w.heap.size w w := Below.refl _ _
  go_enter Try.func178, Try.ntmps178
  obtain ⟨w1, hw1⟩ : ∃ W, W = w.alloc (.cells #[.int .i64 n, .slice ub un uc] 46) := ⟨_, rfl⟩
  have z1 : Below w.heap.size w w1 := by rw [hw1]; exact (Below.refl _ _).alloc (Nat.le_refl _) _
  have s1 : w1.heap.size = w.heap.size + 1 := by rw [hw1]; simp
  have hb1 := on hb0 z1
  have b_0 : w1.cell? ⟨w.heap.size, 0, none⟩ = some (.int .i64 n) := by rw [hw1]; exact box_cell (Below.refl _ _) rfl
  have b_1 : w1.cell? ⟨w.heap.size, 1, none⟩ = some (.slice ub un uc) := by rw [hw1]; exact box_cell (Below.refl _ _) rfl
  have raw1_b_0 := b_0
  have raw1_b_1 := b_1
  rw [hw1] at raw1_b_0 raw1_b_1
  go_wp2_with fail
  rw [← hw1]
  clear hw1
  clear raw1_b_0 raw1_b_1
  go_loopw [5, 6] (fun s k wr => ∃ j q : Nat, j ≤ n ∧ k = .int .i64 j ∧ OwnInts w1.heap.size wr s q (bitsTo M j) ∧ Below w1.heap.size w1 wr) (fun _ k _ => n - (intOf k).toNat)
  case atStart => exact ⟨0, 0, Nat.zero_le _, rfl, own_empty' (Nat.le_refl _) (by omega), (Below.refl _ _).alloc (Nat.le_refl _) _⟩
  case round =>
    obtain ⟨j, q, hj, rfl, hown, hdr⟩ := hrel
    obtain ⟨wo, rfl⟩ : ∃ W, W = wr := ⟨_, rfl⟩
    have hlc := hdr
    have s2 := hdr.size
    have hb2 := on hb1 hdr
    replace b_0 := (hdr.cell (p := ⟨w.heap.size, 0, none⟩) (by simp only []; omega)).trans b_0
    replace b_1 := (hdr.cell (p := ⟨w.heap.size, 1, none⟩) (by simp only []; omega)).trans b_1
    have hq4 : q ≤ 4 := by have := hown.len; have := bitsTo_len M j; omega
    by_cases hlt : j < n
    · go_wp2_with fail
      obtain ⟨a, cap, rfl, hqs, hqa⟩ := own_form hown.row
      go_loopw [5, 19] (fun s k wr => ∃ i' : Nat, i' ≤ un ∧ k = .int .i64 i' ∧ s = .slice a q cap ∧ Hid (bitAt M j = someFrom K j i' (xs.drop i')) ∧ Below wo.heap.size wo wr) (fun _ k _ => un - (intOf k).toNat)
      case atStart => exact ⟨0, Nat.zero_le _, rfl, rfl, HS.out j, Below.refl _ _⟩
      case round =>
        obtain ⟨i', hi, rfl, rfl, hE, hdr⟩ := hrel
        have hld := hdr
        have s3 := hdr.size
        have hb3 := on hb2 hdr
        replace b_0 := (hdr.cell (p := ⟨w.heap.size, 0, none⟩) (by simp only []; omega)).trans b_0
        replace b_1 := (hdr.cell (p := ⟨w.heap.size, 1, none⟩) (by simp only []; omega)).trans b_1
        replace hlc := on hlc hdr
        replace hown := hown.below hdr
        by_cases hlv : i' < un
        · obtain ⟨b1, o1, cs, x, rfl, hx, hr, hc⟩ := t0.at hlv
          obtain ⟨s, vs⟩ := x
          obtain ⟨vb, vn, vc, rfl, hs, g2⟩ := rA_open hr
          simp only at hs g2
          have e_lt : b1 < w.heap.size := cell_lt (hc 0 _ rfl)
          have e_0 : wr.cell? ⟨b1, o1 + i' * 2, none⟩ = some (.string s) := (hb3.cell (p := ⟨b1, o1 + i' * 2, none⟩) e_lt).trans (by have h9 := hc 0 _ rfl; rw [← Nat.add_assoc] at h9; exact h9)
          have e_1 : wr.cell? ⟨b1, o1 + i' * 2 + 1, none⟩ = some (.slice vb vn vc) := (hb3.cell (p := ⟨b1, o1 + i' * 2 + 1, none⟩) e_lt).trans (by have h9 := hc 1 _ rfl; rw [← Nat.add_assoc] at h9; exact h9)
          have HA := Lib.hid (hE.out.trans (someFrom_at hx.out))
          clear hc t0 hr hl hx hE HV HS
          simp only at HA
          obtain ⟨w4, hw4⟩ : ∃ W, W = wr.alloc (.cells #[.string s, .slice vb vn vc] 161) := ⟨_, rfl⟩
          have z4 : Below wr.heap.size wr w4 := by rw [hw4]; exact (Below.refl _ _).alloc (Nat.le_refl _) _
          have s4 : w4.heap.size = wr.heap.size + 1 := by rw [hw4]; simp
          have hb4 := on hb3 z4
          have old4_b_0 := b_0
          have old4_b_1 := b_1
          have old4_e_0 := e_0
          have old4_e_1 := e_1
          replace b_0 := (z4.cell (p := ⟨w.heap.size, 0, none⟩) (by simp only []; omega)).trans b_0
          replace b_1 := (z4.cell (p := ⟨w.heap.size, 1, none⟩) (by simp only []; omega)).trans b_1
          replace hlc := on hlc z4
          replace hown := hown.below z4
          replace hld := on hld z4
          replace e_0 := (z4.cell (p := ⟨b1, o1 + i' * 2, none⟩) (by simp only []; omega)).trans e_0
          replace e_1 := (z4.cell (p := ⟨b1, o1 + i' * 2 + 1, none⟩) (by simp only []; omega)).trans e_1
          have p_0 : w4.cell? ⟨wr.heap.size, 0, none⟩ = some (.string s) := by rw [hw4]; exact box_cell (Below.refl _ _) rfl
          have p_1 : w4.cell? ⟨wr.heap.size, 1, none⟩ = some (.slice vb vn vc) := by rw [hw4]; exact box_cell (Below.refl _ _) rfl
          have raw4_b_0 := b_0
          have raw4_b_1 := b_1
          have raw4_e_0 := e_0
          have raw4_e_1 := e_1
          have raw4_p_0 := p_0
          have raw4_p_1 := p_1
          rw [hw4] at raw4_b_0 raw4_b_1 raw4_e_0 raw4_e_1 raw4_p_0 raw4_p_1
          have hbt := bit_test K i' (by omega)
          have hlt2 : (j : Int) < n := by omega
          cases hb : bitAt K i' with
          | true =>
            rw [hb] at HA hbt
            have i0 := (rI_ints g2).below hb4
            clear hb
            go_wp2_with fail
            rw [← hw4]
            clear hw4
            clear old4_b_0 old4_b_1 old4_e_0 old4_e_1 raw4_b_0 raw4_b_1 raw4_e_0 raw4_e_1 raw4_p_0 raw4_p_1
            refine (contains_any _ _ _ _ _ _ i0).mono ?_
            rintro e w' ⟨rfl, rfl⟩
            obtain ⟨t, ht⟩ : ∃ t, t = has vs (j : Int) := ⟨_, rfl⟩
            rw [← ht] at HA ⊢
            clear ht i0
            cases t with
            | true =>
              have HB := Lib.hid (bitsTo_yes (show bitAt M j = true by rw [HA.out]; simp))
              have hsz := hlc.size
              go_wp2_with ((at_builtin; refine wpList_app1g _ _ _ _ _ _ _ hown hlc hsz ⟨by omega, by omega⟩ (by omega) (by omega) rfl rfl rfl rfl ?_; intro v' w9 hown' hb' hsz'))
              rw [← HB.out] at hown'
              go_roundw
              case rel => exact ⟨j + 1, q + 1, by omega, by go_num, hown', hb'⟩
              case measure => simp [intOf]; omega
            | false =>
              have HE := Lib.hid (show bitAt M j = someFrom K j (i' + 1) (xs.drop (i' + 1)) by rw [HA.out]; simp)
              go_wp2_with fail
              go_roundw
              case rel => exact ⟨i' + 1, by omega, by go_num, rfl, HE.out, hld⟩
              case measure => simp [intOf]; omega
          | false =>
            rw [hb] at HA hbt
            have HE := Lib.hid (show bitAt M j = someFrom K j (i' + 1) (xs.drop (i' + 1)) by rw [HA.out]; simp)
            clear hb HA
            go_wp2_with fail
            rw [← hw4]
            clear hw4
            clear old4_b_0 old4_b_1 old4_e_0 old4_e_1 raw4_b_0 raw4_b_1 raw4_e_0 raw4_e_1 raw4_p_0 raw4_p_1
            go_roundw
            case rel => exact ⟨i' + 1, by omega, by go_num, rfl, HE.out, hld⟩
            case measure => simp [intOf]; omega
        · rw [← bitsTo_no (hE.out.trans (someFrom_end (by omega)))] at hown
          have HO := Lib.hid hown
          clear t0 hl hE hown
          go_wp2_with fail
          go_roundw
          case rel => exact ⟨j + 1, q, by omega, by go_num, HO.out, hlc⟩
          case measure => simp [intOf]; omega
    · obtain rfl : j = n := by omega
      obtain ⟨a, cap, rfl, _⟩ := own_form hown.row
      rw [HV.out] at hown
      have HO := Lib.hid (show Own oI w.heap.size wo.heap.size wo [.slice a q cap] _ from hown.own.mono (by omega) (Nat.le_refl _))
      clear t0 hl hown
      go_wp2_with fail
      go_ret
      exact ⟨_, rfl, HO.out, hb2⟩

theorem maskVars_cnt (q : DQ) (k : Int) : cnt_I (maskVars q k) ≤ 4 := maskVars_len q k

set_option maxHeartbeats 1000000 in
theorem both_any (u v : Value) (xs ys : List Int) (w : World) (h : rI.rep w [u] xs) (h' : rI.rep w [v] ys) (hn : xs.length ≤ 1048576) :
    Calls Try.prog 179 #[u, v] w fun e w' => ∃ u, e = .returned u ∧ Own oI w.heap.size w'.heap.size w' [u] (both xs ys) ∧ Below w.heap.size w w' := by
  obtain ⟨a, cap, rfl, _, _, hi⟩ := rI_open h
  obtain ⟨a', cap', rfl, _, _, hi'⟩ := rI_open h'
  clear h h'
  obtain ⟨n, hl⟩ : ∃ n, xs.length = n := ⟨_, rfl⟩
  rw [hl] at hi hn ⊢
  go_enter Try.func179, Try.ntmps179
  go_wp2
  go_loopw [5, 11] (fun v i wr => ∃ (j : Nat), j ≤ n ∧ i = .int .i64 j ∧ ∃ q, OwnInts w.heap.size wr v q (both (xs.take j) ys) ∧ Below w.heap.size w wr) (fun _ i _ => n - (intOf i).toNat)
  case atStart => exact ⟨0, Nat.zero_le _, rfl, 0, by rw [List.take_zero]; exact own_empty (Nat.le_refl _), (Below.refl _ _).alloc (Nat.le_refl _) _⟩
  case round =>
    obtain ⟨j, hj, rfl, q, hown, hbl⟩ := hrel
    have hsz := hbl.size
    replace hi := hi.below hbl
    replace hi' := hi'.below hbl
    have hq : q ≤ 1048576 := by have := hown.len; have := both_len (xs.take j) ys; have : (xs.take j).length ≤ j := List.length_take_le _ _; omega
    by_cases hlt : j < n
    · obtain ⟨b1, off, x, rfl, hc, hx, hx1, hx2⟩ := hi.get hlt
      have hcall := contains_any _ _ cap' _ x _ hi'
      obtain ⟨t, ht⟩ : ∃ t, t = has ys x := ⟨_, rfl⟩
      rw [← ht] at hcall
      have HC := Lib.hid hcall
      clear hcall
      cases t with
      | true =>
        have HB := Lib.hid (both_yes (show j < xs.length by omega) hx.out ht.symm)
        clear ht hi hl
        go_wp2_with (first
          | (go_at_call 124; refine (HC.out).mono ?_; rintro e w' ⟨rfl, rfl⟩)
          | (at_builtin; refine wpList_app1 _ _ _ _ _ _ hown hbl hsz ⟨by omega, by omega⟩ (by omega) rfl rfl rfl rfl ?_; intro v' w1 hown' hb' hsz'))
        rw [← HB.out] at hown'
        go_roundw
        case rel => exact ⟨j + 1, by omega, by go_num, q + 1, hown', hb'⟩
        case measure => simp [intOf]; omega
      | false =>
        rw [← both_no (show j < xs.length by omega) hx.out ht.symm] at hown
        have HO := Lib.hid hown
        clear ht hi hl hown
        go_wp2_with (first
          | (go_at_call 124; refine (HC.out).mono ?_; rintro e w' ⟨rfl, rfl⟩))
        go_roundw
        case rel => exact ⟨j + 1, by omega, by go_num, q, HO.out, hbl⟩
        case measure => simp [intOf]; omega
    · obtain rfl : j = n := by omega
      obtain ⟨a', cap2, rfl, _⟩ := own_form hown.row
      rw [both_end (by omega)] at hown
      have HO := Lib.hid hown
      clear hown hi hi' hl
      go_wp2
      go_ret
      exact ⟨_, rfl, HO.out.own, hbl⟩

end Go.Proofs.Ytbkoddikfpkocaa

/- Contracts: closures of columns, by the program. -/
namespace Go.Proofs.Ytbkoddikfpkocaa
open Go.RowKit
set_option linter.unusedVariables false
set_option linter.unusedSimpArgs false
set_option synthInstance.maxSize 2000
set_option synthInstance.maxHeartbeats 400000

theorem isColumn_any (x : Int) (w : World) :
    Calls Try.prog 125 #[.int .i64 x] w fun e w' => e = .returned (.bool (betw x 0 2)) ∧ w = w' := by
  go_enter Try.func125, Try.ntmps125
  go_wp2_with (refine (within_any _ _ _ _).mono ?_; rintro e w' ⟨rfl, rfl⟩)
  go_ret
  exact ⟨rfl, rfl⟩
theorem colFn_any (x : Int) (w : World) :
    Calls Try.prog 127 #[.int .i64 x] w fun e w' => e = .returned (.bool (!betw x 0 2)) ∧ w = w' := by
  go_enter Try.func127, Try.ntmps127
  go_wp2_with (refine (isColumn_any _ _).mono ?_; rintro e w' ⟨rfl, rfl⟩)
  go_ret
  exact ⟨rfl, rfl⟩
/-- The place of the first column out of range, from place j on. -/
def outFrom (j : Nat) : List Int → Int
  | [] => -1
  | x :: t => if betw x 0 2 then outFrom (j + 1) t else (j : Int)
theorem outFrom_at {xs : List Int} {j : Nat} {x : Int} (hj : j < xs.length) (hx : xs.getD j 0 = x) : outFrom j (xs.drop j) = if betw x 0 2 then outFrom (j + 1) (xs.drop (j + 1)) else (j : Int) := by
  rw [drop_cons xs j hj, hx]; rfl
theorem outFrom_end {xs : List Int} {j : Nat} (hj : xs.length ≤ j) : outFrom j (xs.drop j) = -1 := by
  rw [List.drop_eq_nil_of_le hj]; rfl
theorem outFrom_all : ∀ {xs : List Int} {j : Nat}, decide (0 ≤ outFrom j xs) = !xs.all (fun c => betw c 0 2)
  | [], j => by simp [outFrom]
  | x :: t, j => by
    unfold outFrom
    by_cases h : betw x 0 2 = true
    · simp only [h, if_true, List.all_cons, Bool.true_and]; exact outFrom_all
    · simp [h]
set_option maxHeartbeats 1000000 in
theorem outIdx_any (a : Option Addr) (n cap : Nat) (xs : List Int) (w : World) (h : Ints w a n xs) :
    Calls Try.prog 182 #[.slice a n cap, .func (.func 127) #[] #[]] w fun e w' => e = .returned (.int .i64 (outFrom 0 xs)) ∧ w = w' := by
  have hl := h.len
  have hn := h.small
  have HV : Hid (outFrom 0 xs = outFrom 0 (xs.drop 0)) := rfl
  have hb0 : Below w.heap.size w w := Below.refl _ _
  go_enter Try.func182, Try.ntmps182
  go_wp2_with fail
  go_loopw [8] (fun k wr => ∃ j : Nat, j ≤ n ∧ k = .int .i64 j ∧ Hid (outFrom 0 xs = outFrom j (xs.drop j)) ∧ w = wr) (fun k _ => n - (intOf k).toNat)
  case atStart => exact ⟨0, Nat.zero_le _, rfl, HV.out, rfl⟩
  case round =>
    obtain ⟨j, hj, rfl, hE, rfl⟩ := hrel
    by_cases hlt : j < n
    · obtain ⟨b0, o0, x, rfl, hc, hx, _, _⟩ := h.get hlt
      have c0_lt : b0 < w.heap.size := cell_lt hc
      have c0 : w.cell? ⟨b0, o0 + j, none⟩ = some (.int .i64 x) := (hb0.cell (p := ⟨b0, o0 + j, none⟩) c0_lt).trans hc
      have HA := Lib.hid (hE.out.trans (outFrom_at (by omega) hx.out))
      have hcall := colFn_any x w
      obtain ⟨t, ht⟩ : ∃ t, t = betw x 0 2 := ⟨_, rfl⟩
      rw [← ht] at HA hcall
      have HC := Lib.hid hcall
      clear hE HV hl h hcall ht hx hc
      cases t with
      | true =>
        have HE := Lib.hid (show outFrom 0 xs = outFrom (j + 1) (xs.drop (j + 1)) by rw [HA.out]; rfl)
        go_wp2_with (go_at_call 127; refine HC.out.mono ?_; rintro e w' ⟨rfl, rfl⟩)
        go_roundw
        case rel => exact ⟨j + 1, by omega, by go_num, HE.out, trivial⟩
        case measure => simp [intOf]; omega
      | false =>
        have HE := Lib.hid (show outFrom 0 xs = (j : Int) by rw [HA.out]; rfl)
        go_wp2_with (go_at_call 127; refine HC.out.mono ?_; rintro e w' ⟨rfl, rfl⟩)
        go_ret
        exact ⟨ret_int HE.out.symm, rfl⟩
    · have HE := Lib.hid (hE.out.trans (outFrom_end (by omega)))
      clear hE HV hl h
      go_wp2_with fail
      go_ret
      exact ⟨ret_int HE.out.symm, rfl⟩
theorem outFn_any (a : Option Addr) (n cap : Nat) (xs : List Int) (w : World) (h : Ints w a n xs) :
    Calls Try.prog 126 #[.slice a n cap, .func (.func 127) #[] #[]] w fun e w' => e = .returned (.bool (!xs.all (fun c => betw c 0 2))) ∧ w = w' := by
  have H := Lib.hid (outFrom_all (xs := xs) (j := 0))
  have HC := Lib.hid (outIdx_any a n cap xs w h)
  clear h
  go_enter Try.func126, Try.ntmps126
  go_wp2_with (go_at_call 182; refine HC.out.mono ?_; rintro e w' ⟨rfl, rfl⟩)
  go_ret
  exact ⟨ret_bool H.out, rfl⟩
/-- impl.contains: whether a list has all of another one. -/
theorem hasAll_any (u v : Value) (xs ys : List Int) (w : World) (h : rI.rep w [u] xs) (h' : rI.rep w [v] ys) (hn : ys.length ≤ 1048576) :
    Calls Try.prog 128 #[u, v] w fun e w' => e = .returned (.bool (decide ((both ys xs).length = ys.length))) ∧ Below w.heap.size w w' := by
  obtain ⟨a, cap, rfl, _, _, hi⟩ := rI_open h
  obtain ⟨a', cap', rfl, _, _, hi'⟩ := rI_open h'
  have HC := Lib.hid (both_any _ _ ys xs w h' h hn)
  clear h h' hi hi'
  have hb0 : Below w.heap.size w w := Below.refl _ _
  go_enter Try.func128, Try.ntmps128
  go_wp2_with fail
  refine HC.out.mono ?_
  rintro e w9 ⟨u, rfl, ho, z9⟩
  obtain ⟨vb, vn, vc, rfl⟩ := oI_form1 ho
  have hln := (rI_ints (ho.rd reads_I)).len
  clear ho
  go_wp2_with fail
  go_ret
  refine ⟨ret_bool ?_, z9⟩
  rw [hln, Bool.eq_iff_iff, beq_iff_eq, decide_eq_true_eq]; omega

def lenOf : Value → Nat
  | .slice _ n _ => n
  | _ => 0
def flagOf : Value → Nat
  | .bool true => 1
  | _ => 0
theorem maskIn_bit (cs : List Int) : ∀ j : Nat, j < 3 → bitAt (maskIn cs) j = has cs (j : Int) := by
  intro j hj
  have hb : ∀ a b c : Bool, ∀ k : Fin 3, bitAt ((if a then 1 else 0) ||| ((if b then 2 else 0) ||| (if c then 4 else 0))) k.val = (if k.val = 0 then a else if k.val = 1 then b else c) := by decide
  have h9 := hb (has cs 0) (has cs 1) (has cs 2) ⟨j, hj⟩
  rw [maskIn, h9]
  have : j = 0 ∨ j = 1 ∨ j = 2 := by omega
  rcases this with rfl | rfl | rfl <;> rfl
theorem got_bits {m : Nat} (h : m < 8) : Got (bitsTo m 3) m := by
  obtain ⟨h1, h2, h3⟩ := bitsTo_sorted m 3
  refine ⟨h, h2, fun c hc => ?_, fun j hj => ?_⟩
  · obtain ⟨j, hj, rfl, _⟩ := (h3 c).1 hc; omega
  · rw [Bool.eq_iff_iff]
    simp only [has, decide_eq_true_eq, h3]
    constructor
    · intro hb; exact ⟨j, hj, rfl, hb⟩
    · rintro ⟨i, _, e, hb⟩
      have : i = j := by omega
      subst this; exact hb

end Go.Proofs.Ytbkoddikfpkocaa
