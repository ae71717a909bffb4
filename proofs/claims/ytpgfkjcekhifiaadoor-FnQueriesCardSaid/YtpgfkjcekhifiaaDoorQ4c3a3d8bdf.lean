/- Texts joined for one claim: IdxR, ParQI, HeldQ. -/
import Derived.Test.YtpgfkjcekhifiaaDoorQ6503b1f19f
import Derived.Test.YtpgfkjcekhifiaaDoorQe6e654f134
import Derived.Test.YtpgfkjcekhifiaaDoorQeb7d42a6c8
import Derived.Test.YtpgfkjcekhifiaaDoorQd80ea7563d
import Derived.Test.YtpgfkjcekhifiaaDoorQade03a00d9
import Derived.Test.YtpgfkjcekhifiaaDoorQ1236d00423
import Derived.Laws.RangeAny
import Derived.Laws.Runes
import Derived.Laws.Strings3
import Derived.Deep.LoopGhost
import Derived.BigQuiet
import Derived.WalkMore
import Derived.Deep.RegionHeld3

/- Contracts: strings.IndexRune at the letters of variables, for any rune. -/
namespace Go.Proofs.YtpgfkjcekhifiaaDoor
open Go.RowKit
set_option linter.unusedVariables false
set_option linter.unusedSimpArgs false
set_option synthInstance.maxSize 2000
set_option synthInstance.maxHeartbeats 400000

theorem iter_below (w : World) (s : ByteArray) (i : Nat) : Below w.heap.size w (w.iter s i) := (Below.refl _ _).alloc (Nat.le_refl _) _
theorem letter_lt : ∀ (i : Nat) (h : i < (ByteArray.mk #[88, 89, 90, 85]).size), ((ByteArray.mk #[88, 89, 90, 85])[i]'h).toNat < 128 := by
  intro i h
  have h4 : i < 4 := h
  rcases (by omega : i = 0 ∨ i = 1 ∨ i = 2 ∨ i = 3) with rfl | rfl | rfl | rfl
  · exact (by decide : (88 : UInt8).toNat < 128)
  · exact (by decide : (89 : UInt8).toNat < 128)
  · exact (by decide : (90 : UInt8).toNat < 128)
  · exact (by decide : (85 : UInt8).toNat < 128)

theorem idx_none9 {x : UInt8} : ∀ l : List UInt8, (∀ b ∈ l, b ≠ x) → Lib.indexByte l x = -1
  | [], _ => rfl
  | b :: t, h => by
    have h0 : b ≠ x := h b (by simp)
    have ih := idx_none9 t (fun c hc => h c (List.mem_cons_of_mem _ hc))
    simp [Lib.indexByte, h0, ih]
theorem idx_high {x : UInt8} (h : 128 ≤ x.toNat) {k n : Nat} : Lib.indexByte ((ByteArray.mk #[88, 89, 90, 85]).extract k n).data.toList x = -1 := by
  have h9 : ∀ b ∈ ((ByteArray.mk #[88, 89, 90, 85]).extract k n).data.toList, b.toNat < 128 := fun b hb => by
    have := mem_extract hb
    simp only [List.mem_cons, List.not_mem_nil, or_false] at this
    rcases this with rfl | rfl | rfl | rfl <;> decide
  exact idx_none9 _ (fun b hb e => by have := h9 b hb; rw [e] at this; omega)

set_option maxRecDepth 100000 in
set_option maxHeartbeats 4000000 in
theorem idxR_err (w : World) :
    Calls Tryd.prog 30 #[.string (ByteArray.mk #[88, 89, 90, 85]), .int .i32 65533] w fun e w' => e = .returned (.int .i64 (-1)) ∧ Below w.heap.size w w' := by
  obtain ⟨s, hs⟩ : ∃ s, s = ByteArray.mk #[88, 89, 90, 85] := ⟨_, rfl⟩
  have hlt : ∀ (i : Nat) (h : i < s.size), (s[i]'h).toNat < 128 := by rw [hs]; exact letter_lt
  have hsz : s.size = 4 := by rw [hs]; rfl
  rw [← hs]
  clear hs
  have HL := Lib.hid hlt
  clear hlt
  go_enter Tryd.func30, Tryd.ntmps30
  go_wp2_with fail
  go_loopg [5, 6] s.size (fun g _ _ wx => ∃ i : Nat, i + g = s.size ∧ wx = w.iter s i)
  case atStart => exact ⟨0, by omega, rfl⟩
  case round =>
    obtain ⟨i, hig, rfl⟩ := hrel
    cases gk with
    | zero =>
      obtain rfl : i = s.size := by omega
      have hnx := run_next_end (P := Tryd.prog) w s s.size
      clear hsz
      go_wp2_with fail
      go_ret
      exact ⟨rfl, iter_below _ _ _⟩
    | succ g =>
      have hi : i < s.size := by omega
      obtain ⟨x, hx⟩ : ∃ x : UInt8, s[i]'hi = x := ⟨_, rfl⟩
      have hx128 : x.toNat < 128 := by rw [← hx]; exact HL.out i hi
      have hnx := fun ty => run_next_ascii (P := Tryd.prog) w s i ty hi (by rw [hx]; exact hx128)
      rw [hx] at hnx
      clear hx
      have hne : ((x.toNat : Int) == 65533) = false := by rw [beq_eq_false_iff_ne]; omega
      go_wp2_with fail
      go_roundg g
      case measure => omega
      case rel => exact ⟨i + 1, by omega, rfl⟩

set_option maxRecDepth 100000 in
set_option maxHeartbeats 4000000 in
theorem idxR_high (c : Int) (w : World) (h1 : 128 ≤ c) (h2 : c ≤ 2147483647) :
    Calls Tryd.prog 30 #[.string (ByteArray.mk #[88, 89, 90, 85]), .int .i32 c] w fun e w' => e = .returned (.int .i64 (-1)) ∧ Below w.heap.size w w' := by
  by_cases he : c = 65533
  · subst he
    exact idxR_err w
  have hee : (c == 65533) = false := by rw [beq_eq_false_iff_ne]; exact he
  have h0 : (0 : Int) ≤ c := by omega
  have h3 : ¬ (c < 128) := by omega
  have hvv := validRune_eq c
  obtain ⟨s, hs⟩ : ∃ s, s = ByteArray.mk #[88, 89, 90, 85] := ⟨_, rfl⟩
  have hlt : ∀ (i : Nat) (h : i < s.size), (s[i]'h).toNat < 128 := by rw [hs]; exact letter_lt
  have hix : ∀ {x : UInt8} (h : 128 ≤ x.toNat) (k : Nat), Lib.indexByte (s.extract k s.size).data.toList x = -1 := by
    intro x h k
    rw [hs]; exact idx_high h
  have hsz : s.size = 4 := by rw [hs]; rfl
  rw [← hs]
  clear hs
  have HL := Lib.hid hlt
  have HX := Lib.hid (fun (x : UInt8) (h : 128 ≤ x.toNat) (k : Nat) => hix h k)
  have HZ := Lib.hid hsz
  clear hlt hix hsz
  have HF := Lib.hid (fun h => encode_facts c h h1)
  clear he
  go_enter Tryd.func30, Tryd.ntmps30
  go_wp2_with fail
  refine (Tryd.utf8_ValidRune c _).mono ?_
  rintro e w1 ⟨rfl, rfl⟩
  have hvL : Lib.validRune c = Utf8.valid c := by rw [hvv]; rfl
  rw [hvL]
  clear hvL hvv
  cases hv : Utf8.valid c with
  | false =>
    go_wp2_with fail
    go_ret
    exact ⟨rfl, Below.refl _ _⟩
  | true =>
    obtain ⟨f1, f2, f3⟩ := HF.out hv
    clear HF hv
    obtain ⟨rs, hrs⟩ : ∃ rs, Utf8.encode c = rs := ⟨_, rfl⟩
    rw [hrs] at f1 f2 f3
    have hcv := fun (w : World) => run_convert_int_string (P := Tryd.prog) w 21 9 .i32 c (by kernel_rfl) (by kernel_rfl)
    obtain ⟨k, hk⟩ : ∃ k, rs.size = k + 1 := ⟨rs.size - 1, by omega⟩
    have hkr : k < rs.size := by omega
    have f4 : 128 ≤ (rs[k]'hkr).toNat := by
      have := f3 (by omega)
      simpa [hk] using this
    clear f3
    have hk1 : 1 ≤ k := by omega
    have hk3 : k ≤ 3 := by omega
    clear f1 f2
    go_wp2_with fail
    go_step3
    go_wp2_with fail
    have hIB : Hid (∀ W, Calls Tryd.prog 57 #[.string (s.extract (k + 1) s.size), .int .u8 ((rs[k]'hkr).toNat : Int)] W fun e w' => e = .returned (.int .i64 (-1)) ∧ W = w') := Lib.hid (fun W => by
      refine (Tryd.strings_IndexByte _ _ W).mono ?_
      rintro e w' ⟨rfl, h9⟩
      refine ⟨?_, h9.symm⟩
      clear hk
      obtain ⟨x, hx⟩ : ∃ x : UInt8, rs[k]'hkr = x := ⟨_, rfl⟩
      rw [hx] at f4 ⊢
      rw [Lib.byte_back, HX.out _ f4])
    clear hcv hrs
    go_loopw [9, 10] (fun i f wr => i = .int .i64 (k : Int) ∧ f = .int .i64 0 ∧ wr = w1) (fun _ _ _ => 0)
    case atStart => exact ⟨rfl, rfl, rfl⟩
    case round =>
      obtain ⟨rfl, rfl, rfl⟩ := hrel
      clear hk
      have hwk : IntKind.i64.wrap ((k : Int) + 1) = (k : Int) + 1 := IntWalk.i64_in _ (by omega)
      have hx0 : (0 : Int) ≤ (k : Int) + 1 := by omega
      have hx2 : (k : Int) + 1 ≤ (s.size : Int) := by have := HZ.out; omega
      have htn : ((k : Int) + 1).toNat = k + 1 := by omega
      have hks : k < s.size := by have := HZ.out; omega
      have hne : (((s[k]'hks).toNat : Int) != ((rs[k]'hkr).toNat : Int)) = true := by
        have := HL.out k hks
        rw [bne_iff_ne]; omega
      go_wp2_with fail
      go_step3
      go_wp2_with fail
      go_quiet (fail)
      go_wp2_with fail
      go_quiet ((go_at_call 57; exact (hIB.out _).mono (fun _ _ h9 => ⟨h9.1, _, h9.2.symm⟩)))
      go_wp2_with fail
      rw [Exit.noGoto_ret]
      go_wp2_with fail
      try rw [Exit.noGoto_ret]
      try go_wp2_with fail
      go_ret
      exact ⟨rfl, Drew.below ⟨_, rfl⟩ _⟩

end Go.Proofs.YtpgfkjcekhifiaaDoor

/- Contracts: queries out of texts, by the program. -/
namespace Go.Proofs.YtpgfkjcekhifiaaDoor
open Go.RowKit
set_option linter.unusedVariables false
set_option linter.unusedSimpArgs false
set_option synthInstance.maxSize 2000
set_option synthInstance.maxHeartbeats 400000

/-- An iterator put at a place of its text. -/
def setIter (w : World) (k : Nat) (s : ByteArray) (p : Nat) : World := { w with heap := w.heap.setIfInBounds k (.stringIter s p) }
theorem run_next_at (w : World) (k : Nat) (s : ByteArray) (pos : Nat) (ty : TypeId) (hk : w.heap[k]? = some (.stringIter s pos)) (h : pos < s.size) :
    (Instr.next (.pointer (some ⟨k, 0, none⟩)) true ty).run Tryd.prog w = .ok (.tuple #[.bool true, .int .i64 pos, .int .i32 (Utf8.decode s pos).1]) (setIter w k s (pos + (Utf8.decode s pos).2)) := by
  simp only [Instr.next, getObj, setObj, Sem.run_bind, Sem.run, hk, Result.andThen, h, if_true]
  simp [goInt, setIter]
theorem run_next_stop (w : World) (k : Nat) (s : ByteArray) (pos : Nat) (ty : TypeId) (hk : w.heap[k]? = some (.stringIter s pos)) (h : ¬ pos < s.size) :
    (Instr.next (.pointer (some ⟨k, 0, none⟩)) true ty).run Tryd.prog w = .ok (.tuple #[.bool false]) w := by
  simp [Instr.next, getObj, Sem.run, hk, h]
theorem setIter_heap {w : World} {k j : Nat} (s : ByteArray) (p : Nat) (h : j ≠ k) : (setIter w k s p).heap[j]? = w.heap[j]? := by
  simp only [setIter, Array.getElem?_setIfInBounds]
  rw [if_neg (fun e => h e.symm)]
theorem setIter_at {w : World} {k : Nat} (s : ByteArray) (p : Nat) (h : k < w.heap.size) : (setIter w k s p).heap[k]? = some (.stringIter s p) := by
  simp [setIter, Array.getElem?_setIfInBounds, h]
theorem setIter_size (w : World) (k : Nat) (s : ByteArray) (p : Nat) : (setIter w k s p).heap.size = w.heap.size := by simp [setIter]
theorem setIter_below (w : World) {k B : Nat} (s : ByteArray) (p : Nat) (h : B ≤ k) : Below B w (setIter w k s p) := ⟨rfl, rfl, rfl, by rw [setIter_size]; exact Nat.le_refl _, fun j hj => setIter_heap s p (by omega)⟩
theorem setIter_own {α : Type} {o : OS α} {lo hi k : Nat} {w : World} {cs : List Value} {x : α} (h : Own o lo hi w cs x) (s : ByteArray) (p : Nat) (hk : k < lo ∨ hi ≤ k) : Own o lo hi (setIter w k s p) cs x := by
  obtain ⟨fp, r, n, q⟩ := h
  exact ⟨fp, o.frame r (fun i hi => setIter_heap s p (by have := q i hi; omega)), n, q⟩
/-- What a rune at a byte gives. -/
def stepV (b : UInt8) : Int := if b.toNat < 128 then varB b else -1
theorem stepV_rng (b : UInt8) : -1 ≤ stepV b ∧ stepV b ≤ 3 := by
  unfold stepV
  split
  · exact varB_rng b
  · omega
theorem decode_step {m : ByteArray} {p : Nat} {b : UInt8} (hp : m.data.toList[p]? = some b) : 1 ≤ (Utf8.decode m p).2 ∧ (∀ vs, Rd (m.data.toList.take p) vs → Rd (m.data.toList.take (p + (Utf8.decode m p).2)) (vs ++ [stepV b])) ∧
    ∀ W, Calls Tryd.prog 30 #[.string (ByteArray.mk #[88, 89, 90, 85]), .int .i32 ((Utf8.decode m p).1 : Int)] W fun e w' => e = .returned (.int .i64 (stepV b)) ∧ Below W.heap.size W w' := by
  have hpl : p < m.size := by
    have := (List.getElem?_eq_some_iff.1 hp).1
    rwa [← Lib.size_eq] at this
  have hb : m[p]'hpl = b := by
    have := Lib.data_getElem? m p hpl
    rw [hp] at this
    exact (Option.some.inj this).symm
  by_cases h : b.toNat < 128
  · have e := decode_ascii m p hpl (by rw [hb]; exact h)
    rw [hb] at e
    have e9 : stepV b = varB b := by unfold stepV; rw [if_pos h]
    rw [e, e9]
    refine ⟨Nat.le_refl _, fun vs hr => hr.stepLow hp, fun W => ?_⟩
    refine (Tryd.strings_IndexRune_ascii _ _ W (by omega) (by omega)).mono ?_
    rintro e w' ⟨rfl, rfl⟩
    refine ⟨?_, Below.refl _ _⟩
    have : Lib.indexByte (ByteArray.mk #[88, 89, 90, 85]).data.toList ((b.toNat : Int)).toNat.toUInt8 = varB b := by
      rw [Lib.byte_back]; exact varB_index b
    rw [this]
  · have e9 : stepV b = -1 := by unfold stepV; rw [if_neg h]
    have hh := decode_high m p hpl (by rw [hb]; omega)
    have hl := decode_le m p
    rw [e9]
    exact ⟨hh.2, fun vs hr => hr.stepHigh hp (by omega) hh.2, fun W => idxR_high _ W (by omega) (by omega)⟩
/-- The state between words. -/
def OSI (w : World) (X lo1 : Nat) (ws : List ByteArray) (q : DQ) (wr : World) : Prop :=
  ∃ (ab : Option Addr) (an ac : Nat), wr.cell? ⟨w.heap.size, 0, none⟩ = some (.int .i64 0) ∧ wr.frozen? ⟨w.heap.size, 0, none⟩ = false ∧ wr.cell? ⟨w.heap.size, 1, none⟩ = some (.slice none 0 0) ∧ wr.frozen? ⟨w.heap.size, 1, none⟩ = false ∧
    wr.cell? ⟨X, 0, none⟩ = some (.int .i64 q.1) ∧ wr.frozen? ⟨X, 0, none⟩ = false ∧ wr.cell? ⟨X, 1, none⟩ = some (.slice ab an ac) ∧ wr.frozen? ⟨X, 1, none⟩ = false ∧
    wr.heap[lo1]? = some (.cells (ws.map Value.string).toArray 9) ∧ Own oAs (lo1 + 1) wr.heap.size wr [.slice ab an ac] q.2 ∧ Below w.heap.size w wr ∧ lo1 + 1 ≤ wr.heap.size
/-- The state inside the reading of a word: the atom's cells at block A, the iterator's block behind it, the query's cells at X. -/
def WSI (X A : Nat) (wA : World) (nm : ByteArray) (ab : Option Addr) (an ac : Nat) (m : ByteArray) (p : Nat) (vs : List Int) (cnt : Int) (wr : World) : Prop :=
  ∃ (b : Option Addr) (n c : Nat), wr.cell? ⟨A, 0, none⟩ = some (.string nm) ∧ wr.cell? ⟨A, 1, none⟩ = some (.slice b n c) ∧ wr.frozen? ⟨A, 1, none⟩ = false ∧
    wr.cell? ⟨X, 0, none⟩ = some (.int .i64 cnt) ∧ wr.frozen? ⟨X, 0, none⟩ = false ∧ wr.cell? ⟨X, 1, none⟩ = some (.slice ab an ac) ∧ wr.frozen? ⟨X, 1, none⟩ = false ∧
    wr.heap[A + 1]? = some (.stringIter m p) ∧ Own oI (A + 2) wr.heap.size wr [.slice b n c] vs ∧ PF X A wA wr ∧ A + 2 ≤ wr.heap.size
theorem word_cell {W : World} {lo1 i : Nat} {ws : List ByteArray} {x : ByteArray} (h : W.heap[lo1]? = some (.cells (ws.map Value.string).toArray 9)) (hx : ws[i]? = some x) : W.cell? ⟨lo1, i, none⟩ = some (.string x) := by
  simp only [World.cell?, h]
  simp [hx]
theorem own_num9 {lo hi : Nat} {W W1 : World} {v : Value} {ys : List Int} {r : Int} (ty : TypeId) (h : Own oI lo hi W [v] ys) (hr : I64 r) (hh2 : hi ≤ W.heap.size) (hlo : lo ≤ hi) (hn : ys.length ≤ 10000000) (hW1 : W1 = W.alloc (.cells #[.int .i64 r] 3)) :
    ∃ a n c w', (Builtin.append_ #[34, 34] ty #[v, .slice (some ⟨W.heap.size, 0, none⟩) 1 1]).run Tryd.prog W1 = .ok (.slice a n c) w' ∧ Own oI lo w'.heap.size w' [.slice a n c] (ys ++ [r]) ∧ Below lo W w' ∧ W.heap.size < w'.heap.size := by
  obtain ⟨fu, a2, a4, a9⟩ := h
  obtain ⟨a, n, c, w', fu', hrun, c1, c2, c3, c4, ⟨c5, c6, c7⟩, c8⟩ := run_app_fp (W := W) (W1 := W1) Tryd.underlying34 infoInt rfl (by decide) (by decide) rfl ty v ys [.int .i64 r] r fu [] a2 a4 (o' := O.int) ⟨rfl, hr, rfl⟩ (by simp) (fun k hk => by cases hk) (by intro z hz; simp at hz; subst hz; rfl) (by omega) hW1
  refine ⟨a, n, c, w', hrun, ⟨fu', c1, c2, fun k hk => ?_⟩, ⟨c5, c6, c7, by omega, fun k hk => c8 k (by omega) (fun hk2 => by have := a9 k hk2; omega)⟩, c4⟩
  rcases c3 k hk with h9 | h9 | h9
  · have := a9 k h9; omega
  · cases h9
  · omega
theorem own_atom9 {lo hi h1 h2 : Nat} {W W1 : World} {v : Value} {ys : List DA} {cs : List Value} {r : DA} (ty : TypeId) (h : Own oAs lo hi W [v] ys) (hr : Own oA h1 h2 W cs r) (hh2 : h2 ≤ W.heap.size) (hlo : lo ≤ hi) (hh1 : hi ≤ h1) (hhi : h1 ≤ h2) (hn : ys.length ≤ 10000000) (hW1 : W1 = W.alloc (.cells cs.toArray 43)) :
    ∃ a n c w', (Builtin.append_ #[22, 22] ty #[v, .slice (some ⟨W.heap.size, 0, none⟩) 1 1]).run Tryd.prog W1 = .ok (.slice a n c) w' ∧ Own oAs lo w'.heap.size w' [.slice a n c] (ys ++ [r]) ∧ Turn lo hi W w' ∧ W.heap.size < w'.heap.size := by
  have hrr := hr
  obtain ⟨fu, a2, a4, a9⟩ := h
  obtain ⟨fr, b2, b4, b9⟩ := hr
  obtain ⟨a, n, c, w', fu', hrun, c1, c2, c3, c4, ⟨c5, c6, c7⟩, c8⟩ := run_app_fp (W := W) (W1 := W1) Tryd.underlying22 infoAt rfl (by decide) (by decide) (o' := oA) rfl ty v ys cs r fu fr a2 a4 b2 b4 (fun k hk hk2 => by have := a9 k hk2; have := b9 k hk; omega) (by
    obtain ⟨q1, q2, q3, e⟩ := rA_form (hrr.rd reads_A)
    subst e
    intro z hz
    simp only [List.mem_cons, List.not_mem_nil, or_false] at hz
    rcases hz with rfl | rfl <;> rfl) (by omega) hW1
  have hr2 : ∀ k ∈ fu', lo ≤ k ∧ k < w'.heap.size := fun k hk => by
    rcases c3 k hk with h9 | h9 | h9
    · have := a9 k h9; omega
    · have := b9 k h9; omega
    · omega
  exact ⟨a, n, c, w', hrun, ⟨fu', c1, c2, hr2⟩, ⟨c5, c6, c7, by omega, fun k h1 hk => c8 k h1 (fun hk2 => by have := a9 k hk2; omega)⟩, c4⟩
theorem cut_len : ∀ {l u : List UInt8}, u ∈ cutL l → u.length ≤ l.length
  | [], u, h => by
    simp only [cutL, List.mem_singleton] at h
    subst h; exact Nat.le_refl _
  | c :: t, u, h => by
    have ih := fun v (hv : v ∈ cutL t) => cut_len (l := t) hv
    unfold cutL at h
    split at h
    · rcases List.mem_cons.1 h with rfl | h
      · simp
      · have := ih u h; simp only [List.length_cons]; omega
    · split at h
      · rename_i a r e
        rw [e] at ih
        rcases List.mem_cons.1 h with rfl | h
        · have := ih a (by simp); simp only [List.length_cons]; omega
        · have := ih u (List.mem_cons_of_mem _ h); simp only [List.length_cons]; omega
      · simp only [List.mem_singleton] at h
        subst h; simp
theorem mid_list (x : ByteArray) (h : 3 ≤ x.size) : (x.extract 2 (x.size - 1)).data.toList = lets x.data.toList := by
  rw [ext_list]
  unfold lets
  rw [← Lib.size_eq, show x.size - 1 - 2 = x.size - 3 by omega]

set_option maxRecDepth 100000 in
set_option maxHeartbeats 16000000 in
theorem parQ_impl (l : List UInt8) (w : World) (hs : (bs l).size ≤ 1048576) (hm : ∃ m, w.cell? ⟨0, 0, none⟩ = some (.int .i64 m)) :
    Calls Tryd.prog 6 #[.string (bs l)] w fun e w' => ∃ (cnt : Int) (b : Option Addr) (n c : Nat), e = .returned (.tuple #[.agg #[.int .i64 cnt, .slice b n c], .bool (parQ (bs l)).isSome]) ∧ Own oQ w.heap.size w'.heap.size w' [.int .i64 cnt, .slice b n c] ((parQ (bs l)).getD (0, [])) ∧ Below w.heap.size w w' := by
  obtain ⟨mm, hm⟩ := hm
  have hm0 := cell_lt hm
  have HSH := Lib.hid (fun u (h : u ∈ cutL l) (h3 : u.length < 3) => parQ_short h h3)
  have HOF := Lib.hid (fun q (h : IQ (cutL l) q) (h3 : ∀ u ∈ cutL l, 3 ≤ u.length) => parQ_of h h3)
  obtain ⟨P, hP⟩ : ∃ P, parQ (bs l) = P := ⟨_, rfl⟩
  rw [hP] at HSH HOF ⊢
  clear hP
  have HSP : Hid (∀ W, W.cell? ⟨0, 0, none⟩ = some (.int .i64 mm) → Calls Tryd.prog 29 #[.string (bs l), .string (ByteArray.mk #[32])] W fun e w' => ∃ ws : List ByteArray, ws.map (fun x => x.data.toList) = cutL l ∧ ws.length ≤ 1048577 ∧ e = .returned (.slice (some ⟨W.heap.size, 0, none⟩) ws.length ws.length) ∧ w' = W.alloc (.cells (ws.map Value.string).toArray 9)) := Lib.hid (fun W h => by
    refine (Tryd.strings_Split (bs l) (ByteArray.mk #[32]) mm W (by omega) h (by decide)).mono ?_
    rintro e w' ⟨rfl, rfl⟩
    have e1 := splitB_cut l
    have e2 := Lib.splitB_all (ByteArray.mk #[32]) (by decide) 0 _ (bs l) rfl
    have e3 := Lib.countB_le (ByteArray.mk #[32]) (by decide) (bs l).size (bs l) (Nat.le_refl _)
    exact ⟨_, e1, by omega, by rw [e2], rfl⟩)
  have hb0 : Below w.heap.size w w := Below.refl _ _
  go_enter Tryd.func6, Tryd.ntmps6
  obtain ⟨w1, hw1⟩ : ∃ W, W = w.alloc (.cells #[.int .i64 0, .slice none 0 0] 24) := ⟨_, rfl⟩
  have z1 : Below w.heap.size w w1 := by rw [hw1]; exact (Below.refl _ _).alloc (Nat.le_refl _) _
  have s1 : w1.heap.size = w.heap.size + 1 := by rw [hw1]; simp
  have hb1 := on hb0 z1
  have R_0 : w1.cell? ⟨w.heap.size, 0, none⟩ = some (.int .i64 0) := by rw [hw1]; exact box_cell (Below.refl _ _) rfl
  have R_1 : w1.cell? ⟨w.heap.size, 1, none⟩ = some (.slice none 0 0) := by rw [hw1]; exact box_cell (Below.refl _ _) rfl
  have R_f0 : w1.frozen? ⟨w.heap.size, 0, none⟩ = false := by rw [hw1]; exact box_frozen (Below.refl _ _)
  have R_f1 : w1.frozen? ⟨w.heap.size, 1, none⟩ = false := by rw [hw1]; exact box_frozen (Below.refl _ _)
  have raw1_R_0 := R_0
  have raw1_R_1 := R_1
  have raw1_R_f0 := R_f0
  have raw1_R_f1 := R_f1
  rw [hw1] at raw1_R_0 raw1_R_1 raw1_R_f0 raw1_R_f1
  obtain ⟨w2, hw2⟩ : ∃ W, W = w1.alloc (.cells #[.int .i64 0, .slice none 0 0] 24) := ⟨_, rfl⟩
  have z2 : Below w1.heap.size w1 w2 := by rw [hw2]; exact (Below.refl _ _).alloc (Nat.le_refl _) _
  have s2 : w2.heap.size = w1.heap.size + 1 := by rw [hw2]; simp
  have hb2 := on hb1 z2
  replace R_0 := (z2.cell (p := ⟨w.heap.size, 0, none⟩) (by simp only []; omega)).trans R_0
  replace R_1 := (z2.cell (p := ⟨w.heap.size, 1, none⟩) (by simp only []; omega)).trans R_1
  replace R_f0 := (z2.frozen (p := ⟨w.heap.size, 0, none⟩) (by simp only []; omega)).trans R_f0
  replace R_f1 := (z2.frozen (p := ⟨w.heap.size, 1, none⟩) (by simp only []; omega)).trans R_f1
  have e2 : w1.heap.size = w.heap.size + 1 := by omega
  have X_0 : w2.cell? ⟨w1.heap.size, 0, none⟩ = some (.int .i64 0) := by rw [hw2]; exact box_cell (Below.refl _ _) rfl
  have X_1 : w2.cell? ⟨w1.heap.size, 1, none⟩ = some (.slice none 0 0) := by rw [hw2]; exact box_cell (Below.refl _ _) rfl
  rw [e2] at X_0 X_1
  have X_f0 : w2.frozen? ⟨w1.heap.size, 0, none⟩ = false := by rw [hw2]; exact box_frozen (Below.refl _ _)
  have X_f1 : w2.frozen? ⟨w1.heap.size, 1, none⟩ = false := by rw [hw2]; exact box_frozen (Below.refl _ _)
  rw [e2] at X_f0 X_f1
  have raw2_R_0 := R_0
  have raw2_R_1 := R_1
  have raw2_R_f0 := R_f0
  have raw2_R_f1 := R_f1
  have raw2_X_0 := X_0
  have raw2_X_1 := X_1
  have raw2_X_f0 := X_f0
  have raw2_X_f1 := X_f1
  rw [hw2, hw1] at raw2_R_0 raw2_R_1 raw2_R_f0 raw2_R_f1 raw2_X_0 raw2_X_1 raw2_X_f0 raw2_X_f1
  go_wp2_with fail
  rw [← hw1]
  rw [← hw2]
  clear hw2 hw1
  clear raw1_R_0 raw1_R_1 raw1_R_f0 raw1_R_f1 raw2_R_0 raw2_R_1 raw2_R_f0 raw2_R_f1 raw2_X_0 raw2_X_1 raw2_X_f0 raw2_X_f1
  obtain ⟨lo1, hlo1⟩ : ∃ q, q = w2.heap.size := ⟨_, rfl⟩
  have hmm := (hb2.cell (p := ⟨0, 0, none⟩) hm0).trans hm
  refine (HSP.out _ hmm).mono ?_
  rintro e wS ⟨ws, hws, hwl, rfl, hwS⟩
  have zS : Below w2.heap.size w2 wS := by rw [hwS]; exact (Below.refl _ _).alloc (Nat.le_refl _) _
  have hcells : wS.heap[lo1]? = some (.cells (ws.map Value.string).toArray 9) := by rw [hwS, hlo1]; exact heap_alloc_new _ _
  have sS : wS.heap.size = lo1 + 1 := by rw [hwS, hlo1]; simp
  clear HSP hm hm0 hmm hwS
  rw [← hlo1]
  have s3 := zS.size
  have hb3 := on hb2 zS
  replace R_0 := (zS.cell (p := ⟨w.heap.size, 0, none⟩) (by simp only []; omega)).trans R_0
  replace R_1 := (zS.cell (p := ⟨w.heap.size, 1, none⟩) (by simp only []; omega)).trans R_1
  replace R_f0 := (zS.frozen (p := ⟨w.heap.size, 0, none⟩) (by simp only []; omega)).trans R_f0
  replace R_f1 := (zS.frozen (p := ⟨w.heap.size, 1, none⟩) (by simp only []; omega)).trans R_f1
  replace X_0 := (zS.cell (p := ⟨w.heap.size + 1, 0, none⟩) (by simp only []; omega)).trans X_0
  replace X_1 := (zS.cell (p := ⟨w.heap.size + 1, 1, none⟩) (by simp only []; omega)).trans X_1
  replace X_f0 := (zS.frozen (p := ⟨w.heap.size + 1, 0, none⟩) (by simp only []; omega)).trans X_f0
  replace X_f1 := (zS.frozen (p := ⟨w.heap.size + 1, 1, none⟩) (by simp only []; omega)).trans X_f1
  have hlh : w.heap.size + 1 + 1 ≤ lo1 := by omega
  have HST : Hid (OSI w (w.heap.size + 1) lo1 ws (0, []) wS) := Lib.hid ⟨none, 0, 0, R_0, R_f0, R_1, R_f1, X_0, X_f0, X_1, X_f1, hcells, (own_nil_S (B := lo1 + 1)).mono (Nat.le_refl _) (by omega), hb3, by omega⟩
  have HWS := Lib.hid hws
  have hwl2 : (cutL l).length = ws.length := by rw [← hws, List.length_map]
  obtain ⟨nw, hnw⟩ : ∃ q, q = ws.length := ⟨_, rfl⟩
  have HIQ0 : Hid (IQ ((cutL l).take 0) (0, [])) := Lib.hid IQ.nil
  have HL0 : Hid (∀ u ∈ (cutL l).take 0, 3 ≤ u.length) := Lib.hid (fun u hu => by simp at hu)
  rw [← hnw] at hwl hwl2 ⊢
  have HNW := Lib.hid hnw
  clear hws hnw hlo1 hcells zS
  clear R_0 R_f0 R_1 R_f1 X_0 X_f0 X_1 X_f1
  go_wp2_with fail
  go_loopw [15] (fun i wr => ∃ (i9 : Nat) (q : DQ), i9 ≤ nw ∧ i = .int .i64 (i9 : Int) ∧ Hid (IQ ((cutL l).take i9) q) ∧ Hid (∀ u ∈ (cutL l).take i9, 3 ≤ u.length) ∧ Hid (OSI w (w.heap.size + 1) lo1 ws q wr)) (fun i _ => nw - (intOf i).toNat)
  case atStart => exact ⟨0, _, Nat.zero_le _, rfl, HIQ0, HL0, HST⟩
  case round =>
    clear HST HIQ0 HL0
    obtain ⟨i, q0, hi, rfl, HIQ, HLE, HS⟩ := hrel
    obtain ⟨ab, an, ac, R_0, R_f0, R_1, R_f1, X_0, X_f0, X_1, X_f1, hcells, oat, hbo, hso⟩ := HS.out
    clear HS
    obtain ⟨wo, rfl⟩ : ∃ W, W = wr := ⟨_, rfl⟩
    have hrng := HIQ.out.rng
    have hql : q0.2.length = i := by rw [HIQ.out.len, List.length_take]; omega
    by_cases hlt : i < nw
    · obtain ⟨wi, hwi⟩ : ∃ x, ws[i]? = some x := ⟨_, List.getElem?_eq_getElem (by have := HNW.out; omega)⟩
      have hli : (cutL l)[i]? = some wi.data.toList := by rw [← HWS.out, List.getElem?_map, hwi]; rfl
      have cw0 := word_cell hcells hwi
      have hll : wi.data.toList.length = wi.size := by simp
      by_cases hsh : wi.size < 3
      · have HPN : P = none := HSH.out _ (List.mem_of_getElem? hli) (by rw [hll]; exact hsh)
        subst HPN
        have hz2 : ((wi.size : Int) < 3) := by omega
        have HB9 := Lib.hid hbo
        clear hbo hli hll HSH HOF oat hcells
        go_wp2_with fail
        refine bodyPost_ret (v := .tuple #[.agg #[.int .i64 0, .slice none 0 0], .bool false]) (by simp [results, Tryd.results6, go_sem, R_0, R_1, R_f0, R_f1]) rfl ⟨0, none, 0, 0, rfl, ?_, ?_⟩
        · exact oQ_mk (x := (0, [])) (show I64 0 by constructor <;> decide) (own_nil_S (B := w.heap.size)) (Nat.le_refl _) (by have := HB9.out.size; simp [World.setCell]; omega)
        · refine HB9.out.trans ?_
          repeat (refine Below.setCell ?_ (by simp only []; omega) _)
          exact Below.refl _ _
      have hz2 : ¬ ((wi.size : Int) < 3) := by omega
      have hz1 : (1 : Int) ≤ (wi.size : Int) := by omega
      have e0 : wi.extract 0 1 = bs (wi.data.toList.take 1) := ext_head wi
      have hwsz : wi.size ≤ 1048576 := by
        have := cut_len (List.mem_of_getElem? hli)
        have e9 : (bs l).size = l.length := bs_size l
        omega
      have e2 : (wi.extract 2 (wi.size - 1)).data.toList = lets wi.data.toList := mid_list wi (by omega)
      obtain ⟨nm, hnm⟩ : ∃ q, bs (wi.data.toList.take 1) = q := ⟨_, rfl⟩
      rw [hnm] at e0
      obtain ⟨wA, hwA⟩ : ∃ W, W = wo.alloc (.cells #[.string nm, .slice none 0 0] 43) := ⟨_, rfl⟩
      have zA : Below wo.heap.size wo wA := by rw [hwA]; exact (Below.refl _ _).alloc (Nat.le_refl _) _
      have sA : wA.heap.size = wo.heap.size + 1 := by rw [hwA]; simp
      have A_0 : wA.cell? ⟨wo.heap.size, 0, none⟩ = some (.string nm) := by rw [hwA]; exact box_cell (Below.refl _ _) rfl
      have A_1 : wA.cell? ⟨wo.heap.size, 1, none⟩ = some (.slice none 0 0) := by rw [hwA]; exact box_cell (Below.refl _ _) rfl
      have A_f1 : wA.frozen? ⟨wo.heap.size, 1, none⟩ = false := by rw [hwA]; exact box_frozen (Below.refl _ _)
      have HLI := Lib.hid hli
      have HE2 := Lib.hid e2
      have HNM := Lib.hid hnm
      clear hli hnm e2
      go_wp2_with fail
      rw [← hwA]
      clear hwA
      obtain ⟨m, hm⟩ : ∃ q, wi.extract 2 (wi.size - 1) = q := ⟨_, rfl⟩
      rw [hm] at HE2 ⊢
      have hmsz : m.size ≤ 1048576 := by rw [← hm]; exact Nat.le_trans (ext_size _ _ _) hwsz
      clear hm
      obtain ⟨wI, hwI⟩ : ∃ W, W = wA.iter m 0 := ⟨_, rfl⟩
      have zI : Below wA.heap.size wA wI := by rw [hwI]; exact iter_below _ _ _
      have sI : wI.heap.size = wo.heap.size + 2 := by rw [hwI, show (wA.iter m 0).heap.size = wA.heap.size + 1 by simp [World.iter], sA]
      have hI : wI.heap[wo.heap.size + 1]? = some (.stringIter m 0) := by rw [hwI, ← sA]; exact World.iter_heap _ _ _
      rw [← hwI]
      clear hwI
      have zoI := on zA zI
      have HX := Lib.hid (⟨(zoI.cell (p := ⟨w.heap.size + 1, 0, none⟩) (by simp only []; omega)).trans X_0, (zoI.frozen (p := ⟨w.heap.size + 1, 0, none⟩) (by simp only []; omega)).trans X_f0, (zoI.cell (p := ⟨w.heap.size + 1, 1, none⟩) (by simp only []; omega)).trans X_1, (zoI.frozen (p := ⟨w.heap.size + 1, 1, none⟩) (by simp only []; omega)).trans X_f1⟩ : wI.cell? ⟨w.heap.size + 1, 0, none⟩ = some (.int .i64 q0.1) ∧ wI.frozen? ⟨w.heap.size + 1, 0, none⟩ = false ∧ wI.cell? ⟨w.heap.size + 1, 1, none⟩ = some (.slice ab an ac) ∧ wI.frozen? ⟨w.heap.size + 1, 1, none⟩ = false)
      have HWT0 : Hid (WSI (w.heap.size + 1) wo.heap.size wA nm ab an ac m 0 [] (maxV q0.1 []) wI) := Lib.hid ⟨none, 0, 0, (zI.cell (p := ⟨wo.heap.size, 0, none⟩) (by simp only []; omega)).trans A_0, (zI.cell (p := ⟨wo.heap.size, 1, none⟩) (by simp only []; omega)).trans A_1, (zI.frozen (p := ⟨wo.heap.size, 1, none⟩) (by simp only []; omega)).trans A_f1, HX.out.1, HX.out.2.1, HX.out.2.2.1, HX.out.2.2.2, hI, (own_nil_S (B := wo.heap.size + 2)).mono (Nat.le_refl _) (by omega), PF.of (X := w.heap.size + 1) (hi := wo.heap.size) zI (by omega), by omega⟩
      have HR0 : Hid (Rd (m.data.toList.take 0) []) := Lib.hid Rd.nil
      have HRO := Lib.hid (⟨R_0, R_f0, R_1, R_f1⟩ : wo.cell? ⟨w.heap.size, 0, none⟩ = some (.int .i64 0) ∧ wo.frozen? ⟨w.heap.size, 0, none⟩ = false ∧ wo.cell? ⟨w.heap.size, 1, none⟩ = some (.slice none 0 0) ∧ wo.frozen? ⟨w.heap.size, 1, none⟩ = false)
      have HCL := Lib.hid hcells
      have HOAT := Lib.hid oat
      have HZA := Lib.hid zA
      have HBO := Lib.hid hbo
      have HSZ := Lib.hid hwsz
      clear hll e0 X_0 X_f0 X_1 X_f1 R_0 R_f0 R_1 R_f1 A_0 A_1 A_f1 HX oat zA hbo hcells cw0 zI hI zoI hz1 hz2 hwsz
      go_wp2_with fail
      go_loopg [9, 10] m.size (fun g _ _ wr => ∃ (p : Nat) (vs : List Int), m.size ≤ p + g ∧ Hid (Rd (m.data.toList.take p) vs) ∧ Hid (WSI (w.heap.size + 1) wo.heap.size wA nm ab an ac m p vs (maxV q0.1 vs) wr))
      case atStart => exact ⟨0, [], by omega, HR0, HWT0⟩
      case round =>
        clear HWT0 HR0
        obtain ⟨p, vs, hpg, HR, HW⟩ := hrel
        obtain ⟨wk, rfl⟩ : ∃ W, W = wr := ⟨_, rfl⟩
        have hwin : (i : Int) < (nw : Int) := by omega
        have hvl : vs.length ≤ 1048576 := by
          have h1 := HR.out.len
          have h2 : m.data.toList.length = m.size := by simp
          rw [List.length_take] at h1
          omega
        obtain ⟨b, n, cc, A_0, A_1, A_f1, X_0, X_f0, X_1, X_f1, hit, ov, hpf, hsz⟩ := HW.out
        clear HW
        by_cases hp : p < m.size
        · obtain ⟨g, rfl⟩ : ∃ g, gk = g + 1 := ⟨gk - 1, by omega⟩
          obtain ⟨b0, hb0l⟩ : ∃ b0, m.data.toList[p]? = some b0 := ⟨_, Lib.data_getElem? m p hp⟩
          obtain ⟨hwd, hrd, hix⟩ := decode_step hb0l
          have hnx := fun ty => run_next_at wk (wo.heap.size + 1) m p ty hit hp
          obtain ⟨D, hD⟩ : ∃ D, Utf8.decode m p = D := ⟨_, rfl⟩
          rw [hD] at hwd hrd hix hnx
          obtain ⟨c, wd⟩ := D
          simp only at hwd hrd hix hnx
          have hvr := stepV_rng b0
          obtain ⟨v, hv⟩ : ∃ v, stepV b0 = v := ⟨_, rfl⟩
          rw [hv] at hvr hrd hix
          have HRN := Lib.hid (hrd vs HR.out)
          have HIX := Lib.hid hix
          obtain ⟨wj, hwj⟩ : ∃ W, W = setIter wk (wo.heap.size + 1) m (p + wd) := ⟨_, rfl⟩
          rw [← hwj] at hnx
          have sj : wj.heap.size = wk.heap.size := by rw [hwj]; exact setIter_size _ _ _ _
          have hj : ∀ k, k ≠ wo.heap.size + 1 → wj.heap[k]? = wk.heap[k]? := fun k hk => by rw [hwj]; exact setIter_heap _ _ hk
          have iJ : wj.heap[wo.heap.size + 1]? = some (.stringIter m (p + wd)) := by rw [hwj]; exact setIter_at _ _ (by omega)
          have zj : Below (wo.heap.size + 1) wk wj := by rw [hwj]; exact setIter_below _ _ _ (Nat.le_refl _)
          have ovj : Own oI (wo.heap.size + 2) wj.heap.size wj [.slice b n cc] vs := by rw [sj, hwj]; exact setIter_own ov _ _ (.inl (by omega))
          have hpj := hpf.trans (PF.of (X := w.heap.size + 1) (hi := wo.heap.size) zj (by omega))
          replace A_0 := (zj.cell (p := ⟨wo.heap.size, 0, none⟩) (by simp only []; omega)).trans A_0
          replace A_1 := (zj.cell (p := ⟨wo.heap.size, 1, none⟩) (by simp only []; omega)).trans A_1
          replace A_f1 := (zj.frozen (p := ⟨wo.heap.size, 1, none⟩) (by simp only []; omega)).trans A_f1
          replace X_0 := (zj.cell (p := ⟨w.heap.size + 1, 0, none⟩) (by simp only []; omega)).trans X_0
          replace X_f0 := (zj.frozen (p := ⟨w.heap.size + 1, 0, none⟩) (by simp only []; omega)).trans X_f0
          replace X_1 := (zj.cell (p := ⟨w.heap.size + 1, 1, none⟩) (by simp only []; omega)).trans X_1
          replace X_f1 := (zj.frozen (p := ⟨w.heap.size + 1, 1, none⟩) (by simp only []; omega)).trans X_f1
          clear hwj hD hv hb0l hit hpf ov zj hix hrd hj HR
          go_wp2_with fail
          refine (HIX.out _).mono ?_
          rintro e wD ⟨rfl, zD⟩
          have sD := zD.size
          replace A_0 := (zD.cell (p := ⟨wo.heap.size, 0, none⟩) (by simp only []; omega)).trans A_0
          replace A_1 := (zD.cell (p := ⟨wo.heap.size, 1, none⟩) (by simp only []; omega)).trans A_1
          replace A_f1 := (zD.frozen (p := ⟨wo.heap.size, 1, none⟩) (by simp only []; omega)).trans A_f1
          replace X_0 := (zD.cell (p := ⟨w.heap.size + 1, 0, none⟩) (by simp only []; omega)).trans X_0
          replace X_f0 := (zD.frozen (p := ⟨w.heap.size + 1, 0, none⟩) (by simp only []; omega)).trans X_f0
          replace X_1 := (zD.cell (p := ⟨w.heap.size + 1, 1, none⟩) (by simp only []; omega)).trans X_1
          replace X_f1 := (zD.frozen (p := ⟨w.heap.size + 1, 1, none⟩) (by simp only []; omega)).trans X_f1
          replace iJ := (zD.block (wo.heap.size + 1) (by omega)).trans iJ
          replace ovj := (ovj.below zD (Nat.le_refl _)).mono (Nat.le_refl _) sD
          replace hpj := hpj.trans (PF.of (X := w.heap.size + 1) (hi := wo.heap.size) zD (by omega))
          have hszD : wo.heap.size + 2 ≤ wD.heap.size := by omega
          clear zD sj sD HIX hnx
          obtain ⟨mc, hmc⟩ : ∃ q, maxV q0.1 vs = q := ⟨_, rfl⟩
          have hmv : maxV q0.1 (vs ++ [v]) = max mc (v + 1) := by rw [maxV_snoc, hmc]
          rw [hmc] at X_0
          clear hmc
          have HMV := Lib.hid hmv
          clear hmv
          have hwv : IntKind.i64.wrap (v + 1) = v + 1 := IntWalk.i64_in _ (by omega)
          have hwv2 : wrap64 (v + 1) = v + 1 := IntWalk.wrap64_in _ ⟨by omega, by omega⟩
          obtain ⟨na, nn, nc, wn, hrn, on_, hbn, hzn⟩ := own_num9 34 ovj (r := v) ⟨by omega, by omega⟩ (Nat.le_refl _) hszD (by omega) rfl
          have sn := hbn.size
          replace A_0 := (hbn.cell (p := ⟨wo.heap.size, 0, none⟩) (by simp only []; omega)).trans A_0
          have a1o := A_1
          replace A_1 := (hbn.cell (p := ⟨wo.heap.size, 1, none⟩) (by simp only []; omega)).trans A_1
          replace A_f1 := (hbn.frozen (p := ⟨wo.heap.size, 1, none⟩) (by simp only []; omega)).trans A_f1
          replace X_0 := (hbn.cell (p := ⟨w.heap.size + 1, 0, none⟩) (by simp only []; omega)).trans X_0
          replace X_f0 := (hbn.frozen (p := ⟨w.heap.size + 1, 0, none⟩) (by simp only []; omega)).trans X_f0
          replace X_1 := (hbn.cell (p := ⟨w.heap.size + 1, 1, none⟩) (by simp only []; omega)).trans X_1
          replace X_f1 := (hbn.frozen (p := ⟨w.heap.size + 1, 1, none⟩) (by simp only []; omega)).trans X_f1
          replace iJ := (hbn.block (wo.heap.size + 1) (by omega)).trans iJ
          have hpn := hpj.trans (PF.of (X := w.heap.size + 1) (hi := wo.heap.size) hbn (by omega))
          clear hpj ovj hbn
          go_wp2_with (at_builtin; refine wpList_app_run hrn rfl rfl rfl rfl rfl ?_)
          have hAX : w.heap.size + 1 < wo.heap.size := by omega
          have HN : Hid (WSI (w.heap.size + 1) wo.heap.size wA nm ab an ac m (p + wd) (vs ++ [v]) (maxV q0.1 (vs ++ [v])) ((wn.setCell ⟨wo.heap.size, 1, none⟩ (.slice na nn nc)).setCell ⟨w.heap.size + 1, 0, none⟩ (.int .i64 (max mc (v + 1))))) := Lib.hid (by
            rw [HMV.out]
            have x0 : (wn.setCell ⟨wo.heap.size, 1, none⟩ (.slice na nn nc)).cell? ⟨w.heap.size + 1, 0, none⟩ = some (.int .i64 mc) := (World.cell?_of_block (a := ⟨w.heap.size + 1, 0, none⟩) (Below.heap_setCell _ _ _ _ (by simp only []; omega))).trans X_0
            have x1 : (wn.setCell ⟨wo.heap.size, 1, none⟩ (.slice na nn nc)).cell? ⟨w.heap.size + 1, 1, none⟩ = some (.slice ab an ac) := (World.cell?_of_block (a := ⟨w.heap.size + 1, 1, none⟩) (Below.heap_setCell _ _ _ _ (by simp only []; omega))).trans X_1
            have xf0 : (wn.setCell ⟨wo.heap.size, 1, none⟩ (.slice na nn nc)).frozen? ⟨w.heap.size + 1, 0, none⟩ = false := (World.frozen?_of_block (a := ⟨w.heap.size + 1, 0, none⟩) (Below.heap_setCell _ _ _ _ (by simp only []; omega))).trans X_f0
            have xf1 : (wn.setCell ⟨wo.heap.size, 1, none⟩ (.slice na nn nc)).frozen? ⟨w.heap.size + 1, 1, none⟩ = false := (World.frozen?_of_block (a := ⟨w.heap.size + 1, 1, none⟩) (Below.heap_setCell _ _ _ _ (by simp only []; omega))).trans X_f1
            refine ⟨na, nn, nc, (World.cell?_of_block (a := ⟨wo.heap.size, 0, none⟩) (Below.heap_setCell _ _ _ _ (by simp only []; omega))).trans (by simp [go_sem, A_0]), (World.cell?_of_block (a := ⟨wo.heap.size, 1, none⟩) (Below.heap_setCell _ _ _ _ (by simp only []; omega))).trans (by simp [go_sem, A_1]), (World.frozen?_of_block (a := ⟨wo.heap.size, 1, none⟩) (Below.heap_setCell _ _ _ _ (by simp only []; omega))).trans (by simp [go_sem, A_f1]), by simp [go_sem, x0], by simp [go_sem, xf0], by simp [go_sem, x1], by simp [go_sem, xf1], ?_, ?_, ?_, ?_⟩
            · rw [Below.heap_setCell _ _ _ _ (by simp only []; omega), Below.heap_setCell _ _ _ _ (by simp only []; omega)]; exact iJ
            · exact (Own.setOut (Own.setOut on_ rfl (by simp only []; omega)) rfl (by simp only []; omega)).mono (Nat.le_refl _) (by simp [World.setCell])
            · exact (hpn.set (p := ⟨wo.heap.size, 1, none⟩) (.inr (Nat.le_refl _)) _).set (p := ⟨w.heap.size + 1, 0, none⟩) (.inl rfl) _
            · simp [World.setCell]; omega)
          clear A_0 A_1 A_f1 X_0 X_f0 X_1 X_f1 hpn on_ a1o iJ
          go_roundg g
          case measure => omega
          case rel => exact ⟨p + wd, vs ++ [v], by omega, HRN, by
            first
              | exact HN
              | (have hmx : (if mc < v + 1 then v + 1 else mc) = max mc (v + 1) := by (split <;> omega)
                 rw [hmx]; exact HN)⟩
        · have hnx := fun ty => run_next_stop wk (wo.heap.size + 1) m p ty hit hp
          have hRv : Rd (lets wi.data.toList) vs := by
            have h1 := HR.out
            have h2 : m.data.toList.length = m.size := by simp
            rw [List.take_of_length_le (by omega), HE2.out] at h1
            exact h1
          have hlw : lo1 < wo.heap.size := by omega
          have oak := hpf.own (HOAT.out.below HZA.out (Nat.le_refl _)) (Nat.le_refl _) (.inl (by omega))
          have clk : wk.heap[lo1]? = some (.cells (ws.map Value.string).toArray 9) := (hpf.block lo1 hlw (by omega)).trans ((HZA.out.block lo1 hlw).trans HCL.out)
          have r0 := (hpf.cell (p := ⟨w.heap.size, 0, none⟩) (by simp only []; omega) (by simp only []; omega)).trans ((HZA.out.cell (p := ⟨w.heap.size, 0, none⟩) (by simp only []; omega)).trans HRO.out.1)
          have rf0 := (hpf.frozen (p := ⟨w.heap.size, 0, none⟩) (by simp only []; omega) (by simp only []; omega)).trans ((HZA.out.frozen (p := ⟨w.heap.size, 0, none⟩) (by simp only []; omega)).trans HRO.out.2.1)
          have r1 := (hpf.cell (p := ⟨w.heap.size, 1, none⟩) (by simp only []; omega) (by simp only []; omega)).trans ((HZA.out.cell (p := ⟨w.heap.size, 1, none⟩) (by simp only []; omega)).trans HRO.out.2.2.1)
          have rf1 := (hpf.frozen (p := ⟨w.heap.size, 1, none⟩) (by simp only []; omega) (by simp only []; omega)).trans ((HZA.out.frozen (p := ⟨w.heap.size, 1, none⟩) (by simp only []; omega)).trans HRO.out.2.2.2)
          have hbk : Below w.heap.size w wk := HBO.out.trans ((HZA.out.mono (by omega)).trans (hpf.below (C := w.heap.size) (by omega) (by omega)))
          have hnms : nm.size ≤ 9223372036854775807 := by rw [← HNM.out, bs_size, List.length_take]; omega
          have oAt : Own oA (wo.heap.size + 1) wk.heap.size wk [.string nm, .slice b n cc] (nm, vs) := oA_mk (x := (nm, vs)) hnms ov (by omega) (Nat.le_refl _)
          obtain ⟨na, nn, nc, wn, hrn, on_, hzn, hzs⟩ := own_atom9 22 oak oAt (Nat.le_refl _) (by omega) (by omega) (by omega) (by omega) rfl
          have HIN : Hid (IQ ((cutL l).take (i + 1)) (maxV q0.1 vs, q0.2 ++ [(nm, vs)])) := Lib.hid (by
            have := HIQ.out.step HLI.out hRv
            rw [HNM.out] at this
            exact this)
          have HLN : Hid (∀ u ∈ (cutL l).take (i + 1), 3 ≤ u.length) := Lib.hid (fun u hu => by
            rw [List.take_add_one, HLI.out] at hu
            rcases List.mem_append.1 hu with hu | hu
            · exact HLE.out u hu
            · simp only [Option.toList, List.mem_singleton] at hu
              subst hu
              have : wi.data.toList.length = wi.size := by simp
              omega)
          obtain ⟨mc, hmc⟩ : ∃ q, maxV q0.1 vs = q := ⟨_, rfl⟩
          rw [hmc] at X_0 HIN
          have y0 := (hzn.cell (p := ⟨w.heap.size + 1, 0, none⟩) (by simp only []; omega) (by simp only []; omega)).trans X_0
          have yf0 := (hzn.frozen (p := ⟨w.heap.size + 1, 0, none⟩) (by simp only []; omega) (by simp only []; omega)).trans X_f0
          have y1 := (hzn.cell (p := ⟨w.heap.size + 1, 1, none⟩) (by simp only []; omega) (by simp only []; omega)).trans X_1
          have yf1 := (hzn.frozen (p := ⟨w.heap.size + 1, 1, none⟩) (by simp only []; omega) (by simp only []; omega)).trans X_f1
          have s0 := (hzn.cell (p := ⟨w.heap.size, 0, none⟩) (by simp only []; omega) (by simp only []; omega)).trans r0
          have sf0 := (hzn.frozen (p := ⟨w.heap.size, 0, none⟩) (by simp only []; omega) (by simp only []; omega)).trans rf0
          have s1 := (hzn.cell (p := ⟨w.heap.size, 1, none⟩) (by simp only []; omega) (by simp only []; omega)).trans r1
          have sf1 := (hzn.frozen (p := ⟨w.heap.size, 1, none⟩) (by simp only []; omega) (by simp only []; omega)).trans rf1
          have cln := (hzn.block lo1 (by omega) (.inl (Nat.lt_succ_self _))).trans clk
          have hbn : Below w.heap.size w wn := hbk.trans ((hzn.below (by omega)).mono (by omega))
          have zS : Below (w.heap.size + 1) wn (wn.setCell ⟨w.heap.size + 1, 1, none⟩ (.slice na nn nc)) := Below.setCell (Below.refl _ _) (by simp only []; omega) _
          have HOS : Hid (OSI w (w.heap.size + 1) lo1 ws (mc, q0.2 ++ [(nm, vs)]) (wn.setCell ⟨w.heap.size + 1, 1, none⟩ (.slice na nn nc))) := Lib.hid (by
            exact ⟨na, nn, nc, (zS.cell (p := ⟨w.heap.size, 0, none⟩) (by simp only []; omega)).trans s0, (zS.frozen (p := ⟨w.heap.size, 0, none⟩) (by simp only []; omega)).trans sf0, (zS.cell (p := ⟨w.heap.size, 1, none⟩) (by simp only []; omega)).trans s1, (zS.frozen (p := ⟨w.heap.size, 1, none⟩) (by simp only []; omega)).trans sf1, by simp [go_sem, y0], by simp [go_sem, yf0], by simp [go_sem, y1], by simp [go_sem, yf1], by rw [Below.heap_setCell _ _ _ _ (by simp only []; omega)]; exact cln, (own_off on_ rfl (by simp only []; omega)).mono (Nat.le_refl _) (by simp [World.setCell]), hbn.trans (zS.mono (by omega)), by simp [World.setCell]; omega⟩)
          clear y0 s0 sf0 s1 sf1 cln clk hbn zS on_ oAt oak r0 rf0 r1 rf1 ov hpf hRv
          go_wp2_with (at_builtin; refine wpList_app_run hrn rfl rfl rfl rfl rfl ?_)
          go_roundw
          case rel => exact ⟨i + 1, _, by omega, by go_num, HIN, HLN, HOS⟩
          case measure => simp [intOf]; omega
    · have hie : i = nw := by omega
      have hti : (cutL l).take i = cutL l := List.take_of_length_le (by omega)
      have HPQ : Hid (P = if fmtQ q0 = l then some q0 else none) := Lib.hid (HOF.out q0 (by rw [← hti]; exact HIQ.out) (by rw [← hti]; exact HLE.out))
      have hqi : I64 q0.1 := ⟨by omega, by omega⟩
      clear hti HIQ HLE HOF HSH
      obtain ⟨hi6, hhi6⟩ : ∃ q, q = wo.heap.size := ⟨_, rfl⟩
      rw [← hhi6] at oat
      clear hcells X_f0 X_f1
      go_wp2_with fail
      refine (fmtQ_impl [.int .i64 q0.1, .slice ab an ac] q0 _ (rQ_mk hqi (oat.rd reads_As))).mono ?_
      rintro e w4 ⟨rfl, z4⟩
      have s5 := z4.size
      have hb5 := on hbo z4
      replace R_0 := (z4.cell (p := ⟨w.heap.size, 0, none⟩) (by simp only []; omega)).trans R_0
      replace R_f0 := (z4.frozen (p := ⟨w.heap.size, 0, none⟩) (by simp only []; omega)).trans R_f0
      replace R_1 := (z4.cell (p := ⟨w.heap.size, 1, none⟩) (by simp only []; omega)).trans R_1
      replace R_f1 := (z4.frozen (p := ⟨w.heap.size, 1, none⟩) (by simp only []; omega)).trans R_f1
      replace X_0 := (z4.cell (p := ⟨w.heap.size + 1, 0, none⟩) (by simp only []; omega)).trans X_0
      replace X_1 := (z4.cell (p := ⟨w.heap.size + 1, 1, none⟩) (by simp only []; omega)).trans X_1
      replace oat := oat.below z4 (by omega)
      by_cases hq : fmtQ q0 = l
      · obtain rfl : P = some q0 := by rw [HPQ.out, if_pos hq]
        rw [hq]
        clear hq HPQ
        go_wp2_with fail
        refine bodyPost_ret (v := .tuple #[.agg #[.int .i64 q0.1, .slice ab an ac], .bool true]) (by simp [results, Tryd.results6, go_sem, R_0, R_1, R_f0, R_f1]) rfl ⟨q0.1, ab, an, ac, rfl, ?_, ?_⟩
        · have o5 := own_off (p := ⟨w.heap.size, 1, none⟩) (u := .slice ab an ac) (own_off (p := ⟨w.heap.size, 0, none⟩) (u := .int .i64 q0.1) oat rfl (by simp only []; omega)) rfl (by simp only []; omega)
          exact oQ_mk hqi o5 (by omega) (by simp [World.setCell]; omega)
        · refine hb5.trans ?_
          repeat (refine Below.setCell ?_ (by simp only []; omega) _)
          exact Below.refl _ _
      · obtain rfl : P = none := by rw [HPQ.out, if_neg hq]
        have hne : (fmtQ q0 == l) = false := by rw [beq_eq_false_iff_ne]; exact hq
        clear hq HPQ
        go_wp2_with fail
        refine bodyPost_ret (v := .tuple #[.agg #[.int .i64 0, .slice none 0 0], .bool false]) (by simp [results, Tryd.results6, go_sem, R_0, R_1, R_f0, R_f1]) rfl ⟨0, none, 0, 0, rfl, ?_, ?_⟩
        · exact oQ_mk (x := (0, [])) (show I64 0 by constructor <;> decide) (own_nil_S (B := w.heap.size)) (Nat.le_refl _) (by have := hb5.size; simp [World.setCell]; omega)
        · refine hb5.trans ?_
          repeat (refine Below.setCell ?_ (by simp only []; omega) _)
          exact Below.refl _ _

end Go.Proofs.YtpgfkjcekhifiaaDoor

/- Contracts: the marks of a query are held; the query of a text is small. -/
namespace Go.Proofs.YtpgfkjcekhifiaaDoor
open Go.RowKit
set_option linter.unusedVariables false
set_option linter.unusedSimpArgs false
set_option synthInstance.maxSize 2000
set_option synthInstance.maxHeartbeats 400000

def zeroQ : DQ := (0, [])
theorem bulkA_le : ∀ {xs : List DA}, (∀ a ∈ xs, a.1.size = 1 ∧ a.2.length ≤ 3) → sumBy bulk_A xs ≤ 4 * xs.length
  | [], _ => by simp [sumBy]
  | a :: t, h => by
    have h1 := h a (by simp)
    have h2 := bulkA_le (fun b hb => h b (List.mem_cons_of_mem a hb))
    have e : bulk_A a = a.1.size + bulk_I a.2 := rfl
    unfold bulk_I at e
    simp only [sumBy, List.map_cons, List.sum_cons, List.length_cons] at h2 ⊢
    omega
theorem parQ_bulk (s : ByteArray) : cnt_Q ((parQ s).getD zeroQ) ≤ 100 ∧ bulk_Q ((parQ s).getD zeroQ) ≤ 50 := by
  cases hp : parQ s with
  | none => exact ⟨by decide, by decide⟩
  | some q =>
    obtain ⟨l, rfl⟩ : ∃ l, s = bs l := ⟨_, (bs_of s).symm⟩
    obtain ⟨_, hv, _⟩ := parQ_some hp
    obtain ⟨n, hq⟩ := QOk.of hv
    have h1 := bulkA_le (xs := q.2) (fun a ha => by
      have h2 := hq.name a ha
      simp only [nameB, Bool.and_eq_true, decide_eq_true_eq] at h2
      exact ⟨h2.1, hq.vlen a ha⟩)
    have h4 := hq.len
    have hb : bulk_Q q ≤ 50 := by
      show bulk_As q.2 ≤ 50
      unfold bulk_As
      omega
    have := cnt_le_Q q
    exact ⟨by show cnt_Q q ≤ 100; omega, hb⟩
/-- Some number at a cell of old, in a later world. -/
theorem someCell {w W : World} {p : Addr} (h : ∃ m, w.cell? p = some (.int .i64 m)) (hb : Below w.heap.size w W) : ∃ m, W.cell? p = some (.int .i64 m) := by
  obtain ⟨m, hm⟩ := h
  exact ⟨m, (hb.cell (p := p) (cell_lt hm)).trans hm⟩
theorem parQ_spec' (s : ByteArray) (w : World) (hs : s.size ≤ 1048576) :
    Calls Tryd.prog 5 #[.string s] w fun e w' => ∃ cs, e = .returned (.tuple #[.agg cs.toArray, .bool (parQ s).isSome]) ∧ Own oQ w.heap.size w'.heap.size w' cs ((parQ s).getD zeroQ) ∧ Below w.heap.size w w' := by
  obtain ⟨l, rfl⟩ : ∃ l, s = bs l := ⟨_, (bs_of s).symm⟩
  refine (parQ_spec l w hs).mono ?_
  rintro e w' ⟨cnt, b, n, c, rfl, h1, h2⟩
  exact ⟨_, rfl, h1, h2⟩
theorem parQ_impl' (s : ByteArray) (w : World) (hs : s.size ≤ 1048576) (hm : ∃ m, w.cell? ⟨0, 0, none⟩ = some (.int .i64 m)) :
    Calls Tryd.prog 6 #[.string s] w fun e w' => ∃ cs, e = .returned (.tuple #[.agg cs.toArray, .bool (parQ s).isSome]) ∧ Own oQ w.heap.size w'.heap.size w' cs ((parQ s).getD zeroQ) ∧ Below w.heap.size w w' := by
  obtain ⟨l, rfl⟩ : ∃ l, s = bs l := ⟨_, (bs_of s).symm⟩
  refine (parQ_impl l w hs hm).mono ?_
  rintro e w' ⟨cnt, b, n, c, rfl, h1, h2⟩
  exact ⟨_, rfl, h1, h2⟩

set_option maxRecDepth 100000 in
set_option maxHeartbeats 2000000 in
theorem heldAs_any (a : Option Addr) (n cap : Nat) (xs : List DA) (k : Int) (w : World) (h : Sl rA w a n (mk_As k xs)) (k0 : 1 ≤ k) (k1 : k + cnt_As xs ≤ 1000000000) :
    Calls Tryd.prog 33 #[.slice a n cap, .int .i64 k] w fun e w' => e = .returned (.int .i64 (k + cnt_As xs)) ∧ Below w.heap.size w w' := by
  have hl := h.len
  have hn := h.small
  unfold mk_As at hl h
  rw [mkL_len] at hl
  have HS := Lib.hid h
  clear h
  have hb0 : Below w.heap.size w w := Below.refl _ _
  go_enter Tryd.func33, Tryd.ntmps33
  go_wp2_with fail
  go_loopw [1, 5] (fun q i wr => ∃ (j : Nat) (p : Int), j ≤ n ∧ i = .int .i64 j ∧ q = .int .i64 p ∧ Hid (p = k + (sumBy cntE_A (xs.take j) : Int)) ∧ Below w.heap.size w wr) (fun _ i _ => n - (intOf i).toNat)
  case atStart => exact ⟨0, k, Nat.zero_le _, rfl, rfl, Lib.hid (by simp [sumBy]), Below.refl _ _⟩
  case round =>
    obtain ⟨j, p, hj, rfl, rfl, hp, hbr⟩ := hrel
    obtain ⟨wo, rfl⟩ : ∃ W, W = wr := ⟨_, rfl⟩
    have swo := hbr.size
    by_cases hlt : j < n
    · obtain ⟨r, hr⟩ : ∃ r, xs[j]? = some r := ⟨_, List.getElem?_eq_getElem (by omega)⟩
      obtain ⟨b, off, cs, x, rfl, hx, hrep, hc⟩ := HS.out.at hlt
      have hx2 := hx.out
      rw [mkL_get mkE_A cntE_A k xs j r hr, ← hp.out] at hx2
      obtain rfl := Option.some.inj hx2
      obtain ⟨vb, vn, vc, rfl, hs0, gv⟩ := rA_open hrep
      have e_lt : b < w.heap.size := cell_lt (hc 0 _ rfl)
      have e_0 : wo.cell? ⟨b, off + j * 2, none⟩ = some (.string (mtext p.toNat)) := (hbr.cell (p := ⟨b, off + j * 2, none⟩) e_lt).trans (by have h9 := hc 0 _ rfl; rw [← Nat.add_assoc] at h9; exact h9)
      have e_1 : wo.cell? ⟨b, off + j * 2 + 1, none⟩ = some (.slice vb vn vc) := (hbr.cell (p := ⟨b, off + j * 2 + 1, none⟩) e_lt).trans (by have h9 := hc 1 _ rfl; rw [← Nat.add_assoc] at h9; exact h9)
      have h1 := sumBy_take cntE_A hr
      have h2 := sumBy_le cntE_A hr
      have hp9 := hp.out
      have hk9 : sumBy cntE_A (xs.take j) + cntE_A r ≤ cnt_As xs := h2
      have hcr : cntE_A r = 1 + r.2.length := rfl
      have HMT := Lib.hid (fun W => markText_int p W (by omega) (by omega))
      have hH := fun W (hW : Below w.heap.size w W) => held_I _ r.2 (p + 1) W (rI.mono gv hW) (by omega) (by unfold cnt_I; omega)
      unfold cnt_I at hH
      obtain ⟨q1, hq1⟩ : ∃ q1 : Int, p + 1 + (r.2.length : Int) = q1 := ⟨_, rfl⟩
      rw [hq1] at hH
      have HH := Lib.hid hH
      have HP : Hid (q1 = k + (sumBy cntE_A (xs.take (j + 1)) : Int)) := Lib.hid (by rw [h1]; omega)
      have b1 : 0 ≤ q1 := by omega
      have b2 : IntKind.i64.wrap (p + 1) = p + 1 := IntWalk.i64_in _ (by omega)
      have b3 : wrap64 (p + 1) = p + 1 := IntWalk.wrap64_in _ ⟨by omega, by omega⟩
      obtain ⟨mt, hmt⟩ : ∃ q, mtext p.toNat = q := ⟨_, rfl⟩
      rw [hmt] at HMT e_0
      have hne : (mt.toList == mt.toList) = true := by simp
      clear hH hq1 h1 h2 hp9 hk9 hcr hp hx hx2 hr hrep hc gv hl hs0 hmt
      go_wp2_with fail
      have hdr : Below wo.heap.size wo wo.drew := (Below.refl _ _).drew
      refine wp_region_noPanic ?_
      refine wp_region_held_drew (S := (fun W => W.cell? ⟨b, off + j * 2, none⟩ = some (.string mt))) (by kernel_rfl) ?hS1 (fun hHeld => ?_)
      case hS1 => exact e_0
      refine wpAnyH_take (i := 0) (v := ?v0_2) rfl (by kernel_rfl) (by kernel_rfl) (by kernel_rfl) (fun _ _ _ h => h) (Or.inl ⟨by rfl, ?hy0_2⟩) (by assumption) ?rest0_2
      case hy0_2 => intro w hSw; (try dsimp only at hSw); go_simp; (try with_reducible rfl)
      try simp only [Act.put, List.getElem_toArray, List.getElem_cons_succ, List.getElem_cons_zero, List.setIfInBounds_toArray, List.set_cons_zero, List.set_cons_succ]
      refine wpAnyH_take (i := 1) (v := ?v1_3) rfl (by kernel_rfl) (by kernel_rfl) (by kernel_rfl) (fun _ _ _ h => h) (Or.inl ⟨by rfl, ?hy1_3⟩) (by assumption) ?rest1_3
      case hy1_3 => intro w hSw; (try dsimp only at hSw); go_simp; (try with_reducible rfl)
      try simp only [Act.put, List.getElem_toArray, List.getElem_cons_succ, List.getElem_cons_zero, List.setIfInBounds_toArray, List.set_cons_zero, List.set_cons_succ]
      refine wpAnyH_take (i := 2) (v := ?v2_4) rfl (by kernel_rfl) (by kernel_rfl) (by kernel_rfl) (fun _ _ _ h => h) (Or.inl ⟨by rfl, ?hy2_4⟩) (by assumption) ?rest2_4
      case hy2_4 => intro w hSw; (try dsimp only at hSw); go_simp; (try with_reducible rfl)
      try simp only [Act.put, List.getElem_toArray, List.getElem_cons_succ, List.getElem_cons_zero, List.setIfInBounds_toArray, List.set_cons_zero, List.set_cons_succ]
      refine wpAnyH_take (i := 3) (v := ?v3_5) rfl (by kernel_rfl) (by kernel_rfl) (by kernel_rfl) (fun _ _ _ h => h) (Or.inl ⟨by rfl, ?hy3_5⟩) (by assumption) ?rest3_5
      case hy3_5 => intro w hSw; (try dsimp only at hSw); go_simp; (try with_reducible rfl)
      try simp only [Act.put, List.getElem_toArray, List.getElem_cons_succ, List.getElem_cons_zero, List.setIfInBounds_toArray, List.set_cons_zero, List.set_cons_succ]
      refine wpAnyH_take (i := 4) (v := ?v4_6) rfl (by kernel_rfl) (by kernel_rfl) (by kernel_rfl) (fun _ _ _ h => h) (Or.inl ⟨by rfl, ?hy4_6⟩) (by assumption) ?rest4_6
      case hy4_6 => intro w hSw; (try dsimp only at hSw); go_simp; (try with_reducible rfl)
      try simp only [Act.put, List.getElem_toArray, List.getElem_cons_succ, List.getElem_cons_zero, List.setIfInBounds_toArray, List.set_cons_zero, List.set_cons_succ]
      refine wpAnyH_take (i := 5) (v := ?v5_7) rfl (by kernel_rfl) (by kernel_rfl) (by kernel_rfl) (fun _ _ _ h => h) (Or.inl ⟨by rfl, ?hy5_7⟩) (by assumption) ?rest5_7
      case hy5_7 => intro w hSw; (try dsimp only at hSw); go_simp; (try with_reducible rfl)
      try simp only [Act.put, List.getElem_toArray, List.getElem_cons_succ, List.getElem_cons_zero, List.setIfInBounds_toArray, List.set_cons_zero, List.set_cons_succ]
      refine wpAnyH_ready (rs := [6]) (by kernel_rfl) (by simp) ?_
      refine AllReadyH.cons rfl (fun K hK => ?_) AllReadyH.nil
      go_simp; (refine (HMT.out _).mono ?_); rintro e wM ⟨rfl, zz⟩; have zM : Below wo.heap.size wo wM := on hdr zz; have sM := zM.size; have e_0M := (zM.cell (p := ⟨b, off + j * 2, none⟩) (by simp only []; omega)).trans e_0; have e_1M := (zM.cell (p := ⟨b, off + j * 2 + 1, none⟩) (by simp only []; omega)).trans e_1; clear zz
      refine hK.out _ _ ?_ (fun hHeld => ?_)
      · exact e_0M
      clear hK K
      try simp only [Act.put, List.setIfInBounds_toArray, List.set_cons_zero, List.set_cons_succ]
      refine wpAnyH_take (i := 7) (v := ?v7_8) rfl (by kernel_rfl) (by kernel_rfl) (by kernel_rfl) (fun _ _ _ h => h) (Or.inl ⟨by rfl, ?hy7_8⟩) (by assumption) ?rest7_8
      case hy7_8 => intro w hSw; (try dsimp only at hSw); go_simp; (try with_reducible rfl)
      try simp only [Act.put, List.getElem_toArray, List.getElem_cons_succ, List.getElem_cons_zero, List.setIfInBounds_toArray, List.set_cons_zero, List.set_cons_succ]
      refine wpAnyH_done (by kernel_rfl) ?_ _
      refine NoPanic.normal ?_
      have hbM := on hbr zM
      clear e_0 e_1 hdr
      go_wp2_with fail
      refine (HH.out _ hbM).mono ?_
      rintro e w9 ⟨rfl, rfl⟩
      go_wp2_with fail
      go_roundw
      case rel => exact ⟨j + 1, q1, by omega, by go_num, rfl, HP.out, hbM⟩
      case measure => simp [intOf]; omega
    · have HE : Hid (p = k + (cnt_As xs : Int)) := Lib.hid (by rw [hp.out, sumBy_all _ (by omega)]; rfl)
      clear hp hl
      go_wp2_with fail
      go_ret
      exact ⟨ret_int HE.out, hbr⟩

theorem held_Q (us : List Value) (x : DQ) (k : Int) (w : World) (h : rQ.rep w us (mk_Q k x)) (k0 : 1 ≤ k) (k1 : k + cnt_Q x ≤ 1000000000) :
    Calls Tryd.prog 9 #[.agg us.toArray, .int .i64 k] w fun e w' => e = .returned (.int .i64 (k + cnt_Q x)) ∧ Below w.heap.size w w' := by
  obtain ⟨v, xs⟩ := x
  obtain ⟨ub, un, uc, hus, hs, g3⟩ := rQ_open h
  simp only [mk_Q] at hus g3 hs
  subst hus
  have t3 := rS_sl g3
  have HH := Lib.hid (fun W (hW : Below w.heap.size w W) => heldAs_any ub un uc xs k W (t3.below hW) k0 k1)
  obtain ⟨q, hq⟩ : ∃ q : Int, k + (cnt_Q (v, xs) : Int) = q := ⟨_, rfl⟩
  have hq0 : 0 ≤ q := by omega
  have HH2 : Hid (∀ W, Below w.heap.size w W → Calls Tryd.prog 33 #[.slice ub un uc, .int .i64 k] W fun e w' => e = .returned (.int .i64 q) ∧ Below W.heap.size W w') := Lib.hid (fun W hW => by rw [← hq]; exact HH.out W hW)
  rw [hq]
  clear h t3 g3 HH hq k1
  have hb0 : Below w.heap.size w w := Below.refl _ _
  go_enter Tryd.func9, Tryd.ntmps9
  obtain ⟨w1, hw1⟩ : ∃ W, W = w.alloc (.cells #[.int .i64 v, .slice ub un uc] 24) := ⟨_, rfl⟩
  have z1 : Below w.heap.size w w1 := by rw [hw1]; exact (Below.refl _ _).alloc (Nat.le_refl _) _
  have s1 : w1.heap.size = w.heap.size + 1 := by rw [hw1]; simp
  have hb1 := on hb0 z1
  have b_0 : w1.cell? ⟨w.heap.size, 0, none⟩ = some (.int .i64 v) := by rw [hw1]; exact box_cell (Below.refl _ _) rfl
  have b_1 : w1.cell? ⟨w.heap.size, 1, none⟩ = some (.slice ub un uc) := by rw [hw1]; exact box_cell (Below.refl _ _) rfl
  have raw1_b_0 := b_0
  have raw1_b_1 := b_1
  rw [hw1] at raw1_b_0 raw1_b_1
  go_wp2_with fail
  rw [← hw1]
  clear hw1
  clear raw1_b_0 raw1_b_1
  refine (HH2.out _ hb1).mono ?_
  rintro e w9 ⟨rfl, z9⟩
  have s2 := z9.size
  have hb2 := on hb1 z9
  replace b_0 := (z9.cell (p := ⟨w.heap.size, 0, none⟩) (by simp only []; omega)).trans b_0
  replace b_1 := (z9.cell (p := ⟨w.heap.size, 1, none⟩) (by simp only []; omega)).trans b_1
  go_wp2_with fail
  go_ret
  exact ⟨rfl, hb2⟩

end Go.Proofs.YtpgfkjcekhifiaaDoor
