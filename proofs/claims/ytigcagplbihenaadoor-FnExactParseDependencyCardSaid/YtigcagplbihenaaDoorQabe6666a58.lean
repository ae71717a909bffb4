/- Texts joined for one claim: Help, Open, QuietB, Shape, App, Help2, Name, OpenS, Wrap, UniI, OI, Part, Gen, Acc, KDp, KII, KIn, KAn, KT, Mark, RowB. -/
import Derived.Test.YtigcagplbihenaaDoorRows
import Derived.Test.YtigcagplbihenaaDoorQ1400b22509
import Derived.ProofKit
import Derived.OpenShut
import Derived.ShutString
import Derived.ChangeOld
import Derived.Below
import Derived.Deep.Slices
import Derived.Lib.SmallJoins
import Derived.Lib.QuietBelow
import Derived.Deep.Strs
import Derived.HandedShaped
import Derived.LaidLaws
import Derived.Deep.RegionHeld3

/- Contracts: the laws' own helpers on slices of ints: copying, comparing, marking, looking for the marks. -/
namespace Go.Proofs.YtigcagplbihenaaDoor
open Go.RowKit
set_option linter.unusedVariables false
set_option linter.unusedSimpArgs false

/-- The first k are copied, the rest is nought yet. -/
def copied (xs : List Int) (n k : Nat) : List Int := xs.take k ++ List.replicate (n - k) 0

theorem copied_step (xs : List Int) (n k : Nat) (hn : xs.length = n) (hk : k < n) : (copied xs n k).set k (xs.getD k 0) = copied xs n (k + 1) := by
  unfold copied
  rw [take_snoc xs k (by omega), List.set_append_right _ _ (by simp; omega)]
  rw [show k - (xs.take k).length = 0 by simp; omega, show n - k = (n - (k + 1)) + 1 by omega, List.replicate_succ]
  simp

set_option maxHeartbeats 400000 in
theorem toIntS_any (a : Option Addr) (n cap : Nat) (xs : List Int) (w : World) (h : Ints w a n xs) (hsm : n ≤ 1000000000000) :
    Calls Tryd.prog 64 #[.slice a n cap] w fun e w' => ∃ b c, e = .returned (.slice b n c) ∧ OwnInts w.heap.size w' (.slice b n c) n xs ∧ Below w.heap.size w w' := by
  have hl := h.len
  have hrng := h.rng
  go_enter Tryd.func64, Tryd.ntmps64
  go_wp2_with (at_make; refine wpList_mk _ _ n hsm rfl rfl rfl rfl ?_; intro w1 hown1 hb1 hz1)
  go_wp2
  go_loopw [4] (fun k wr => ∃ j : Nat, j ≤ n ∧ k = .int .i64 j ∧ wr.ownsRow w.heap.size 3 1 (.slice (some ⟨w.heap.size, 0, none⟩) n n) n ((copied xs n j).map (Value.int .i64)) ∧ Below w.heap.size w wr)
    (fun k _ => n - (intOf k).toNat)
  case atStart => exact ⟨0, Nat.zero_le _, rfl, hown1, hb1⟩
  case round =>
    obtain ⟨j, hj, rfl, hown, hb⟩ := hrel
    clear hown1 hb1
    have hn := h.small
    by_cases hlt : j < n
    · replace h := h.below hb
      obtain ⟨b, off, x, rfl, hc, hx, hx1, hx2⟩ := h.get hlt
      have hst := hown.stored j (.int .i64 x)
      have hfz := hown.frozenAt j
      obtain ⟨u, hu⟩ : ∃ u, wr.cell? ⟨w.heap.size, j, none⟩ = some u := by
        rw [hown.cellAt j (by omega)]; exact ⟨_, List.getElem?_eq_getElem (by have := hown.1; omega)⟩
      have HO : Hid ((wr.setCell ⟨w.heap.size, j, none⟩ (.int .i64 x)).ownsRow w.heap.size 3 1 (.slice (some ⟨w.heap.size, 0, none⟩) n n) n ((copied xs n (j + 1)).map (Value.int .i64))) := by
        have e : (copied xs n (j + 1)).map (Value.int .i64) = ((copied xs n j).map (Value.int .i64)).set j (.int .i64 x) := by
          rw [← copied_step xs n j hl hlt, ← hx.out, List.map_set]
        rw [e]; exact hst.1
      clear hst hown h hl
      go_wp2
      go_roundw
      case rel => exact ⟨j + 1, by omega, by go_num, HO.out, hb.setCell (Nat.le_refl _) _⟩
      case measure => simp [intOf]; omega
    · have e : copied xs n j = xs := by
        unfold copied
        rw [List.take_of_length_le (by omega), show n - j = 0 by omega]; simp
      have HO := Lib.hid (show OwnInts w.heap.size wr (.slice (some ⟨w.heap.size, 0, none⟩) n n) n xs from ⟨hl, by rw [← e]; exact hown, hrng⟩)
      clear hown e h hl
      go_wp2
      go_ret
      exact ⟨_, _, rfl, HO.out, hb⟩

theorem take_same {xs ys : List Int} {k : Nat} (h1 : k < xs.length) (h2 : k < ys.length) (he : xs.take k = ys.take k) (hx : xs.getD k 0 = ys.getD k 0) : xs.take (k + 1) = ys.take (k + 1) := by
  rw [take_snoc xs k h1, take_snoc ys k h2, he, hx]

set_option maxHeartbeats 400000 in
theorem eqIntS_any (a b : Option Addr) (n m cap cap' : Nat) (xs ys : List Int) (w : World) (h : Ints w a n xs) (h' : Ints w b m ys) :
    Calls Tryd.prog 68 #[.slice a n cap, .slice b m cap'] w fun e w' => e = .returned (.bool (decide (xs = ys))) ∧ Drew w w' := by
  have hl := h.len
  have hl' := h'.len
  have hn := h.small
  have hn' := h'.small
  by_cases hnm : n = m
  · subst hnm
    go_enter Tryd.func68, Tryd.ntmps68
    go_wp2
    go_loopw [5] (fun k wr => ∃ j : Nat, j ≤ n ∧ k = .int .i64 j ∧ Hid (xs.take j = ys.take j) ∧ Drew w wr) (fun k _ => n - (intOf k).toNat)
    case atStart => exact ⟨0, Nat.zero_le _, rfl, rfl, Drew.refl _⟩
    case round =>
      obtain ⟨j, hj, rfl, hE, hdr⟩ := hrel
      replace h := h.drew hdr
      replace h' := h'.drew hdr
      by_cases hlt : j < n
      · obtain ⟨b1, o1, x, rfl, hc, hx, hx1, hx2⟩ := h.get hlt
        obtain ⟨b2, o2, y, rfl, hc', hy, hy1, hy2⟩ := h'.get hlt
        by_cases hxy : x = y
        · have HE := Lib.hid (take_same (by omega) (by omega) hE.out ((hx.out.trans hxy).trans hy.out.symm))
          subst hxy
          clear h h' hl hl'
          go_wp2
          go_quiet (fail)
          go_wp2
          go_roundw
          case rel => exact ⟨j + 1, by omega, by go_num, HE.out, hdr.step _⟩
          case measure => simp [intOf]; omega
        · have hne : (x != y) = true := bne_iff_ne.2 hxy
          have HE := Lib.hid (show decide (xs = ys) = false by
            simp only [decide_eq_false_iff_not]; intro e; subst e; exact hxy (hx.out.symm.trans hy.out))
          clear h h' hl hl'
          go_wp2
          go_quiet (fail)
          go_wp2
          go_ret
          exact ⟨ret_bool HE.out.symm, hdr.step _⟩
      · have HE := Lib.hid (show decide (xs = ys) = true by
          have e := hE.out
          rw [List.take_of_length_le (by omega), List.take_of_length_le (by omega)] at e
          simp [e])
        clear h h' hl hl'
        go_wp2
        go_ret
        exact ⟨ret_bool HE.out.symm, hdr⟩
  · have HE := Lib.hid (show decide (xs = ys) = false by
      simp only [decide_eq_false_iff_not]; intro e; subst e; omega)
    have hne : ((n : Int) != (m : Int)) = true := by rw [bne_iff_ne]; omega
    clear hl hl' h h'
    go_enter Tryd.func68, Tryd.ntmps68
    go_wp2
    go_ret
    exact ⟨ret_bool HE.out.symm, Drew.refl _⟩

/-- The marks k, k + 1, .. in n places. -/
def marks (k : Int) (n : Nat) : List Int := (List.range n).map fun i : Nat => k + (i : Int)
theorem marks_length (k : Int) (n : Nat) : (marks k n).length = n := by simp [marks]
theorem marks_get (k : Int) (n i : Nat) (h : i < n) : (marks k n).getD i 0 = k + i := by simp [marks, h]
theorem marks_rng (k : Int) (n : Nat) (h0 : 0 ≤ k) (h1 : k ≤ 1000000000000) (h2 : n ≤ 1000000000000) : AllI64 (marks k n) := by
  intro x hx
  simp only [marks, List.mem_map, List.mem_range] at hx
  obtain ⟨i, hi, rfl⟩ := hx
  constructor <;> omega
/-- The first j are marked, the rest reads as it did. -/
def marked (k : Int) (xs : List Int) (j : Nat) : List Int := marks k j ++ xs.drop j
theorem marked_step (k : Int) (xs : List Int) (j : Nat) (h : j < xs.length) : (marked k xs j).set j (k + j) = marked k xs (j + 1) := by
  unfold marked
  rw [List.set_append_right _ _ (by simp [marks]), drop_cons xs j h]
  simp [marks, List.range_succ]
theorem marked_all (k : Int) (xs : List Int) : marked k xs xs.length = marks k xs.length := by simp [marked]

set_option maxHeartbeats 400000 in
theorem markIntS_any (lo hi : Nat) (a : Option Addr) (n cap : Nat) (xs : List Int) (k : Int) (w : World) (h : OwnInts lo w (.slice a n cap) n xs) (hb : ∀ x, a = some x → x.block < hi)
    (k0 : 0 ≤ k) (k1 : k ≤ 1000000000000) (hsm : n ≤ 1000000000000) :
    Calls Tryd.prog 72 #[.slice a n cap, .int .i64 k] w fun e w' => e = .returned (.int .i64 (k + n)) ∧ OwnInts lo w' (.slice a n cap) n (marks k n) ∧ Kept lo hi w w' := by
  have hl := h.len
  have hrow := h.row
  clear h
  go_enter Tryd.func72, Tryd.ntmps72
  go_wp2
  go_loopw [1, 5] (fun q i wr => ∃ j : Nat, j ≤ n ∧ i = .int .i64 j ∧ q = .int .i64 (k + j) ∧ wr.ownsRow lo 3 1 (.slice a n cap) n ((marked k xs j).map (Value.int .i64)) ∧ Kept lo hi w wr)
    (fun _ i _ => n - (intOf i).toNat)
  case atStart => exact ⟨0, Nat.zero_le _, rfl, by simp, by simpa [marked, marks] using hrow, Kept.refl _ _ _⟩
  case round =>
    obtain ⟨j, hj, rfl, rfl, hown, hk⟩ := hrel
    clear hrow
    by_cases hlt : j < n
    · obtain ⟨g, rfl, hlo, hc, hfz⟩ := own_cells hown j hlt
      have hhi := hb _ rfl
      have hst := hown.stored j (.int .i64 (k + j))
      obtain ⟨u, hu⟩ : ∃ u, wr.cell? ⟨g, j, none⟩ = some u := by
        rw [hc]; exact ⟨_, List.getElem?_eq_getElem (by have := hown.1; omega)⟩
      have HO : Hid ((wr.setCell ⟨g, j, none⟩ (.int .i64 (k + j))).ownsRow lo 3 1 (.slice (some ⟨g, 0, none⟩) n cap) n ((marked k xs (j + 1)).map (Value.int .i64))) := by
        rw [← marked_step k xs j (by omega), List.map_set]; exact hst.1
      clear hst hown hl hb hc
      go_wp2
      go_roundw
      case rel => exact ⟨j + 1, by omega, by go_num, by go_num, HO.out, hk.setCell (p := ⟨g, j, none⟩) hlo hhi _⟩
      case measure => simp [intOf]; omega
    · obtain rfl : j = n := by omega
      have HO := Lib.hid (show OwnInts lo wr (.slice a j cap) j (marks k j) from ⟨marks_length _ _, by rw [← hl, marked_all] at hown; rw [← hl] ; exact hown, marks_rng _ _ k0 k1 hsm⟩)
      clear hown hl hb
      go_wp2
      go_ret
      exact ⟨rfl, HO.out, hk⟩

set_option maxHeartbeats 400000 in
theorem heldIntS_any (a : Option Addr) (n cap : Nat) (k : Int) (w : World) (h : Ints w a n (marks k n)) (k0 : 0 ≤ k) (k1 : k ≤ 1000000000000) (hsm : n ≤ 1000000000000) :
    Calls Tryd.prog 73 #[.slice a n cap, .int .i64 k] w fun e w' => e = .returned (.int .i64 (k + n)) ∧ w = w' := by
  go_enter Tryd.func73, Tryd.ntmps73
  go_wp2
  go_loop [1, 5] (fun q i => ∃ j : Nat, j ≤ n ∧ i = .int .i64 j ∧ q = .int .i64 (k + j)) (fun _ i => n - (intOf i).toNat)
  case atStart => exact ⟨0, Nat.zero_le _, rfl, by simp⟩
  case round =>
    obtain ⟨j, hj, rfl, rfl⟩ := hrel
    by_cases hlt : j < n
    · obtain ⟨b, o, x, rfl, hc, hx, hx1, hx2⟩ := h.get hlt
      obtain rfl : k + j = x := by rw [← hx.out, marks_get _ _ _ hlt]
      clear h hx
      go_wp2
      go_round
      case rel => exact ⟨j + 1, by omega, by go_num, by go_num⟩
      case measure => simp [intOf]; omega
    · obtain rfl : j = n := by omega
      clear h
      go_wp2
      go_ret
      exact ⟨rfl, rfl⟩

end Go.Proofs.YtigcagplbihenaaDoor

/- What the arguments of a law read as: the form's own reading opened, kind by kind, to the words of the contracts. -/
namespace Go.Proofs.YtigcagplbihenaaDoor
open Go.ChangeShapes Go.WideShapes Go.ChangeAt Go.RowKit
set_option maxRecDepth 100000

theorem own_knob : ownKnob Tryd.prog.godebug = none := by kernel_rfl
theorem laid_out : laidOutB Tryd.prog = true := by kernel_rfl

section
variable {H : Type} {enc : TypeId × Value → H} {W : World} {d : DataW H} {ps : List MemPlace}

/-- An int. -/
def int_in (_w : World) (v : Value) : Prop := ∃ x, v = .int .i64 x ∧ I64 x
/-- A slice of ints. -/
def ints_in (w : World) (v : Value) : Prop := ∃ a n cap xs, v = .slice a n cap ∧ Ints w a n xs

theorem wf_I64 {x : Int} (h : (Lit.int .i64 x).wf = true) : I64 x := by
  exact bounds_i64 h

theorem open_int_in {v : Value} (hv : Value.okWide Tryd.prog W .any 0 3 v) (h : DataW.Trod enc Tryd.prog W 0 (fun _ => true) true 3 v d ps) : int_in W v := by
  obtain ⟨x, rfl, _, _, hw⟩ := open_int Tryd.underlying3 hv h
  exact ⟨x, rfl, wf_I64 hw⟩

theorem addr_none {w : World} {a : Addr} {v : Value} (h : w.cell? a = some v) : a = ⟨a.block, a.off, none⟩ := by
  obtain ⟨b, o, s⟩ := a
  cases s with
  | none => rfl
  | some x => simp only [World.cell?] at h; split at h <;> simp at h

theorem trod_ints {v : Value} {fuel : Nat} {x : DataW H × List MemPlace} (h : DataW.trod enc Tryd.prog W 0 (fun _ => true) true fuel 33 [v] = some x) : ints_in W v := by
  rcases open_ints Tryd.underlying33 Tryd.underlying3 (by kernel_rfl) h with ⟨hcs, _⟩ | ⟨a, l, c, zs, hcs, _, hl, hm, hz, _, hcell, hwz⟩
  · simp at hcs
    exact ⟨none, 0, 0, [], hcs, rfl, by omega, fun i hi => by omega, by intro x hx; cases hx⟩
  · simp at hcs hz
    refine ⟨some a, l, c, zs.take l, hcs, by simp; omega, by unfold maxLen at hm; omega, fun i hi => ?_, fun x hx => wf_I64 (hwz x (List.mem_of_mem_take hx))⟩
    have h0 := hcell 0 (by omega)
    have e := addr_none (by simpa [Addr.add] using h0)
    have hi' := hcell i (by omega)
    refine ⟨a.block, a.off, congrArg some e, ?_⟩
    rw [e] at hi'
    have e2 : (⟨a.block, a.off, none⟩ : Addr).add i = ⟨a.block, a.off + i, none⟩ := by
      unfold Addr.add; split
      · rename_i h; subst h; rfl
      · rfl
    rw [e2] at hi'
    rw [hi']
    congr 2
    simp [List.getD_eq_getElem?_getD, hi]

theorem open_ints_in {v : Value} (hv : Value.okWide Tryd.prog W .any 0 33 v) (h : DataW.Trod enc Tryd.prog W 0 (fun _ => true) true 33 v d ps) : ints_in W v := by
  obtain ⟨a, l, c, rfl⟩ := okWide_slice Tryd.underlying33 hv
  obtain ⟨fuel, hf⟩ := h
  exact trod_ints (by simpa [Value.cells] using hf)

end
end Go.Proofs.YtigcagplbihenaaDoor

/- Contracts met in a region that draws its order and makes memory. -/
namespace Go.Proofs.YtigcagplbihenaaDoor
open Go.RowKit Go.Sort
set_option linter.unusedVariables false

theorem reg_same {P : Program} {f : FuncId} {args : Array Value} {w : World} {d : Nat} {os : Array Obj} {v : Value}
    (h : Calls P f args (grow (redrawn w d) os) fun e w' => e = .returned v ∧ grow (redrawn w d) os = w') : Calls P f args (grow (redrawn w d) os) fun e w'' => e = .returned v ∧ ∃ p : Regrown, w'' = grow (redrawn w p.d) p.os :=
  h.mono fun _ _ ⟨he, hb⟩ => ⟨he, ⟨d, os⟩, hb.symm⟩
theorem reg_drew {P : Program} {f : FuncId} {args : Array Value} {w : World} {d : Nat} {os : Array Obj} {v : Value}
    (h : Calls P f args (grow (redrawn w d) os) fun e w' => e = .returned v ∧ Drew (grow (redrawn w d) os) w') : Calls P f args (grow (redrawn w d) os) fun e w'' => e = .returned v ∧ ∃ p : Regrown, w'' = grow (redrawn w p.d) p.os :=
  Calls.regrown_of (h.mono fun _ _ ⟨he, hb⟩ => ⟨he, hb.below _⟩)
theorem box_frozen {w wr : World} {cs : Array Value} {T : TypeId} {i : Nat} (hb : Below (w.heap.size + 1) (w.alloc (.cells cs T)) wr) : wr.frozen? ⟨w.heap.size, i, none⟩ = false := by
  rw [hb.frozen (p := ⟨w.heap.size, i, none⟩) (Nat.lt_succ_self _)]
  have h : (w.alloc (.cells cs T)).heap[w.heap.size]? = some (.cells cs T) := heap_alloc_new w _
  simp only [World.frozen?, h]
  simp

end Go.Proofs.YtigcagplbihenaaDoor

/- Data in memory, by shape: how it reads (RS), and how it is owned, block by block (OS); what a later world keeps of it. -/
namespace Go.Proofs.YtigcagplbihenaaDoor
open Go.RowKit
set_option linter.unusedVariables false
set_option linter.unusedSimpArgs false

/-- A shape that can be read: so many cells, and what they read as. -/
structure RS (α : Type) where
  size : Nat
  rep : World → List Value → α → Prop
  len : ∀ {w cs x}, rep w cs x → cs.length = size
  mono : ∀ {w w' cs x}, rep w cs x → Below w.heap.size w w' → rep w' cs x

/-- A shape that is owned: so many cells, what they read as, and the blocks where it lies. -/
structure OS (α : Type) where
  size : Nat
  rep : World → List Value → α → List Nat → Prop
  len : ∀ {w cs x fp}, rep w cs x fp → cs.length = size
  frame : ∀ {w w' cs x fp}, rep w cs x fp → (∀ k ∈ fp, w'.heap[k]? = w.heap[k]?) → rep w' cs x fp
  lt : ∀ {w cs x fp}, rep w cs x fp → ∀ k ∈ fp, k < w.heap.size

def R.int : RS Int := ⟨1, fun _ cs x => cs = [.int .i64 x] ∧ I64 x, fun h => by rw [h.1]; rfl, fun h _ => h⟩
def R.str : RS ByteArray := ⟨1, fun _ cs s => cs = [.string s] ∧ s.size ≤ 9223372036854775807, fun h => by rw [h.1]; rfl, fun h _ => h⟩
def R.bool : RS Bool := ⟨1, fun _ cs b => cs = [.bool b], fun h => by rw [h]; rfl, fun h _ => h⟩
def R.pair {α β : Type} (a : RS α) (b : RS β) : RS (α × β) :=
  ⟨a.size + b.size, fun w cs x => ∃ c1 c2, cs = c1 ++ c2 ∧ a.rep w c1 x.1 ∧ b.rep w c2 x.2,
    fun ⟨c1, c2, h, h1, h2⟩ => by rw [h, List.length_append, a.len h1, b.len h2],
    fun ⟨c1, c2, h, h1, h2⟩ hb => ⟨c1, c2, h, a.mono h1 hb, b.mono h2 hb⟩⟩

/-- A slice .slice a n cap whose elements read by the shape r as xs. -/
structure Sl {α : Type} (r : RS α) (w : World) (a : Option Addr) (n : Nat) (xs : List α) : Prop where
  len : xs.length = n
  small : n ≤ 9223372036854775807
  elem : ∀ i x, xs[i]? = some x → ∃ b off cs, a = some ⟨b, off, none⟩ ∧ r.rep w cs x ∧ ∀ j u, cs[j]? = some u → w.cell? ⟨b, off + (i * r.size + j), none⟩ = some u

theorem Sl.below {α : Type} {r : RS α} {w w' : World} {a : Option Addr} {n : Nat} {xs : List α} (h : Sl r w a n xs) (hb : Below w.heap.size w w') : Sl r w' a n xs :=
  ⟨h.len, h.small, fun i x hx => by
    obtain ⟨b, off, cs, ha, hr, hc⟩ := h.elem i x hx
    refine ⟨b, off, cs, ha, r.mono hr hb, fun j u hu => ?_⟩
    have := hc j u hu
    rw [hb.cell (p := ⟨b, off + (i * r.size + j), none⟩) (cell_lt this)]
    exact this⟩
theorem Sl.drew {α : Type} {r : RS α} {w w' : World} {a : Option Addr} {n : Nat} {xs : List α} (h : Sl r w a n xs) (hd : Drew w w') : Sl r w' a n xs := h.below (hd.below _)
theorem Sl.drewN {α : Type} {r : RS α} {w : World} {a : Option Addr} {n : Nat} {xs : List α} (h : Sl r w a n xs) (m : Nat) : Sl r (w.drewN m) a n xs := h.drew ⟨m, rfl⟩
def R.slice {α : Type} (r : RS α) : RS (List α) :=
  ⟨1, fun w cs xs => ∃ a n cap, cs = [.slice a n cap] ∧ n ≤ cap ∧ cap ≤ 9223372036854775807 ∧ Sl r w a n xs, fun ⟨_, _, _, h, _⟩ => by rw [h]; rfl,
    fun ⟨a, n, cap, h, h1, h2, hs⟩ hb => ⟨a, n, cap, h, h1, h2, hs.below hb⟩⟩

/-- A slice of ints, both ways. -/
theorem Ints.sl {w : World} {a : Option Addr} {n : Nat} {xs : List Int} (h : Ints w a n xs) : Sl R.int w a n xs :=
  ⟨h.len, h.small, fun i x hx => by
    have hi : i < n := by rw [← h.len]; exact (List.getElem?_eq_some_iff.1 hx).1
    obtain ⟨b, off, ha, hc⟩ := h.cell i hi
    have e : xs.getD i 0 = x := by rw [List.getD_eq_getElem?_getD, hx]; rfl
    rw [e] at hc
    refine ⟨b, off, [.int .i64 x], ha, ⟨rfl, h.rng x (List.mem_of_getElem? hx)⟩, fun j u hu => ?_⟩
    cases j with
    | zero => simp at hu; subst hu; simpa [R.int] using hc
    | succ j => simp at hu⟩
theorem Sl.ints {w : World} {a : Option Addr} {n : Nat} {xs : List Int} (h : Sl R.int w a n xs) : Ints w a n xs :=
  ⟨h.len, h.small, fun i hi => by
    have hx : xs[i]? = some (xs.getD i 0) := by
      rw [List.getD_eq_getElem?_getD, List.getElem?_eq_getElem (by rw [h.len]; exact hi)]; rfl
    obtain ⟨b, off, cs, ha, ⟨rfl, _⟩, hc⟩ := h.elem i _ hx
    exact ⟨b, off, ha, by simpa [R.int] using hc 0 _ rfl⟩, fun x hx => by
    obtain ⟨i, hi, rfl⟩ := List.mem_iff_getElem.1 hx
    obtain ⟨b, off, cs, ha, ⟨_, h2⟩, hc⟩ := h.elem i _ (List.getElem?_eq_getElem hi)
    exact h2⟩
/-- An element of one cell. -/
theorem Sl.get {α : Type} {r : RS α} {w : World} {a : Option Addr} {n : Nat} {xs : List α} (h : Sl r w a n xs) (hr : r.size = 1) {k : Nat} (hk : k < n) :
    ∃ b off v x, a = some ⟨b, off, none⟩ ∧ w.cell? ⟨b, off + k, none⟩ = some v ∧ Hid (xs[k]? = some x) ∧ r.rep w [v] x := by
  have hk' : k < xs.length := by rw [h.len]; exact hk
  obtain ⟨b, off, cs, ha, hrep, hc⟩ := h.elem k _ (List.getElem?_eq_getElem hk')
  have hl := r.len hrep
  rw [hr] at hl
  match cs, hl with
  | [v], _ => exact ⟨b, off, v, _, ha, by simpa [hr] using hc 0 v rfl, List.getElem?_eq_getElem hk', hrep⟩

/-- A slice of slices of ints: one row. -/
theorem Sl.row {w : World} {a : Option Addr} {n : Nat} {xss : List (List Int)} (h : Sl (R.slice R.int) w a n xss) {k : Nat} (hk : k < n) :
    ∃ b off r m c xs, a = some ⟨b, off, none⟩ ∧ w.cell? ⟨b, off + k, none⟩ = some (.slice r m c) ∧ Hid (xss[k]? = some xs) ∧ Ints w r m xs ∧ m ≤ c ∧ c ≤ 9223372036854775807 := by
  obtain ⟨b, off, v, xs, ha, hc, hx, r, m, c, hv, h1, h2, hs⟩ := h.get rfl hk
  simp at hv
  subst hv
  exact ⟨b, off, r, m, c, xs, ha, hc, hx, hs.ints, h1, h2⟩

/-! Owned shapes -/

/-- The block of a slice value, as a list. -/
def bl (v : Value) : List Nat := v.ownBlock.toList

def O.int : OS Int := ⟨1, fun _ cs x fp => cs = [.int .i64 x] ∧ I64 x ∧ fp = [], fun h => by rw [h.1]; rfl, fun h _ => h, fun h k hk => by rw [h.2.2] at hk; cases hk⟩
def O.str : OS ByteArray := ⟨1, fun _ cs s fp => cs = [.string s] ∧ s.size ≤ 9223372036854775807 ∧ fp = [], fun h => by rw [h.1]; rfl, fun h _ => h, fun h k hk => by rw [h.2.2] at hk; cases hk⟩
def O.bool : OS Bool := ⟨1, fun _ cs b fp => cs = [.bool b] ∧ fp = [], fun h => by rw [h.1]; rfl, fun h _ => h, fun h k hk => by rw [h.2] at hk; cases hk⟩
def O.pair {α β : Type} (a : OS α) (b : OS β) : OS (α × β) :=
  ⟨a.size + b.size, fun w cs x fp => ∃ c1 c2 f1 f2, cs = c1 ++ c2 ∧ fp = f1 ++ f2 ∧ a.rep w c1 x.1 f1 ∧ b.rep w c2 x.2 f2,
    fun ⟨c1, c2, f1, f2, h, _, h1, h2⟩ => by rw [h, List.length_append, a.len h1, b.len h2],
    fun ⟨c1, c2, f1, f2, h, hf, h1, h2⟩ hk => ⟨c1, c2, f1, f2, h, hf, a.frame h1 (fun k h => hk k (by rw [hf]; exact List.mem_append_left _ h)), b.frame h2 (fun k h => hk k (by rw [hf]; exact List.mem_append_right _ h))⟩,
    fun ⟨c1, c2, f1, f2, h, hf, h1, h2⟩ k hk => by
      rw [hf] at hk
      rcases List.mem_append.1 hk with hk | hk
      · exact a.lt h1 k hk
      · exact b.lt h2 k hk⟩

/-- Element by element. -/
def OS.rows {α : Type} (o : OS α) (w : World) : List (List Value) → List α → List (List Nat) → Prop
  | [], [], [] => True
  | c :: cs, x :: xs, f :: fs => o.rep w c x f ∧ o.rows w cs xs fs
  | _, _, _ => False
theorem OS.rows_frame {α : Type} (o : OS α) {w w' : World} : ∀ {css : List (List Value)} {xs : List α} {fps : List (List Nat)}, o.rows w css xs fps → (∀ k ∈ fps.flatten, w'.heap[k]? = w.heap[k]?) → o.rows w' css xs fps
  | [], [], [], _, _ => trivial
  | c :: cs, x :: xs, f :: fs, h, hk => ⟨o.frame h.1 (fun k hf => hk k (by simp [hf])), o.rows_frame h.2 (fun k hf => hk k (by simp only [List.flatten_cons, List.mem_append]; exact .inr hf))⟩
theorem OS.rows_lt {α : Type} (o : OS α) {w : World} : ∀ {css : List (List Value)} {xs : List α} {fps : List (List Nat)}, o.rows w css xs fps → ∀ k ∈ fps.flatten, k < w.heap.size
  | [], [], [], _, k, hk => by simp at hk
  | c :: cs, x :: xs, f :: fs, h, k, hk => by
    simp only [List.flatten_cons, List.mem_append] at hk
    rcases hk with hk | hk
    · exact o.lt h.1 k hk
    · exact o.rows_lt h.2 k hk
theorem OS.rows_len {α : Type} (o : OS α) {w : World} : ∀ {css : List (List Value)} {xs : List α} {fps : List (List Nat)}, o.rows w css xs fps → css.length = xs.length ∧ fps.length = xs.length ∧ css.flatten.length = xs.length * o.size
  | [], [], [], _ => by simp
  | c :: cs, x :: xs, f :: fs, h => by
    obtain ⟨h1, h2, h3⟩ := o.rows_len h.2
    have := o.len h.1
    simp [h1, h2, h3, this, Nat.add_mul]
    omega
theorem OS.rows_snoc {α : Type} (o : OS α) {w : World} {c : List Value} {x : α} {f : List Nat} (hx : o.rep w c x f) : ∀ {css : List (List Value)} {xs : List α} {fps : List (List Nat)}, o.rows w css xs fps → o.rows w (css ++ [c]) (xs ++ [x]) (fps ++ [f])
  | [], [], [], _ => ⟨hx, trivial⟩
  | _ :: _, _ :: _, _ :: _, h => ⟨h.1, o.rows_snoc hx h.2⟩
theorem OS.rows_get {α : Type} (o : OS α) {w : World} : ∀ {css : List (List Value)} {xs : List α} {fps : List (List Nat)} (h : o.rows w css xs fps) (i : Nat) (x : α), xs[i]? = some x → ∃ c f, css[i]? = some c ∧ fps[i]? = some f ∧ o.rep w c x f
  | [], [], [], _, i, y, hy => by simp at hy
  | c :: cs, x :: xs, f :: fs, h, 0, y, hy => by simp at hy; subst hy; exact ⟨c, f, rfl, rfl, h.1⟩
  | c :: cs, x :: xs, f :: fs, h, i + 1, y, hy => by simpa using o.rows_get h.2 i y (by simpa using hy)
theorem OS.rows_set {α : Type} (o : OS α) {w : World} : ∀ {css : List (List Value)} {xs : List α} {fps : List (List Nat)} (h : o.rows w css xs fps) (i : Nat) (c : List Value) (x : α) (f : List Nat), css[i]? = some c → fps[i]? = some f → o.rep w c x f → o.rows w css (xs.set i x) fps
  | [], [], [], _, i, _, x, _, h1, _, _ => by simp at h1
  | c :: cs, y :: xs, f :: fs, h, 0, _, x, _, h1, h2, hr => by simp at h1 h2; subst h1 h2; exact ⟨hr, h.2⟩
  | c :: cs, y :: xs, f :: fs, h, i + 1, _, x, _, h1, h2, hr => ⟨h.1, o.rows_set h.2 i _ x _ (by simpa using h1) (by simpa using h2) hr⟩

theorem own_frame {w w' : World} {B e size : Nat} {v : Value} {n : Nat} {us : List Value} (h : w.ownsRow B e size v n us) (hk : ∀ k ∈ bl v, w'.heap[k]? = w.heap[k]?) : w'.ownsRow B e size v n us := by
  refine ⟨h.1, ?_⟩
  rcases h.2 with h2 | ⟨g, cap, cur, rfl, hB, hg, r⟩
  · exact .inl h2
  · exact .inr ⟨g, cap, cur, rfl, hB, by rw [hk g (by simp [bl, Value.ownBlock])]; exact hg, r⟩

def O.slice {α : Type} (t : TypeId) (o : OS α) : OS (List α) :=
  ⟨1, fun w cs xs fp => ∃ v css fps, cs = [v] ∧ fp = bl v ++ fps.flatten ∧ w.ownsRow 0 t o.size v xs.length css.flatten ∧ o.rows w css xs fps,
    fun ⟨_, _, _, h, _⟩ => by rw [h]; rfl,
    fun ⟨v, css, fps, h, hf, h1, h2⟩ hk => ⟨v, css, fps, h, hf, own_frame h1 (fun k hb => hk k (by rw [hf]; exact List.mem_append_left _ hb)),
      o.rows_frame h2 (fun k hb => hk k (by rw [hf]; exact List.mem_append_right _ hb))⟩,
    fun ⟨v, css, fps, h, hf, h1, h2⟩ k hk => by
      rw [hf] at hk
      rcases List.mem_append.1 hk with hk | hk
      · exact (h1.lt k (by simpa [bl] using hk)).2
      · exact o.rows_lt h2 k hk⟩

/-- What is owned, between two numbers of blocks, no block twice. -/
def Own {α : Type} (o : OS α) (lo hi : Nat) (w : World) (cs : List Value) (x : α) : Prop := ∃ fp, o.rep w cs x fp ∧ fp.Nodup ∧ ∀ k ∈ fp, lo ≤ k ∧ k < hi

theorem Own.below {α : Type} {o : OS α} {lo hi C : Nat} {w w' : World} {cs : List Value} {x : α} (h : Own o lo hi w cs x) (hb : Below C w w') (hC : hi ≤ C) : Own o lo hi w' cs x := by
  obtain ⟨fp, h1, h2, h3⟩ := h
  exact ⟨fp, o.frame h1 (fun k hk => hb.block k (by have := h3 k hk; omega)), h2, h3⟩
theorem Own.kept {α : Type} {o : OS α} {lo hi lo' hi' : Nat} {w w' : World} {cs : List Value} {x : α} (h : Own o lo hi w cs x) (hk : Kept lo' hi' w w') (hd : hi ≤ lo' ∨ hi' ≤ lo) : Own o lo hi w' cs x := by
  obtain ⟨fp, h1, h2, h3⟩ := h
  exact ⟨fp, o.frame h1 (fun k hk' => hk.block k (by have := h3 k hk'; omega)), h2, h3⟩
theorem Own.mono {α : Type} {o : OS α} {lo hi lo' hi' : Nat} {w : World} {cs : List Value} {x : α} (h : Own o lo hi w cs x) (h1 : lo' ≤ lo) (h2 : hi ≤ hi') : Own o lo' hi' w cs x := by
  obtain ⟨fp, a, b, c⟩ := h
  exact ⟨fp, a, b, fun k hk => by have := c k hk; omega⟩

/-- What is owned reads. -/
def Reads {α : Type} (o : OS α) (r : RS α) : Prop := o.size = r.size ∧ ∀ {w cs x fp}, o.rep w cs x fp → r.rep w cs x
theorem Reads.int : Reads O.int R.int := ⟨rfl, fun h => ⟨h.1, h.2.1⟩⟩
theorem Reads.str : Reads O.str R.str := ⟨rfl, fun h => ⟨h.1, h.2.1⟩⟩
theorem Reads.bool : Reads O.bool R.bool := ⟨rfl, fun h => h.1⟩
theorem Reads.pair {α β : Type} {a : OS α} {b : OS β} {c : RS α} {d : RS β} (h : Reads a c) (k : Reads b d) : Reads (O.pair a b) (R.pair c d) :=
  ⟨by show a.size + b.size = c.size + d.size; rw [h.1, k.1], fun ⟨c1, c2, _, _, h1, _, h2, h3⟩ => ⟨c1, c2, h1, h.2 h2, k.2 h3⟩⟩
theorem flatten_get {α : Type} (o : OS α) {w : World} : ∀ {css : List (List Value)} {xs : List α} {fps : List (List Nat)} (h : o.rows w css xs fps) (i j : Nat) (c : List Value) (u : Value), css[i]? = some c → c[j]? = some u → css.flatten[i * o.size + j]? = some u
  | [], [], [], _, i, j, c, u, hc, hu => by simp at hc
  | c :: cs, x :: xs, f :: fs, h, 0, j, _, u, hc, hu => by
    simp at hc
    subst hc
    simp only [List.flatten_cons, Nat.zero_mul, Nat.zero_add]
    rw [List.getElem?_append_left (List.getElem?_eq_some_iff.1 hu).1]
    exact hu
  | c :: cs, x :: xs, f :: fs, h, i + 1, j, _, u, hc, hu => by
    have hl := o.len h.1
    simp only [List.flatten_cons]
    rw [List.getElem?_append_right (by rw [hl, Nat.add_mul]; omega), hl, show (i + 1) * o.size + j - o.size = i * o.size + j by rw [Nat.add_mul]; omega]
    exact flatten_get o h.2 i j _ u (by simpa using hc) hu
theorem own_cell {w : World} {B e size : Nat} {a : Option Addr} {cap n : Nat} {us : List Value} (h : w.ownsRow B e size (.slice a n cap) n us) (i : Nat) (u : Value) (hu : us[i]? = some u) :
    ∃ g, a = some ⟨g, 0, none⟩ ∧ w.cell? ⟨g, i, none⟩ = some u := by
  have hi : i < n * size := by rw [← h.1]; exact (List.getElem?_eq_some_iff.1 hu).1
  have h' := h
  rcases h'.2 with ⟨hv, rfl⟩ | ⟨g, c, cur, hv, hB, hg, hn, hc, _⟩
  · simp at hi
  · simp at hv
    obtain ⟨rfl, rfl⟩ := hv
    exact ⟨g, rfl, by rw [h.cellAt i hi]; exact hu⟩
theorem own_cap {w : World} {B e size : Nat} {a : Option Addr} {cap n : Nat} {us : List Value} (h : w.ownsRow B e size (.slice a n cap) n us) : n ≤ cap ∧ cap ≤ 9223372036854775807 := by
  rcases h.2 with ⟨hv, rfl⟩ | ⟨g, c, cur, hv, hB, hg, hn, hc, _⟩
  · simp at hv; omega
  · simp at hv
    obtain ⟨rfl, rfl⟩ := hv
    exact ⟨hn, by unfold maxLen at hc; omega⟩
theorem Reads.slice {α : Type} {o : OS α} {r : RS α} (t : TypeId) (h : Reads o r) : Reads (O.slice t o) (R.slice r) := by
  refine ⟨rfl, ?_⟩
  rintro w cs xs fp ⟨v, css, fps, rfl, rfl, h1, h2⟩
  obtain ⟨a, cap, rfl, hn, _⟩ := own_form h1
  refine ⟨a, xs.length, cap, rfl, (own_cap h1).1, (own_cap h1).2, rfl, hn, fun i x hx => ?_⟩
  obtain ⟨c, f, hc, hf, hr⟩ := o.rows_get h2 i x hx
  have hlen := o.len hr
  have key : ∀ j u, c[j]? = some u → ∃ g, a = some ⟨g, 0, none⟩ ∧ w.cell? ⟨g, i * r.size + j, none⟩ = some u := fun j u hu => by
    rw [← h.1]
    exact own_cell h1 _ _ (flatten_get o h2 i j c u hc hu)
  obtain ⟨g, ha⟩ : ∃ g, a = some ⟨g, 0, none⟩ := by
    rcases h1.2 with ⟨hv, h0⟩ | ⟨g, c, cur, hv, _⟩
    · have := (List.getElem?_eq_some_iff.1 hx).1; omega
    · simp at hv; exact ⟨g, hv.1⟩
  refine ⟨g, 0, c, ha, h.2 hr, fun j u hu => ?_⟩
  obtain ⟨g', ha', hc'⟩ := key j u hu
  rw [ha] at ha'
  simp at ha'
  subst ha'
  simpa using hc'

end Go.Proofs.YtigcagplbihenaaDoor

/- Appending an owned element to an owned slice; the two arms of append in one law. -/
namespace Go.Proofs.YtigcagplbihenaaDoor
open Go.RowKit
set_option linter.unusedVariables false
set_option linter.unusedSimpArgs false

theorem add_zero_addr (g j : Nat) : (⟨g, 0, none⟩ : Addr).add j = ⟨g, j, none⟩ := by
  unfold Addr.add; split
  · rename_i h; subst h; rfl
  · simp

/-- What lies in a fresh block, cell by cell. -/
theorem fresh_cells (W : World) (c : List Value) (E : TypeId) : ∀ j u, c[j]? = some u → (W.alloc (.cells c.toArray E)).cell? ((⟨W.heap.size, 0, none⟩ : Addr).add j) = some u := by
  intro j u hu
  rw [add_zero_addr]
  have h : (W.alloc (.cells c.toArray E)).heap[W.heap.size]? = some (.cells c.toArray E) := heap_alloc_new W _
  simp only [World.cell?, h]
  simpa using hu

theorem wpList_appS {α : Type} {T E size bytes : Nat} {z : Value} (hT : Tryd.prog.underlying T = some (.slice E)) (hE : (Tryd.prog.info? E).map (fun i => (i.zero, i.size, i.bytes)) = some (some z, size, bytes)) (hz : z.cells.size = size) (hpos : 0 < size) (hby : bytes ≤ 1000)
    {o' : OS α} (hsz : o'.size = size) {B h1 h2 : Nat} {w0 W : World} {ops : Array Oper} {rest : List Oper} {o : Oper} {a : Act} {Q : Exit → Act → World → Prop}
    (s x : Operand) (v : Value) (xs : List α) (c : List Value) (y : α)
    (hown : Own (O.slice E o') B h1 W [v] xs) (hy : Own o' h1 h2 W c y) (hone : ∀ u ∈ c, u.oneCell' = true) (hB : B ≤ h1) (hh : h1 ≤ h2) (hW : h2 ≤ W.heap.size) (hb : Below B w0 W) (hn : xs.length ≤ 100000000)
    (hgd : o.guard = none) (ho : o.op = .call { callee := .builtin .append, args := #[s, x], argTypes := #[T, T] })
    (hs : a.eval s = v) (hx : a.eval x = .slice (some ⟨W.heap.size, 0, none⟩) 1 1)
    (h : ∀ v' w', Own (O.slice E o') B w'.heap.size w' [v'] (xs ++ [y]) → Below B w0 w' → B ≤ w'.heap.size → wpList Tryd.prog ops Q rest (a.put o.dst v') w') :
    wpList Tryd.prog ops Q (o :: rest) a (W.alloc (.cells c.toArray E)) := by
  obtain ⟨i, hi, hz0, hz1, hz2⟩ := info_parts hE
  obtain ⟨fp, ⟨v1, css, fps, hv, rfl, hrow, hrows⟩, hnd, hlim⟩ := hown
  obtain ⟨fy, hyr, hynd, hylim⟩ := hy
  simp at hv
  subst hv
  obtain ⟨av, cap, rfl, _⟩ := own_form hrow
  have hclen : c.length = size := by rw [← hsz]; exact o'.len hyr
  rw [hsz] at hrow
  have hnl := List.nodup_append.1 hnd
  have hnew : Below W.heap.size W (W.alloc (.cells c.toArray E)) := (Below.refl _ _).alloc (Nat.le_refl _) _
  have hrow1 := own_below hrow hnew (Nat.le_refl _)
  have hrlen := o'.rows_len hrows
  have hlt : ∀ k ∈ bl (.slice av xs.length cap) ++ fps.flatten, k < W.heap.size := fun k hk => by have := hlim k hk; omega
  have hby2 : (xs.length + 1) * bytes ≤ 140737488355328 := Nat.le_trans (Nat.mul_le_mul (show xs.length + 1 ≤ 100000001 by omega) hby) (by decide)
  have fin : ∀ (v' : Value) (w' : World) (C : Nat), w'.ownsRow 0 E size v' (xs.length + 1) (css.flatten ++ c) → (∀ k, k ∈ fps.flatten ++ fy → w'.heap[k]? = W.heap[k]?) → Below B w0 w' → W.heap.size < w'.heap.size →
      (∀ k ∈ bl v', (B ≤ k ∧ k < w'.heap.size) ∧ k ∉ fps.flatten ∧ k ∉ fy) → wpList Tryd.prog ops Q rest (a.put o.dst v') w' := by
    intro v' w' C h3 h4 h5 h6 h7
    refine h v' w' ⟨bl v' ++ (fps ++ [fy]).flatten, ⟨v', css ++ [c], fps ++ [fy], rfl, rfl, ?_, ?_⟩, ?_, ?_⟩ h5 (by omega)
    · rw [hsz]; simpa using h3
    · exact o'.rows_snoc (o'.frame hyr (fun k hk => h4 k (List.mem_append_right _ hk))) (o'.rows_frame hrows (fun k hk => h4 k (List.mem_append_left _ hk)))
    · rw [List.flatten_append, List.nodup_append]
      refine ⟨by unfold bl; cases v'.ownBlock <;> simp, ?_, ?_⟩
      · rw [List.nodup_append]
        refine ⟨hnl.2.1, by simpa using hynd, ?_⟩
        intro p hp q hq
        have := hlim p (List.mem_append_right _ hp)
        have := hylim q (by simpa using hq)
        omega
      · intro p hp q hq e
        subst e
        have h8 := h7 p hp
        rcases List.mem_append.1 hq with hq | hq
        · exact h8.2.1 hq
        · exact h8.2.2 (by simpa using hq)
    · intro k hk
      rcases List.mem_append.1 hk with hk | hk
      · exact (h7 k hk).1
      · simp only [List.flatten_append, List.mem_append] at hk
        rcases hk with hk | hk
        · have := hlim k (List.mem_append_right _ hk); omega
        · have := hylim k (by simpa using hk); omega
  by_cases hroom : xs.length + 1 ≤ cap
  · -- there is room: the same block
    rcases hrow1.2 with ⟨hv, _⟩ | ⟨g, cap', cur, hv, hB0, hg, hnc, hcm, hcs, htake⟩
    · simp at hv; omega
    · simp at hv
      obtain ⟨rfl, rfl⟩ := hv
      refine wpList_append_fits _ hgd s x T ho 0 E i size hT hi hz1 g xs.length cap css.flatten hs hrow1 ⟨W.heap.size, 0, none⟩ 1 1 c hx (by omega) (fresh_cells W c E) hone hroom ?_
      intro w' h3 h4
      have hgB := hlim g (by simp [bl, Value.ownBlock])
      refine fin _ w' 0 h3 (fun k hk => ?_) ?_ ?_ ?_
      · have hkl : k < W.heap.size := by
          rcases List.mem_append.1 hk with hk | hk
          · have := hlim k (List.mem_append_right _ hk); omega
          · have := hylim k hk; omega
        rw [h4.block k (by simp; omega) ?_, Below.heap_alloc W _ k hkl]
        intro e
        simp at e
        subst e
        rcases List.mem_append.1 hk with hk | hk
        · exact hnl.2.2 k (by simp [bl, Value.ownBlock]) k hk rfl
        · have := hylim k hk; omega
      · exact (hb.alloc (by omega) _).grown h4 (by simp; omega) (fun k hk => by simp at hk; omega)
      · have := h4.size; simp at this; omega
      · intro k hk
        simp [bl, Value.ownBlock] at hk
        subst hk
        refine ⟨⟨by omega, by have := h4.size; simp at this; omega⟩, fun hm => hnl.2.2 k (by simp [bl, Value.ownBlock]) k hm rfl, fun hm => ?_⟩
        have := hylim k hm; omega
  · refine wpList_append_grows _ hgd s x T ho E i z size bytes hT hi hz0 hz1 hz2 hz hpos av xs.length cap css.flatten hs ?_ hrow1.1 ?_ ⟨W.heap.size, 0, none⟩ 1 1 c hx (by omega) (fresh_cells W c E) hone (by omega) (by unfold maxLen; omega) hby2 ?_
    · intro e
      subst e
      rcases hrow1.2 with ⟨hv, h0⟩ | ⟨g, cap', cur, hv, _⟩
      · simp at hv; exact ⟨h0, hv.2⟩
      · simp at hv
    · intro b hbv j u hu
      obtain ⟨g, hg, hcell⟩ := own_cell hrow1 j u hu
      rw [hbv] at hg
      simp at hg
      subst hg
      rw [add_zero_addr]
      exact hcell
    · intro v' w' h3 h4
      refine fin v' w' 0 (own_base h3 (Nat.zero_le _)) (fun k hk => ?_) ?_ ?_ ?_
      · have hkl : k < W.heap.size := by
          rcases List.mem_append.1 hk with hk | hk
          · have := hlim k (List.mem_append_right _ hk); omega
          · have := hylim k hk; omega
        rw [h4.block k (by simp; omega) (by simp), Below.heap_alloc W _ k hkl]
      · exact (hb.alloc (by omega) _).grown h4 (by simp; omega) (fun k hk => by simp at hk)
      · have := h4.size; simp at this; omega
      · intro k hk
        have h5 := h3.lt k (by simpa [bl] using hk)
        simp at h5
        refine ⟨⟨by omega, by omega⟩, fun hm => ?_, fun hm => ?_⟩
        · have := hlim k (List.mem_append_right _ hm); omega
        · have := hylim k hm; omega

/-- An empty slice literal. -/
theorem own_empty_S {α : Type} {E : TypeId} {o : OS α} {B : Nat} {W : World} (hB : B ≤ W.heap.size) : Own (O.slice E o) B (W.heap.size + 1) (W.alloc (.cells #[] E)) [.slice (some ⟨W.heap.size, 0, none⟩) 0 0] [] := by
  refine ⟨[W.heap.size], ⟨_, [], [], rfl, by simp [bl, Value.ownBlock], ?_, trivial⟩, by simp, ?_⟩
  · exact World.ownsRow_made W #[] 0 (Nat.zero_le _) (by unfold maxLen; omega) (by simp)
  · intro k hk; simp at hk; omega
theorem own_nil_S {α : Type} {E : TypeId} {o : OS α} {B : Nat} {W : World} : Own (O.slice E o) B B W [.slice none 0 0] [] :=
  ⟨[], ⟨_, [], [], rfl, by simp [bl, Value.ownBlock], World.ownsRow_nil _ _ _ _, trivial⟩, by simp, by intro k hk; cases hk⟩

end Go.Proofs.YtigcagplbihenaaDoor

/- Contracts: the laws' own helpers on slices of slices of ints. -/
namespace Go.Proofs.YtigcagplbihenaaDoor
open Go.RowKit
set_option linter.unusedVariables false
set_option linter.unusedSimpArgs false

/-- Only these blocks may have turned; none has come. -/
structure Only (fp : List Nat) (w w' : World) : Prop where
  os : w'.os = w.os
  tape : w'.tape = w.tape
  output : w'.output = w.output
  size : w'.heap.size = w.heap.size
  block : ∀ k, k ∉ fp → w'.heap[k]? = w.heap[k]?
theorem Only.refl (fp : List Nat) (w : World) : Only fp w w := ⟨rfl, rfl, rfl, rfl, fun _ _ => rfl⟩
theorem Only.trans {fp : List Nat} {a b c : World} (h : Only fp a b) (k : Only fp b c) : Only fp a c :=
  ⟨k.os.trans h.os, k.tape.trans h.tape, k.output.trans h.output, k.size.trans h.size, fun i hi => (k.block i hi).trans (h.block i hi)⟩
theorem Only.mono {fp fq : List Nat} {w w' : World} (h : Only fp w w') (hs : ∀ k ∈ fp, k ∈ fq) : Only fq w w' :=
  ⟨h.os, h.tape, h.output, h.size, fun k hk => h.block k (fun hx => hk (hs k hx))⟩
theorem Only.kept {fp : List Nat} {lo hi : Nat} {w w' : World} (h : Only fp w w') (hk : ∀ k ∈ fp, lo ≤ k ∧ k < hi) : Kept lo hi w w' :=
  ⟨h.os, h.tape, h.output, h.size, fun k hx => h.block k (fun hm => by have := hk k hm; omega)⟩
theorem Only.drew {fp : List Nat} {w w' w'' : World} (h : Only fp w w') (hd : Drew w' w'') : Only fp w w'' := by
  obtain ⟨m, rfl⟩ := hd
  exact ⟨h.os, h.tape, h.output, h.size, h.block⟩

/-- Of what was there at most blocks from lo up to hi have turned; others may have come. -/
structure Turn (lo hi : Nat) (w w' : World) : Prop where
  os : w'.os = w.os
  tape : w'.tape = w.tape
  output : w'.output = w.output
  size : w.heap.size ≤ w'.heap.size
  block : ∀ k, k < w.heap.size → (k < lo ∨ hi ≤ k) → w'.heap[k]? = w.heap[k]?
theorem Kept.turn {lo hi : Nat} {w w' : World} (h : Kept lo hi w w') : Turn lo hi w w' := ⟨h.os, h.tape, h.output, by rw [h.size]; exact Nat.le_refl _, fun k _ hk => h.block k hk⟩
theorem turn_refl (lo hi : Nat) (w : World) : Turn lo hi w w := (Kept.refl lo hi w).turn
theorem Turn.trans {lo hi : Nat} {a b c : World} (h : Turn lo hi a b) (k : Turn lo hi b c) : Turn lo hi a c :=
  ⟨k.os.trans h.os, k.tape.trans h.tape, k.output.trans h.output, Nat.le_trans h.size k.size, fun i hi hk => (k.block i (Nat.lt_of_lt_of_le hi h.size) hk).trans (h.block i hi hk)⟩
theorem turn_below {lo hi C : Nat} {w w' : World} (h : Below C w w') (hC : w.heap.size ≤ C) : Turn lo hi w w' := ⟨h.os, h.tape, h.output, h.size, fun k hk _ => h.block k (by omega)⟩
theorem Turn.mono {lo hi lo' hi' : Nat} {w w' : World} (h : Turn lo hi w w') (h1 : lo' ≤ lo) (h2 : hi ≤ hi') : Turn lo' hi' w w' := ⟨h.os, h.tape, h.output, h.size, fun k hk hx => h.block k hk (by omega)⟩
theorem Turn.below {lo hi : Nat} {w w' : World} (h : Turn lo hi w w') (hl : lo ≤ w.heap.size) : Below lo w w' := ⟨h.os, h.tape, h.output, h.size, fun k hk => h.block k (by omega) (.inl hk)⟩
theorem Turn.cell {lo hi : Nat} {w w' : World} (h : Turn lo hi w w') {p : Addr} (h1 : p.block < w.heap.size) (h2 : p.block < lo ∨ hi ≤ p.block) : w'.cell? p = w.cell? p := World.cell?_of_block (h.block _ h1 h2)
theorem Own.turn {α : Type} {o : OS α} {lo hi lo' hi' : Nat} {w w' : World} {cs : List Value} {x : α} (h : Own o lo hi w cs x) (hk : Turn lo' hi' w w') (hd : hi ≤ lo' ∨ hi' ≤ lo) : Own o lo hi w' cs x := by
  obtain ⟨fp, h1, h2, h3⟩ := h
  exact ⟨fp, o.frame h1 (fun k hk' => hk.block k (o.lt h1 k hk') (by have := h3 k hk'; omega)), h2, h3⟩

/-- A slice of ints of one's own, as a shape. -/
def oI : OS (List Int) := O.slice 3 O.int
def oII : OS (List (List Int)) := O.slice 33 oI
def rI : RS (List Int) := R.slice R.int
def rII : RS (List (List Int)) := R.slice rI
theorem reads_I : Reads oI rI := Reads.slice _ Reads.int
theorem reads_II : Reads oII rII := Reads.slice _ reads_I

theorem rows_ints {w : World} : ∀ {css : List (List Value)} {xs : List Int} {fps : List (List Nat)}, O.int.rows w css xs fps → css.flatten = xs.map (Value.int .i64) ∧ AllI64 xs ∧ fps.flatten = []
  | [], [], [], _ => ⟨rfl, (by intro x hx; cases hx), rfl⟩
  | c :: cs, x :: xs, f :: fs, h => by
    obtain ⟨⟨rfl, hx, rfl⟩, h2⟩ := h
    obtain ⟨h3, h4, h5⟩ := rows_ints h2
    refine ⟨by simp [h3], ?_, by simp [h5]⟩
    intro y hy
    rcases List.mem_cons.1 hy with rfl | hy
    · exact hx
    · exact h4 y hy
theorem ints_rows {w : World} : ∀ {xs : List Int}, AllI64 xs → O.int.rows w (xs.map fun x => [Value.int .i64 x]) xs (xs.map fun _ => [])
  | [], _ => trivial
  | x :: xs, h => ⟨⟨rfl, h x (List.mem_cons_self ..), rfl⟩, ints_rows (fun y hy => h y (List.mem_cons_of_mem _ hy))⟩
theorem map_flatten_one (xs : List Int) : (xs.map fun x => [Value.int .i64 x]).flatten = xs.map (Value.int .i64) := by
  induction xs with
  | nil => rfl
  | cons x xs ih => simp [ih]
theorem map_flatten_nil (xs : List Int) : (xs.map fun _ => ([] : List Nat)).flatten = [] := by
  induction xs with
  | nil => rfl
  | cons x xs ih => simp
theorem oI_own {w : World} {cs : List Value} {xs : List Int} {fp : List Nat} (h : oI.rep w cs xs fp) : ∃ a cap, cs = [.slice a xs.length cap] ∧ OwnInts 0 w (.slice a xs.length cap) xs.length xs ∧ fp = bl (.slice a xs.length cap) := by
  obtain ⟨v, css, fps, rfl, rfl, h1, h2⟩ := h
  obtain ⟨h3, h4, h5⟩ := rows_ints h2
  obtain ⟨a, cap, rfl, _⟩ := own_form h1
  refine ⟨a, cap, rfl, ⟨rfl, ?_, h4⟩, by rw [h5, List.append_nil]⟩
  rw [← h3]; exact h1
theorem own_oI {B n : Nat} {w : World} {v : Value} {xs : List Int} (h : OwnInts B w v n xs) : oI.rep w [v] xs (bl v) := by
  have hl := h.len
  subst hl
  refine ⟨v, _, _, rfl, ?_, ?_, ints_rows h.rng⟩
  · rw [map_flatten_nil, List.append_nil]
  · rw [map_flatten_one]; exact own_base h.row (Nat.zero_le _)
/-- What a call makes, as a shape between two heaps' sizes. -/
theorem OwnInts.own {B n : Nat} {w : World} {v : Value} {xs : List Int} (h : OwnInts B w v n xs) : Own oI B w.heap.size w [v] xs := by
  refine ⟨bl v, own_oI h, ?_, fun k hk => ?_⟩
  · unfold bl; cases v.ownBlock <;> simp
  · exact h.row.lt k (by simpa [bl] using hk)

/-- One row of an owned slice turned: the whole. -/
theorem rows_turn {α : Type} (o : OS α) {w w' : World} : ∀ {css : List (List Value)} {xs : List α} {fps : List (List Nat)} (h : o.rows w css xs fps) (i : Nat) (c : List Value) (x' : α) (f : List Nat),
    css[i]? = some c → fps[i]? = some f → fps.flatten.Nodup → o.rep w' c x' f → (∀ k, k ∉ f → w'.heap[k]? = w.heap[k]?) → o.rows w' css (xs.set i x') fps
  | [], [], [], _, i, _, x, _, h1, _, _, _, _ => by simp at h1
  | c :: cs, y :: xs, f :: fs, h, 0, _, x, _, h1, h2, hn, hr, hk => by
    simp at h1 h2
    subst h1 h2
    refine ⟨hr, o.rows_frame h.2 (fun k hm => hk k (fun hf => ?_))⟩
    simp only [List.flatten_cons] at hn
    exact (List.nodup_append.1 hn).2.2 k hf k hm rfl
  | c :: cs, y :: xs, f :: fs, h, i + 1, c', x, f', h1, h2, hn, hr, hk => by
    simp only [List.getElem?_cons_succ] at h1 h2
    simp only [List.flatten_cons] at hn
    have hn' := List.nodup_append.1 hn
    refine ⟨o.frame h.1 (fun k hm => hk k (fun hf => ?_)), rows_turn o h.2 i c' x f' h1 h2 hn'.2.1 hr hk⟩
    exact hn'.2.2 k hm k (List.mem_flatten.2 ⟨f', List.mem_of_getElem? h2, hf⟩) rfl

/-- One element of an owned slice: its cells, its blocks; and what follows if it alone is turned. -/
theorem slice_elem {α : Type} {t : TypeId} {o : OS α} {w : World} {a : Option Addr} {n cap : Nat} {xs : List α} {fp : List Nat} (h : (O.slice t o).rep w [.slice a n cap] xs fp) (hn : fp.Nodup) {i : Nat} {x : α} (hx : xs[i]? = some x) :
    ∃ g c f, a = some ⟨g, 0, none⟩ ∧ o.rep w c x f ∧ f.Nodup ∧ (∀ k ∈ f, k ∈ fp) ∧ (∀ j u, c[j]? = some u → w.cell? ⟨g, i * o.size + j, none⟩ = some u) ∧
      ∀ w' x', o.rep w' c x' f → Only f w w' → (O.slice t o).rep w' [.slice a n cap] (xs.set i x') fp := by
  obtain ⟨v, css, fps, hv, rfl, h1, h2⟩ := h
  simp at hv
  subst hv
  obtain ⟨c, f, hc, hf, hr⟩ := o.rows_get h2 i x hx
  obtain ⟨g, ha⟩ : ∃ g, a = some ⟨g, 0, none⟩ := by
    rcases h1.2 with ⟨hv, h0⟩ | ⟨g, c, cur, hv, _⟩
    · have := (List.getElem?_eq_some_iff.1 hx).1; omega
    · simp at hv; exact ⟨g, hv.1⟩
  have hnl := List.nodup_append.1 hn
  have hmem : ∀ k ∈ f, k ∈ fps.flatten := fun k hk => List.mem_flatten.2 ⟨f, List.mem_of_getElem? hf, hk⟩
  have hsub : f.Sublist fps.flatten := List.sublist_flatten_of_mem (List.mem_of_getElem? hf)
  refine ⟨g, c, f, ha, hr, hsub.nodup hnl.2.1, fun k hk => List.mem_append_right _ (hmem k hk), fun j u hu => ?_, ?_⟩
  · have hlen : n = xs.length := by
      obtain ⟨a', cap', hv, _⟩ := own_form h1
      simp at hv
      exact hv.2.1
    subst hlen
    obtain ⟨g', ha', hc'⟩ := own_cell h1 _ _ (flatten_get o h2 i j c u hc hu)
    rw [ha] at ha'
    simp at ha'
    subst ha'
    exact hc'
  · intro w' x' hr' hk
    refine ⟨_, css, fps, rfl, rfl, ?_, rows_turn o h2 i c x' f hc hf hnl.2.1 hr' hk.block⟩
    rw [List.length_set]
    exact own_frame h1 (fun k hb => hk.block k (fun hm => hnl.2.2 k hb k (hmem k hm) rfl))

set_option maxHeartbeats 400000 in
theorem markI (a : Option Addr) (n cap : Nat) (xs : List Int) (fp : List Nat) (k : Int) (w : World) (h : oI.rep w [.slice a n cap] xs fp)
    (k0 : 0 ≤ k) (k1 : k ≤ 1000000000000) (hsm : n ≤ 1000000000000) :
    Calls Tryd.prog 72 #[.slice a n cap, .int .i64 k] w fun e w' => e = .returned (.int .i64 (k + n)) ∧ oI.rep w' [.slice a n cap] (marks k n) fp ∧ Only fp w w' := by
  obtain ⟨a', cap', hv, ho, rfl⟩ := oI_own h
  simp at hv
  obtain ⟨rfl, rfl, rfl⟩ := hv
  cases a with
  | none =>
    refine (markIntS_any 0 0 _ _ _ _ _ _ ho (by simp) k0 k1 hsm).mono fun e w' ⟨he, h1, h2⟩ => ⟨he, own_oI h1, ?_⟩
    exact ⟨h2.os, h2.tape, h2.output, h2.size, fun j _ => h2.block j (.inr (Nat.zero_le _))⟩
  | some x =>
    have ho' : OwnInts x.block w (.slice (some x) xs.length cap) xs.length xs := by
      refine ⟨ho.len, ⟨ho.row.1, ?_⟩, ho.rng⟩
      rcases ho.row.2 with h2 | ⟨g, c, cur, hv, _, r⟩
      · exact .inl h2
      · simp at hv
        refine .inr ⟨g, c, cur, by simp [hv], ?_, r⟩
        rw [hv.1]
        exact Nat.le_refl _
    refine (markIntS_any x.block (x.block + 1) _ _ _ _ _ _ ho' (by simp) k0 k1 hsm).mono fun e w' ⟨he, h1, h2⟩ => ⟨he, own_oI h1, ?_⟩
    exact ⟨h2.os, h2.tape, h2.output, h2.size, fun j hj => h2.block j (by simp [bl, Value.ownBlock] at hj; omega)⟩

theorem take_snoc' {α : Type} (xs : List α) (k : Nat) (x : α) (h : xs[k]? = some x) : xs.take (k + 1) = xs.take k ++ [x] := by
  rw [List.take_add_one, h]; rfl

/-- How many ints lie in rows. -/
def cntSS (xss : List (List Int)) : Nat := (xss.map List.length).sum
/-- Rows with marks in the place of their ints. -/
def mkSS : Int → List (List Int) → List (List Int)
  | _, [] => []
  | k, r :: t => marks k r.length :: mkSS (k + r.length) t
theorem mkSS_len : ∀ (k : Int) (xss : List (List Int)), (mkSS k xss).length = xss.length
  | _, [] => rfl
  | k, r :: t => by simp [mkSS, mkSS_len]
theorem mkSS_cnt : ∀ (k : Int) (xss : List (List Int)), cntSS (mkSS k xss) = cntSS xss
  | _, [] => rfl
  | k, r :: t => by have := mkSS_cnt (k + r.length) t; simp only [cntSS] at this; simp [cntSS, mkSS, marks_length, this]
theorem mkSS_get : ∀ (k : Int) (xss : List (List Int)) (j : Nat) (r : List Int), xss[j]? = some r → (mkSS k xss)[j]? = some (marks (k + cntSS (xss.take j)) r.length)
  | k, [], j, r, h => by simp at h
  | k, x :: t, 0, r, h => by simp at h; subst h; simp [mkSS, cntSS]
  | k, x :: t, j + 1, r, h => by
    have := mkSS_get (k + x.length) t j r (by simpa using h)
    simp only [mkSS, List.getElem?_cons_succ, this, List.take_succ_cons]
    congr 2
    simp [cntSS]; omega
theorem cntSS_snoc (xss : List (List Int)) (j : Nat) (r : List Int) (h : xss[j]? = some r) : cntSS (xss.take (j + 1)) = cntSS (xss.take j) + r.length := by
  rw [take_snoc' _ _ _ h]; simp [cntSS]
theorem cntSS_take_le (xss : List (List Int)) (j : Nat) : cntSS (xss.take j) ≤ cntSS xss := by
  have e : cntSS xss = cntSS (xss.take j) + cntSS (xss.drop j) := by
    have e2 : cntSS (xss.take j ++ xss.drop j) = cntSS (xss.take j) + cntSS (xss.drop j) := by simp only [cntSS, List.map_append, List.sum_append]
    rwa [List.take_append_drop] at e2
  omega
/-- The first j rows are marked. -/
def mkTo (k : Int) (xss : List (List Int)) (j : Nat) : List (List Int) := (mkSS k xss).take j ++ xss.drop j
theorem mkTo_get (k : Int) (xss : List (List Int)) (j : Nat) (r : List Int) (h : xss[j]? = some r) : (mkTo k xss j)[j]? = some r := by
  have hj := (List.getElem?_eq_some_iff.1 h).1
  unfold mkTo
  rw [List.getElem?_append_right (by simp [mkSS_len]; omega), List.getElem?_drop]
  simp only [List.length_take, mkSS_len]
  rw [show min j xss.length = j by omega, show j + (j - j) = j by omega]
  exact h
theorem mkTo_step (k : Int) (xss : List (List Int)) (j : Nat) (r : List Int) (h : xss[j]? = some r) : (mkTo k xss j).set j (marks (k + cntSS (xss.take j)) r.length) = mkTo k xss (j + 1) := by
  have hj := (List.getElem?_eq_some_iff.1 h).1
  unfold mkTo
  rw [take_snoc' _ _ _ (mkSS_get k xss j r h), List.set_append_right _ _ (by simp [mkSS_len]; omega)]
  have e : xss.drop j = r :: xss.drop (j + 1) := by
    rw [List.drop_eq_getElem_cons hj]; congr 1; exact (List.getElem?_eq_some_iff.1 h).2
  rw [e]
  simp only [List.length_take, mkSS_len]
  rw [show j - min j xss.length = 0 by omega]
  simp
theorem mkTo_all (k : Int) (xss : List (List Int)) : mkTo k xss xss.length = mkSS k xss := by
  unfold mkTo
  rw [List.take_of_length_le (by rw [mkSS_len]; exact Nat.le_refl _)]
  simp

end Go.Proofs.YtigcagplbihenaaDoor

/- Contracts: names of one letter. -/
namespace Go.Proofs.YtigcagplbihenaaDoor
open Go.RowKit
set_option linter.unusedVariables false
set_option linter.unusedSimpArgs false

/-- One letter from a to z. -/
def nameB (s : ByteArray) : Bool := decide (s.size = 1) && betw (s.data.toList.getD 0 0).toNat 97 122
theorem nameB_no {s : ByteArray} (h : s.size ≠ 1) : nameB s = false := by simp [nameB, h]
theorem nameB_one {c : UInt8} {s : ByteArray} (h : s = ⟨⟨[c]⟩⟩) : nameB s = betw c.toNat 97 122 := by subst h; simp [nameB, ByteArray.size]
theorem size_one {s : ByteArray} (h : s.size = 1) : ∃ c, s = ⟨⟨[c]⟩⟩ := by
  obtain ⟨⟨l⟩⟩ := s
  match l, h with
  | [c], _ => exact ⟨c, rfl⟩

theorem nameOk_any (s : ByteArray) (w : World) (hs : s.size ≤ 9223372036854775807) :
    Calls Tryd.prog 57 #[.string s] w fun e w' => e = .returned (.bool (nameB s)) ∧ w = w' := by
  by_cases h : s.size = 1
  · obtain ⟨c, rfl⟩ := size_one h
    have HE := Lib.hid (nameB_one (c := c) rfl)
    clear h
    go_enter Tryd.func57, Tryd.ntmps57
    go_wp2_with fail
    all_goals
      go_ret
      refine ⟨ret_bool (Eq.trans ?_ HE.out.symm), rfl⟩
      have e : ∀ h, ((⟨⟨[c]⟩⟩ : ByteArray)[0]'h) = c := fun _ => rfl
      simp only [e] at *
      clear HE
      first | (simp [betw]; done) | (simp [betw]; omega)
  · have HE := Lib.hid (nameB_no h)
    have h' : ((s.size : Int) == 1) = false := by rw [beq_eq_false_iff_ne]; omega
    clear h
    go_enter Tryd.func57, Tryd.ntmps57
    go_wp2_with fail
    go_ret
    exact ⟨ret_bool HE.out.symm, rfl⟩

theorem l4Name_any (s : ByteArray) (w : World) (hs : s.size ≤ 9223372036854775807) :
    Calls Tryd.prog 54 #[.string s] w fun e w' => e = .returned (.bool (nameB s)) ∧ w = w' := by
  by_cases h : s.size = 1
  · obtain ⟨c, rfl⟩ := size_one h
    have HE := Lib.hid (nameB_one (c := c) rfl)
    clear h
    go_enter Tryd.func54, Tryd.ntmps54
    go_wp2_with fail
    all_goals
      go_ret
      refine ⟨ret_bool (Eq.trans ?_ HE.out.symm), rfl⟩
      have e : ∀ h, ((⟨⟨[c]⟩⟩ : ByteArray)[0]'h) = c := fun _ => rfl
      simp only [e] at *
      clear HE
      first | (simp [betw]; done) | (simp [betw]; omega)
  · have HE := Lib.hid (nameB_no h)
    have h' : ((s.size : Int) == 1) = false := by rw [beq_eq_false_iff_ne]; omega
    clear h
    go_enter Tryd.func54, Tryd.ntmps54
    go_wp2_with fail
    go_ret
    exact ⟨ret_bool HE.out.symm, rfl⟩
end Go.Proofs.YtigcagplbihenaaDoor

/- The form's own reading opened to shapes: ints, strings, slices of whatever, structs of one to four fields. -/
namespace Go.Proofs.YtigcagplbihenaaDoor
open Go.ChangeShapes Go.WideShapes Go.ChangeAt Go.RowKit
set_option linter.unusedVariables false
set_option maxRecDepth 100000
set_option linter.unusedSimpArgs false

/-- Whatever the form reads at type T reads by the shape r. -/
def Opens {α : Type} (T : TypeId) (r : RS α) : Prop :=
  ∀ (H : Type) (enc : TypeId × Value → H) (W : World) (fuel : Nat) (cs : List Value) (x : DataW H × List MemPlace), DataW.trod enc Tryd.prog W 0 (fun _ => true) true fuel T cs = some x → ∃ y, r.rep W cs y

theorem opens_int : Opens 3 R.int := by
  intro H enc W fuel cs x h
  obtain ⟨n, h1, _, hw⟩ := DataW.trod_int Tryd.underlying3 h
  exact ⟨n, h1, wf_I64 hw⟩
theorem opens_slice {α : Type} {T E : TypeId} {r : RS α} (hT : Tryd.prog.underlying T = some (.slice E)) (hc : Tryd.prog.cellsOf E = r.size) (hpos : 0 < r.size) (hr : Opens E r) : Opens T (R.slice r) := by
  intro H enc W fuel cs x h
  rcases Go.Deep.open_slice hT h with ⟨rfl, _⟩ | ⟨a, len, cap, m, n, D, Pl, rfl, _, hl, hm, hmm, rfl, hx⟩
  · exact ⟨[], none, 0, 0, rfl, by omega, by omega, rfl, by omega, fun i x hx => by simp at hx⟩
  · simp at hmm
    subst hmm
    have hel : ∀ i, i < len → ∃ cs' y, W.cells? 0 (a.add (i * r.size)) r.size = some cs' ∧ r.rep W cs' y := fun i hi => by
      obtain ⟨cs', h1, h2⟩ := hx i (by omega)
      obtain ⟨y, hy⟩ := hr H enc W n cs' _ h2
      rw [hc] at h1
      exact ⟨cs', y, h1, hy⟩
    clear hx
    have hch : ∃ ys : List α, ys.length = len ∧ ∀ i y, ys[i]? = some y → ∃ cs', W.cells? 0 (a.add (i * r.size)) r.size = some cs' ∧ r.rep W cs' y := by
      clear hl h hm
      induction len with
      | zero => exact ⟨[], rfl, fun i y hy => by simp at hy⟩
      | succ k ih =>
        obtain ⟨ys, hys, hall⟩ := ih (fun i hi => hel i (by omega))
        obtain ⟨cs', y, h1, h2⟩ := hel k (by omega)
        refine ⟨ys ++ [y], by simp [hys], fun i z hz => ?_⟩
        by_cases hi : i < ys.length
        · rw [List.getElem?_append_left hi] at hz; exact hall i z hz
        · rw [List.getElem?_append_right (by omega)] at hz
          have : i - ys.length = 0 := by
            have := (List.getElem?_eq_some_iff.1 hz).1
            simp at this; omega
          rw [this] at hz
          simp at hz
          subst hz
          have : i = k := by omega
          subst this
          exact ⟨cs', h1, h2⟩
    obtain ⟨ys, hys, hall⟩ := hch
    refine ⟨ys, some a, len, m, rfl, hl, by unfold maxLen at hm; omega, hys, by unfold maxLen at hm; omega, fun i y hy => ?_⟩
    obtain ⟨cs', h1, h2⟩ := hall i y hy
    obtain ⟨_, hlen, hcell⟩ := World.cells?_some h1
    have ea : a = ⟨a.block, a.off, none⟩ := by
      have hl0 : 0 < ys.length := Nat.lt_of_le_of_lt (Nat.zero_le i) (List.getElem?_eq_some_iff.1 hy).1
      obtain ⟨c0, h3, _⟩ := hall 0 _ (List.getElem?_eq_getElem hl0)
      obtain ⟨_, hlen0, hcell0⟩ := World.cells?_some h3
      have h0 := hcell0 0 hpos
      rw [List.getElem?_eq_getElem (by omega)] at h0
      exact addr_none (by simpa [Addr.add] using h0)
    refine ⟨a.block, a.off, cs', congrArg some ea, h2, fun j u hu => ?_⟩
    have hj : j < r.size := by rw [← hlen]; exact (List.getElem?_eq_some_iff.1 hu).1
    have h4 := hcell j hj
    rw [hu, Go.Deep.add_add, ea] at h4
    rw [← h4]
    congr 1
    unfold Addr.add
    split
    · rename_i h; rw [h]; rfl
    · rfl

theorem opens_str {T : TypeId} (hT : Tryd.prog.underlying T = some .string) : Opens T R.str := by
  intro H enc W fuel cs x h
  obtain ⟨s, h1, _, hw⟩ := DataW.trod_string hT h
  exact ⟨s, h1, by unfold maxLen at hw; omega⟩
theorem opens_bool {T : TypeId} (hT : Tryd.prog.underlying T = some .bool) : Opens T R.bool := by
  intro H enc W fuel cs x h
  obtain ⟨b, h1, _⟩ := DataW.trod_bool hT h
  exact ⟨b, h1⟩

theorem take_drop_one {cs : List Value} {n : Nat} (h : n < cs.length) : (cs.drop n).take 1 = [cs[n]] := by
  rw [List.drop_eq_getElem_cons h]; rfl

/-- Structs whose fields are one cell each, in order. -/
theorem opens_struct1 {α : Type} {T : TypeId} {f0 : Field} {r0 : RS α} (hT : Tryd.prog.underlying T = some (.struct #[f0])) (hn : Tryd.prog.cellsOf T = 1) (o0 : f0.offset = 0) (s0 : Tryd.prog.cellsOf f0.type = 1) (h0 : Opens f0.type r0) : Opens T r0 := by
  intro H enc W fuel cs x h
  obtain ⟨y0, n, _, hl, k0⟩ := trod_struct1 hT h
  rw [hn] at hl
  rw [o0, s0] at k0
  match cs, hl with
  | [c0], _ => exact h0 H enc W n _ _ k0
theorem opens_struct2 {α β : Type} {T : TypeId} {f0 f1 : Field} {r0 : RS α} {r1 : RS β} (hT : Tryd.prog.underlying T = some (.struct #[f0, f1])) (hn : Tryd.prog.cellsOf T = 2) (o0 : f0.offset = 0) (o1 : f1.offset = 1)
    (s0 : Tryd.prog.cellsOf f0.type = 1) (s1 : Tryd.prog.cellsOf f1.type = 1) (h0 : Opens f0.type r0) (h1 : Opens f1.type r1) : Opens T (R.pair r0 r1) := by
  intro H enc W fuel cs x h
  obtain ⟨y0, y1, n, _, hl, k0, k1⟩ := trod_struct2 hT h
  rw [hn] at hl
  rw [o0, s0] at k0
  rw [o1, s1] at k1
  match cs, hl with
  | [c0, c1], _ =>
    obtain ⟨z0, q0⟩ := h0 H enc W n _ _ k0
    obtain ⟨z1, q1⟩ := h1 H enc W n _ _ k1
    exact ⟨(z0, z1), [c0], [c1], rfl, q0, q1⟩
theorem opens_struct3 {α β γ : Type} {T : TypeId} {f0 f1 f2 : Field} {r0 : RS α} {r1 : RS β} {r2 : RS γ} (hT : Tryd.prog.underlying T = some (.struct #[f0, f1, f2])) (hn : Tryd.prog.cellsOf T = 3) (o0 : f0.offset = 0) (o1 : f1.offset = 1) (o2 : f2.offset = 2)
    (s0 : Tryd.prog.cellsOf f0.type = 1) (s1 : Tryd.prog.cellsOf f1.type = 1) (s2 : Tryd.prog.cellsOf f2.type = 1) (h0 : Opens f0.type r0) (h1 : Opens f1.type r1) (h2 : Opens f2.type r2) : Opens T (R.pair r0 (R.pair r1 r2)) := by
  intro H enc W fuel cs x h
  obtain ⟨y0, y1, y2, n, _, hl, k0, k1, k2⟩ := Go.Deep.trod_struct3 hT h
  rw [hn] at hl
  rw [o0, s0] at k0
  rw [o1, s1] at k1
  rw [o2, s2] at k2
  match cs, hl with
  | [c0, c1, c2], _ =>
    obtain ⟨z0, q0⟩ := h0 H enc W n _ _ k0
    obtain ⟨z1, q1⟩ := h1 H enc W n _ _ k1
    obtain ⟨z2, q2⟩ := h2 H enc W n _ _ k2
    exact ⟨(z0, z1, z2), [c0], [c1, c2], rfl, q0, [c1], [c2], rfl, q1, q2⟩
theorem opens_struct4 {α β γ δ : Type} {T : TypeId} {f0 f1 f2 f3 : Field} {r0 : RS α} {r1 : RS β} {r2 : RS γ} {r3 : RS δ} (hT : Tryd.prog.underlying T = some (.struct #[f0, f1, f2, f3])) (hn : Tryd.prog.cellsOf T = 4)
    (o0 : f0.offset = 0) (o1 : f1.offset = 1) (o2 : f2.offset = 2) (o3 : f3.offset = 3) (s0 : Tryd.prog.cellsOf f0.type = 1) (s1 : Tryd.prog.cellsOf f1.type = 1) (s2 : Tryd.prog.cellsOf f2.type = 1) (s3 : Tryd.prog.cellsOf f3.type = 1)
    (h0 : Opens f0.type r0) (h1 : Opens f1.type r1) (h2 : Opens f2.type r2) (h3 : Opens f3.type r3) : Opens T (R.pair r0 (R.pair r1 (R.pair r2 r3))) := by
  intro H enc W fuel cs x h
  obtain ⟨y0, y1, y2, y3, n, _, hl, k0, k1, k2, k3⟩ := Go.Joins.trod_struct4 hT h
  rw [hn] at hl
  rw [o0, s0] at k0
  rw [o1, s1] at k1
  rw [o2, s2] at k2
  rw [o3, s3] at k3
  match cs, hl with
  | [c0, c1, c2, c3], _ =>
    obtain ⟨z0, q0⟩ := h0 H enc W n _ _ k0
    obtain ⟨z1, q1⟩ := h1 H enc W n _ _ k1
    obtain ⟨z2, q2⟩ := h2 H enc W n _ _ k2
    obtain ⟨z3, q3⟩ := h3 H enc W n _ _ k3
    exact ⟨(z0, z1, z2, z3), [c0], [c1, c2, c3], rfl, q0, [c1], [c2, c3], rfl, q1, [c2], [c3], rfl, q2, q3⟩

/-- A value of a struct type: its cells read by a shape. -/
def agg_in {α : Type} (r : RS α) (w : World) (v : Value) : Prop := ∃ cs x, v = .agg (List.toArray cs) ∧ r.rep w cs x
theorem open_agg_in {α : Type} {H : Type} {enc : TypeId × Value → H} {W : World} {d : DataW H} {ps : List MemPlace} {T : TypeId} {fs : Array Field} {r : RS α} (hT : Tryd.prog.underlying T = some (.struct fs)) (hr : Opens T r) {v : Value}
    (hv : Value.okWide Tryd.prog W .any 0 T v) (h : DataW.Trod enc Tryd.prog W 0 (fun _ => true) true T v d ps) : agg_in r W v := by
  obtain ⟨cs, rfl, _⟩ := okWide_struct hT hv
  obtain ⟨fuel, hf⟩ := h
  obtain ⟨y, hy⟩ := hr H enc W fuel _ _ hf
  exact ⟨cs.toList, y, by simp, hy⟩

end Go.Proofs.YtigcagplbihenaaDoor

/- The wrap of a row that lists laid tables, the world's shape kept: for walks that call a function of the library that reads a variable of the library's own. -/
namespace Go.Proofs.YtigcagplbihenaaDoor
open Go.RowKit
variable {H : Type} {enc : TypeId × Value → H}

theorem wrap_and_shaped {a : Assume} {C : Checked} {os : Os} {f : FuncId} {fn : Func} {s : ChangeSpec} {conds : List PathCond} {apart fresh handsOn again : Bool} {X : World → Array Value → Prop}
    (hX : ∀ (w w' : World) (args : Array Value), w.heap = w'.heap → X w args → X w' args)
    (own : ownKnob C.prog.godebug = none) (started : os.Started) (noInit : C.prog.inits.idxOf? f = none) (hfn : C.prog.funcs[f]? = some fn)
    (witness : ∃ (w : World) (tape : Tape) (i : Input), w.os = os ∧ (w.forCall tape i).Shaped C.prog ∧ i.vars = [] ∧ Input.okWide C.prog (w.forCall tape i) .any w.heap.size f i ∧
      ((s.pre enc C.prog fn conds apart (w.forCall tape i).memory i.args ∧ X (w.forCall tape i).memory i.args) ∧ sizedMet enc C.prog fn (OpenSpec.ofChange s) apart (w.forCall tape i).memory i.args) ∧ a.holds C.prog (lone (Frame.enter C.prog f i.args .normal) [] (w.forCall tape i)))
    (contract : ∀ (W : World) (base : Nat) (args : Array Value) (ds gs : List (DataW H)) (before : List MemPlace),
      (∀ (j : Nat) t v, fn.params[j]? = some t → args[j]? = some v → Value.okWide C.prog W .any base t v) →
      DataW.Whole enc C.prog fn.params.toList s.vars apart W args.toList ds gs before →
      W.ShapedOpen C.prog →
      Calls C.prog f args W fun e W' => ∃ v, e = .returned v ∧ s.post enc C.prog fn apart fresh handsOn again W args v W') :
    ReturnsInHanded a C os f .any (fun w args => (s.pre enc C.prog fn conds apart w args ∧ X w args) ∧ sizedMet enc C.prog fn (OpenSpec.ofChange s) apart w args) (s.post enc C.prog fn apart fresh handsOn again) := by
  refine returnsInHanded_of_calls own started noInit witness ?_
  intro w tape i _ hsh _ hok hpre hholds
  obtain ⟨_, _, _, fn', hfn', _, _, _, _, hval⟩ := hok
  have e : fn' = fn := Option.some.inj (hfn'.symm.trans hfn)
  subst e
  obtain ⟨⟨⟨ds, gs, before, hw, hc⟩, hx⟩, hz⟩ := hpre
  have hw' := DataW.Whole.of_heap (w' := w.forCall tape i) (by rfl) hw
  refine (contract (w.forCall tape i) w.heap.size i.args ds gs before hval hw' hsh).mono fun e W' ⟨v, he, hp⟩ => ?_
  subst he
  exact ChangeSpec.post_blind hp

theorem some_max {W : World} (h : W.ShapedOpen Tryd.prog) : ∃ m, W.cell? ⟨0, 0, none⟩ = some (.int .i64 m) :=
  Go.Proofs.cell_of_shapedOpen_int (zero := #[.int .i64 0]) (t := 3) h (of_decide_eq_true (by kernel_rfl)) (by kernel_rfl) rfl (by kernel_rfl) (by kernel_rfl) Tryd.underlying3

end Go.Proofs.YtigcagplbihenaaDoor

/- The laws' helpers on slices of ints, in the one form that all kinds of data share. -/
namespace Go.Proofs.YtigcagplbihenaaDoor
open Go.RowKit
set_option linter.unusedVariables false
set_option linter.unusedSimpArgs false

theorem Own.rd {α : Type} {o : OS α} {r : RS α} (hr : Reads o r) {lo hi : Nat} {w : World} {cs : List Value} {x : α} (h : Own o lo hi w cs x) : r.rep w cs x := by
  obtain ⟨fp, h1, _⟩ := h
  exact hr.2 h1

/-- What is left of a bound behind k things, -1 if they are too many. -/
def szR (left : Int) (k : Nat) : Int := if (k : Int) ≤ left then left - k else -1
theorem szR_add {left : Int} {a b : Nat} (h : (a : Int) ≤ left) : szR left (a + b) = szR (left - a) b := by
  unfold szR
  by_cases hb : (b : Int) ≤ left - a
  · rw [if_pos (by omega), if_pos hb]; omega
  · rw [if_neg (by omega), if_neg hb]
theorem szR_no {left : Int} {a : Nat} (b : Nat) (h : ¬ (a : Int) ≤ left) : szR left (a + b) = -1 := by
  unfold szR; rw [if_neg (by omega)]
theorem szR_no0 {left : Int} {a : Nat} (h : ¬ (a : Int) ≤ left) : szR left a = -1 := by
  unfold szR; rw [if_neg h]
theorem szR_yes {left : Int} {a : Nat} (h : (a : Int) ≤ left) : szR left a = left - a := by
  unfold szR; rw [if_pos h]
/-- It is -1, or the bound holds. -/
theorem szR_cases (left : Int) (k : Nat) : szR left k = -1 ∧ ¬ (k : Int) ≤ left ∨ szR left k = left - k ∧ (k : Int) ≤ left := by
  unfold szR
  by_cases h : (k : Int) ≤ left
  · exact .inr ⟨if_pos h, h⟩
  · exact .inl ⟨if_neg h, h⟩

theorem rI_open {w : World} {v : Value} {xs : List Int} (h : rI.rep w [v] xs) : ∃ a cap, v = .slice a xs.length cap ∧ xs.length ≤ cap ∧ cap ≤ 9223372036854775807 ∧ Ints w a xs.length xs := by
  obtain ⟨a, n, cap, hv, h1, h2, hs⟩ := h
  simp at hv
  have := hs.len
  subst this
  exact ⟨a, cap, hv, h1, h2, hs.ints⟩
theorem rI_mk {w : World} {a : Option Addr} {n cap : Nat} {xs : List Int} (h : Ints w a n xs) (h1 : n ≤ cap) (h2 : cap ≤ 9223372036854775807) : rI.rep w [.slice a n cap] xs := ⟨a, n, cap, rfl, h1, h2, h.sl⟩

theorem rI_form {w : World} {cs : List Value} {xs : List Int} (h : rI.rep w cs xs) : ∃ b n c, cs = [.slice b n c] := by
  obtain ⟨a, n, cap, hv, _⟩ := h
  exact ⟨_, _, _, hv⟩
theorem oI_form1 {lo hi : Nat} {w : World} {v : Value} {xs : List Int} (h : Own oI lo hi w [v] xs) : ∃ b n c, v = .slice b n c := by
  obtain ⟨b, n, c, hv⟩ := rI_form (h.rd reads_I)
  simp at hv
  exact ⟨_, _, _, hv⟩
/-- A store below what is owned. -/
theorem Own.setOut {α : Type} {o : OS α} {lo hi : Nat} {w w' : World} {cs : List Value} {x : α} (h : Own o lo hi w cs x) {p : Addr} {u : Value} (hw : w' = w.setCell p u) (hp : p.block < lo) : Own o lo hi w' cs x := by
  obtain ⟨fp, h1, h2, h3⟩ := h
  exact ⟨fp, o.frame h1 (fun k hk => by rw [hw]; exact Below.heap_setCell _ _ _ _ (by have := h3 k hk; omega)), h2, h3⟩
theorem bytes_ne {s t : ByteArray} (h : s ≠ t) : (s.toList == t.toList) = false := by
  rw [beq_eq_false_iff_ne]
  intro e
  apply h
  rw [ByteArray.toList_eq, ByteArray.toList_eq] at e
  cases s; cases t
  simp at e
  simp [e]

def bulk_I (xs : List Int) : Nat := xs.length
def cnt_I (xs : List Int) : Nat := xs.length
theorem cnt_le_I (xs : List Int) : cnt_I xs ≤ 2 * bulk_I xs := by unfold cnt_I bulk_I; omega
def mk_I (k : Int) (xs : List Int) : List Int := marks k xs.length

theorem sz_I (v : Value) (xs : List Int) (left : Int) (w : World) (h : rI.rep w [v] xs) (h0 : 0 ≤ left) (h1 : left ≤ 1048576) :
    Calls Tryd.prog 60 #[v, .int .i64 left] w fun e w' => e = .returned (.int .i64 (szR left (bulk_I xs))) ∧ w = w' := by
  obtain ⟨a, cap, rfl, hn1, hn2, hi⟩ := rI_open h
  have hn := hi.small
  unfold bulk_I
  by_cases hl : (xs.length : Int) ≤ left
  · have HE := Lib.hid (szR_yes hl)
    go_enter Tryd.func60, Tryd.ntmps60
    go_wp2
    go_ret
    exact ⟨ret_int HE.out.symm, rfl⟩
  · have HE := Lib.hid (szR_no0 hl)
    go_enter Tryd.func60, Tryd.ntmps60
    go_wp2
    go_ret
    exact ⟨ret_int HE.out.symm, rfl⟩

theorem to_I (v : Value) (xs : List Int) (w : World) (h : rI.rep w [v] xs) (hn : bulk_I xs ≤ 1048576) :
    Calls Tryd.prog 64 #[v] w fun e w' => ∃ u, e = .returned u ∧ Own oI w.heap.size w'.heap.size w' [u] xs ∧ Below w.heap.size w w' := by
  obtain ⟨a, cap, rfl, hn1, hn2, hi⟩ := rI_open h
  unfold bulk_I at hn
  exact (toIntS_any a _ cap xs w hi (by omega)).mono fun e w' ⟨b, c, he, ho, hb⟩ => ⟨_, he, ho.own, hb⟩

theorem eq_I (u v : Value) (xs ys : List Int) (w : World) (h : rI.rep w [u] xs) (h' : rI.rep w [v] ys) :
    Calls Tryd.prog 68 #[u, v] w fun e w' => e = .returned (.bool (decide (xs = ys))) ∧ Drew w w' := by
  obtain ⟨a, cap, rfl, _, _, hi⟩ := rI_open h
  obtain ⟨a', cap', rfl, _, _, hi'⟩ := rI_open h'
  exact eqIntS_any _ _ _ _ _ _ _ _ _ hi hi'

theorem mark_I (u : Value) (xs : List Int) (k : Int) (lo hi : Nat) (w : World) (h : Own oI lo hi w [u] xs) (hh : hi ≤ w.heap.size) (k0 : 0 ≤ k) (k1 : k + cnt_I xs ≤ 1000000000) :
    Calls Tryd.prog 72 #[u, .int .i64 k] w fun e w' => e = .returned (.int .i64 (k + cnt_I xs)) ∧ Own oI lo hi w' [u] (mk_I k xs) ∧ Turn lo hi w w' := by
  obtain ⟨fp, h1, h2, h3⟩ := h
  obtain ⟨a, cap, hv, _, _⟩ := oI_own h1
  simp at hv
  subst hv
  unfold cnt_I at *
  exact (markI a _ cap xs fp k w h1 k0 (by omega) (by omega)).mono fun e w' ⟨he, h4, h5⟩ => ⟨he, ⟨fp, h4, h2, h3⟩, (h5.kept h3).turn⟩

theorem held_I (u : Value) (xs : List Int) (k : Int) (w : World) (h : rI.rep w [u] (mk_I k xs)) (k0 : 0 ≤ k) (k1 : k + cnt_I xs ≤ 1000000000) :
    Calls Tryd.prog 73 #[u, .int .i64 k] w fun e w' => e = .returned (.int .i64 (k + cnt_I xs)) ∧ w = w' := by
  obtain ⟨a, cap, rfl, _, _, hi⟩ := rI_open h
  unfold mk_I at hi ⊢
  unfold cnt_I at *
  rw [marks_length] at hi ⊢
  exact heldIntS_any _ _ _ _ _ hi k0 (by omega) (by omega)

end Go.Proofs.YtigcagplbihenaaDoor

/- Slices of ints and strings opened. -/
namespace Go.Proofs.YtigcagplbihenaaDoor
open Go.ChangeShapes Go.WideShapes Go.ChangeAt Go.RowKit
set_option linter.unusedVariables false
set_option maxRecDepth 100000

def kI_in (w : World) (v : Value) : Prop := ∃ a n cap xs, v = .slice a n cap ∧ (xs.length = n ∧ n ≤ 9223372036854775807) ∧ rI.rep w [.slice a n cap] xs
theorem opens_I : Opens 33 rI := opens_slice Tryd.underlying33 (by kernel_rfl) (by decide) opens_int
theorem open_kI_in {H : Type} {enc : TypeId × Value → H} {W : World} {d : DataW H} {ps : List MemPlace} {v : Value} (hv : Value.okWide Tryd.prog W .any 0 33 v) (h : DataW.Trod enc Tryd.prog W 0 (fun _ => true) true 33 v d ps) : kI_in W v := by
  obtain ⟨a, l, c, rfl⟩ := okWide_slice Tryd.underlying33 hv
  obtain ⟨fuel, hf⟩ := h
  obtain ⟨xs, hx⟩ := opens_I H enc W fuel _ _ hf
  have hx' : rI.rep W [.slice a l c] xs := by simpa [Value.cells] using hx
  obtain ⟨a', cap, hv2, _, _, hi⟩ := rI_open hx'
  simp at hv2
  obtain ⟨rfl, rfl, rfl⟩ := hv2
  exact ⟨_, _, _, xs, rfl, ⟨rfl, hi.small⟩, hx'⟩

theorem opens_str' : Opens 9 R.str := opens_str Tryd.underlying9

def str_in (_w : World) (v : Value) : Prop := ∃ s, v = .string s ∧ s.size ≤ 9223372036854775807
theorem open_str_in {H : Type} {enc : TypeId × Value → H} {W : World} {d : DataW H} {ps : List MemPlace} {v : Value} (hv : Value.okWide Tryd.prog W .any 0 9 v) (h : DataW.Trod enc Tryd.prog W 0 (fun _ => true) true 9 v d ps) : str_in W v := by
  obtain ⟨s, rfl⟩ := okWide_string Tryd.underlying9 hv
  obtain ⟨fuel, hf⟩ := h
  obtain ⟨s', h1, h2⟩ := opens_str' H enc W fuel _ _ hf
  simp [Value.cells] at h1
  subst h1
  exact ⟨_, rfl, h2⟩

end Go.Proofs.YtigcagplbihenaaDoor

/- A slice that a call makes and fills element by element: what holds on the way. -/
namespace Go.Proofs.YtigcagplbihenaaDoor
open Go.RowKit
set_option linter.unusedVariables false
set_option linter.unusedSimpArgs false

/-- Cells stored one behind the other. -/
def setCells (w : World) (g : Nat) : Nat → List Value → World
  | _, [] => w
  | i, c :: cs => setCells (w.setCell ⟨g, i, none⟩ c) g (i + 1) cs
theorem setCells_size (g : Nat) : ∀ (cs : List Value) (w : World) (i : Nat), (setCells w g i cs).heap.size = w.heap.size
  | [], _, _ => rfl
  | c :: cs, w, i => by rw [setCells, setCells_size g cs]; simp [World.setCell]
theorem setCells_other (g : Nat) : ∀ (cs : List Value) (w : World) (i k : Nat), k ≠ g → (setCells w g i cs).heap[k]? = w.heap[k]?
  | [], _, _, _, _ => rfl
  | c :: cs, w, i, k, h => by rw [setCells, setCells_other g cs _ _ _ h]; exact Below.heap_setCell _ _ _ _ h
theorem setCells_only (g : Nat) (cs : List Value) (w : World) (i : Nat) : Only [g] w (setCells w g i cs) := by
  have h : ∀ (cs : List Value) (w : World) (i : Nat), (setCells w g i cs).os = w.os ∧ (setCells w g i cs).tape = w.tape ∧ (setCells w g i cs).output = w.output := by
    intro cs
    induction cs with
    | nil => intro w i; exact ⟨rfl, rfl, rfl⟩
    | cons c cs ih => intro w i; exact ih (w.setCell ⟨g, i, none⟩ c) (i + 1)
  exact ⟨(h cs w i).1, (h cs w i).2.1, (h cs w i).2.2, setCells_size g cs w i, fun k hk => setCells_other g cs w i k (by simpa using hk)⟩
/-- The block behind stores. -/
theorem setCells_block (g E : Nat) : ∀ (cs : List Value) (w : World) (i : Nat) (A C M : List Value), w.heap[g]? = some (.cells (A ++ (M ++ C)).toArray E) → A.length = i → M.length = cs.length →
    (setCells w g i cs).heap[g]? = some (.cells (A ++ (cs ++ C)).toArray E)
  | [], w, i, A, C, M, h, _, hM => by
    have : M = [] := List.eq_nil_of_length_eq_zero (by simpa using hM)
    subst this
    exact h
  | c :: cs, w, i, A, C, M, h, hA, hM => by
    cases M with
    | nil => simp at hM
    | cons m M =>
      have h2 := heap_setCell_same w g i _ E c h
      have e : ((A ++ (m :: M ++ C)).toArray.setIfInBounds i c) = ((A ++ [c]) ++ (M ++ C)).toArray := by
        apply Array.ext'
        simp only [Array.toList_setIfInBounds]
        rw [List.set_append_right _ _ (by omega), show i - A.length = 0 by omega]
        simp
      rw [e] at h2
      have := setCells_block g E cs _ (i + 1) (A ++ [c]) C M h2 (by simp [hA]) (by simpa using hM)
      rw [setCells, this]
      simp

/-- The first k elements of the slice in block g are owned as xs has them; the rest is nought yet. -/
def Part {α : Type} (E : TypeId) (o : OS α) (z : List Value) (B : Nat) (w : World) (g n k : Nat) (xs : List α) : Prop :=
  ∃ css fps, w.heap[g]? = some (.cells (css.flatten ++ (List.replicate (n - k) z).flatten).toArray E) ∧ o.rows w css (xs.take k) fps ∧ (g :: fps.flatten).Nodup ∧ (∀ p ∈ fps.flatten, B ≤ p ∧ p < w.heap.size) ∧ B ≤ g ∧ g < w.heap.size

theorem Part.below {α : Type} {E : TypeId} {o : OS α} {z : List Value} {B C : Nat} {w w' : World} {g n k : Nat} {xs : List α} (h : Part E o z B w g n k xs) (hb : Below C w w') (hC : w.heap.size ≤ C) : Part E o z B w' g n k xs := by
  obtain ⟨css, fps, h1, h2, h3, h4, h5, h6⟩ := h
  exact ⟨css, fps, by rw [hb.block g (by omega)]; exact h1, o.rows_frame h2 (fun p hp => hb.block p (by have := h4 p hp; omega)), h3, fun p hp => by have := h4 p hp; have := hb.size; omega, h5, by have := hb.size; omega⟩
/-- The cells that stand for the next element are there and can be written. -/
theorem Part.cell {α : Type} {E : TypeId} {o : OS α} {z : List Value} {B : Nat} {w : World} {g n k : Nat} {xs : List α} (h : Part E o z B w g n k xs) (hz : z.length = o.size) (hk : k < n) (hx : k ≤ xs.length) (j : Nat) (hj : j < o.size) :
    (∃ u, w.cell? ⟨g, k * o.size + j, none⟩ = some u) ∧ w.frozen? ⟨g, k * o.size + j, none⟩ = false := by
  obtain ⟨css, fps, h1, h2, _⟩ := h
  have hl := (o.rows_len h2).2.2
  have hlen : css.flatten.length = k * o.size := by rw [hl, List.length_take, Nat.min_eq_left hx]
  constructor
  · have : k * o.size + j < (css.flatten ++ (List.replicate (n - k) z).flatten).length := by
      rw [List.length_append, hlen]
      have h3 : ((List.replicate (n - k) z).flatten).length = (n - k) * o.size := by simp [hz]
      rw [h3]
      have : o.size ≤ (n - k) * o.size := Nat.le_mul_of_pos_left _ (by omega)
      omega
    refine ⟨(css.flatten ++ (List.replicate (n - k) z).flatten)[k * o.size + j], ?_⟩
    simp only [World.cell?, h1]
    simp only [Option.isSome_none, Bool.false_eq_true, if_false]
    rw [List.getElem?_toArray, List.getElem?_eq_getElem this]
  · simp [World.frozen?, h1]
/-- The next element comes in. -/
theorem Part.step {α : Type} {E : TypeId} {o : OS α} {z : List Value} {B B1 B2 : Nat} {w : World} {g n k : Nat} {xs : List α} {cs : List Value} {x : α} (h : Part E o z B w g n k xs) (hz : z.length = o.size) (hk : k < n) (hx : xs[k]? = some x)
    (hy : Own o B1 B2 w cs x) (hB1 : g < B1)
    (hold : ∃ w0 : World, Part E o z B w0 g n k xs ∧ w0.heap.size ≤ B1 ∧ ∀ p, p < w0.heap.size → w.heap[p]? = w0.heap[p]?) (hB2 : B2 ≤ w.heap.size) (hB : B ≤ B1) :
    Part E o z B (setCells w g (k * o.size) cs) g n (k + 1) xs := by
  obtain ⟨w0, ⟨css, fps, h1, h2, h3, h4, h5, h6⟩, hs, hsame⟩ := hold
  obtain ⟨fy, hr, hn, hl⟩ := hy
  have h1' : w.heap[g]? = some (.cells (css.flatten ++ (List.replicate (n - k) z).flatten).toArray E) := by rw [hsame g h6]; exact h1
  have h2' := o.rows_frame h2 (fun p hp => hsame p (h4 p hp).2)
  have hlen : css.flatten.length = k * o.size := by
    rw [(o.rows_len h2).2.2]
    have := (List.getElem?_eq_some_iff.1 hx).1
    rw [List.length_take, Nat.min_eq_left (by omega)]
  have hcl := o.len hr
  have hO := setCells_only g cs w (k * o.size)
  have hfy : ∀ p ∈ fy, p ≠ g := fun p hp e => by have := hl p hp; omega
  have hfps : ∀ p ∈ fps.flatten, p ≠ g := fun p hp e => by subst e; exact (List.nodup_cons.1 h3).1 hp
  refine ⟨css ++ [cs], fps ++ [fy], ?_, ?_, ?_, ?_, h5, ?_⟩
  · have e : (List.replicate (n - k) z).flatten = z ++ (List.replicate (n - (k + 1)) z).flatten := by
      rw [show n - k = (n - (k + 1)) + 1 by omega, List.replicate_succ]; simp
    rw [e] at h1'
    have := setCells_block g E cs w (k * o.size) css.flatten _ z h1' hlen (by rw [hz, hcl])
    rw [this]
    simp
  · rw [take_snoc' xs k x hx]
    refine o.rows_snoc (o.frame hr (fun p hp => hO.block p (by simpa using hfy p hp))) (o.rows_frame h2' (fun p hp => hO.block p (by simpa using hfps p hp)))
  · rw [List.flatten_append]
    refine List.nodup_cons.2 ⟨fun hm => ?_, List.nodup_append.2 ⟨(List.nodup_cons.1 h3).2, by simpa using hn, fun p hp q hq e => ?_⟩⟩
    · rcases List.mem_append.1 hm with hm | hm
      · exact hfps g hm rfl
      · exact hfy g (by simpa using hm) rfl
    · subst e
      have := (h4 p hp).2
      have := hl p (by simpa using hq)
      omega
  · intro p hp
    rw [setCells_size]
    rw [List.flatten_append] at hp
    rcases List.mem_append.1 hp with hp | hp
    · exact ⟨(h4 p hp).1, o.rows_lt h2' p hp⟩
    · have := hl p (by simpa using hp); omega
  · rw [setCells_size]
    have h7 := (Array.getElem?_eq_some_iff.1 h1').1
    exact h7
theorem Part.done {α : Type} {E : TypeId} {o : OS α} {z : List Value} {B : Nat} {w : World} {g n : Nat} {xs : List α} (h : Part E o z B w g n n xs) (hn : xs.length = n) (hm : n ≤ 9223372036854775807) : Own (O.slice E o) B w.heap.size w [.slice (some ⟨g, 0, none⟩) n n] xs := by
  obtain ⟨css, fps, h1, h2, h3, h4, h5, h6⟩ := h
  rw [List.take_of_length_le (by omega)] at h2
  simp only [Nat.sub_self, List.replicate_zero, List.flatten_nil, List.append_nil] at h1
  have hl := (o.rows_len h2).2.2
  refine ⟨g :: fps.flatten, ⟨_, css, fps, rfl, by simp [bl, Value.ownBlock], ⟨by rw [hl], .inr ⟨g, n, css.flatten.toArray, by rw [hn], Nat.zero_le _, h1, by omega, by unfold maxLen; omega, by simp only [List.size_toArray]; rw [hl, hn], ?_⟩⟩, h2⟩, h3, ?_⟩
  · simp only []
    exact List.take_of_length_le (by rw [hl]; exact Nat.le_refl _)
  · intro p hp
    rcases List.mem_cons.1 hp with rfl | hp
    · exact ⟨h5, h6⟩
    · exact h4 p hp

theorem rep_flat {α : Type} (l : List α) (hl : 0 < l.length) : ∀ (n i : Nat), ((List.replicate n l).flatten)[i]? = if i < n * l.length then l[i % l.length]? else none
  | 0, i => by simp
  | n + 1, i => by
    rw [List.replicate_succ, List.flatten_cons]
    by_cases h : i < l.length
    · rw [List.getElem?_append_left h, Nat.mod_eq_of_lt h, if_pos]
      rw [Nat.add_mul]; omega
    · rw [List.getElem?_append_right (by omega), rep_flat l hl n (i - l.length), ← Nat.mod_eq_sub_mod (by omega)]
      by_cases h2 : i < (n + 1) * l.length
      · rw [if_pos h2, if_pos]; rw [Nat.add_mul] at h2; omega
      · rw [if_neg h2, if_neg]; rw [Nat.add_mul] at h2; omega
theorem made_flat (z : Array Value) (n : Nat) (hz : 0 < z.size) : (madeCells z (n * z.size)).toList = (List.replicate n z.toList).flatten := by
  apply List.ext_getElem?
  intro i
  rw [rep_flat z.toList (by simpa using hz) n i]
  simp only [madeCells, Array.toList_map, Array.toList_range, List.getElem?_map, Array.length_toList]
  by_cases h : i < n * z.size
  · rw [if_pos h, List.getElem?_range h]
    have hm : i % z.size < z.size := Nat.mod_lt _ hz
    simp [hm]
  · rw [if_neg h]
    simp; omega

/-- 'make([]T, n)': nothing of it is filled yet. -/
theorem wpList_mkS {α : Type} {T E size bytes : Nat} {z : Value} (hT : Tryd.prog.underlying T = some (.slice E)) (hE : (Tryd.prog.info? E).map (fun i => (i.zero, i.size, i.bytes)) = some (some z, size, bytes)) (hz : z.cells.size = size) (hpos : 0 < size) (hby : bytes ≤ 1000) (o' : OS α) (xs : List α)
    {W : World} {ops : Array Oper} {rest : List Oper} {o : Oper} {a : Act} {Q : Exit → Act → World → Prop} (l c : Operand) (n : Nat) (hn : n ≤ 100000000)
    (hgd : o.guard = none) (ho : o.op = Op.makeSlice T l c) (hl : a.eval l = .int .i64 n) (hc : a.eval c = .int .i64 n)
    (h : ∀ w', Part E o' z.cells.toList W.heap.size w' W.heap.size n 0 xs → Below W.heap.size W w' → W.heap.size < w'.heap.size → wpList Tryd.prog ops Q rest (a.put o.dst (.slice (some ⟨W.heap.size, 0, none⟩) n n)) w') :
    wpList Tryd.prog ops Q (o :: rest) a W := by
  obtain ⟨i, hi, hz0, hz1, hz2⟩ := info_parts hE
  have hb2 : i.bytes * n ≤ 281474976710656 := by
    rw [hz2]
    exact Nat.le_trans (Nat.mul_le_mul hby hn) (by decide)
  refine wpList_make_full W hgd l c T ho W.heap.size E i z size hT hi hz0 hz1 .i64 .i64 n n n hl hc rfl rfl hb2 (by unfold maxLen; omega) (Nat.le_refl _) ?_
  intro w1 hown hgrow
  have hb1 : Below W.heap.size W w1 := (Below.refl _ _).grown hgrow (Nat.le_refl _) (by intro k hk; cases hk)
  have hlt := (hown.lt W.heap.size rfl).2
  refine h w1 ?_ hb1 hlt
  rcases hown.2 with ⟨hv, _⟩ | ⟨g, cap, cur, hv, _, hg, _, _, hcs, htake⟩
  · simp at hv
  · simp at hv
    obtain ⟨rfl, rfl⟩ := hv
    have e1 : cur.toList = (madeCells z.cells (n * size)).toList := by
      rw [← htake, List.take_of_length_le (by simp [hcs])]
    have e2 := made_flat z.cells n (by omega)
    rw [hz] at e2
    rw [e2] at e1
    have e3 : cur = ((List.replicate n z.cells.toList).flatten).toArray := by rw [← e1]
    refine ⟨[], [], ?_, trivial, by simp, by simp, Nat.le_refl _, hlt⟩
    rw [hg, e3, Nat.sub_zero, List.flatten_nil, List.nil_append]

end Go.Proofs.YtigcagplbihenaaDoor

/- Slices of any element: opened, one element at a time; sums over them. -/
namespace Go.Proofs.YtigcagplbihenaaDoor
open Go.RowKit
set_option linter.unusedVariables false
set_option linter.unusedSimpArgs false

theorem rS_open {α : Type} {r : RS α} {w : World} {v : Value} {xs : List α} (h : (R.slice r).rep w [v] xs) : ∃ a cap, v = .slice a xs.length cap ∧ xs.length ≤ cap ∧ cap ≤ 9223372036854775807 ∧ Sl r w a xs.length xs := by
  obtain ⟨a, n, cap, hv, h1, h2, hs⟩ := h
  simp at hv
  have := hs.len
  subst this
  exact ⟨a, cap, hv, h1, h2, hs⟩
theorem rS_mk {α : Type} {r : RS α} {w : World} {a : Option Addr} {n cap : Nat} {xs : List α} (h : Sl r w a n xs) (h1 : n ≤ cap) (h2 : cap ≤ 9223372036854775807) : (R.slice r).rep w [.slice a n cap] xs := ⟨a, n, cap, rfl, h1, h2, h⟩
theorem rS_form {α : Type} {r : RS α} {w : World} {cs : List Value} {xs : List α} (h : (R.slice r).rep w cs xs) : ∃ b n c, cs = [.slice b n c] := by
  obtain ⟨a, n, cap, hv, _⟩ := h
  exact ⟨_, _, _, hv⟩
theorem oS_form1 {α : Type} {t : TypeId} {o : OS α} {r : RS α} (hr : Reads o r) {lo hi : Nat} {w : World} {v : Value} {xs : List α} (h : Own (O.slice t o) lo hi w [v] xs) : ∃ b n c, v = .slice b n c := by
  obtain ⟨b, n, c, hv⟩ := rS_form (h.rd (Reads.slice t hr))
  simp at hv
  exact ⟨_, _, _, hv⟩
theorem rS_sl {α : Type} {r : RS α} {w : World} {a : Option Addr} {n c : Nat} {xs : List α} (h : (R.slice r).rep w [.slice a n c] xs) : Sl r w a n xs := by
  obtain ⟨a', n', c', hv, h1, h2, hs⟩ := h
  simp at hv
  obtain ⟨rfl, rfl, rfl⟩ := hv
  exact hs
theorem rS_cap {α : Type} {r : RS α} {w : World} {a : Option Addr} {n c : Nat} {xs : List α} (h : (R.slice r).rep w [.slice a n c] xs) : n ≤ c ∧ c ≤ 9223372036854775807 := by
  obtain ⟨a', n', c', hv, h1, h2, hs⟩ := h
  simp at hv
  obtain ⟨rfl, rfl, rfl⟩ := hv
  exact ⟨h1, h2⟩
theorem rI_ints {w : World} {a : Option Addr} {n c : Nat} {xs : List Int} (h : rI.rep w [.slice a n c] xs) : Ints w a n xs := (rS_sl h).ints
theorem Sl.at {α : Type} {r : RS α} {w : World} {a : Option Addr} {n : Nat} {xs : List α} (h : Sl r w a n xs) {k : Nat} (hk : k < n) :
    ∃ b off cs x, a = some ⟨b, off, none⟩ ∧ Hid (xs[k]? = some x) ∧ r.rep w cs x ∧ ∀ j u, cs[j]? = some u → w.cell? ⟨b, off + (k * r.size + j), none⟩ = some u := by
  have hk' : k < xs.length := by rw [h.len]; exact hk
  obtain ⟨b, off, cs, ha, hrep, hc⟩ := h.elem k _ (List.getElem?_eq_getElem hk')
  exact ⟨b, off, cs, _, ha, List.getElem?_eq_getElem hk', hrep, hc⟩

def sumBy {α : Type} (f : α → Nat) (xs : List α) : Nat := (xs.map f).sum
theorem sumBy_drop {α : Type} (f : α → Nat) {xs : List α} {j : Nat} {x : α} (h : xs[j]? = some x) : sumBy f (xs.drop j) = f x + sumBy f (xs.drop (j + 1)) := by
  obtain ⟨h1, rfl⟩ := List.getElem?_eq_some_iff.1 h
  rw [List.drop_eq_getElem_cons h1]; simp only [sumBy, List.map_cons, List.sum_cons]
theorem sumBy_take {α : Type} (f : α → Nat) {xs : List α} {j : Nat} {x : α} (h : xs[j]? = some x) : sumBy f (xs.take (j + 1)) = sumBy f (xs.take j) + f x := by
  rw [take_snoc' xs j x h]; simp [sumBy]
theorem sumBy_mem {α : Type} (f : α → Nat) {xs : List α} {j : Nat} {x : α} (h : xs[j]? = some x) : f x ≤ sumBy f xs := by
  have h1 := sumBy_drop f h
  have h2 : sumBy f xs = sumBy f (xs.take j) + sumBy f (xs.drop j) := by
    conv => lhs; rw [← List.take_append_drop j xs]
    simp only [sumBy, List.map_append, List.sum_append]
  omega
theorem sumBy_end {α : Type} (f : α → Nat) {xs : List α} {j : Nat} (h : xs.length ≤ j) : sumBy f (xs.drop j) = 0 := by
  rw [List.drop_eq_nil_of_le h]; rfl
theorem sumBy_all {α : Type} (f : α → Nat) {xs : List α} {j : Nat} (h : xs.length ≤ j) : sumBy f (xs.take j) = sumBy f xs := by
  rw [List.take_of_length_le h]

end Go.Proofs.YtigcagplbihenaaDoor

/- A slice that a loop appends to, while everything else stays. -/
namespace Go.Proofs.YtigcagplbihenaaDoor
open Go.RowKit
set_option linter.unusedVariables false
set_option linter.unusedSimpArgs false

/-- v is a slice of the call's own: its blocks are lo, or from S on. -/
def Acc {α : Type} (E : TypeId) (o : OS α) (lo S hi : Nat) (w : World) (v : Value) (xs : List α) : Prop :=
  ∃ fp, (O.slice E o).rep w [v] xs fp ∧ fp.Nodup ∧ ∀ k ∈ fp, (k = lo ∨ S ≤ k) ∧ k < hi
theorem Acc.below {α : Type} {E : TypeId} {o : OS α} {lo S hi C : Nat} {w w' : World} {v : Value} {xs : List α} (h : Acc E o lo S hi w v xs) (hb : Below C w w') (hC : hi ≤ C) : Acc E o lo S hi w' v xs := by
  obtain ⟨fp, h1, h2, h3⟩ := h
  exact ⟨fp, (O.slice E o).frame h1 (fun k hk => hb.block k (by have := (h3 k hk).2; omega)), h2, h3⟩
theorem Acc.own {α : Type} {E : TypeId} {o : OS α} {lo S hi hi' B : Nat} {w : World} {v : Value} {xs : List α} (h : Acc E o lo S hi w v xs) (hlo : B ≤ lo) (hS : B ≤ S) (hh : hi ≤ hi') : Own (O.slice E o) B hi' w [v] xs := by
  obtain ⟨fp, h1, h2, h3⟩ := h
  exact ⟨fp, h1, h2, fun k hk => by have := h3 k hk; omega⟩
theorem Acc.of {α : Type} {E : TypeId} {o : OS α} {S hi lo : Nat} {w : World} {v : Value} {xs : List α} (h : Own (O.slice E o) S hi w [v] xs) : Acc E o lo S hi w v xs := by
  obtain ⟨fp, h1, h2, h3⟩ := h
  exact ⟨fp, h1, h2, fun k hk => by have := h3 k hk; omega⟩
theorem Acc.empty {α : Type} {E : TypeId} {o : OS α} {S g hi : Nat} {W : World} (hg : W.heap.size = g) (hh : g < hi) : Acc E o W.heap.size S hi (W.alloc (.cells #[] E)) (.slice (some ⟨g, 0, none⟩) 0 0) [] := by
  subst hg
  obtain ⟨fp, h1, h2, h3⟩ := own_empty_S (E := E) (o := o) (Nat.le_refl W.heap.size)
  exact ⟨fp, h1, h2, fun k hk => by have := h3 k hk; omega⟩
theorem Acc.nil {α : Type} {E : TypeId} {o : OS α} {lo S hi : Nat} {w : World} : Acc E o lo S hi w (.slice none 0 0) [] := by
  obtain ⟨fp, h1, h2, h3⟩ := own_nil_S (E := E) (o := o) (B := 0) (W := w)
  exact ⟨fp, h1, h2, fun k hk => by have := h3 k hk; omega⟩
theorem Acc.form {α : Type} {E : TypeId} {o : OS α} {lo S hi : Nat} {w : World} {v : Value} {xs : List α} (h : Acc E o lo S hi w v xs) : ∃ a cap, v = .slice a xs.length cap := by
  obtain ⟨fp, ⟨v1, css, fps, hv, rfl, hrow, hrows⟩, _⟩ := h
  simp at hv
  subst hv
  obtain ⟨a, cap, rfl, _⟩ := own_form hrow
  exact ⟨a, cap, rfl⟩
theorem Acc.form3 {α : Type} {E : TypeId} {o : OS α} {lo S hi : Nat} {w : World} {v : Value} {xs : List α} (h : Acc E o lo S hi w v xs) : ∃ a n cap, v = .slice a n cap := by
  obtain ⟨a, cap, h⟩ := h.form
  exact ⟨_, _, _, h⟩
theorem Acc.wide {α : Type} {E : TypeId} {o : OS α} {lo S S' hi hi' : Nat} {w : World} {v : Value} {xs : List α} (h : Acc E o lo S hi w v xs) (hS : S' ≤ S) (hh : hi ≤ hi') : Acc E o lo S' hi' w v xs := by
  obtain ⟨fp, h1, h2, h3⟩ := h
  exact ⟨fp, h1, h2, fun k hk => by have := h3 k hk; omega⟩
theorem own_int {lo hi : Nat} {w : World} {u : Int} (hu : I64 u) : Own O.int lo hi w [.int .i64 u] u := ⟨[], ⟨rfl, hu, rfl⟩, by simp, by simp⟩
theorem own_str {lo hi : Nat} {w : World} {s : ByteArray} (hs : s.size ≤ 9223372036854775807) : Own O.str lo hi w [.string s] s := ⟨[], ⟨rfl, hs, rfl⟩, by simp, by simp⟩

theorem wpList_acc {α : Type} {T E size bytes : Nat} {z : Value} (hT : Tryd.prog.underlying T = some (.slice E)) (hE : (Tryd.prog.info? E).map (fun i => (i.zero, i.size, i.bytes)) = some (some z, size, bytes)) (hz : z.cells.size = size) (hpos : 0 < size) (hby : bytes ≤ 1000)
    {o' : OS α} (hsz : o'.size = size) {lo S hi9 h1 h2 g9 : Nat} {W0 W : World} {ops : Array Oper} {rest : List Oper} {o : Oper} {a : Act} {Q : Exit → Act → World → Prop}
    (s x : Operand) (v : Value) (xs : List α) (c : List Value) (y : α)
    (hown : Acc E o' lo S hi9 W v xs) (hy : Own o' h1 h2 W c y) (hone : ∀ u ∈ c, u.oneCell' = true) (hS1 : S ≤ h1) (hhi : hi9 ≤ h1) (hh : h1 ≤ h2) (hW : h2 ≤ W.heap.size) (ht : Turn lo (lo + 1) W0 W) (hS : W0.heap.size = S) (hlo : lo < S) (hn : xs.length ≤ 100000000) (hg9 : W.heap.size = g9)
    (hgd : o.guard = none) (ho : o.op = .call { callee := .builtin .append, args := #[s, x], argTypes := #[T, T] })
    (hs : a.eval s = v) (hx : a.eval x = .slice (some ⟨g9, 0, none⟩) 1 1)
    (h : ∀ v' w', Acc E o' lo S w'.heap.size w' v' (xs ++ [y]) → Turn lo (lo + 1) W0 w' → W.heap.size < w'.heap.size → wpList Tryd.prog ops Q rest (a.put o.dst v') w') :
    wpList Tryd.prog ops Q (o :: rest) a (W.alloc (.cells c.toArray E)) := by
  subst hg9
  obtain ⟨i, hi, hz0, hz1, hz2⟩ := info_parts hE
  obtain ⟨fp, ⟨v1, css, fps, hv, rfl, hrow, hrows⟩, hnd, hlim⟩ := hown
  obtain ⟨fy, hyr, hynd, hylim⟩ := hy
  have hts := ht.size
  simp at hv
  subst hv
  obtain ⟨av, cap, rfl, _⟩ := own_form hrow
  have hclen : c.length = size := by rw [← hsz]; exact o'.len hyr
  rw [hsz] at hrow
  have hnl := List.nodup_append.1 hnd
  have hnew : Below W.heap.size W (W.alloc (.cells c.toArray E)) := (Below.refl _ _).alloc (Nat.le_refl _) _
  have hrow1 := own_below hrow hnew (Nat.le_refl _)
  have hrlen := o'.rows_len hrows
  have hlt : ∀ k ∈ bl (.slice av xs.length cap) ++ fps.flatten, k < W.heap.size := fun k hk => by have := (hlim k hk).2; omega
  have hby2 : (xs.length + 1) * bytes ≤ 140737488355328 := Nat.le_trans (Nat.mul_le_mul (show xs.length + 1 ≤ 100000001 by omega) hby) (by decide)
  have hfy : ∀ k ∈ fy, k ∉ bl (.slice av xs.length cap) ++ fps.flatten := fun k hk hm => by have := (hlim k hm).2; have := hylim k hk; omega
  have fin : ∀ (v' : Value) (w' : World), w'.ownsRow 0 E size v' (xs.length + 1) (css.flatten ++ c) → (∀ k, k ∈ fps.flatten ++ fy → w'.heap[k]? = W.heap[k]?) → Turn lo (lo + 1) W0 w' → W.heap.size < w'.heap.size →
      (∀ k ∈ bl v', ((k = lo ∨ S ≤ k) ∧ k < w'.heap.size) ∧ k ∉ fps.flatten ∧ k ∉ fy) → wpList Tryd.prog ops Q rest (a.put o.dst v') w' := by
    intro v' w' h3 h4 h5 h6 h7
    refine h v' w' ⟨bl v' ++ (fps ++ [fy]).flatten, ⟨v', css ++ [c], fps ++ [fy], rfl, rfl, ?_, ?_⟩, ?_, ?_⟩ h5 h6
    · rw [hsz]; simpa using h3
    · exact o'.rows_snoc (o'.frame hyr (fun k hk => h4 k (List.mem_append_right _ hk))) (o'.rows_frame hrows (fun k hk => h4 k (List.mem_append_left _ hk)))
    · rw [List.flatten_append, List.nodup_append]
      refine ⟨by unfold bl; cases v'.ownBlock <;> simp, ?_, ?_⟩
      · rw [List.nodup_append]
        refine ⟨hnl.2.1, by simpa using hynd, ?_⟩
        intro p hp q hq e
        subst e
        exact hfy p (by simpa using hq) (List.mem_append_right _ hp)
      · intro p hp q hq e
        subst e
        have h8 := h7 p hp
        rcases List.mem_append.1 hq with hq | hq
        · exact h8.2.1 hq
        · exact h8.2.2 (by simpa using hq)
    · intro k hk
      rcases List.mem_append.1 hk with hk | hk
      · exact (h7 k hk).1
      · simp only [List.flatten_append, List.mem_append] at hk
        rcases hk with hk | hk
        · have := hlim k (List.mem_append_right _ hk); omega
        · have := hylim k (by simpa using hk); omega
  by_cases hroom : xs.length + 1 ≤ cap
  · -- there is room: the same block
    rcases hrow1.2 with ⟨hv, _⟩ | ⟨g, cap', cur, hv, hB0, hg, hnc, hcm, hcs, htake⟩
    · simp at hv; omega
    · simp at hv
      obtain ⟨rfl, rfl⟩ := hv
      refine wpList_append_fits _ hgd s x T ho 0 E i size hT hi hz1 g xs.length cap css.flatten hs hrow1 ⟨W.heap.size, 0, none⟩ 1 1 c hx (by omega) (fresh_cells W c E) hone hroom ?_
      intro w' h3 h4
      have hgB := hlim g (by simp [bl, Value.ownBlock])
      refine fin _ w' h3 (fun k hk => ?_) ?_ ?_ ?_
      · have hkl : k < W.heap.size := by
          rcases List.mem_append.1 hk with hk | hk
          · exact hlt k (List.mem_append_right _ hk)
          · have := hylim k hk; omega
        rw [h4.block k (by simp; omega) ?_, Below.heap_alloc W _ k hkl]
        intro e
        simp at e
        subst e
        rcases List.mem_append.1 hk with hk | hk
        · exact hnl.2.2 k (by simp [bl, Value.ownBlock]) k hk rfl
        · exact hfy k hk (by simp [bl, Value.ownBlock])
      · refine ⟨h4.os.trans ht.os, h4.tape.trans ht.tape, h4.output.trans ht.output, by have := h4.size; simp at this; omega, fun k hk hx => ?_⟩
        rw [h4.block k (by simp; omega) (by intro e; simp at e; omega), Below.heap_alloc W _ k (by omega)]
        exact ht.block k hk hx
      · have := h4.size; simp at this; omega
      · intro k hk
        simp [bl, Value.ownBlock] at hk
        subst hk
        refine ⟨⟨hgB.1, by have := h4.size; simp at this; omega⟩, fun hm => hnl.2.2 k (by simp [bl, Value.ownBlock]) k hm rfl, fun hm => ?_⟩
        exact hfy k hm (by simp [bl, Value.ownBlock])
  · refine wpList_append_grows _ hgd s x T ho E i z size bytes hT hi hz0 hz1 hz2 hz hpos av xs.length cap css.flatten hs ?_ hrow1.1 ?_ ⟨W.heap.size, 0, none⟩ 1 1 c hx (by omega) (fresh_cells W c E) hone (by omega) (by unfold maxLen; omega) hby2 ?_
    · intro e
      subst e
      rcases hrow1.2 with ⟨hv, h0⟩ | ⟨g, cap', cur, hv, _⟩
      · simp at hv; exact ⟨h0, hv.2⟩
      · simp at hv
    · intro b hbv j u hu
      obtain ⟨g, hg, hcell⟩ := own_cell hrow1 j u hu
      rw [hbv] at hg
      simp at hg
      subst hg
      rw [add_zero_addr]
      exact hcell
    · intro v' w' h3 h4
      refine fin v' w' (own_base h3 (Nat.zero_le _)) (fun k hk => ?_) ?_ ?_ ?_
      · have hkl : k < W.heap.size := by
          rcases List.mem_append.1 hk with hk | hk
          · exact hlt k (List.mem_append_right _ hk)
          · have := hylim k hk; omega
        rw [h4.block k (by simp; omega) (by simp), Below.heap_alloc W _ k hkl]
      · refine ⟨h4.os.trans ht.os, h4.tape.trans ht.tape, h4.output.trans ht.output, by have := h4.size; simp at this; omega, fun k hk hx => ?_⟩
        rw [h4.block k (by simp; omega) (by simp), Below.heap_alloc W _ k (by omega)]
        exact ht.block k hk hx
      · have := h4.size; simp at this; omega
      · intro k hk
        have h5 := h3.lt k (by simpa [bl] using hk)
        simp at h5
        refine ⟨⟨by omega, by omega⟩, fun hm => ?_, fun hm => ?_⟩
        · have := hlt k (List.mem_append_right _ hm); omega
        · have := hylim k hm; omega

/-- 'out = append(out, u)' for ints. -/
theorem wpList_accI {lo S hi9 g9 : Nat} {W0 W : World} {ops : Array Oper} {rest : List Oper} {o : Oper} {a : Act} {Q : Exit → Act → World → Prop}
    (s x : Operand) (v : Value) (xs : List Int) (u : Int)
    (hown : Acc 3 O.int lo S hi9 W v xs) (ht : Turn lo (lo + 1) W0 W) (hS : W0.heap.size = S) (hlo : lo < S) (hhi : hi9 ≤ W.heap.size) (hu : I64 u) (hn : xs.length ≤ 100000000) (hg9 : W.heap.size = g9)
    (hgd : o.guard = none) (ho : o.op = .call { callee := .builtin .append, args := #[s, x], argTypes := #[33, 33] })
    (hs : a.eval s = v) (hx : a.eval x = .slice (some ⟨g9, 0, none⟩) 1 1)
    (h : ∀ v' w', Acc 3 O.int lo S w'.heap.size w' v' (xs ++ [u]) → Turn lo (lo + 1) W0 w' → W.heap.size < w'.heap.size → wpList Tryd.prog ops Q rest (a.put o.dst v') w') :
    wpList Tryd.prog ops Q (o :: rest) a (W.alloc (.cells #[.int .i64 u] 3)) := by
  have hts := ht.size
  exact wpList_acc Tryd.underlying33 infoInt rfl (by decide) (by decide) rfl s x v xs [.int .i64 u] u hown (own_int (lo := W.heap.size) (hi := W.heap.size) hu) (by intro z hz; simp at hz; subst hz; rfl) (by omega) hhi (Nat.le_refl _) (Nat.le_refl _) ht hS hlo hn hg9 hgd ho hs hx h

end Go.Proofs.YtigcagplbihenaaDoor

/- Kind Dp: shape, size, copy, comparison. Written by a program. -/
namespace Go.Proofs.YtigcagplbihenaaDoor
open Go.RowKit
set_option linter.unusedVariables false
set_option linter.unusedSimpArgs false
set_option synthInstance.maxSize 2000
set_option synthInstance.maxHeartbeats 400000

abbrev DDp := ByteArray × (List Int) × Int
def rDp : RS DDp := R.pair R.str (R.pair rI R.int)
def oDp : OS DDp := O.pair O.str (O.pair oI O.int)
theorem reads_Dp : Reads oDp rDp := Reads.pair Reads.str (Reads.pair reads_I Reads.int)
theorem rDp_open {w : World} {cs : List Value} {x : DDp} (h : rDp.rep w cs x) : ∃ ub1 un1 uc1, cs = [.string x.1, .slice ub1 un1 uc1, .int .i64 x.2.2] ∧ x.1.size ≤ 9223372036854775807 ∧ rI.rep w [.slice ub1 un1 uc1] x.2.1 ∧ I64 x.2.2 := by
  obtain ⟨c0a, c0b, rfl, ⟨rfl, hs0⟩, ⟨c1a, c1b, rfl, hr1, ⟨rfl, hi2⟩⟩⟩ := h
  obtain ⟨ub1, un1, uc1, rfl⟩ := rI_form hr1
  exact ⟨_, _, _, rfl, hs0, hr1, hi2⟩
theorem rDp_form {w : World} {cs : List Value} {x : DDp} (h : rDp.rep w cs x) : ∃ ub1 un1 uc1, cs = [.string x.1, .slice ub1 un1 uc1, .int .i64 x.2.2] := by
  obtain ⟨ub1, un1, uc1, h1, _⟩ := rDp_open h
  exact ⟨_, _, _, h1⟩
theorem rDp_mk {w : World} {ub1 : Option Addr} {un1 uc1 : Nat} {x : DDp} (h0 : x.1.size ≤ 9223372036854775807) (h1 : rI.rep w [.slice ub1 un1 uc1] x.2.1) (h2 : I64 x.2.2) : rDp.rep w [.string x.1, .slice ub1 un1 uc1, .int .i64 x.2.2] x :=
  ⟨[.string x.1], [.slice ub1 un1 uc1, .int .i64 x.2.2], rfl, ⟨rfl, h0⟩, ⟨[.slice ub1 un1 uc1], [.int .i64 x.2.2], rfl, h1, ⟨rfl, h2⟩⟩⟩
theorem oDp_form {lo hi : Nat} {w : World} {cs : List Value} {x : DDp} (h : Own oDp lo hi w cs x) : ∃ ub1 un1 uc1, cs = [.string x.1, .slice ub1 un1 uc1, .int .i64 x.2.2] := rDp_form (h.rd reads_Dp)

theorem oDp_mk {lo hi l1 m1 : Nat} {w : World} {ub1 : Option Addr} {un1 uc1 : Nat} {x : DDp} (hs0 : x.1.size ≤ 9223372036854775807) (ho1 : Own oI l1 m1 w [.slice ub1 un1 uc1] x.2.1) (hi2 : I64 x.2.2) (a1 : lo ≤ l1) (b1 : m1 ≤ hi)  : Own oDp lo hi w [.string x.1, .slice ub1 un1 uc1, .int .i64 x.2.2] x := by
  obtain ⟨f1, r1, n1, q1⟩ := ho1
  refine ⟨([] ++ (f1 ++ [])), ⟨[.string x.1], [.slice ub1 un1 uc1, .int .i64 x.2.2], [], (f1 ++ []), rfl, rfl, ⟨rfl, hs0, rfl⟩, ⟨[.slice ub1 un1 uc1], [.int .i64 x.2.2], f1, [], rfl, rfl, r1, ⟨rfl, hi2, rfl⟩⟩⟩, ?_, ?_⟩
  · try simp only [List.nil_append, List.append_nil]
    exact n1
  · intro p hp
    try simp only [List.nil_append, List.append_nil, List.mem_append] at hp
    have := q1 p hp; omega

def bulk_Dp (x : DDp) : Nat := (x.1.size) + (bulk_I x.2.1)

set_option maxHeartbeats 1000000 in
theorem sz_Dp (cs : List Value) (x : DDp) (left : Int) (w : World) (h : rDp.rep w cs x) (h0 : 0 ≤ left) (h1 : left ≤ 1048576) :
    Calls Tryd.prog 17 #[.agg cs.toArray, .int .i64 left] w fun e w' => e = .returned (.int .i64 (szR left (bulk_Dp x))) ∧ Below w.heap.size w w' := by
  obtain ⟨ub1, un1, uc1, rfl, g0, g1, g2⟩ := rDp_open h
  clear h
  have HE0 : Hid (szR left (bulk_Dp x) = szR left ((x.1.size) + (bulk_I x.2.1))) := rfl
  go_enter Tryd.func17, Tryd.ntmps17
  obtain ⟨w1, hw1⟩ : ∃ W, W = w.alloc (.cells #[.string x.1, .slice ub1 un1 uc1, .int .i64 x.2.2] 35) := ⟨_, rfl⟩
  have z1 : Below w.heap.size w w1 := by rw [hw1]; exact (Below.refl _ _).alloc (Nat.le_refl _) _
  have s1 : w1.heap.size = w.heap.size + 1 := by rw [hw1]; simp
  have bp_0 : w1.cell? ⟨w.heap.size, 0, none⟩ = some (.string x.1) := by rw [hw1]; exact box_cell (Below.refl _ _) rfl
  have bp_1 : w1.cell? ⟨w.heap.size, 1, none⟩ = some (.slice ub1 un1 uc1) := by rw [hw1]; exact box_cell (Below.refl _ _) rfl
  have bp_2 : w1.cell? ⟨w.heap.size, 2, none⟩ = some (.int .i64 x.2.2) := by rw [hw1]; exact box_cell (Below.refl _ _) rfl
  have hb1 := z1
  by_cases l0 : (x.1.size : Int) ≤ left
  case neg =>
    have HE := Lib.hid (HE0.out.trans (szR_no _ l0))
    go_wp2_with fail
    go_ret
    exact ⟨ret_int HE.out.symm, by first | exact hb1 | (have h9 := hb1; rw [hw1] at h9; exact h9)⟩
  have HE1 := Lib.hid (HE0.out.trans (szR_add l0))
  go_wp2_with fail
  rw [← hw1]
  clear hw1
  refine (sz_I _ (x.2.1) _ _ (rI.mono g1 hb1) (by omega) (by omega)).mono ?_
  rintro e w' ⟨rfl, rfl⟩
  obtain ⟨q1, hq1⟩ : ∃ q, q = szR (left - x.1.size) (bulk_I (x.2.1)) := ⟨_, rfl⟩
  rw [← hq1]
  have hc1 := szR_cases (left - x.1.size) (bulk_I (x.2.1))
  rw [← hq1] at hc1
  clear hq1
  rcases hc1 with ⟨rfl, l1⟩ | ⟨hq1, l1⟩
  · have HE := Lib.hid (HE1.out.trans (szR_no0 l1))
    clear l1
    go_wp2_with fail
    go_ret
    exact ⟨ret_int HE.out.symm, hb1⟩
  have HE2 := Lib.hid (HE1.out.trans ((szR_yes l1).trans (by rw [hq1])) : szR left (bulk_Dp x) = q1)
  have p1 : 0 ≤ q1 := by omega
  have p1b : q1 ≤ 1048576 := by omega
  clear hq1 l1
  go_wp2_with fail
  go_ret
  exact ⟨ret_int HE2.out.symm, hb1⟩

set_option maxHeartbeats 2000000 in
theorem to_Dp (cs : List Value) (x : DDp) (w : World) (h : rDp.rep w cs x) (hn : bulk_Dp x ≤ 1048576) :
    Calls Tryd.prog 19 #[.agg cs.toArray] w fun e w' => ∃ us, e = .returned (.agg us.toArray) ∧ Own oDp w.heap.size w'.heap.size w' us x ∧ Below w.heap.size w w' := by
  obtain ⟨ub1, un1, uc1, rfl, g0, g1, g2⟩ := rDp_open h
  clear h
  unfold bulk_Dp at hn
  have hn1 : bulk_I (x.2.1) ≤ 1048576 := by omega
  clear hn
  go_enter Tryd.func19, Tryd.ntmps19
  obtain ⟨W0, hW0⟩ : ∃ W, W = ((w.alloc (.cells #[.string x.1, .slice ub1 un1 uc1, .int .i64 x.2.2] 35)).alloc (.cells #[.string ⟨#[]⟩, .slice none 0 0, .int .i64 0] 38)).alloc (.cells #[.string x.1, .slice none 0 0, .int .i64 0] 38) := ⟨_, rfl⟩
  have hB0 : Below w.heap.size w W0 := by rw [hW0]; exact (((Below.refl _ _).alloc (Nat.le_refl _) _).alloc (by simp) _).alloc (by simp <;> omega) _
  have t0 : W0.heap.size = w.heap.size + 1 + 1 + 1 := by rw [hW0]; simp
  have bp_0 : W0.cell? ⟨w.heap.size, 0, none⟩ = some (.string x.1) := by rw [hW0]; simp [go_sem, World.cell?_alloc_past]
  have bp_1 : W0.cell? ⟨w.heap.size, 1, none⟩ = some (.slice ub1 un1 uc1) := by rw [hW0]; simp [go_sem, World.cell?_alloc_past]
  have bp_2 : W0.cell? ⟨w.heap.size, 2, none⟩ = some (.int .i64 x.2.2) := by rw [hW0]; simp [go_sem, World.cell?_alloc_past]
  have br_0 : W0.cell? ⟨w.heap.size + 1, 0, none⟩ = some (.string ⟨#[]⟩) := by rw [hW0]; simp [go_sem, World.cell?_alloc_past]
  have fr_0 : W0.frozen? ⟨w.heap.size + 1, 0, none⟩ = false := by rw [hW0]; simp [go_sem, World.frozen?_alloc_past]
  have br_1 : W0.cell? ⟨w.heap.size + 1, 1, none⟩ = some (.slice none 0 0) := by rw [hW0]; simp [go_sem, World.cell?_alloc_past]
  have fr_1 : W0.frozen? ⟨w.heap.size + 1, 1, none⟩ = false := by rw [hW0]; simp [go_sem, World.frozen?_alloc_past]
  have br_2 : W0.cell? ⟨w.heap.size + 1, 2, none⟩ = some (.int .i64 0) := by rw [hW0]; simp [go_sem, World.cell?_alloc_past]
  have fr_2 : W0.frozen? ⟨w.heap.size + 1, 2, none⟩ = false := by rw [hW0]; simp [go_sem, World.frozen?_alloc_past]
  have bo_0 : W0.cell? ⟨w.heap.size + 1 + 1, 0, none⟩ = some (.string x.1) := by rw [hW0]; simp [go_sem, World.cell?_alloc_past]
  have fo_0 : W0.frozen? ⟨w.heap.size + 1 + 1, 0, none⟩ = false := by rw [hW0]; simp [go_sem, World.frozen?_alloc_past]
  have bo_1 : W0.cell? ⟨w.heap.size + 1 + 1, 1, none⟩ = some (.slice none 0 0) := by rw [hW0]; simp [go_sem, World.cell?_alloc_past]
  have fo_1 : W0.frozen? ⟨w.heap.size + 1 + 1, 1, none⟩ = false := by rw [hW0]; simp [go_sem, World.frozen?_alloc_past]
  have bo_2 : W0.cell? ⟨w.heap.size + 1 + 1, 2, none⟩ = some (.int .i64 0) := by rw [hW0]; simp [go_sem, World.cell?_alloc_past]
  have fo_2 : W0.frozen? ⟨w.heap.size + 1 + 1, 2, none⟩ = false := by rw [hW0]; simp [go_sem, World.frozen?_alloc_past]
  go_wp2_with fail
  rw [← hW0]
  clear hW0
  refine (to_I _ (x.2.1) _ (rI.mono g1 hB0) hn1).mono ?_
  rintro e w1 ⟨a1, rfl, ho1, z1⟩
  have s1 := z1.size
  obtain ⟨ab1, an1, ac1, rfl⟩ := oI_form1 ho1
  have q1 := on hB0 z1
  replace bp_0 := (z1.cell (p := ⟨w.heap.size, 0, none⟩) (by simp only []; omega)).trans bp_0
  replace bp_1 := (z1.cell (p := ⟨w.heap.size, 1, none⟩) (by simp only []; omega)).trans bp_1
  replace bp_2 := (z1.cell (p := ⟨w.heap.size, 2, none⟩) (by simp only []; omega)).trans bp_2
  replace br_0 := (z1.cell (p := ⟨w.heap.size + 1, 0, none⟩) (by simp only []; omega)).trans br_0
  replace fr_0 := (z1.frozen (p := ⟨w.heap.size + 1, 0, none⟩) (by simp only []; omega)).trans fr_0
  replace br_1 := (z1.cell (p := ⟨w.heap.size + 1, 1, none⟩) (by simp only []; omega)).trans br_1
  replace fr_1 := (z1.frozen (p := ⟨w.heap.size + 1, 1, none⟩) (by simp only []; omega)).trans fr_1
  replace br_2 := (z1.cell (p := ⟨w.heap.size + 1, 2, none⟩) (by simp only []; omega)).trans br_2
  replace fr_2 := (z1.frozen (p := ⟨w.heap.size + 1, 2, none⟩) (by simp only []; omega)).trans fr_2
  replace bo_0 := (z1.cell (p := ⟨w.heap.size + 1 + 1, 0, none⟩) (by simp only []; omega)).trans bo_0
  replace fo_0 := (z1.frozen (p := ⟨w.heap.size + 1 + 1, 0, none⟩) (by simp only []; omega)).trans fo_0
  replace bo_1 := (z1.cell (p := ⟨w.heap.size + 1 + 1, 1, none⟩) (by simp only []; omega)).trans bo_1
  replace fo_1 := (z1.frozen (p := ⟨w.heap.size + 1 + 1, 1, none⟩) (by simp only []; omega)).trans fo_1
  replace bo_2 := (z1.cell (p := ⟨w.heap.size + 1 + 1, 2, none⟩) (by simp only []; omega)).trans bo_2
  replace fo_2 := (z1.frozen (p := ⟨w.heap.size + 1 + 1, 2, none⟩) (by simp only []; omega)).trans fo_2
  go_wp2_with fail
  refine bodyPost_ret (v := .agg #[.string x.1, .slice ab1 an1 ac1, .int .i64 x.2.2]) (by simp [results, Tryd.results19, go_sem, br_0, br_1, br_2, bo_0, bo_1, bo_2, fr_0, fr_1, fr_2, fo_0, fo_1, fo_2]) rfl ⟨_, rfl, ?_, ?_⟩
  · skip
    have hS1 : ∀ (W : World) (p : Addr) (u : Value), p.block < w.heap.size + 1 + 1 + 1 → Own oI W0.heap.size w1.heap.size W [.slice ab1 an1 ac1] (x.2.1) → Own oI W0.heap.size w1.heap.size (W.setCell p u) [.slice ab1 an1 ac1] (x.2.1) := fun W p u hp k9 => k9.setOut rfl (by omega)
    exact oDp_mk g0 (hS1 _ _ _ (by simp <;> omega) (hS1 _ _ _ (by simp <;> omega) (hS1 _ _ _ (by simp <;> omega) (hS1 _ _ _ (by simp <;> omega) (hS1 _ _ _ (by simp <;> omega) ho1))))) g2 (by omega) (by simp [World.setCell] <;> omega) 
  · exact (((((q1.setCell (by simp <;> omega) _).setCell (by simp <;> omega) _).setCell (by simp <;> omega) _).setCell (by simp <;> omega) _).setCell (by simp <;> omega) _)

set_option maxHeartbeats 2000000 in
theorem eq_Dp (cs ds : List Value) (x y : DDp) (w : World) (h : rDp.rep w cs x) (h' : rDp.rep w ds y) :
    Calls Tryd.prog 21 #[.agg cs.toArray, .agg ds.toArray] w fun e w' => e = .returned (.bool (decide (x = y))) ∧ Below w.heap.size w w' := by
  obtain ⟨ub1, un1, uc1, rfl, g0, g1, g2⟩ := rDp_open h
  obtain ⟨vb1, vn1, vc1, rfl, k0, k1, k2⟩ := rDp_open h'
  clear h h'
  have hb1 : Below w.heap.size w ((w.alloc (.cells #[.string x.1, .slice ub1 un1 uc1, .int .i64 x.2.2] 38)).alloc (.cells #[.string y.1, .slice vb1 vn1 vc1, .int .i64 y.2.2] 38)) := ((Below.refl _ _).alloc (Nat.le_refl _) _).alloc (by simp) _
  go_enter Tryd.func21, Tryd.ntmps21
  obtain ⟨w1, hw1⟩ : ∃ W, W = (w.alloc (.cells #[.string x.1, .slice ub1 un1 uc1, .int .i64 x.2.2] 38)).alloc (.cells #[.string y.1, .slice vb1 vn1 vc1, .int .i64 y.2.2] 38) := ⟨_, rfl⟩
  have s1 : w1.heap.size = w.heap.size + 1 + 1 := by rw [hw1]; simp
  rw [← hw1] at hb1
  have bc_0 : w1.cell? ⟨w.heap.size, 0, none⟩ = some (.string x.1) := by rw [hw1]; simp [go_sem, World.cell?_alloc_past]
  have bd_0 : w1.cell? ⟨w.heap.size + 1, 0, none⟩ = some (.string y.1) := by rw [hw1]; simp [go_sem, World.cell?_alloc_past]
  have bc_1 : w1.cell? ⟨w.heap.size, 1, none⟩ = some (.slice ub1 un1 uc1) := by rw [hw1]; simp [go_sem, World.cell?_alloc_past]
  have bd_1 : w1.cell? ⟨w.heap.size + 1, 1, none⟩ = some (.slice vb1 vn1 vc1) := by rw [hw1]; simp [go_sem, World.cell?_alloc_past]
  have bc_2 : w1.cell? ⟨w.heap.size, 2, none⟩ = some (.int .i64 x.2.2) := by rw [hw1]; simp [go_sem, World.cell?_alloc_past]
  have bd_2 : w1.cell? ⟨w.heap.size + 1, 2, none⟩ = some (.int .i64 y.2.2) := by rw [hw1]; simp [go_sem, World.cell?_alloc_past]
  by_cases e0 : x.1 = y.1
  case neg =>
    have HE := Lib.hid (show decide (x = y) = false by simp only [decide_eq_false_iff_not]; intro h9; exact e0 (by rw [h9]))
    have hne := bytes_ne e0
    clear e0
    go_wp2_with fail
    go_ret
    exact ⟨ret_bool HE.out.symm, by first | exact hb1 | (rw [hw1] at hb1; exact hb1)⟩
  have E0 := Lib.hid e0
  have hq0 : (x.1.toList == y.1.toList) = true := by rw [e0]; simp
  clear e0
  go_wp2_with fail
  rw [← hw1]
  clear hw1
  refine (eq_I _ _ (x.2.1) (y.2.1) _ (rI.mono g1 hb1) (rI.mono k1 hb1)).mono ?_
  rintro e w2 ⟨rfl, z2⟩
  replace z2 : Below w1.heap.size w1 w2 := z2.below _
  have s2 := z2.size
  have hb2 := on hb1 z2
  replace bc_0 := (z2.cell (p := ⟨w.heap.size, 0, none⟩) (by simp only []; omega)).trans bc_0
  replace bd_0 := (z2.cell (p := ⟨w.heap.size + 1, 0, none⟩) (by simp only []; omega)).trans bd_0
  replace bc_1 := (z2.cell (p := ⟨w.heap.size, 1, none⟩) (by simp only []; omega)).trans bc_1
  replace bd_1 := (z2.cell (p := ⟨w.heap.size + 1, 1, none⟩) (by simp only []; omega)).trans bd_1
  replace bc_2 := (z2.cell (p := ⟨w.heap.size, 2, none⟩) (by simp only []; omega)).trans bc_2
  replace bd_2 := (z2.cell (p := ⟨w.heap.size + 1, 2, none⟩) (by simp only []; omega)).trans bd_2
  by_cases e1 : x.2.1 = y.2.1
  case neg =>
    have HE := Lib.hid (show decide (x = y) = false by simp only [decide_eq_false_iff_not]; intro h9; exact e1 (by rw [h9]))
    have hne : decide (x.2.1 = y.2.1) = false := by simpa using e1
    rw [hne]
    clear e1 hne
    go_wp2_with fail
    go_ret
    exact ⟨ret_bool HE.out.symm, hb2⟩
  have E1 := Lib.hid e1
  have hq1 : decide (x.2.1 = y.2.1) = true := by simpa using e1
  rw [hq1]
  clear e1 hq1
  by_cases e2 : x.2.2 = y.2.2
  case neg =>
    have HE := Lib.hid (show decide (x = y) = false by simp only [decide_eq_false_iff_not]; intro h9; exact e2 (by rw [h9]))
    have hne := bne_iff_ne.2 e2
    clear e2
    go_wp2_with fail
    go_ret
    exact ⟨ret_bool HE.out.symm, hb2⟩
  have E2 := Lib.hid e2
  have hq2 : (x.2.2 != y.2.2) = false := by rw [e2]; simp
  clear e2
  have HE := Lib.hid (show decide (x = y) = true by simp only [decide_eq_true_eq]; exact Prod.ext E0.out (Prod.ext E1.out (E2.out)))
  go_wp2_with fail
  go_ret
  exact ⟨ret_bool HE.out.symm, hb2⟩

end Go.Proofs.YtigcagplbihenaaDoor

/- Kind II: shape, size, copy, comparison. Written by a program. -/
namespace Go.Proofs.YtigcagplbihenaaDoor
open Go.RowKit
set_option linter.unusedVariables false
set_option linter.unusedSimpArgs false
set_option synthInstance.maxSize 2000
set_option synthInstance.maxHeartbeats 400000

theorem rII_form {w : World} {cs : List Value} {xs : List (List Int)} (h : rII.rep w cs xs) : ∃ b n c, cs = [.slice b n c] := rS_form h
theorem oII_form1 {lo hi : Nat} {w : World} {v : Value} {xs : List (List Int)} (h : Own oII lo hi w [v] xs) : ∃ b n c, v = .slice b n c := oS_form1 reads_I h
def bulk_II (xs : List (List Int)) : Nat := xs.length + sumBy bulk_I xs

end Go.Proofs.YtigcagplbihenaaDoor

/- Kind In: shape, size, copy, comparison. Written by a program. -/
namespace Go.Proofs.YtigcagplbihenaaDoor
open Go.RowKit
set_option linter.unusedVariables false
set_option linter.unusedSimpArgs false
set_option synthInstance.maxSize 2000
set_option synthInstance.maxHeartbeats 400000

abbrev DIn := ByteArray × Int × ByteArray × Int
def rIn : RS DIn := R.pair R.str (R.pair R.int (R.pair R.str R.int))
def oIn : OS DIn := O.pair O.str (O.pair O.int (O.pair O.str O.int))
theorem reads_In : Reads oIn rIn := Reads.pair Reads.str (Reads.pair Reads.int (Reads.pair Reads.str Reads.int))
theorem rIn_open {w : World} {cs : List Value} {x : DIn} (h : rIn.rep w cs x) :  cs = [.string x.1, .int .i64 x.2.1, .string x.2.2.1, .int .i64 x.2.2.2] ∧ x.1.size ≤ 9223372036854775807 ∧ I64 x.2.1 ∧ x.2.2.1.size ≤ 9223372036854775807 ∧ I64 x.2.2.2 := by
  obtain ⟨c0a, c0b, rfl, ⟨rfl, hs0⟩, ⟨c1a, c1b, rfl, ⟨rfl, hi1⟩, ⟨c2a, c2b, rfl, ⟨rfl, hs2⟩, ⟨rfl, hi3⟩⟩⟩⟩ := h
  exact ⟨rfl, hs0, hi1, hs2, hi3⟩
theorem rIn_form {w : World} {cs : List Value} {x : DIn} (h : rIn.rep w cs x) :  cs = [.string x.1, .int .i64 x.2.1, .string x.2.2.1, .int .i64 x.2.2.2] := by
  obtain ⟨h1, _⟩ := rIn_open h
  exact h1
theorem rIn_mk {w : World} {x : DIn} (h0 : x.1.size ≤ 9223372036854775807) (h1 : I64 x.2.1) (h2 : x.2.2.1.size ≤ 9223372036854775807) (h3 : I64 x.2.2.2) : rIn.rep w [.string x.1, .int .i64 x.2.1, .string x.2.2.1, .int .i64 x.2.2.2] x :=
  ⟨[.string x.1], [.int .i64 x.2.1, .string x.2.2.1, .int .i64 x.2.2.2], rfl, ⟨rfl, h0⟩, ⟨[.int .i64 x.2.1], [.string x.2.2.1, .int .i64 x.2.2.2], rfl, ⟨rfl, h1⟩, ⟨[.string x.2.2.1], [.int .i64 x.2.2.2], rfl, ⟨rfl, h2⟩, ⟨rfl, h3⟩⟩⟩⟩
theorem oIn_form {lo hi : Nat} {w : World} {cs : List Value} {x : DIn} (h : Own oIn lo hi w cs x) :  cs = [.string x.1, .int .i64 x.2.1, .string x.2.2.1, .int .i64 x.2.2.2] := rIn_form (h.rd reads_In)

theorem oIn_mk {lo hi : Nat} {w : World} {x : DIn} (hs0 : x.1.size ≤ 9223372036854775807) (hi1 : I64 x.2.1) (hs2 : x.2.2.1.size ≤ 9223372036854775807) (hi3 : I64 x.2.2.2)   : Own oIn lo hi w [.string x.1, .int .i64 x.2.1, .string x.2.2.1, .int .i64 x.2.2.2] x := by
  refine ⟨([] ++ ([] ++ ([] ++ []))), ⟨[.string x.1], [.int .i64 x.2.1, .string x.2.2.1, .int .i64 x.2.2.2], [], ([] ++ ([] ++ [])), rfl, rfl, ⟨rfl, hs0, rfl⟩, ⟨[.int .i64 x.2.1], [.string x.2.2.1, .int .i64 x.2.2.2], [], ([] ++ []), rfl, rfl, ⟨rfl, hi1, rfl⟩, ⟨[.string x.2.2.1], [.int .i64 x.2.2.2], [], [], rfl, rfl, ⟨rfl, hs2, rfl⟩, ⟨rfl, hi3, rfl⟩⟩⟩⟩, ?_, ?_⟩
  · simp
  · intro k hk; simp at hk

def bulk_In (x : DIn) : Nat := (x.1.size) + (x.2.2.1.size)

set_option maxHeartbeats 1000000 in
theorem sz_In (cs : List Value) (x : DIn) (left : Int) (w : World) (h : rIn.rep w cs x) (h0 : 0 ≤ left) (h1 : left ≤ 1048576) :
    Calls Tryd.prog 10 #[.agg cs.toArray, .int .i64 left] w fun e w' => e = .returned (.int .i64 (szR left (bulk_In x))) ∧ Below w.heap.size w w' := by
  obtain ⟨rfl, g0, g1, g2, g3⟩ := rIn_open h
  clear h
  have HE0 : Hid (szR left (bulk_In x) = szR left ((x.1.size) + (x.2.2.1.size))) := rfl
  go_enter Tryd.func10, Tryd.ntmps10
  obtain ⟨w1, hw1⟩ : ∃ W, W = w.alloc (.cells #[.string x.1, .int .i64 x.2.1, .string x.2.2.1, .int .i64 x.2.2.2] 23) := ⟨_, rfl⟩
  have z1 : Below w.heap.size w w1 := by rw [hw1]; exact (Below.refl _ _).alloc (Nat.le_refl _) _
  have s1 : w1.heap.size = w.heap.size + 1 := by rw [hw1]; simp
  have bp_0 : w1.cell? ⟨w.heap.size, 0, none⟩ = some (.string x.1) := by rw [hw1]; exact box_cell (Below.refl _ _) rfl
  have bp_1 : w1.cell? ⟨w.heap.size, 1, none⟩ = some (.int .i64 x.2.1) := by rw [hw1]; exact box_cell (Below.refl _ _) rfl
  have bp_2 : w1.cell? ⟨w.heap.size, 2, none⟩ = some (.string x.2.2.1) := by rw [hw1]; exact box_cell (Below.refl _ _) rfl
  have bp_3 : w1.cell? ⟨w.heap.size, 3, none⟩ = some (.int .i64 x.2.2.2) := by rw [hw1]; exact box_cell (Below.refl _ _) rfl
  have hb1 := z1
  by_cases l0 : (x.1.size : Int) ≤ left
  case neg =>
    have HE := Lib.hid (HE0.out.trans (szR_no _ l0))
    go_wp2_with fail
    go_ret
    exact ⟨ret_int HE.out.symm, by first | exact hb1 | (have h9 := hb1; rw [hw1] at h9; exact h9)⟩
  have HE1 := Lib.hid (HE0.out.trans (szR_add l0))
  by_cases l2 : (x.2.2.1.size : Int) ≤ (left - x.1.size)
  case neg =>
    have HE := Lib.hid (HE1.out.trans (szR_no0 l2))
    go_wp2_with fail
    go_ret
    exact ⟨ret_int HE.out.symm, by first | exact hb1 | (have h9 := hb1; rw [hw1] at h9; exact h9)⟩
  have HE2 := Lib.hid (HE1.out.trans (szR_yes l2))
  go_wp2_with fail
  go_ret
  exact ⟨ret_int HE2.out.symm, by first | exact hb1 | (have h9 := hb1; rw [hw1] at h9; exact h9)⟩

set_option maxHeartbeats 2000000 in
theorem to_In (cs : List Value) (x : DIn) (w : World) (h : rIn.rep w cs x) :
    Calls Tryd.prog 12 #[.agg cs.toArray] w fun e w' => e = .returned (.agg cs.toArray) ∧ Below w.heap.size w w' := by
  obtain ⟨rfl, g0, g1, g2, g3⟩ := rIn_open h
  clear h
  go_enter Tryd.func12, Tryd.ntmps12
  go_wp2_with fail
  refine bodyPost_ret (v := .agg #[.string x.1, .int .i64 x.2.1, .string x.2.2.1, .int .i64 x.2.2.2]) (by simp [results, Tryd.results12, go_sem]) rfl ⟨rfl, ?_⟩
  exact ((((Below.refl _ _).alloc (Nat.le_refl _) _).alloc (by simp) _).alloc (by simp <;> omega) _)

set_option maxHeartbeats 2000000 in
theorem eq_In (cs ds : List Value) (x y : DIn) (w : World) (h : rIn.rep w cs x) (h' : rIn.rep w ds y) :
    Calls Tryd.prog 16 #[.agg cs.toArray, .agg ds.toArray] w fun e w' => e = .returned (.bool (decide (x = y))) ∧ Below w.heap.size w w' := by
  obtain ⟨rfl, g0, g1, g2, g3⟩ := rIn_open h
  obtain ⟨rfl, k0, k1, k2, k3⟩ := rIn_open h'
  clear h h'
  have hb1 : Below w.heap.size w ((w.alloc (.cells #[.string x.1, .int .i64 x.2.1, .string x.2.2.1, .int .i64 x.2.2.2] 26)).alloc (.cells #[.string y.1, .int .i64 y.2.1, .string y.2.2.1, .int .i64 y.2.2.2] 26)) := ((Below.refl _ _).alloc (Nat.le_refl _) _).alloc (by simp) _
  go_enter Tryd.func16, Tryd.ntmps16
  obtain ⟨w1, hw1⟩ : ∃ W, W = (w.alloc (.cells #[.string x.1, .int .i64 x.2.1, .string x.2.2.1, .int .i64 x.2.2.2] 26)).alloc (.cells #[.string y.1, .int .i64 y.2.1, .string y.2.2.1, .int .i64 y.2.2.2] 26) := ⟨_, rfl⟩
  have s1 : w1.heap.size = w.heap.size + 1 + 1 := by rw [hw1]; simp
  rw [← hw1] at hb1
  have bc_0 : w1.cell? ⟨w.heap.size, 0, none⟩ = some (.string x.1) := by rw [hw1]; simp [go_sem, World.cell?_alloc_past]
  have bd_0 : w1.cell? ⟨w.heap.size + 1, 0, none⟩ = some (.string y.1) := by rw [hw1]; simp [go_sem, World.cell?_alloc_past]
  have bc_1 : w1.cell? ⟨w.heap.size, 1, none⟩ = some (.int .i64 x.2.1) := by rw [hw1]; simp [go_sem, World.cell?_alloc_past]
  have bd_1 : w1.cell? ⟨w.heap.size + 1, 1, none⟩ = some (.int .i64 y.2.1) := by rw [hw1]; simp [go_sem, World.cell?_alloc_past]
  have bc_2 : w1.cell? ⟨w.heap.size, 2, none⟩ = some (.string x.2.2.1) := by rw [hw1]; simp [go_sem, World.cell?_alloc_past]
  have bd_2 : w1.cell? ⟨w.heap.size + 1, 2, none⟩ = some (.string y.2.2.1) := by rw [hw1]; simp [go_sem, World.cell?_alloc_past]
  have bc_3 : w1.cell? ⟨w.heap.size, 3, none⟩ = some (.int .i64 x.2.2.2) := by rw [hw1]; simp [go_sem, World.cell?_alloc_past]
  have bd_3 : w1.cell? ⟨w.heap.size + 1, 3, none⟩ = some (.int .i64 y.2.2.2) := by rw [hw1]; simp [go_sem, World.cell?_alloc_past]
  by_cases e0 : x.1 = y.1
  case neg =>
    have HE := Lib.hid (show decide (x = y) = false by simp only [decide_eq_false_iff_not]; intro h9; exact e0 (by rw [h9]))
    have hne := bytes_ne e0
    clear e0
    go_wp2_with fail
    go_ret
    exact ⟨ret_bool HE.out.symm, by first | exact hb1 | (rw [hw1] at hb1; exact hb1)⟩
  have E0 := Lib.hid e0
  have hq0 : (x.1.toList == y.1.toList) = true := by rw [e0]; simp
  clear e0
  by_cases e1 : x.2.1 = y.2.1
  case neg =>
    have HE := Lib.hid (show decide (x = y) = false by simp only [decide_eq_false_iff_not]; intro h9; exact e1 (by rw [h9]))
    have hne := bne_iff_ne.2 e1
    clear e1
    go_wp2_with fail
    go_ret
    exact ⟨ret_bool HE.out.symm, by first | exact hb1 | (rw [hw1] at hb1; exact hb1)⟩
  have E1 := Lib.hid e1
  have hq1 : (x.2.1 != y.2.1) = false := by rw [e1]; simp
  clear e1
  by_cases e2 : x.2.2.1 = y.2.2.1
  case neg =>
    have HE := Lib.hid (show decide (x = y) = false by simp only [decide_eq_false_iff_not]; intro h9; exact e2 (by rw [h9]))
    have hne := bytes_ne e2
    clear e2
    go_wp2_with fail
    go_ret
    exact ⟨ret_bool HE.out.symm, by first | exact hb1 | (rw [hw1] at hb1; exact hb1)⟩
  have E2 := Lib.hid e2
  have hq2 : (x.2.2.1.toList == y.2.2.1.toList) = true := by rw [e2]; simp
  clear e2
  by_cases e3 : x.2.2.2 = y.2.2.2
  case neg =>
    have HE := Lib.hid (show decide (x = y) = false by simp only [decide_eq_false_iff_not]; intro h9; exact e3 (by rw [h9]))
    have hne := bne_iff_ne.2 e3
    clear e3
    go_wp2_with fail
    go_ret
    exact ⟨ret_bool HE.out.symm, by first | exact hb1 | (rw [hw1] at hb1; exact hb1)⟩
  have E3 := Lib.hid e3
  have hq3 : (x.2.2.2 != y.2.2.2) = false := by rw [e3]; simp
  clear e3
  have HE := Lib.hid (show decide (x = y) = true by simp only [decide_eq_true_eq]; exact Prod.ext E0.out (Prod.ext E1.out (Prod.ext E2.out (E3.out))))
  go_wp2_with fail
  go_ret
  exact ⟨ret_bool HE.out.symm, by first | exact hb1 | (rw [hw1] at hb1; exact hb1)⟩

end Go.Proofs.YtigcagplbihenaaDoor

/- Kind An: shape, size, copy, comparison. Written by a program. -/
namespace Go.Proofs.YtigcagplbihenaaDoor
open Go.RowKit
set_option linter.unusedVariables false
set_option linter.unusedSimpArgs false
set_option synthInstance.maxSize 2000
set_option synthInstance.maxHeartbeats 400000

abbrev DAn := (List Int) × List (List Int)
def rAn : RS DAn := R.pair rI rII
def oAn : OS DAn := O.pair oI oII
theorem reads_An : Reads oAn rAn := Reads.pair reads_I reads_II
theorem rAn_open {w : World} {cs : List Value} {x : DAn} (h : rAn.rep w cs x) : ∃ ub0 un0 uc0 ub1 un1 uc1, cs = [.slice ub0 un0 uc0, .slice ub1 un1 uc1] ∧ rI.rep w [.slice ub0 un0 uc0] x.1 ∧ rII.rep w [.slice ub1 un1 uc1] x.2 := by
  obtain ⟨c0a, c0b, rfl, hr0, hr1⟩ := h
  obtain ⟨ub0, un0, uc0, rfl⟩ := rI_form hr0
  obtain ⟨ub1, un1, uc1, rfl⟩ := rII_form hr1
  exact ⟨_, _, _, _, _, _, rfl, hr0, hr1⟩
theorem rAn_form {w : World} {cs : List Value} {x : DAn} (h : rAn.rep w cs x) : ∃ ub0 un0 uc0 ub1 un1 uc1, cs = [.slice ub0 un0 uc0, .slice ub1 un1 uc1] := by
  obtain ⟨ub0, un0, uc0, ub1, un1, uc1, h1, _⟩ := rAn_open h
  exact ⟨_, _, _, _, _, _, h1⟩
theorem rAn_mk {w : World} {ub0 : Option Addr} {un0 uc0 : Nat} {ub1 : Option Addr} {un1 uc1 : Nat} {x : DAn} (h0 : rI.rep w [.slice ub0 un0 uc0] x.1) (h1 : rII.rep w [.slice ub1 un1 uc1] x.2) : rAn.rep w [.slice ub0 un0 uc0, .slice ub1 un1 uc1] x :=
  ⟨[.slice ub0 un0 uc0], [.slice ub1 un1 uc1], rfl, h0, h1⟩
theorem oAn_form {lo hi : Nat} {w : World} {cs : List Value} {x : DAn} (h : Own oAn lo hi w cs x) : ∃ ub0 un0 uc0 ub1 un1 uc1, cs = [.slice ub0 un0 uc0, .slice ub1 un1 uc1] := rAn_form (h.rd reads_An)

theorem oAn_mk {lo hi l0 m0 l1 m1 : Nat} {w : World} {ub0 : Option Addr} {un0 uc0 : Nat} {ub1 : Option Addr} {un1 uc1 : Nat} {x : DAn} (ho0 : Own oI l0 m0 w [.slice ub0 un0 uc0] x.1) (ho1 : Own oII l1 m1 w [.slice ub1 un1 uc1] x.2) (a0 : lo ≤ l0) (b0 : m0 ≤ hi) (a1 : lo ≤ l1) (b1 : m1 ≤ hi) (d0_1 : m0 ≤ l1) : Own oAn lo hi w [.slice ub0 un0 uc0, .slice ub1 un1 uc1] x := by
  obtain ⟨f0, r0, n0, q0⟩ := ho0
  obtain ⟨f1, r1, n1, q1⟩ := ho1
  refine ⟨(f0 ++ f1), ⟨[.slice ub0 un0 uc0], [.slice ub1 un1 uc1], f0, f1, rfl, rfl, r0, r1⟩, ?_, ?_⟩
  · try simp only [List.nil_append, List.append_nil]
    exact List.nodup_append.2 ⟨n0, n1, fun p hp q hq e => by subst e; have := q0 p hp; have := q1 p hq; omega⟩
  · intro p hp
    try simp only [List.nil_append, List.append_nil, List.mem_append] at hp
    rcases hp with hp | hp
    · have := q0 p hp; omega
    · have := q1 p hp; omega

def bulk_An (x : DAn) : Nat := (bulk_I x.1) + (bulk_II x.2)

end Go.Proofs.YtigcagplbihenaaDoor

/- Kind T: shape, size, copy, comparison. Written by a program. -/
namespace Go.Proofs.YtigcagplbihenaaDoor
open Go.RowKit
set_option linter.unusedVariables false
set_option linter.unusedSimpArgs false
set_option synthInstance.maxSize 2000
set_option synthInstance.maxHeartbeats 400000

abbrev DT := ByteArray × Int × List (List Int)
def rT : RS DT := R.pair R.str (R.pair R.int rII)
def oT : OS DT := O.pair O.str (O.pair O.int oII)
theorem reads_T : Reads oT rT := Reads.pair Reads.str (Reads.pair Reads.int reads_II)
theorem rT_open {w : World} {cs : List Value} {x : DT} (h : rT.rep w cs x) : ∃ ub2 un2 uc2, cs = [.string x.1, .int .i64 x.2.1, .slice ub2 un2 uc2] ∧ x.1.size ≤ 9223372036854775807 ∧ I64 x.2.1 ∧ rII.rep w [.slice ub2 un2 uc2] x.2.2 := by
  obtain ⟨c0a, c0b, rfl, ⟨rfl, hs0⟩, ⟨c1a, c1b, rfl, ⟨rfl, hi1⟩, hr2⟩⟩ := h
  obtain ⟨ub2, un2, uc2, rfl⟩ := rII_form hr2
  exact ⟨_, _, _, rfl, hs0, hi1, hr2⟩
theorem rT_form {w : World} {cs : List Value} {x : DT} (h : rT.rep w cs x) : ∃ ub2 un2 uc2, cs = [.string x.1, .int .i64 x.2.1, .slice ub2 un2 uc2] := by
  obtain ⟨ub2, un2, uc2, h1, _⟩ := rT_open h
  exact ⟨_, _, _, h1⟩
theorem rT_mk {w : World} {ub2 : Option Addr} {un2 uc2 : Nat} {x : DT} (h0 : x.1.size ≤ 9223372036854775807) (h1 : I64 x.2.1) (h2 : rII.rep w [.slice ub2 un2 uc2] x.2.2) : rT.rep w [.string x.1, .int .i64 x.2.1, .slice ub2 un2 uc2] x :=
  ⟨[.string x.1], [.int .i64 x.2.1, .slice ub2 un2 uc2], rfl, ⟨rfl, h0⟩, ⟨[.int .i64 x.2.1], [.slice ub2 un2 uc2], rfl, ⟨rfl, h1⟩, h2⟩⟩
theorem oT_form {lo hi : Nat} {w : World} {cs : List Value} {x : DT} (h : Own oT lo hi w cs x) : ∃ ub2 un2 uc2, cs = [.string x.1, .int .i64 x.2.1, .slice ub2 un2 uc2] := rT_form (h.rd reads_T)

theorem oT_mk {lo hi l2 m2 : Nat} {w : World} {ub2 : Option Addr} {un2 uc2 : Nat} {x : DT} (hs0 : x.1.size ≤ 9223372036854775807) (hi1 : I64 x.2.1) (ho2 : Own oII l2 m2 w [.slice ub2 un2 uc2] x.2.2) (a2 : lo ≤ l2) (b2 : m2 ≤ hi)  : Own oT lo hi w [.string x.1, .int .i64 x.2.1, .slice ub2 un2 uc2] x := by
  obtain ⟨f2, r2, n2, q2⟩ := ho2
  refine ⟨([] ++ ([] ++ f2)), ⟨[.string x.1], [.int .i64 x.2.1, .slice ub2 un2 uc2], [], ([] ++ f2), rfl, rfl, ⟨rfl, hs0, rfl⟩, ⟨[.int .i64 x.2.1], [.slice ub2 un2 uc2], [], f2, rfl, rfl, ⟨rfl, hi1, rfl⟩, r2⟩⟩, ?_, ?_⟩
  · try simp only [List.nil_append, List.append_nil]
    exact n2
  · intro p hp
    try simp only [List.nil_append, List.append_nil, List.mem_append] at hp
    have := q2 p hp; omega

def bulk_T (x : DT) : Nat := (x.1.size) + (bulk_II x.2.2)

end Go.Proofs.YtigcagplbihenaaDoor

/- The laws' marks. -/
namespace Go.Proofs.YtigcagplbihenaaDoor
open Go.RowKit
set_option linter.unusedVariables false
set_option linter.unusedSimpArgs false

/-- The digits of k laid before some text. -/
def mdig : Nat → Nat → List UInt8 → List UInt8
  | 0, _, out => out
  | f + 1, k, out => if k = 0 then out else mdig f (k / 10) (UInt8.ofNat (48 + k % 10) :: out)
def mtext (k : Nat) : ByteArray := ⟨(109 :: mdig 20 k []).toArray⟩

theorem mdig_end {f : Nat} {out : List UInt8} : mdig f 0 out = out := by cases f <;> simp [mdig]

set_option maxHeartbeats 1000000 in
set_option maxRecDepth 100000 in
theorem markText_any (k : Nat) (w : World) (h0 : 0 < k) (hk : k ≤ 100000000000) :
    Calls Tryd.prog 113 #[.int .i64 k] w fun e w' => e = .returned (.string (mtext k)) ∧ Below w.heap.size w w' := by
  have hb0 : Below w.heap.size w w := Below.refl _ _
  go_enter Tryd.func113, Tryd.ntmps113
  go_wp2_with fail
  go_loopw [0, 3] (fun q s wr => ∃ (f i : Nat) (out : List UInt8), i < 10 ^ f ∧ i ≤ 100000000000 ∧ out.length + f ≤ 20 ∧ q = .int .i64 i ∧ s = .string ⟨out.toArray⟩ ∧ Hid (mdig 20 k [] = mdig f i out) ∧ Below w.heap.size w wr) (fun q _ _ => (intOf q).toNat)
  case atStart => exact ⟨20, k, [], by omega, hk, by simp, rfl, rfl, rfl, Below.refl _ _⟩
  case round =>
    obtain ⟨f, i, out, hif, hik, hof, rfl, rfl, hE, hdr⟩ := hrel
    by_cases hlt : 0 < i
    · obtain ⟨f, rfl⟩ : ∃ g, f = g + 1 := by cases f with
        | zero => simp at hif; omega
        | succ g => exact ⟨g, rfl⟩
      have HF := Lib.hid hif
      clear hif
      obtain ⟨c, hcc⟩ : ∃ c, c = UInt8.ofNat (48 + i % 10) := ⟨_, rfl⟩
      have hc2 : (c.toNat : Int) = 48 + (i : Int) % 10 := by
        have h9 : (48 + i % 10) < 256 := by omega
        rw [hcc, UInt8.toNat_ofNat', Nat.mod_eq_of_lt h9]; omega
      have hcv := run_convert_bytes_back (P := Tryd.prog) (wr.alloc (.cells #[Value.int .u8 (48 + (i : Int) % 10)] 5)) 52 9 5 ⟨wr.heap.size, 0, none⟩ 1 [c] Tryd.underlying52 Tryd.underlying5 Tryd.underlying9 (fun j hj => by
        obtain rfl : j = 0 := by simp at hj; exact hj
        rw [add_zero_addr, box_cell (i := 0) (Below.refl _ _) rfl, ← hc2]; rfl)
      simp only [List.length_cons, List.length_nil, Nat.zero_add] at hcv
      have HC := Lib.hid hcc
      clear hcc hc2
      go_wp2_with fail
      have HE := Lib.hid (show mdig 20 k [] = mdig f (i / 10) (c :: out) by rw [hE.out, mdig, if_neg (by omega), HC.out])
      have hp : i / 10 < 10 ^ f := by have h9 := HF.out; rw [Nat.pow_succ] at h9; omega
      clear hcv
      go_roundw
      case rel => exact ⟨f, i / 10, c :: out, hp, by omega, by simp at hof ⊢; omega, by go_num, by
        show Value.string _ = Value.string _
        congr 1 <;> (apply ByteArray.ext <;> simp), HE.out, hdr.trans ((Below.refl _ _).alloc hdr.size _)⟩
      case measure => simp [intOf]; omega
    · obtain rfl : i = 0 := by omega
      have HE := Lib.hid (show mtext k = ⟨(109 :: out).toArray⟩ by rw [mtext, hE.out, mdig_end])
      clear hif hE
      go_wp2_with fail
      go_ret
      refine ⟨?_, hdr⟩
      rw [HE.out]
      congr 2 <;> (apply ByteArray.ext <;> simp)
end Go.Proofs.YtigcagplbihenaaDoor

/- Contracts: rows of ints: in range, ascending. -/
namespace Go.Proofs.YtigcagplbihenaaDoor
open Go.RowKit
set_option linter.unusedVariables false
set_option linter.unusedSimpArgs false

/-- A row: all values in range, so many. -/
def rowB (row : List Int) (n : Int) : Bool := row.all (fun v => betw v 0 9) && decide ((row.length : Int) = n)
def rowsB (n : Int) (rows : List (List Int)) : Bool := rows.all (fun r => rowB r n)
/-- Rows strictly ascending. -/
def ascB : List (List Int) → Bool
  | a :: b :: t => decide (cmpRows a b < 0) && ascB (b :: t)
  | _ => true
theorem all_at {p : Int → Bool} {xs : List Int} {j : Nat} {x : Int} (hj : j < xs.length) (hx : xs.getD j 0 = x) : (xs.drop j).all p = (p x && (xs.drop (j + 1)).all p) := by
  rw [drop_cons xs j hj, hx]; rfl
theorem all_end {p : Int → Bool} {xs : List Int} {j : Nat} (hj : xs.length ≤ j) : (xs.drop j).all p = true := by
  rw [List.drop_eq_nil_of_le hj]; rfl
theorem drop_at {α : Type} {xs : List α} {j : Nat} {x : α} (h : xs[j]? = some x) : xs.drop j = x :: xs.drop (j + 1) := by
  obtain ⟨h1, rfl⟩ := List.getElem?_eq_some_iff.1 h
  exact List.drop_eq_getElem_cons h1
theorem rowsB_at {n : Int} {rows : List (List Int)} {j : Nat} {r : List Int} (h : rows[j]? = some r) : rowsB n (rows.drop j) = (rowB r n && rowsB n (rows.drop (j + 1))) := by
  rw [drop_at h]; rfl
theorem rowsB_end {n : Int} {rows : List (List Int)} {j : Nat} (hj : rows.length ≤ j) : rowsB n (rows.drop j) = true := by
  rw [List.drop_eq_nil_of_le hj]; rfl
theorem ascB_at {rows : List (List Int)} {j : Nat} {r s : List Int} (h : rows[j]? = some r) (h' : rows[j + 1]? = some s) : ascB (rows.drop j) = (decide (cmpRows r s < 0) && ascB (rows.drop (j + 1))) := by
  rw [drop_at h, drop_at h']; rfl
theorem ascB_end {rows : List (List Int)} {j : Nat} (hj : rows.length ≤ j + 1) : ascB (rows.drop j) = true := by
  have : (rows.drop j).length ≤ 1 := by rw [List.length_drop]; omega
  match h : rows.drop j, this with
  | [], _ => rfl
  | [a], _ => rfl

theorem rowB_no {row : List Int} {n : Int} {j : Nat} (h : rowB row n = ((row.drop j).all (fun v => betw v 0 9) && decide ((row.length : Int) = n))) {x : Int} (hj : j < row.length) (hx : row.getD j 0 = x) (hb : betw x 0 9 = false) : rowB row n = false := by
  rw [h, all_at hj hx, hb]; rfl

set_option maxHeartbeats 400000 in
theorem rowOk_any (a : Option Addr) (n cap : Nat) (xs : List Int) (m : Int) (w : World) (h : Ints w a n xs) :
    Calls Tryd.prog 167 #[.slice a n cap, .int .i64 m] w fun e w' => e = .returned (.bool (rowB xs m)) ∧ w = w' := by
  have hn := h.small
  have hl := h.len
  go_enter Tryd.func167, Tryd.ntmps167
  go_wp2
  go_loop [9] (fun k => ∃ j : Nat, j ≤ n ∧ k = .int .i64 j ∧ Hid (rowB xs m = ((xs.drop j).all (fun v => betw v 0 9) && decide ((xs.length : Int) = m)))) (fun k => n - (intOf k).toNat)
  case atStart => exact ⟨0, Nat.zero_le _, rfl, by simp [Hid, rowB]⟩
  case round =>
    obtain ⟨j, hj, rfl, hE⟩ := hrel
    by_cases hlt : j < n
    · obtain ⟨b, off, x, rfl, hc, hx, _, _⟩ := h.get hlt
      by_cases hb : betw x 0 9 = true
      · have HE := Lib.hid (hE.out.trans (show _ = ((xs.drop (j + 1)).all (fun v => betw v 0 9) && decide ((xs.length : Int) = m)) by rw [all_at (by omega) hx.out, hb, Bool.true_and]))
        clear h hl
        go_wp2_with fail
        refine (within_any _ _ _ _).mono ?_
        rintro e w' ⟨rfl, rfl⟩
        go_wp2_with fail
        go_round
        case rel => exact ⟨j + 1, by omega, by go_num, HE.out⟩
        case measure => simp [intOf]; omega
      · replace hb : betw x 0 9 = false := by simpa using hb
        have HE := Lib.hid (rowB_no hE.out (by omega) hx.out hb)
        clear h hl
        go_wp2_with fail
        refine (within_any _ _ _ _).mono ?_
        rintro e w' ⟨rfl, rfl⟩
        go_wp2_with fail
        go_ret
        exact ⟨ret_bool HE.out.symm, rfl⟩
    · have HE := Lib.hid (show decide ((n : Int) = m) = rowB xs m by rw [hE.out, all_end (by omega), hl, Bool.true_and])
      clear h hl
      go_wp2_with fail
      go_ret
      exact ⟨ret_bool (by rw [← HE.out]; rfl), rfl⟩

set_option maxHeartbeats 400000 in
theorem l4Row_any (a : Option Addr) (n cap : Nat) (xs : List Int) (m : Int) (w : World) (h : Ints w a n xs) :
    Calls Tryd.prog 176 #[.slice a n cap, .int .i64 m] w fun e w' => e = .returned (.bool (rowB xs m)) ∧ w = w' := by
  have hn := h.small
  have hl := h.len
  go_enter Tryd.func176, Tryd.ntmps176
  go_wp2
  go_loop [5] (fun k => ∃ j : Nat, j ≤ n ∧ k = .int .i64 j ∧ Hid (rowB xs m = ((xs.drop j).all (fun v => betw v 0 9) && decide ((xs.length : Int) = m)))) (fun k => n - (intOf k).toNat)
  case atStart => exact ⟨0, Nat.zero_le _, rfl, by simp [Hid, rowB]⟩
  case round =>
    obtain ⟨j, hj, rfl, hE⟩ := hrel
    by_cases hlt : j < n
    · obtain ⟨b, off, x, rfl, hc, hx, _, _⟩ := h.get hlt
      by_cases hb : betw x 0 9 = true
      · have HE := Lib.hid (hE.out.trans (show _ = ((xs.drop (j + 1)).all (fun v => betw v 0 9) && decide ((xs.length : Int) = m)) by rw [all_at (by omega) hx.out, hb, Bool.true_and]))
        clear h hl
        go_wp2_with fail
        refine (l1In_any _ _ _ _).mono ?_
        rintro e w' ⟨rfl, rfl⟩
        go_wp2_with fail
        go_round
        case rel => exact ⟨j + 1, by omega, by go_num, HE.out⟩
        case measure => simp [intOf]; omega
      · replace hb : betw x 0 9 = false := by simpa using hb
        have HE := Lib.hid (rowB_no hE.out (by omega) hx.out hb)
        clear h hl
        go_wp2_with fail
        refine (l1In_any _ _ _ _).mono ?_
        rintro e w' ⟨rfl, rfl⟩
        go_wp2_with fail
        go_ret
        exact ⟨ret_bool HE.out.symm, rfl⟩
    · have HE := Lib.hid (show decide ((n : Int) = m) = rowB xs m by rw [hE.out, all_end (by omega), hl, Bool.true_and])
      clear h hl
      go_wp2_with fail
      go_ret
      exact ⟨ret_bool (by rw [← HE.out]; rfl), rfl⟩

theorem isNaN_any (x : Int) (w : World) :
    Calls Tryd.prog 175 #[.int .i64 x] w fun e w' => e = .returned (.bool false) ∧ w = w' := by
  go_enter Tryd.func175, Tryd.ntmps175
  go_wp2
  go_ret
  exact ⟨rfl, rfl⟩
/-- Numbers compared. -/
def cmpI (x y : Int) : Int := if x < y then -1 else if y < x then 1 else 0
theorem cmpI_any (x y : Int) (w : World) :
    Calls Tryd.prog 193 #[.int .i64 x, .int .i64 y] w fun e w' => e = .returned (.int .i64 (cmpI x y)) ∧ w = w' := by
  have HE1 := Lib.hid (show x < y → cmpI x y = -1 from fun h => by simp [cmpI, h])
  have HE2 := Lib.hid (show y < x → cmpI x y = 1 from fun h => by simp only [cmpI]; rw [if_neg (by omega), if_pos h])
  have HE3 := Lib.hid (show ¬ x < y → ¬ y < x → cmpI x y = 0 from fun h h' => by simp [cmpI, h, h'])
  go_enter Tryd.func193, Tryd.ntmps193
  go_wp2_with fail
  refine (isNaN_any _ _).mono ?_
  rintro e w' ⟨rfl, rfl⟩
  go_wp2_with fail
  refine (isNaN_any _ _).mono ?_
  rintro e w' ⟨rfl, rfl⟩
  by_cases h1 : x < y
  · go_wp2_with fail
    go_ret
    exact ⟨ret_int (HE1.out (by omega)).symm, rfl⟩
  · by_cases h2 : y < x
    · go_wp2_with fail
      go_ret
      exact ⟨ret_int (HE2.out (by omega)).symm, rfl⟩
    · go_wp2_with fail
      go_ret
      exact ⟨ret_int (HE3.out (by omega) (by omega)).symm, rfl⟩

set_option maxHeartbeats 800000 in
theorem compare_any (a b : Option Addr) (n m cap cap' : Nat) (xs ys : List Int) (w : World) (h : Ints w a n xs) (h' : Ints w b m ys) :
    Calls Tryd.prog 190 #[.slice a n cap, .slice b m cap'] w fun e w' => e = .returned (.int .i64 (cmpRows xs ys)) ∧ w = w' := by
  have hn := h.small
  have hm := h'.small
  have hl := h.len
  have hl' := h'.len
  go_enter Tryd.func190, Tryd.ntmps190
  go_wp2
  go_loop [11] (fun i => ∃ j : Nat, j ≤ n ∧ j ≤ m ∧ i = .int .i64 j ∧ Hid (cmpRows xs ys = cmpRows (xs.drop j) (ys.drop j))) (fun i => n - (intOf i).toNat)
  case atStart => exact ⟨0, Nat.zero_le _, Nat.zero_le _, rfl, rfl⟩
  case round =>
    obtain ⟨j, hj, hjm, rfl, hE⟩ := hrel
    by_cases hlt : j < n
    · by_cases hlm : j < m
      · obtain ⟨b1, o1, x, rfl, hc1, hx, _, _⟩ := h.get hlt
        obtain ⟨b2, o2, y, rfl, hc2, hy, _, _⟩ := h'.get hlm
        have HD := Lib.hid (show cmpRows xs ys = cmpRows (x :: xs.drop (j + 1)) (y :: ys.drop (j + 1)) by rw [hE.out, h.drop hlt hx, h'.drop hlm hy])
        have hcall := cmpI_any x y w
        clear hl hl' h h'
        by_cases h1 : x < y
        · have HE := Lib.hid (HD.out.trans (cmp_lt h1))
          rw [show cmpI x y = -1 by simp [cmpI, h1]] at hcall
          have HC := Lib.hid hcall
          clear hcall h1
          go_wp2_with fail
          refine (HC.out).mono ?_
          rintro e w' ⟨rfl, rfl⟩
          go_wp2_with fail
          go_ret
          exact ⟨ret_int HE.out.symm, rfl⟩
        · by_cases h2 : y < x
          · have HE := Lib.hid (HD.out.trans (cmp_gt h2))
            rw [show cmpI x y = 1 by simp [cmpI, h1, h2]] at hcall
            have HC := Lib.hid hcall
            clear hcall h1 h2
            go_wp2_with fail
            refine (HC.out).mono ?_
            rintro e w' ⟨rfl, rfl⟩
            go_wp2_with fail
            go_ret
            exact ⟨ret_int HE.out.symm, rfl⟩
          · have HE := Lib.hid (HD.out.trans (cmp_eq (show x = y by omega)))
            rw [show cmpI x y = 0 by simp [cmpI, h1, h2]] at hcall
            have HC := Lib.hid hcall
            clear hcall h1 h2
            go_wp2_with fail
            refine (HC.out).mono ?_
            rintro e w' ⟨rfl, rfl⟩
            go_wp2_with fail
            go_round
            case rel => exact ⟨j + 1, by omega, by omega, by go_num, HE.out⟩
            case measure => simp [intOf]; omega
      · have HE := Lib.hid (show cmpRows xs ys = 1 by
          rw [hE.out, List.drop_of_length_le (l := ys) (by omega), drop_cons xs j (by omega)]; rfl)
        have hmn : m ≤ j := by omega
        obtain ⟨b1, o1, x, rfl, hc1, hx, _, _⟩ := h.get hlt
        clear hl hl' h h' hjm hlm
        go_wp2_with fail
        go_ret
        exact ⟨ret_int HE.out.symm, rfl⟩
    · obtain rfl : j = n := by omega
      by_cases hlm : j < m
      · have HE := Lib.hid (show cmpRows xs ys = -1 by
          rw [hE.out, List.drop_of_length_le (l := xs) (by omega), drop_cons ys j (by omega)]; rfl)
        clear hl hl' h h'
        go_wp2_with fail
        go_ret
        exact ⟨ret_int HE.out.symm, rfl⟩
      · have HE := Lib.hid (show cmpRows xs ys = 0 by
          rw [hE.out, List.drop_of_length_le (l := xs) (by omega), List.drop_of_length_le (l := ys) (by omega)]; rfl)
        clear hl hl' h h'
        go_wp2_with fail
        go_ret
        exact ⟨ret_int HE.out.symm, rfl⟩

theorem cmpRows_any (a b : Option Addr) (n m cap cap' : Nat) (xs ys : List Int) (w : World) (h : Ints w a n xs) (h' : Ints w b m ys) :
    Calls Tryd.prog 184 #[.slice a n cap, .slice b m cap'] w fun e w' => e = .returned (.int .i64 (cmpRows xs ys)) ∧ w = w' := by
  go_enter Tryd.func184, Tryd.ntmps184
  go_wp2_with fail
  refine (compare_any _ _ _ _ _ _ _ _ _ h h').mono ?_
  rintro e w' ⟨rfl, rfl⟩
  go_wp2_with fail
  go_ret
  exact ⟨rfl, rfl⟩

set_option maxHeartbeats 800000 in
theorem ascending_any (a : Option Addr) (n cap : Nat) (xss : List (List Int)) (w : World) (h : Sl rI w a n xss) :
    Calls Tryd.prog 168 #[.slice a n cap] w fun e w' => e = .returned (.bool (ascB xss)) ∧ Drew w w' := by
  have hn := h.small
  have hl := h.len
  go_enter Tryd.func168, Tryd.ntmps168
  go_wp2
  go_loopw [3] (fun k wr => ∃ j : Nat, j ≤ n ∧ k = .int .i64 ((j : Int) + 1) ∧ Hid (ascB xss = ascB (xss.drop j)) ∧ Drew w wr) (fun k _ => n + 1 - (intOf k).toNat)
  case atStart => exact ⟨0, Nat.zero_le _, rfl, rfl, Drew.refl _⟩
  case round =>
    obtain ⟨j, hj, rfl, hE, hdr⟩ := hrel
    replace h := h.drew hdr
    by_cases hlt : j + 1 < n
    · obtain ⟨b1, o1, r1, m1, q1, x, rfl, hc1, hx, hi, _⟩ := h.row (show j < n by omega)
      obtain ⟨b2, o2, r2, m2, q2, y, hb2, hc2, hy, hi', _⟩ := h.row hlt
      simp at hb2
      obtain ⟨rfl, rfl⟩ := hb2
      have hcall := fun q => cmpRows_any r1 r2 m1 m2 q1 q2 x y (wr.drewN q) (hi.drewN q) (hi'.drewN q)
      obtain ⟨c, hc⟩ : ∃ c, c = cmpRows x y := ⟨_, rfl⟩
      rw [← hc] at hcall
      have HC := Lib.hid hcall
      have HA := Lib.hid (hE.out.trans (ascB_at hx.out hy.out))
      rw [← hc] at HA
      have e1 : ((j : Int) + 1 - 1) = (j : Int) := by omega
      have hk : ((j : Int) + 1) < (n : Int) := by omega
      have hc2' : wr.cell? ⟨b1, o1 + (j + 1), none⟩ = some (.slice r2 m2 q2) := hc2
      clear h hl hi hi' hcall hc hx hy hE
      by_cases h0 : c < 0
      · have HE := Lib.hid (show ascB xss = ascB (xss.drop (j + 1)) by rw [HA.out]; simp [h0])
        go_wp2_with fail
        go_quiet ((go_at_call 184; exact quiet_same (HC.out _)))
        go_wp2_with fail
        go_roundw
        case rel => exact ⟨j + 1, by omega, by go_num, HE.out, hdr.step _⟩
        case measure => simp [intOf]; omega
      · have HE := Lib.hid (show ascB xss = false by rw [HA.out]; simp [h0])
        go_wp2_with fail
        go_quiet ((go_at_call 184; exact quiet_same (HC.out _)))
        go_wp2_with fail
        go_ret
        exact ⟨ret_bool HE.out.symm, hdr.step _⟩
    · have HE := Lib.hid (hE.out.trans (ascB_end (by omega)))
      have hk : ¬ ((j : Int) + 1) < (n : Int) := by omega
      clear h hl hE
      go_wp2_with fail
      go_ret
      exact ⟨ret_bool HE.out.symm, hdr⟩

end Go.Proofs.YtigcagplbihenaaDoor
