/- Texts joined for one claim: OpenS. -/
import Derived.Test.YtpgfkjcekhifiaaDoorQ3d75255bd7
import Derived.Test.YtpgfkjcekhifiaaDoorQ1236d00423
import Derived.Deep.Strs

/- The form's own reading opened to shapes: ints, strings, slices of whatever, structs of one to four fields. -/
namespace Go.Proofs.YtpgfkjcekhifiaaDoor
open Go.ChangeShapes Go.WideShapes Go.ChangeAt Go.RowKit
set_option linter.unusedVariables false
set_option maxRecDepth 100000
set_option linter.unusedSimpArgs false

/-- Whatever the form reads at type T reads by the shape r. -/
def Opens {α : Type} (T : TypeId) (r : RS α) : Prop :=
  ∀ (H : Type) (enc : TypeId × Value → H) (W : World) (fuel : Nat) (cs : List Value) (x : DataW H × List MemPlace), DataW.trod enc Tryd.prog W 0 (fun _ => true) true fuel T cs = some x → ∃ y, r.rep W cs y

theorem opens_int : Opens 3 R.int := by
  intro H enc W fuel cs x h
  obtain ⟨n, h1, _, hw⟩ := DataW.trod_int Tryd.underlying3 h
  exact ⟨n, h1, wf_I64 hw⟩
theorem opens_slice {α : Type} {T E : TypeId} {r : RS α} (hT : Tryd.prog.underlying T = some (.slice E)) (hc : Tryd.prog.cellsOf E = r.size) (hpos : 0 < r.size) (hr : Opens E r) : Opens T (R.slice r) := by
  intro H enc W fuel cs x h
  rcases Go.Deep.open_slice hT h with ⟨rfl, _⟩ | ⟨a, len, cap, m, n, D, Pl, rfl, _, hl, hm, hmm, rfl, hx⟩
  · exact ⟨[], none, 0, 0, rfl, by omega, by omega, rfl, by omega, fun i x hx => by simp at hx⟩
  · simp at hmm
    subst hmm
    have hel : ∀ i, i < len → ∃ cs' y, W.cells? 0 (a.add (i * r.size)) r.size = some cs' ∧ r.rep W cs' y := fun i hi => by
      obtain ⟨cs', h1, h2⟩ := hx i (by omega)
      obtain ⟨y, hy⟩ := hr H enc W n cs' _ h2
      rw [hc] at h1
      exact ⟨cs', y, h1, hy⟩
    clear hx
    have hch : ∃ ys : List α, ys.length = len ∧ ∀ i y, ys[i]? = some y → ∃ cs', W.cells? 0 (a.add (i * r.size)) r.size = some cs' ∧ r.rep W cs' y := by
      clear hl h hm
      induction len with
      | zero => exact ⟨[], rfl, fun i y hy => by simp at hy⟩
      | succ k ih =>
        obtain ⟨ys, hys, hall⟩ := ih (fun i hi => hel i (by omega))
        obtain ⟨cs', y, h1, h2⟩ := hel k (by omega)
        refine ⟨ys ++ [y], by simp [hys], fun i z hz => ?_⟩
        by_cases hi : i < ys.length
        · rw [List.getElem?_append_left hi] at hz; exact hall i z hz
        · rw [List.getElem?_append_right (by omega)] at hz
          have : i - ys.length = 0 := by
            have := (List.getElem?_eq_some_iff.1 hz).1
            simp at this; omega
          rw [this] at hz
          simp at hz
          subst hz
          have : i = k := by omega
          subst this
          exact ⟨cs', h1, h2⟩
    obtain ⟨ys, hys, hall⟩ := hch
    refine ⟨ys, some a, len, m, rfl, hl, by unfold maxLen at hm; omega, hys, by unfold maxLen at hm; omega, fun i y hy => ?_⟩
    obtain ⟨cs', h1, h2⟩ := hall i y hy
    obtain ⟨_, hlen, hcell⟩ := World.cells?_some h1
    have ea : a = ⟨a.block, a.off, none⟩ := by
      have hl0 : 0 < ys.length := Nat.lt_of_le_of_lt (Nat.zero_le i) (List.getElem?_eq_some_iff.1 hy).1
      obtain ⟨c0, h3, _⟩ := hall 0 _ (List.getElem?_eq_getElem hl0)
      obtain ⟨_, hlen0, hcell0⟩ := World.cells?_some h3
      have h0 := hcell0 0 hpos
      rw [List.getElem?_eq_getElem (by omega)] at h0
      exact addr_none (by simpa [Addr.add] using h0)
    refine ⟨a.block, a.off, cs', congrArg some ea, h2, fun j u hu => ?_⟩
    have hj : j < r.size := by rw [← hlen]; exact (List.getElem?_eq_some_iff.1 hu).1
    have h4 := hcell j hj
    rw [hu, Go.Deep.add_add, ea] at h4
    rw [← h4]
    congr 1
    unfold Addr.add
    split
    · rename_i h; rw [h]; rfl
    · rfl

theorem opens_str {T : TypeId} (hT : Tryd.prog.underlying T = some .string) : Opens T R.str := by
  intro H enc W fuel cs x h
  obtain ⟨s, h1, _, hw⟩ := DataW.trod_string hT h
  exact ⟨s, h1, by unfold maxLen at hw; omega⟩
theorem opens_bool {T : TypeId} (hT : Tryd.prog.underlying T = some .bool) : Opens T R.bool := by
  intro H enc W fuel cs x h
  obtain ⟨b, h1, _⟩ := DataW.trod_bool hT h
  exact ⟨b, h1⟩

theorem take_drop_one {cs : List Value} {n : Nat} (h : n < cs.length) : (cs.drop n).take 1 = [cs[n]] := by
  rw [List.drop_eq_getElem_cons h]; rfl

/-- Structs whose fields are one cell each, in order. -/
theorem opens_struct1 {α : Type} {T : TypeId} {f0 : Field} {r0 : RS α} (hT : Tryd.prog.underlying T = some (.struct #[f0])) (hn : Tryd.prog.cellsOf T = 1) (o0 : f0.offset = 0) (s0 : Tryd.prog.cellsOf f0.type = 1) (h0 : Opens f0.type r0) : Opens T r0 := by
  intro H enc W fuel cs x h
  obtain ⟨y0, n, _, hl, k0⟩ := trod_struct1 hT h
  rw [hn] at hl
  rw [o0, s0] at k0
  match cs, hl with
  | [c0], _ => exact h0 H enc W n _ _ k0
theorem opens_struct2 {α β : Type} {T : TypeId} {f0 f1 : Field} {r0 : RS α} {r1 : RS β} (hT : Tryd.prog.underlying T = some (.struct #[f0, f1])) (hn : Tryd.prog.cellsOf T = 2) (o0 : f0.offset = 0) (o1 : f1.offset = 1)
    (s0 : Tryd.prog.cellsOf f0.type = 1) (s1 : Tryd.prog.cellsOf f1.type = 1) (h0 : Opens f0.type r0) (h1 : Opens f1.type r1) : Opens T (R.pair r0 r1) := by
  intro H enc W fuel cs x h
  obtain ⟨y0, y1, n, _, hl, k0, k1⟩ := trod_struct2 hT h
  rw [hn] at hl
  rw [o0, s0] at k0
  rw [o1, s1] at k1
  match cs, hl with
  | [c0, c1], _ =>
    obtain ⟨z0, q0⟩ := h0 H enc W n _ _ k0
    obtain ⟨z1, q1⟩ := h1 H enc W n _ _ k1
    exact ⟨(z0, z1), [c0], [c1], rfl, q0, q1⟩
theorem opens_struct3 {α β γ : Type} {T : TypeId} {f0 f1 f2 : Field} {r0 : RS α} {r1 : RS β} {r2 : RS γ} (hT : Tryd.prog.underlying T = some (.struct #[f0, f1, f2])) (hn : Tryd.prog.cellsOf T = 3) (o0 : f0.offset = 0) (o1 : f1.offset = 1) (o2 : f2.offset = 2)
    (s0 : Tryd.prog.cellsOf f0.type = 1) (s1 : Tryd.prog.cellsOf f1.type = 1) (s2 : Tryd.prog.cellsOf f2.type = 1) (h0 : Opens f0.type r0) (h1 : Opens f1.type r1) (h2 : Opens f2.type r2) : Opens T (R.pair r0 (R.pair r1 r2)) := by
  intro H enc W fuel cs x h
  obtain ⟨y0, y1, y2, n, _, hl, k0, k1, k2⟩ := Go.Deep.trod_struct3 hT h
  rw [hn] at hl
  rw [o0, s0] at k0
  rw [o1, s1] at k1
  rw [o2, s2] at k2
  match cs, hl with
  | [c0, c1, c2], _ =>
    obtain ⟨z0, q0⟩ := h0 H enc W n _ _ k0
    obtain ⟨z1, q1⟩ := h1 H enc W n _ _ k1
    obtain ⟨z2, q2⟩ := h2 H enc W n _ _ k2
    exact ⟨(z0, z1, z2), [c0], [c1, c2], rfl, q0, [c1], [c2], rfl, q1, q2⟩
theorem opens_struct4 {α β γ δ : Type} {T : TypeId} {f0 f1 f2 f3 : Field} {r0 : RS α} {r1 : RS β} {r2 : RS γ} {r3 : RS δ} (hT : Tryd.prog.underlying T = some (.struct #[f0, f1, f2, f3])) (hn : Tryd.prog.cellsOf T = 4)
    (o0 : f0.offset = 0) (o1 : f1.offset = 1) (o2 : f2.offset = 2) (o3 : f3.offset = 3) (s0 : Tryd.prog.cellsOf f0.type = 1) (s1 : Tryd.prog.cellsOf f1.type = 1) (s2 : Tryd.prog.cellsOf f2.type = 1) (s3 : Tryd.prog.cellsOf f3.type = 1)
    (h0 : Opens f0.type r0) (h1 : Opens f1.type r1) (h2 : Opens f2.type r2) (h3 : Opens f3.type r3) : Opens T (R.pair r0 (R.pair r1 (R.pair r2 r3))) := by
  intro H enc W fuel cs x h
  obtain ⟨y0, y1, y2, y3, n, _, hl, k0, k1, k2, k3⟩ := Go.Joins.trod_struct4 hT h
  rw [hn] at hl
  rw [o0, s0] at k0
  rw [o1, s1] at k1
  rw [o2, s2] at k2
  rw [o3, s3] at k3
  match cs, hl with
  | [c0, c1, c2, c3], _ =>
    obtain ⟨z0, q0⟩ := h0 H enc W n _ _ k0
    obtain ⟨z1, q1⟩ := h1 H enc W n _ _ k1
    obtain ⟨z2, q2⟩ := h2 H enc W n _ _ k2
    obtain ⟨z3, q3⟩ := h3 H enc W n _ _ k3
    exact ⟨(z0, z1, z2, z3), [c0], [c1, c2, c3], rfl, q0, [c1], [c2, c3], rfl, q1, [c2], [c3], rfl, q2, q3⟩

/-- A value of a struct type: its cells read by a shape. -/
def agg_in {α : Type} (r : RS α) (w : World) (v : Value) : Prop := ∃ cs x, v = .agg (List.toArray cs) ∧ r.rep w cs x
theorem open_agg_in {α : Type} {H : Type} {enc : TypeId × Value → H} {W : World} {d : DataW H} {ps : List MemPlace} {T : TypeId} {fs : Array Field} {r : RS α} (hT : Tryd.prog.underlying T = some (.struct fs)) (hr : Opens T r) {v : Value}
    (hv : Value.okWide Tryd.prog W .any 0 T v) (h : DataW.Trod enc Tryd.prog W 0 (fun _ => true) true T v d ps) : agg_in r W v := by
  obtain ⟨cs, rfl, _⟩ := okWide_struct hT hv
  obtain ⟨fuel, hf⟩ := h
  obtain ⟨y, hy⟩ := hr H enc W fuel _ _ hf
  exact ⟨cs.toList, y, by simp, hy⟩

end Go.Proofs.YtpgfkjcekhifiaaDoor
