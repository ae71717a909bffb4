/- Texts joined for one claim: Part, Seq3, Gen, Acc, Mark. -/
import Derived.Test.YtehcjdbljdpmbaaQ05ab70db57
import Derived.Test.YtehcjdbljdpmbaaQ3db769134f

/- A slice that a call makes and fills element by element: what holds on the way. -/
namespace Go.Proofs.Ytehcjdbljdpmbaa
open Go.RowKit
set_option linter.unusedVariables false
set_option linter.unusedSimpArgs false

/-- Cells stored one behind the other. -/
def setCells (w : World) (g : Nat) : Nat → List Value → World
  | _, [] => w
  | i, c :: cs => setCells (w.setCell ⟨g, i, none⟩ c) g (i + 1) cs
theorem setCells_size (g : Nat) : ∀ (cs : List Value) (w : World) (i : Nat), (setCells w g i cs).heap.size = w.heap.size
  | [], _, _ => rfl
  | c :: cs, w, i => by rw [setCells, setCells_size g cs]; simp [World.setCell]
theorem setCells_other (g : Nat) : ∀ (cs : List Value) (w : World) (i k : Nat), k ≠ g → (setCells w g i cs).heap[k]? = w.heap[k]?
  | [], _, _, _, _ => rfl
  | c :: cs, w, i, k, h => by rw [setCells, setCells_other g cs _ _ _ h]; exact Below.heap_setCell _ _ _ _ h
theorem setCells_only (g : Nat) (cs : List Value) (w : World) (i : Nat) : Only [g] w (setCells w g i cs) := by
  have h : ∀ (cs : List Value) (w : World) (i : Nat), (setCells w g i cs).os = w.os ∧ (setCells w g i cs).tape = w.tape ∧ (setCells w g i cs).output = w.output := by
    intro cs
    induction cs with
    | nil => intro w i; exact ⟨rfl, rfl, rfl⟩
    | cons c cs ih => intro w i; exact ih (w.setCell ⟨g, i, none⟩ c) (i + 1)
  exact ⟨(h cs w i).1, (h cs w i).2.1, (h cs w i).2.2, setCells_size g cs w i, fun k hk => setCells_other g cs w i k (by simpa using hk)⟩
/-- The block behind stores. -/
theorem setCells_block (g E : Nat) : ∀ (cs : List Value) (w : World) (i : Nat) (A C M : List Value), w.heap[g]? = some (.cells (A ++ (M ++ C)).toArray E) → A.length = i → M.length = cs.length →
    (setCells w g i cs).heap[g]? = some (.cells (A ++ (cs ++ C)).toArray E)
  | [], w, i, A, C, M, h, _, hM => by
    have : M = [] := List.eq_nil_of_length_eq_zero (by simpa using hM)
    subst this
    exact h
  | c :: cs, w, i, A, C, M, h, hA, hM => by
    cases M with
    | nil => simp at hM
    | cons m M =>
      have h2 := heap_setCell_same w g i _ E c h
      have e : ((A ++ (m :: M ++ C)).toArray.setIfInBounds i c) = ((A ++ [c]) ++ (M ++ C)).toArray := by
        apply Array.ext'
        simp only [Array.toList_setIfInBounds]
        rw [List.set_append_right _ _ (by omega), show i - A.length = 0 by omega]
        simp
      rw [e] at h2
      have := setCells_block g E cs _ (i + 1) (A ++ [c]) C M h2 (by simp [hA]) (by simpa using hM)
      rw [setCells, this]
      simp

/-- The first k elements of the slice in block g are owned as xs has them; the rest is nought yet. -/
def Part {α : Type} (E : TypeId) (o : OS α) (z : List Value) (B : Nat) (w : World) (g n k : Nat) (xs : List α) : Prop :=
  ∃ css fps, w.heap[g]? = some (.cells (css.flatten ++ (List.replicate (n - k) z).flatten).toArray E) ∧ o.rows w css (xs.take k) fps ∧ (g :: fps.flatten).Nodup ∧ (∀ p ∈ fps.flatten, B ≤ p ∧ p < w.heap.size) ∧ B ≤ g ∧ g < w.heap.size

theorem Part.below {α : Type} {E : TypeId} {o : OS α} {z : List Value} {B C : Nat} {w w' : World} {g n k : Nat} {xs : List α} (h : Part E o z B w g n k xs) (hb : Below C w w') (hC : w.heap.size ≤ C) : Part E o z B w' g n k xs := by
  obtain ⟨css, fps, h1, h2, h3, h4, h5, h6⟩ := h
  exact ⟨css, fps, by rw [hb.block g (by omega)]; exact h1, o.rows_frame h2 (fun p hp => hb.block p (by have := h4 p hp; omega)), h3, fun p hp => by have := h4 p hp; have := hb.size; omega, h5, by have := hb.size; omega⟩
/-- The cells that stand for the next element are there and can be written. -/
theorem Part.cell {α : Type} {E : TypeId} {o : OS α} {z : List Value} {B : Nat} {w : World} {g n k : Nat} {xs : List α} (h : Part E o z B w g n k xs) (hz : z.length = o.size) (hk : k < n) (hx : k ≤ xs.length) (j : Nat) (hj : j < o.size) :
    (∃ u, w.cell? ⟨g, k * o.size + j, none⟩ = some u) ∧ w.frozen? ⟨g, k * o.size + j, none⟩ = false := by
  obtain ⟨css, fps, h1, h2, _⟩ := h
  have hl := (o.rows_len h2).2.2
  have hlen : css.flatten.length = k * o.size := by rw [hl, List.length_take, Nat.min_eq_left hx]
  constructor
  · have : k * o.size + j < (css.flatten ++ (List.replicate (n - k) z).flatten).length := by
      rw [List.length_append, hlen]
      have h3 : ((List.replicate (n - k) z).flatten).length = (n - k) * o.size := by simp [hz]
      rw [h3]
      have : o.size ≤ (n - k) * o.size := Nat.le_mul_of_pos_left _ (by omega)
      omega
    refine ⟨(css.flatten ++ (List.replicate (n - k) z).flatten)[k * o.size + j], ?_⟩
    simp only [World.cell?, h1]
    simp only [Option.isSome_none, Bool.false_eq_true, if_false]
    rw [List.getElem?_toArray, List.getElem?_eq_getElem this]
  · simp [World.frozen?, h1]
/-- The next element comes in. -/
theorem Part.step {α : Type} {E : TypeId} {o : OS α} {z : List Value} {B B1 B2 : Nat} {w : World} {g n k : Nat} {xs : List α} {cs : List Value} {x : α} (h : Part E o z B w g n k xs) (hz : z.length = o.size) (hk : k < n) (hx : xs[k]? = some x)
    (hy : Own o B1 B2 w cs x) (hB1 : g < B1)
    (hold : ∃ w0 : World, Part E o z B w0 g n k xs ∧ w0.heap.size ≤ B1 ∧ ∀ p, p < w0.heap.size → w.heap[p]? = w0.heap[p]?) (hB2 : B2 ≤ w.heap.size) (hB : B ≤ B1) :
    Part E o z B (setCells w g (k * o.size) cs) g n (k + 1) xs := by
  obtain ⟨w0, ⟨css, fps, h1, h2, h3, h4, h5, h6⟩, hs, hsame⟩ := hold
  obtain ⟨fy, hr, hn, hl⟩ := hy
  have h1' : w.heap[g]? = some (.cells (css.flatten ++ (List.replicate (n - k) z).flatten).toArray E) := by rw [hsame g h6]; exact h1
  have h2' := o.rows_frame h2 (fun p hp => hsame p (h4 p hp).2)
  have hlen : css.flatten.length = k * o.size := by
    rw [(o.rows_len h2).2.2]
    have := (List.getElem?_eq_some_iff.1 hx).1
    rw [List.length_take, Nat.min_eq_left (by omega)]
  have hcl := o.len hr
  have hO := setCells_only g cs w (k * o.size)
  have hfy : ∀ p ∈ fy, p ≠ g := fun p hp e => by have := hl p hp; omega
  have hfps : ∀ p ∈ fps.flatten, p ≠ g := fun p hp e => by subst e; exact (List.nodup_cons.1 h3).1 hp
  refine ⟨css ++ [cs], fps ++ [fy], ?_, ?_, ?_, ?_, h5, ?_⟩
  · have e : (List.replicate (n - k) z).flatten = z ++ (List.replicate (n - (k + 1)) z).flatten := by
      rw [show n - k = (n - (k + 1)) + 1 by omega, List.replicate_succ]; simp
    rw [e] at h1'
    have := setCells_block g E cs w (k * o.size) css.flatten _ z h1' hlen (by rw [hz, hcl])
    rw [this]
    simp
  · rw [take_snoc' xs k x hx]
    refine o.rows_snoc (o.frame hr (fun p hp => hO.block p (by simpa using hfy p hp))) (o.rows_frame h2' (fun p hp => hO.block p (by simpa using hfps p hp)))
  · rw [List.flatten_append]
    refine List.nodup_cons.2 ⟨fun hm => ?_, List.nodup_append.2 ⟨(List.nodup_cons.1 h3).2, by simpa using hn, fun p hp q hq e => ?_⟩⟩
    · rcases List.mem_append.1 hm with hm | hm
      · exact hfps g hm rfl
      · exact hfy g (by simpa using hm) rfl
    · subst e
      have := (h4 p hp).2
      have := hl p (by simpa using hq)
      omega
  · intro p hp
    rw [setCells_size]
    rw [List.flatten_append] at hp
    rcases List.mem_append.1 hp with hp | hp
    · exact ⟨(h4 p hp).1, o.rows_lt h2' p hp⟩
    · have := hl p (by simpa using hp); omega
  · rw [setCells_size]
    have h7 := (Array.getElem?_eq_some_iff.1 h1').1
    exact h7
theorem Part.done {α : Type} {E : TypeId} {o : OS α} {z : List Value} {B : Nat} {w : World} {g n : Nat} {xs : List α} (h : Part E o z B w g n n xs) (hn : xs.length = n) (hm : n ≤ 9223372036854775807) : Own (O.slice E o) B w.heap.size w [.slice (some ⟨g, 0, none⟩) n n] xs := by
  obtain ⟨css, fps, h1, h2, h3, h4, h5, h6⟩ := h
  rw [List.take_of_length_le (by omega)] at h2
  simp only [Nat.sub_self, List.replicate_zero, List.flatten_nil, List.append_nil] at h1
  have hl := (o.rows_len h2).2.2
  refine ⟨g :: fps.flatten, ⟨_, css, fps, rfl, by simp [bl, Value.ownBlock], ⟨by rw [hl], .inr ⟨g, n, css.flatten.toArray, by rw [hn], Nat.zero_le _, h1, by omega, by unfold maxLen; omega, by simp only [List.size_toArray]; rw [hl, hn], ?_⟩⟩, h2⟩, h3, ?_⟩
  · simp only []
    exact List.take_of_length_le (by rw [hl]; exact Nat.le_refl _)
  · intro p hp
    rcases List.mem_cons.1 hp with rfl | hp
    · exact ⟨h5, h6⟩
    · exact h4 p hp

theorem rep_flat {α : Type} (l : List α) (hl : 0 < l.length) : ∀ (n i : Nat), ((List.replicate n l).flatten)[i]? = if i < n * l.length then l[i % l.length]? else none
  | 0, i => by simp
  | n + 1, i => by
    rw [List.replicate_succ, List.flatten_cons]
    by_cases h : i < l.length
    · rw [List.getElem?_append_left h, Nat.mod_eq_of_lt h, if_pos]
      rw [Nat.add_mul]; omega
    · rw [List.getElem?_append_right (by omega), rep_flat l hl n (i - l.length), ← Nat.mod_eq_sub_mod (by omega)]
      by_cases h2 : i < (n + 1) * l.length
      · rw [if_pos h2, if_pos]; rw [Nat.add_mul] at h2; omega
      · rw [if_neg h2, if_neg]; rw [Nat.add_mul] at h2; omega
theorem made_flat (z : Array Value) (n : Nat) (hz : 0 < z.size) : (madeCells z (n * z.size)).toList = (List.replicate n z.toList).flatten := by
  apply List.ext_getElem?
  intro i
  rw [rep_flat z.toList (by simpa using hz) n i]
  simp only [madeCells, Array.toList_map, Array.toList_range, List.getElem?_map, Array.length_toList]
  by_cases h : i < n * z.size
  · rw [if_pos h, List.getElem?_range h]
    have hm : i % z.size < z.size := Nat.mod_lt _ hz
    simp [hm]
  · rw [if_neg h]
    simp; omega

/-- 'make([]T, n)': nothing of it is filled yet. -/
theorem wpList_mkS {α : Type} {T E size bytes : Nat} {z : Value} (hT : Try.prog.underlying T = some (.slice E)) (hE : (Try.prog.info? E).map (fun i => (i.zero, i.size, i.bytes)) = some (some z, size, bytes)) (hz : z.cells.size = size) (hpos : 0 < size) (hby : bytes ≤ 1000) (o' : OS α) (xs : List α)
    {W : World} {ops : Array Oper} {rest : List Oper} {o : Oper} {a : Act} {Q : Exit → Act → World → Prop} (l c : Operand) (n : Nat) (hn : n ≤ 100000000)
    (hgd : o.guard = none) (ho : o.op = Op.makeSlice T l c) (hl : a.eval l = .int .i64 n) (hc : a.eval c = .int .i64 n)
    (h : ∀ w', Part E o' z.cells.toList W.heap.size w' W.heap.size n 0 xs → Below W.heap.size W w' → W.heap.size < w'.heap.size → wpList Try.prog ops Q rest (a.put o.dst (.slice (some ⟨W.heap.size, 0, none⟩) n n)) w') :
    wpList Try.prog ops Q (o :: rest) a W := by
  obtain ⟨i, hi, hz0, hz1, hz2⟩ := info_parts hE
  have hb2 : i.bytes * n ≤ 281474976710656 := by
    rw [hz2]
    exact Nat.le_trans (Nat.mul_le_mul hby hn) (by decide)
  refine wpList_make_full W hgd l c T ho W.heap.size E i z size hT hi hz0 hz1 .i64 .i64 n n n hl hc rfl rfl hb2 (by unfold maxLen; omega) (Nat.le_refl _) ?_
  intro w1 hown hgrow
  have hb1 : Below W.heap.size W w1 := (Below.refl _ _).grown hgrow (Nat.le_refl _) (by intro k hk; cases hk)
  have hlt := (hown.lt W.heap.size rfl).2
  refine h w1 ?_ hb1 hlt
  rcases hown.2 with ⟨hv, _⟩ | ⟨g, cap, cur, hv, _, hg, _, _, hcs, htake⟩
  · simp at hv
  · simp at hv
    obtain ⟨rfl, rfl⟩ := hv
    have e1 : cur.toList = (madeCells z.cells (n * size)).toList := by
      rw [← htake, List.take_of_length_le (by simp [hcs])]
    have e2 := made_flat z.cells n (by omega)
    rw [hz] at e2
    rw [e2] at e1
    have e3 : cur = ((List.replicate n z.cells.toList).flatten).toArray := by rw [← e1]
    refine ⟨[], [], ?_, trivial, by simp, by simp, Nat.le_refl _, hlt⟩
    rw [hg, e3, Nat.sub_zero, List.flatten_nil, List.nil_append]

end Go.Proofs.Ytehcjdbljdpmbaa

/- Contracts: the bound from maximum degrees. -/
namespace Go.Proofs.Ytehcjdbljdpmbaa
open Go.RowKit
set_option linter.unusedVariables false
set_option linter.unusedSimpArgs false

/-- The bound of a pair from its maximum degrees. -/
def maxDegBound (a b : List Int) : Int := if (isDeg a && isDeg b) && (!a.isEmpty && !b.isEmpty) then min (a.sum * b.getD 0 0) (b.sum * a.getD 0 0) else 0

theorem maxDegBound_yes {a b : List Int} (h1 : isDeg a = true) (h2 : isDeg b = true) (h3 : 0 < a.length) (h4 : 0 < b.length) : maxDegBound a b = min (a.sum * b.getD 0 0) (b.sum * a.getD 0 0) := by
  unfold maxDegBound
  have e1 : a.isEmpty = false := by cases a <;> simp_all
  have e2 : b.isEmpty = false := by cases b <;> simp_all
  rw [h1, h2, e1, e2]; rfl
theorem maxDegBound_no {a b : List Int} (h : ¬ (isDeg a = true ∧ isDeg b = true ∧ 0 < a.length ∧ 0 < b.length)) : maxDegBound a b = 0 := by
  unfold maxDegBound
  rw [if_neg]
  simp only [Bool.and_eq_true, Bool.not_eq_true', List.isEmpty_eq_false_iff, ne_eq]
  rintro ⟨⟨h1, h2⟩, h3, h4⟩
  exact h ⟨h1, h2, List.length_pos_iff.2 h3, List.length_pos_iff.2 h4⟩
theorem sum_rng {xs : List Int} (h : isDeg xs = true) : 0 ≤ xs.sum ∧ xs.sum ≤ 8 := by
  have := isDeg_small h xs.length
  rwa [List.take_of_length_le (Nat.le_refl _)] at this

set_option maxHeartbeats 400000 in
theorem maxDegBound_impl (a b : Option Addr) (n m cap cap' : Nat) (xs ys : List Int) (w : World) (h : Ints w a n xs) (h' : Ints w b m ys) :
    Calls Try.prog 11 #[.slice a n cap, .slice b m cap'] w fun e w' => e = .returned (.int .i64 (maxDegBound xs ys)) ∧ Drew w w' := by
  have hl := h.len
  have hl' := h'.len
  by_cases hd : isDeg xs = true ∧ isDeg ys = true ∧ 0 < n ∧ 0 < m
  · obtain ⟨hd1, hd2, hn0, hm0⟩ := hd
    have HT := Lib.hid (maxDegBound_yes hd1 hd2 (by omega) (by omega))
    have hsx := isDeg_small hd1
    have hsy := isDeg_small hd2
    obtain ⟨s1, hs1⟩ : ∃ s, s = xs.sum := ⟨_, rfl⟩
    obtain ⟨s2, hs2⟩ : ∃ s, s = ys.sum := ⟨_, rfl⟩
    have r1 := sum_rng hd1
    have r2 := sum_rng hd2
    rw [← hs1] at r1
    rw [← hs2] at r2
    have c1 : ∀ W, Ints W a n xs → Calls Try.prog 49 #[.slice a n cap] W fun e w' => e = .returned (.int .i64 s1) ∧ W = w' := fun W hW => by rw [hs1]; exact sum_any _ _ _ _ _ hW hsx
    have c2 : ∀ W, Ints W b m ys → Calls Try.prog 49 #[.slice b m cap'] W fun e w' => e = .returned (.int .i64 s2) ∧ W = w' := fun W hW => by rw [hs2]; exact sum_any _ _ _ _ _ hW hsy
    have C1 := Lib.hid c1
    have C2 := Lib.hid c2
    obtain ⟨b1, o1, x1, rfl, hc1, hx1, _, _⟩ := h.get hn0
    obtain ⟨b2, o2, x2, rfl, hc2, hx2, _, _⟩ := h'.get hm0
    have hm1 := isDeg_mem hd1 x1 (by rw [← hx1.out]; exact getD_mem (by omega))
    have hm2 := isDeg_mem hd2 x2 (by rw [← hx2.out]; exact getD_mem (by omega))
    have HE : Hid (maxDegBound xs ys = min (s1 * x2) (s2 * x1)) := by rw [Hid, HT.out, hx1.out, hx2.out, hs1, hs2]
    have e1 : 0 ≤ s1 * x2 := Int.mul_nonneg (by omega) (by omega)
    have e2 : s1 * x2 ≤ 8 * 8 := Int.mul_le_mul r1.2 hm2.2 (by omega) (by omega)
    have e3 : 0 ≤ s2 * x1 := Int.mul_nonneg (by omega) (by omega)
    have e4 : s2 * x1 ≤ 8 * 8 := Int.mul_le_mul r2.2 hm1.2 (by omega) (by omega)
    have g1 : IntKind.i64.wrap (s1 * x2) = s1 * x2 := IntWalk.i64_in _ (by omega)
    have g2 : IntKind.i64.wrap (s2 * x1) = s2 * x1 := IntWalk.i64_in _ (by omega)
    have z1 : ((n : Int) == 0) = false := by rw [beq_eq_false_iff_ne]; omega
    have z2 : ((m : Int) == 0) = false := by rw [beq_eq_false_iff_ne]; omega
    clear hs1 hs2 c1 c2 hl hl'
    simp only [Nat.add_zero] at hc1 hc2
    go_enter Try.func11, Try.ntmps11
    go_wp2_with fail
    refine (isDeg_impl _ _ _ _ _ h).mono ?_
    rintro e w' ⟨rfl, rfl⟩
    go_wp2_with fail
    refine (isDeg_impl _ _ _ _ _ h').mono ?_
    rintro e w' ⟨rfl, rfl⟩
    go_wp2_with fail
    go_quiet ((go_at_call 49; first | with_reducible exact quiet_same (C1.out _ (h.drewN _)) | with_reducible exact quiet_same (C2.out _ (h'.drewN _))))
    go_wp2
    all_goals
      go_ret
      exact ⟨ret_int (by rw [HE.out]; omega), _, rfl⟩
  · have HE := Lib.hid (show 0 = maxDegBound xs ys by rw [maxDegBound_no (by rw [hl, hl']; exact hd)])
    clear hl hl'
    by_cases hn0 : 0 < n
    · have z1 : ((n : Int) == 0) = false := by rw [beq_eq_false_iff_ne]; omega
      by_cases hm0 : 0 < m
      · have z2 : ((m : Int) == 0) = false := by rw [beq_eq_false_iff_ne]; omega
        by_cases hd1 : isDeg xs = true
        · have hd2 : isDeg ys = false := by simpa [hd1, hn0, hm0] using hd
          clear hd
          go_enter Try.func11, Try.ntmps11
          go_wp2_with fail
          refine (isDeg_impl _ _ _ _ _ h).mono ?_
          rintro e w' ⟨rfl, rfl⟩
          go_wp2_with fail
          refine (isDeg_impl _ _ _ _ _ h').mono ?_
          rintro e w' ⟨rfl, rfl⟩
          go_wp2_with fail
          go_ret
          exact ⟨ret_int HE.out, Drew.refl _⟩
        · replace hd1 : isDeg xs = false := by simpa using hd1
          clear hd
          go_enter Try.func11, Try.ntmps11
          go_wp2_with fail
          refine (isDeg_impl _ _ _ _ _ h).mono ?_
          rintro e w' ⟨rfl, rfl⟩
          go_wp2_with fail
          go_ret
          exact ⟨ret_int HE.out, Drew.refl _⟩
      · have z2 : ((m : Int) == 0) = true := by rw [beq_iff_eq]; omega
        clear hd
        go_enter Try.func11, Try.ntmps11
        go_wp2_with fail
        go_ret
        exact ⟨ret_int HE.out, Drew.refl _⟩
    · have z1 : ((n : Int) == 0) = true := by rw [beq_iff_eq]; omega
      clear hd
      go_enter Try.func11, Try.ntmps11
      go_wp2_with fail
      go_ret
      exact ⟨ret_int HE.out, Drew.refl _⟩

end Go.Proofs.Ytehcjdbljdpmbaa

/- Slices of any element: opened, one element at a time; sums over them. -/
namespace Go.Proofs.Ytehcjdbljdpmbaa
open Go.RowKit
set_option linter.unusedVariables false
set_option linter.unusedSimpArgs false

theorem rS_open {α : Type} {r : RS α} {w : World} {v : Value} {xs : List α} (h : (R.slice r).rep w [v] xs) : ∃ a cap, v = .slice a xs.length cap ∧ xs.length ≤ cap ∧ cap ≤ 9223372036854775807 ∧ Sl r w a xs.length xs := by
  obtain ⟨a, n, cap, hv, h1, h2, hs⟩ := h
  simp at hv
  have := hs.len
  subst this
  exact ⟨a, cap, hv, h1, h2, hs⟩
theorem rS_mk {α : Type} {r : RS α} {w : World} {a : Option Addr} {n cap : Nat} {xs : List α} (h : Sl r w a n xs) (h1 : n ≤ cap) (h2 : cap ≤ 9223372036854775807) : (R.slice r).rep w [.slice a n cap] xs := ⟨a, n, cap, rfl, h1, h2, h⟩
theorem rS_form {α : Type} {r : RS α} {w : World} {cs : List Value} {xs : List α} (h : (R.slice r).rep w cs xs) : ∃ b n c, cs = [.slice b n c] := by
  obtain ⟨a, n, cap, hv, _⟩ := h
  exact ⟨_, _, _, hv⟩
theorem oS_form1 {α : Type} {t : TypeId} {o : OS α} {r : RS α} (hr : Reads o r) {lo hi : Nat} {w : World} {v : Value} {xs : List α} (h : Own (O.slice t o) lo hi w [v] xs) : ∃ b n c, v = .slice b n c := by
  obtain ⟨b, n, c, hv⟩ := rS_form (h.rd (Reads.slice t hr))
  simp at hv
  exact ⟨_, _, _, hv⟩
theorem rS_sl {α : Type} {r : RS α} {w : World} {a : Option Addr} {n c : Nat} {xs : List α} (h : (R.slice r).rep w [.slice a n c] xs) : Sl r w a n xs := by
  obtain ⟨a', n', c', hv, h1, h2, hs⟩ := h
  simp at hv
  obtain ⟨rfl, rfl, rfl⟩ := hv
  exact hs
theorem rS_cap {α : Type} {r : RS α} {w : World} {a : Option Addr} {n c : Nat} {xs : List α} (h : (R.slice r).rep w [.slice a n c] xs) : n ≤ c ∧ c ≤ 9223372036854775807 := by
  obtain ⟨a', n', c', hv, h1, h2, hs⟩ := h
  simp at hv
  obtain ⟨rfl, rfl, rfl⟩ := hv
  exact ⟨h1, h2⟩
theorem rI_ints {w : World} {a : Option Addr} {n c : Nat} {xs : List Int} (h : rI.rep w [.slice a n c] xs) : Ints w a n xs := (rS_sl h).ints
theorem Sl.at {α : Type} {r : RS α} {w : World} {a : Option Addr} {n : Nat} {xs : List α} (h : Sl r w a n xs) {k : Nat} (hk : k < n) :
    ∃ b off cs x, a = some ⟨b, off, none⟩ ∧ Hid (xs[k]? = some x) ∧ r.rep w cs x ∧ ∀ j u, cs[j]? = some u → w.cell? ⟨b, off + (k * r.size + j), none⟩ = some u := by
  have hk' : k < xs.length := by rw [h.len]; exact hk
  obtain ⟨b, off, cs, ha, hrep, hc⟩ := h.elem k _ (List.getElem?_eq_getElem hk')
  exact ⟨b, off, cs, _, ha, List.getElem?_eq_getElem hk', hrep, hc⟩

def sumBy {α : Type} (f : α → Nat) (xs : List α) : Nat := (xs.map f).sum
theorem sumBy_drop {α : Type} (f : α → Nat) {xs : List α} {j : Nat} {x : α} (h : xs[j]? = some x) : sumBy f (xs.drop j) = f x + sumBy f (xs.drop (j + 1)) := by
  obtain ⟨h1, rfl⟩ := List.getElem?_eq_some_iff.1 h
  rw [List.drop_eq_getElem_cons h1]; simp only [sumBy, List.map_cons, List.sum_cons]
theorem sumBy_take {α : Type} (f : α → Nat) {xs : List α} {j : Nat} {x : α} (h : xs[j]? = some x) : sumBy f (xs.take (j + 1)) = sumBy f (xs.take j) + f x := by
  rw [take_snoc' xs j x h]; simp [sumBy]
theorem sumBy_mem {α : Type} (f : α → Nat) {xs : List α} {j : Nat} {x : α} (h : xs[j]? = some x) : f x ≤ sumBy f xs := by
  have h1 := sumBy_drop f h
  have h2 : sumBy f xs = sumBy f (xs.take j) + sumBy f (xs.drop j) := by
    conv => lhs; rw [← List.take_append_drop j xs]
    simp only [sumBy, List.map_append, List.sum_append]
  omega
theorem sumBy_end {α : Type} (f : α → Nat) {xs : List α} {j : Nat} (h : xs.length ≤ j) : sumBy f (xs.drop j) = 0 := by
  rw [List.drop_eq_nil_of_le h]; rfl
theorem sumBy_all {α : Type} (f : α → Nat) {xs : List α} {j : Nat} (h : xs.length ≤ j) : sumBy f (xs.take j) = sumBy f xs := by
  rw [List.take_of_length_le h]

end Go.Proofs.Ytehcjdbljdpmbaa

/- A slice that a loop appends to, while everything else stays. -/
namespace Go.Proofs.Ytehcjdbljdpmbaa
open Go.RowKit
set_option linter.unusedVariables false
set_option linter.unusedSimpArgs false

/-- v is a slice of the call's own: its blocks are lo, or from S on. -/
def Acc {α : Type} (E : TypeId) (o : OS α) (lo S hi : Nat) (w : World) (v : Value) (xs : List α) : Prop :=
  ∃ fp, (O.slice E o).rep w [v] xs fp ∧ fp.Nodup ∧ ∀ k ∈ fp, (k = lo ∨ S ≤ k) ∧ k < hi
theorem Acc.below {α : Type} {E : TypeId} {o : OS α} {lo S hi C : Nat} {w w' : World} {v : Value} {xs : List α} (h : Acc E o lo S hi w v xs) (hb : Below C w w') (hC : hi ≤ C) : Acc E o lo S hi w' v xs := by
  obtain ⟨fp, h1, h2, h3⟩ := h
  exact ⟨fp, (O.slice E o).frame h1 (fun k hk => hb.block k (by have := (h3 k hk).2; omega)), h2, h3⟩
theorem Acc.own {α : Type} {E : TypeId} {o : OS α} {lo S hi hi' B : Nat} {w : World} {v : Value} {xs : List α} (h : Acc E o lo S hi w v xs) (hlo : B ≤ lo) (hS : B ≤ S) (hh : hi ≤ hi') : Own (O.slice E o) B hi' w [v] xs := by
  obtain ⟨fp, h1, h2, h3⟩ := h
  exact ⟨fp, h1, h2, fun k hk => by have := h3 k hk; omega⟩
theorem Acc.of {α : Type} {E : TypeId} {o : OS α} {S hi lo : Nat} {w : World} {v : Value} {xs : List α} (h : Own (O.slice E o) S hi w [v] xs) : Acc E o lo S hi w v xs := by
  obtain ⟨fp, h1, h2, h3⟩ := h
  exact ⟨fp, h1, h2, fun k hk => by have := h3 k hk; omega⟩
theorem Acc.empty {α : Type} {E : TypeId} {o : OS α} {S g hi : Nat} {W : World} (hg : W.heap.size = g) (hh : g < hi) : Acc E o W.heap.size S hi (W.alloc (.cells #[] E)) (.slice (some ⟨g, 0, none⟩) 0 0) [] := by
  subst hg
  obtain ⟨fp, h1, h2, h3⟩ := own_empty_S (E := E) (o := o) (Nat.le_refl W.heap.size)
  exact ⟨fp, h1, h2, fun k hk => by have := h3 k hk; omega⟩
theorem Acc.nil {α : Type} {E : TypeId} {o : OS α} {lo S hi : Nat} {w : World} : Acc E o lo S hi w (.slice none 0 0) [] := by
  obtain ⟨fp, h1, h2, h3⟩ := own_nil_S (E := E) (o := o) (B := 0) (W := w)
  exact ⟨fp, h1, h2, fun k hk => by have := h3 k hk; omega⟩
theorem Acc.form {α : Type} {E : TypeId} {o : OS α} {lo S hi : Nat} {w : World} {v : Value} {xs : List α} (h : Acc E o lo S hi w v xs) : ∃ a cap, v = .slice a xs.length cap := by
  obtain ⟨fp, ⟨v1, css, fps, hv, rfl, hrow, hrows⟩, _⟩ := h
  simp at hv
  subst hv
  obtain ⟨a, cap, rfl, _⟩ := own_form hrow
  exact ⟨a, cap, rfl⟩
theorem Acc.form3 {α : Type} {E : TypeId} {o : OS α} {lo S hi : Nat} {w : World} {v : Value} {xs : List α} (h : Acc E o lo S hi w v xs) : ∃ a n cap, v = .slice a n cap := by
  obtain ⟨a, cap, h⟩ := h.form
  exact ⟨_, _, _, h⟩
theorem Acc.wide {α : Type} {E : TypeId} {o : OS α} {lo S S' hi hi' : Nat} {w : World} {v : Value} {xs : List α} (h : Acc E o lo S hi w v xs) (hS : S' ≤ S) (hh : hi ≤ hi') : Acc E o lo S' hi' w v xs := by
  obtain ⟨fp, h1, h2, h3⟩ := h
  exact ⟨fp, h1, h2, fun k hk => by have := h3 k hk; omega⟩
theorem own_int {lo hi : Nat} {w : World} {u : Int} (hu : I64 u) : Own O.int lo hi w [.int .i64 u] u := ⟨[], ⟨rfl, hu, rfl⟩, by simp, by simp⟩
theorem own_str {lo hi : Nat} {w : World} {s : ByteArray} (hs : s.size ≤ 9223372036854775807) : Own O.str lo hi w [.string s] s := ⟨[], ⟨rfl, hs, rfl⟩, by simp, by simp⟩

theorem wpList_acc {α : Type} {T E size bytes : Nat} {z : Value} (hT : Try.prog.underlying T = some (.slice E)) (hE : (Try.prog.info? E).map (fun i => (i.zero, i.size, i.bytes)) = some (some z, size, bytes)) (hz : z.cells.size = size) (hpos : 0 < size) (hby : bytes ≤ 1000)
    {o' : OS α} (hsz : o'.size = size) {lo S hi9 h1 h2 g9 : Nat} {W0 W : World} {ops : Array Oper} {rest : List Oper} {o : Oper} {a : Act} {Q : Exit → Act → World → Prop}
    (s x : Operand) (v : Value) (xs : List α) (c : List Value) (y : α)
    (hown : Acc E o' lo S hi9 W v xs) (hy : Own o' h1 h2 W c y) (hone : ∀ u ∈ c, u.oneCell' = true) (hS1 : S ≤ h1) (hhi : hi9 ≤ h1) (hh : h1 ≤ h2) (hW : h2 ≤ W.heap.size) (ht : Turn lo (lo + 1) W0 W) (hS : W0.heap.size = S) (hlo : lo < S) (hn : xs.length ≤ 100000000) (hg9 : W.heap.size = g9)
    (hgd : o.guard = none) (ho : o.op = .call { callee := .builtin .append, args := #[s, x], argTypes := #[T, T] })
    (hs : a.eval s = v) (hx : a.eval x = .slice (some ⟨g9, 0, none⟩) 1 1)
    (h : ∀ v' w', Acc E o' lo S w'.heap.size w' v' (xs ++ [y]) → Turn lo (lo + 1) W0 w' → W.heap.size < w'.heap.size → wpList Try.prog ops Q rest (a.put o.dst v') w') :
    wpList Try.prog ops Q (o :: rest) a (W.alloc (.cells c.toArray E)) := by
  subst hg9
  obtain ⟨i, hi, hz0, hz1, hz2⟩ := info_parts hE
  obtain ⟨fp, ⟨v1, css, fps, hv, rfl, hrow, hrows⟩, hnd, hlim⟩ := hown
  obtain ⟨fy, hyr, hynd, hylim⟩ := hy
  have hts := ht.size
  simp at hv
  subst hv
  obtain ⟨av, cap, rfl, _⟩ := own_form hrow
  have hclen : c.length = size := by rw [← hsz]; exact o'.len hyr
  rw [hsz] at hrow
  have hnl := List.nodup_append.1 hnd
  have hnew : Below W.heap.size W (W.alloc (.cells c.toArray E)) := (Below.refl _ _).alloc (Nat.le_refl _) _
  have hrow1 := own_below hrow hnew (Nat.le_refl _)
  have hrlen := o'.rows_len hrows
  have hlt : ∀ k ∈ bl (.slice av xs.length cap) ++ fps.flatten, k < W.heap.size := fun k hk => by have := (hlim k hk).2; omega
  have hby2 : (xs.length + 1) * bytes ≤ 140737488355328 := Nat.le_trans (Nat.mul_le_mul (show xs.length + 1 ≤ 100000001 by omega) hby) (by decide)
  have hfy : ∀ k ∈ fy, k ∉ bl (.slice av xs.length cap) ++ fps.flatten := fun k hk hm => by have := (hlim k hm).2; have := hylim k hk; omega
  have fin : ∀ (v' : Value) (w' : World), w'.ownsRow 0 E size v' (xs.length + 1) (css.flatten ++ c) → (∀ k, k ∈ fps.flatten ++ fy → w'.heap[k]? = W.heap[k]?) → Turn lo (lo + 1) W0 w' → W.heap.size < w'.heap.size →
      (∀ k ∈ bl v', ((k = lo ∨ S ≤ k) ∧ k < w'.heap.size) ∧ k ∉ fps.flatten ∧ k ∉ fy) → wpList Try.prog ops Q rest (a.put o.dst v') w' := by
    intro v' w' h3 h4 h5 h6 h7
    refine h v' w' ⟨bl v' ++ (fps ++ [fy]).flatten, ⟨v', css ++ [c], fps ++ [fy], rfl, rfl, ?_, ?_⟩, ?_, ?_⟩ h5 h6
    · rw [hsz]; simpa using h3
    · exact o'.rows_snoc (o'.frame hyr (fun k hk => h4 k (List.mem_append_right _ hk))) (o'.rows_frame hrows (fun k hk => h4 k (List.mem_append_left _ hk)))
    · rw [List.flatten_append, List.nodup_append]
      refine ⟨by unfold bl; cases v'.ownBlock <;> simp, ?_, ?_⟩
      · rw [List.nodup_append]
        refine ⟨hnl.2.1, by simpa using hynd, ?_⟩
        intro p hp q hq e
        subst e
        exact hfy p (by simpa using hq) (List.mem_append_right _ hp)
      · intro p hp q hq e
        subst e
        have h8 := h7 p hp
        rcases List.mem_append.1 hq with hq | hq
        · exact h8.2.1 hq
        · exact h8.2.2 (by simpa using hq)
    · intro k hk
      rcases List.mem_append.1 hk with hk | hk
      · exact (h7 k hk).1
      · simp only [List.flatten_append, List.mem_append] at hk
        rcases hk with hk | hk
        · have := hlim k (List.mem_append_right _ hk); omega
        · have := hylim k (by simpa using hk); omega
  by_cases hroom : xs.length + 1 ≤ cap
  · -- there is room: the same block
    rcases hrow1.2 with ⟨hv, _⟩ | ⟨g, cap', cur, hv, hB0, hg, hnc, hcm, hcs, htake⟩
    · simp at hv; omega
    · simp at hv
      obtain ⟨rfl, rfl⟩ := hv
      refine wpList_append_fits _ hgd s x T ho 0 E i size hT hi hz1 g xs.length cap css.flatten hs hrow1 ⟨W.heap.size, 0, none⟩ 1 1 c hx (by omega) (fresh_cells W c E) hone hroom ?_
      intro w' h3 h4
      have hgB := hlim g (by simp [bl, Value.ownBlock])
      refine fin _ w' h3 (fun k hk => ?_) ?_ ?_ ?_
      · have hkl : k < W.heap.size := by
          rcases List.mem_append.1 hk with hk | hk
          · exact hlt k (List.mem_append_right _ hk)
          · have := hylim k hk; omega
        rw [h4.block k (by simp; omega) ?_, Below.heap_alloc W _ k hkl]
        intro e
        simp at e
        subst e
        rcases List.mem_append.1 hk with hk | hk
        · exact hnl.2.2 k (by simp [bl, Value.ownBlock]) k hk rfl
        · exact hfy k hk (by simp [bl, Value.ownBlock])
      · refine ⟨h4.os.trans ht.os, h4.tape.trans ht.tape, h4.output.trans ht.output, by have := h4.size; simp at this; omega, fun k hk hx => ?_⟩
        rw [h4.block k (by simp; omega) (by intro e; simp at e; omega), Below.heap_alloc W _ k (by omega)]
        exact ht.block k hk hx
      · have := h4.size; simp at this; omega
      · intro k hk
        simp [bl, Value.ownBlock] at hk
        subst hk
        refine ⟨⟨hgB.1, by have := h4.size; simp at this; omega⟩, fun hm => hnl.2.2 k (by simp [bl, Value.ownBlock]) k hm rfl, fun hm => ?_⟩
        exact hfy k hm (by simp [bl, Value.ownBlock])
  · refine wpList_append_grows _ hgd s x T ho E i z size bytes hT hi hz0 hz1 hz2 hz hpos av xs.length cap css.flatten hs ?_ hrow1.1 ?_ ⟨W.heap.size, 0, none⟩ 1 1 c hx (by omega) (fresh_cells W c E) hone (by omega) (by unfold maxLen; omega) hby2 ?_
    · intro e
      subst e
      rcases hrow1.2 with ⟨hv, h0⟩ | ⟨g, cap', cur, hv, _⟩
      · simp at hv; exact ⟨h0, hv.2⟩
      · simp at hv
    · intro b hbv j u hu
      obtain ⟨g, hg, hcell⟩ := own_cell hrow1 j u hu
      rw [hbv] at hg
      simp at hg
      subst hg
      rw [add_zero_addr]
      exact hcell
    · intro v' w' h3 h4
      refine fin v' w' (own_base h3 (Nat.zero_le _)) (fun k hk => ?_) ?_ ?_ ?_
      · have hkl : k < W.heap.size := by
          rcases List.mem_append.1 hk with hk | hk
          · exact hlt k (List.mem_append_right _ hk)
          · have := hylim k hk; omega
        rw [h4.block k (by simp; omega) (by simp), Below.heap_alloc W _ k hkl]
      · refine ⟨h4.os.trans ht.os, h4.tape.trans ht.tape, h4.output.trans ht.output, by have := h4.size; simp at this; omega, fun k hk hx => ?_⟩
        rw [h4.block k (by simp; omega) (by simp), Below.heap_alloc W _ k (by omega)]
        exact ht.block k hk hx
      · have := h4.size; simp at this; omega
      · intro k hk
        have h5 := h3.lt k (by simpa [bl] using hk)
        simp at h5
        refine ⟨⟨by omega, by omega⟩, fun hm => ?_, fun hm => ?_⟩
        · have := hlt k (List.mem_append_right _ hm); omega
        · have := hylim k hm; omega

/-- 'out = append(out, u)' for ints. -/
theorem wpList_accI {lo S hi9 g9 : Nat} {W0 W : World} {ops : Array Oper} {rest : List Oper} {o : Oper} {a : Act} {Q : Exit → Act → World → Prop}
    (s x : Operand) (v : Value) (xs : List Int) (u : Int)
    (hown : Acc 3 O.int lo S hi9 W v xs) (ht : Turn lo (lo + 1) W0 W) (hS : W0.heap.size = S) (hlo : lo < S) (hhi : hi9 ≤ W.heap.size) (hu : I64 u) (hn : xs.length ≤ 100000000) (hg9 : W.heap.size = g9)
    (hgd : o.guard = none) (ho : o.op = .call { callee := .builtin .append, args := #[s, x], argTypes := #[24, 24] })
    (hs : a.eval s = v) (hx : a.eval x = .slice (some ⟨g9, 0, none⟩) 1 1)
    (h : ∀ v' w', Acc 3 O.int lo S w'.heap.size w' v' (xs ++ [u]) → Turn lo (lo + 1) W0 w' → W.heap.size < w'.heap.size → wpList Try.prog ops Q rest (a.put o.dst v') w') :
    wpList Try.prog ops Q (o :: rest) a (W.alloc (.cells #[.int .i64 u] 3)) := by
  have hts := ht.size
  exact wpList_acc Try.underlying24 infoInt rfl (by decide) (by decide) rfl s x v xs [.int .i64 u] u hown (own_int (lo := W.heap.size) (hi := W.heap.size) hu) (by intro z hz; simp at hz; subst hz; rfl) (by omega) hhi (Nat.le_refl _) (Nat.le_refl _) ht hS hlo hn hg9 hgd ho hs hx h

end Go.Proofs.Ytehcjdbljdpmbaa

/- The laws' marks. -/
namespace Go.Proofs.Ytehcjdbljdpmbaa
open Go.RowKit
set_option linter.unusedVariables false
set_option linter.unusedSimpArgs false

/-- The digits of k laid before some text. -/
def mdig : Nat → Nat → List UInt8 → List UInt8
  | 0, _, out => out
  | f + 1, k, out => if k = 0 then out else mdig f (k / 10) (UInt8.ofNat (48 + k % 10) :: out)
def mtext (k : Nat) : ByteArray := ⟨(109 :: mdig 20 k []).toArray⟩

theorem mdig_end {f : Nat} {out : List UInt8} : mdig f 0 out = out := by cases f <;> simp [mdig]

end Go.Proofs.Ytehcjdbljdpmbaa
