/- Data in memory, by shape: how it reads (RS), and how it is owned, block by block (OS); what a later world keeps of it. -/
import Derived.Test.YtigcagplbihenaaDoorBase
namespace Go.Proofs.YtigcagplbihenaaDoor
open Go.RowKit
set_option linter.unusedVariables false
set_option linter.unusedSimpArgs false

/-- A shape that can be read: so many cells, and what they read as. -/
structure RS (α : Type) where
  size : Nat
  rep : World → List Value → α → Prop
  len : ∀ {w cs x}, rep w cs x → cs.length = size
  mono : ∀ {w w' cs x}, rep w cs x → Below w.heap.size w w' → rep w' cs x

/-- A shape that is owned: so many cells, what they read as, and the blocks where it lies. -/
structure OS (α : Type) where
  size : Nat
  rep : World → List Value → α → List Nat → Prop
  len : ∀ {w cs x fp}, rep w cs x fp → cs.length = size
  frame : ∀ {w w' cs x fp}, rep w cs x fp → (∀ k ∈ fp, w'.heap[k]? = w.heap[k]?) → rep w' cs x fp
  lt : ∀ {w cs x fp}, rep w cs x fp → ∀ k ∈ fp, k < w.heap.size

def R.int : RS Int := ⟨1, fun _ cs x => cs = [.int .i64 x] ∧ I64 x, fun h => by rw [h.1]; rfl, fun h _ => h⟩
def R.str : RS ByteArray := ⟨1, fun _ cs s => cs = [.string s] ∧ s.size ≤ 9223372036854775807, fun h => by rw [h.1]; rfl, fun h _ => h⟩
def R.bool : RS Bool := ⟨1, fun _ cs b => cs = [.bool b], fun h => by rw [h]; rfl, fun h _ => h⟩
def R.pair {α β : Type} (a : RS α) (b : RS β) : RS (α × β) :=
  ⟨a.size + b.size, fun w cs x => ∃ c1 c2, cs = c1 ++ c2 ∧ a.rep w c1 x.1 ∧ b.rep w c2 x.2,
    fun ⟨c1, c2, h, h1, h2⟩ => by rw [h, List.length_append, a.len h1, b.len h2],
    fun ⟨c1, c2, h, h1, h2⟩ hb => ⟨c1, c2, h, a.mono h1 hb, b.mono h2 hb⟩⟩

/-- A slice .slice a n cap whose elements read by the shape r as xs. -/
structure Sl {α : Type} (r : RS α) (w : World) (a : Option Addr) (n : Nat) (xs : List α) : Prop where
  len : xs.length = n
  small : n ≤ 9223372036854775807
  elem : ∀ i x, xs[i]? = some x → ∃ b off cs, a = some ⟨b, off, none⟩ ∧ r.rep w cs x ∧ ∀ j u, cs[j]? = some u → w.cell? ⟨b, off + (i * r.size + j), none⟩ = some u

theorem Sl.below {α : Type} {r : RS α} {w w' : World} {a : Option Addr} {n : Nat} {xs : List α} (h : Sl r w a n xs) (hb : Below w.heap.size w w') : Sl r w' a n xs :=
  ⟨h.len, h.small, fun i x hx => by
    obtain ⟨b, off, cs, ha, hr, hc⟩ := h.elem i x hx
    refine ⟨b, off, cs, ha, r.mono hr hb, fun j u hu => ?_⟩
    have := hc j u hu
    rw [hb.cell (p := ⟨b, off + (i * r.size + j), none⟩) (cell_lt this)]
    exact this⟩
theorem Sl.drew {α : Type} {r : RS α} {w w' : World} {a : Option Addr} {n : Nat} {xs : List α} (h : Sl r w a n xs) (hd : Drew w w') : Sl r w' a n xs := h.below (hd.below _)
theorem Sl.drewN {α : Type} {r : RS α} {w : World} {a : Option Addr} {n : Nat} {xs : List α} (h : Sl r w a n xs) (m : Nat) : Sl r (w.drewN m) a n xs := h.drew ⟨m, rfl⟩
def R.slice {α : Type} (r : RS α) : RS (List α) :=
  ⟨1, fun w cs xs => ∃ a n cap, cs = [.slice a n cap] ∧ n ≤ cap ∧ cap ≤ 9223372036854775807 ∧ Sl r w a n xs, fun ⟨_, _, _, h, _⟩ => by rw [h]; rfl,
    fun ⟨a, n, cap, h, h1, h2, hs⟩ hb => ⟨a, n, cap, h, h1, h2, hs.below hb⟩⟩

/-- A slice of ints, both ways. -/
theorem Ints.sl {w : World} {a : Option Addr} {n : Nat} {xs : List Int} (h : Ints w a n xs) : Sl R.int w a n xs :=
  ⟨h.len, h.small, fun i x hx => by
    have hi : i < n := by rw [← h.len]; exact (List.getElem?_eq_some_iff.1 hx).1
    obtain ⟨b, off, ha, hc⟩ := h.cell i hi
    have e : xs.getD i 0 = x := by rw [List.getD_eq_getElem?_getD, hx]; rfl
    rw [e] at hc
    refine ⟨b, off, [.int .i64 x], ha, ⟨rfl, h.rng x (List.mem_of_getElem? hx)⟩, fun j u hu => ?_⟩
    cases j with
    | zero => simp at hu; subst hu; simpa [R.int] using hc
    | succ j => simp at hu⟩
theorem Sl.ints {w : World} {a : Option Addr} {n : Nat} {xs : List Int} (h : Sl R.int w a n xs) : Ints w a n xs :=
  ⟨h.len, h.small, fun i hi => by
    have hx : xs[i]? = some (xs.getD i 0) := by
      rw [List.getD_eq_getElem?_getD, List.getElem?_eq_getElem (by rw [h.len]; exact hi)]; rfl
    obtain ⟨b, off, cs, ha, ⟨rfl, _⟩, hc⟩ := h.elem i _ hx
    exact ⟨b, off, ha, by simpa [R.int] using hc 0 _ rfl⟩, fun x hx => by
    obtain ⟨i, hi, rfl⟩ := List.mem_iff_getElem.1 hx
    obtain ⟨b, off, cs, ha, ⟨_, h2⟩, hc⟩ := h.elem i _ (List.getElem?_eq_getElem hi)
    exact h2⟩
/-- An element of one cell. -/
theorem Sl.get {α : Type} {r : RS α} {w : World} {a : Option Addr} {n : Nat} {xs : List α} (h : Sl r w a n xs) (hr : r.size = 1) {k : Nat} (hk : k < n) :
    ∃ b off v x, a = some ⟨b, off, none⟩ ∧ w.cell? ⟨b, off + k, none⟩ = some v ∧ Hid (xs[k]? = some x) ∧ r.rep w [v] x := by
  have hk' : k < xs.length := by rw [h.len]; exact hk
  obtain ⟨b, off, cs, ha, hrep, hc⟩ := h.elem k _ (List.getElem?_eq_getElem hk')
  have hl := r.len hrep
  rw [hr] at hl
  match cs, hl with
  | [v], _ => exact ⟨b, off, v, _, ha, by simpa [hr] using hc 0 v rfl, List.getElem?_eq_getElem hk', hrep⟩

/-- A slice of slices of ints: one row. -/
theorem Sl.row {w : World} {a : Option Addr} {n : Nat} {xss : List (List Int)} (h : Sl (R.slice R.int) w a n xss) {k : Nat} (hk : k < n) :
    ∃ b off r m c xs, a = some ⟨b, off, none⟩ ∧ w.cell? ⟨b, off + k, none⟩ = some (.slice r m c) ∧ Hid (xss[k]? = some xs) ∧ Ints w r m xs ∧ m ≤ c ∧ c ≤ 9223372036854775807 := by
  obtain ⟨b, off, v, xs, ha, hc, hx, r, m, c, hv, h1, h2, hs⟩ := h.get rfl hk
  simp at hv
  subst hv
  exact ⟨b, off, r, m, c, xs, ha, hc, hx, hs.ints, h1, h2⟩

/-! Owned shapes -/

/-- The block of a slice value, as a list. -/
def bl (v : Value) : List Nat := v.ownBlock.toList

def O.int : OS Int := ⟨1, fun _ cs x fp => cs = [.int .i64 x] ∧ I64 x ∧ fp = [], fun h => by rw [h.1]; rfl, fun h _ => h, fun h k hk => by rw [h.2.2] at hk; cases hk⟩
def O.str : OS ByteArray := ⟨1, fun _ cs s fp => cs = [.string s] ∧ s.size ≤ 9223372036854775807 ∧ fp = [], fun h => by rw [h.1]; rfl, fun h _ => h, fun h k hk => by rw [h.2.2] at hk; cases hk⟩
def O.bool : OS Bool := ⟨1, fun _ cs b fp => cs = [.bool b] ∧ fp = [], fun h => by rw [h.1]; rfl, fun h _ => h, fun h k hk => by rw [h.2] at hk; cases hk⟩
def O.pair {α β : Type} (a : OS α) (b : OS β) : OS (α × β) :=
  ⟨a.size + b.size, fun w cs x fp => ∃ c1 c2 f1 f2, cs = c1 ++ c2 ∧ fp = f1 ++ f2 ∧ a.rep w c1 x.1 f1 ∧ b.rep w c2 x.2 f2,
    fun ⟨c1, c2, f1, f2, h, _, h1, h2⟩ => by rw [h, List.length_append, a.len h1, b.len h2],
    fun ⟨c1, c2, f1, f2, h, hf, h1, h2⟩ hk => ⟨c1, c2, f1, f2, h, hf, a.frame h1 (fun k h => hk k (by rw [hf]; exact List.mem_append_left _ h)), b.frame h2 (fun k h => hk k (by rw [hf]; exact List.mem_append_right _ h))⟩,
    fun ⟨c1, c2, f1, f2, h, hf, h1, h2⟩ k hk => by
      rw [hf] at hk
      rcases List.mem_append.1 hk with hk | hk
      · exact a.lt h1 k hk
      · exact b.lt h2 k hk⟩

/-- Element by element. -/
def OS.rows {α : Type} (o : OS α) (w : World) : List (List Value) → List α → List (List Nat) → Prop
  | [], [], [] => True
  | c :: cs, x :: xs, f :: fs => o.rep w c x f ∧ o.rows w cs xs fs
  | _, _, _ => False
theorem OS.rows_frame {α : Type} (o : OS α) {w w' : World} : ∀ {css : List (List Value)} {xs : List α} {fps : List (List Nat)}, o.rows w css xs fps → (∀ k ∈ fps.flatten, w'.heap[k]? = w.heap[k]?) → o.rows w' css xs fps
  | [], [], [], _, _ => trivial
  | c :: cs, x :: xs, f :: fs, h, hk => ⟨o.frame h.1 (fun k hf => hk k (by simp [hf])), o.rows_frame h.2 (fun k hf => hk k (by simp only [List.flatten_cons, List.mem_append]; exact .inr hf))⟩
theorem OS.rows_lt {α : Type} (o : OS α) {w : World} : ∀ {css : List (List Value)} {xs : List α} {fps : List (List Nat)}, o.rows w css xs fps → ∀ k ∈ fps.flatten, k < w.heap.size
  | [], [], [], _, k, hk => by simp at hk
  | c :: cs, x :: xs, f :: fs, h, k, hk => by
    simp only [List.flatten_cons, List.mem_append] at hk
    rcases hk with hk | hk
    · exact o.lt h.1 k hk
    · exact o.rows_lt h.2 k hk
theorem OS.rows_len {α : Type} (o : OS α) {w : World} : ∀ {css : List (List Value)} {xs : List α} {fps : List (List Nat)}, o.rows w css xs fps → css.length = xs.length ∧ fps.length = xs.length ∧ css.flatten.length = xs.length * o.size
  | [], [], [], _ => by simp
  | c :: cs, x :: xs, f :: fs, h => by
    obtain ⟨h1, h2, h3⟩ := o.rows_len h.2
    have := o.len h.1
    simp [h1, h2, h3, this, Nat.add_mul]
    omega
theorem OS.rows_snoc {α : Type} (o : OS α) {w : World} {c : List Value} {x : α} {f : List Nat} (hx : o.rep w c x f) : ∀ {css : List (List Value)} {xs : List α} {fps : List (List Nat)}, o.rows w css xs fps → o.rows w (css ++ [c]) (xs ++ [x]) (fps ++ [f])
  | [], [], [], _ => ⟨hx, trivial⟩
  | _ :: _, _ :: _, _ :: _, h => ⟨h.1, o.rows_snoc hx h.2⟩
theorem OS.rows_get {α : Type} (o : OS α) {w : World} : ∀ {css : List (List Value)} {xs : List α} {fps : List (List Nat)} (h : o.rows w css xs fps) (i : Nat) (x : α), xs[i]? = some x → ∃ c f, css[i]? = some c ∧ fps[i]? = some f ∧ o.rep w c x f
  | [], [], [], _, i, y, hy => by simp at hy
  | c :: cs, x :: xs, f :: fs, h, 0, y, hy => by simp at hy; subst hy; exact ⟨c, f, rfl, rfl, h.1⟩
  | c :: cs, x :: xs, f :: fs, h, i + 1, y, hy => by simpa using o.rows_get h.2 i y (by simpa using hy)
theorem OS.rows_set {α : Type} (o : OS α) {w : World} : ∀ {css : List (List Value)} {xs : List α} {fps : List (List Nat)} (h : o.rows w css xs fps) (i : Nat) (c : List Value) (x : α) (f : List Nat), css[i]? = some c → fps[i]? = some f → o.rep w c x f → o.rows w css (xs.set i x) fps
  | [], [], [], _, i, _, x, _, h1, _, _ => by simp at h1
  | c :: cs, y :: xs, f :: fs, h, 0, _, x, _, h1, h2, hr => by simp at h1 h2; subst h1 h2; exact ⟨hr, h.2⟩
  | c :: cs, y :: xs, f :: fs, h, i + 1, _, x, _, h1, h2, hr => ⟨h.1, o.rows_set h.2 i _ x _ (by simpa using h1) (by simpa using h2) hr⟩

theorem own_frame {w w' : World} {B e size : Nat} {v : Value} {n : Nat} {us : List Value} (h : w.ownsRow B e size v n us) (hk : ∀ k ∈ bl v, w'.heap[k]? = w.heap[k]?) : w'.ownsRow B e size v n us := by
  refine ⟨h.1, ?_⟩
  rcases h.2 with h2 | ⟨g, cap, cur, rfl, hB, hg, r⟩
  · exact .inl h2
  · exact .inr ⟨g, cap, cur, rfl, hB, by rw [hk g (by simp [bl, Value.ownBlock])]; exact hg, r⟩

def O.slice {α : Type} (t : TypeId) (o : OS α) : OS (List α) :=
  ⟨1, fun w cs xs fp => ∃ v css fps, cs = [v] ∧ fp = bl v ++ fps.flatten ∧ w.ownsRow 0 t o.size v xs.length css.flatten ∧ o.rows w css xs fps,
    fun ⟨_, _, _, h, _⟩ => by rw [h]; rfl,
    fun ⟨v, css, fps, h, hf, h1, h2⟩ hk => ⟨v, css, fps, h, hf, own_frame h1 (fun k hb => hk k (by rw [hf]; exact List.mem_append_left _ hb)),
      o.rows_frame h2 (fun k hb => hk k (by rw [hf]; exact List.mem_append_right _ hb))⟩,
    fun ⟨v, css, fps, h, hf, h1, h2⟩ k hk => by
      rw [hf] at hk
      rcases List.mem_append.1 hk with hk | hk
      · exact (h1.lt k (by simpa [bl] using hk)).2
      · exact o.rows_lt h2 k hk⟩

/-- What is owned, between two numbers of blocks, no block twice. -/
def Own {α : Type} (o : OS α) (lo hi : Nat) (w : World) (cs : List Value) (x : α) : Prop := ∃ fp, o.rep w cs x fp ∧ fp.Nodup ∧ ∀ k ∈ fp, lo ≤ k ∧ k < hi

theorem Own.below {α : Type} {o : OS α} {lo hi C : Nat} {w w' : World} {cs : List Value} {x : α} (h : Own o lo hi w cs x) (hb : Below C w w') (hC : hi ≤ C) : Own o lo hi w' cs x := by
  obtain ⟨fp, h1, h2, h3⟩ := h
  exact ⟨fp, o.frame h1 (fun k hk => hb.block k (by have := h3 k hk; omega)), h2, h3⟩
theorem Own.kept {α : Type} {o : OS α} {lo hi lo' hi' : Nat} {w w' : World} {cs : List Value} {x : α} (h : Own o lo hi w cs x) (hk : Kept lo' hi' w w') (hd : hi ≤ lo' ∨ hi' ≤ lo) : Own o lo hi w' cs x := by
  obtain ⟨fp, h1, h2, h3⟩ := h
  exact ⟨fp, o.frame h1 (fun k hk' => hk.block k (by have := h3 k hk'; omega)), h2, h3⟩
theorem Own.mono {α : Type} {o : OS α} {lo hi lo' hi' : Nat} {w : World} {cs : List Value} {x : α} (h : Own o lo hi w cs x) (h1 : lo' ≤ lo) (h2 : hi ≤ hi') : Own o lo' hi' w cs x := by
  obtain ⟨fp, a, b, c⟩ := h
  exact ⟨fp, a, b, fun k hk => by have := c k hk; omega⟩

/-- What is owned reads. -/
def Reads {α : Type} (o : OS α) (r : RS α) : Prop := o.size = r.size ∧ ∀ {w cs x fp}, o.rep w cs x fp → r.rep w cs x
theorem Reads.int : Reads O.int R.int := ⟨rfl, fun h => ⟨h.1, h.2.1⟩⟩
theorem Reads.str : Reads O.str R.str := ⟨rfl, fun h => ⟨h.1, h.2.1⟩⟩
theorem Reads.bool : Reads O.bool R.bool := ⟨rfl, fun h => h.1⟩
theorem Reads.pair {α β : Type} {a : OS α} {b : OS β} {c : RS α} {d : RS β} (h : Reads a c) (k : Reads b d) : Reads (O.pair a b) (R.pair c d) :=
  ⟨by show a.size + b.size = c.size + d.size; rw [h.1, k.1], fun ⟨c1, c2, _, _, h1, _, h2, h3⟩ => ⟨c1, c2, h1, h.2 h2, k.2 h3⟩⟩
theorem flatten_get {α : Type} (o : OS α) {w : World} : ∀ {css : List (List Value)} {xs : List α} {fps : List (List Nat)} (h : o.rows w css xs fps) (i j : Nat) (c : List Value) (u : Value), css[i]? = some c → c[j]? = some u → css.flatten[i * o.size + j]? = some u
  | [], [], [], _, i, j, c, u, hc, hu => by simp at hc
  | c :: cs, x :: xs, f :: fs, h, 0, j, _, u, hc, hu => by
    simp at hc
    subst hc
    simp only [List.flatten_cons, Nat.zero_mul, Nat.zero_add]
    rw [List.getElem?_append_left (List.getElem?_eq_some_iff.1 hu).1]
    exact hu
  | c :: cs, x :: xs, f :: fs, h, i + 1, j, _, u, hc, hu => by
    have hl := o.len h.1
    simp only [List.flatten_cons]
    rw [List.getElem?_append_right (by rw [hl, Nat.add_mul]; omega), hl, show (i + 1) * o.size + j - o.size = i * o.size + j by rw [Nat.add_mul]; omega]
    exact flatten_get o h.2 i j _ u (by simpa using hc) hu
theorem own_cell {w : World} {B e size : Nat} {a : Option Addr} {cap n : Nat} {us : List Value} (h : w.ownsRow B e size (.slice a n cap) n us) (i : Nat) (u : Value) (hu : us[i]? = some u) :
    ∃ g, a = some ⟨g, 0, none⟩ ∧ w.cell? ⟨g, i, none⟩ = some u := by
  have hi : i < n * size := by rw [← h.1]; exact (List.getElem?_eq_some_iff.1 hu).1
  have h' := h
  rcases h'.2 with ⟨hv, rfl⟩ | ⟨g, c, cur, hv, hB, hg, hn, hc, _⟩
  · simp at hi
  · simp at hv
    obtain ⟨rfl, rfl⟩ := hv
    exact ⟨g, rfl, by rw [h.cellAt i hi]; exact hu⟩
theorem own_cap {w : World} {B e size : Nat} {a : Option Addr} {cap n : Nat} {us : List Value} (h : w.ownsRow B e size (.slice a n cap) n us) : n ≤ cap ∧ cap ≤ 9223372036854775807 := by
  rcases h.2 with ⟨hv, rfl⟩ | ⟨g, c, cur, hv, hB, hg, hn, hc, _⟩
  · simp at hv; omega
  · simp at hv
    obtain ⟨rfl, rfl⟩ := hv
    exact ⟨hn, by unfold maxLen at hc; omega⟩
theorem Reads.slice {α : Type} {o : OS α} {r : RS α} (t : TypeId) (h : Reads o r) : Reads (O.slice t o) (R.slice r) := by
  refine ⟨rfl, ?_⟩
  rintro w cs xs fp ⟨v, css, fps, rfl, rfl, h1, h2⟩
  obtain ⟨a, cap, rfl, hn, _⟩ := own_form h1
  refine ⟨a, xs.length, cap, rfl, (own_cap h1).1, (own_cap h1).2, rfl, hn, fun i x hx => ?_⟩
  obtain ⟨c, f, hc, hf, hr⟩ := o.rows_get h2 i x hx
  have hlen := o.len hr
  have key : ∀ j u, c[j]? = some u → ∃ g, a = some ⟨g, 0, none⟩ ∧ w.cell? ⟨g, i * r.size + j, none⟩ = some u := fun j u hu => by
    rw [← h.1]
    exact own_cell h1 _ _ (flatten_get o h2 i j c u hc hu)
  obtain ⟨g, ha⟩ : ∃ g, a = some ⟨g, 0, none⟩ := by
    rcases h1.2 with ⟨hv, h0⟩ | ⟨g, c, cur, hv, _⟩
    · have := (List.getElem?_eq_some_iff.1 hx).1; omega
    · simp at hv; exact ⟨g, hv.1⟩
  refine ⟨g, 0, c, ha, h.2 hr, fun j u hu => ?_⟩
  obtain ⟨g', ha', hc'⟩ := key j u hu
  rw [ha] at ha'
  simp at ha'
  subst ha'
  simpa using hc'

end Go.Proofs.YtigcagplbihenaaDoor
