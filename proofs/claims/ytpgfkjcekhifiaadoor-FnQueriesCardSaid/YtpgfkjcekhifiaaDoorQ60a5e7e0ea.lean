/- Texts joined for one claim: Sorted, GrpI. -/
import Derived.Test.YtpgfkjcekhifiaaDoorQd392b6cb65
import Derived.Test.YtpgfkjcekhifiaaDoorQade03a00d9
import Derived.Test.YtpgfkjcekhifiaaDoorQe474a92ab8
import Derived.Shelf.SlSortCmp.NoneTotal

/- Contracts: rows sorted, each once (impl.sorted). -/
namespace Go.Proofs.YtpgfkjcekhifiaaDoor
open Go.RowKit Go.Sort
set_option linter.unusedVariables false
set_option linter.unusedSimpArgs false
set_option synthInstance.maxSize 2000
set_option synthInstance.maxHeartbeats 400000

end Go.Proofs.YtpgfkjcekhifiaaDoor

/- Contracts: groups of a table and their counts, by the program. -/
namespace Go.Proofs.YtpgfkjcekhifiaaDoor
open Go.RowKit
set_option linter.unusedVariables false
set_option linter.unusedSimpArgs false
set_option synthInstance.maxSize 2000
set_option synthInstance.maxHeartbeats 400000

/-- A row's block lies in the range that is owned. -/
theorem own_blk {α : Type} {t : TypeId} {o : OS α} {lo hi b off n c : Nat} {w : World} {xs : List α} (h : Own (O.slice t o) lo hi w [.slice (some ⟨b, off, none⟩) n c] xs) : lo ≤ b ∧ b < hi := by
  obtain ⟨fp, ⟨v, css, fps, hv, rfl, _, _⟩, _, hb⟩ := h
  simp at hv
  subst hv
  exact hb b (by simp [bl, Value.ownBlock])
/-- A row that has been read stays where only other blocks turn. -/
theorem row_keep {lo hi lo' hi' b off n c j m c' : Nat} {w w' : World} {r : Option Addr} {rows : List (List Int)} {xs : List Int} (h : Own oII lo hi w [.slice (some ⟨b, off, none⟩) n c] rows) (hc : w.cell? ⟨b, off + j, none⟩ = some (.slice r m c')) (hj : j < n) (hx : rows[j]? = some xs)
    (ht : Turn lo' hi' w w') (hd : hi ≤ lo' ∨ hi' ≤ lo) : Ints w' r m xs := by
  have hb := own_blk h
  have hlt := cell_lt hc
  simp only at hlt
  obtain ⟨b1, o1, r1, m1, q1, x1, ha, hc1, hx1, hi1, _⟩ := (rS_sl ((h.turn ht hd).rd reads_II)).row hj
  simp at ha
  obtain ⟨rfl, rfl⟩ := ha
  rw [ht.cell (p := ⟨b, off + j, none⟩) hlt (by simp only []; omega), hc] at hc1
  simp at hc1
  obtain ⟨rfl, rfl, rfl⟩ := hc1
  have := hx1.out
  rw [hx] at this
  obtain rfl := Option.some.inj this
  exact hi1
theorem bulk_sel {rows : List (List Int)} {cols : List Int} (h1 : rows.length ≤ 8) (h2 : cols.length ≤ 3) : bulk_II (selRows rows cols) ≤ 100 := by
  have h3 : sumBy bulk_I (selRows rows cols) ≤ (selRows rows cols).length * 3 := sumBy_bound (fun r hr => by
    simp only [selRows, List.mem_map] at hr
    obtain ⟨x, _, rfl⟩ := hr
    have := sel_len x cols
    unfold bulk_I; omega)
  rw [selRows_len] at h3
  unfold bulk_II
  rw [selRows_len]
  omega
/-- The counts on the way: those of the first j rows, then c, then noughts. -/
def cl (gs all : List (List Int)) (n j c : Nat) : List Int := countsOf (gs.take j) all ++ ((c : Int) :: List.replicate (n - (j + 1)) 0)
theorem cl_start {gs all : List (List Int)} {n j : Nat} (h : j < n) : countsOf (gs.take j) all ++ List.replicate (n - j) 0 = cl gs all n j 0 := by
  rw [cl, show n - j = (n - (j + 1)) + 1 by omega, List.replicate_succ]; rfl
theorem cl_pos {gs all : List (List Int)} {n j : Nat} (hl : gs.length = n) (h : j < n) : (countsOf (gs.take j) all).length = j := by
  rw [countsOf_len, List.length_take]; omega
theorem cl_len {gs all : List (List Int)} {n j c : Nat} (hl : gs.length = n) (h : j < n) : (cl gs all n j c).length = n := by
  rw [cl, List.length_append, cl_pos hl h, List.length_cons, List.length_replicate]; omega
theorem cl_get {gs all : List (List Int)} {n j c : Nat} (hl : gs.length = n) (h : j < n) : (cl gs all n j c)[j]? = some (c : Int) := by
  rw [cl, List.getElem?_append_right (by rw [cl_pos hl h]; exact Nat.le_refl _), cl_pos hl h, Nat.sub_self]; rfl
theorem cl_set {gs all : List (List Int)} {n j c : Nat} (hl : gs.length = n) (h : j < n) : (cl gs all n j c).set j ((c : Int) + 1) = cl gs all n j (c + 1) := by
  rw [cl, List.set_append_right _ _ (by rw [cl_pos hl h]; exact Nat.le_refl _), cl_pos hl h, Nat.sub_self]; simp [cl]
theorem cl_end {gs all : List (List Int)} {g : List Int} {n j : Nat} (hg : gs[j]? = some g) : cl gs all n j (cntRow g all) = countsOf (gs.take (j + 1)) all ++ List.replicate (n - (j + 1)) 0 := by
  rw [cl, countsOf_step hg]; simp

end Go.Proofs.YtpgfkjcekhifiaaDoor
