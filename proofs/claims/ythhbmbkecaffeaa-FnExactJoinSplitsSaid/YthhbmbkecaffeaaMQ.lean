/- Marks of queries. Written by a program. -/
import Derived.Test.YthhbmbkecaffeaaMAs
import Derived.Test.YthhbmbkecaffeaaKQ
namespace Go.Proofs.Ythhbmbkecaffeaa
open Go.RowKit
set_option linter.unusedVariables false
set_option linter.unusedSimpArgs false
set_option synthInstance.maxSize 2000
set_option synthInstance.maxHeartbeats 400000

def cnt_Q (x : DQ) : Nat := cnt_As x.2
def mk_Q (k : Int) (x : DQ) : DQ := (x.1, mk_As k x.2)
theorem cnt_le_Q (x : DQ) : cnt_Q x ≤ 2 * bulk_Q x := by
  have h1 := cnt_le_As x.2
  simp only [cnt_Q, bulk_Q]; omega

set_option maxHeartbeats 1000000 in
theorem mark_Q (us : List Value) (x : DQ) (k : Int) (lo hi : Nat) (w : World) (h : Own oQ lo hi w us x) (hh : hi ≤ w.heap.size) (k0 : 1 ≤ k) (k1 : k + cnt_Q x ≤ 1000000000) (hb : bulk_Q x ≤ 100000000) :
    Calls Try.prog 22 #[.agg us.toArray, .int .i64 k] w fun e w' => e = .returned (.int .i64 (k + cnt_Q x)) ∧ Own oQ lo hi w' us (mk_Q k x) ∧ Turn lo hi w w' := by
  obtain ⟨fp, hrep, hfn, hfr⟩ := h
  obtain ⟨c0, d0, p0, q0, rfl, rfl, ⟨rfl, hs0, rfl⟩, t1⟩ := hrep
  obtain ⟨a1, n1, rfl⟩ := oS_len t1
  have HN := Lib.hid hfn
  have HFR := Lib.hid hfr
  simp only [List.nodup_append, List.nil_append, List.append_nil] at hfn
  have hn1 : q0.Nodup := by first | exact hfn | exact hfn.1 | exact hfn.2.1 | exact hfn.2.1.1 | exact hfn.2.1.2.1
  have hlt1 : ∀ p9, p9 ∈ q0 → p9 < w.heap.size := fun p9 hp9 => by have := hfr p9 (by simp [hp9]); omega
  simp only [cnt_Q, bulk_Q] at *
  clear hfn hfr
  go_enter Try.func22, Try.ntmps22
  obtain ⟨w1, hw1⟩ : ∃ W, W = w.alloc (.cells #[.int .i64 x.1, .slice a1 x.2.length n1] 29) := ⟨_, rfl⟩
  have z1 : Below w.heap.size w w1 := by rw [hw1]; exact (Below.refl _ _).alloc (Nat.le_refl _) _
  have A1 := Alt.below (fp := [] ++ q0) z1
  have c1 : w1.cell? ⟨w.heap.size, 1, none⟩ = some (.slice a1 x.2.length n1) := by rw [hw1]; exact box_cell (Below.refl _ _) rfl
  replace t1 := oAs.frame t1 (fun p9 hp9 => z1.block p9 (hlt1 p9 hp9))
  have hz1 := z1.size
  go_wp2_with fail
  rw [← hw1]
  clear hw1 z1
  refine (markR_As a1 x.2.length n1 x.2 q0 _ _ t1 hn1 (by omega) (by omega) (by omega)).mono ?_
  rintro e w2 ⟨rfl, t1, z2⟩
  have A2 := A1.trans (z2.mono (fq := [] ++ q0) (fun p9 hp9 => by simp [hp9]))
  clear z2
  have HR : Hid (Own oQ lo hi w2 [.int .i64 x.1, .slice a1 x.2.length n1] (mk_Q k x) ∧ Turn lo hi w w2) := ⟨⟨_, ⟨[.int .i64 x.1], [.slice a1 x.2.length n1], [], _, rfl, rfl, ⟨rfl, hs0, rfl⟩, t1⟩, HN.out, HFR.out⟩, A2.turn HFR.out⟩
  clear t1 A1 A2
  go_wp2_with fail
  go_ret
  exact ⟨ret_int (by simp only [cnt_I, cnt_II] <;> omega), HR.out⟩

end Go.Proofs.Ythhbmbkecaffeaa
