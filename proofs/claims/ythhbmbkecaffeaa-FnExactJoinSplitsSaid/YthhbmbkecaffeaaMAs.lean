/- Marks of slices of atoms. Written by a program. -/
import Derived.Test.YthhbmbkecaffeaaMarkG
import Derived.Test.YthhbmbkecaffeaaKAs
namespace Go.Proofs.Ythhbmbkecaffeaa
open Go.RowKit
set_option linter.unusedVariables false
set_option linter.unusedSimpArgs false
set_option synthInstance.maxSize 2000
set_option synthInstance.maxHeartbeats 400000

def cntE_A (x : DA) : Nat := 1 + x.2.length
def mkE_A (k : Int) (x : DA) : DA := (mtext k.toNat, marks (k + 1) x.2.length)

def cnt_As (xs : List DA) : Nat := sumBy cntE_A xs
def mk_As (k : Int) (xs : List DA) : List DA := mkL mkE_A cntE_A k xs

set_option maxHeartbeats 2000000 in
theorem markR_As (a : Option Addr) (n cap : Nat) (xs : List DA) (fp : List Nat) (k : Int) (w : World) (h : oAs.rep w [.slice a n cap] xs fp) (hfp : fp.Nodup)
    (k0 : 1 ≤ k) (k1 : k + cnt_As xs ≤ 1000000000) (hb : bulk_As xs ≤ 100000000) :
    Calls Try.prog 63 #[.slice a n cap, .int .i64 k] w fun e w' => e = .returned (.int .i64 (k + cnt_As xs)) ∧ oAs.rep w' [.slice a n cap] (mk_As k xs) fp ∧ Alt fp w w' := by
  have hl : xs.length = n := oS_len1 h
  have hsm : n ≤ 100000000 := by unfold bulk_As at hb; omega
  have hbs : sumBy bulk_A xs ≤ 100000000 := by unfold bulk_As at hb; omega
  clear hb
  unfold cnt_As at *
  go_enter Try.func63, Try.ntmps63
  go_wp2
  go_loopw [1, 5] (fun q i wr => ∃ j : Nat, j ≤ n ∧ i = .int .i64 j ∧ q = .int .i64 (k + sumBy cntE_A (xs.take j)) ∧ Hid (oAs.rep wr [.slice a n cap] (mkLTo mkE_A cntE_A k xs j) fp) ∧ Alt fp w wr)
    (fun _ i _ => n - (intOf i).toNat)
  case atStart => exact ⟨0, Nat.zero_le _, rfl, by simp [sumBy], Lib.hid (by rw [mkLTo_zero]; exact h), Alt.refl _ _⟩
  case round =>
    obtain ⟨j, hj, rfl, rfl, hown, hk⟩ := hrel
    clear h
    by_cases hlt : j < n
    · obtain ⟨r, hr⟩ : ∃ r, xs[j]? = some r := ⟨_, List.getElem?_eq_getElem (by omega)⟩
      have HLT := Lib.hid (oAs.lt hown.out)
      obtain ⟨g, c, f, pre, post, E, rfl, hgm, hgf, hgl, hrep, hfn, hfs, hpre, hg, hset⟩ := slice_at hown.out hfp (mkLTo_get mkE_A cntE_A k xs j r hr)
      obtain ⟨c0, d0, p0, q0, rfl, rfl, ⟨rfl, hs0, rfl⟩, t1⟩ := hrep
      obtain ⟨a1, n1, rfl⟩ := oS_len t1
      have hgf1 : g ∉ q0 := fun h9 => hgf (by simp [h9])
      simp only [List.nodup_append, List.nil_append, List.append_nil] at hfn
      have hn1 : q0.Nodup := by first | exact hfn | exact hfn.1 | exact hfn.2.1 | exact hfn.2.1.1 | exact hfn.2.1.2.1
      replace hpre : pre.length = j * 2 := hpre
      obtain ⟨q, hq⟩ : ∃ q : Nat, q = sumBy cntE_A (xs.take j) := ⟨_, rfl⟩
      have hq2 := sumBy_take cntE_A hr
      have hle2 := sumBy_le cntE_A hr
      have hcnt : cntE_A r = 1 + r.2.length := rfl
      rw [← hq] at hle2 hq2 ⊢
      rw [hcnt] at hle2 hq2
      have HQ := Lib.hid hq
      have HQ2 := Lib.hid hq2
      have HR := Lib.hid hr
      have HS := Lib.hid hset
      have HP := Lib.hid hpre
      have HL := Lib.hid hl
      have HF := Lib.hid hgf
      replace hg : wr.heap[g]? = some (.cells (pre ++ ([Value.string r.1, Value.slice a1 r.2.length n1] ++ post)).toArray E) := hg
      have HK := Lib.hid hk
      clear hset hown hl hr hq hq2 hcnt hpre hgf hfn hk
      have A0 := Alt.refl (g :: ([] ++ q0)) wr
      have u0_0 : wr.cell? ⟨g, j * 2, none⟩ = some (Value.string r.1) := at_cell hg HP.out (j := 0) rfl
      have u0_1 : wr.cell? ⟨g, j * 2 + 1, none⟩ = some (Value.slice a1 r.2.length n1) := at_cell hg HP.out (j := 1) rfl
      have uf0 := fun i => at_frozen hg i
      have uz0_0 := uf0 (j * 2)
      have uz0_1 := uf0 (j * 2 + 1)
      clear uf0
      go_wp2_with fail
      clear u0_0 u0_1 uz0_0 uz0_1
      refine (markText_int _ _ (by omega) (by omega)).mono ?_
      rintro e w1 ⟨rfl, z1⟩
      have hg1 := (z1.block g (Array.getElem?_eq_some_iff.1 hg).1).trans hg
      have A1 := A0.trans (Alt.below z1)
      replace t1 := oI.frame t1 (fun p9 hp9 => z1.block p9 (oI.lt t1 p9 hp9))
      clear z1
      have u1_0 : w1.cell? ⟨g, j * 2, none⟩ = some (Value.string r.1) := at_cell hg1 HP.out (j := 0) rfl
      have u1_1 : w1.cell? ⟨g, j * 2 + 1, none⟩ = some (Value.slice a1 r.2.length n1) := at_cell hg1 HP.out (j := 1) rfl
      have uf1 := fun i => at_frozen hg1 i
      have uz1_0 := uf1 (j * 2)
      have uz1_1 := uf1 (j * 2 + 1)
      clear uf1
      go_wp2_with fail
      obtain ⟨w2, hw2⟩ : ∃ W, W = w1.setCell ⟨g, j * 2, none⟩ (Value.string (mtext (k + (q : Int)).toNat)) := ⟨_, rfl⟩
      rw [← hw2]
      have hg2 : w2.heap[g]? = some (.cells (pre ++ ([Value.string (mtext (k + (q : Int)).toNat), Value.slice a1 r.2.length n1] ++ post)).toArray E) := by rw [hw2]; exact at_set hg1 HP.out (j := 0) (by simp) _
      have A2 : Alt _ wr w2 := A1.trans (by rw [hw2]; exact Alt.set (by simp) _)
      replace t1 := oI.frame (w' := w2) t1 (fun p9 hp9 => by rw [hw2]; exact Below.heap_setCell _ _ _ _ (fun e => hgf1 ((show p9 = g from e) ▸ hp9)))
      clear u1_0 u1_1 uz1_0 uz1_1 hw2
      refine (markI a1 r.2.length n1 r.2 q0 _ _ t1 (by omega) (by omega) (by omega)).mono ?_
      rintro e w3 ⟨rfl, t1, z3⟩
      have hg3 := (z3.block g hgf1).trans hg2
      have A3 := A2.trans ((Alt.only z3).mono (by simp <;> (intros; simp [*])))
      clear z3
      have u3_0 : w3.cell? ⟨g, j * 2, none⟩ = some (Value.string (mtext (k + (q : Int)).toNat)) := at_cell hg3 HP.out (j := 0) rfl
      have u3_1 : w3.cell? ⟨g, j * 2 + 1, none⟩ = some (Value.slice a1 r.2.length n1) := at_cell hg3 HP.out (j := 1) rfl
      have uf3 := fun i => at_frozen hg3 i
      have uz3_0 := uf3 (j * 2)
      have uz3_1 := uf3 (j * 2 + 1)
      clear uf3
      go_wp2_with fail
      have HO : Hid (oAs.rep w3 [.slice (some ⟨g, 0, none⟩) n cap] (mkLTo mkE_A cntE_A k xs (j + 1)) fp) := by
        have h7 := HS.out w3 (mkE_A (k + (q : Int)) r) [Value.string (mtext (k + (q : Int)).toNat), Value.slice a1 r.2.length n1] ⟨[Value.string (mtext (k + (q : Int)).toNat)], [Value.slice a1 r.2.length n1], [], _, rfl, rfl, ⟨rfl, mtext_size _ (by omega), rfl⟩, t1⟩ hg3 (fun k h8 h9 h10 => A3.block k (HLT.out k h8) (by simp only [List.mem_cons, not_or]; exact ⟨h9, h10⟩))
        rw [HQ.out, mkLTo_step mkE_A cntE_A k xs j r HR.out] at h7
        exact h7
      have hk2 := HK.out.trans (A3.mono (fun k h8 => by
        rcases List.mem_cons.1 h8 with h9 | h9
        · exact h9 ▸ hgm
        · exact hfs k h9))
      clear u3_0 u3_1 uz3_0 uz3_1
      clear t1
      go_roundw
      case rel => exact ⟨j + 1, by omega, by go_num, by rw [HQ2.out]; go_num, HO, hk2⟩
      case measure => simp [intOf]; omega
    · obtain rfl : j = n := by omega
      have HO := hown.out
      rw [mkLTo_all mkE_A cntE_A k xs hl] at HO
      have HO' := Lib.hid HO
      have he : (xs.take j) = xs := List.take_of_length_le (by omega)
      rw [he]
      clear HO hown hl he
      go_wp2
      go_ret
      exact ⟨rfl, HO'.out, hk⟩

theorem mark_As (u : Value) (xs : List DA) (k : Int) (lo hi : Nat) (w : World) (h : Own oAs lo hi w [u] xs) (hh : hi ≤ w.heap.size) (k0 : 1 ≤ k) (k1 : k + cnt_As xs ≤ 1000000000) (hb : bulk_As xs ≤ 100000000) :
    Calls Try.prog 63 #[u, .int .i64 k] w fun e w' => e = .returned (.int .i64 (k + cnt_As xs)) ∧ Own oAs lo hi w' [u] (mk_As k xs) ∧ Turn lo hi w w' := by
  obtain ⟨fp, h1, h2, h3⟩ := h
  obtain ⟨a, cap, hv⟩ := oS_len h1
  simp at hv
  subst hv
  exact (markR_As a _ cap xs fp k w h1 h2 k0 k1 hb).mono fun e w' ⟨he, h4, h5⟩ => ⟨he, ⟨fp, h4, h2, h3⟩, h5.turn h3⟩

theorem cnt_le_As (xs : List DA) : cnt_As xs ≤ 2 * bulk_As xs :=
  sumBy_two (fun x => by simp only [cntE_A, bulk_A, bulk_I, Nat.add_zero]; omega) xs

end Go.Proofs.Ythhbmbkecaffeaa
