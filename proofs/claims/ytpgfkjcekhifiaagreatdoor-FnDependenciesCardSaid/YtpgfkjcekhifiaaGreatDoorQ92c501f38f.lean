/- Texts joined for one claim: AccR, Draw, Two, LawB, Many, SameR. -/
import Derived.Test.YtpgfkjcekhifiaaGreatDoorQe58ef1fdfa
import Derived.Test.YtpgfkjcekhifiaaGreatDoorQ54e7358e31
import Derived.Test.YtpgfkjcekhifiaaGreatDoorQ4832205da8
import Derived.Test.YtpgfkjcekhifiaaGreatDoorQ773e0f5bcd
import Derived.Test.YtpgfkjcekhifiaaGreatDoorQ6748bab5ad
import Derived.Maps.AppendAt

namespace Go.Proofs.YtpgfkjcekhifiaaGreatDoor

open Go.RowKit

set_option linter.unusedVariables false

set_option linter.unusedSimpArgs false

theorem run_acc {α : Type} {T E size bytes : Nat} {z : Value} (hT : Tryz.prog.underlying T = some (.slice E)) (hE : (Tryz.prog.info? E).map (fun i => (i.zero, i.size, i.bytes)) = some (some z, size, bytes)) (hz : z.cells.size = size) (hpos : 0 < size) (hby : bytes ≤ 1000)
    {o' : OS α} (hsz : o'.size = size) {la lo S hi9 h1 h2 : Nat} {W0 W W1 : World} (ty : TypeId)
    (v : Value) (xs : List α) (c : List Value) (y : α)
    (hown : Acc E o' la S hi9 W v xs) (hy : Own o' h1 h2 W c y) (hone : ∀ u ∈ c, u.oneCell' = true) (hS1 : S ≤ h1) (hhi : hi9 ≤ h1) (hh : h1 ≤ h2) (hW : h2 ≤ W.heap.size) (ht : Turn lo (lo + 1) W0 W) (hS : W0.heap.size = S) (hla : la = lo ∨ S ≤ la) (hlW : la ≤ W.heap.size) (hn : xs.length ≤ 100000000)
    (hW1 : W1 = W.alloc (.cells c.toArray E)) :
    ∃ v' w', (Builtin.append_ #[T, T] ty #[v, .slice (some ⟨W.heap.size, 0, none⟩) 1 1]).run Tryz.prog W1 = .ok v' w' ∧ Acc E o' la S w'.heap.size w' v' (xs ++ [y]) ∧ Turn lo (lo + 1) W0 w' ∧ W.heap.size < w'.heap.size ∧ (∀ k, k < S → k ≠ la → w'.heap[k]? = W.heap[k]?) := by
  subst hW1
  obtain ⟨i, hi, hz0, hz1, hz2⟩ := info_parts hE
  obtain ⟨fp, ⟨v1, css, fps, hv, rfl, hrow, hrows⟩, hnd, hlim⟩ := hown
  obtain ⟨fy, hyr, hynd, hylim⟩ := hy
  have hts := ht.size
  simp at hv
  subst hv
  have hclen : c.length = size := by rw [← hsz]; exact o'.len hyr
  rw [hsz] at hrow
  have hnl := List.nodup_append.1 hnd
  have hnew : Below W.heap.size W (W.alloc (.cells c.toArray E)) := (Below.refl _ _).alloc (Nat.le_refl _) _
  have hrow1 := own_below hrow hnew (Nat.le_refl _)
  have hlt : ∀ k ∈ bl v ++ fps.flatten, k < W.heap.size := fun k hk => by have := (hlim k hk).2; omega
  have hby2 : (xs.length + 1) * bytes ≤ 140737488355328 := Nat.le_trans (Nat.mul_le_mul (show xs.length + 1 ≤ 100000001 by omega) hby) (by decide)
  have hfy : ∀ k ∈ fy, k ∉ bl v ++ fps.flatten := fun k hk hm => by have := (hlim k hm).2; have := hylim k hk; omega
  obtain ⟨v', w', hrun, h3, h4, _, h5⟩ := run_append_own_at (P := Tryz.prog) (W.alloc (.cells c.toArray E)) 0 T ty E i z size bytes hT hi hz0 hz1 hz2 hz hpos v xs.length css.flatten hrow1 ⟨W.heap.size, 0, none⟩ 1 1 c (by omega) (fresh_cells W c E) hone (by unfold maxLen; omega) hby2 (Nat.zero_le _)
  have hsz' := h4.size
  simp at hsz'
  have hv' : ∀ k ∈ bl v', k ∈ bl v ∨ k = W.heap.size + 1 := by
    intro k hk
    have hk' : v'.ownBlock = some k := by simpa [bl] using hk
    rcases h5 with h5 | h5
    · left; simp only [bl]; rw [← h5, hk']; simp
    · right
      rw [h5] at hk'
      simp at hk'
      omega
  have hkeep : ∀ k, k < W.heap.size → k ∉ bl v → w'.heap[k]? = W.heap[k]? := by
    intro k hk hn
    rw [h4.block k (by simp; omega) (fun e => hn (by simp only [bl]; rw [← e]; simp)), Below.heap_alloc W _ k hk]
  refine ⟨v', w', hrun, ⟨bl v' ++ (fps ++ [fy]).flatten, ⟨v', css ++ [c], fps ++ [fy], rfl, rfl, ?_, ?_⟩, ?_, ?_⟩, ?_, by omega, fun k hk hx => hkeep k (by omega) (fun hb => by have := hlim k (List.mem_append_left _ hb); omega)⟩
  · rw [hsz]; simpa using h3
  · have hk2 : ∀ k, k ∈ fps.flatten ++ fy → w'.heap[k]? = W.heap[k]? := by
      intro k hk
      rcases List.mem_append.1 hk with hk | hk
      · exact hkeep k (hlt k (List.mem_append_right _ hk)) (fun hb => hnl.2.2 k hb k hk rfl)
      · exact hkeep k (by have := hylim k hk; omega) (fun hb => hfy k hk (List.mem_append_left _ hb))
    exact o'.rows_snoc (o'.frame hyr (fun k hk => hk2 k (List.mem_append_right _ hk))) (o'.rows_frame hrows (fun k hk => hk2 k (List.mem_append_left _ hk)))
  · rw [List.flatten_append, List.nodup_append]
    refine ⟨by unfold bl; cases v'.ownBlock <;> simp, ?_, ?_⟩
    · rw [List.nodup_append]
      refine ⟨hnl.2.1, by simpa using hynd, ?_⟩
      intro p hp q hq e
      subst e
      exact hfy p (by simpa using hq) (List.mem_append_right _ hp)
    · intro p hp q hq e
      subst e
      rcases hv' p hp with h8 | h8
      · rcases List.mem_append.1 hq with hq | hq
        · exact hnl.2.2 p h8 p hq rfl
        · exact hfy p (by simpa using hq) (List.mem_append_left _ h8)
      · rcases List.mem_append.1 hq with hq | hq
        · have := hlt p (List.mem_append_right _ hq); omega
        · have := hylim p (by simpa using hq); omega
  · intro k hk
    rcases List.mem_append.1 hk with hk | hk
    · rcases hv' k hk with h8 | h8
      · have := hlim k (List.mem_append_left _ h8); omega
      · have h9 := (h3.lt k (by simpa [bl] using hk)).2
        omega
    · simp only [List.flatten_append, List.mem_append] at hk
      rcases hk with hk | hk
      · have := hlim k (List.mem_append_right _ hk); omega
      · have := hylim k (by simpa using hk); omega
  · refine ⟨h4.os.trans ht.os, h4.tape.trans ht.tape, h4.output.trans ht.output, by omega, fun k hk hx => ?_⟩
    rw [hkeep k (by omega) (fun hb => ?_)]
    · exact ht.block k hk hx
    · have := hlim k (List.mem_append_left _ hb); omega

theorem Turn.setIn {lo hi : Nat} {a w : World} (h : Turn lo hi a w) {p : Addr} (h1 : lo ≤ p.block) (h2 : p.block < hi) (u : Value) : Turn lo hi a (w.setCell p u) := by
  have hb := Below.setCell (B := p.block) (Below.refl _ w) (Nat.le_refl _) u
  exact ⟨hb.os.trans h.os, hb.tape.trans h.tape, hb.output.trans h.output, Nat.le_trans h.size hb.size, fun k hk hx => by rw [Below.heap_setCell _ _ _ _ (by omega)]; exact h.block k hk hx⟩

theorem Acc.setOut {α : Type} {E : TypeId} {o : OS α} {lo S hi hi' : Nat} {w : World} {v : Value} {xs : List α} (h : Acc E o lo S hi w v xs) {p : Addr} (u : Value) (h1 : p.block < S) (h2 : p.block ≠ lo) (hh : hi ≤ hi') : Acc E o lo S hi' (w.setCell p u) v xs := by
  obtain ⟨fp, h3, h4, h5⟩ := h
  exact ⟨fp, (O.slice E o).frame h3 (fun k hk => Below.heap_setCell _ _ _ _ (by have := h5 k hk; omega)), h4, fun k hk => by have := h5 k hk; omega⟩

end Go.Proofs.YtpgfkjcekhifiaaGreatDoor

namespace Go.Proofs.YtpgfkjcekhifiaaGreatDoor

open Go.RowKit

set_option linter.unusedVariables false

set_option linter.unusedSimpArgs false

set_option synthInstance.maxSize 2000

set_option synthInstance.maxHeartbeats 400000

structure Bytes (w : World) (cb : Nat) (a : Option Addr) (n : Nat) : Prop where
  small : n ≤ 9223372036854775807
  cell : ∀ i, i < n → ∃ b off v, a = some ⟨b, off, none⟩ ∧ b < cb ∧ w.cell? ⟨b, off + i, none⟩ = some (.int .u8 (v : Int)) ∧ 0 ≤ v ∧ v ≤ 255

theorem Bytes.kept {w w' : World} {cb n : Nat} {a : Option Addr} (h : Bytes w cb a n) (hk : ∀ k, k < w.heap.size → k ≠ cb → w'.heap[k]? = w.heap[k]?) : Bytes w' cb a n :=
  ⟨h.small, fun i hi => by
    obtain ⟨b, off, v, ha, hb, hc, hv⟩ := h.cell i hi
    exact ⟨b, off, v, ha, hb, (World.cell?_of_block (a := ⟨b, off + i, none⟩) (hk b (cell_lt hc) (Nat.ne_of_lt hb))).trans hc, hv⟩⟩

structure Cur (w : World) (cb : Nat) (ba : Option Addr) (bn bc : Nat) : Prop where
  ex : ∃ (i : Nat) (h : Int), i ≤ bn ∧ I64 h ∧ w.cell? ⟨cb, 0, none⟩ = some (.slice ba bn bc) ∧ w.cell? ⟨cb, 1, none⟩ = some (.int .i64 (i : Int)) ∧ w.cell? ⟨cb, 2, none⟩ = some (.int .i64 h) ∧ w.frozen? ⟨cb, 1, none⟩ = false ∧ w.frozen? ⟨cb, 2, none⟩ = false
  bytes : Bytes w cb ba bn

theorem and255 (y : Int) : 0 ≤ bits .and .i64 y 255 ∧ bits .and .i64 y 255 ≤ 255 := by
  have h2 : (BitVec.ofInt 64 (255 : Int)).toNat = 255 := by decide
  have hx : (BitVec.ofInt 64 y &&& BitVec.ofInt 64 255).toNat ≤ 255 := by
    rw [BitVec.toNat_and, h2]; exact Nat.and_le_right
  have e : bits .and .i64 y 255 = IntKind.i64.wrap ((BitVec.ofInt 64 y &&& BitVec.ofInt 64 255).toNat : Int) := rfl
  rw [e, IntWalk.i64_in _ (by omega)]
  omega

theorem I64_wrap64 (n : Int) : I64 (wrap64 n) := by unfold I64 wrap64; omega

set_option maxRecDepth 100000 in
set_option maxHeartbeats 4000000 in
theorem l1Byte_any (w : World) (cb : Nat) (ba : Option Addr) (bn bc : Nat) (h : Cur w cb ba bn bc) :
    Calls Tryz.prog 87 #[.pointer (some ⟨cb, 0, none⟩)] w fun e w' => ∃ x : Int, e = .returned (.int .i64 x) ∧ 0 ≤ x ∧ x ≤ 255 ∧ Cur w' cb ba bn bc ∧ Kept cb (cb + 1) w w' := by
  obtain ⟨⟨i, hh, hi, hI, c0, c1, c2, f1, f2⟩, hby⟩ := h
  have hn := hby.small
  obtain ⟨H2, hH2⟩ : ∃ H2, H2 = wrap64 (wrap64 (hh * 6364136223846793005) + 1442695040888963407) := ⟨_, rfl⟩
  have hI2 : I64 H2 := by rw [hH2]; exact I64_wrap64 _
  obtain ⟨W1, hW1⟩ : ∃ W1, W1 = w.setCell ⟨cb, 2, none⟩ (.int .i64 H2) := ⟨_, rfl⟩
  have d0 : W1.cell? ⟨cb, 0, none⟩ = some (.slice ba bn bc) := by rw [hW1]; go_simp
  have d1 : W1.cell? ⟨cb, 1, none⟩ = some (.int .i64 (i : Int)) := by rw [hW1]; go_simp
  have d2 : W1.cell? ⟨cb, 2, none⟩ = some (.int .i64 H2) := by rw [hW1]; go_simp
  have g1 : W1.frozen? ⟨cb, 1, none⟩ = false := by rw [hW1]; go_simp
  have g2 : W1.frozen? ⟨cb, 2, none⟩ = false := by rw [hW1]; go_simp
  have hk1 : Kept cb (cb + 1) w W1 := by rw [hW1]; exact (Kept.refl cb (cb + 1) w).setCell (p := ⟨cb, 2, none⟩) (Nat.le_refl _) (Nat.lt_succ_self _) _
  have hby1 : Bytes W1 cb ba bn := hby.kept (fun k _ hne => by rw [hW1]; exact Below.heap_setCell _ _ _ _ hne)
  have HH2 := Lib.hid hH2
  have HW1 := Lib.hid hW1
  have HBY := Lib.hid hby1
  have HK1 := Lib.hid hk1
  have HI2 := Lib.hid hI2
  clear hH2 hW1 hby hby1 hk1 hI hI2
  go_enter Tryz.func87, Tryz.ntmps87
  go_wp2_with fail
  rw [← HH2.out, ← HW1.out]
  clear c0 c1 c2 f1 f2 HH2 HW1
  refine wp_region_quiet_lit (by kernel_rfl) (by kernel_rfl) ?_
  repeat (go_big_quiet_step (fail))
  refine wpQuiet_nil ?_
  intro W2 hW2
  replace hW2 : Drew W1 W2 := hW2
  obtain ⟨x0, hx0⟩ : ∃ x0, bits .and .i64 (bits .xor .i64 (H2 / 8589934592) (H2 / 35184372088832)) 255 = x0 := ⟨_, rfl⟩
  have hb0 := and255 (bits .xor .i64 (H2 / 8589934592) (H2 / 35184372088832))
  rw [hx0] at hb0 ⊢
  obtain ⟨hb1, hb2⟩ := hb0
  clear hx0
  replace d0 := (hW2.cell _).trans d0
  replace d1 := (hW2.cell _).trans d1
  replace d2 := (hW2.cell _).trans d2
  replace g1 := ((hW2.below (cb + 1)).frozen (p := ⟨cb, 1, none⟩) (Nat.lt_succ_self _)).trans g1
  replace g2 := ((hW2.below (cb + 1)).frozen (p := ⟨cb, 2, none⟩) (Nat.lt_succ_self _)).trans g2
  have hB2 : Bytes W2 cb ba bn := HBY.out.kept (fun k _ _ => by obtain ⟨q, rfl⟩ := hW2; rfl)
  have hK2 := HK1.out.drew hW2
  have HK2 := Lib.hid hK2
  clear hK2 HBY HK1 hW2
  by_cases hlt : i < bn
  · obtain ⟨b, off, v, rfl, hne, hcv, hv0, hv1⟩ := hB2.cell i hlt
    have HB2 := Lib.hid hB2
    have hd9 : decide (i < bn) = true := by simpa using hlt
    have hii : (i : Int) < (bn : Int) := by omega
    clear hB2
    go_wp2_with fail
    refine wp_region_quiet_lit (by kernel_rfl) (by kernel_rfl) ?_
    repeat (go_big_quiet_step (fail))
    refine wpQuiet_nil ?_
    intro W3 hW3
    replace hW3 : Drew W2 W3 := hW3
    replace d0 := (hW3.cell _).trans d0
    replace d1 := (hW3.cell _).trans d1
    replace d2 := (hW3.cell _).trans d2
    replace g1 := ((hW3.below (cb + 1)).frozen (p := ⟨cb, 1, none⟩) (Nat.lt_succ_self _)).trans g1
    replace g2 := ((hW3.below (cb + 1)).frozen (p := ⟨cb, 2, none⟩) (Nat.lt_succ_self _)).trans g2
    replace hcv := (hW3.cell _).trans hcv
    clear hd9
    go_wp2_with fail
    refine wp_region_quiet_lit (by kernel_rfl) (by kernel_rfl) ?_
    repeat (go_big_quiet_step (fail))
    refine wpQuiet_nil ?_
    intro W4 hW4
    replace hW4 : Drew W3 W4 := hW4
    replace d0 := (hW4.cell _).trans d0
    replace d1 := (hW4.cell _).trans d1
    replace d2 := (hW4.cell _).trans d2
    replace g1 := ((hW4.below (cb + 1)).frozen (p := ⟨cb, 1, none⟩) (Nat.lt_succ_self _)).trans g1
    replace g2 := ((hW4.below (cb + 1)).frozen (p := ⟨cb, 2, none⟩) (Nat.lt_succ_self _)).trans g2
    obtain ⟨x1, hx1⟩ : ∃ x1, bits .and .i64 (x0 + v) 255 = x1 := ⟨_, rfl⟩
    have hb3 := and255 (x0 + v)
    rw [hx1] at hb3 ⊢
    obtain ⟨hb4, hb5⟩ := hb3
    have hdd := hW3.trans hW4
    have hK4 := HK2.out.drew hdd
    have hcur : Cur (W4.setCell ⟨cb, 1, none⟩ (.int .i64 ((i : Int) + 1))) cb (some ⟨b, off, none⟩) bn bc := by
      refine ⟨⟨i + 1, H2, by omega, HI2.out, by go_simp, ?_, by go_simp, by go_simp, by go_simp⟩, ?_⟩
      · rw [show ((i + 1 : Nat) : Int) = (i : Int) + 1 by omega]; go_simp
      · exact HB2.out.kept (fun k _ hne => (Below.heap_setCell _ _ _ _ hne).trans (by obtain ⟨q, rfl⟩ := hdd; rfl))
    have hkf := hK4.setCell (p := ⟨cb, 1, none⟩) (Nat.le_refl _) (Nat.lt_succ_self _) (.int .i64 ((i : Int) + 1))
    have HC := Lib.hid hcur
    have HKF := Lib.hid hkf
    clear hx1 hdd hK4 hcur hkf hW3 hW4
    go_wp2_with fail
    go_ret
    exact ⟨x1, rfl, hb4, hb5, HC.out, HKF.out⟩
  · have hd9 : decide (i < bn) = false := by simpa using hlt
    have HB2 := Lib.hid hB2
    clear hB2
    go_wp2_with fail
    refine wp_region_quiet_lit (by kernel_rfl) (by kernel_rfl) ?_
    repeat (go_big_quiet_step (fail))
    refine wpQuiet_nil ?_
    intro W3 hW3
    replace hW3 : Drew W2 W3 := hW3
    replace d0 := (hW3.cell _).trans d0
    replace d1 := (hW3.cell _).trans d1
    replace d2 := (hW3.cell _).trans d2
    replace g1 := ((hW3.below (cb + 1)).frozen (p := ⟨cb, 1, none⟩) (Nat.lt_succ_self _)).trans g1
    replace g2 := ((hW3.below (cb + 1)).frozen (p := ⟨cb, 2, none⟩) (Nat.lt_succ_self _)).trans g2
    have hcur : Cur W3 cb ba bn bc := ⟨⟨i, H2, hi, HI2.out, d0, d1, d2, g1, g2⟩, HB2.out.kept (fun k _ _ => by obtain ⟨q, rfl⟩ := hW3; rfl)⟩
    have HC := Lib.hid hcur
    have HKF := Lib.hid (HK2.out.drew hW3)
    clear hcur hW3
    go_wp2_with fail
    go_ret
    exact ⟨x0, rfl, hb1, hb2, HC.out, HKF.out⟩

set_option maxHeartbeats 1000000 in
theorem l1Below_any (w : World) (cb : Nat) (ba : Option Addr) (bn bc : Nat) (n : Int) (hn : n ≤ 1000000) (h : Cur w cb ba bn bc) :
    Calls Tryz.prog 55 #[.pointer (some ⟨cb, 0, none⟩), .int .i64 n] w fun e w' => ∃ x : Int, e = .returned (.int .i64 x) ∧ 0 ≤ x ∧ (0 < n → x < n) ∧ x ≤ 1000000 ∧ Cur w' cb ba bn bc ∧ Kept cb (cb + 1) w w' := by
  by_cases h0 : n ≤ 0
  · have HC := Lib.hid h
    clear h
    go_enter Tryz.func55, Tryz.ntmps55
    go_wp2_with fail
    go_ret
    exact ⟨0, rfl, by omega, fun h9 => by omega, by omega, HC.out, Kept.refl _ _ _⟩
  by_cases h1 : n ≤ 256
  · have HC := Lib.hid (l1Byte_any w cb ba bn bc h)
    have hpos : 0 < n := by omega
    clear h h0
    go_enter Tryz.func55, Tryz.ntmps55
    go_wp2_with fail
    refine HC.out.mono ?_
    rintro e w1 ⟨x, rfl, hx0, hx1, hc, hk⟩
    have HCC := Lib.hid hc
    have HKK := Lib.hid hk
    have hr0 := Int.emod_nonneg x (show n ≠ 0 by omega)
    have hr1 := Int.emod_lt_of_pos x hpos
    clear hc hk
    go_wp2_with fail
    go_ret
    exact ⟨x % n, rfl, hr0, fun _ => hr1, by omega, HCC.out, HKK.out⟩
  · have hpos : 0 < n := by omega
    have hpos2 : 256 < n := by omega
    have HC := Lib.hid (l1Byte_any w cb ba bn bc h)
    clear h h0 h1
    go_enter Tryz.func55, Tryz.ntmps55
    go_wp2_with fail
    refine HC.out.mono ?_
    rintro e w1 ⟨x, rfl, hx0, hx1, hc, hk1⟩
    have HC2 := Lib.hid (l1Byte_any w1 cb ba bn bc hc)
    have HK1 := Lib.hid hk1
    clear hc hk1 HC
    go_wp2_with fail
    refine HC2.out.mono ?_
    rintro e w2 ⟨y, rfl, hy0, hy1, hc, hk2⟩
    have HC3 := Lib.hid (l1Byte_any w2 cb ba bn bc hc)
    have HK2 := Lib.hid hk2
    clear hc hk2 HC2
    go_wp2_with fail
    refine HC3.out.mono ?_
    rintro e w3 ⟨z, rfl, hz0, hz1, hc, hk3⟩
    have HC4 := Lib.hid (l1Byte_any w3 cb ba bn bc hc)
    have HK3 := Lib.hid hk3
    clear hc hk3 HC3
    go_wp2_with fail
    refine HC4.out.mono ?_
    rintro e w4 ⟨v, rfl, hv0, hv1, hc, hk4⟩
    have HCC := Lib.hid hc
    have HK4 := Lib.hid hk4
    clear hc hk4 HC4
    have hr0 := Int.emod_nonneg (x * 16777216 + y * 65536 + z * 256 + v) (show n ≠ 0 by omega)
    have hr1 := Int.emod_lt_of_pos (x * 16777216 + y * 65536 + z * 256 + v) hpos
    go_wp2_with fail
    go_ret
    exact ⟨(x * 16777216 + y * 65536 + z * 256 + v) % n, rfl, hr0, fun _ => hr1, by omega, HCC.out, ((HK1.out.trans HK2.out).trans HK3.out).trans HK4.out⟩

theorem l1Once_any (w : World) (cb : Nat) (ba : Option Addr) (bn bc : Nat) (n : Int) (hn : n ≤ 1000000) (h : Cur w cb ba bn bc) :
    Calls Tryz.prog 68 #[.pointer (some ⟨cb, 0, none⟩), .int .i64 n] w fun e w' => ∃ b : Bool, e = .returned (.bool b) ∧ Cur w' cb ba bn bc ∧ Kept cb (cb + 1) w w' := by
  have HC := Lib.hid (l1Below_any w cb ba bn bc n hn h)
  clear h
  go_enter Tryz.func68, Tryz.ntmps68
  go_wp2_with fail
  refine HC.out.mono ?_
  rintro e w1 ⟨x, rfl, hx0, hx1, hx2, hc, hk⟩
  have HCC := Lib.hid hc
  have HKK := Lib.hid hk
  clear hc hk hx1
  go_wp2_with fail
  go_ret
  exact ⟨_, rfl, HCC.out, HKK.out⟩

theorem l1PickInt_any (w : World) (cb : Nat) (ba : Option Addr) (bn bc : Nat) (b n c : Nat) (xs : List Int) (hn : n ≤ 1000000) (hpos : 0 < n) (hi : Ints w (some ⟨b, 0, none⟩) n xs) (hb : b ≠ cb) (h : Cur w cb ba bn bc) :
    Calls Tryz.prog 69 #[.pointer (some ⟨cb, 0, none⟩), .slice (some ⟨b, 0, none⟩) n c] w fun e w' => ∃ x : Int, e = .returned (.int .i64 x) ∧ x ∈ xs ∧ Cur w' cb ba bn bc ∧ Kept cb (cb + 1) w w' := by
  have HC := Lib.hid (l1Below_any w cb ba bn bc (n : Int) (by omega) h)
  have HI := Lib.hid hi
  clear h hi
  go_enter Tryz.func69, Tryz.ntmps69
  go_wp2_with fail
  refine HC.out.mono ?_
  rintro e w1 ⟨x, rfl, hx0, hx1, hx2, hc, hk⟩
  obtain ⟨k, rfl⟩ := Int.eq_ofNat_of_zero_le hx0
  have hkn : k < n := by have := hx1 (by omega); omega
  have hin := HI.out.kept hk (fun x hx => by simp at hx; subst hx; simp only []; omega)
  obtain ⟨b9, o9, y, hb9, hcy, hy, _, _⟩ := hin.get hkn
  simp at hb9
  obtain ⟨rfl, rfl⟩ := hb9
  rw [Nat.zero_add] at hcy
  have HM : Hid (y ∈ xs) := Lib.hid (by
    have hl := HI.out.len
    rw [← hy.out, List.getD_eq_getElem?_getD, List.getElem?_eq_getElem (by omega)]
    exact List.getElem_mem _)
  have HCC := Lib.hid hc
  have HKK := Lib.hid hk
  have hk9 : (k : Int) < (n : Int) := by omega
  clear hc hk hx1 hin hy
  go_wp2_with fail
  go_ret
  exact ⟨y, rfl, HM.out, HCC.out, HKK.out⟩

theorem l1Pick_any (w : World) (cb : Nat) (ba : Option Addr) (bn bc : Nat) (b n c : Nat) (xs : List ByteArray) (hn : n ≤ 1000000) (hpos : 0 < n) (hi : ∀ i, i < n → ∃ s, s ∈ xs ∧ w.cell? ⟨b, i, none⟩ = some (.string s)) (hb : b ≠ cb) (h : Cur w cb ba bn bc) :
    Calls Tryz.prog 41 #[.pointer (some ⟨cb, 0, none⟩), .slice (some ⟨b, 0, none⟩) n c] w fun e w' => ∃ x : ByteArray, e = .returned (.string x) ∧ x ∈ xs ∧ Cur w' cb ba bn bc ∧ Kept cb (cb + 1) w w' := by
  have HC := Lib.hid (l1Below_any w cb ba bn bc (n : Int) (by omega) h)
  have HI := Lib.hid hi
  clear h hi
  go_enter Tryz.func41, Tryz.ntmps41
  go_wp2_with fail
  refine HC.out.mono ?_
  rintro e w1 ⟨x, rfl, hx0, hx1, hx2, hc, hk⟩
  obtain ⟨k, rfl⟩ := Int.eq_ofNat_of_zero_le hx0
  have hkn : k < n := by have := hx1 (by omega); omega
  obtain ⟨s, hs, hcs⟩ := HI.out k hkn
  have hcy : w1.cell? ⟨b, k, none⟩ = some (.string s) := (World.cell?_of_block (a := ⟨b, k, none⟩) (hk.block b (by omega))).trans hcs
  have HM := Lib.hid hs
  have HCC := Lib.hid hc
  have HKK := Lib.hid hk
  have hk9 : (k : Int) < (n : Int) := by omega
  clear hc hk hx1 hs hcs
  go_wp2_with fail
  go_ret
  exact ⟨s, rfl, HM.out, HCC.out, HKK.out⟩

theorem and30 (y : Int) : 0 ≤ bits .and .i64 y 1073741823 ∧ bits .and .i64 y 1073741823 ≤ 1073741823 := by
  have h2 : (BitVec.ofInt 64 (1073741823 : Int)).toNat = 1073741823 := by decide
  have hx : (BitVec.ofInt 64 y &&& BitVec.ofInt 64 1073741823).toNat ≤ 1073741823 := by
    rw [BitVec.toNat_and, h2]; exact Nat.and_le_right
  have e : bits .and .i64 y 1073741823 = IntKind.i64.wrap ((BitVec.ofInt 64 y &&& BitVec.ofInt 64 1073741823).toNat : Int) := rfl
  rw [e, IntWalk.i64_in _ (by omega)]
  omega

set_option maxRecDepth 100000 in
set_option maxHeartbeats 1000000 in
theorem l1New_any (w : World) (ba : Option Addr) (bn bc : Nat) (hn : bn ≤ 2000000) (h : Bytes w w.heap.size ba bn) :
    Calls Tryz.prog 25 #[.slice ba bn bc] w fun e w' => ∃ cb, e = .returned (.pointer (some ⟨cb, 0, none⟩)) ∧ Cur w' cb ba bn bc ∧ Below w.heap.size w w' ∧ w.heap.size ≤ cb ∧ cb < w'.heap.size := by
  have HB := Lib.hid h
  clear h
  go_enter Tryz.func25, Tryz.ntmps25
  go_wp2_with fail
  go_loopw [3, 4] (fun q i wr => ∃ (j : Nat) (x : Int), j ≤ bn ∧ j ≤ 4000 ∧ i = .int .i64 j ∧ q = .int .i64 x ∧ 0 ≤ x ∧ x ≤ 1073741823 ∧ w = wr) (fun _ i _ => bn - (intOf i).toNat)
  case atStart => exact ⟨0, _, Nat.zero_le _, by omega, rfl, rfl, by omega, by omega, rfl⟩
  case round =>
    obtain ⟨j, x, hj, hj4, rfl, rfl, hx0, hx1, rfl⟩ := hrel
    by_cases hlt : j < bn ∧ j < 4000
    · obtain ⟨hl1, hl2⟩ := hlt
      obtain ⟨b, off, v, rfl, hne, hc, hv0, hv1⟩ := HB.out.cell j hl1
      have hb := and30 (x * 131 + v + 7)
      obtain ⟨y, hy⟩ : ∃ y, bits .and .i64 (x * 131 + v + 7) 1073741823 = y := ⟨_, rfl⟩
      rw [hy] at hb
      obtain ⟨hb1, hb2⟩ := hb
      go_wp2_with fail
      go_roundw
      case rel => exact ⟨j + 1, y, by omega, by omega, by go_num, rfl, hb1, hb2, trivial⟩
      case measure => simp [intOf]; omega
    · have hcur : Cur (w.alloc (.cells #[.slice ba bn bc, .int .i64 0, .int .i64 x] 84)) w.heap.size ba bn bc :=
        ⟨⟨0, x, Nat.zero_le _, ⟨by omega, by omega⟩, box_cell (Below.refl _ _) rfl, box_cell (Below.refl _ _) rfl, box_cell (Below.refl _ _) rfl, box_frozen (Below.refl _ _), box_frozen (Below.refl _ _)⟩, HB.out.kept (fun k hk _ => Below.heap_alloc w _ k hk)⟩
      have HC := Lib.hid hcur
      clear hcur
      by_cases hjb : j < bn
      · have hj9 : decide (j < 4000) = false := by rw [decide_eq_false_iff_not]; omega
        go_wp2_with fail
        go_ret
        exact ⟨_, rfl, HC.out, (Below.refl _ _).alloc (Nat.le_refl _) _, Nat.le_refl _, by simp⟩
      · go_wp2_with fail
        go_ret
        exact ⟨_, rfl, HC.out, (Below.refl _ _).alloc (Nat.le_refl _) _, Nat.le_refl _, by simp⟩

end Go.Proofs.YtpgfkjcekhifiaaGreatDoor

namespace Go.Proofs.YtpgfkjcekhifiaaGreatDoor

open Go.RowKit

set_option linter.unusedVariables false

set_option linter.unusedSimpArgs false

theorem run_app_fp {α : Type} {T E size bytes : Nat} {z : Value} (hT : Tryz.prog.underlying T = some (.slice E)) (hE : (Tryz.prog.info? E).map (fun i => (i.zero, i.size, i.bytes)) = some (some z, size, bytes)) (hz : z.cells.size = size) (hpos : 0 < size) (hby : bytes ≤ 1000)
    {o' : OS α} (hsz : o'.size = size) {W W1 : World} (ty : TypeId) (v : Value) (xs : List α) (c : List Value) (y : α) (fv fy : List Nat)
    (hv : (O.slice E o').rep W [v] xs fv) (hnd : fv.Nodup) (hyr : o'.rep W c y fy) (hynd : fy.Nodup) (hdis : ∀ k ∈ fy, k ∉ fv) (hone : ∀ u ∈ c, u.oneCell' = true) (hn : xs.length ≤ 100000000) (hW1 : W1 = W.alloc (.cells c.toArray E)) :
    ∃ a n cp w' fv', (Builtin.append_ #[T, T] ty #[v, .slice (some ⟨W.heap.size, 0, none⟩) 1 1]).run Tryz.prog W1 = .ok (.slice a n cp) w' ∧ (O.slice E o').rep w' [.slice a n cp] (xs ++ [y]) fv' ∧ fv'.Nodup ∧ (∀ k ∈ fv', k ∈ fv ∨ k ∈ fy ∨ (W.heap.size < k ∧ k < w'.heap.size)) ∧ W.heap.size < w'.heap.size ∧ (w'.os = W.os ∧ w'.tape = W.tape ∧ w'.output = W.output) ∧ (∀ k, k < W.heap.size → k ∉ fv → w'.heap[k]? = W.heap[k]?) := by
  subst hW1
  obtain ⟨i, hi, hz0, hz1, hz2⟩ := info_parts hE
  have hlt9 := (O.slice E o').lt hv
  obtain ⟨v1, css, fps, hv1, rfl, hrow, hrows⟩ := hv
  simp at hv1
  subst hv1
  have hclen : c.length = size := by rw [← hsz]; exact o'.len hyr
  rw [hsz] at hrow
  have hnl := List.nodup_append.1 hnd
  have hnew : Below W.heap.size W (W.alloc (.cells c.toArray E)) := (Below.refl _ _).alloc (Nat.le_refl _) _
  have hrow1 := own_below hrow hnew (Nat.le_refl _)
  have hylt := o'.lt hyr
  have hby2 : (xs.length + 1) * bytes ≤ 140737488355328 := Nat.le_trans (Nat.mul_le_mul (show xs.length + 1 ≤ 100000001 by omega) hby) (by decide)
  obtain ⟨v', w', hrun, h3, h4, _, h5⟩ := run_append_own_at (P := Tryz.prog) (W.alloc (.cells c.toArray E)) 0 T ty E i z size bytes hT hi hz0 hz1 hz2 hz hpos v xs.length css.flatten hrow1 ⟨W.heap.size, 0, none⟩ 1 1 c (by omega) (fresh_cells W c E) hone (by unfold maxLen; omega) hby2 (Nat.zero_le _)
  obtain ⟨a', cp, rfl, _, _⟩ := own_form h3
  have hsz' := h4.size
  simp at hsz'
  have hv' : ∀ k ∈ bl (.slice a' (xs.length + 1) cp), k ∈ bl v ∨ k = W.heap.size + 1 := by
    intro k hk
    have hk' : (Value.slice a' (xs.length + 1) cp).ownBlock = some k := by simpa [bl] using hk
    rcases h5 with h5 | h5
    · left; simp only [bl]; rw [← h5, hk']; simp
    · right
      rw [h5] at hk'
      simp at hk'
      omega
  have hkeep : ∀ k, k < W.heap.size → k ∉ bl v → w'.heap[k]? = W.heap[k]? := by
    intro k hk hn
    rw [h4.block k (by simp; omega) (fun e => hn (by simp only [bl]; rw [← e]; simp)), Below.heap_alloc W _ k hk]
  refine ⟨a', xs.length + 1, cp, w', bl (.slice a' (xs.length + 1) cp) ++ (fps ++ [fy]).flatten, hrun, ⟨_, css ++ [c], fps ++ [fy], rfl, rfl, ?_, ?_⟩, ?_, ?_, by omega, ⟨h4.os, h4.tape, h4.output⟩, fun k hk hx => hkeep k hk (fun hb => hx (List.mem_append_left _ hb))⟩
  · rw [hsz]; simpa using h3
  · have hk2 : ∀ k, k ∈ fps.flatten ++ fy → w'.heap[k]? = W.heap[k]? := by
      intro k hk
      rcases List.mem_append.1 hk with hk | hk
      · exact hkeep k (hlt9 k (List.mem_append_right _ hk)) (fun hb => hnl.2.2 k hb k hk rfl)
      · exact hkeep k (hylt k hk) (fun hb => hdis k hk (List.mem_append_left _ hb))
    exact o'.rows_snoc (o'.frame hyr (fun k hk => hk2 k (List.mem_append_right _ hk))) (o'.rows_frame hrows (fun k hk => hk2 k (List.mem_append_left _ hk)))
  · rw [List.flatten_append, List.nodup_append]
    refine ⟨by unfold bl; cases (Value.slice a' (xs.length + 1) cp).ownBlock <;> simp, ?_, ?_⟩
    · rw [List.nodup_append]
      refine ⟨hnl.2.1, by simpa using hynd, ?_⟩
      intro p hp q hq e
      subst e
      exact hdis p (by simpa using hq) (List.mem_append_right _ hp)
    · intro p hp q hq e
      subst e
      rcases hv' p hp with h8 | h8
      · rcases List.mem_append.1 hq with hq | hq
        · exact hnl.2.2 p h8 p hq rfl
        · exact hdis p (by simpa using hq) (List.mem_append_left _ h8)
      · rcases List.mem_append.1 hq with hq | hq
        · have := hlt9 p (List.mem_append_right _ hq); omega
        · have := hylt p (by simpa using hq); omega
  · intro k hk
    rcases List.mem_append.1 hk with hk | hk
    · rcases hv' k hk with h8 | h8
      · exact .inl (List.mem_append_left _ h8)
      · have h9 := (h3.lt k (by simpa [bl] using hk)).2
        exact .inr (.inr (by omega))
    · simp only [List.flatten_append, List.mem_append] at hk
      rcases hk with hk | hk
      · exact .inl (List.mem_append_right _ hk)
      · exact .inr (.inl (by simpa using hk))

def Two (lo hi cb : Nat) (w : World) (v u : Value) (xs : List (List Int)) (ys : List Int) : Prop :=
  ∃ fv fu, oII.rep w [v] xs fv ∧ oI.rep w [u] ys fu ∧ fv.Nodup ∧ fu.Nodup ∧ (∀ k ∈ fv, k ∉ fu) ∧ cb ∉ fv ∧ cb ∉ fu ∧ (∀ k ∈ fv, lo ≤ k ∧ k < hi) ∧ (∀ k ∈ fu, lo ≤ k ∧ k < hi)

theorem Two.mono {lo hi hi' cb : Nat} {w : World} {v u : Value} {xs : List (List Int)} {ys : List Int} (h : Two lo hi cb w v u xs ys) (hh : hi ≤ hi') : Two lo hi' cb w v u xs ys := by
  obtain ⟨fv, fu, h1, h2, h3, h4, h5, h6, h7, h8, h9⟩ := h
  exact ⟨fv, fu, h1, h2, h3, h4, h5, h6, h7, fun k hk => by have := h8 k hk; omega, fun k hk => by have := h9 k hk; omega⟩

theorem Two.frame {lo hi cb : Nat} {w w' : World} {v u : Value} {xs : List (List Int)} {ys : List Int} (h : Two lo hi cb w v u xs ys) (hb : ∀ k, lo ≤ k → k < hi → k ≠ cb → w'.heap[k]? = w.heap[k]?) : Two lo hi cb w' v u xs ys := by
  obtain ⟨fv, fu, h1, h2, h3, h4, h5, h6, h7, h8, h9⟩ := h
  exact ⟨fv, fu, oII.frame h1 (fun k hk => hb k (h8 k hk).1 (h8 k hk).2 (fun e => h6 (e ▸ hk))), oI.frame h2 (fun k hk => hb k (h9 k hk).1 (h9 k hk).2 (fun e => h7 (e ▸ hk))), h3, h4, h5, h6, h7, h8, h9⟩

theorem Two.below {lo hi cb C : Nat} {w w' : World} {v u : Value} {xs : List (List Int)} {ys : List Int} (h : Two lo hi cb w v u xs ys) (hb : Below C w w') (hC : hi ≤ C) : Two lo hi cb w' v u xs ys :=
  h.frame fun k _ hk _ => hb.block k (by omega)

theorem Two.recb {lo hi cb cb' : Nat} {w : World} {v u : Value} {xs : List (List Int)} {ys : List Int} (h : Two lo hi cb w v u xs ys) (hc : hi ≤ cb' ∨ cb' < lo) : Two lo hi cb' w v u xs ys := by
  obtain ⟨fv, fu, h1, h2, h3, h4, h5, h6, h7, h8, h9⟩ := h
  exact ⟨fv, fu, h1, h2, h3, h4, h5, fun hk => by have := h8 _ hk; omega, fun hk => by have := h9 _ hk; omega, h8, h9⟩

theorem Two.set {lo hi cb i : Nat} {w : World} {v u : Value} {xs : List (List Int)} {ys : List Int} (h : Two lo hi cb w v u xs ys) (x : Value) : Two lo hi cb (w.setCell ⟨cb, i, none⟩ x) v u xs ys :=
  h.frame fun k _ _ hk => Below.heap_setCell _ _ _ _ hk

theorem Two.fst {lo hi cb : Nat} {w : World} {v u : Value} {xs : List (List Int)} {ys : List Int} (h : Two lo hi cb w v u xs ys) : Own oII lo hi w [v] xs := by
  obtain ⟨fv, fu, h1, h2, h3, h4, h5, h6, h7, h8, h9⟩ := h
  exact ⟨fv, h1, h3, h8⟩

theorem Two.snd {lo hi cb : Nat} {w : World} {v u : Value} {xs : List (List Int)} {ys : List Int} (h : Two lo hi cb w v u xs ys) : Own oI lo hi w [u] ys := by
  obtain ⟨fv, fu, h1, h2, h3, h4, h5, h6, h7, h8, h9⟩ := h
  exact ⟨fu, h2, h4, h9⟩

theorem Two.mk {lo mid hi cb : Nat} {w : World} {v u : Value} {xs : List (List Int)} {ys : List Int} (h : Own oII lo mid w [v] xs) (k : Own oI mid hi w [u] ys) (hc : cb < lo ∨ hi ≤ cb) (h1 : lo ≤ mid) (h2 : mid ≤ hi) : Two lo hi cb w v u xs ys := by
  obtain ⟨fv, a1, a2, a3⟩ := h
  obtain ⟨fu, b1, b2, b3⟩ := k
  exact ⟨fv, fu, a1, b1, a2, b2, fun k hk hk2 => by have := a3 k hk; have := b3 k hk2; omega, fun hk => by have := a3 _ hk; omega, fun hk => by have := b3 _ hk; omega, fun k hk => by have := a3 k hk; omega, fun k hk => by have := b3 k hk; omega⟩

theorem Two.row {lo hi cb h1 h2 : Nat} {W W1 : World} {v u y : Value} {xs : List (List Int)} {ys r : List Int} (ty : TypeId) (h : Two lo hi cb W v u xs ys) (hy : Own oI h1 h2 W [y] r) (hone : y.oneCell' = true) (hh1 : hi ≤ h1) (hh : h1 ≤ h2) (hh2 : h2 ≤ W.heap.size) (hcb : cb < h1) (hlo : lo ≤ hi) (hn : xs.length ≤ 1000000) (hW1 : W1 = W.alloc (.cells #[y] 27)) :
    ∃ a n c w', (Builtin.append_ #[39, 39] ty #[v, .slice (some ⟨W.heap.size, 0, none⟩) 1 1]).run Tryz.prog W1 = .ok (.slice a n c) w' ∧ Two lo w'.heap.size cb w' (.slice a n c) u (xs ++ [r]) ys ∧ Below lo W w' ∧ W.heap.size < w'.heap.size ∧ w'.heap[cb]? = W.heap[cb]? := by
  obtain ⟨fv, fu, a1, a2, a3, a4, a5, a6, a7, a8, a9⟩ := h
  obtain ⟨fy, b1, b2, b3⟩ := hy
  obtain ⟨a, n, c, w', fv', hr, c1, c2, c3, c4, ⟨c5, c6, c7⟩, c8⟩ := run_app_fp (W := W) (W1 := W1) Tryz.underlying39 infoI rfl (by decide) (by decide) rfl ty v xs [y] r fv fy a1 a3 b1 b2 (fun k hk hk2 => by have := b3 k hk; have := a8 k hk2; omega) (by intro z hz; simp at hz; subst hz; exact hone) (by omega) hW1
  have hcbW : cb < W.heap.size := by omega
  refine ⟨a, n, c, w', hr, ⟨fv', fu, c1, oI.frame a2 (fun k hk => c8 k (by have := a9 k hk; omega) (fun hk2 => a5 k hk2 hk)), c2, a4, fun k hk hk2 => ?_, fun hk => ?_, a7, fun k hk => ?_, fun k hk => by have := a9 k hk; omega⟩, ⟨c5, c6, c7, by omega, fun k hk => c8 k (by omega) (fun hk2 => by have := a8 k hk2; omega)⟩, c4, c8 cb hcbW a6⟩
  · have := a9 k hk2
    rcases c3 k hk with h9 | h9 | h9
    · exact a5 k h9 hk2
    · have := b3 k h9; omega
    · omega
  · rcases c3 _ hk with h9 | h9 | h9
    · exact a6 h9
    · have := b3 _ h9; omega
    · omega
  · rcases c3 k hk with h9 | h9 | h9
    · have := a8 k h9; omega
    · have := b3 k h9; omega
    · omega

theorem Two.num {lo hi cb : Nat} {W W1 : World} {v u : Value} {xs : List (List Int)} {ys : List Int} {r : Int} (ty : TypeId) (h : Two lo hi cb W v u xs ys) (hr : I64 r) (hh2 : hi ≤ W.heap.size) (hcb : cb < W.heap.size) (hlo : lo ≤ hi) (hn : ys.length ≤ 1000000) (hW1 : W1 = W.alloc (.cells #[.int .i64 r] 3)) :
    ∃ a n c w', (Builtin.append_ #[27, 27] ty #[u, .slice (some ⟨W.heap.size, 0, none⟩) 1 1]).run Tryz.prog W1 = .ok (.slice a n c) w' ∧ Two lo w'.heap.size cb w' v (.slice a n c) xs (ys ++ [r]) ∧ Below lo W w' ∧ W.heap.size < w'.heap.size ∧ w'.heap[cb]? = W.heap[cb]? := by
  obtain ⟨fv, fu, a1, a2, a3, a4, a5, a6, a7, a8, a9⟩ := h
  obtain ⟨a, n, c, w', fu', hrun, c1, c2, c3, c4, ⟨c5, c6, c7⟩, c8⟩ := run_app_fp (W := W) (W1 := W1) Tryz.underlying27 infoInt rfl (by decide) (by decide) rfl ty u ys [.int .i64 r] r fu [] a2 a4 (o' := O.int) ⟨rfl, hr, rfl⟩ (by simp) (fun k hk => by cases hk) (by intro z hz; simp at hz; subst hz; rfl) (by omega) hW1
  refine ⟨a, n, c, w', hrun, ⟨fv, fu', oII.frame a1 (fun k hk => c8 k (by have := a8 k hk; omega) (fun hk2 => a5 k hk hk2)), c1, a3, c2, fun k hk hk2 => ?_, a6, fun hk => ?_, fun k hk => by have := a8 k hk; omega, fun k hk => ?_⟩, ⟨c5, c6, c7, by omega, fun k hk => c8 k (by omega) (fun hk2 => by have := a9 k hk2; omega)⟩, c4, c8 cb hcb a7⟩
  · have := a8 k hk
    rcases c3 k hk2 with h9 | h9 | h9
    · exact a5 k hk h9
    · cases h9
    · omega
  · rcases c3 _ hk with h9 | h9 | h9
    · exact a7 h9
    · cases h9
    · omega
  · rcases c3 k hk with h9 | h9 | h9
    · have := a9 k h9; omega
    · cases h9
    · omega

theorem wpList_app_run {W W' : World} {ops : Array Oper} {rest : List Oper} {o : Oper} {a : Act} {Q : Exit → Act → World → Prop} {s x : Operand} {t t' ty : TypeId} {vs vx v' : Value}
    (hrun : (Builtin.append_ #[t, t'] ty #[vs, vx]).run Tryz.prog W = .ok v' W') (hty : o.type = ty) (hgd : o.guard = none)
    (ho : o.op = .call { callee := .builtin .append, args := #[s, x], argTypes := #[t, t'] }) (hs : a.eval s = vs) (hx : a.eval x = vx)
    (h : wpList Tryz.prog ops Q rest (a.put o.dst v') W') : wpList Tryz.prog ops Q (o :: rest) a W := by
  refine wpList_plain hgd fun K hK => ?_
  unfold Oper.wp execOp
  simp only [ho, resolve, invoke, builtin, Sem.run_bind, Sem.run_pure, Result.andThen_ok, List.map_toArray, List.map_cons, List.map_nil, hs, hx, hty, hrun]
  exact hK _ _ h

end Go.Proofs.YtpgfkjcekhifiaaGreatDoor

namespace Go.Proofs.YtpgfkjcekhifiaaGreatDoor

open Go.RowKit

set_option linter.unusedVariables false

set_option linter.unusedSimpArgs false

set_option synthInstance.maxSize 2000

set_option synthInstance.maxHeartbeats 400000

theorem big_any (ba : Option Addr) (bn bc : Nat) (w : World) :
    Calls Tryz.prog 4 #[.slice ba bn bc] w fun e w' => e = .returned (.bool (decide (1048576 < bn))) ∧ w = w' := by
  go_enter Tryz.func4, Tryz.ntmps4
  by_cases h : 1048576 < bn
  · have h2 : (bn : Int) > 1048576 := by omega
    go_wp2
    go_ret
    exact ⟨ret_bool (by simp [h]), rfl⟩
  · have h2 : ¬ (bn : Int) > 1048576 := by omega
    go_wp2
    go_ret
    exact ⟨ret_bool (by simp [h]), rfl⟩

set_option maxHeartbeats 1000000 in
theorem sameInts_eq (a b : Option Addr) (n cap cap' : Nat) (xs : List Int) (w : World) (h : Ints w a n xs) (h' : Ints w b n xs) :
    Calls Tryz.prog 7 #[.slice a n cap, .slice b n cap'] w fun e w' => e = .returned (.bool true) ∧ Drew w w' := by
  have hn := h.small
  go_enter Tryz.func7, Tryz.ntmps7
  go_wp2_with fail
  go_loopw [5] (fun i wr => ∃ j : Nat, j ≤ n ∧ i = .int .i64 (j : Int) ∧ Drew w wr) (fun i _ => n - (intOf i).toNat)
  case atStart => exact ⟨0, Nat.zero_le _, rfl, Drew.refl _⟩
  case round =>
    obtain ⟨j, hj, rfl, hdr⟩ := hrel
    by_cases hlt : j < n
    · obtain ⟨b1, o1, x, rfl, hc, hx, hx1, hx2⟩ := h.get hlt
      obtain ⟨b2, o2, y, rfl, hd, hy, hy1, hy2⟩ := h'.get hlt
      obtain rfl : x = y := hx.out.symm.trans hy.out
      have c1 := (hdr.cell ⟨b1, o1 + j, none⟩).trans hc
      have c2 := (hdr.cell ⟨b2, o2 + j, none⟩).trans hd
      have HD := Lib.hid hdr
      clear hc hd hx hy hdr h h'
      go_wp2_with fail
      go_quiet (fail)
      go_wp2_with fail
      go_roundw
      case rel => exact ⟨j + 1, by omega, by go_num, HD.out.step _⟩
      case measure => simp [intOf]; omega
    · go_wp2_with fail
      go_ret
      exact ⟨rfl, hdr⟩

end Go.Proofs.YtpgfkjcekhifiaaGreatDoor

namespace Go.Proofs.YtpgfkjcekhifiaaGreatDoor

open Go.RowKit

set_option linter.unusedVariables false

set_option linter.unusedSimpArgs false

theorem OS.rows_app {α : Type} (o : OS α) {w : World} {cs' : List (List Value)} {ys : List α} {fs' : List (List Nat)} (hy : o.rows w cs' ys fs') : ∀ {css : List (List Value)} {xs : List α} {fps : List (List Nat)}, o.rows w css xs fps → o.rows w (css ++ cs') (xs ++ ys) (fps ++ fs')
  | [], [], [], _ => hy
  | _ :: _, _ :: _, _ :: _, h => ⟨h.1, o.rows_app hy h.2⟩

theorem run_app_many {α : Type} {T E size bytes : Nat} {z : Value} (hT : Tryz.prog.underlying T = some (.slice E)) (hE : (Tryz.prog.info? E).map (fun i => (i.zero, i.size, i.bytes)) = some (some z, size, bytes)) (hz : z.cells.size = size) (hpos : 0 < size) (hby : bytes ≤ 1000)
    {o' : OS α} (hsz : o'.size = size) (hone' : ∀ {W : World} {c : List Value} {y : α} {f : List Nat}, o'.rep W c y f → ∀ u ∈ c, u.oneCell' = true) {W : World} (ty : TypeId) (v : Value) (xs : List α) (g m cu : Nat) (ys : List α) (fv fu : List Nat)
    (hv : (O.slice E o').rep W [v] xs fv) (hnd : fv.Nodup) (hu : (O.slice E o').rep W [.slice (some ⟨g, 0, none⟩) m cu] ys fu) (hynd : fu.Nodup) (hdis : ∀ k ∈ fu, k ∉ fv) (hn : xs.length + ys.length ≤ 100000000) :
    ∃ v' w' fv', (Builtin.append_ #[T, T] ty #[v, .slice (some ⟨g, 0, none⟩) m cu]).run Tryz.prog W = .ok v' w' ∧ (O.slice E o').rep w' [v'] (xs ++ ys) fv' ∧ fv'.Nodup ∧ (∀ k ∈ fv', k ∈ fv ∨ k ∈ fu ∨ (W.heap.size ≤ k ∧ k < w'.heap.size)) ∧ W.heap.size ≤ w'.heap.size ∧ (w'.os = W.os ∧ w'.tape = W.tape ∧ w'.output = W.output) ∧ (∀ k, k < W.heap.size → k ∉ fv → w'.heap[k]? = W.heap[k]?) ∧ (v' = .slice none 0 0 ↔ v = .slice none 0 0 ∧ m = 0) := by
  obtain ⟨i, hi, hz0, hz1, hz2⟩ := info_parts hE
  have hlt9 := (O.slice E o').lt hv
  have hlu9 := (O.slice E o').lt hu
  obtain ⟨v1, css, fps, hv1, rfl, hrow, hrows⟩ := hv
  simp at hv1
  subst hv1
  obtain ⟨u1, cst, fpt, hu1, rfl, hrowu, hrowsu⟩ := hu
  simp at hu1
  subst hu1
  rw [hsz] at hrow hrowu
  obtain ⟨_, _, hform, _⟩ := own_form hrowu
  simp at hform
  have hm : m = ys.length := hform.2.1
  subst hm
  have hnl := List.nodup_append.1 hnd
  have hnu := List.nodup_append.1 hynd
  have hby2 : (xs.length + ys.length) * bytes ≤ 140737488355328 := Nat.le_trans (Nat.mul_le_mul (show xs.length + ys.length ≤ 100000001 by omega) hby) (by decide)
  have hcells : ∀ j u, cst.flatten[j]? = some u → W.cell? ((⟨g, 0, none⟩ : Addr).add j) = some u := fun j u hju => by
    obtain ⟨g2, hg2, hc2⟩ := own_cell hrowu j u hju
    simp at hg2
    subst hg2
    rw [add_zero_addr]
    exact hc2
  have hone : ∀ u ∈ cst.flatten, u.oneCell' = true := by
    intro u hu
    obtain ⟨c, hc, huc⟩ := List.mem_flatten.1 hu
    obtain ⟨i9, hi9, rfl⟩ := List.mem_iff_getElem.1 hc
    have hl9 := o'.rows_len hrowsu
    obtain ⟨c2, f2, h1, h2, h3⟩ := o'.rows_get hrowsu i9 _ (List.getElem?_eq_getElem (by omega))
    rw [List.getElem?_eq_getElem hi9] at h1
    simp at h1
    subst h1
    exact hone' h3 u huc
  obtain ⟨v', w', hrun, h3, h4, h6, h5⟩ := run_append_own_at (P := Tryz.prog) W 0 T ty E i z size bytes hT hi hz0 hz1 hz2 hz hpos v xs.length css.flatten hrow ⟨g, 0, none⟩ ys.length cu cst.flatten hrowu.1 hcells hone (by unfold maxLen; omega) hby2 (Nat.zero_le _)
  have hsz' := h4.size
  have hv' : ∀ k ∈ bl v', k ∈ bl v ∨ k = W.heap.size := by
    intro k hk
    have hk' : v'.ownBlock = some k := by simpa [bl] using hk
    rcases h5 with h5 | h5
    · left; simp only [bl]; rw [← h5, hk']; simp
    · right
      rw [h5] at hk'
      simp at hk'
      omega
  have hkeep : ∀ k, k < W.heap.size → k ∉ bl v → w'.heap[k]? = W.heap[k]? := by
    intro k hk hn
    exact h4.block k hk (fun e => hn (by simp only [bl]; rw [← e]; simp))
  refine ⟨v', w', bl v' ++ (fps ++ fpt).flatten, hrun, ⟨_, css ++ cst, fps ++ fpt, rfl, rfl, ?_, ?_⟩, ?_, ?_, hsz', ⟨h4.os, h4.tape, h4.output⟩, fun k hk hx => hkeep k hk (fun hb => hx (List.mem_append_left _ hb)), h6⟩
  · rw [hsz, List.length_append, List.flatten_append]; exact h3
  · have hk1 : ∀ k, k ∈ fps.flatten → w'.heap[k]? = W.heap[k]? := fun k hk => hkeep k (hlt9 k (List.mem_append_right _ hk)) (fun hb => hnl.2.2 k hb k hk rfl)
    have hk2 : ∀ k, k ∈ fpt.flatten → w'.heap[k]? = W.heap[k]? := fun k hk => hkeep k (hlu9 k (List.mem_append_right _ hk)) (fun hb => hdis k (List.mem_append_right _ hk) (List.mem_append_left _ hb))
    exact o'.rows_app (o'.rows_frame hrowsu hk2) (o'.rows_frame hrows hk1)
  · rw [List.flatten_append, List.nodup_append]
    refine ⟨by unfold bl; cases v'.ownBlock <;> simp, ?_, ?_⟩
    · rw [List.nodup_append]
      refine ⟨hnl.2.1, hnu.2.1, ?_⟩
      intro p hp q hq e
      subst e
      exact hdis p (List.mem_append_right _ hq) (List.mem_append_right _ hp)
    · intro p hp q hq e
      subst e
      rcases hv' p hp with h8 | h8
      · rcases List.mem_append.1 hq with hq | hq
        · exact hnl.2.2 p h8 p hq rfl
        · exact hdis p (List.mem_append_right _ hq) (List.mem_append_left _ h8)
      · rcases List.mem_append.1 hq with hq | hq
        · have := hlt9 p (List.mem_append_right _ hq); omega
        · have := hlu9 p (List.mem_append_right _ hq); omega
  · intro k hk
    rcases List.mem_append.1 hk with hk | hk
    · rcases hv' k hk with h8 | h8
      · exact .inl (List.mem_append_left _ h8)
      · have h9 := (h3.lt k (by simpa [bl] using hk)).2
        exact .inr (.inr (by omega))
    · simp only [List.flatten_append, List.mem_append] at hk
      rcases hk with hk | hk
      · exact .inl (List.mem_append_right _ hk)
      · exact .inr (.inl (List.mem_append_right _ hk))

theorem own_num {lo hi : Nat} {W W1 : World} {v : Value} {ys : List Int} {r : Int} (ty : TypeId) (h : Own oI lo hi W [v] ys) (hr : I64 r) (hh2 : hi ≤ W.heap.size) (hlo : lo ≤ hi) (hn : ys.length ≤ 1000000) (hW1 : W1 = W.alloc (.cells #[.int .i64 r] 3)) :
    ∃ a n c w', (Builtin.append_ #[27, 27] ty #[v, .slice (some ⟨W.heap.size, 0, none⟩) 1 1]).run Tryz.prog W1 = .ok (.slice a n c) w' ∧ Own oI lo w'.heap.size w' [.slice a n c] (ys ++ [r]) ∧ Below lo W w' ∧ W.heap.size < w'.heap.size := by
  obtain ⟨fu, a2, a4, a9⟩ := h
  obtain ⟨a, n, c, w', fu', hrun, c1, c2, c3, c4, ⟨c5, c6, c7⟩, c8⟩ := run_app_fp (W := W) (W1 := W1) Tryz.underlying27 infoInt rfl (by decide) (by decide) rfl ty v ys [.int .i64 r] r fu [] a2 a4 (o' := O.int) ⟨rfl, hr, rfl⟩ (by simp) (fun k hk => by cases hk) (by intro z hz; simp at hz; subst hz; rfl) (by omega) hW1
  refine ⟨a, n, c, w', hrun, ⟨fu', c1, c2, fun k hk => ?_⟩, ⟨c5, c6, c7, by omega, fun k hk => c8 k (by omega) (fun hk2 => by have := a9 k hk2; omega)⟩, c4⟩
  rcases c3 k hk with h9 | h9 | h9
  · have := a9 k h9; omega
  · cases h9
  · omega

def O.at {α : Type} (r : RS α) (W0 : World) : OS α :=
  ⟨r.size, fun _ cs x fp => r.rep W0 cs x ∧ fp = [], fun h => r.len h.1, fun h _ => h, fun h k hk => by rw [h.2] at hk; cases hk⟩

def Duo {α β : Type} (E1 : TypeId) (o1 : OS α) (E2 : TypeId) (o2 : OS β) (lo hi : Nat) (w : World) (v u : Value) (xs : List α) (ys : List β) : Prop :=
  ∃ fv fu, (O.slice E1 o1).rep w [v] xs fv ∧ (O.slice E2 o2).rep w [u] ys fu ∧ fv.Nodup ∧ fu.Nodup ∧ (∀ k ∈ fv, k ∉ fu) ∧ (∀ k ∈ fv, lo ≤ k ∧ k < hi) ∧ (∀ k ∈ fu, lo ≤ k ∧ k < hi)

section

variable {α β : Type} {E1 : TypeId} {o1 : OS α} {E2 : TypeId} {o2 : OS β} {lo hi : Nat} {w : World} {v u : Value} {xs : List α} {ys : List β}

theorem Duo.mono {lo' hi' : Nat} (h : Duo E1 o1 E2 o2 lo hi w v u xs ys) (hl : lo' ≤ lo) (hh : hi ≤ hi') : Duo E1 o1 E2 o2 lo' hi' w v u xs ys := by
  obtain ⟨fv, fu, h1, h2, h3, h4, h5, h8, h9⟩ := h
  exact ⟨fv, fu, h1, h2, h3, h4, h5, fun k hk => by have := h8 k hk; omega, fun k hk => by have := h9 k hk; omega⟩

theorem Duo.frame {w' : World} (h : Duo E1 o1 E2 o2 lo hi w v u xs ys) (hb : ∀ k, lo ≤ k → k < hi → w'.heap[k]? = w.heap[k]?) : Duo E1 o1 E2 o2 lo hi w' v u xs ys := by
  obtain ⟨fv, fu, h1, h2, h3, h4, h5, h8, h9⟩ := h
  exact ⟨fv, fu, (O.slice E1 o1).frame h1 (fun k hk => hb k (h8 k hk).1 (h8 k hk).2), (O.slice E2 o2).frame h2 (fun k hk => hb k (h9 k hk).1 (h9 k hk).2), h3, h4, h5, h8, h9⟩

theorem Duo.below {w' : World} {C : Nat} (h : Duo E1 o1 E2 o2 lo hi w v u xs ys) (hb : Below C w w') (hC : hi ≤ C) : Duo E1 o1 E2 o2 lo hi w' v u xs ys :=
  h.frame fun k _ hk => hb.block k (by omega)

theorem Duo.fst (h : Duo E1 o1 E2 o2 lo hi w v u xs ys) : Own (O.slice E1 o1) lo hi w [v] xs := by
  obtain ⟨fv, fu, h1, h2, h3, h4, h5, h8, h9⟩ := h
  exact ⟨fv, h1, h3, h8⟩

theorem Duo.snd (h : Duo E1 o1 E2 o2 lo hi w v u xs ys) : Own (O.slice E2 o2) lo hi w [u] ys := by
  obtain ⟨fv, fu, h1, h2, h3, h4, h5, h8, h9⟩ := h
  exact ⟨fu, h2, h4, h9⟩

theorem Duo.mk {mid : Nat} (h : Own (O.slice E1 o1) lo mid w [v] xs) (k : Own (O.slice E2 o2) mid hi w [u] ys) (h1 : lo ≤ mid) (h2 : mid ≤ hi) : Duo E1 o1 E2 o2 lo hi w v u xs ys := by
  obtain ⟨fv, a1, a2, a3⟩ := h
  obtain ⟨fu, b1, b2, b3⟩ := k
  exact ⟨fv, fu, a1, b1, a2, b2, fun k hk hk2 => by have := a3 k hk; have := b3 k hk2; omega, fun k hk => by have := a3 k hk; omega, fun k hk => by have := b3 k hk; omega⟩

end

theorem Duo.one {α β : Type} {T E1 size bytes : Nat} {z : Value} (hT : Tryz.prog.underlying T = some (.slice E1)) (hE : (Tryz.prog.info? E1).map (fun i => (i.zero, i.size, i.bytes)) = some (some z, size, bytes)) (hz : z.cells.size = size) (hpos : 0 < size) (hby : bytes ≤ 1000)
    {o1 : OS α} (hsz : o1.size = size) {E2 : TypeId} {o2 : OS β} {lo hi h1 h2 : Nat} {W W1 : World} {v u : Value} {xs : List α} {ys : List β} (ty : TypeId) (c : List Value) (y : α) (h : Duo E1 o1 E2 o2 lo hi W v u xs ys) (hy : Own o1 h1 h2 W c y) (hone : ∀ u ∈ c, u.oneCell' = true) (hh1 : hi ≤ h1) (hlo : lo ≤ hi) (hhi : hi ≤ W.heap.size) (hn : xs.length ≤ 100000000) (hW1 : W1 = W.alloc (.cells c.toArray E1)) :
    ∃ a n cp w', (Builtin.append_ #[T, T] ty #[v, .slice (some ⟨W.heap.size, 0, none⟩) 1 1]).run Tryz.prog W1 = .ok (.slice a n cp) w' ∧ Duo E1 o1 E2 o2 lo w'.heap.size w' (.slice a n cp) u (xs ++ [y]) ys ∧ Below lo W w' ∧ W.heap.size < w'.heap.size := by
  obtain ⟨fv, fu, a1, a2, a3, a4, a5, a8, a9⟩ := h
  obtain ⟨fy, b1, b2, b3⟩ := hy
  have hyl := o1.lt b1
  obtain ⟨a, n, cp, w', fv', hr, c1, c2, c3, c4, ⟨c5, c6, c7⟩, c8⟩ := run_app_fp (W := W) (W1 := W1) hT hE hz hpos hby hsz ty v xs c y fv fy a1 a3 b1 b2 (fun k hk hk2 => by have := b3 k hk; have := a8 k hk2; omega) hone hn hW1
  refine ⟨a, n, cp, w', hr, ⟨fv', fu, c1, (O.slice E2 o2).frame a2 (fun k hk => c8 k (by have := a9 k hk; omega) (fun hk2 => a5 k hk2 hk)), c2, a4, fun k hk hk2 => ?_, fun k hk => ?_, fun k hk => by have := a9 k hk; omega⟩, ⟨c5, c6, c7, by omega, fun k hk => c8 k (by omega) (fun hk2 => by have := a8 k hk2; omega)⟩, c4⟩
  · have := a9 k hk2
    rcases c3 k hk with h9 | h9 | h9
    · exact a5 k h9 hk2
    · have := b3 k h9; omega
    · omega
  · rcases c3 k hk with h9 | h9 | h9
    · have := a8 k h9; omega
    · have := b3 k h9; have := hyl k h9; omega
    · omega

end Go.Proofs.YtpgfkjcekhifiaaGreatDoor

namespace Go.Proofs.YtpgfkjcekhifiaaGreatDoor

open Go.RowKit

set_option linter.unusedVariables false

set_option linter.unusedSimpArgs false

set_option synthInstance.maxSize 2000

set_option synthInstance.maxHeartbeats 400000

set_option maxHeartbeats 2000000 in
theorem sameRows_eq (a b : Option Addr) (n m cap cap' : Nat) (rows : List (List Int)) (w : World) (h : rII.rep w [.slice a n cap] rows) (h' : rII.rep w [.slice b m cap'] rows) :
    Calls Tryz.prog 17 #[.slice a n cap, .slice b m cap'] w fun e w' => e = .returned (.bool true) ∧ Drew w w' := by
  have t0 := rS_sl h
  have t1 := rS_sl h'
  have hl0 := t0.len
  have hl1 := t1.len
  obtain rfl : n = m := by omega
  have hn := t0.small
  clear h h' hl0 hl1
  go_enter Tryz.func17, Tryz.ntmps17
  go_wp2_with fail
  go_loopw [5] (fun i wr => ∃ j : Nat, j ≤ n ∧ i = .int .i64 (j : Int) ∧ Drew w wr) (fun i _ => n - (intOf i).toNat)
  case atStart => exact ⟨0, Nat.zero_le _, rfl, Drew.refl _⟩
  case round =>
    obtain ⟨j, hj, rfl, hdr⟩ := hrel
    obtain ⟨wo, rfl⟩ : ∃ W, W = wr := ⟨_, rfl⟩
    by_cases hlt : j < n
    · obtain ⟨b1, o1, ra, rm, rc, xs, rfl, hc, hx, hi, _, _⟩ := t0.row hlt
      obtain ⟨b2, o2, sa, sm, sc, ys, rfl, hd, hy, hk, _, _⟩ := t1.row hlt
      obtain rfl : xs = ys := by
        have h9 := hx.out.symm.trans hy.out
        injection h9
      have hlen : rm = sm := hi.len.symm.trans hk.len
      subst hlen
      have c1 := (hdr.cell ⟨b1, o1 + j, none⟩).trans hc
      have c2 := (hdr.cell ⟨b2, o2 + j, none⟩).trans hd
      have HH := Lib.hid (fun q => sameInts_eq ra sa rm rc sc xs (wo.drewN q) (hi.below ((hdr.step q).below _)) (hk.below ((hdr.step q).below _)))
      have HD := Lib.hid hdr
      have hji : (j : Int) < (n : Int) := by omega
      clear hc hd hx hy hdr hi hk t0 t1
      go_wp2_with fail
      go_quiet ((go_at_call 7; exact quiet_drew (HH.out _)))
      go_wp2_with fail
      go_roundw
      case rel => exact ⟨j + 1, by omega, by go_num, HD.out.step _⟩
      case measure => simp [intOf]; omega
    · have hji : ¬ ((j : Int) < (n : Int)) := by omega
      clear t0 t1
      go_wp2_with fail
      go_ret
      exact ⟨rfl, hdr⟩

end Go.Proofs.YtpgfkjcekhifiaaGreatDoor
