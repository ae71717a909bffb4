/- Texts joined for one claim: RepI. -/
import Derived.Test.YtpgfkjcekhifiaaGreatQ22cca73baf
import Derived.Test.YtpgfkjcekhifiaaGreatQ53ae14c1bb
import Derived.Test.YtpgfkjcekhifiaaGreatQ52736f1836
import Derived.Deep.RegionHeld3
import Derived.Laws.IdiomCopy

namespace Go.Proofs.YtpgfkjcekhifiaaGreat

open Go.RowKit

set_option linter.unusedVariables false

set_option linter.unusedSimpArgs false

theorem mul64_any (c : Nat) (h1 : 1 ≤ c) (h4 : c ≤ 4) (w : World) :
    Calls Tryz.prog 110 #[.int .u64 1, .int .u64 (c : Int)] w fun e w' => e = .returned (.tuple #[.int .u64 0, .int .u64 (c : Int)]) ∧ w = w' := by
  rcases (by omega : c = 1 ∨ c = 2 ∨ c = 3 ∨ c = 4) with rfl | rfl | rfl | rfl
  · go_enter Tryz.func110, Tryz.ntmps110
    go_wp2_with fail
    refine bodyPost_ret (v := .tuple #[.int .u64 0, .int .u64 1]) (by simp [results, Tryz.results110, go_sem] <;> decide) rfl ⟨rfl, rfl⟩
  · go_enter Tryz.func110, Tryz.ntmps110
    go_wp2_with fail
    refine bodyPost_ret (v := .tuple #[.int .u64 0, .int .u64 2]) (by simp [results, Tryz.results110, go_sem] <;> decide) rfl ⟨rfl, rfl⟩
  · go_enter Tryz.func110, Tryz.ntmps110
    go_wp2_with fail
    refine bodyPost_ret (v := .tuple #[.int .u64 0, .int .u64 3]) (by simp [results, Tryz.results110, go_sem] <;> decide) rfl ⟨rfl, rfl⟩
  · go_enter Tryz.func110, Tryz.ntmps110
    go_wp2_with fail
    refine bodyPost_ret (v := .tuple #[.int .u64 0, .int .u64 4]) (by simp [results, Tryz.results110, go_sem] <;> decide) rfl ⟨rfl, rfl⟩

theorem mul_any (c : Nat) (h1 : 1 ≤ c) (h4 : c ≤ 4) (w : World) :
    Calls Tryz.prog 92 #[.int .u64 1, .int .u64 (c : Int)] w fun e w' => e = .returned (.tuple #[.int .u64 0, .int .u64 (c : Int)]) ∧ w = w' := by
  have HM := Lib.hid (mul64_any c h1 h4 w)
  go_enter Tryz.func92, Tryz.ntmps92
  go_wp2_with fail
  refine HM.out.mono ?_
  rintro e w' ⟨rfl, rfl⟩
  go_wp2_with fail
  refine bodyPost_ret (v := .tuple #[.int .u64 0, .int .u64 (c : Int)]) (by simp [results, Tryz.results92, go_sem]) rfl ⟨rfl, rfl⟩

theorem setCells_kit (g : Nat) : ∀ (cs : List Value) (w : World) (i : Nat), w.setCells g i cs = setCells w g i cs
  | [], _, _ => rfl
  | c :: cs, w, i => by rw [World.setCells, setCells, setCells_kit g cs]

theorem step_copy {ops : Array Oper} {o : Oper} {a : Act} {K : Act → World → Prop} {Q : Exit → Act → World → Prop} {E : Prop} {w w' : World} {s x : Operand} {t t' : TypeId} {vs vx v' : Value}
    {ty : TypeId} (hrun : (Builtin.copy_ #[t, t'] ty #[vs, vx]).run Tryz.prog w = .ok v' w') (hty : o.type = ty) (hgd : o.guard = none)
    (ho : o.op = .call { callee := .builtin .copy, args := #[s, x], argTypes := #[t, t'] }) (hs : a.eval s = vs) (hx : a.eval x = vx)
    (h : K (a.put o.dst v') w') :
    if Region.wanted o (yielded ops a.tmps) = true then Oper.wp Tryz.prog o a w K Q else E := by
  have hw : Region.wanted o (yielded ops a.tmps) = true := by simp [Region.wanted, hgd]
  rw [if_pos hw]
  unfold Oper.wp execOp
  simp only [ho, resolve, invoke, builtin, Sem.run_bind, Sem.run_pure, Result.andThen_ok, List.map_toArray, List.map_cons, List.map_nil, hs, hx, hty, hrun]
  exact h

theorem wpList_copy_run' {W W' : World} {ops : Array Oper} {rest : List Oper} {o : Oper} {a : Act} {Q : Exit → Act → World → Prop} {s x : Operand} {t t' ty : TypeId} {vs vx v' : Value}
    (hrun : (Builtin.copy_ #[t, t'] ty #[vs, vx]).run Tryz.prog W = .ok v' W') (hty : o.type = ty) (hgd : o.guard = none)
    (ho : o.op = .call { callee := .builtin .copy, args := #[s, x], argTypes := #[t, t'] }) (hs : a.eval s = vs) (hx : a.eval x = vx)
    (h : wpList Tryz.prog ops Q rest (a.put o.dst v') W') : wpList Tryz.prog ops Q (o :: rest) a W := by
  refine wpList_plain hgd fun K hK => ?_
  unfold Oper.wp execOp
  simp only [ho, resolve, invoke, builtin, Sem.run_bind, Sem.run_pure, Result.andThen_ok, List.map_toArray, List.map_cons, List.map_nil, hs, hx, hty, hrun]
  exact hK _ _ h

theorem infoInt1 : (Tryz.prog.info? 3).map (·.size) = some 1 := by
  obtain ⟨i, hi, _, hz, _⟩ := info_parts infoInt
  rw [hi]; simp [hz]

def RepB (w : World) (g c n : Nat) (x : Int) : Prop := n ≤ c ∧ w.heap[g]? = some (.cells ((List.replicate n (Value.int .i64 x)) ++ List.replicate (c - n) (Value.int .i64 0)).toArray 3)

theorem RepB.cell {w : World} {g c n : Nat} {x : Int} (h : RepB w g c n x) {j : Nat} (hj : j < n) : w.cell? ⟨g, j, none⟩ = some (.int .i64 x) := by
  obtain ⟨hn, h⟩ := h
  simp only [World.cell?, h]
  rw [List.getElem?_toArray, List.getElem?_append_left (by simp; omega)]
  simp [hj]

theorem RepB.isS {w : World} {g c n : Nat} {x : Int} (h : RepB w g c n x) {j : Nat} (hj : j < c) : (w.cell? ⟨g, j, none⟩).isSome = true := by
  obtain ⟨hn, h⟩ := h
  simp only [World.cell?, h]
  rw [List.getElem?_toArray, List.getElem?_eq_getElem (by simp; omega)]
  rfl

theorem RepB.frozen {w : World} {g c n : Nat} {x : Int} (h : RepB w g c n x) (j : Nat) : w.frozen? ⟨g, j, none⟩ = false := by
  simp [World.frozen?, h.2]

theorem RepB.put {w : World} {g c n m : Nat} {x : Int} (h : RepB w g c n x) (hm : n + m ≤ c) : RepB (w.setCells g n (List.replicate m (.int .i64 x))) g c (n + m) x := by
  refine ⟨hm, ?_⟩
  rw [setCells_kit]
  have h2 := h.2
  rw [show c - n = m + (c - (n + m)) by omega, ← List.replicate_append_replicate] at h2
  rw [setCells_block g _ (List.replicate m (.int .i64 x)) w n (List.replicate n (.int .i64 x)) (List.replicate (c - (n + m)) (.int .i64 0)) (List.replicate m (.int .i64 0)) h2 (by simp) (by simp)]
  rw [← List.replicate_append_replicate, List.append_assoc]

theorem RepB.below {w : World} {g c n m : Nat} {x : Int} {B : Nat} (hB : B ≤ g) : Below B w (w.setCells g n (List.replicate m (.int .i64 x))) := by
  rw [setCells_kit]
  have h := setCells_only g (List.replicate m (.int .i64 x)) w n
  exact ⟨h.os, h.tape, h.output, Nat.le_of_eq h.size.symm, fun k hk => h.block k (by simp; omega)⟩

theorem RepB.of_own {w : World} {g c B : Nat} {x : Int} (h : w.ownsRow B 3 1 (.slice (some ⟨g, 0, none⟩) c c) c ((List.replicate c 0).map (Value.int .i64))) : RepB w g c 0 x := by
  rcases h.2 with ⟨hv, _⟩ | ⟨g', cap, cur, hv, _, hg, _, _, hcs, htake⟩
  · simp at hv
  · simp at hv
    obtain ⟨rfl, rfl⟩ := hv
    refine ⟨Nat.zero_le _, ?_⟩
    rw [hg]
    have e1 : cur.toList = (List.replicate c 0).map (Value.int .i64) := by
      rw [← htake, List.take_of_length_le (by simp [hcs])]
    have e3 : cur = ((List.replicate c (0 : Int)).map (Value.int .i64)).toArray := by rw [← e1]
    rw [e3]
    simp

theorem RepB.own {w : World} {g c B : Nat} {x : Int} (h : RepB w g c c x) (hx : I64 x) (hB : B ≤ g) (hc : c ≤ 1000 := by omega) : Own oI B w.heap.size w [.slice (some ⟨g, 0, none⟩) c c] (List.replicate c x) := by
  have h2 : w.ownsRow B 3 1 (.slice (some ⟨g, 0, none⟩) c c) c ((List.replicate c x).map (Value.int .i64)) := by
    refine ⟨by simp, .inr ⟨g, c, _, rfl, hB, h.2, Nat.le_refl _, by unfold maxLen; omega, by simp, by simp⟩⟩
  exact OwnInts.own ⟨by simp, h2, fun y hy => by rw [List.mem_replicate] at hy; rw [hy.2]; exact hx⟩

theorem run_copy_rep {w : World} {g c n k cap : Nat} {x : Int} (ty : TypeId) (h : RepB w g c n x) (hk : k ≤ n) (hkc : n + Nat.min k (c - n) ≤ c) :
    (Builtin.copy_ #[32, 32] ty #[.slice (some ⟨g, n, none⟩) (c - n) cap, .slice (some ⟨g, 0, none⟩) k c]).run Tryz.prog w = .ok (goInt (Nat.min k (c - n))) (w.setCells g n (List.replicate (Nat.min k (c - n)) (.int .i64 x))) := by
  have hmk : Nat.min k (c - n) ≤ k := Nat.min_le_left _ _
  have h9 := run_copy_cells (P := Tryz.prog) w 32 32 ty 3 g n (c - n) cap ⟨g, 0, none⟩ k c (List.replicate (Nat.min k (c - n)) (.int .i64 x)) Tryz.underlying32 infoInt1 (by simp) (fun j v hv => by
    rw [add_zero_addr]
    have hj : j < Nat.min k (c - n) := by have := (List.getElem?_eq_some_iff.1 hv).1; simpa using this
    rw [List.getElem?_replicate, if_pos hj] at hv
    simp at hv
    subst hv
    exact h.cell (by omega)) (fun j hj => h.isS (by simp at hj; omega)) (fun j hj => h.frozen _) (by intro v hv; rw [List.mem_replicate] at hv; rw [hv.2]; rfl)
  simpa using h9

theorem run_copy_one {w : World} {g c : Nat} {x : Int} {a : Addr} (ty : TypeId) (h : RepB w g c 0 x) (hc : 1 ≤ c) (ha : w.cell? a = some (.int .i64 x)) (hs : a.spot = none) :
    (Builtin.copy_ #[32, 32] ty #[.slice (some ⟨g, 0, none⟩) c c, .slice (some a) 1 1]).run Tryz.prog w = .ok (.int .i64 1) (w.setCells g 0 (List.replicate 1 (.int .i64 x))) := by
  obtain ⟨b, o, s⟩ := a
  simp at hs
  subst hs
  have h9 := run_copy_cells (P := Tryz.prog) w 32 32 ty 3 g 0 c c ⟨b, o, none⟩ 1 1 (List.replicate 1 (.int .i64 x)) Tryz.underlying32 infoInt1 (by simp [Nat.min_def]; omega) (fun j v hv => by
    cases j with
    | zero => simp at hv; subst hv; rw [Addr.add_lit]; exact ha
    | succ j => simp at hv) (fun j hj => h.isS (by simp at hj; omega)) (fun j hj => h.frozen _) (by intro v hv; rw [List.mem_replicate] at hv; rw [hv.2]; rfl)
  simpa [goInt] using h9

set_option maxRecDepth 100000 in
set_option maxHeartbeats 1000000 in
theorem repeat_any (g0 : Nat) (c : Nat) (x : Int) (w : World) (h1 : 1 ≤ c) (h4 : c ≤ 4) (hx : I64 x) (hg : w.cell? ⟨g0, 0, none⟩ = some (.int .i64 x)) :
    Calls Tryz.prog 59 #[.slice (some ⟨g0, 0, none⟩) 1 1, .int .i64 (c : Int)] w fun e w' => ∃ b n q, e = .returned (.slice b n q) ∧ Own oI w.heap.size w'.heap.size w' [.slice b n q] (List.replicate c x) ∧ Below w.heap.size w w' := by
  have HM := Lib.hid (mul_any c h1 h4 w)
  have hg0 : g0 < w.heap.size := cell_lt hg
  have hc0 : ¬ (c : Int) < 0 := by omega
  have hcw : IntKind.u64.wrap (c : Int) = (c : Int) := by
    rcases (by omega : c = 1 ∨ c = 2 ∨ c = 3 ∨ c = 4) with rfl | rfl | rfl | rfl <;> decide
  have hcb : ¬ (9223372036854775807 : Int) < (c : Int) := by omega
  have hcv : IntKind.i64.wrap (c : Int) = (c : Int) := by
    rcases (by omega : c = 1 ∨ c = 2 ∨ c = 3 ∨ c = 4) with rfl | rfl | rfl | rfl <;> decide
  go_enter Tryz.func59, Tryz.ntmps59
  go_wp2_with fail
  refine HM.out.mono ?_
  rintro e w' ⟨rfl, rfl⟩
  go_wp2_with (at_make; refine wpList_mk _ _ c (by omega) rfl rfl rfl rfl ?_; intro w1 hp1 hb1 hz1; have hR0 := RepB.of_own (x := x) hp1; have hr1 := run_copy_one 3 hR0 h1 ((hb1.cell (p := ⟨g0, 0, none⟩) hg0).trans hg) rfl; have hR1 := hR0.put (m := 1) (by omega); have hB1 := hb1.trans (RepB.below (w := w1) (g := w.heap.size) (c := c) (n := 0) (m := 1) (x := x) (Nat.le_refl _)); obtain ⟨w2, hw2⟩ : ∃ W, W = w1.setCells w.heap.size 0 (List.replicate 1 (.int .i64 x)) := ⟨_, rfl⟩; rw [← hw2] at hr1 hR1 hB1; clear hp1 hR0 hw2)
  go_wp2_with (at_builtin; refine wpList_copy_run' hr1 rfl rfl rfl rfl rfl ?_)
  go_loopw [8] (fun n wr => ∃ k : Nat, 1 ≤ k ∧ k ≤ c ∧ n = .int .i64 k ∧ RepB wr w.heap.size c k x ∧ Below w.heap.size w wr) (fun n _ => c - (intOf n).toNat)
  case atStart => exact ⟨1, by omega, h1, rfl, hR1, hB1⟩
  case round =>
    obtain ⟨k, hk1, hkc, rfl, hR, hB⟩ := hrel
    clear hr1 hR1 hB1 hb1 HM
    by_cases hlt : k < c
    · obtain ⟨m, hm9, hml, hmr, hmp⟩ : ∃ m, Nat.min k (c - k) = m ∧ m ≤ k ∧ m ≤ c - k ∧ 1 ≤ m := ⟨_, rfl, Nat.min_le_left _ _, Nat.min_le_right _ _, Nat.le_min.2 ⟨by omega, by omega⟩⟩
      have hcne : ¬ c = k := by omega
      have hRd : RepB wr.drew w.heap.size c k x := hR
      have hBd : Below w.heap.size w wr.drew := hB.drew
      have hrk := run_copy_rep (cap := c - k) 3 hRd (Nat.le_refl k) (by rw [hm9]; omega)
      rw [hm9] at hrk
      have hRN := Lib.hid (hRd.put (m := m) (by omega))
      have hBN := Lib.hid (hBd.trans (RepB.below (w := wr.drew) (g := w.heap.size) (c := c) (n := k) (m := m) (x := x) (Nat.le_refl _)))
      obtain ⟨wn, hwn⟩ : ∃ W, W = wr.drew.setCells w.heap.size k (List.replicate m (.int .i64 x)) := ⟨_, rfl⟩
      rw [← hwn] at hrk hRN hBN
      have hkm : IntKind.i64.wrap ((k : Int) + (m : Int)) = ((k + m : Nat) : Int) := by rw [IntWalk.i64_in _ (by constructor <;> omega)]; omega
      clear hm9 hwn hR hB hRd hBd
      go_wp2_with fail
      refine wp_region_noPanic ?_
      refine wp_region_held_drew (S := (fun _ => True)) (by kernel_rfl) ?hS1 (fun hHeld => ?_)
      case hS1 => trivial
      refine wpAnyH_take (i := 0) (v := ?v0_2) rfl (by kernel_rfl) (by kernel_rfl) (by kernel_rfl) (fun _ _ _ h => h) (Or.inl ⟨by rfl, ?hy0_2⟩) (by assumption) ?rest0_2
      case hy0_2 => intro w hSw; (try dsimp only at hSw); go_simp; (try with_reducible rfl)
      try simp only [Act.put, lgA, lgB, lgC, lgD, lgE, lgF]
      refine wpAnyH_take (i := 1) (v := ?v1_3) rfl (by kernel_rfl) (by kernel_rfl) (by kernel_rfl) (fun _ _ _ h => h) (Or.inl ⟨by rfl, ?hy1_3⟩) (by assumption) ?rest1_3
      case hy1_3 => intro w hSw; (try dsimp only at hSw); go_simp; (try with_reducible rfl)
      try simp only [Act.put, lgA, lgB, lgC, lgD, lgE, lgF]
      refine wpAnyH_take (i := 2) (v := ?v2_4) rfl (by kernel_rfl) (by kernel_rfl) (by kernel_rfl) (fun _ _ _ h => h) (Or.inl ⟨by rfl, ?hy2_4⟩) (by assumption) ?rest2_4
      case hy2_4 => intro w hSw; (try dsimp only at hSw); go_simp; (try with_reducible rfl)
      try simp only [Act.put, lgA, lgB, lgC, lgD, lgE, lgF]
      refine wpAnyH_take (i := 3) (v := ?v3_5) rfl (by kernel_rfl) (by kernel_rfl) (by kernel_rfl) (fun _ _ _ h => h) (Or.inl ⟨by rfl, ?hy3_5⟩) (by assumption) ?rest3_5
      case hy3_5 => intro w hSw; (try dsimp only at hSw); go_simp; (try with_reducible rfl)
      try simp only [Act.put, lgA, lgB, lgC, lgD, lgE, lgF]
      refine wpAnyH_take (i := 4) (v := ?v4_6) rfl (by kernel_rfl) (by kernel_rfl) (by kernel_rfl) (fun _ _ _ h => h) (Or.inl ⟨by rfl, ?hy4_6⟩) (by assumption) ?rest4_6
      case hy4_6 => intro w hSw; (try dsimp only at hSw); go_simp; (try with_reducible rfl)
      try simp only [Act.put, lgA, lgB, lgC, lgD, lgE, lgF]
      refine wpAnyH_take (i := 5) (v := ?v5_7) rfl (by kernel_rfl) (by kernel_rfl) (by kernel_rfl) (fun _ _ _ h => h) (Or.inl ⟨by rfl, ?hy5_7⟩) (by assumption) ?rest5_7
      case hy5_7 => intro w hSw; (try dsimp only at hSw); go_simp; (try with_reducible rfl)
      try simp only [Act.put, lgA, lgB, lgC, lgD, lgE, lgF]
      refine wpAnyH_take (i := 6) (v := ?v6_8) rfl (by kernel_rfl) (by kernel_rfl) (by kernel_rfl) (fun _ _ _ h => h) (Or.inl ⟨by rfl, ?hy6_8⟩) (by assumption) ?rest6_8
      case hy6_8 => intro w hSw; (try dsimp only at hSw); go_simp; (try with_reducible rfl)
      try simp only [Act.put, lgA, lgB, lgC, lgD, lgE, lgF]
      refine wpAnyH_ready (rs := [7]) (by kernel_rfl) (by simp) ?_
      refine AllReadyH.cons rfl (fun K hK => ?_) AllReadyH.nil
      refine step_copy hrk (by rfl) (by rfl) (by rfl) (by rfl) (by rfl) ?_
      refine hK.out _ _ ?_ (fun hHeld => ?_)
      · trivial
      clear hK K
      try simp only [Act.put, List.setIfInBounds_toArray, List.set_cons_zero, List.set_cons_succ]
      refine wpAnyH_take (i := 8) (v := ?v8_9) rfl (by kernel_rfl) (by kernel_rfl) (by kernel_rfl) (fun _ _ _ h => h) (Or.inl ⟨by rfl, ?hy8_9⟩) (by assumption) ?rest8_9
      case hy8_9 => intro w hSw; (try dsimp only at hSw); go_simp; (try with_reducible rfl)
      try simp only [Act.put, lgA, lgB, lgC, lgD, lgE, lgF]
      refine wpAnyH_take (i := 9) (v := ?v9_10) rfl (by kernel_rfl) (by kernel_rfl) (by kernel_rfl) (fun _ _ _ h => h) (Or.inl ⟨by rfl, ?hy9_10⟩) (by assumption) ?rest9_10
      case hy9_10 => intro w hSw; (try dsimp only at hSw); go_simp; (try with_reducible rfl)
      try simp only [Act.put, lgA, lgB, lgC, lgD, lgE, lgF]
      refine wpAnyH_done (by kernel_rfl) ?_ _
      refine NoPanic.normal ?_
      go_wp2_with fail
      go_roundw
      case rel => exact ⟨k + m, by omega, by omega, by first | rfl | rw [hkm] | go_num, hRN.out, hBN.out⟩
      case measure => (try rw [hkm]); simp [intOf]; omega
    · obtain rfl : k = c := by omega
      have HO := Lib.hid (hR.own hx (B := w.heap.size) (Nat.le_refl _))
      go_wp2_with fail
      go_ret
      exact ⟨_, _, _, rfl, HO.out, hB⟩

end Go.Proofs.YtpgfkjcekhifiaaGreat
