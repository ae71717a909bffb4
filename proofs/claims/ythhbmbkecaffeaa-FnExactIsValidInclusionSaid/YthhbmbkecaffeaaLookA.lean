/- Contracts: tables looked up (4): one contract a side. -/
import Derived.Test.YthhbmbkecaffeaaLook3
namespace Go.Proofs.Ythhbmbkecaffeaa
open Go.RowKit Go.Sort
set_option linter.unusedVariables false
set_option linter.unusedSimpArgs false
set_option synthInstance.maxSize 2000
set_option synthInstance.maxHeartbeats 400000

/-- The table that is handed back. -/
def lookT (o : Option DT) : DT := o.getD (⟨#[]⟩, 0, [])
theorem lookT_ar {db : DDb} {name : ByteArray} : 0 ≤ (lookT (look db name)).2.1 ∧ (lookT (look db name)).2.1 ≤ 3 := by
  cases h : look db name with
  | none => simp [lookT]
  | some t => have := (look_ok h).ar; simp only [lookT, Option.getD_some]; omega
theorem own_noT (lo hi : Nat) (w : World) : Own oT lo hi w [.string ⟨#[]⟩, .int .i64 0, .slice none 0 0] (⟨#[]⟩, 0, []) :=
  oT_mk (x := (⟨#[]⟩, 0, [])) (by decide) (show I64 0 from by unfold I64; omega) (l2 := lo) (m2 := hi) (Acc.nil (lo := lo) (S := lo) (hi := hi) |>.own (Nat.le_refl _) (Nat.le_refl _) (Nat.le_refl _)) (Nat.le_refl _) (Nat.le_refl _)

theorem lookI_any (cs : List Value) (db : DDb) (name : ByteArray) (w : World) (h : rDb.rep w cs db) :
    Calls Try.prog 68 #[.agg cs.toArray, .string name] w fun e w' => ∃ vb vn vc, e = .returned (.tuple #[.agg #[.string (lookT (look db name)).1, .int .i64 (lookT (look db name)).2.1, .slice vb vn vc], .bool (look db name).isSome]) ∧ Own oT w.heap.size w'.heap.size w' [.string (lookT (look db name)).1, .int .i64 (lookT (look db name)).2.1, .slice vb vn vc] (lookT (look db name)) ∧ Below w.heap.size w w' := by
  cases hL : look db name with
  | none =>
    refine (lookI_none cs db name w h hL).mono ?_
    rintro e w1 ⟨rfl, z⟩
    exact ⟨none, 0, 0, rfl, own_noT _ _ _, z⟩
  | some t =>
    refine (lookI_some cs db name t w h hL).mono ?_
    rintro e w1 ⟨ds, rfl, ho, z⟩
    obtain ⟨vb, vn, vc, rfl⟩ := oT_form ho
    exact ⟨vb, vn, vc, rfl, ho, z⟩

theorem lookS_any (cs : List Value) (db : DDb) (name : ByteArray) (w : World) (h : rDb.rep w cs db) :
    Calls Try.prog 65 #[.agg cs.toArray, .string name] w fun e w' => ∃ vb vn vc, e = .returned (.tuple #[.agg #[.string (lookT (look db name)).1, .int .i64 (lookT (look db name)).2.1, .slice vb vn vc], .bool (look db name).isSome]) ∧ Own oT w.heap.size w'.heap.size w' [.string (lookT (look db name)).1, .int .i64 (lookT (look db name)).2.1, .slice vb vn vc] (lookT (look db name)) ∧ Below w.heap.size w w' := by
  cases hL : look db name with
  | none =>
    refine (lookS_none cs db name w h hL).mono ?_
    rintro e w1 ⟨rfl, z⟩
    exact ⟨none, 0, 0, rfl, own_noT _ _ _, z⟩
  | some t =>
    refine (lookS_some cs db name t w h hL).mono ?_
    rintro e w1 ⟨ds, rfl, ho, z⟩
    obtain ⟨vb, vn, vc, rfl⟩ := oT_form ho
    exact ⟨vb, vn, vc, rfl, ho, z⟩

end Go.Proofs.Ythhbmbkecaffeaa
