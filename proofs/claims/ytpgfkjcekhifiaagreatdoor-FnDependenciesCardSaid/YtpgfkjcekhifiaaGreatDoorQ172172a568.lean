/- Texts joined for one claim: Cs. -/
import Derived.Test.YtpgfkjcekhifiaaGreatDoorProg
import Derived.RowKit3
import Derived.Laws.AppendOwn
import Derived.Below

namespace Go.Proofs.YtpgfkjcekhifiaaGreatDoor
open Go.RowKit

theorem lgA {α : Type _} {xs : List α} {i : Nat} (h : i < xs.toArray.size) : xs.toArray[i] = xs[i] := rfl
theorem lgB {α : Type _} (a : α) (l : List α) (i : Nat) (h : i + 1 < (a :: l).length) : (a :: l)[i + 1] = l[i]'(Nat.lt_of_succ_lt_succ h) := rfl
theorem lgC {α : Type _} (a : α) (l : List α) (h : 0 < (a :: l).length) : (a :: l)[0] = a := rfl
theorem lgD {α : Type _} (l : List α) (i : Nat) (a : α) : l.toArray.setIfInBounds i a = (l.set i a).toArray := List.setIfInBounds_toArray l i a
theorem lgE {α : Type _} {x : α} {xs : List α} {a : α} : (x :: xs).set 0 a = a :: xs := rfl
theorem lgF {α : Type _} {x : α} {xs : List α} {i : Nat} {a : α} : (x :: xs).set (i + 1) a = x :: xs.set i a := rfl
theorem bxc {B : Nat} {w w' : World} {b k : Nat} {r : Option Value} (h : Below B w w') (e : w.cell? ⟨b, k, none⟩ = r) (hb : b < B := by omega) : w'.cell? ⟨b, k, none⟩ = r := (h.cell (p := ⟨b, k, none⟩) hb).trans e
theorem bxf {B : Nat} {w w' : World} {b k : Nat} {r : Bool} (h : Below B w w') (e : w.frozen? ⟨b, k, none⟩ = r) (hb : b < B := by omega) : w'.frozen? ⟨b, k, none⟩ = r := (h.frozen (p := ⟨b, k, none⟩) hb).trans e
end Go.Proofs.YtpgfkjcekhifiaaGreatDoor
