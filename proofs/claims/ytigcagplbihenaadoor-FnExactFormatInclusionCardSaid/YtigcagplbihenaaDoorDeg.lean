/- Contracts: ranges, and what a degree sequence is. -/
import Derived.Test.YtigcagplbihenaaDoorProg
import Derived.Test.YtigcagplbihenaaDoorBase
namespace Go.Proofs.YtigcagplbihenaaDoor
open Go.RowKit
set_option linter.unusedVariables false
set_option linter.unusedSimpArgs false

def betw (n a b : Int) : Bool := decide (a ≤ n) && decide (n ≤ b)

theorem within_any (n a b : Int) (w : World) :
    Calls Tryd.prog 91 #[.int .i64 n, .int .i64 a, .int .i64 b] w fun e w' => e = .returned (.bool (betw n a b)) ∧ w = w' := by
  go_enter Tryd.func91, Tryd.ntmps91
  go_wp2
  all_goals go_ret
  all_goals (unfold betw; simp [*])
  exact fun h => by omega

/-- Whether the rest of a list may follow: each from 1 to what is left, none above its predecessor. -/
def degFrom (left prev : Int) : List Int → Bool
  | [] => true
  | d :: t => (betw d 1 left && decide (d ≤ prev)) && degFrom (left - d) d t

def isDeg (xs : List Int) : Bool := degFrom 8 8 xs

theorem deg_no {left prev x : Int} {t : List Int} (h : betw x 1 left = false) : degFrom left prev (x :: t) = false := by simp [degFrom, h]
theorem deg_up {left prev x : Int} {t : List Int} (h : ¬ x ≤ prev) : degFrom left prev (x :: t) = false := by simp [degFrom, h]
theorem deg_on {left prev x : Int} {t : List Int} (h : betw x 1 left = true) (h' : x ≤ prev) : degFrom left prev (x :: t) = degFrom (left - x) x t := by simp [degFrom, h, h']

theorem l1In_any (n a b : Int) (w : World) :
    Calls Tryd.prog 55 #[.int .i64 n, .int .i64 a, .int .i64 b] w fun e w' => e = .returned (.bool (betw n a b)) ∧ w = w' := by
  go_enter Tryd.func55, Tryd.ntmps55
  go_wp2
  all_goals go_ret
  all_goals (unfold betw; simp [*])
  exact fun h => by omega

end Go.Proofs.YtigcagplbihenaaDoor
