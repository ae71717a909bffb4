/- Contracts: ranges, and what a degree sequence is. -/
import Derived.Test.YthhbmbkecaffeaaProg
import Derived.Test.YthhbmbkecaffeaaBase
namespace Go.Proofs.Ythhbmbkecaffeaa
open Go.RowKit
set_option linter.unusedVariables false
set_option linter.unusedSimpArgs false

def betw (n a b : Int) : Bool := decide (a ≤ n) && decide (n ≤ b)

theorem within_any (n a b : Int) (w : World) :
    Calls Try.prog 69 #[.int .i64 n, .int .i64 a, .int .i64 b] w fun e w' => e = .returned (.bool (betw n a b)) ∧ w = w' := by
  go_enter Try.func69, Try.ntmps69
  go_wp2
  all_goals go_ret
  all_goals (unfold betw; simp [*])
  exact fun h => by omega

/-- Whether the rest of a list may follow: each from 1 to what is left, none above its predecessor. -/
def degFrom (left prev : Int) : List Int → Bool
  | [] => true
  | d :: t => (betw d 1 left && decide (d ≤ prev)) && degFrom (left - d) d t

def isDeg (xs : List Int) : Bool := degFrom 8 8 xs

theorem deg_no {left prev x : Int} {t : List Int} (h : betw x 1 left = false) : degFrom left prev (x :: t) = false := by simp [degFrom, h]
theorem deg_up {left prev x : Int} {t : List Int} (h : ¬ x ≤ prev) : degFrom left prev (x :: t) = false := by simp [degFrom, h]
theorem deg_on {left prev x : Int} {t : List Int} (h : betw x 1 left = true) (h' : x ≤ prev) : degFrom left prev (x :: t) = degFrom (left - x) x t := by simp [degFrom, h, h']

theorem l1In_any (n a b : Int) (w : World) :
    Calls Try.prog 66 #[.int .i64 n, .int .i64 a, .int .i64 b] w fun e w' => e = .returned (.bool (betw n a b)) ∧ w = w' := by
  go_enter Try.func66, Try.ntmps66
  go_wp2
  all_goals go_ret
  all_goals (unfold betw; simp [*])
  exact fun h => by omega

end Go.Proofs.Ythhbmbkecaffeaa
