/- Frames as tries: for calls that are reckoned. -/
import Derived.Test.YtfcfglpkgcheiaaDoorEngZ
namespace Go.Eng
open Go
@[reducible] noncomputable def trieTab (D : Nat → Array Oper → Option (List (Nat × List Nat))) (ng : List Nat) : PlanTab where
  D := D
  ng := ng
  Fr := T Value
  fget := fun R t => (T.get (path t) R).getD undef
  fset := fun R t v => T.set (some v) (path t) R
  blank := .lf
  get_set := fun R t v => by rw [T.get_set]; rfl
  get_set_ne := fun R t u v h => by rw [T.get_set_ne _ _ _ _ (path_ne h)]
  get_blank := fun t => by rw [T.get_lf]; rfl
end Go.Eng
