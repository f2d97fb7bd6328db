/- The engine set up for this seat: the orders of the regions that draw, and what is looked at once. -/
import Derived.Test.YtjneoiocjeoafaaEngU
import Derived.Test.YtjneoiocjeoafaaChecked
namespace Go.Proofs.Ytjneoiocjeoafaa
open Go Go.Eng
def tab : T (List (Nat × List Nat)) := (.nd (.nd (.nd (.nd .lf none (.nd (.nd (.nd (.nd (.nd (.nd (.nd (.nd (.nd (.nd .lf none (.nd (.nd (.nd (.nd .lf none (.nd .lf (some [(0, []), (1, []), (2, []), (3, []), (4, []), (5, [3]), (6, []), (7, [])]) .lf)) none .lf) none .lf) none .lf)) none .lf) none .lf) none .lf) none .lf) none .lf) none .lf) none .lf) none .lf) none .lf)) none .lf) none (.nd (.nd .lf none (.nd (.nd (.nd (.nd (.nd (.nd (.nd (.nd .lf none (.nd .lf none (.nd .lf none (.nd (.nd (.nd (.nd .lf (some [(0, []), (1, []), (2, []), (3, []), (5, []), (6, []), (7, []), (8, []), (4, [8, 6]), (9, []), (10, []), (11, []), (12, []), (13, [])]) .lf) none .lf) none .lf) none .lf)))) none .lf) none .lf) none .lf) none .lf) none .lf) none .lf) none .lf)) none (.nd .lf none (.nd .lf none (.nd (.nd (.nd (.nd (.nd (.nd .lf none (.nd (.nd .lf none (.nd (.nd (.nd (.nd (.nd (.nd .lf none (.nd .lf (some [(0, []), (1, []), (2, [1]), (3, []), (4, [])]) .lf)) none .lf) none .lf) none .lf) none .lf) none .lf)) none .lf)) none .lf) none .lf) none .lf) none .lf) none .lf))))) none .lf)
noncomputable instance plans : PlanTab := ⟨fun id ops => T.get (path (planKey id ops)) tab, 0⟩
theorem follows : Try.prog.follows .mixedOrders = true := by kernel_rfl
theorem looked : funsOk 0 [] 0 Try.prog.funcs.toList = true := by kernel_rfl
theorem own : ownKnob Try.prog.godebug = none := by kernel_rfl
end Go.Proofs.Ytjneoiocjeoafaa
