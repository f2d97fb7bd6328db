/- A function's call, by its text told in continuations. -/
import Derived.Test.YtfcfglpkgcheiaaDoorOpnF
namespace Go.Eng
open Go
set_option linter.unusedSectionVars false
set_option linter.unusedSimpArgs false
set_option linter.unusedVariables false
variable [PlanTab]

/-- function i has a text, nt slots, and n values come in -/
def fnOk (P : Program) (i nt n : Nat) : Bool := match P.funcs[i]? with
  | some fn => fn.body.isSome && (Nat.beq fn.ntmps nt && Nat.ble n nt)
  | none => false
theorem om_of {P : Program} {bad : List Nat} {spec : Callee} {i nt n : Nat} (hb : inL i bad = false) (hk : fnOk P i nt n = true) {fs cs : Array Value} {args : List Value} (hn : fs.toList.length + (args.length + cs.toList.length) = n) {W : AW} {r : Value × AW}
    (h : kFun P (om P bad spec) nt (bodyAt P i) (rssAt P i) (fs.toList ++ (args ++ cs.toList)) W = some r) : om P bad spec (.func (.func i) fs cs) args W = some (gc W r) := by
  unfold fnOk at hk
  unfold bodyAt rssAt at h
  cases hf : P.funcs[i]? with
  | none => rw [hf] at hk; cases hk
  | some fn =>
    rw [hf] at hk h
    simp only [Bool.and_eq_true, Nat.beq_eq] at hk h
    obtain ⟨h1, h2, h3⟩ := hk
    cases hc : fn.body with
    | none => rw [hc] at h1; cases h1
    | some c =>
      rw [hc] at h
      simp only at h
      subst h2
      exact om_fun hb hf hc (by rw [hn]; exact h3) h
/-- what comes in lies in a world -/
structure Ex (W : AW) (t : Option (Value × AW)) (Q : Value → AW → Prop) : Prop where
  ex : ∃ v W', t = some (v, W') ∧ Le W W' ∧ Q v W'
end Go.Eng
