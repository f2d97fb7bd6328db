/- Frames as functions; where a text lies; short words. -/
import Derived.Test.YtfcfglpkgcheiaaDoorOpnB
namespace Go.Eng
open Go
set_option linter.unusedVariables false

noncomputable def setF (R : Nat → Value) (t : Nat) (v : Value) : Nat → Value := fun u => Bool.rec (motive := fun _ => Value) (R u) v (Nat.beq u t)
noncomputable def blankF : Nat → Value := fun _ => undef
theorem setF_same (R : Nat → Value) (t : Nat) (v : Value) : setF R t v t = v := by unfold setF; rw [Nat.beq_refl]
theorem setF_ne (R : Nat → Value) (t u : Nat) (v : Value) (h : t ≠ u) : setF R t v u = R u := by
  unfold setF
  have : Nat.beq u t = false := by
    cases hb : Nat.beq u t with
    | true => exact absurd (Nat.eq_of_beq_eq_true hb).symm h
    | false => rfl
  rw [this]
/-- the engine over frames that are functions -/
@[reducible] noncomputable def funTab (D : Nat → Array Oper → Option (List (Nat × List Nat))) (ng : List Nat) : PlanTab where
  D := D
  ng := ng
  Fr := Nat → Value
  fget := fun R t => R t
  fset := setF
  blank := blankF
  get_set := setF_same
  get_set_ne := setF_ne
  get_blank := fun _ => rfl
noncomputable def frm (R : Nat → Value) (l : List (Nat × Value)) : Nat → Value := l.foldl (fun R p => setF R p.1 p.2) R
noncomputable def glbV (g : Nat) : Value := .pointer (some ⟨g, 0, none⟩)
noncomputable def fnV (f : FuncId) : Value := .func (.func f) #[] #[]
def bytesV (l : List Nat) : ByteArray := ⟨(l.map UInt8.ofNat).toArray⟩
noncomputable def strV (l : List Nat) : Value := .string (bytesV l)
def bodyAt (P : Program) (i : Nat) : Code := match P.funcs[i]? with
  | some fn => (match fn.body with
    | some c => c
    | none => .skip)
  | none => .skip
def rssAt (P : Program) (i : Nat) : Array ResultVar := match P.funcs[i]? with
  | some fn => fn.results
  | none => #[]
/-- a part of a text -/
def cAt : List Nat → Code → Code
  | [], c => c
  | n :: p, c => match c with
    | .seq a b => cAt p (if n = 0 then a else b)
    | .cond _ a b => cAt p (if n = 0 then a else b)
    | .rangeFunc _ _ a b => cAt p (if n = 0 then a else b)
    | .block _ b => cAt p b
    | .loop b => cAt p b
    | .scope b => cAt p b
    | _ => .skip
end Go.Eng
