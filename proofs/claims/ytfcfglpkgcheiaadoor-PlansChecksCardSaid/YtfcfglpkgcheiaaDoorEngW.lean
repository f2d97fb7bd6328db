/- Arguments all of whose cells are integers: what they read as, in every world. -/
import Derived.Test.YtfcfglpkgcheiaaDoorEngV
import Derived.ProofKit
import Derived.OpenShut
namespace Go.Eng
open Go Go.RowKit Go.ChangeShapes
set_option linter.unusedSectionVars false
set_option linter.unusedSimpArgs false

def flatFs (g : TypeId → Option (List IntKind)) (P : Program) : Nat → List Field → Option (List IntKind)
  | _, [] => some []
  | off, f :: fs => if f.offset = off then (g f.type).bind fun ks => if ks.length = P.cellsOf f.type then (flatFs g P (off + ks.length) fs).map fun r => ks ++ r else none else none
/-- the kinds of a type whose cells are all integers -/
def flatK (P : Program) : Nat → TypeId → Option (List IntKind)
  | 0, _ => none
  | n + 1, t => match P.underlying t with
    | some (.int k) => some [k]
    | some (.struct fs) => (flatFs (flatK P n) P 0 fs.toList).bind fun ks => if ks.length = P.cellsOf t then some ks else none
    | _ => none
def intCells (ks : List IntKind) (ns : List Int) : List Value := List.zipWith Value.int ks ns
theorem intCells_append {ks ks' : List IntKind} {ns ns' : List Int} (h : ns.length = ks.length) : intCells (ks ++ ks') (ns ++ ns') = intCells ks ns ++ intCells ks' ns' := by
  unfold intCells
  exact List.zipWith_append h.symm

section
variable {H : Type} {enc : TypeId × Value → H} {P : Program} {w : World} {base : Nat} {spare : Nat → Bool} {held : Bool}

/-- what a plain reading says -/
def Flat (enc : TypeId × Value → H) (P : Program) (held : Bool) (m : Nat) (t : TypeId) (ks : List IntKind) (cs : List Value) (x : DataW H × List MemPlace) : Prop :=
  (∃ ns : List Int, ns.length = ks.length ∧ cs = intCells ks ns) ∧ x.2 = [] ∧ ∀ (w' : World) (base' : Nat) (spare' : Nat → Bool), DataW.trod enc P w' base' spare' held m t cs = some x

theorem flat_fields {m : Nat} {g : TypeId → Option (List IntKind)} (ih : ∀ {t ks cs x}, g t = some ks → DataW.trod enc P w base spare held m t cs = some x → Flat enc P held m t ks cs x) :
    ∀ {fs : List Field} {off : Nat} {ks : List IntKind} {cs : List Value} {xs : List (DataW H × List MemPlace)}, flatFs g P off fs = some ks →
      (fs.mapM fun f => DataW.trod enc P w base spare held m f.type ((cs.drop f.offset).take (P.cellsOf f.type))) = some xs →
      (∃ ns : List Int, ns.length = ks.length ∧ (cs.drop off).take ks.length = intCells ks ns) ∧ xs.flatMap (·.2) = [] ∧
        ∀ (w' : World) (base' : Nat) (spare' : Nat → Bool), (fs.mapM fun f => DataW.trod enc P w' base' spare' held m f.type ((cs.drop f.offset).take (P.cellsOf f.type))) = some xs := by
  intro fs
  induction fs with
  | nil =>
    intro off ks cs xs h hx
    simp only [flatFs, Option.some.injEq] at h
    subst h
    simp only [List.mapM_nil, Option.pure_def, Option.some.injEq] at hx
    subst hx
    exact ⟨⟨[], rfl, by simp [intCells]⟩, rfl, fun _ _ _ => rfl⟩
  | cons f fs ihf =>
    intro off ks cs xs h hx
    simp only [flatFs] at h
    split at h
    case isFalse => cases h
    rename_i hoff
    cases hg : g f.type with
    | none => rw [hg] at h; simp at h
    | some k1 =>
      rw [hg] at h
      simp only [Option.bind_some] at h
      split at h
      case isFalse => cases h
      rename_i hl
      cases hr : flatFs g P (off + k1.length) fs with
      | none => rw [hr] at h; simp at h
      | some k2 =>
        rw [hr] at h
        simp only [Option.map_some, Option.some.injEq] at h
        subst h
        simp only [List.mapM_cons, Option.bind_eq_bind, Option.pure_def] at hx
        cases h1 : DataW.trod enc P w base spare held m f.type ((cs.drop f.offset).take (P.cellsOf f.type)) with
        | none => rw [h1] at hx; simp at hx
        | some x1 =>
          rw [h1] at hx
          simp only [Option.bind_some] at hx
          cases h2 : fs.mapM fun f => DataW.trod enc P w base spare held m f.type ((cs.drop f.offset).take (P.cellsOf f.type)) with
          | none => rw [h2] at hx; simp at hx
          | some xs2 =>
            rw [h2] at hx
            simp only [Option.bind_some, Option.some.injEq] at hx
            subst hx
            obtain ⟨⟨n1, e1, c1⟩, p1, r1⟩ := ih hg h1
            obtain ⟨⟨n2, e2, c2⟩, p2, r2⟩ := ihf hr h2
            refine ⟨⟨n1 ++ n2, by simp [e1, e2], ?_⟩, by simp [p1, p2], fun w' base' spare' => ?_⟩
            · rw [intCells_append e1, ← c1, ← c2, hoff, List.length_append, ← hl, List.take_add, List.drop_drop]
            · simp only [List.mapM_cons, Option.bind_eq_bind, Option.pure_def, r1 w' base' spare', r2 w' base' spare', Option.bind_some]

theorem flat_trod : ∀ {n m : Nat} {t : TypeId} {ks : List IntKind} {cs : List Value} {x : DataW H × List MemPlace}, flatK P n t = some ks → DataW.trod enc P w base spare held m t cs = some x → Flat enc P held m t ks cs x := by
  intro n
  induction n with
  | zero => intro m t ks cs x h; cases h
  | succ n ih =>
    intro m t ks cs x h hx
    cases m with
    | zero => simp [DataW.trod] at hx
    | succ m =>
      unfold flatK at h
      split at h
      · rename_i k ht
        simp only [Option.some.injEq] at h
        subst h
        obtain ⟨z, rfl, rfl, hw⟩ := DataW.trod_int ht hx
        exact ⟨⟨[z], rfl, rfl⟩, rfl, fun _ _ _ => by simp [DataW.trod, ht, hw]⟩
      · rename_i fs ht
        cases hf : flatFs (flatK P n) P 0 fs.toList with
        | none => rw [hf] at h; simp at h
        | some ks' =>
          rw [hf] at h
          simp only [Option.bind_some] at h
          split at h
          case isFalse => cases h
          rename_i hl
          simp only [Option.some.injEq] at h
          subst h
          unfold DataW.trod at hx
          simp only [ht] at hx
          split at hx
          case isFalse => cases hx
          rename_i hlen
          cases hm : fs.toList.mapM fun f => DataW.trod enc P w base spare held m f.type ((cs.drop f.offset).take (P.cellsOf f.type)) with
          | none => rw [hm] at hx; simp at hx
          | some xs =>
            rw [hm] at hx
            simp only [Option.map_some, Option.some.injEq] at hx
            subst hx
            obtain ⟨⟨ns, e1, c1⟩, p1, r1⟩ := flat_fields (g := flatK P n) (m := m) (fun a b => ih a b) hf hm
            refine ⟨⟨ns, e1, ?_⟩, p1, fun w' base' spare' => ?_⟩
            · rw [← c1, List.drop_zero, List.take_of_length_le (by omega)]
            · unfold DataW.trod
              simp only [ht, if_pos hlen, r1 w' base' spare', Option.map_some]
      · cases h

theorem open_flat {r : Reach} {b0 : Nat} {t : TypeId} {n : Nat} {fs : Array Field} {ks : List IntKind} {v : Value} {d : DataW H} {p : List MemPlace} (hs : P.underlying t = some (.struct fs)) (hk : flatK P n t = some ks)
    (hv : Value.okWide P w r b0 t v) (h : DataW.Trod enc P w base spare held t v d p) :
    ∃ ns : List Int, ns.length = ks.length ∧ v = .agg (intCells ks ns).toArray ∧ p = [] ∧ ∀ (w' : World) (base' : Nat) (spare' : Nat → Bool), DataW.Trod enc P w' base' spare' held t v d [] := by
  unfold Value.okWide at hv
  rw [hs] at hv
  obtain ⟨cs, rfl, hsz, _⟩ := hv
  obtain ⟨m, hm⟩ := h
  obtain ⟨⟨ns, e, c⟩, p0, r0⟩ := flat_trod hk hm
  simp only at p0
  subst p0
  refine ⟨ns, e, ?_, rfl, fun w' b' s' => ⟨m, r0 w' b' s'⟩⟩
  have : cs.toList = intCells ks ns := by simpa [Value.cells] using c
  rw [← this]
end
end Go.Eng
