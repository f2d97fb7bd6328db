/- A part: contracts and laws. -/
import Derived.Test.YtdiifccoaihffaaGreatDoorPartB
import Derived.Shelf.SlIterI.Nil
import Derived.Maps.Range
set_option linter.unusedSectionVars false
set_option linter.unusedVariables false
namespace Go.Eng
open Go Go.RowKit Go.Maps Go.MapKept
open Go.WideElems (Fit rd rg)
open Go.WideShapes (sorted_perm)
section
variable [PlanTab]
noncomputable def insZ (x : Int) (l : List Int) : List Int := List.rec (motive := fun _ => List Int) [x] (fun y l ih => Bool.rec (motive := fun _ => List Int) (y :: ih) (x :: y :: l) (decide (x ≤ y))) l
noncomputable def srtZ (l : List Int) : List Int := List.rec (motive := fun _ => List Int) [] (fun x _ ih => insZ x ih) l
theorem insZ_cons (x y : Int) (l : List Int) : insZ x (y :: l) = if x ≤ y then x :: y :: l else y :: insZ x l := by
  show Bool.rec (motive := fun _ => List Int) (y :: insZ x l) (x :: y :: l) (decide (x ≤ y)) = _
  by_cases h : x ≤ y
  · rw [if_pos h, decide_eq_true h]
  · rw [if_neg h, decide_eq_false h]
theorem insZ_perm (x : Int) : ∀ l, (insZ x l).Perm (x :: l)
  | [] => .refl _
  | y :: l => by
    rw [insZ_cons]
    split
    · exact .refl _
    · exact ((insZ_perm x l).cons y).trans (.swap x y l)
theorem insZ_sorted (x : Int) : ∀ l : List Int, l.Pairwise (· ≤ ·) → (insZ x l).Pairwise (· ≤ ·)
  | [], _ => List.pairwise_singleton _ _
  | y :: l, h => by
    rw [insZ_cons]
    obtain ⟨h1, h2⟩ := List.pairwise_cons.1 h
    split
    · rename_i hx
      refine List.pairwise_cons.2 ⟨fun a ha => ?_, h⟩
      rcases List.mem_cons.1 ha with rfl | ha
      · exact hx
      · have := h1 a ha; omega
    · rename_i hx
      refine List.pairwise_cons.2 ⟨fun a ha => ?_, insZ_sorted x l h2⟩
      rcases List.mem_cons.1 ((insZ_perm x l).mem_iff.1 ha) with rfl | ha
      · omega
      · exact h1 a ha
theorem srtZ_perm : ∀ l, (srtZ l).Perm l
  | [] => .refl _
  | x :: l => (insZ_perm x (srtZ l)).trans ((srtZ_perm l).cons x)
theorem srtZ_sorted : ∀ l, (srtZ l).Pairwise (· ≤ ·)
  | [] => .nil
  | x :: l => insZ_sorted x _ (srtZ_sorted l)
theorem srtZ_len (l : List Int) : (srtZ l).length = l.length := (srtZ_perm l).length_eq
theorem srtZ_merge (l : List Int) : srtZ l = l.mergeSort fun x y => decide (x ≤ y) := by
  have tr : ∀ a b c : Int, decide (a ≤ b) = true → decide (b ≤ c) = true → decide (a ≤ c) = true := fun a b c h1 h2 => by simp only [decide_eq_true_eq] at *; omega
  have to : ∀ a b : Int, (decide (a ≤ b) || decide (b ≤ a)) = true := fun a b => by simp only [Bool.or_eq_true, decide_eq_true_eq]; omega
  refine List.Perm.eq_of_pairwise (le := fun a b => a ≤ b) (fun a b _ _ h1 h2 => by omega) (srtZ_sorted l) ((List.pairwise_mergeSort tr to l).imp fun h => by simpa using h) ((srtZ_perm l).trans (List.mergeSort_perm l _).symm)
def wfZ (k : Int) : Bool := decide (-9223372036854775808 ≤ k) && decide (k ≤ 9223372036854775807)
noncomputable def keyZ (v : Value) : Option Int := match v with
  | .int .i64 k => (match wfZ k with | true => some k | false => none)
  | _ => none
noncomputable def keysZ (es : List MapEntry) : Option (List Int) := List.rec (motive := fun _ => Option (List Int)) (some []) (fun e _ ih => match keyZ e.key, ih with
  | some k, some l => some (k :: l)
  | _, _ => none) es
theorem keysZ_inv : ∀ {es : List MapEntry} {ks : List Int}, keysZ es = some ks → es.map (·.key) = ks.map encZ ∧ ∀ k ∈ ks, wfZ k = true
  | [], ks, h => by injection h with h; subst h; exact ⟨rfl, fun k hk => by cases hk⟩
  | e :: es, ks, h => by
    have h' : (match keyZ e.key, keysZ es with | some k, some l => some (k :: l) | _, _ => none) = some ks := h
    cases h1 : keyZ e.key with
    | none => rw [h1] at h'; cases h'
    | some k =>
      cases h2 : keysZ es with
      | none => rw [h1, h2] at h'; cases h'
      | some l =>
        rw [h1, h2] at h'
        injection h' with h'
        subst h'
        obtain ⟨a, b⟩ := keysZ_inv h2
        have hk : e.key = encZ k ∧ wfZ k = true := by
          unfold keyZ at h1
          split at h1
          · rename_i q hq
            split at h1
            · rename_i hw; injection h1 with h1; subst h1; exact ⟨hq, hw⟩
            · cases h1
          · cases h1
        exact ⟨by rw [List.map_cons, List.map_cons, hk.1, a], fun x hx => by
          rcases List.mem_cons.1 hx with rfl | hx
          · exact hk.2
          · exact b x hx⟩
noncomputable def memN (x : Nat) (l : List Nat) : Bool := List.rec (motive := fun _ => Bool) false (fun y _ ih => Nat.beq x y || ih) l
noncomputable def memZ (x : Int) (l : List Int) : Bool := List.rec (motive := fun _ => Bool) false (fun y _ ih => decide (x = y) || ih) l
theorem memN_iff {x : Nat} : ∀ {l : List Nat}, memN x l = true ↔ x ∈ l
  | [] => by show false = true ↔ _; simp
  | y :: l => by
    show (Nat.beq x y || memN x l) = true ↔ _
    rw [Bool.or_eq_true, Nat.beq_eq, memN_iff, List.mem_cons]
theorem memZ_iff {x : Int} : ∀ {l : List Int}, memZ x l = true ↔ x ∈ l
  | [] => by show false = true ↔ _; simp
  | y :: l => by
    show (decide (x = y) || memZ x l) = true ↔ _
    rw [Bool.or_eq_true, decide_eq_true_eq, memZ_iff, List.mem_cons]
noncomputable def stampZ (clock : Nat) (es : List MapEntry) : Bool := List.rec (motive := fun _ => Bool) true (fun e es ih => Nat.blt e.born clock && !memN e.born (es.map (·.born)) && ih) es
noncomputable def nodupZ (l : List Int) : Bool := List.rec (motive := fun _ => Bool) true (fun x l ih => !memZ x l && ih) l
theorem stampZ_ok {clock : Nat} : ∀ {es : List MapEntry}, stampZ clock es = true → (∀ x ∈ es, x.born < clock) ∧ (es.map (·.born)).Nodup
  | [], _ => ⟨(fun x hx => by cases hx), .nil⟩
  | e :: es, h => by
    have h' : (Nat.blt e.born clock && !memN e.born (es.map (·.born)) && stampZ clock es) = true := h
    simp only [Bool.and_eq_true, Bool.not_eq_true'] at h'
    obtain ⟨⟨h1, h2⟩, h3⟩ := h'
    obtain ⟨a, b⟩ := stampZ_ok h3
    refine ⟨fun x hx => ?_, ?_⟩
    · rcases List.mem_cons.1 hx with rfl | hx
      · exact Eq.mp Nat.blt_eq h1
      · exact a x hx
    · rw [List.map_cons, List.nodup_cons]
      exact ⟨(fun hm => by rw [memN_iff.2 hm] at h2; cases h2), b⟩
theorem nodupZ_ok : ∀ {l : List Int}, nodupZ l = true → l.Nodup
  | [], _ => .nil
  | x :: l, h => by
    have h' : (!memZ x l && nodupZ l) = true := h
    simp only [Bool.and_eq_true, Bool.not_eq_true'] at h'
    rw [List.nodup_cons]
    exact ⟨(fun hm => by rw [memZ_iff.2 hm] at h'; cases h'.1), nodupZ_ok h'.2⟩
theorem WRel.newIn {σ : Inj} {W : AW} {w w' : World} (h : WRel σ W w.heap) (hb : Below w.heap.size w w') {o : AObj} {B e : Nat} (hB : w.heap.size ≤ B) (hB' : B < w'.heap.size)
    (hnew : ORel (bind1 σ W.next ⟨B, 0, e⟩) w'.heap ⟨B, 0, e⟩ o) (hro : ∀ cs, o ≠ .ro cs) :
    WRel (bind1 σ W.next ⟨B, 0, e⟩) (W.add o) w'.heap ∧ Ext σ W w (bind1 σ W.next ⟨B, 0, e⟩) (W.add o) w' := by
  have hfr := h.fresh
  have hs : Sub σ (bind1 σ W.next ⟨B, 0, e⟩) := bind1_sub hfr
  have hold : ∀ b, b < w.heap.size → w'.heap[b]? = w.heap[b]? := hb.block
  have hsz := hb.size
  have hne : ∀ {c : Nat}, c ≠ W.next → (W.add o).get c = W.get c := fun hc => W.get_add_ne _ (Ne.symm hc)
  have hinv : ∀ c g, bind1 σ W.next ⟨B, 0, e⟩ c = some g → (c = W.next ∧ g = ⟨B, 0, e⟩) ∨ (c ≠ W.next ∧ σ c = some g) := fun c g hc => by
    unfold bind1 at hc
    split at hc
    · rename_i hx; injection hc with hc; exact .inl ⟨hx, hc.symm⟩
    · rename_i hx; exact .inr ⟨hx, hc⟩
  refine ⟨⟨?_, ?_, ?_, ?_⟩, ⟨hs, ?_, hsz, hb.os, hb.tape, hb.output, ?_, ?_, ?_⟩⟩
  · intro c hc
    have hc' : W.next + 1 ≤ c := hc
    rw [hne (by omega)]
    exact h.free c (by omega)
  · intro c g hc
    rcases hinv c g hc with ⟨rfl, rfl⟩ | ⟨_, h2⟩
    · exact ⟨by rw [AW.add_next]; omega, hB'⟩
    · have := h.dom c g h2
      exact ⟨by rw [AW.add_next]; omega, by omega⟩
  · intro c o2 g hc hk
    rcases hinv c g hk with ⟨rfl, rfl⟩ | ⟨h1, h2⟩
    · rw [AW.get_add] at hc
      injection hc with hc
      subst hc
      exact hnew
    · rw [hne h1] at hc
      exact ((h.obj c o2 g hc h2).mono hs).same (hold _ (h.dom c g h2).2)
  · intro b1 b2 o1 o2 g1 g2 hbb h1 h2 k1 k2 hr
    rcases hinv b1 g1 k1 with ⟨rfl, rfl⟩ | ⟨x1, y1⟩
    · rcases hinv b2 g2 k2 with ⟨rfl, rfl⟩ | ⟨x2, y2⟩
      · exact absurd rfl hbb
      · have := (h.dom _ _ y2).2
        exact .inl (by simp only [ne_eq]; omega)
    · rcases hinv b2 g2 k2 with ⟨rfl, rfl⟩ | ⟨x2, y2⟩
      · have := (h.dom _ _ y1).2
        exact .inl (by simp only [ne_eq]; omega)
      · rw [hne x1] at h1
        rw [hne x2] at h2
        exact h.disj _ _ _ _ _ _ hbb h1 h2 y1 y2 hr
  · intro b cs hb
    by_cases hx : b = W.next
    · subst hx
      rw [h.free _ (Nat.le_refl _)] at hb
      cases hb
    · rw [hne hx]; exact hb
  · intro b hb _; exact hold b hb
  · intro c o2 hc hk
    have hcn : c ≠ W.next := fun e => by subst e; rw [h.free _ (Nat.le_refl _)] at hc; cases hc
    refine ⟨by rw [hne hcn]; exact hc, ?_⟩
    unfold bind1
    rw [if_neg hcn]
    exact hk
  · intro c g hk hlt
    rcases hinv c g hk with ⟨rfl, rfl⟩ | ⟨h1, h2⟩
    · exact absurd hlt (by simp only; omega)
    · exact .inl h2
theorem WRel.below {σ : Inj} {W : AW} {w w' : World} (h : WRel σ W w.heap) (hb : Below w.heap.size w w') : WRel σ W w'.heap ∧ Ext σ W w σ W w' := by
  have hsz := hb.size
  exact ⟨⟨h.free, fun b g hg => ⟨(h.dom b g hg).1, Nat.lt_of_lt_of_le (h.dom b g hg).2 hsz⟩, fun b o g hbb hg => (h.obj b o g hbb hg).same (hb.block _ (h.dom b g hg).2), h.disj⟩,
    ⟨.refl _, fun _ _ h => h, hsz, hb.os, hb.tape, hb.output, fun B hB _ => hb.block B hB, fun _ _ h k => ⟨h, k⟩, fun b g hg _ => .inl hg⟩⟩
noncomputable def keyC (F g : Nat) (T : TypeId) : Callee := fun f args W => match f with
  | .func (.func h) fs cs => (match Nat.beq h F && (fs.isEmpty && cs.isEmpty) with
    | true => (match args with
      | [.map (some r)] => some (.func (.func g) #[] #[.pointer (some ⟨W.next, 0, none⟩)], W.add (.tc T [.map (some r)]))
      | _ => none)
    | false => none)
  | _ => none
noncomputable def sdKs (es : List MapEntry) (clock : Nat) : Option (List Int) := match keysZ es with
  | some ks => (match stampZ clock es && (nodupZ ks && Nat.ble ks.length 100000) with
    | true => some ks
    | false => none)
  | none => none
noncomputable def sdAt (W : AW) (b : Nat) : Option (List Int) := match W.get b with
  | some (.tc _ [.map (some r)]) => (match W.get r with
    | some (.map es clock) => sdKs es clock
    | _ => none)
  | _ => none
noncomputable def sdC (F g : Nat) : Callee := fun f args W => match f with
  | .func (.func h) fs cs => (match Nat.beq h F && (fs.isEmpty && cs.isEmpty) with
    | true => (match args with
      | [.func (.func k) a c] => (match Nat.beq k g && a.isEmpty with
        | true => (match c.toList with
          | [.pointer (some ⟨b, 0, none⟩)] => (match sdAt W b with
            | some [] => some (.slice none 0 0, W)
            | some (x :: ks) => some (.slice (some ⟨W.next, 0, none⟩) (ks.length + 1) (BIG + 1), W.add (.cells ((srtZ (x :: ks)).map encZ)))
            | none => none)
          | _ => none)
        | false => none)
      | _ => none)
    | false => none)
  | _ => none
section
variable {P : Program} {ng : List Nat}
theorem keyC_ok {F g : Nat} {T : TypeId} {fn : Func} {body : Code} (hfn : P.funcs[F]? = some fn) (hname : (fn.name == "runtime.NumGoroutine") = false) (hb : fn.body = some body)
    (hk : ∀ (mb : Option Nat) (w : World), Calls P F #[.map mb] w fun e w' => e = .returned (.func (.func g) #[] #[.pointer (some ⟨w.heap.size, 0, none⟩)]) ∧ w' = w.alloc (.cells #[.map mb] T)) : CalleeOK P ng (keyC F g T) := by
  intro f args W v W' h σ w f' args' hW hG hf hargs
  unfold keyC at h
  split at h
  case h_2 => cases h
  rename_i f0 fs cs
  split at h
  case h_2 => cases h
  rename_i hgf
  simp only [Bool.and_eq_true, Nat.beq_eq, Array.isEmpty_iff] at hgf
  obtain ⟨rfl, rfl, rfl⟩ := hgf
  split at h
  case h_2 => cases h
  rename_i r
  injection h with h
  injection h with h1 h2
  subst h1; subst h2
  obtain ⟨fn', fs', cs', hfr, hfs, hcs, rfl⟩ := hf.func_inv
  cases hfr
  obtain rfl : fs' = #[] := by
    have h1 : fs'.toList.length = 0 := hfs.1.symm
    exact Array.toList_eq_nil_iff.1 (List.length_eq_zero_iff.1 h1)
  obtain rfl : cs' = #[] := by
    have h1 : cs'.toList.length = 0 := hcs.1.symm
    exact Array.toList_eq_nil_iff.1 (List.length_eq_zero_iff.1 h1)
  obtain ⟨v', l', rfl, hv, hl⟩ := hargs.of_cons
  obtain rfl := hl.of_nil
  obtain ⟨sr, hsr, rfl⟩ : ∃ sr, σ r = some sr ∧ v' = .map (some sr.B) := by
    cases hv with
    | map r g h => exact ⟨g, h, rfl⟩
  refine ⟨run_callFunc_enter' hfn hname hb _ w, ?_⟩
  have e1 : (#[] : Array Value) ++ [Value.map (some sr.B)].toArray ++ #[] = #[.map (some sr.B)] := by simp
  rw [e1]
  refine CallsIn.mono (show CallsIn Fence.wide 0 P f0 _ w _ from (callsIn_wide (n := 0)).2 (hk (some sr.B) w)) ?_
  rintro e w' ⟨rfl, rfl⟩
  have hfr := hW.fresh
  obtain ⟨r1, r2⟩ := hW.alloc (o := .tc T [.map (some r)]) (x := .cells #[.map (some sr.B)] T) (e := 1)
    ⟨rfl, Nat.one_pos, ⟨by show 1 ≤ maxLen; decide, fun _ => rfl⟩, #[.map (some sr.B)], by rw [Array.getElem?_push]; simp, Nat.le_refl _, rfl, fun i v hv => by
      cases i with
      | zero =>
        simp only [List.getElem?_cons_zero, Option.some.injEq] at hv
        subst hv
        exact ⟨_, rfl, .map r sr (bind1_sub hfr _ _ hsr)⟩
      | succ i => simp at hv⟩ (fun _ hx => by cases hx)
  refine ⟨_, rfl, _, ?_, r1, r2⟩
  refine .func _ _ _ _ _ _ (.func g) rfl (fun i v v' a => by simp at a) rfl fun i v v' a b => ?_
  cases i with
  | zero =>
    simp only [List.getElem?_toArray, List.getElem?_cons_zero, Option.some.injEq] at a b
    subst a; subst b
    have := VR.ptr (σ := bind1 σ W.next ⟨w.heap.size, 0, 1⟩) ⟨W.next, 0, none⟩ ⟨w.heap.size, 0, 1⟩ bind1_same rfl
    exact this
  | succ i => simp at a
theorem own_of {w : World} {B : Nat} {σ : Inj} {es : List MapEntry} {es' : Array MapEntry} {clock : Nat} {ks : List Int} {KT : TypeId} (hkt : P.underlying KT = some (.int .i64)) (hB : w.heap[B]? = some (.map es' clock)) (he : ER σ es es'.toList) (h : sdKs es clock = some ks) :
    ∃ D0 : DataW Unit, w.ownsMap P KT (fun _ => some (.nil, [])) B ks.length D0 ∧ Maps.size D0 = ks.length ∧ (intKeys D0).Perm ks ∧ ks.length ≤ 100000 := by
  unfold sdKs at h
  split at h
  case h_2 => cases h
  rename_i ks0 hks
  split at h
  case h_2 => cases h
  rename_i hst
  injection h with h
  subst h
  simp only [Bool.and_eq_true] at hst
  obtain ⟨h1, h2, h3⟩ := hst
  obtain ⟨k1, k2⟩ := keysZ_inv hks
  obtain ⟨s1, s2⟩ := stampZ_ok h1
  have hnd := nodupZ_ok h2
  have hle := Nat.le_of_ble_eq_true h3
  have hlen : es.length = ks0.length := by have := congrArg List.length k1; simpa using this
  have hlen' : es'.toList.length = ks0.length := by rw [← he.1, hlen]
  have ek : es'.toList.map (·.key) = ks0.map encZ := by
    refine List.ext_getElem (by simp [← hlen']) fun i a b => ?_
    rw [List.length_map] at a b
    have hi : i < es.length := by omega
    obtain ⟨q, -, -⟩ := he.2 i es[i] es'.toList[i] (List.getElem?_eq_getElem hi) (List.getElem?_eq_getElem (by simpa using a))
    have e1 : es[i].key = encZ ks0[i] := by
      have := congrArg (·[i]?) k1
      simpa [List.getElem?_map, List.getElem?_eq_getElem hi, List.getElem?_eq_getElem b] using this
    rw [e1] at q
    rw [List.getElem_map, List.getElem_map]
    unfold encZ at q ⊢
    exact q.int_inv
  have eb : es'.toList.map (·.born) = es.map (·.born) := by
    refine List.ext_getElem (by simp; have := he.1; simp at this; omega) fun i a b => ?_
    rw [List.length_map] at a b
    obtain ⟨-, -, q⟩ := he.2 i es[i] es'.toList[i] (List.getElem?_eq_getElem b) (List.getElem?_eq_getElem a)
    rw [List.getElem_map, List.getElem_map, q]
  have hst : Stamped es' clock := by
    refine ⟨fun x hx => ?_, by rw [eb]; exact s2, by rw [ek]; exact List.pairwise_map.2 (hnd.imp fun hne e => hne (encZ_inj e))⟩
    have hm : x.born ∈ es'.toList.map (·.born) := List.mem_map_of_mem hx
    rw [eb] at hm
    obtain ⟨y, hy, e⟩ := List.mem_map.1 hm
    rw [← e]; exact s1 y hy
  have hrd : ∀ x ∈ es'.toList, ∃ k ∈ ks0, x.key = encZ k ∧ rd (H := Unit) P KT (fun _ => some (.nil, [])) x = some (.int .i64 k, .nil) := fun x hx => by
    have hm : x.key ∈ es'.toList.map (·.key) := List.mem_map_of_mem hx
    rw [ek] at hm
    obtain ⟨k, hk, e⟩ := List.mem_map.1 hm
    refine ⟨k, hk, e.symm, ?_⟩
    have hw := k2 k hk
    obtain ⟨key, val, born⟩ := x
    simp only at e
    subst e
    refine Go.WideElems.rd_mk (yv := (.nil, [])) ?_ rfl
    refine keyOf_int_mk hkt ?_
    unfold wfZ at hw
    simp only [Bool.and_eq_true, decide_eq_true_eq] at hw
    show (decide (IntKind.i64.min ≤ k) && decide (k ≤ IntKind.i64.max)) = true
    simp only [Bool.and_eq_true, decide_eq_true_eq]
    exact hw
  have hF : Fit (H := Unit) P KT (fun _ => some (.nil, [])) es' clock := ⟨by rw [← Array.length_toList, hlen']; exact Nat.le_trans hle (by decide), hst, fun x hx => let ⟨k, _, _, e⟩ := hrd x hx; ⟨_, e⟩⟩
  have hrg : (es'.toList.map (rg (H := Unit) P KT (fun _ => some (.nil, [])))).map (fun p => intOf p.1) = ks0 := by
    have : ∀ x ∈ es'.toList, intOf (rg (H := Unit) P KT (fun _ => some (.nil, [])) x).1 = (match x.key with | .int _ k => k | _ => 0) := fun x hx => by
      obtain ⟨k, _, e1, e2⟩ := hrd x hx
      rw [Go.WideElems.rg_of e2, e1]; rfl
    rw [List.map_map, List.map_congr_left (g := fun x => (match x.key with | .int _ k => k | _ => 0)) this]
    have e2 : es'.toList.map (fun x => (match x.key with | .int _ k => k | _ => 0)) = (es'.toList.map (·.key)).map fun v => (match v with | .int _ k => k | _ => (0 : Int)) := by rw [List.map_map]; rfl
    rw [e2, ek, List.map_map]
    exact (List.map_congr_left (g := id) fun k _ => rfl).trans (List.map_id _)
  refine ⟨_, ⟨es', clock, hB, hF, by rw [← Array.length_toList, hlen']; exact Nat.le_refl _, rfl⟩, ?_, ?_, hle⟩
  · show (List.foldr DataW.insert [] _).length = _
    rw [(sorted_perm _).length_eq, List.length_map, hlen']
  · show ((List.foldr DataW.insert [] _).map fun p => intOf p.1).Perm _
    have := (sorted_perm (es'.toList.map (rg (H := Unit) P KT (fun _ => some (.nil, []))))).map (fun p => intOf p.1)
    rwa [hrg] at this
theorem sdC_ok {F g : Nat} {fn : Func} {body : Code} (hfn : P.funcs[F]? = some fn) (hname : (fn.name == "runtime.NumGoroutine") = false) (hb : fn.body = some body) {KT : TypeId} (hkt : P.underlying KT = some (.int .i64))
    (hs : ∀ (Bm b nn : Nat) (D0 : DataW Unit) (w : World), Bm < w.heap.size → w.cell? ⟨Bm, 0, none⟩ = some (.map (some b)) → w.ownsMap P KT (fun _ => some (.nil, [])) b nn D0 → Maps.size D0 ≤ maxLen → Maps.size D0 * 8 ≤ 140737488355328 →
      Calls P F #[.func (.func g) #[] #[.pointer (some ⟨Bm, 0, none⟩)]] w fun e w' => ∃ (v : Value) (ss : List Int), e = .returned v ∧ ss.Perm (intKeys D0) ∧ w'.ownsRow w.heap.size KT 1 v ss.length ((ss.mergeSort (fun x y => decide (x ≤ y))).map encZ) ∧ (v = .slice none 0 0 ↔ ss = []) ∧ Below w.heap.size w w') : CalleeOK P ng (sdC F g) := by
  intro f args W v W' h σ w f' args' hW hG hf hargs
  unfold sdC at h
  split at h
  case h_2 => cases h
  rename_i f0 fs cs
  split at h
  case h_2 => cases h
  rename_i hgf
  simp only [Bool.and_eq_true, Nat.beq_eq, Array.isEmpty_iff] at hgf
  obtain ⟨rfl, rfl, rfl⟩ := hgf
  split at h
  case h_2 => cases h
  rename_i k0 a0 c0
  split at h
  case h_2 => cases h
  rename_i hgk
  simp only [Bool.and_eq_true, Nat.beq_eq, Array.isEmpty_iff] at hgk
  obtain ⟨rfl, rfl⟩ := hgk
  split at h
  case h_2 => cases h
  rename_i b hc0
  obtain ⟨fn', fs', cs', hfr, hfs, hcs, rfl⟩ := hf.func_inv
  cases hfr
  obtain rfl : fs' = #[] := by
    have h1 : fs'.toList.length = 0 := hfs.1.symm
    exact Array.toList_eq_nil_iff.1 (List.length_eq_zero_iff.1 h1)
  obtain rfl : cs' = #[] := by
    have h1 : cs'.toList.length = 0 := hcs.1.symm
    exact Array.toList_eq_nil_iff.1 (List.length_eq_zero_iff.1 h1)
  obtain rfl : c0 = #[.pointer (some ⟨b, 0, none⟩)] := Array.toList_inj.1 hc0
  obtain ⟨v', l', rfl, hv, hl⟩ := hargs.of_cons
  obtain rfl := hl.of_nil
  obtain ⟨fn2, fs2, cs2, hfr2, hfs2, hcs2, rfl⟩ := hv.func_inv
  cases hfr2
  obtain rfl : fs2 = #[] := by
    have h1 : fs2.toList.length = 0 := hfs2.1.symm
    exact Array.toList_eq_nil_iff.1 (List.length_eq_zero_iff.1 h1)
  obtain ⟨p', l2, hcl, hp, hl2⟩ := LR.of_cons hcs2
  obtain rfl := hl2.of_nil
  obtain ⟨sb, hsb, rfl⟩ : ∃ sb, σ b = some sb ∧ p' = .pointer (some ⟨sb.B, sb.s + 0, none⟩) := by
    cases hp with
    | ptr a g h hs => exact ⟨g, h, rfl⟩
  obtain rfl : cs2 = #[.pointer (some ⟨sb.B, sb.s + 0, none⟩)] := Array.toList_inj.1 hcl
  obtain ⟨ks, hks⟩ : ∃ ks, sdAt W b = some ks := by
    cases hx : sdAt W b with
    | none => rw [hx] at h; cases h
    | some ks => exact ⟨ks, rfl⟩
  have hks0 := hks
  unfold sdAt at hks0
  split at hks0
  case h_2 => cases hks0
  rename_i T r hbox
  split at hks0
  case h_2 => cases hks0
  rename_i es clock hmap
  obtain ⟨z1, z2, z3, c, z4, z5, z6, z7⟩ := hW.obj b _ sb hbox hsb
  obtain ⟨u, u1, u2⟩ := z7 0 _ rfl
  obtain ⟨sr, hsr, rfl⟩ : ∃ sr, σ r = some sr ∧ u = .map (some sr.B) := by
    cases u2 with
    | map r g h => exact ⟨g, h, rfl⟩
  obtain ⟨-, -, es', m1, m2⟩ := hW.obj r _ sr hmap hsr
  obtain ⟨D0, o1, o2, o3, o4⟩ := own_of (P := P) hkt m1 m2 hks0
  have hcell : w.cell? ⟨sb.B, 0, none⟩ = some (.map (some sr.B)) := by
    unfold World.cell?
    simp only [z4, u1]
    simp
  refine ⟨run_callFunc_enter' hfn hname hb _ w, ?_⟩
  have e1 : (#[] : Array Value) ++ [Value.func (.func k0) #[] #[.pointer (some ⟨sb.B, sb.s + 0, none⟩)]].toArray ++ #[] = #[.func (.func k0) #[] #[.pointer (some ⟨sb.B, 0, none⟩)]] := by simp [z1]
  rw [e1]
  have h100 : (100000 : Nat) ≤ maxLen := by decide
  refine CallsIn.mono (show CallsIn Fence.wide 0 P f0 _ w _ from (callsIn_wide (n := 0)).2 (hs sb.B sr.B ks.length D0 w (hW.dom b sb hsb).2 hcell o1 (by omega) (by omega))) ?_
  rintro e w' ⟨v2, ss, rfl, p1, p2, p3, p4⟩
  have hperm := p1.trans o3
  have hsl := hperm.length_eq
  have hms : ss.mergeSort (fun x y => decide (x ≤ y)) = srtZ ks := by rw [srtZ_merge]; exact mergeSort_of_perm_i hperm
  rw [hms] at p2
  rw [hks] at h
  cases ks with
  | nil =>
    simp only [Option.some.injEq, Prod.mk.injEq] at h
    obtain ⟨rfl, rfl⟩ := h
    have hss : ss = [] := List.length_eq_zero_iff.1 hsl
    obtain ⟨r1, r2⟩ := hW.below p4
    exact ⟨_, rfl, σ, by rw [p3.2 hss]; exact .snil _ _, r1, r2⟩
  | cons x ks =>
    simp only [Option.some.injEq, Prod.mk.injEq] at h
    obtain ⟨rfl, rfl⟩ := h
    have hss : ss ≠ [] := fun e => by rw [e] at hsl; simp at hsl
    rcases p2.2 with ⟨q1, q2⟩ | ⟨gb, cap, cur, rfl, hbase, hgb, i1, i2, i3, i4⟩
    · exact absurd (p3.1 q1) hss
    have hlen : ss.length = ks.length + 1 := by rw [hsl]; rfl
    rw [hlen] at i1 i4
    have hgl : gb < w'.heap.size := (Array.getElem?_eq_some_iff.1 hgb).1
    rw [Nat.mul_one] at i3 i4
    have hzl : (srtZ (x :: ks)).length = ks.length + 1 := srtZ_len _
    obtain ⟨r1, r2⟩ := hW.newIn p4 (o := .cells ((srtZ (x :: ks)).map encZ)) (B := gb) (e := cap) hbase hgl
      ⟨cur, KT, (0, 0), hgb, fun _ => rfl, by rw [List.length_map, hzl]; show 0 + (ks.length + 1) ≤ cap; omega, by rw [i3]; exact Nat.le_refl _, fun i v hv => by
        have hi : i < ks.length + 1 := by
          have := (List.getElem?_eq_some_iff.1 hv).1
          rw [List.length_map, hzl] at this; exact this
        rw [← i4, List.getElem?_take, if_pos hi, Array.getElem?_toList] at hv
        refine ⟨v, by rw [Nat.zero_add]; exact hv, ?_⟩
        have hm : v ∈ (srtZ (x :: ks)).map encZ := by
          rw [← i4]
          exact List.mem_of_getElem? (i := i) (by rw [List.getElem?_take, if_pos hi, Array.getElem?_toList]; exact hv)
        obtain ⟨y, -, rfl⟩ := List.mem_map.1 hm
        exact .int _ _⟩ (fun _ hx => by cases hx)
    refine ⟨_, rfl, _, ?_, r1, r2⟩
    rw [hlen]
    have := VR.slice (σ := bind1 σ W.next ⟨gb, 0, cap⟩) ⟨W.next, 0, none⟩ (ks.length + 1) (BIG + 1) cap ⟨gb, 0, cap⟩ bind1_same rfl (.open_ 1 cap Nat.one_pos i1 (by show 0 + 0 + cap * 1 = cap; omega) i2)
    exact this
end
end
end Go.Eng
namespace Go.Proofs.YtdiifccoaihffaaGreatDoor
open Go Go.Eng
def useL : List Int := [0, 1, 7, 27, 7, 7, 99, 67, 7, 64, 11, 11, 128]
def usesV : List Value := useL.map (Value.int .i64)
noncomputable def upF (n : Nat) : Nat → List Nat := Nat.rec (motive := fun _ => Nat → List Nat) (fun _ => []) (fun _ ih s => s :: ih (s + 1)) n
noncomputable def runF (l : List (Nat × Nat)) : List Nat := List.rec (motive := fun _ => List Nat) [] (fun p _ ih => List.rec (motive := fun _ => List Nat) ih (fun a _ r => a :: r) (upF p.2 p.1)) l
noncomputable def lkF (i : Nat) (l : List (Nat × List Nat)) : List Nat := List.rec (motive := fun _ => List Nat) [] (fun p _ ih => Bool.rec (motive := fun _ => List Nat) ih p.2 (Nat.beq p.1 i)) l
noncomputable def zF (x : List (Nat × List Nat)) (o : List Nat) : List (Nat × List Nat) := List.rec (motive := fun _ => List (Nat × List Nat)) [] (fun i _ r => (i, lkF i x) :: r) o
abbrev TB := T (List (Nat × List Nat))
noncomputable def tbZ (k n : Nat) (l : List (Nat × Nat)) (x : List (Nat × List Nat)) (t : TB) : TB := T.set (some (zF x (List.rec (motive := fun _ => List Nat) (upF n 0) (fun _ _ _ => runF l) l))) (path k) t
noncomputable def tab : TB := tbZ 49226 0 [(0,6),(7,3),(6,1),(10,2)] [] <|
  tbZ 557174 0 [(0,2),(3,1),(2,1),(4,4)] [(2,[3])] <|
  tbZ 557180 0 [(0,2),(3,1),(2,1),(4,4)] [(2,[3])] <|
  tbZ 565307 0 [(0,3),(4,3),(3,1),(7,3)] [(3,[6])] <|
  tbZ 565323 0 [(0,2),(3,2),(6,1),(2,1),(5,1),(7,3)] [(2,[4])] <|
  tbZ 577608 0 [(0,2),(3,2),(7,3),(2,1),(5,2),(10,3)] [(2,[9,4]),(5,[9])] <|
  tbZ 577630 0 [(0,4),(5,4),(4,1),(9,4)] [(4,[8,6])] <|
  tbZ 581733 0 [(0,4),(5,4),(4,1),(9,5)] [(4,[8,6])] <|
  tbZ 614559 0 [(0,15),(19,1),(15,4),(20,2)] [] <|
  tbZ 1601579 7 [] [(3,[1])] <|
  tbZ 1654910 0 [(0,12),(13,4),(12,1),(17,3)] [(12,[16,7,3]),(17,[7,3])] <|
  tbZ 1700185 31 [] [(24,[16,13,10,4]),(25,[4])] <|
  tbZ 2130136 0 [(0,3),(4,2),(3,1),(6,2)] [] <|
  tbZ 2138317 0 [(0,3),(4,2),(8,1),(3,1),(6,2),(9,1)] [] <|
  tbZ 2142405 0 [(0,5),(6,2),(5,1),(8,3)] [(5,[7,6])] <|
  tbZ 2150610 0 [(0,6),(10,1),(6,4),(11,2)] [] <|
  tbZ 2154873 14 [] [(8,[0])] <|
  tbZ 2183370 21 [] [(17,[7])] <|
  tbZ 2646246 0 [(0,1),(2,1),(1,1),(3,3)] [(1,[2])] <|
  tbZ 2691336 0 [(0,3),(4,4),(9,2),(13,2),(3,1),(8,1),(11,2),(15,2)] [] <|
  tbZ 2711837 22 [] [(15,[10,7,4,1]),(16,[1])] <|
  tbZ 2814443 0 [(0,20),(21,1),(20,1),(22,5),(28,1),(27,1),(29,5),(35,2),(34,1),(37,4),(42,2),(41,1),(44,3)] [(20,[21]),(27,[28]),(34,[36]),(41,[43])] <|
  tbZ 3162136 4 [] [(2,[1])] <|
  tbZ 3166259 5 [] [(2,[1])] <|
  tbZ 3170669 0 [(0,2),(3,1),(2,1),(4,2)] [(2,[3])] <|
  tbZ 3187091 10 [] [(7,[3,1])] <|
  tbZ 3191058 0 [(0,7),(8,1),(7,1),(9,2)] [(7,[0])] <|
  tbZ 3203465 14 [] [(12,[9,6])] <|
  tbZ 3211520 0 [(0,8),(9,4),(8,1),(13,3)] [(8,[3,1]),(13,[3,1])] <|
  tbZ 3699014 0 [(0,1),(2,2),(1,1),(4,3)] [(1,[2])] <|
  tbZ 4227420 0 [(1,2),(4,1),(6,1),(0,1),(3,1),(5,1),(7,1)] [(0,[2])] <|
  tbZ 4247968 0 [(0,6),(10,1),(6,4),(11,2)] [] <|
  tbZ 4776530 0 [(0,7),(11,1),(7,4),(12,2)] [] <|
  tbZ 5263427 5 [] [(2,[1])] <|
  tbZ 5292226 12 [] [(7,[5,3]),(9,[5])] <|
  tbZ 5296522 13 [] [(9,[1])] <|
  tbZ 5795937 7 [] [(3,[1])] <|
  tbZ 5800390 8 [] [(5,[4])] <|
  tbZ 6311989 5 [] [(2,[1])] <|
  tbZ 6345218 0 [(0,6),(7,3),(6,1),(10,3)] [(6,[8,3,1]),(10,[3,1])] <|
  tbZ 6357288 16 [] [(9,[7,5,3]),(11,[7,5]),(13,[7])] <|
  tbZ 6365815 0 [(0,3),(4,11),(3,1),(15,3)] [(3,[12,8])] <|
  tbZ 6885912 17 [] [(11,[1])] <|
  tbZ 7373428 8 [] [(6,[3])] <|
  tbZ 7405976 16 [] [(9,[7,5,3]),(11,[7,5]),(13,[7])] <|
  tbZ 7410516 0 [(0,1),(2,1),(1,1),(3,14)] [(1,[2])] <|
  tbZ 7463625 30 [] [(24,[4])] <|
  tbZ 8417402 7 [] [(3,[1])] <|
  tbZ 8438266 12 [] [(7,[5,3]),(9,[5])] <|
  tbZ 8491684 25 [] [(19,[4,0])] <|
  tbZ 8958634 0 [(0,4),(5,4),(4,1),(9,2)] [] <|
  tbZ 9499393 15 [] [(9,[1])] <|
  tbZ 10510486 6 [] [(2,[1])] <|
  tbZ 11059842 12 [] [(7,[5,3]),(9,[5])] <|
  tbZ 11572337 9 [] [(5,[4])] <|
  tbZ 13127778 5 [] [(2,[1])] <|
  tbZ 13144239 9 [] [(4,[2,1]),(5,[2])] <|
  tbZ 13652068 5 [] [(2,[1])] <|
  tbZ 14734278 0 [(0,5),(6,1),(5,1),(7,6)] [(5,[6])] <|
  tbZ 16269433 4 [] [(2,[1])] <|
  tbZ 17897464 17 [] [(13,[11])] <| .lf
def globW : List (Nat × List Value) := [(0, usesV)]
end Go.Proofs.YtdiifccoaihffaaGreatDoor
