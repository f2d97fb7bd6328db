/- Maps. -/
import Derived.Test.YtfcfglpkgcheiaaDoorEngG
namespace Go.Eng
open Go
set_option linter.unusedSectionVars false
variable [PlanTab]
set_option linter.unusedSimpArgs false

section
variable {P : Program} {σ : Inj} {W : AW} {w : World}

def FR (σ : Inj) : Option (Nat × Value) → Option (Nat × Value) → Prop
  | none, none => True
  | some (i, v), some (j, v') => i = j ∧ VR σ v v'
  | _, _ => False
theorem ER.of_cons {e : MapEntry} {l m : List MapEntry} (h : ER σ (e :: l) m) : ∃ e' l', m = e' :: l' ∧ VR σ e.key e'.key ∧ VR σ e.val e'.val ∧ e.born = e'.born ∧ ER σ l l' := by
  cases m with
  | nil => have := h.1; simp at this
  | cons e' l' =>
    have h0 := h.2 0 e e' (by simp) (by simp)
    exact ⟨e', l', rfl, h0.1, h0.2.1, h0.2.2, by have := h.1; simpa using this, fun i u u' a b => h.2 (i + 1) u u' (by simpa using a) (by simpa using b)⟩
theorem ER.of_nil {m : List MapEntry} (h : ER σ [] m) : m = [] := by
  have := h.1; simp at this; exact List.eq_nil_of_length_eq_zero this.symm
theorem ER.nil : ER σ [] [] := ⟨rfl, fun i e e' a => by simp at a⟩

def keysPlain (es : List MapEntry) : Bool := es.all fun e => plain e.key
theorem findNow_rel (kind : TypeDesc) (k : Value) : ∀ (es es' : List MapEntry) (i : Nat) (r : Option (Nat × Value)), ER σ es es' → keysPlain es = true → Instr.findNow kind k es i = some r →
    ∃ r', Instr.findNow kind k es' i = some r' ∧ FR σ r r' := by
  intro es
  induction es with
  | nil => intro es' i r h _ hf; have := h.of_nil; subst this; simp only [Instr.findNow] at hf ⊢; injection hf with hf; subst hf; exact ⟨none, rfl, trivial⟩
  | cons e es ih =>
    intro es' i r h hp hf
    obtain ⟨e', l', rfl, hk, hv, _, hl⟩ := h.of_cons
    simp only [keysPlain, List.all_cons, Bool.and_eq_true] at hp
    have hke := plain_eq hp.1 hk
    simp only [Instr.findNow] at hf ⊢
    rw [hke]
    cases hs : Instr.sameNow kind k e.key with
    | none => rw [hs] at hf; cases hf
    | some b =>
      rw [hs] at hf
      cases b with
      | true => simp only at hf ⊢; injection hf with hf; subst hf; exact ⟨_, rfl, rfl, hv⟩
      | false => simp only at hf ⊢; exact ih l' (i + 1) r hl hp.2 hf
noncomputable def aAsk (P : Program) (kt : TypeId) (k : Value) : List MapEntry → Nat → Option (Option (Nat × Value))
  | [], _ => some none
  | e :: es, i => match pureRun P (Op.equal kt k e.key) with
    | some true => some (some (i, e.val))
    | some false => aAsk P kt k es (i + 1)
    | none => none
theorem findAsking_rel (kt : TypeId) (k : Value) : ∀ (es es' : List MapEntry) (i : Nat) (r : Option (Nat × Value)), ER σ es es' → keysPlain es = true → aAsk P kt k es i = some r →
    ∃ r', (Instr.findAsking kt k es' i).run P w = .ok r' w ∧ FR σ r r' := by
  intro es
  induction es with
  | nil => intro es' i r h _ hf; have := h.of_nil; subst this; simp only [aAsk] at hf; injection hf with hf; subst hf; exact ⟨none, rfl, trivial⟩
  | cons e es ih =>
    intro es' i r h hp hf
    obtain ⟨e', l', rfl, hk, hv, _, hl⟩ := h.of_cons
    simp only [keysPlain, List.all_cons, Bool.and_eq_true] at hp
    have hke := plain_eq hp.1 hk
    simp only [aAsk] at hf
    cases hs : pureRun P (Op.equal kt k e.key) with
    | none => rw [hs] at hf; cases hf
    | some b =>
      rw [hs] at hf
      have hr := pureRun_run _ hs w
      rw [← hke] at hr
      cases b with
      | true => simp only at hf; injection hf with hf; subst hf; exact ⟨some (i, e'.val), by simp [Instr.findAsking, hr], rfl, hv⟩
      | false =>
        simp only at hf
        obtain ⟨r', h1, h2⟩ := ih l' (i + 1) r hl hp.2 hf
        exact ⟨r', by simp [Instr.findAsking, hr, h1], h2⟩
noncomputable def aFind (P : Program) (kt : TypeId) (k : Value) (es : List MapEntry) : Option (Option (Nat × Value)) :=
  if plain k = true ∧ keysPlain es = true then
    match P.underlying kt with
    | some kind => match Instr.findNow kind k es 0 with
      | some r => some r
      | none => none
    | none => none
  else none
noncomputable def aFind2 (P : Program) (kt : TypeId) (k : Value) (es : List MapEntry) : Option (Option (Nat × Value)) :=
  match aFind P kt k es with
  | some r => some r
  | none => if plain k = true ∧ keysPlain es = true then
      match P.underlying kt with
      | some (.array n e) => (match Instr.findNow (.array n e) k es 0 with | some _ => none | none => aAsk P kt k es 0)
      | some (.struct fs) => (match Instr.findNow (.struct fs) k es 0 with | some _ => none | none => aAsk P kt k es 0)
      | _ => none
    else none
theorem findNow_none (kind : TypeDesc) (k : Value) : ∀ (es es' : List MapEntry) (i : Nat), ER σ es es' → keysPlain es = true → Instr.findNow kind k es i = none → Instr.findNow kind k es' i = none := by
  intro es
  induction es with
  | nil => intro es' i h _ hf; simp [Instr.findNow] at hf
  | cons e es ih =>
    intro es' i h hp hf
    obtain ⟨e', l', rfl, hk, hv, _, hl⟩ := h.of_cons
    simp only [keysPlain, List.all_cons, Bool.and_eq_true] at hp
    have hke := plain_eq hp.1 hk
    simp only [Instr.findNow] at hf ⊢
    rw [hke]
    cases hs : Instr.sameNow kind k e.key with
    | none => rfl
    | some b =>
      rw [hs] at hf
      cases b with
      | true => simp at hf
      | false => simp only at hf ⊢; exact ih l' (i + 1) hl hp.2 hf
theorem aFind_run {kt : TypeId} {k k' : Value} {es es' : List MapEntry} {r : Option (Nat × Value)} (h : aFind2 P kt k es = some r) (hk : VR σ k k') (he : ER σ es es') :
    ∃ r', (Instr.findKey kt k' es').run P w = .ok r' w ∧ FR σ r r' ∧ k' = k := by
  unfold aFind2 at h
  split at h
  · rename_i r0 h0
    injection h with h
    subst h
    unfold aFind at h0
    split at h0
    · rename_i hc
      have hke := plain_eq hc.1 hk
      subst hke
      split at h0
      · rename_i kind hu
        split at h0
        · rename_i r1 h1
          injection h0 with h0
          subst h0
          obtain ⟨r', a, b⟩ := findNow_rel kind k' es es' 0 r1 he hc.2 h1
          exact ⟨r', by simp [Instr.findKey, run_underlying hu, a], b, rfl⟩
        · cases h0
      · cases h0
    · cases h0
  · split at h
    · rename_i hc
      have hke := plain_eq hc.1 hk
      subst hke
      split at h
      · rename_i n e hu
        split at h
        · cases h
        · rename_i h1
          obtain ⟨r', a, b⟩ := findAsking_rel (P := P) (w := w) kt k' es es' 0 r he hc.2 h
          exact ⟨r', by simp [Instr.findKey, run_underlying hu, findNow_none _ _ es es' 0 he hc.2 h1, a], b, rfl⟩
      · rename_i fs hu
        split at h
        · cases h
        · rename_i h1
          obtain ⟨r', a, b⟩ := findAsking_rel (P := P) (w := w) kt k' es es' 0 r he hc.2 h
          exact ⟨r', by simp [Instr.findKey, run_underlying hu, findNow_none _ _ es es' 0 he hc.2 h1, a], b, rfl⟩
      · cases h
    · cases h

noncomputable def keyOk (P : Program) (empty : Bool) (kt : TypeId) (k : Value) : Bool :=
  plain k && (pureRun P (Instr.checkKey empty 10000 kt k)).isSome
theorem keyOk_run {empty : Bool} {kt : TypeId} {k k' : Value} (h : keyOk P empty kt k = true) (hk : VR σ k k') (w : World) : (Instr.checkKey empty 10000 kt k').run P w = .ok () w := by
  simp only [keyOk, Bool.and_eq_true] at h
  rw [plain_eq h.1 hk]
  cases hp : pureRun P (Instr.checkKey empty 10000 kt k) with
  | none => rw [hp] at h; simp at h
  | some u => exact pureRun_run _ hp w

theorem zero_VR {z : Value} (h : z.cells.toList.all scalar = true) : VR σ z z := by
  cases z with
  | agg cs => exact VR.agg' (LR.refl_of (fun _ => scalar_refl) h)
  | _ => exact scalar_refl (by simpa [Value.cells] using h)
theorem map_obj (hW : WRel σ W w.heap) {r : Nat} {g : Seg} {es : List MapEntry} {c : Nat} (hr : W.get r = some (.map es c)) (hg : σ r = some g) :
    g.s = 0 ∧ g.e = 1 ∧ ∃ es' : Array MapEntry, w.heap[g.B]? = some (.map es' c) ∧ ER σ es es'.toList := hW.obj r _ g hr hg
theorem run_getObj_map {B : Nat} {es : Array MapEntry} {c : Nat} (h : w.heap[B]? = some (.map es c)) : (getObj B).run P w = .ok (.map es c) w := by simp [getObj, Sem.run, h]
theorem run_setObj_map {B : Nat} {es : Array MapEntry} {c : Nat} (o : Obj) (h : w.heap[B]? = some (.map es c)) : (setObj B o).run P w = .ok () { w with heap := w.heap.setIfInBounds B o } := by simp [setObj, Sem.run, h]

noncomputable def aFound (P : Program) (e : TypeId) (ok : Bool) (r : Option (Nat × Value)) : Option Value :=
  match r with
  | some (_, v) => some (if ok then .tuple #[v, .bool true] else v)
  | none => match tZero P e with
    | some z => some (if ok then .tuple #[z, .bool false] else z)
    | none => none
noncomputable def aLookup (P : Program) (W : AW) (t : TypeId) (m k : Value) (ok : Bool) : Option Value :=
  match P.underlying t, m with
  | some (.map kt e), .map none => if keyOk P true kt k then aFound P e ok none else none
  | some (.map kt e), .map (some r) => match W.get r with
    | some (.map es _) => if keyOk P es.isEmpty kt k then match aFind2 P kt k es with
        | some r => aFound P e ok r
        | none => none
      else none
    | _ => none
  | _, _ => none
theorem two_VR {a b a' b' : Value} (h1 : VR σ a a') (h2 : VR σ b b') : VR σ (.tuple #[a, b]) (.tuple #[a', b']) := VR.tuple' (by simpa using LR.cons h1 (.cons h2 .nil))
theorem findKey_nil (kt : TypeId) (d : TypeDesc) (hu : P.underlying kt = some d) (k : Value) : (Instr.findKey kt k []).run P w = .ok none w := by
  simp [Instr.findKey, run_underlying hu, Instr.findNow]
theorem checkKey_none {kt : TypeId} (h : P.underlying kt = none) (empty : Bool) (d : Nat) (k : Value) : (Instr.checkKey empty (d + 1) kt k).run P w = .halt (.stuck "no such type") w := by
  simp [Instr.checkKey, underlying, h]
theorem keyOk_under {empty : Bool} {kt : TypeId} {k : Value} (h : keyOk P empty kt k = true) : ∃ d, P.underlying kt = some d := by
  simp only [keyOk, Bool.and_eq_true] at h
  cases hp : pureRun P (Instr.checkKey empty 10000 kt k) with
  | none => rw [hp] at h; simp at h
  | some u =>
    have hr := pureRun_run (P := P) _ hp default
    cases hd : P.underlying kt with
    | some d => exact ⟨d, rfl⟩
    | none =>
      exfalso
      have h1 : (Instr.checkKey empty 10000 kt k).run P default = .halt (.stuck "no such type") default := checkKey_none hd empty 9999 k
      rw [h1] at hr
      cases hr
theorem isEmpty_rel {es : List MapEntry} {es' : Array MapEntry} (h : ER σ es es'.toList) : es'.isEmpty = es.isEmpty := by
  obtain ⟨l⟩ := es'
  have h1 := h.1
  cases es <;> cases l <;> first | rfl | (simp at h1; done) | simp
theorem eraseIdx_rel (es' : Array MapEntry) (i : Nat) : (es'.eraseIdxIfInBounds i).toList = es'.toList.eraseIdx i := by
  unfold Array.eraseIdxIfInBounds
  split
  · simp
  · rename_i hi; rw [List.eraseIdx_of_length_le]; simp; omega
theorem modify_eq (es' : Array MapEntry) (i : Nat) (hi : i < es'.size) (k v : Value) : es'.modify i (fun e => { e with key := k, val := v }) = es'.setIfInBounds i { es'[i] with key := k, val := v } := by
  apply Array.ext_getElem?
  intro n
  rw [Array.getElem?_modify, Array.getElem?_setIfInBounds]
  by_cases hn : i = n
  · subst hn; simp [hi]
  · simp [hn]
theorem aLookup_run (hW : WRel σ W w.heap) {t : TypeId} {m k m' k' v : Value} {ok : Bool} (h : aLookup P W t m k ok = some v) (hm : VR σ m m') (hk : VR σ k k') :
    ∃ v', (Instr.lookup t m' k' ok).run P w = .ok v' w ∧ VR σ v v' := by
  unfold aLookup at h
  split at h
  · rename_i kt e hu
    split at h
    · rename_i hko
      cases hm
      obtain ⟨d, hd⟩ := keyOk_under hko
      simp only [aFound] at h
      split at h
      · rename_i z hz
        injection h with h
        subst h
        obtain ⟨hz1, hz2⟩ := tZero_run hz w
        refine ⟨if ok then .tuple #[z, .bool false] else z, ?_, ?_⟩
        · simp [Instr.lookup, run_underlying hu, keyOk_run hko hk w, findKey_nil kt d hd, hz1]
        · cases ok
          · exact zero_VR hz2
          · exact two_VR (zero_VR hz2) (.bool false)
      · cases h
    · cases h
  · rename_i kt e r hu
    split at h
    · rename_i es c hr
      split at h
      · rename_i hko
        split at h
        · rename_i fr hf
          cases hm with
          | map _ g hg =>
            obtain ⟨g1, g2, es', g3, g4⟩ := map_obj hW hr hg
            obtain ⟨r', f1, f2, f3⟩ := aFind_run (w := w) hf hk g4
            have hemp := isEmpty_rel g4
            cases fr with
            | some p =>
              cases r' with
              | none => exact f2.elim
              | some p' =>
                simp only [aFound] at h
                injection h with h
                subst h
                refine ⟨if ok then .tuple #[p'.2, .bool true] else p'.2, ?_, ?_⟩
                · simp only [Instr.lookup, Sem.run_bind, run_underlying hu, Result.andThen_ok, run_getObj_map g3, Sem.run_pure, hemp, keyOk_run hko hk w, f1]
                · cases ok
                  · exact f2.2
                  · exact two_VR f2.2 (.bool true)
            | none =>
              cases r' with
              | some p' => exact f2.elim
              | none =>
                simp only [aFound] at h
                split at h
                · rename_i z hz
                  injection h with h
                  subst h
                  obtain ⟨hz1, hz2⟩ := tZero_run hz w
                  refine ⟨if ok then .tuple #[z, .bool false] else z, ?_, ?_⟩
                  · simp only [Instr.lookup, Sem.run_bind, run_underlying hu, Result.andThen_ok, run_getObj_map g3, Sem.run_pure, hemp, keyOk_run hko hk w, f1, hz1]
                  · cases ok
                    · exact zero_VR hz2
                    · exact two_VR (zero_VR hz2) (.bool false)
                · cases h
        · cases h
      · cases h
    · cases h
  · cases h

noncomputable def aMapUpdate (P : Program) (W : AW) (t : TypeId) (m k v : Value) : Option AW :=
  match P.underlying t, m with
  | some (.map kt _), .map (some r) => match W.get r with
    | some (.map es c) => if keyOk P false kt k then match aFind2 P kt k es with
        | some (some (i, _)) => match es[i]? with
          | some e => if Instr.sameBits 10000 e.key k = true ∧ plain e.key = true then some (W.put r (.map (es.set i { e with key := k, val := v }) c)) else none
          | none => none
        | some none => some (W.put r (.map (es ++ [{ key := k, val := v, born := c }]) (c + 1)))
        | none => none
      else none
    | _ => none
  | _, _ => none
theorem ER.set {es es' : List MapEntry} (h : ER σ es es') (i : Nat) {e e' : MapEntry} (hk : VR σ e.key e'.key) (hv : VR σ e.val e'.val) (hb : e.born = e'.born) : ER σ (es.set i e) (es'.set i e') := by
  refine ⟨by simp [h.1], fun j a b x y => ?_⟩
  rw [List.getElem?_set] at x y
  by_cases hn : i = j
  · subst hn
    simp only [if_true] at x y
    split at x
    · split at y
      · simp at x y; subst x; subst y; exact ⟨hk, hv, hb⟩
      · cases y
    · cases x
  · rw [if_neg hn] at x y; exact h.2 j a b x y
theorem ER.snoc {es es' : List MapEntry} (h : ER σ es es') {e e' : MapEntry} (hk : VR σ e.key e'.key) (hv : VR σ e.val e'.val) (hb : e.born = e'.born) : ER σ (es ++ [e]) (es' ++ [e']) := by
  refine ⟨by simp [h.1], fun j a b x y => ?_⟩
  rw [List.getElem?_append] at x y
  rw [← h.1] at y
  split at x
  · rename_i hj; rw [if_pos hj] at y; exact h.2 j a b x y
  · rename_i hj
    rw [if_neg hj] at y
    cases hjj : j - es.length with
    | zero => rw [hjj] at x y; simp at x y; subst x; subst y; exact ⟨hk, hv, hb⟩
    | succ n => rw [hjj] at x; simp at x
theorem ER.erase {es es' : List MapEntry} (h : ER σ es es') (i : Nat) : ER σ (es.eraseIdx i) (es'.eraseIdx i) := by
  refine ⟨by simp [List.length_eraseIdx, h.1], fun j a b x y => ?_⟩
  rw [List.getElem?_eraseIdx] at x y
  split at x
  · rename_i hj; rw [if_pos hj] at y; exact h.2 _ a b x y
  · rename_i hj; rw [if_neg hj] at y; exact h.2 _ a b x y
theorem map_put (hW : WRel σ W w.heap) {r : Nat} {g : Seg} {es es2 : List MapEntry} {es' : Array MapEntry} {c c2 : Nat} (hr : W.get r = some (.map es c)) (hg : σ r = some g) (h1 : g.s = 0) (h2 : g.e = 1) (h3 : w.heap[g.B]? = some (.map es' c))
    (es2' : Array MapEntry) (he : ER σ es2 es2'.toList) :
    WRel σ (W.put r (.map es2 c2)) (w.heap.setIfInBounds g.B (.map es2' c2)) ∧ Ext σ W w σ (W.put r (.map es2 c2)) { w with heap := w.heap.setIfInBounds g.B (.map es2' c2) } := by
  have hlt : g.B < w.heap.size := (Array.getElem?_eq_some_iff.1 h3).1
  exact hW.setObj hr (fun _ hx => by cases hx) hg ⟨h1, h2⟩ (fun c t fr hx => by rw [h3] at hx; cases hx)
    ⟨h1, h2, es2', by simp [Array.getElem?_setIfInBounds, hlt], he⟩
theorem aMapUpdate_run (hW : WRel σ W w.heap) {t : TypeId} {m k v m' k' v' : Value} {W' : AW} (h : aMapUpdate P W t m k v = some W') (hm : VR σ m m') (hk : VR σ k k') (hv : VR σ v v') :
    ∃ w', (Instr.mapUpdate t m' k' v').run P w = .ok () w' ∧ WRel σ W' w'.heap ∧ Ext σ W w σ W' w' := by
  unfold aMapUpdate at h
  split at h
  · rename_i kt e r hu
    split at h
    · rename_i es c hr
      split at h
      · rename_i hko
        cases hm with
        | map _ g hg =>
          obtain ⟨g1, g2, es', g3, g4⟩ := map_obj hW hr hg
          split at h
          · rename_i i u hf
            obtain ⟨r', f1, f2, f3⟩ := aFind_run (w := w) hf hk g4
            subst f3
            split at h
            · rename_i en hen
              split at h
              · rename_i hsb
                injection h with h
                subst h
                cases r' with
                | none => exact f2.elim
                | some p =>
                  obtain ⟨j, u'⟩ := p
                  obtain ⟨rfl, _⟩ := f2
                  have hi' : i < es'.size := by
                    have h0 := (List.getElem?_eq_some_iff.1 hen).1
                    have := g4.1
                    simp at this
                    omega
                  have hen' : es'[i]? = some es'[i] := Array.getElem?_eq_getElem hi'
                  have hee := g4.2 i en es'[i] hen (by simp [hi'])
                  have hkeq : es'[i].key = en.key := plain_eq hsb.2 hee.1
                  obtain ⟨q1, q2⟩ := map_put (c2 := c) hW hr hg g1 g2 g3 (es'.setIfInBounds i { es'[i] with key := k', val := v' }) (es2 := es.set i { en with key := k', val := v })
                    (by rw [Array.toList_setIfInBounds]; exact g4.set i (e := { en with key := k', val := v }) (e' := { es'[i] with key := k', val := v' }) hk hv hee.2.2)
                  refine ⟨_, ?_, q1, q2⟩
                  have hmod := modify_eq es' i hi' k' v'
                  have hks : (Instr.keyThatStays (((es'[i]?).map (·.key)).getD k') k').run P w = .ok k' w := by
                    rw [hen']
                    simp only [Option.map_some, Option.getD_some, hkeq, Instr.keyThatStays]
                    rw [if_pos hsb.1]
                    rfl
                  simp only [Instr.mapUpdate, Sem.run_bind, run_underlying hu, Result.andThen_ok, run_getObj_map g3, keyOk_run hko hk w, f1, hks, hmod]
                  exact run_setObj_map _ g3
              · cases h
            · cases h
          · rename_i hf
            obtain ⟨r', f1, f2, f3⟩ := aFind_run (w := w) hf hk g4
            subst f3
            injection h with h
            subst h
            cases r' with
            | some p => exact f2.elim
            | none =>
              obtain ⟨q1, q2⟩ := map_put (c2 := c + 1) hW hr hg g1 g2 g3 (es'.push { key := k', val := v', born := c }) (es2 := es ++ [{ key := k', val := v, born := c }])
                (by rw [Array.toList_push]; exact g4.snoc (e := { key := k', val := v, born := c }) (e' := { key := k', val := v', born := c }) hk hv rfl)
              refine ⟨_, ?_, q1, q2⟩
              simp only [Instr.mapUpdate, Sem.run_bind, run_underlying hu, Result.andThen_ok, run_getObj_map g3, keyOk_run hko hk w, f1]
              exact run_setObj_map _ g3
          · cases h
      · cases h
    · cases h
  · cases h

noncomputable def aDelete (P : Program) (W : AW) (argTypes : Array TypeId) (m k : Value) : Option AW :=
  match argTypes.toList with
  | t :: _ => match P.underlying t, m with
    | some (.map kt _), .map none => if keyOk P true kt k then some W else none
    | some (.map kt _), .map (some r) => match W.get r with
      | some (.map es c) => if keyOk P es.isEmpty kt k then match aFind2 P kt k es with
          | some (some (i, _)) => some (W.put r (.map (es.eraseIdx i) c))
          | some none => some (W.put r (.map es c))
          | none => none
        else none
      | _ => none
    | _, _ => none
  | [] => none
theorem aDelete_run (hW : WRel σ W w.heap) {argTypes : Array TypeId} {ty : TypeId} {m k m' k' : Value} {W' : AW} (h : aDelete P W argTypes m k = some W') (hm : VR σ m m') (hk : VR σ k k') :
    ∃ w', (Builtin.delete_ argTypes ty #[m', k']).run P w = .ok (.tuple #[]) w' ∧ WRel σ W' w'.heap ∧ Ext σ W w σ W' w' := by
  unfold aDelete at h
  split at h
  · rename_i t rest hat
    have hat' : argTypes = (t :: rest).toArray := by rw [← hat]
    subst hat'
    split at h
    · rename_i kt e hu
      split at h
      · rename_i hko
        injection h with h
        subst h
        cases hm
        refine ⟨w, ?_, hW, Ext.refl _ _ _⟩
        simp [Builtin.delete_, run_underlying hu, keyOk_run hko hk w]
      · cases h
    · rename_i kt e r hu
      split at h
      · rename_i es c hr
        split at h
        · rename_i hko
          cases hm with
          | map _ g hg =>
            obtain ⟨g1, g2, es', g3, g4⟩ := map_obj hW hr hg
            have hemp := isEmpty_rel g4
            split at h
            · rename_i i u hf
              obtain ⟨r', f1, f2, f3⟩ := aFind_run (w := w) hf hk g4
              subst f3
              injection h with h
              subst h
              cases r' with
              | none => exact f2.elim
              | some p =>
                obtain ⟨j, u'⟩ := p
                obtain ⟨rfl, _⟩ := f2
                obtain ⟨q1, q2⟩ := map_put (c2 := c) hW hr hg g1 g2 g3 (es'.eraseIdxIfInBounds i) (es2 := es.eraseIdx i)
                  (by rw [eraseIdx_rel]; exact g4.erase i)
                refine ⟨_, ?_, q1, q2⟩
                have hso := run_setObj_map (P := P) (.map (es'.eraseIdxIfInBounds i) c) g3
                simp [Builtin.delete_, run_underlying hu, run_getObj_map g3, hemp, keyOk_run hko hk w, f1, hso]
            · rename_i hf
              obtain ⟨r', f1, f2, f3⟩ := aFind_run (w := w) hf hk g4
              subst f3
              injection h with h
              subst h
              cases r' with
              | some p => exact f2.elim
              | none =>
                obtain ⟨q1, q2⟩ := map_put (c2 := c) hW hr hg g1 g2 g3 es' (es2 := es) g4
                refine ⟨_, ?_, q1, q2⟩
                have hso := run_setObj_map (P := P) (.map es' c) g3
                simp [Builtin.delete_, run_underlying hu, run_getObj_map g3, hemp, keyOk_run hko hk w, f1, hso]
            · cases h
        · cases h
      · cases h
    · cases h
  · cases h
end
end Go.Eng
