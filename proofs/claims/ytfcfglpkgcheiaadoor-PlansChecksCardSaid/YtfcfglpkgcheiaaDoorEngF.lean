/- append, copy, clear. -/
import Derived.Test.YtfcfglpkgcheiaaDoorEngE
import Derived.ArgAppend
import Derived.Laws.Append
namespace Go.Eng
open Go
set_option linter.unusedSectionVars false
variable [PlanTab]
set_option linter.unusedSimpArgs false

section
variable {P : Program} {σ : Inj} {W : AW} {w w' : World}

/-- THE END OF A BLOCK BECOMES A BLOCK OF ITS OWN; the elder one is given up -/
theorem WRel.reseat (h : WRel σ W w.heap) {b off : Nat} {cs cs' : List Value} {g : Seg} (hb : W.get b = some (.cells cs)) (hg : σ b = some g)
    (hsz : w'.heap.size = w.heap.size) (hos : w'.os = w.os) (htp : w'.tape = w.tape) (hout : w'.output = w.output)
    (hother : ∀ B, B ≠ g.B → w'.heap[B]? = w.heap[B]?)
    {c c' : Array Value} {t : TypeId} (hc : w.heap[g.B]? = some (.cells c t (0, 0))) (hc' : w'.heap[g.B]? = some (.cells c' t (0, 0))) (hcs : c'.size = c.size)
    (hout' : ∀ i, i < g.s + off ∨ g.e ≤ i → c'[i]? = c[i]?) (hlen : g.s + off + cs'.length ≤ g.e)
    (hin : ∀ (i : Nat) (v : Value), cs'[i]? = some v → ∃ v', c'[g.s + off + i]? = some v' ∧ VR σ v v') :
    WRel (bind1 σ W.next ⟨g.B, g.s + off, g.e⟩) ((W.kill b).add (.cells cs')) w'.heap ∧ Ext σ W w (bind1 σ W.next ⟨g.B, g.s + off, g.e⟩) ((W.kill b).add (.cells cs')) w' := by
  have hfr := h.fresh
  have hs : Sub σ (bind1 σ W.next ⟨g.B, g.s + off, g.e⟩) := bind1_sub hfr
  have hbn := h.dom b g hg
  have hk : ∀ c o, c ≠ W.next → ((W.kill b).add (.cells cs')).get c = some o → c ≠ b ∧ W.get c = some o := fun c o hcn hx => by
    rw [AW.get_add_ne _ _ (by rw [AW.kill_next]; exact Ne.symm hcn)] at hx
    by_cases hcb : c = b
    · subst hcb; rw [AW.get_kill] at hx; cases hx
    · rw [AW.get_kill_ne _ (Ne.symm hcb)] at hx; exact ⟨hcb, hx⟩
  have hknew : ((W.kill b).add (.cells cs')).get W.next = some (.cells cs') := AW.get_add (W.kill b) _
  have hinv : ∀ c k, bind1 σ W.next ⟨g.B, g.s + off, g.e⟩ c = some k → (c = W.next ∧ k = ⟨g.B, g.s + off, g.e⟩) ∨ (c ≠ W.next ∧ σ c = some k) := fun c k hx => by
    unfold bind1 at hx
    split at hx
    · rename_i he; injection hx with hx; exact .inl ⟨he, hx.symm⟩
    · rename_i he; exact .inr ⟨he, hx⟩
  have hbro : ∀ cs, W.get b ≠ some (.ro cs) := fun cs hx => by rw [hb] at hx; cases hx
  obtain ⟨c0, t0, q1, q2, q3, q4⟩ := h.obj b _ g hb hg
  rw [hc] at q1
  injection q1 with q1
  injection q1 with q1 q1'
  subst q1
  refine ⟨⟨?_, ?_, ?_, ?_⟩, ⟨hs, ?_, ?_, hos, htp, hout, ?_, ?_, ?_, ?_⟩⟩
  · intro x hx
    have hx' : W.next + 1 ≤ x := hx
    cases hy : ((W.kill b).add (.cells cs')).get x with
    | none => rfl
    | some o =>
      have := (hk x o (by omega) hy).2
      rw [h.free x (by omega)] at this
      cases this
  · intro x k hx
    rcases hinv x k hx with ⟨rfl, rfl⟩ | ⟨_, h2⟩
    · exact ⟨Nat.lt_succ_self _, by rw [hsz]; exact hbn.2⟩
    · have := h.dom x k h2
      exact ⟨Nat.lt_succ_of_lt this.1, by rw [hsz]; exact this.2⟩
  · intro x o2 k hx hy
    rcases hinv x k hy with ⟨rfl, rfl⟩ | ⟨h1, h2⟩
    · rw [hknew] at hx
      injection hx with hx
      subst hx
      refine ⟨c', t, hc', hlen, by simp only; omega, fun i v hv => ?_⟩
      obtain ⟨v', f1, f2⟩ := hin i v hv
      exact ⟨v', f1, f2.mono hs⟩
    · obtain ⟨hxb, hxg⟩ := hk x o2 h1 hx
      refine ORel.mono hs ?_
      have hold := h.obj x o2 k hxg h2
      by_cases hB : k.B = g.B
      · have hd := h.disj x b o2 _ k g hxb hxg hb h2 hg (rwR (fun _ hx => by cases hx))
        have hd' : k.e ≤ g.s ∨ g.e ≤ k.s := hd.resolve_left (fun hne => hne hB)
        cases o2 with
        | cells cs2 =>
          obtain ⟨c0, t0, e1, e2, e3, e4⟩ := hold
          rw [hB, hc] at e1
          injection e1 with e1
          injection e1 with e1 e1'
          subst e1
          refine ⟨c', t, by rw [hB]; exact hc', e2, by omega, fun i v hv => ?_⟩
          obtain ⟨v', f1, f2⟩ := e4 i v hv
          have hi : i < cs2.length := (List.getElem?_eq_some_iff.1 hv).1
          exact ⟨v', by rw [hout' _ (by omega)]; exact f1, f2⟩
        | ro cs2 =>
          obtain ⟨c0, t0, fr, e1, e2, e3⟩ := hold
          rw [hB, hc] at e1
          injection e1 with e1
          injection e1 with e1 e1'
          subst e1
          refine ⟨c', t, (0, 0), by rw [hB]; exact hc', e2, fun i v hv => ?_⟩
          have hi : i < cs2.length := (List.getElem?_eq_some_iff.1 hv).1
          obtain ⟨v', f1, f2⟩ := e3 i v hv
          exact ⟨v', by rw [hout' _ (by omega)]; exact f1, f2⟩
        | map es clock => obtain ⟨_, _, es', e1, _⟩ := hold; rw [hB, hc] at e1; cases e1
        | loop st pend R nt ps as bd => obtain ⟨_, _, r, e1, _⟩ := hold; rw [hB, hc] at e1; cases e1
        | siter s pos => obtain ⟨_, _, e1⟩ := hold; rw [hB, hc] at e1; cases e1
      · exact hold.same (hother _ hB)
  · intro b1 b2 o1 o2 g1 g2 hne h1 h2 k1 k2 hr
    have sub : ∀ x o2 k, x ≠ W.next → ((W.kill b).add (.cells cs')).get x = some o2 → σ x = some k → g.B ≠ k.B ∨ g.e ≤ k.s ∨ k.e ≤ g.s + off := fun x o2 k hxn hx hxk => by
      obtain ⟨hxb, hxg⟩ := hk x o2 hxn hx
      rcases h.disj b x _ o2 g k (Ne.symm hxb) hb hxg hg hxk (rwL (fun _ hx => by cases hx)) with r | r | r
      · exact .inl r
      · exact .inr (.inl r)
      · exact .inr (.inr (by omega))
    rcases hinv b1 g1 k1 with ⟨rfl, rfl⟩ | ⟨x1, y1⟩
    · rcases hinv b2 g2 k2 with ⟨rfl, rfl⟩ | ⟨x2, y2⟩
      · exact absurd rfl hne
      · exact sub b2 o2 g2 x2 h2 y2
    · rcases hinv b2 g2 k2 with ⟨rfl, rfl⟩ | ⟨x2, y2⟩
      · rcases sub b1 o1 g1 x1 h1 y1 with r | r | r
        · exact .inl (Ne.symm r)
        · exact .inr (.inr r)
        · exact .inr (.inl r)
      · exact h.disj _ _ _ _ _ _ hne (hk _ _ x1 h1).2 (hk _ _ x2 h2).2 y1 y2 hr
  · intro x cs0 hx
    have hxb : x ≠ b := fun e => by subst e; exact hbro cs0 hx
    have hxn : W.next ≠ x := fun e => by subst e; rw [h.free _ (Nat.le_refl _)] at hx; cases hx
    rw [AW.get_add_ne _ _ (by rw [AW.kill_next]; exact hxn), AW.get_kill_ne _ (Ne.symm hxb)]
    exact hx
  · rw [hsz]; exact Nat.le_refl _
  · intro B hB hm
    exact hother B (fun e => by subst e; exact hm ⟨b, g, hg, rfl, hbro⟩)
  · intro x o2 hx hxk
    have hxb : x ≠ b := fun e => by subst e; rw [hg] at hxk; cases hxk
    have hxn : W.next ≠ x := fun e => by subst e; rw [h.free _ (Nat.le_refl _)] at hx; cases hx
    refine ⟨by rw [AW.get_add_ne _ _ (by rw [AW.kill_next]; exact hxn), AW.get_kill_ne _ (Ne.symm hxb)]; exact hx, ?_⟩
    unfold bind1
    rw [if_neg (Ne.symm hxn)]
    exact hxk
  · intro x k hk' hB
    rcases hinv x k hk' with ⟨rfl, rfl⟩ | ⟨h1, h2⟩
    · exact .inr ⟨b, g, hg, rfl, hbro⟩
    · exact .inl h2
  · intro a
    by_cases ha : a.block = g.B
    · unfold World.frozen?
      rw [ha, hc, hc']
    · exact frozen_same (hother _ ha)

noncomputable def readSlice (W : AW) (x : Value) (m : Nat) : Option (List Value) :=
  match x with
  | .slice none _ _ => if m = 0 then some [] else none
  | .slice (some a) len _ => if m = 0 then some [] else if len = 0 then none else readN W a.block a.off m
  | _ => none
theorem readSlice_run (h : WRel σ W w.heap) {x x' : Value} {n z : Nat} {l : List Value} (hr : readSlice W x (n * z) = some l) (hx : VR σ x x') :
    ∃ l', LR σ l l' ∧ l.length = n * z ∧ (Builtin.firstCells z n x').run P w = .ok l'.toArray w := by
  have h0 : ∀ (a' : Addr), (loadCells a' 0).run P w = .ok #[] w := fun a' => by simp [loadCells, loadCellsFrom]
  unfold readSlice at hr
  split at hr
  · split at hr
    · rename_i hm
      injection hr with hr; subst hr
      cases hx
      exact ⟨[], .nil, by simp [hm], by simp [Builtin.firstCells]⟩
    · cases hr
  · rename_i a _ _
    split at hr
    · rename_i hm
      injection hr with hr; subst hr
      cases hx
      · exact ⟨[], .nil, by simp [hm], by simp [Builtin.firstCells, hm, h0]⟩
      · exact ⟨[], .nil, by simp [hm], by simp [Builtin.firstCells, hm, h0]⟩
    · rename_i hm
      split at hr
      · cases hr
      · rename_i hl0
        cases hx with
        | slice _ _ _ c' g hg hs hc =>
          obtain ⟨l', h1, h2, _, h4⟩ := readN_run (P := P) h hr hg
          exact ⟨l', h1, h2, by simp [Builtin.firstCells, h4]⟩
        | sliceE _ a' _ g hg hc => exact absurd rfl hl0
  · cases hr

theorem growBy_le (need : Nat) : ∀ (r c : Nat), c ≤ 2 * need + 192 → Builtin.growBy need r c ≤ 2 * need + 192 := by
  intro r
  induction r with
  | zero => intro c h; exact h
  | succ r ih =>
    intro c h
    simp only [Builtin.growBy]
    split
    · exact h
    · exact ih _ (by omega)
theorem nextcap_le {need c : Nat} (h : c < need) : Builtin.nextslicecap need c ≤ 2 * need + 192 := by
  unfold Builtin.nextslicecap
  split
  · omega
  · split
    · omega
    · exact growBy_le need 4 c (by omega)

def sliceElem (P : Program) (t : TypeId) : Option TypeId := match P.underlying t with | some (.slice e) => some e | _ => none
theorem sliceElem_eq {t e : TypeId} (h : sliceElem P t = some e) : P.underlying t = some (.slice e) := by
  unfold sliceElem at h
  split at h
  · rename_i e' hu; injection h with h; subst h; exact hu
  · cases h

noncomputable def aAppend (P : Program) (W : AW) (argTypes : Array TypeId) (s x : Value) : Option (Value × AW) :=
  match argTypes.toList with
  | [t0, t1] => if t0 = t1 then
    match sliceElem P t0, s, x with
    | some e, .slice base sLen sCap, .slice xb n xc => match tSz P e, (P.info? e).map (fun i => (i.zero, i.bytes)) with
      | some z, some (some zv, bytes) =>
        if 0 < z ∧ zv.cells.size = z ∧ sLen + n < 1099511627776 ∧ (2 * (sLen + n) + 192) * bytes ≤ 281474976710656 then
          if n = 0 then (if sLen ≤ sCap then some (s, W) else none)
          else match readSlice W (.slice xb n xc) (n * z), readSlice W s (sLen * z) with
            | some new, some old =>
              if new.all one = true then
                if sCap = BIG + z then
                  match base with
                  | some a => match W.get a.block with
                    | some (.cells _) => some ((W.kill a.block).new (.cells (old ++ new)) fun b W' => (Value.slice (some ⟨b, 0, none⟩) (sLen + n) (BIG + z), W'))
                    | _ => none
                  | none => none
                else if sCap < BIG then
                  match base with
                  | some a =>
                    if sLen + n ≤ sCap then (writeN W a.block (a.off + sLen * z) new).map fun W' => (Value.slice (some a) (sLen + n) sCap, W')
                    else some (W.new (.cells (old ++ new)) fun b W' => (Value.slice (some ⟨b, 0, none⟩) (sLen + n) (BIG + z), W'))
                  | none => if sLen = 0 ∧ sCap = 0 then some (W.new (.cells (old ++ new)) fun b W' => (Value.slice (some ⟨b, 0, none⟩) (sLen + n) (BIG + z), W')) else none
                else none
              else none
            | _, _ => none
        else none
      | _, _ => none
    | _, _, _ => none
    else none
  | _ => none

theorem zeroCells_size (zero : Array Value) (n : Nat) : (Builtin.zeroCells zero n).size = n * zero.size := by simp [Builtin.zeroCells]

/-- the block that append makes where it must grow: whatever capacity is drawn -/
theorem grow_rel (hW : WRel σ W w.heap) (e : TypeId) {z : Nat} {zv : Value} {old new old' new' : List Value} {k : Nat} (cap : Nat)
    (h1 : LR σ old old') (h2 : LR σ new new') (hz : zv.cells.size = z) (hz0 : 0 < z) (hlen : old.length + new.length = k * z) (hcap : k ≤ cap) :
    VR (bind1 σ W.next ⟨w.heap.size, 0, cap * z⟩) (.slice (some ⟨W.next, 0, none⟩) k (BIG + z)) (.slice (some ⟨w.heap.size, 0, none⟩) k cap) ∧
      WRel (bind1 σ W.next ⟨w.heap.size, 0, cap * z⟩) (W.add (.cells (old ++ new))) ((w.drew.alloc (.cells (old'.toArray ++ new'.toArray ++ Builtin.zeroCells zv.cells (cap - k)) e)).heap) ∧
      Ext σ W w (bind1 σ W.next ⟨w.heap.size, 0, cap * z⟩) (W.add (.cells (old ++ new))) (w.drew.alloc (.cells (old'.toArray ++ new'.toArray ++ Builtin.zeroCells zv.cells (cap - k)) e)) := by
  have hsz : (old'.toArray ++ new'.toArray ++ Builtin.zeroCells zv.cells (cap - k)).size = cap * z := by
    simp only [Array.size_append, List.size_toArray, zeroCells_size, hz, ← h1.1, ← h2.1]
    rw [hlen, ← Nat.add_mul]
    congr 1
    omega
  have := hW.alloc (o := .cells (old ++ new)) (x := .cells (old'.toArray ++ new'.toArray ++ Builtin.zeroCells zv.cells (cap - k)) e) (e := cap * z) (by
    refine ⟨old'.toArray ++ new'.toArray ++ Builtin.zeroCells zv.cells (cap - k), e, by rw [Array.getElem?_push]; simp, ?_, by rw [hsz]; exact Nat.le_refl _, fun i v hv => ?_⟩
    · simp only [List.length_append, hlen, Nat.zero_add]
      exact Nat.mul_le_mul_right _ hcap
    · obtain ⟨v', a, b⟩ := (h1.append h2).get hv
      refine ⟨v', ?_, b.mono (bind1_sub hW.fresh)⟩
      have hi : i < (old' ++ new').length := (List.getElem?_eq_some_iff.1 a).1
      rw [Nat.zero_add, Array.getElem?_append]
      rw [if_pos (by simpa using hi)]
      simpa using a)
  have hv := VR.slice (σ := bind1 σ W.next ⟨w.heap.size, 0, cap * z⟩) ⟨W.next, 0, none⟩ k (BIG + z) cap ⟨w.heap.size, 0, cap * z⟩ bind1_same rfl (.open_ z cap hz0 hcap (by simp))
  exact ⟨by simpa using hv, this.1, ⟨this.2.sub, this.2.ro, this.2.size, rfl, rfl, rfl, this.2.keep, this.2.ghost, this.2.grow, this.2.fr⟩⟩

theorem append_none (P : Program) (w : World) (t ty e : TypeId) (z : Nat) (base : Option Addr) (sLen c' xc : Nat) (xb : Option Addr)
    (hu : P.underlying t = some (.slice e)) (hz : tSz P e = some z) (hle : sLen ≤ c') :
    (Builtin.append_ #[t, t] ty #[.slice base sLen c', .slice xb 0 xc]).run P w = .ok (.slice base sLen c') w := by
  have h0 : ∀ (a' : Addr), (loadCells a' 0).run P w = .ok #[] w := fun a' => by simp [loadCells, loadCellsFrom]
  cases base <;> cases xb <;> simp [Builtin.append_, run_underlying hu, run_sizeOf' hz, Builtin.lenOf, hle, Builtin.firstCells, h0, storeCells]

theorem append_fits (P : Program) (w w2 : World) (t ty e : TypeId) (z : Nat) (b off sLen c' n xc : Nat) (xb : Option Addr) (new' : List Value)
    (hu : P.underlying t = some (.slice e)) (hz : tSz P e = some z)
    (hnew : (Builtin.firstCells z n (.slice xb n xc)).run P w = .ok new'.toArray w) (hle : sLen + n ≤ c') (hst : (storeCells ⟨b, off + sLen * z, none⟩ new').run P w = .ok () w2) :
    (Builtin.append_ #[t, t] ty #[.slice (some ⟨b, off, none⟩) sLen c', .slice xb n xc]).run P w = .ok (.slice (some ⟨b, off, none⟩) (sLen + n) c') w2 := by
  simp [Builtin.append_, run_underlying hu, run_sizeOf' hz, Builtin.lenOf, hle, hnew, addr_add, hst]

theorem info_zero {e : TypeId} {zo : Option Value} {bytes z : Nat} (h : (P.info? e).map (fun i => (i.zero, i.bytes)) = some (zo, bytes)) (hz : tSz P e = some z) :
    ∃ i, P.info? e = some i ∧ i.zero = zo ∧ i.bytes = bytes ∧ i.size = z := by
  obtain ⟨i, hi, h1, _⟩ := tSz_cells hz
  rw [hi] at h
  simp at h
  exact ⟨i, hi, h.1, h.2, h1⟩

/-- what readSlice has read lies in the model's cells -/
theorem readSlice_cells (h : WRel σ W w.heap) {A : Option Addr} {n c z : Nat} {x' : Value} {l : List Value} (hr : readSlice W (.slice A n c) (n * z) = some l) (hx : VR σ (.slice A n c) x') (hn : 0 < n * z) :
    ∃ a' c' l', x' = .slice (some a') n c' ∧ LR σ l l' ∧ l.length = n * z ∧ (∀ j v, l'[j]? = some v → w.cell? (a'.add j) = some v) := by
  unfold readSlice at hr
  split at hr
  · rw [if_neg (by omega)] at hr; cases hr
  · rename_i a len cc heq
    injection heq with e1 e2 e3
    rw [if_neg (by omega)] at hr
    split at hr
    · cases hr
    · rename_i hl0
      subst e1
      subst e2
      cases hx with
      | slice _ _ _ c' g hg hs hc =>
        obtain ⟨l', h1, h2, h3, _⟩ := readN_run (P := (default : Program)) h hr hg
        exact ⟨_, c', l', rfl, h1, h2, fun j v hj => by rw [addr_add]; exact h3 j v hj⟩
      | sliceE _ a' _ g hg hc => exact absurd rfl hl0
  · cases hr

theorem cut_cap (need old : Nat) (e : TypeId) (t : Nat) : need ≤ (Question.appendCap need old e).cut t := by
  simp only [Question.cut]; omega
theorem setRow_out (w : World) (g : Nat) (c : Array Value) : (w.setRow g c).output = w.output := rfl

theorem aAppend_run (hW : WRel σ W w.heap) {argTypes : Array TypeId} {ty : TypeId} {s x s' x' v : Value} {W' : AW} (h : aAppend P W argTypes s x = some (v, W')) (hs : VR σ s s') (hx : VR σ x x') :
    ∃ σ' v' w', (Builtin.append_ argTypes ty #[s', x']).run P w = .ok v' w' ∧ VR σ' v v' ∧ WRel σ' W' w'.heap ∧ Ext σ W w σ' W' w' := by
  unfold aAppend at h
  split at h
  · rename_i t0 t1 hat
    have hat' : argTypes = #[t0, t1] := by rw [← Array.toArray_toList (xs := argTypes), hat]
    split at h
    · rename_i ht
      subst ht
      subst hat'
      split at h
      · rename_i e base sLen sCap xb n xc he
        have hu := sliceElem_eq he
        split at h
        · rename_i z zv bytes hz hinfo
          obtain ⟨i, hi, hiz, hib, his⟩ := info_zero hinfo hz
          split at h
          · rename_i hc
            obtain ⟨hz0, hzs, hsm, hby⟩ := hc
            split at h
            · rename_i hn0
              subst hn0
              split at h
              · rename_i hle
                injection h with h
                injection h with hv hw
                subst hv
                subst hw
                have fin : ∀ (c' : Nat) (B : Option Addr) (xb' : Option Addr) (xc' : Nat), x' = .slice xb' 0 xc' → s' = .slice B sLen c' → sLen ≤ c' →
                    ∃ σ' v' w', (Builtin.append_ #[t0, t0] ty #[s', x']).run P w = .ok v' w' ∧ VR σ' (.slice base sLen sCap) v' ∧ WRel σ' W w'.heap ∧ Ext σ W w σ' W w' := by
                  intro c' B xb' xc' e1 e2 e3
                  subst e1
                  subst e2
                  exact ⟨σ, _, w, append_none P w t0 ty e z B sLen c' xc' xb' hu hz e3, hs, hW, Ext.refl _ _ _⟩
                have hxf : ∃ xb' xc', x' = .slice xb' 0 xc' := by cases hx <;> exact ⟨_, _, rfl⟩
                obtain ⟨xb', xc', rfl⟩ := hxf
                cases hs with
                | snil l c => exact fin _ _ xb' xc' rfl rfl hle
                | slice a l c c' g hg hsp hcc => exact fin _ _ xb' xc' rfl rfl (by rcases hcc.inv with ⟨_, h2⟩ | ⟨_, _, _, h2, _⟩ <;> omega)
                | sliceE a a' c g hg hcc => exact fin _ _ xb' xc' rfl rfl (by omega)
              · cases h
            · rename_i hn0
              split at h
              · rename_i new old hnew hold
                split at h
                · rename_i hone
                  have hnz : 0 < n * z := Nat.mul_pos (by omega) hz0
                  obtain ⟨xa, xc', new', rfl, hnr, hnl, hnc⟩ := readSlice_cells hW hnew hx hnz
                  obtain ⟨old', hor, hol, hof⟩ := readSlice_run (P := P) hW hold hs
                  have hnf : (Builtin.firstCells z n (.slice (some xa) n xc')).run P w = .ok new'.toArray w := by
                    have hl : new'.length = n * z := by rw [← hnr.1]; exact hnl
                    have := run_loadCells_list (P := P) w xa new' hnc
                    rw [hl] at this
                    simpa [Builtin.firstCells] using this
                  have hlen : old.length + new.length = (sLen + n) * z := by rw [hol, hnl, Nat.add_mul]
                  -- where it grows
                  have grow : ∀ (a' : Addr) (c' : Nat), s' = .slice (some a') sLen c' → (0 < sLen → ∀ j u, old'[j]? = some u → w.cell? (a'.add j) = some u) → c' < sLen + n →
                      ∃ cap, sLen + n ≤ cap ∧ (Builtin.append_ #[t0, t0] ty #[s', .slice (some xa) n xc']).run P w =
                        .ok (.slice (some ⟨w.heap.size, 0, none⟩) (sLen + n) cap) (w.drew.alloc (.cells (old'.toArray ++ new'.toArray ++ Builtin.zeroCells zv.cells (cap - (sLen + n))) e)) := by
                    intro a' c' e1 e2 e3
                    subst e1
                    have hcap := nextcap_le e3
                    have hfit : Builtin.nextslicecap (sLen + n) c' * i.bytes ≤ 281474976710656 := by
                      have := Nat.mul_le_mul_right i.bytes hcap
                      rw [hib] at this ⊢
                      omega
                    refine ⟨_, cut_cap _ _ _ _, run_append_grow (P := P) w t0 ty e i zv hu hi hiz a' sLen c' old' (by rw [← hor.1, hol, his]) (fun j u hj => ?_) xa n xc' new' (by rw [← hnr.1, hnl, his]) hnc e3 (by omega) hfit⟩
                    refine e2 ?_ j u hj
                    rcases Nat.eq_zero_or_pos sLen with h0 | h0
                    · have h1 := hol
                      rw [h0, Nat.zero_mul, hor.1] at h1
                      have := (List.getElem?_eq_some_iff.1 hj).1
                      omega
                    · exact h0
                  have growR := fun (cap : Nat) (hcap : sLen + n ≤ cap) => grow_rel (w := w) hW e cap hor hnr hzs hz0 hlen hcap
                  split at h
                  · rename_i hop
                    split at h
                    · rename_i a
                      split at h
                      · rename_i cs hget
                        injection h with h
                        rw [AW.new_eq] at h
                        injection h with hv hw
                        have hro : ∀ cs, W.get a.block ≠ some (.ro cs) := fun cs hx => by rw [hget] at hx; cases hx
                        have hmp : ∃ g0, σ a.block = some g0 := by cases hs with | slice _ _ _ c' g hg hsp hcc => exact ⟨g, hg⟩ | sliceE _ a' _ g hg hcc => exact ⟨g, hg⟩
                        obtain ⟨g0, hg0⟩ := hmp
                        obtain ⟨hWk, hEk⟩ := hW.kill hro hg0
                        -- behind the block that is given up
                        have kgrow : ∀ (cap : Nat), sLen + n ≤ cap → (Builtin.append_ #[t0, t0] ty #[s', .slice (some xa) n xc']).run P w =
                            .ok (.slice (some ⟨w.heap.size, 0, none⟩) (sLen + n) cap) (w.drew.alloc (.cells (old'.toArray ++ new'.toArray ++ Builtin.zeroCells zv.cells (cap - (sLen + n))) e)) →
                            ∃ σ' v' w', (Builtin.append_ #[t0, t0] ty #[s', .slice (some xa) n xc']).run P w = .ok v' w' ∧ VR σ' v v' ∧ WRel σ' W' w'.heap ∧ Ext σ W w σ' W' w' := by
                          intro cap hcap hrun
                          obtain ⟨g1, g2, g3⟩ := grow_rel (w := w) hWk e cap hor hnr hzs hz0 hlen hcap
                          exact ⟨_, _, _, hrun, by rw [← hv]; exact g1, by rw [← hw]; exact g2, by rw [← hw]; exact hEk.trans g3⟩
                        cases hs with
                        | sliceE _ a' _ g hg hcc =>
                          obtain ⟨cap, h1, h2⟩ := grow a' 0 rfl (fun hx => absurd hx (by omega)) (by omega)
                          exact kgrow cap h1 h2
                        | slice _ _ _ c' g hg hsp hcc =>
                          rcases hcc.inv with ⟨hk, _⟩ | ⟨z', hz1, hzz, hlc, heq⟩
                          · exact absurd hk (by omega)
                          · have hz2 : z' = z := by omega
                            subst hz2
                            obtain ⟨c0, ct, q1, q2, q3, q4⟩ := hW.obj a.block _ g hget hg
                            by_cases hfit : sLen + n ≤ c'
                            · have hmul : (sLen + n) * z' ≤ c' * z' := Nat.mul_le_mul_right _ hfit
                              have hml : sLen * z' + n * z' = (sLen + n) * z' := (Nat.add_mul _ _ _).symm
                              have hst := run_storeCells_at (P := P) g.B (g.s + a.off + sLen * z') ct new' 0 c0 w q1 (by rw [← hnr.1, hnl]; omega) (one_all hnr hone)
                              simp only [Nat.add_zero] at hst
                              have hrun := append_fits P w _ t0 ty e z' g.B (g.s + a.off) sLen c' n xc' (some xa) new' hu hz hnf hfit hst
                              have hnl' : new'.length = n * z' := by rw [← hnr.1]; exact hnl
                              have hol' : old'.length = sLen * z' := by rw [← hor.1]; exact hol
                              have hseg := list_seg c0.toList (g.s + a.off + sLen * z') new' (by simp; omega)
                              have hold2 : ∀ j u, old[j]? = some u → ∃ u', c0[g.s + a.off + j]? = some u' ∧ VR σ u u' := by
                                intro j u hj
                                have hj2 : j < sLen * z' := by rw [← hol]; exact (List.getElem?_eq_some_iff.1 hj).1
                                have hs0 : 0 < sLen * z' := by omega
                                obtain ⟨a2, c2, l2, e2, l2r, l2l, l2c⟩ := readSlice_cells hW hold (VR.slice a sLen _ c' g hg hsp hcc) hs0
                                injection e2 with e2 _ _
                                injection e2 with e2
                                subst e2
                                obtain ⟨u', f1, f2⟩ := l2r.get hj
                                have := l2c j u' f1
                                rw [addr_add] at this
                                simp only [World.cell?, q1, Option.isSome_none, Bool.false_eq_true, if_false] at this
                                exact ⟨u', this, f2⟩
                              have hre := hW.reseat (w' := w.setRow g.B (c0.toList.take (g.s + a.off + sLen * z') ++ new' ++ c0.toList.drop (g.s + a.off + sLen * z' + new'.length)).toArray)
                                (b := a.block) (off := a.off) (cs' := old ++ new) hget hg (by simp [World.setRow]) rfl rfl rfl (fun B hB => setRow_getElem w g.B B _ hB) q1 (setRow_heap w g.B c0 _ ct _ q1) (by simp; omega)
                                (by
                                  intro j hj
                                  have := hseg j
                                  rw [if_neg (by omega)] at this
                                  simpa using this)
                                (by rw [List.length_append, hlen]; omega)
                                (by
                                  intro j u hj
                                  have h2 := hseg (g.s + a.off + j)
                                  rw [List.getElem?_append] at hj
                                  split at hj
                                  · rename_i hjl
                                    rw [if_neg (by omega)] at h2
                                    obtain ⟨u', f1, f2⟩ := hold2 j u hj
                                    exact ⟨u', by rw [← f1]; simpa using h2, f2⟩
                                  · rename_i hjl
                                    have hjn := (List.getElem?_eq_some_iff.1 hj).1
                                    rw [if_pos (by omega)] at h2
                                    obtain ⟨u', f1, f2⟩ := hnr.get hj
                                    rw [show g.s + a.off + j - (g.s + a.off + sLen * z') = j - old.length by omega, f1] at h2
                                    exact ⟨u', by simpa using h2, f2⟩)
                              have hvr := VR.slice (σ := bind1 σ W.next ⟨g.B, g.s + a.off, g.e⟩) ⟨W.next, 0, none⟩ (sLen + n) (BIG + z') c' ⟨g.B, g.s + a.off, g.e⟩ bind1_same rfl (.open_ z' c' hz0 hfit (by simp only [Nat.add_zero]; exact heq))
                              simp only [Nat.add_zero] at hvr
                              exact ⟨_, _, _, hrun, by rw [← hv]; exact hvr, by rw [← hw]; exact hre.1, by rw [← hw]; exact hre.2⟩
                            · obtain ⟨cap, h1, h2⟩ := grow _ c' rfl (fun hs0 j u hj => by
                                have hs1 : 0 < sLen * z' := Nat.mul_pos hs0 hz0
                                obtain ⟨a2, c2, l2, e2, l2r, l2l, l2c⟩ := readSlice_cells hW hold (VR.slice a sLen _ c' g hg hsp hcc) hs1
                                injection e2 with e2 _ _
                                injection e2 with e2
                                subst e2
                                have hof2 : (Builtin.firstCells z' sLen (.slice (some ⟨g.B, g.s + a.off, none⟩) sLen c')).run P w = .ok l2.toArray w := by
                                  have := run_loadCells_list (P := P) w ⟨g.B, g.s + a.off, none⟩ l2 l2c
                                  rw [← l2r.1, l2l] at this
                                  simpa [Builtin.firstCells] using this
                                rw [hof] at hof2
                                injection hof2 with hof2 _
                                have : old' = l2 := by simpa using hof2
                                rw [this] at hj
                                exact l2c j u hj) (by omega)
                              exact kgrow cap h1 h2
                      · cases h
                    · cases h
                  · split at h
                    · rename_i hno hbig
                      split at h
                      · rename_i a
                        have oldc : ∀ (g : Seg) (c' : Nat), σ a.block = some g → a.spot = none → CapR g a.off sLen sCap c' → s' = .slice (some ⟨g.B, g.s + a.off, none⟩) sLen c' → 0 < sLen → ∀ j u, old'[j]? = some u → w.cell? ((⟨g.B, g.s + a.off, none⟩ : Addr).add j) = some u := by
                          intro g c' hg hsp hcc hse hs0 j u hj
                          have hs1 : 0 < sLen * z := Nat.mul_pos hs0 hz0
                          obtain ⟨a2, c2, l2, e2, l2r, l2l, l2c⟩ := readSlice_cells hW hold (VR.slice a sLen _ c' g hg hsp hcc) hs1
                          injection e2 with e2 _ _
                          injection e2 with e2
                          subst e2
                          have hof2 : (Builtin.firstCells z sLen (.slice (some ⟨g.B, g.s + a.off, none⟩) sLen c')).run P w = .ok l2.toArray w := by
                            have := run_loadCells_list (P := P) w ⟨g.B, g.s + a.off, none⟩ l2 l2c
                            rw [← l2r.1, l2l] at this
                            simpa [Builtin.firstCells] using this
                          rw [← hse, hof] at hof2
                          injection hof2 with hof2 _
                          have : old' = l2 := by simpa using hof2
                          rw [this] at hj
                          exact l2c j u hj
                        split at h
                        · rename_i hfit
                          cases hwn : writeN W a.block (a.off + sLen * z) new with
                          | none => rw [hwn] at h; cases h
                          | some W2 =>
                            rw [hwn] at h
                            simp only [Option.map_some, Option.some.injEq, Prod.mk.injEq] at h
                            obtain ⟨hv, hw⟩ := h
                            subst hw
                            cases hs with
                            | sliceE _ a' _ g hg hcc => omega
                            | slice _ _ _ c' g hg hsp hcc =>
                              rcases hcc.inv with ⟨hk, rfl⟩ | ⟨z', hz1, hzz, hlc, heq⟩
                              · obtain ⟨w2, k1, k2, k3⟩ := writeN_run (P := P) hW hwn hg hnr
                                have hrun := append_fits P w w2 t0 ty e z g.B (g.s + a.off) sLen c' n xc' (some xa) new' hu hz hnf hfit (by rw [Nat.add_assoc]; exact k1)
                                refine ⟨σ, _, w2, hrun, ?_, k2, k3⟩
                                rw [← hv]
                                exact .slice a _ _ _ g hg hsp (.known _ hk)
                              · omega
                        · rename_i hfit
                          injection h with h
                          rw [AW.new_eq] at h
                          injection h with hv hw
                          have fin : ∀ (cap : Nat), sLen + n ≤ cap → (Builtin.append_ #[t0, t0] ty #[s', .slice (some xa) n xc']).run P w =
                            .ok (.slice (some ⟨w.heap.size, 0, none⟩) (sLen + n) cap) (w.drew.alloc (.cells (old'.toArray ++ new'.toArray ++ Builtin.zeroCells zv.cells (cap - (sLen + n))) e)) →
                            ∃ σ' v' w', (Builtin.append_ #[t0, t0] ty #[s', .slice (some xa) n xc']).run P w = .ok v' w' ∧ VR σ' v v' ∧ WRel σ' W' w'.heap ∧ Ext σ W w σ' W' w' := by
                            intro cap hcap hrun
                            obtain ⟨g1, g2, g3⟩ := growR cap hcap
                            exact ⟨_, _, _, hrun, by rw [← hv]; exact g1, by rw [← hw]; exact g2, by rw [← hw]; exact g3⟩
                          cases hs with
                          | sliceE _ a' _ g hg hcc =>
                            obtain ⟨cap, h1, h2⟩ := grow a' 0 rfl (fun hx => absurd hx (by omega)) (by omega)
                            exact fin cap h1 h2
                          | slice _ _ _ c' g hg hsp hcc =>
                            have hcl : c' < sLen + n := by rcases hcc.inv with ⟨_, h2⟩ | ⟨_, _, h2, _, _⟩ <;> omega
                            obtain ⟨cap, h1, h2⟩ := grow _ c' rfl (oldc g c' hg hsp hcc rfl) hcl
                            exact fin cap h1 h2
                      · split at h
                        · rename_i h00
                          obtain ⟨rfl, rfl⟩ := h00
                          injection h with h
                          rw [AW.new_eq] at h
                          injection h with hv hw
                          cases hs
                          have hold0 : old' = [] := by
                            have := hor.1
                            rw [hol, Nat.zero_mul] at this
                            exact List.eq_nil_of_length_eq_zero this.symm
                          subst hold0
                          have hfit : n * i.bytes ≤ 281474976710656 := by
                            have := Nat.mul_le_mul_right i.bytes (show n ≤ 2 * (0 + n) + 192 by omega)
                            rw [hib] at this ⊢
                            omega
                          have hrun := run_append_nil (P := P) w t0 ty e i zv hu hi hiz xa n xc' new' (by rw [← hnr.1, hnl, his]) hnc (by omega) (by omega) hfit
                          obtain ⟨g1, g2, g3⟩ := growR _ (cut_cap (0 + n) 0 e (w.tape w.drawn (.appendCap n 0 e)))
                          simp only [Nat.zero_add] at g1 g2 g3 hv
                          refine ⟨_, _, _, hrun, by rw [← hv]; exact g1, ?_, ?_⟩
                          · rw [← hw]; simpa [grownCap] using g2
                          · rw [← hw]; simpa [grownCap] using g3
                        · cases h
                    · cases h
                · cases h
              · cases h
          · cases h
        · cases h
      · cases h
    · cases h
  · cases h
end
end Go.Eng
