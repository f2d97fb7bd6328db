/- The engine's reads and writes of memory, and that the model's do the same. -/
import Derived.Test.YtfcfglpkgcheiaaDoorEngB
import Derived.Laws.Cells
import Derived.Laws.CopyRow
import Derived.ChangeKeysEq
namespace Go.Eng
open Go
set_option linter.unusedSectionVars false
variable [PlanTab]
set_option linter.unusedSimpArgs false

theorem addr_add (B o j : Nat) : (⟨B, o, none⟩ : Addr).add j = ⟨B, o + j, none⟩ := by
  unfold Addr.add
  split
  · rename_i h; subst h; rfl
  · rfl
theorem add_spot (a : Addr) (j : Nat) (h : a.spot = none) : (a.add j).spot = none := by unfold Addr.add; split <;> simp [h]
theorem add_block (a : Addr) (j : Nat) : (a.add j).block = a.block := by unfold Addr.add; split <;> rfl
theorem add_off (a : Addr) (j : Nat) : (a.add j).off = a.off + j := by
  unfold Addr.add
  split
  · rename_i h; subst h; rfl
  · rfl

def tAgg (P : Program) (t : TypeId) : Option Bool := (P.underlying t).map fun d => match d with | .struct _ | .array .. => true | _ => false
def tSz (P : Program) (t : TypeId) : Option Nat := (P.info? t).map (·.size)
theorem tSz_cells {P : Program} {t : TypeId} {n : Nat} (h : tSz P t = some n) : ∃ i, P.info? t = some i ∧ i.size = n ∧ P.cellsOf t = n := by
  unfold tSz at h
  cases hi : P.info? t with
  | none => rw [hi] at h; cases h
  | some i => rw [hi] at h; simp at h; exact ⟨i, rfl, h, by simp [Program.cellsOf, hi, h]⟩
theorem run_sizeOf' {P : Program} {t : TypeId} {n : Nat} (h : tSz P t = some n) (w : World) : (sizeOf t).run P w = .ok n w := by
  obtain ⟨i, hi, _, h3⟩ := tSz_cells h
  have : (sizeOf t).run P w = .ok (P.cellsOf t) w := by simp [sizeOf, typeInfo, hi, Program.cellsOf]
  rw [this, h3]
theorem run_isAgg' {P : Program} {t : TypeId} {b : Bool} (h : tAgg P t = some b) (w : World) : (isAgg t).run P w = .ok b w := by
  unfold tAgg at h
  cases hu : P.underlying t with
  | none => rw [hu] at h; cases h
  | some d =>
    rw [hu] at h
    simp only [Option.map_some, Option.some.injEq] at h
    subst h
    cases d <;> simp [isAgg, run_underlying hu]

noncomputable def cellsAt (W : AW) (b : Nat) : Option (List Value) := match W.get b with | some (.cells cs) => some cs | some (.ro cs) => some cs | _ => none
section
variable {P : Program} {σ : Inj} {W : AW} {w : World}

theorem cellsAt_read (h : WRel σ W w.heap) {b : Nat} {cs : List Value} {g : Seg} (hc : cellsAt W b = some cs) (hg : σ b = some g) {i : Nat} {v : Value} (hv : cs[i]? = some v) :
    ∃ v', w.cell? ⟨g.B, g.s + i, none⟩ = some v' ∧ VR σ v v' := by
  unfold cellsAt at hc
  split at hc
  · rename_i cs' hget
    injection hc with hc; subst hc
    obtain ⟨c, t, h1, h2, h3, h4⟩ := h.obj b _ g hget hg
    obtain ⟨v', f1, f2⟩ := h4 i v hv
    exact ⟨v', by simp [World.cell?, h1, f1], f2⟩
  · rename_i cs' hget
    injection hc with hc; subst hc
    obtain ⟨c, t, fr, h1, h2, h4⟩ := h.obj b _ g hget hg
    obtain ⟨v', f1, f2⟩ := h4 i v hv
    exact ⟨v', by simp [World.cell?, h1, f1], f2⟩
  · cases hc

/- quick lists: each step small for the kernel -/
noncomputable def ldrop {α : Type} (l : List α) : Nat → List α :=
  List.rec (motive := fun _ => Nat → List α) (fun _ => []) (fun v t ih n => Nat.rec (motive := fun _ => List α) (v :: t) (fun m _ => ih m) n) l
noncomputable def ltakeO {α : Type} (l : List α) : Nat → Option (List α) :=
  List.rec (motive := fun _ => Nat → Option (List α)) (fun n => Nat.rec (motive := fun _ => Option (List α)) (some []) (fun _ _ => none) n)
    (fun v _ ih n => Nat.rec (motive := fun _ => Option (List α)) (some []) (fun m _ => Option.rec (motive := fun _ => Option (List α)) none (fun r => some (v :: r)) (ih m)) n) l
theorem ldrop_eq {α : Type} (l : List α) : ∀ n, ldrop l n = l.drop n := by
  induction l with
  | nil => intro n; simp [ldrop]
  | cons v l ih => intro n; cases n with | zero => rfl | succ n => exact (ih n).trans (by simp)
theorem ltakeO_eq {α : Type} (l : List α) : ∀ n, ltakeO l n = if (l.take n).length = n then some (l.take n) else none := by
  induction l with
  | nil => intro n; cases n with | zero => rfl | succ n => simp [ltakeO]
  | cons v l ih =>
    intro n
    cases n with
    | zero => rfl
    | succ n =>
      show Option.rec (motive := fun _ => Option (List α)) none (fun r => some (v :: r)) (ltakeO l n) = _
      rw [ih n]
      by_cases h : (l.take n).length = n
      · rw [if_pos h, if_pos (by simp only [List.take_succ_cons, List.length_cons, h])]; simp
      · rw [if_neg h, if_neg (by simp only [List.take_succ_cons, List.length_cons]; omega)]
noncomputable def readN (W : AW) (b off n : Nat) : Option (List Value) :=
  match cellsAt W b with
  | some cs => ltakeO (ldrop cs off) n
  | none => none
theorem readN_def (W : AW) (b off n : Nat) : readN W b off n = match cellsAt W b with
    | some cs => let l := (cs.drop off).take n; if l.length = n then some l else none
    | none => none := by
  unfold readN
  cases cellsAt W b with
  | none => rfl
  | some cs => simp only [ldrop_eq, ltakeO_eq]
theorem readN_run (h : WRel σ W w.heap) {b off n : Nat} {l : List Value} {g : Seg} (hr : readN W b off n = some l) (hg : σ b = some g) :
    ∃ l', LR σ l l' ∧ l.length = n ∧ (∀ j v, l'[j]? = some v → w.cell? ⟨g.B, g.s + off + j, none⟩ = some v) ∧ (loadCells ⟨g.B, g.s + off, none⟩ n).run P w = .ok l'.toArray w := by
  rw [readN_def] at hr
  split at hr
  · rename_i cs hc
    simp only at hr
    split at hr
    · rename_i hlen
      injection hr with hr
      have hget : ∀ j v, l[j]? = some v → ∃ v', w.cell? ⟨g.B, g.s + off + j, none⟩ = some v' ∧ VR σ v v' := by
        intro j v hj
        rw [← hr, List.getElem?_take] at hj
        split at hj
        · rw [List.getElem?_drop] at hj
          obtain ⟨v', a, b⟩ := cellsAt_read h hc hg hj
          exact ⟨v', by rw [Nat.add_assoc]; exact a, b⟩
        · cases hj
      have hln : l.length = n := by rw [← hr]; exact hlen
      let f : Nat → Value := fun j => (w.cell? ⟨g.B, g.s + off + j, none⟩).getD undef
      refine ⟨(List.range n).map f, ⟨by simp [hln], fun j v v' a b => ?_⟩, hln, ?_, ?_⟩
      · have hj : j < n := by rw [← hln]; exact (List.getElem?_eq_some_iff.1 a).1
        obtain ⟨u, h1, h2⟩ := hget j v a
        simp [List.getElem?_map, hj, f, h1] at b
        subst b
        exact h2
      · intro j v hj
        have hjn : j < n := by
          have := (List.getElem?_eq_some_iff.1 hj).1
          simpa using this
        obtain ⟨u, h1, h2⟩ := hget j l[j] (List.getElem?_eq_getElem (by omega))
        simp [List.getElem?_map, hjn, f, h1] at hj
        subst hj
        exact h1
      · have := run_loadCells (P := P) w ⟨g.B, g.s + off, none⟩ n f (fun j hj => by
          rw [addr_add]
          obtain ⟨u, h1, h2⟩ := hget j l[j] (List.getElem?_eq_getElem (by omega))
          simp [f, h1])
        exact this
    · cases hr
  · cases hr

noncomputable def aLoad (P : Program) (W : AW) (t : TypeId) (x : Value) : Option Value :=
  match x with
  | .pointer (some a) => match tAgg P t with
    | some false => match cellsAt W a.block with
      | some cs => lget cs a.off
      | none => none
    | some true => match tSz P t with
      | some n => (readN W a.block a.off n).map fun l => .agg l.toArray
      | none => none
    | none => none
  | _ => none
theorem aLoad_run (h : WRel σ W w.heap) {t : TypeId} {x x' v : Value} (ha : aLoad P W t x = some v) (hx : VR σ x x') :
    ∃ v', (Instr.loadAt t x').run P w = .ok v' w ∧ VR σ v v' := by
  unfold aLoad at ha
  split at ha
  · rename_i a
    cases hx with
    | ptr a g hg hs =>
      split at ha
      · rename_i hagg
        split at ha
        · rename_i cs hc
          rw [lget_eq] at ha
          obtain ⟨v', h1, h2⟩ := cellsAt_read h hc hg ha
          exact ⟨v', by simp [Instr.loadAt, Instr.sureAddr, loadVar, run_isAgg' hagg, h1], h2⟩
        · cases ha
      · rename_i hagg
        split at ha
        · rename_i n hn
          cases hr : readN W a.block a.off n with
          | none => rw [hr] at ha; cases ha
          | some l =>
            rw [hr] at ha
            simp only [Option.map_some, Option.some.injEq] at ha
            subst ha
            obtain ⟨l', h1, _, _, h3⟩ := readN_run (P := P) h hr hg
            exact ⟨.agg l'.toArray, by simp [Instr.loadAt, Instr.sureAddr, loadVar, run_isAgg' hagg, run_sizeOf' hn, h3], VR.agg' (by simpa using h1)⟩
        · cases ha
      · cases ha
  · cases ha

/-! ### writes -/
def one (v : Value) : Bool := v.oneCell'
theorem one_of {v v' : Value} (h : VR σ v v') : one v' = one v := by cases h <;> rfl
theorem one_all {l l' : List Value} (h : LR σ l l') (ha : l.all one = true) : ∀ v ∈ l', v.oneCell' = true := by
  intro v hv
  obtain ⟨i, hi⟩ := List.getElem?_of_mem hv
  have hil : i < l.length := by rw [h.1]; exact (List.getElem?_eq_some_iff.1 hi).1
  have := h.2 i l[i] v (List.getElem?_eq_getElem hil) hi
  rw [show v.oneCell' = one v from rfl, one_of this]
  exact List.all_eq_true.1 ha _ (List.getElem_mem hil)

noncomputable def setN (cs : List Value) (off : Nat) (vs : List Value) : List Value := cs.take off ++ vs ++ cs.drop (off + vs.length)
noncomputable def oneF : Value → Bool :=
  Value.rec (motive_1 := fun _ => Bool) (motive_2 := fun _ => PUnit) (motive_3 := fun _ => PUnit) (fun _ => true) (fun _ _ => true) (fun _ _ => true) (fun _ _ _ => true) (fun _ => true) (fun _ => true) (fun _ _ _ => true) (fun _ => true) (fun _ => true) (fun _ _ _ _ _ => true) true (fun _ _ _ => true) true (fun _ _ => false) (fun _ _ => false) (fun _ _ => .unit) .unit (fun _ _ _ _ => .unit)
theorem oneF_eq (v : Value) : oneF v = one v := by cases v <;> rfl
noncomputable def lputO (vs : List Value) : List Value → Option (List Value) :=
  List.rec (motive := fun _ => List Value → Option (List Value)) (fun cs => some cs)
    (fun v _ ih cs => List.rec (motive := fun _ => Option (List Value)) none (fun _ t _ => Bool.rec (motive := fun _ => Option (List Value)) none (Option.rec (motive := fun _ => Option (List Value)) none (fun r => some (v :: r)) (ih t)) (oneF v)) cs) vs
theorem lputO_eq (vs : List Value) : ∀ cs, lputO vs cs = if vs.length ≤ cs.length ∧ vs.all one = true then some (vs ++ cs.drop vs.length) else none := by
  induction vs with
  | nil => intro cs; simp [lputO]
  | cons v vs ih =>
    intro cs
    cases cs with
    | nil => simp [lputO]
    | cons c t =>
      show Bool.rec (motive := fun _ => Option (List Value)) none (Option.rec (motive := fun _ => Option (List Value)) none (fun r => some (v :: r)) (lputO vs t)) (oneF v) = _
      rw [ih t, oneF_eq]
      cases h1 : one v with
      | false => simp [h1]
      | true =>
        by_cases h : vs.length ≤ t.length ∧ vs.all one = true
        · rw [if_pos h, if_pos (by simp only [List.length_cons, List.all_cons, h1, h.2]; exact ⟨by omega, rfl⟩)]; simp
        · rw [if_neg h, if_neg (by simp only [List.length_cons, List.all_cons, h1, Bool.true_and]; exact fun k => h ⟨by omega, k.2⟩)]
noncomputable def lwrite (cs : List Value) : Nat → List Value → Option (List Value) :=
  List.rec (motive := fun _ => Nat → List Value → Option (List Value)) (fun n vs => Nat.rec (motive := fun _ => Option (List Value)) (lputO vs []) (fun _ _ => none) n)
    (fun c t ih n vs => Nat.rec (motive := fun _ => Option (List Value)) (lputO vs (c :: t)) (fun m _ => Option.rec (motive := fun _ => Option (List Value)) none (fun r => some (c :: r)) (ih m vs)) n) cs
theorem lwrite_eq (cs : List Value) : ∀ (off : Nat) (vs : List Value), lwrite cs off vs = if off + vs.length ≤ cs.length ∧ vs.all one = true then some (setN cs off vs) else none := by
  induction cs with
  | nil =>
    intro off vs
    cases off with
    | zero => show lputO vs [] = _; rw [lputO_eq]; simp [setN]
    | succ n => show (none : Option (List Value)) = _; rw [if_neg (by simp)]
  | cons c t ih =>
    intro off vs
    cases off with
    | zero => show lputO vs (c :: t) = _; rw [lputO_eq]; simp [setN]
    | succ n =>
      show Option.rec (motive := fun _ => Option (List Value)) none (fun r => some (c :: r)) (lwrite t n vs) = _
      rw [ih n vs]
      have e : n + 1 + vs.length = (n + vs.length) + 1 := by omega
      by_cases h : n + vs.length ≤ t.length ∧ vs.all one = true
      · rw [if_pos h, if_pos ⟨by simp only [List.length_cons]; omega, h.2⟩]
        simp [setN, e]
      · rw [if_neg h, if_neg (by simp only [List.length_cons]; exact fun k => h ⟨by omega, k.2⟩)]
noncomputable def writeN (W : AW) (b off : Nat) (vs : List Value) : Option AW :=
  match W.get b with
  | some (.cells cs) => (match lwrite cs off vs with
    | some l => some (W.put b (.cells l))
    | none => none)
  | _ => none
theorem writeN_def (W : AW) (b off : Nat) (vs : List Value) : writeN W b off vs = match W.get b with
    | some (.cells cs) => if off + vs.length ≤ cs.length ∧ vs.all one = true then some (W.put b (.cells (setN cs off vs))) else none
    | _ => none := by
  unfold writeN
  split
  · rename_i cs hcs
    rw [lwrite_eq]
    by_cases h : off + vs.length ≤ cs.length ∧ vs.all one = true
    · rw [if_pos h, if_pos h]
    · rw [if_neg h, if_neg h]
  · rfl

theorem list_seg (c : List Value) (o : Nat) (vs : List Value) (h : o + vs.length ≤ c.length) (i : Nat) :
    (c.take o ++ vs ++ c.drop (o + vs.length))[i]? = if o ≤ i ∧ i < o + vs.length then vs[i - o]? else c[i]? := by
  rw [List.append_assoc, List.getElem?_append]
  simp only [List.length_take]
  have hm : min o c.length = o := by omega
  rw [hm]
  split
  · rename_i h1; rw [List.getElem?_take, if_pos h1, if_neg (by omega)]
  · rename_i h1
    rw [List.getElem?_append]
    split
    · rename_i h2; rw [if_pos (by omega)]
    · rename_i h2
      rw [if_neg (by omega), List.getElem?_drop]
      congr 1
      omega

theorem setRow_getElem (w : World) (g B : Nat) (c : Array Value) (h : B ≠ g) : (w.setRow g c).heap[B]? = w.heap[B]? := by
  simp only [World.setRow, Array.getElem?_modify]
  rw [if_neg (Ne.symm h)]

theorem writeN_run (h : WRel σ W w.heap) {b off : Nat} {vs vs' : List Value} {W' : AW} {g : Seg} (hw : writeN W b off vs = some W') (hg : σ b = some g) (hv : LR σ vs vs') :
    ∃ w', (storeCells ⟨g.B, g.s + off, none⟩ vs').run P w = .ok () w' ∧ WRel σ W' w'.heap ∧ Ext σ W w σ W' w' := by
  rw [writeN_def] at hw
  split at hw
  · rename_i cs hget
    split at hw
    · rename_i hcond
      injection hw with hw
      obtain ⟨hlen, hone⟩ := hcond
      obtain ⟨c, t, h1, h2, h3, h4⟩ := h.obj b _ g hget hg
      have hvl := hv.1
      have hst := run_storeCells_at (P := P) g.B (g.s + off) t vs' 0 c w h1 (by omega) (one_all hv hone)
      simp only [Nat.add_zero] at hst
      refine ⟨_, hst, ?_⟩
      rw [← hw]
      have hseg := list_seg c.toList (g.s + off) vs' (by simp; omega)
      refine h.write (cs' := setN cs off vs) hget hg (by simp [World.setRow]) rfl rfl rfl (fun B hB => setRow_getElem w g.B B _ hB) h1 (setRow_heap w g.B c _ t _ h1) (by simp; omega) ?_ ?_ ?_
      · intro i hi
        have := hseg i
        rw [if_neg (by omega)] at this
        simpa using this
      · simp [setN]; omega
      · intro i v hiv
        have hsg := list_seg cs off vs hlen i
        rw [show setN cs off vs = cs.take off ++ vs ++ cs.drop (off + vs.length) from rfl, hsg] at hiv
        have hs2 := hseg (g.s + i)
        by_cases hin : off ≤ i ∧ i < off + vs.length
        · rw [if_pos hin] at hiv
          rw [if_pos (by omega)] at hs2
          obtain ⟨v', f1, f2⟩ := hv.get hiv
          refine ⟨v', ?_, f2⟩
          rw [show g.s + i - (g.s + off) = i - off by omega] at hs2
          rw [← f1]
          simpa using hs2
        · rw [if_neg hin] at hiv
          rw [if_neg (by omega)] at hs2
          obtain ⟨v', f1, f2⟩ := h4 i v hiv
          exact ⟨v', by rw [← f1]; simpa using hs2, f2⟩
    · cases hw
  · cases hw

noncomputable def aStore (P : Program) (W : AW) (t : TypeId) (x v : Value) : Option AW :=
  match x with
  | .pointer (some a) => match tSz P t with
    | some n => if v.cells.size = n then writeN W a.block a.off v.cells.toList else none
    | none => none
  | _ => none
theorem aStore_run (h : WRel σ W w.heap) {t : TypeId} {x x' v v' : Value} {W' : AW} (ha : aStore P W t x v = some W') (hx : VR σ x x') (hv : VR σ v v') :
    ∃ w', (Instr.storeAt t x' v').run P w = .ok () w' ∧ WRel σ W' w'.heap ∧ Ext σ W w σ W' w' := by
  unfold aStore at ha
  split at ha
  · rename_i a
    cases hx with
    | ptr a g hg hs =>
      split at ha
      · rename_i n hn
        split at ha
        · rename_i hsz
          obtain ⟨w', h1, h2⟩ := writeN_run (P := P) h ha hg hv.cells
          have hsz' : v'.cells.size = n := by
            have := hv.cells.1
            simp at this
            omega
          exact ⟨w', by simp [Instr.storeAt, Instr.sureAddr, storeVar, run_sizeOf' hn, hsz', h1], h2⟩
        · cases ha
      · cases ha
  · cases ha

/-- A NEW ROW OF CELLS, exactly as long as told -/
theorem newRow_run (h : WRel σ W w.heap) (t : TypeId) {cs cs' : List Value} (hc : LR σ cs cs') :
    (newRow t cs'.toArray).run P w = .ok ⟨w.heap.size, 0, none⟩ { w with heap := w.heap.push (.cells cs'.toArray t) } ∧
    bind1 σ W.next ⟨w.heap.size, 0, cs.length⟩ W.next = some ⟨w.heap.size, 0, cs.length⟩ ∧
    WRel (bind1 σ W.next ⟨w.heap.size, 0, cs.length⟩) (W.add (.cells cs)) (w.heap.push (.cells cs'.toArray t)) ∧
    Ext σ W w (bind1 σ W.next ⟨w.heap.size, 0, cs.length⟩) (W.add (.cells cs)) { w with heap := w.heap.push (.cells cs'.toArray t) } := by
  refine ⟨by simp [newRow], bind1_same, h.alloc ?_⟩
  refine ⟨cs'.toArray, t, by simp, by simp, by simp [hc.1], fun i v hv => ?_⟩
  obtain ⟨v', a, b⟩ := hc.get hv
  exact ⟨v', by simpa using a, b.mono (bind1_sub h.fresh)⟩

theorem WRel.kill (h : WRel σ W w.heap) {b : Nat} {g0 : Seg} (hb : ∀ cs, W.get b ≠ some (.ro cs)) (hg0 : σ b = some g0) : WRel σ (W.kill b) w.heap ∧ Ext σ W w σ (W.kill b) w := by
  have hk : ∀ c o, (W.kill b).get c = some o → c ≠ b ∧ W.get c = some o := fun c o hc => by
    by_cases hx : c = b
    · subst hx; rw [AW.get_kill] at hc; cases hc
    · rw [AW.get_kill_ne _ (Ne.symm hx)] at hc; exact ⟨hx, hc⟩
  refine ⟨⟨?_, h.dom, ?_, ?_⟩, ⟨.refl _, ?_, Nat.le_refl _, rfl, rfl, rfl, fun _ _ _ => rfl, ?_, ?_, fun _ => rfl⟩⟩
  · intro c hc
    by_cases hx : c = b
    · subst hx; exact AW.get_kill _ _
    · rw [AW.get_kill_ne _ (Ne.symm hx)]; exact h.free c hc
  · intro c o g hc hg; exact h.obj c o g (hk c o hc).2 hg
  · intro b1 b2 o1 o2 g1 g2 hne h1 h2 k1 k2 hr
    exact h.disj b1 b2 o1 o2 g1 g2 hne (hk _ _ h1).2 (hk _ _ h2).2 k1 k2 hr
  · intro c cs hc
    have hx : c ≠ b := fun e => by subst e; exact hb cs hc
    rw [AW.get_kill_ne _ (Ne.symm hx)]; exact hc
  · intro c o2 hc hkn
    have hcb : c ≠ b := fun e => by subst e; rw [hg0] at hkn; cases hkn
    exact ⟨by rw [AW.get_kill_ne _ (Ne.symm hcb)]; exact hc, hkn⟩
  · exact fun c g hg _ => .inl hg
end
end Go.Eng
