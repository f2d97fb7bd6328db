/- What the operations answer at values whose make is known. -/
import Derived.Test.YtfcfglpkgcheiaaDoorOpnE
namespace Go.Eng
open Go
set_option linter.unusedSectionVars false
set_option linter.unusedSimpArgs false
set_option linter.unusedVariables false
variable [PlanTab]

theorem bnd_some {α ρ : Type} (a : α) (g : α → Option ρ) : bnd (some a) g = g a := by rw [bnd_eq]; rfl
theorem bnd_ok {α ρ : Type} {x : Option α} {a : α} (h : x = some a) (g : α → Option ρ) : bnd x g = g a := by rw [h, bnd_some]
section
variable {P : Program} {W : AW}
theorem oMv_eq (v : Value) : oMv v W = some (v, W) := Eq.trans rfl rfl
theorem oBox_agg (cs : Array Value) : oBox (.agg cs) W = some (.pointer (some ⟨W.next, 0, none⟩), W.add (.cells cs.toList)) := Eq.trans rfl rfl
theorem oBox_int (k : IntKind) (n : Int) : oBox (.int k n) W = some (.pointer (some ⟨W.next, 0, none⟩), W.add (.cells [.int k n])) := Eq.trans rfl rfl
theorem oBox_bool (b : Bool) : oBox (.bool b) W = some (.pointer (some ⟨W.next, 0, none⟩), W.add (.cells [.bool b])) := Eq.trans rfl rfl
theorem oBox_string (s : ByteArray) : oBox (.string s) W = some (.pointer (some ⟨W.next, 0, none⟩), W.add (.cells [.string s])) := Eq.trans rfl rfl
theorem oBox_slice (a : Option Addr) (l c : Nat) : oBox (.slice a l c) W = some (.pointer (some ⟨W.next, 0, none⟩), W.add (.cells [.slice a l c])) := Eq.trans rfl rfl
theorem oBox_func (f : Fn) (a b : Array Value) : oBox (.func f a b) W = some (.pointer (some ⟨W.next, 0, none⟩), W.add (.cells [.func f a b])) := Eq.trans rfl rfl
theorem oMkFunc_eq (f : FuncId) (a b : Array Value) : oMkFunc (.func f) a b W = some (.func (.func f) a b, W) := Eq.trans rfl rfl
theorem oExtract_2_0 (a b : Value) : oExtract (.tuple #[a, b]) 0 W = some (a, W) := Eq.trans rfl rfl
theorem oExtract_2_1 (a b : Value) : oExtract (.tuple #[a, b]) 1 W = some (b, W) := Eq.trans rfl rfl
theorem oExtract_3_0 (a b c : Value) : oExtract (.tuple #[a, b, c]) 0 W = some (a, W) := Eq.trans rfl rfl
theorem oExtract_3_1 (a b c : Value) : oExtract (.tuple #[a, b, c]) 1 W = some (b, W) := Eq.trans rfl rfl
theorem oExtract_3_2 (a b c : Value) : oExtract (.tuple #[a, b, c]) 2 W = some (c, W) := Eq.trans rfl rfl
theorem oExtract_4_0 (a b c d : Value) : oExtract (.tuple #[a, b, c, d]) 0 W = some (a, W) := Eq.trans rfl rfl
theorem oExtract_4_1 (a b c d : Value) : oExtract (.tuple #[a, b, c, d]) 1 W = some (b, W) := Eq.trans rfl rfl
theorem oExtract_4_2 (a b c d : Value) : oExtract (.tuple #[a, b, c, d]) 2 W = some (c, W) := Eq.trans rfl rfl
theorem oExtract_4_3 (a b c d : Value) : oExtract (.tuple #[a, b, c, d]) 3 W = some (d, W) := Eq.trans rfl rfl
theorem wnt_true (b : Bool) : wnt (.bool b) true = b := by cases b <;> exact Eq.trans rfl rfl
theorem wnt_false (b : Bool) : wnt (.bool b) false = !b := by cases b <;> exact Eq.trans rfl rfl
theorem bIf_true {ρ : Type} (a b : ρ) : bIf true a b = a := Eq.trans rfl rfl
theorem bIf_false {ρ : Type} (a b : ρ) : bIf false a b = b := Eq.trans rfl rfl
theorem bIf_ite {ρ : Type} (c : Bool) (a b : ρ) : bIf c a b = if c = true then a else b := by cases c <;> exact Eq.trans rfl rfl
theorem vIf_bool {ρ : Type} (c : Bool) (a b : Option ρ) : vIf (.bool c) a b = bIf c a b := Eq.trans rfl rfl
theorem oPick_bool (c : Bool) (a b : Value) : oPick (.bool c) a b W = some (bIf c a b, W) := by cases c <;> exact Eq.trans rfl rfl
theorem kNorm_normal {ρ : Type} (a b : Option ρ) : kNorm X.normal a b = a := Eq.trans rfl rfl
theorem kNorm_exit {ρ : Type} (i : Nat) (a b : Option ρ) : kNorm (X.exit i) a b = b := Eq.trans rfl rfl
theorem kNorm_ret {ρ : Type} (a b : Option ρ) : kNorm X.ret a b = b := Eq.trans rfl rfl
theorem kExit_same {ρ : Type} (i : Nat) (a b : Option ρ) : kExit i (X.exit i) a b = a := by
  show Bool.rec b a (Nat.beq i i) = a
  rw [Nat.beq_refl]
theorem kExit_ne {ρ : Type} {i j : Nat} (h : Nat.beq j i = false) (a b : Option ρ) : kExit i (X.exit j) a b = b := by
  show Bool.rec b a (Nat.beq j i) = b
  rw [h]
theorem kExit_ret {ρ : Type} (i : Nat) (a b : Option ρ) : kExit i X.ret a b = b := Eq.trans rfl rfl
theorem kExit_normal {ρ : Type} (i : Nat) (a b : Option ρ) : kExit i X.normal a b = b := Eq.trans rfl rfl
theorem kRetX_ret {ρ : Type} (a : Option ρ) : kRetX X.ret a = a := Eq.trans rfl rfl
theorem oUn_not (b : Bool) : oUn P .not (.bool b) W = some (.bool (!b), W) := Eq.trans rfl rfl
theorem fnV_eq (f : FuncId) : fnV f = .func (.func f) #[] #[] := Eq.trans rfl rfl

/-! ### integers -/
theorem oBin_int {op : BinOp} {t : TypeId} {c d : Bool} {k : IntKind} {a b : Int} {v : Value} (h : aInt op k a b = some v) : oBin P op t c d (.int k a) (.int k b) W = some (v, W) := by
  unfold oBin aBin
  simp only [if_pos, h]
theorem wrap_i64 {n : Int} (h1 : -9223372036854775808 ≤ n) (h2 : n < 9223372036854775808) : IntKind.i64.wrap n = n := by
  unfold IntKind.wrap
  simp only [IntKind.bits, IntKind.signed, Bool.true_and]
  split <;> rename_i h <;> simp at h <;> omega
theorem oBin_add {t : TypeId} {c d : Bool} {a b : Int} (h1 : -9223372036854775808 ≤ a + b) (h2 : a + b < 9223372036854775808) : oBin P .add t c d (.int .i64 a) (.int .i64 b) W = some (.int .i64 (a + b), W) :=
  oBin_int (by simp only [aInt, forceI_eq, wrapF_eq, wrap_i64 h1 h2])
theorem oBin_sub {t : TypeId} {c d : Bool} {a b : Int} (h1 : -9223372036854775808 ≤ a - b) (h2 : a - b < 9223372036854775808) : oBin P .sub t c d (.int .i64 a) (.int .i64 b) W = some (.int .i64 (a - b), W) :=
  oBin_int (by simp only [aInt, forceI_eq, wrapF_eq, wrap_i64 h1 h2])
theorem oBin_mul {t : TypeId} {c d : Bool} {a b : Int} (h1 : -9223372036854775808 ≤ a * b) (h2 : a * b < 9223372036854775808) : oBin P .mul t c d (.int .i64 a) (.int .i64 b) W = some (.int .i64 (a * b), W) :=
  oBin_int (by simp only [aInt, forceI_eq, wrapF_eq, wrap_i64 h1 h2])
theorem oBin_lss {t : TypeId} {c d : Bool} {k : IntKind} {a b : Int} : oBin P .lss t c d (.int k a) (.int k b) W = some (.bool (decide (a < b)), W) := oBin_int rfl
theorem oBin_leq {t : TypeId} {c d : Bool} {k : IntKind} {a b : Int} : oBin P .leq t c d (.int k a) (.int k b) W = some (.bool (decide (a ≤ b)), W) := oBin_int rfl
theorem oBin_gtr {t : TypeId} {c d : Bool} {k : IntKind} {a b : Int} : oBin P .gtr t c d (.int k a) (.int k b) W = some (.bool (decide (b < a)), W) := oBin_int rfl
theorem oBin_geq {t : TypeId} {c d : Bool} {k : IntKind} {a b : Int} : oBin P .geq t c d (.int k a) (.int k b) W = some (.bool (decide (b ≤ a)), W) := oBin_int rfl
theorem oBin_eql {t : TypeId} {c d : Bool} {k : IntKind} {a b : Int} : oBin P .eql t c d (.int k a) (.int k b) W = some (.bool (decide (a = b)), W) := oBin_int rfl
theorem oBin_neq {t : TypeId} {c d : Bool} {k : IntKind} {a b : Int} : oBin P .neq t c d (.int k a) (.int k b) W = some (.bool (!decide (a = b)), W) := oBin_int rfl
theorem pureNext {s : Sem Value} {v : Value} (h : pureRun P s = some v) : nextVal (pureRun P (do pure (.value (← s)))) = some v := by
  induction s with
  | pure a => simp only [pureRun] at h; injection h with h; subst h; rfl
  | program k ih => exact ih P h
  | _ => simp [pureRun] at h
theorem oBin_pure {op : BinOp} {t : TypeId} {c d : Bool} {x y v : Value} (h0 : aBin P W op t x y = none) (hx : plain x = true) (hy : plain y = true) (hv : plain v = true)
    (hp : pureRun P (do eqGuard op t (opd c) (opd d) x y; binOp op t x y : Sem Value) = some v) : oBin P op t c d x y W = some (v, W) := by
  unfold oBin
  rw [h0]
  simp only [pureS, hx, hy, Bool.and_self, if_true, pureNext hp, hv, Option.map_some]
theorem oBin_rem {t : TypeId} {c d : Bool} {k : IntKind} {a b : Int} (hb : b ≠ 0) : oBin P .rem t c d (.int k a) (.int k b) W = some (.int k (a.tmod b), W) := by
  refine oBin_pure (by simp [aBin, aInt]) rfl rfl rfl ?_
  simp [eqGuard, binOp, Op.intDiv, hb]; rfl
theorem oBin_quo {t : TypeId} {c d : Bool} {k : IntKind} {a b : Int} (hb : b ≠ 0) : oBin P .quo t c d (.int k a) (.int k b) W = some (.int k (k.wrap (a.tdiv b)), W) := by
  refine oBin_pure (by simp [aBin, aInt]) rfl rfl rfl ?_
  simp [eqGuard, binOp, Op.intDiv, hb]; rfl
theorem oBin_bits {op : BinOp} (ho : op = .and ∨ op = .or ∨ op = .xor ∨ op = .andNot) {t : TypeId} {c d : Bool} {k : IntKind} {a b n : Int} (h : pureRun P (Op.intBits op k a b) = some (.int k n)) : oBin P op t c d (.int k a) (.int k b) W = some (.int k n, W) := by
  refine oBin_pure (by rcases ho with rfl | rfl | rfl | rfl <;> simp [aBin, aInt]) rfl rfl rfl ?_
  rcases ho with rfl | rfl | rfl | rfl <;> simpa [eqGuard, binOp] using h
theorem oBin_and {t : TypeId} {c d : Bool} {k : IntKind} {a b : Int} : oBin P .and t c d (.int k a) (.int k b) W = some (.int k (k.wrap (BitVec.ofInt k.bits a &&& BitVec.ofInt k.bits b).toNat), W) := oBin_bits (.inl rfl) rfl
theorem oBin_or {t : TypeId} {c d : Bool} {k : IntKind} {a b : Int} : oBin P .or t c d (.int k a) (.int k b) W = some (.int k (k.wrap (BitVec.ofInt k.bits a ||| BitVec.ofInt k.bits b).toNat), W) := oBin_bits (.inr (.inl rfl)) rfl
theorem oBin_andNot {t : TypeId} {c d : Bool} {k : IntKind} {a b : Int} : oBin P .andNot t c d (.int k a) (.int k b) W = some (.int k (k.wrap (BitVec.ofInt k.bits a &&& ~~~BitVec.ofInt k.bits b).toNat), W) := oBin_bits (.inr (.inr (.inr rfl))) rfl
theorem oBin_shl {t : TypeId} {c d : Bool} {k k' : IntKind} {a b : Int} (hb : 0 ≤ b) : oBin P .shl t c d (.int k a) (.int k' b) W = some (.int k (k.wrap (a * 2 ^ min b.toNat k.bits)), W) := by
  refine oBin_pure (by simp [aBin, aInt]) rfl rfl rfl ?_
  have : ¬ b < 0 := by omega
  simp [eqGuard, binOp, Op.shift, this]; rfl
theorem pureRun_bind {α β : Type} (s : Sem α) (f : α → Sem β) : pureRun P (s >>= f) = (pureRun P s).bind fun a => pureRun P (f a) := by
  induction s with
  | pure a => rfl
  | program k ih => exact ih P
  | _ => rfl
theorem pureRun_pure {α : Type} (a : α) : pureRun P (pure a : Sem α) = some a := Eq.trans rfl rfl
theorem pureRun_program : pureRun P (program : Sem Program) = some P := Eq.trans rfl rfl
theorem pureRun_underlying {t : TypeId} {d : TypeDesc} (h : P.underlying t = some d) : pureRun P (underlying t) = some d := by
  unfold underlying
  simp only [pureRun_bind, pureRun_program, Option.bind_some, h, pureRun_pure]
theorem pr_eq_bool {t : TypeId} {a b : Bool} (ht : P.underlying t = some .bool) (d : Nat) : pureRun P (Op.equalIn (d + 1) t (.bool a) (.bool b)) = some (a == b) := by
  unfold Op.equalIn
  simp only [pureRun_bind, pureRun_underlying ht, Option.bind_some, pureRun_pure]
theorem oBin_bools_eql {t : TypeId} {c d : Bool} {a b : Bool} (ht : P.underlying t = some .bool) : oBin P .eql t c d (.bool a) (.bool b) W = some (.bool (a == b), W) := by
  refine oBin_pure (by simp [aBin, aEql, aEqT, ht]) rfl rfl rfl ?_
  have h : pureRun P (Op.equal t (.bool a) (.bool b)) = some (a == b) := pr_eq_bool ht 9999
  have e : binOp .eql t (.bool a) (.bool b) = (do pure (.bool (← Op.equal t (.bool a) (.bool b)))) := rfl
  rw [e]
  simp only [eqGuard, pureRun_bind, h, pureRun_pure, Option.bind_some]
  rfl
theorem oBin_bools_neq {t : TypeId} {c d : Bool} {a b : Bool} (ht : P.underlying t = some .bool) : oBin P .neq t c d (.bool a) (.bool b) W = some (.bool (!(a == b)), W) := by
  refine oBin_pure (by simp [aBin, aEql, aEqT, ht]) rfl rfl rfl ?_
  have h : pureRun P (Op.equal t (.bool a) (.bool b)) = some (a == b) := pr_eq_bool ht 9999
  have e : binOp .neq t (.bool a) (.bool b) = (do pure (.bool (!(← Op.equal t (.bool a) (.bool b))))) := rfl
  rw [e]
  simp only [eqGuard, pureRun_bind, h, pureRun_pure, Option.bind_some]
  rfl
theorem oBin_strings_eql {t : TypeId} {c d : Bool} {a b : ByteArray} : oBin P .eql t c d (.string a) (.string b) W = some (.bool (a.toList == b.toList), W) := by
  refine oBin_pure ?_ rfl rfl rfl ?_
  · simp only [aBin]
    have h1 : aEql P W t (.string a) (.string b) = none := by unfold aEql; split <;> first | rfl | simp_all
    rw [h1]; rfl
  · rfl
theorem oBin_strings_neq {t : TypeId} {c d : Bool} {a b : ByteArray} : oBin P .neq t c d (.string a) (.string b) W = some (.bool (!(a.toList == b.toList)), W) := by
  refine oBin_pure ?_ rfl rfl rfl ?_
  · simp only [aBin]
    have h1 : aEql P W t (.string a) (.string b) = none := by unfold aEql; split <;> first | rfl | simp_all
    rw [h1]; rfl
  · rfl
/-! ### lengths, results -/
theorem len_slice {ts : Array TypeId} {ty : TypeId} {cf : Array Bool} {e : TypeId} (h : (ts[0]?).bind P.underlying = some (.slice e)) (a : Option Addr) (n c : Nat) : oBuiltin P .len ts ty cf [.slice a n c] W = some (.int .i64 n, W) := by
  unfold oBuiltin
  simp only [h]
  rfl
theorem oRes_none1 (v : Value) : oRes P [(v, none)] W = some (v, W) := Eq.trans rfl rfl
theorem oRes_none2 (v u : Value) : oRes P [(v, none), (u, none)] W = some (.tuple #[v, u], W) := Eq.trans rfl rfl
theorem oRes_none3 (v u x : Value) : oRes P [(v, none), (u, none), (x, none)] W = some (.tuple #[v, u, x], W) := Eq.trans rfl rfl
theorem oRes_nil : oRes P [] W = some (.tuple #[], W) := Eq.trans rfl rfl

/-! ### memory -/
theorem ldC_ok {b o : Nat} {cs : List Value} {v : Value} (h : cellsAt W b = some cs) (hv : cs[o]? = some v) : ldC (.pointer (some ⟨b, o, none⟩)) W = some (v, W) := by
  unfold ldC
  simp only [h, lget_eq, hv, Option.map_some]
theorem ldA_ok {n b o : Nat} {cs : List Value} (h : cellsAt W b = some cs) (hv : ((cs.drop o).take n).length = n) : ldA n (.pointer (some ⟨b, o, none⟩)) W = some (.agg ((cs.drop o).take n).toArray, W) := by
  unfold ldA
  simp only [readN_def, h, hv, if_true, Option.map_some]
theorem cellsAt_of {b : Nat} {cs : List Value} (h : W.get b = some (.cells cs)) : cellsAt W b = some cs := by unfold cellsAt; rw [h]
theorem cellsAt_ro {b : Nat} {cs : List Value} (h : W.get b = some (.ro cs)) : cellsAt W b = some cs := by unfold cellsAt; rw [h]
theorem cellsAt_new {cs : List Value} : cellsAt (W.add (.cells cs)) W.next = some cs := cellsAt_of (W.get_add _)
theorem cellsAt_add {b : Nat} (o : AObj) (h : b < W.next) : cellsAt (W.add o) b = cellsAt W b := by unfold cellsAt; rw [W.get_add_ne o (by omega)]
theorem cellsAt_put {b : Nat} (cs : List Value) : cellsAt (W.put b (.cells cs)) b = some cs := cellsAt_of (W.get_put _ _)
theorem cellsAt_put_ne {b c : Nat} (o : AObj) (h : b ≠ c) : cellsAt (W.put b o) c = cellsAt W c := by unfold cellsAt; rw [W.get_put_ne o h]
theorem Le.cellsAt {W W' : AW} (h : Le W W') {b : Nat} (hb : b < W.next) : cellsAt W' b = cellsAt W b := by unfold Eng.cellsAt; rw [h.get b hb]
theorem stV_ok {n b o : Nat} {cs : List Value} {v : Value} (h : W.get b = some (.cells cs)) (hn : v.cells.size = n) (hl : o + v.cells.toList.length ≤ cs.length) (h1 : v.cells.toList.all one = true) :
    stV n (.pointer (some ⟨b, o, none⟩)) v W = some (undef, W.put b (.cells (setN cs o v.cells.toList))) := by
  unfold stV
  simp only [hn, if_true, writeN_def, h, if_pos (show o + v.cells.toList.length ≤ cs.length ∧ v.cells.toList.all one = true from ⟨hl, h1⟩), Option.map_some]
theorem faO_ok {b o off : Nat} : faO off (.pointer (some ⟨b, o, none⟩)) W = some (.pointer (some ⟨b, o + off, none⟩), W) := by
  unfold faO
  simp only [addr_add]
theorem ixS_ok {z b o l c i : Nat} {k : IntKind} (h : i < l) : ixS z (.slice (some ⟨b, o, none⟩) l c) (.int k (i : Int)) W = some (.pointer (some ⟨b, o + i * z, none⟩), W) := by
  unfold ixS
  simp only [natOf, if_pos h, addr_add]
theorem ixA_ok {len z b o i : Nat} {k : IntKind} (h : i < len) : ixA len z (.pointer (some ⟨b, o, none⟩)) (.int k (i : Int)) W = some (.pointer (some ⟨b, o + i * z, none⟩), W) := by
  unfold ixA
  simp only [natOf, if_pos h, addr_add]
theorem fdC_ok {off : Nat} {cs : Array Value} {v : Value} (h : cs[off]? = some v) : fdC off (.agg cs) W = some (v, W) := by
  unfold fdC; simp only [h, Option.map_some]
theorem fdA_ok {off n : Nat} {cs : Array Value} : fdA off n (.agg cs) W = some (.agg (cs.extract off (off + n)), W) := Eq.trans rfl rfl
end

section
variable {P : Program} {W : AW}
/-! ### memory, as equations -/
theorem ldC_eq {b o : Nat} : ldC (.pointer (some ⟨b, o, none⟩)) W = (cellsAt W b).bind fun cs => (cs[o]?).map fun v => (v, W) := by
  unfold ldC
  simp only
  cases cellsAt W b with
  | none => rfl
  | some cs => simp only [Option.bind_some, lget_eq]
theorem ldA_eq {n b o : Nat} : ldA n (.pointer (some ⟨b, o, none⟩)) W = (cellsAt W b).bind fun cs => if ((cs.drop o).take n).length = n then some (.agg ((cs.drop o).take n).toArray, W) else none := by
  unfold ldA
  simp only [readN_def]
  cases cellsAt W b with
  | none => rfl
  | some cs =>
    simp only [Option.bind_some]
    by_cases h : ((cs.drop o).take n).length = n
    · rw [if_pos h, if_pos h]; rfl
    · rw [if_neg h, if_neg h]; rfl
noncomputable def rwCells (W : AW) (b : Nat) : Option (List Value) := match W.get b with | some (.cells cs) => some cs | _ => none
theorem rwCells_cellsAt {b : Nat} {cs : List Value} (h : rwCells W b = some cs) : cellsAt W b = some cs := by
  unfold rwCells at h
  split at h
  · rename_i cs' hg; injection h with h; subst h; exact cellsAt_of hg
  · cases h
theorem rwCells_get {b : Nat} {cs : List Value} (h : rwCells W b = some cs) : W.get b = some (.cells cs) := by
  unfold rwCells at h
  split at h
  · rename_i cs' hg; injection h with h; subst h; exact hg
  · cases h
theorem rwCells_of {b : Nat} {cs : List Value} (h : W.get b = some (.cells cs)) : rwCells W b = some cs := by unfold rwCells; rw [h]
theorem rwCells_new {cs : List Value} : rwCells (W.add (.cells cs)) W.next = some cs := rwCells_of (W.get_add _)
theorem rwCells_add {b : Nat} (o : AObj) (h : b < W.next) : rwCells (W.add o) b = rwCells W b := by unfold rwCells; rw [W.get_add_ne o (by omega)]
theorem rwCells_put {b : Nat} (cs : List Value) : rwCells (W.put b (.cells cs)) b = some cs := rwCells_of (W.get_put _ _)
theorem rwCells_put_ne {b c : Nat} (o : AObj) (h : b ≠ c) : rwCells (W.put b o) c = rwCells W c := by unfold rwCells; rw [W.get_put_ne o h]
theorem Le.rwCells {W W' : AW} (h : Le W W') {b : Nat} (hb : b < W.next) : rwCells W' b = rwCells W b := by unfold Eng.rwCells; rw [h.get b hb]
theorem stV_eq {n b o : Nat} {v : Value} : stV n (.pointer (some ⟨b, o, none⟩)) v W = (rwCells W b).bind fun cs => if v.cells.size = n ∧ o + v.cells.toList.length ≤ cs.length ∧ v.cells.toList.all one = true then some (undef, W.put b (.cells (setN cs o v.cells.toList))) else none := by
  unfold stV rwCells
  simp only [writeN_def]
  by_cases h : v.cells.size = n
  · rw [if_pos h]
    cases hg : W.get b with
    | none => rfl
    | some obj =>
      cases obj with
      | cells cs =>
        simp only [Option.bind_some]
        by_cases h2 : o + v.cells.toList.length ≤ cs.length ∧ v.cells.toList.all one = true
        · rw [if_pos h2, if_pos ⟨h, h2⟩]; rfl
        · rw [if_neg h2, if_neg (fun x => h2 x.2)]; rfl
      | _ => rfl
  · rw [if_neg h]
    cases hg : W.get b with
    | none => rfl
    | some obj =>
      cases obj with
      | cells cs => simp only [Option.bind_some]; rw [if_neg (fun x => h x.1)]; rfl
      | _ => rfl
/-! slices of slices -/
def sliceZ (P : Program) (t : TypeId) : Option Nat := match P.underlying t with
  | some (.slice e) => tSz P e
  | _ => none
theorem sliceZ_inv {t : TypeId} {z : Nat} (h : sliceZ P t = some z) : ∃ e, P.underlying t = some (.slice e) ∧ tSz P e = some z := by
  unfold sliceZ at h
  split at h
  · rename_i e hu; exact ⟨e, hu, h⟩
  · cases h
/-- x[:h] of a slice whose capacity is known -/
theorem oSlice_to {t : TypeId} {z : Nat} (hz : sliceZ P t = some z) {b o l c h : Nat} {k : IntKind} (h1 : h ≤ c) (h2 : c < BIG) :
    oSlice P t (.slice (some ⟨b, o, none⟩) l c) none (some (.int k (h : Int))) none W = some (.slice (some ⟨b, o, none⟩) h c, W) := by
  obtain ⟨e, he, hz⟩ := sliceZ_inv hz
  have hb : ¬ (c = BIG + z ∧ 0 < z) := fun x => by omega
  have h0 : ((⟨b, o, none⟩ : Addr).add (0 * z)) = ⟨b, o, none⟩ := by rw [addr_add]; simp
  unfold oSlice aSlice
  simp only [he, hz, boundOf, natOf, Nat.zero_le, if_true, if_neg hb, if_pos (And.intro h2 h1), Nat.sub_zero, h0, ite_self]
theorem oSlice_to_nil {t : TypeId} {z : Nat} (hz : sliceZ P t = some z) {k : IntKind} :
    oSlice P t (.slice none 0 0) none (some (.int k (0 : Nat))) none W = some (.slice none 0 0, W) := by
  obtain ⟨e, he, hz⟩ := sliceZ_inv hz
  unfold oSlice aSlice
  simp only [he, hz, boundOf, natOf, Nat.le_refl, and_self, if_true, Nat.sub_zero]
/-! append -/
/-- what append asks of the types -/
def appOk (P : Program) (ts : Array TypeId) (z bytes : Nat) : Bool := match ts.toList with
  | [t0, t1] => Nat.beq t0 t1 && (match sliceElem P t0 with
    | some e => (match tSz P e, (P.info? e).map (fun i => (i.zero, i.bytes)) with
      | some z', some (some zv, bytes') => Nat.beq z' z && Nat.beq bytes' bytes && Nat.blt 0 z && Nat.beq zv.cells.size z
      | _, _ => false)
    | none => false)
  | _ => false
theorem appOk_inv {ts : Array TypeId} {z bytes : Nat} (h : appOk P ts z bytes = true) : ∃ t e zv, ts.toList = [t, t] ∧ sliceElem P t = some e ∧ tSz P e = some z ∧ (P.info? e).map (fun i => (i.zero, i.bytes)) = some (some zv, bytes) ∧ 0 < z ∧ zv.cells.size = z := by
  unfold appOk at h
  split at h
  case h_2 => cases h
  rename_i t0 t1 hl
  simp only [Bool.and_eq_true, Nat.beq_eq] at h
  obtain ⟨h0, h⟩ := h
  subst h0
  split at h
  case h_2 => cases h
  rename_i e he
  split at h
  case h_2 => cases h
  rename_i z' zv b' h1 h2
  simp only [Bool.and_eq_true, Nat.beq_eq, Nat.blt_eq] at h
  obtain ⟨⟨⟨h3, h4⟩, h5⟩, h6⟩ := h
  subst h3; subst h4
  exact ⟨t0, e, zv, hl, he, h1, h2, h5, h6⟩
/-- append onto nothing -/
theorem app_nil {ts : Array TypeId} {z bytes : Nat} (hk : appOk P ts z bytes = true) {b o n c : Nat} {cs new : List Value} (hc : cellsAt W b = some cs) (hn : new = (cs.drop o).take (n * z)) (hl : new.length = n * z) (h0 : 0 < n) (h1 : new.all one = true)
    (hb : n < 1099511627776) (hb2 : (2 * n + 192) * bytes ≤ 281474976710656) :
    aAppend P W ts (.slice none 0 0) (.slice (some ⟨b, o, none⟩) n c) = some (.slice (some ⟨W.next, 0, none⟩) n (BIG + z), W.add (.cells new)) := by
  obtain ⟨t, e, zv, k1, k2, k3, k4, k5, k6⟩ := appOk_inv hk
  have hr : readN W b o (n * z) = some new := by rw [readN_def, hc]; simp only; rw [if_pos (by rw [← hn]; exact hl), hn]
  have hB : (0 : Nat) < BIG := by unfold BIG; omega
  have hB2 : ¬ (0 : Nat) = BIG + z := by unfold BIG; omega
  have hr1 : readSlice W (.slice (some ⟨b, o, none⟩) n c) (n * z) = some new := by
    unfold readSlice
    simp only
    rw [if_neg (by have := Nat.mul_pos h0 k5; omega), if_neg (by omega)]
    exact hr
  have hr2 : readSlice W (.slice none 0 0) (0 * z) = some [] := by unfold readSlice; simp
  unfold aAppend
  simp only [k1, k2, k3, k4, if_true, Nat.zero_add, if_pos (And.intro k5 (And.intro k6 (And.intro hb hb2))), if_neg (show ¬ n = 0 by omega), hr1, hr2, h1, if_neg hB2, if_pos hB, and_self, List.nil_append, AW.new_eq]
/-- append onto what append made: its block goes on in a new one -/
theorem app_on {ts : Array TypeId} {z bytes : Nat} (hk : appOk P ts z bytes = true) {b o n c : Nat} {cs new : List Value} (hc : cellsAt W b = some cs) (hn : new = (cs.drop o).take (n * z)) (hl : new.length = n * z) (h0 : 0 < n) (h1 : new.all one = true)
    {B m : Nat} {old : List Value} (ho : W.get B = some (.cells old)) (hol : old.length = m * z)
    (hb : m + n < 1099511627776) (hb2 : (2 * (m + n) + 192) * bytes ≤ 281474976710656) (hm : 0 < m) :
    aAppend P W ts (.slice (some ⟨B, 0, none⟩) m (BIG + z)) (.slice (some ⟨b, o, none⟩) n c) = some (.slice (some ⟨W.next, 0, none⟩) (m + n) (BIG + z), (W.kill B).add (.cells (old ++ new))) := by
  obtain ⟨t, e, zv, k1, k2, k3, k4, k5, k6⟩ := appOk_inv hk
  have hr : readN W b o (n * z) = some new := by rw [readN_def, hc]; simp only; rw [if_pos (by rw [← hn]; exact hl), hn]
  have hr1 : readSlice W (.slice (some ⟨b, o, none⟩) n c) (n * z) = some new := by
    unfold readSlice
    simp only
    rw [if_neg (by have := Nat.mul_pos h0 k5; omega), if_neg (by omega)]
    exact hr
  have hro : readN W B 0 (m * z) = some old := by
    rw [readN_def, cellsAt_of ho]; simp only [List.drop_zero]
    rw [List.take_of_length_le (by omega), if_pos hol]
  have hr2 : readSlice W (.slice (some ⟨B, 0, none⟩) m (BIG + z)) (m * z) = some old := by
    unfold readSlice
    simp only
    rw [if_neg (by have := Nat.mul_pos hm k5; omega), if_neg (by omega)]
    exact hro
  unfold aAppend
  simp only [k1, k2, k3, k4, if_true, if_pos (And.intro k5 (And.intro k6 (And.intro hb hb2))), if_neg (show ¬ n = 0 by omega), hr1, hr2, h1, ho, AW.new_eq, AW.kill_next]
end

/-! ### loops -/
theorem aLoop_some {body : PlanTab.Fr → AW → Option LT} : ∀ (n m : Nat) (I : Nat → PlanTab.Fr → AW → Prop) (Q : LT → Prop) (R : PlanTab.Fr) (W : AW), n < m → I 0 R W →
    (∀ k R W, k < n → I k R W → ∃ r, body R W = some r ∧ ((r.1 = .normal ∧ I (k + 1) r.2.1 r.2.2) ∨ (r.1 ≠ .normal ∧ Q r))) →
    (∀ R W, I n R W → ∃ r, body R W = some r ∧ r.1 ≠ .normal ∧ Q r) → ∃ r, aLoop body m R W = some r ∧ r.1 ≠ .normal ∧ Q r := by
  intro n
  induction n with
  | zero =>
    intro m I Q R W hm h0 _ he
    obtain ⟨m, rfl⟩ : ∃ k, m = k + 1 := ⟨m - 1, by omega⟩
    obtain ⟨⟨x, R', W'⟩, h1, h2, h3⟩ := he R W h0
    refine ⟨_, ?_, h2, h3⟩
    unfold aLoop
    rw [h1]
    cases x with
    | normal => exact absurd rfl h2
    | exit i => rfl
    | ret => rfl
  | succ n ih =>
    intro m I Q R W hm h0 hs he
    obtain ⟨m, rfl⟩ : ∃ k, m = k + 1 := ⟨m - 1, by omega⟩
    obtain ⟨⟨x, R', W'⟩, h1, h2⟩ := hs 0 R W (by omega) h0
    rcases h2 with ⟨h2, h3⟩ | ⟨h2, h3⟩
    · simp only at h2 h3
      subst h2
      obtain ⟨r, k1, k2, k3⟩ := ih m (fun k => I (k + 1)) Q R' W' (by omega) h3 (fun k R W hk hI => hs (k + 1) R W (by omega) hI) he
      refine ⟨r, ?_, k2, k3⟩
      unfold aLoop
      rw [h1]
      exact k1
    · refine ⟨_, ?_, h2, h3⟩
      unfold aLoop
      rw [h1]
      cases x with
      | normal => exact absurd rfl h2
      | exit i => rfl
      | ret => rfl
/-- A LOOP of at most n rounds before the last -/
theorem loop_rule {body : PlanTab.Fr → AW → Option LT} (n : Nat) (hn : n < 1000000) (I : Nat → PlanTab.Fr → AW → Prop) (Q : LT → Prop) {R : PlanTab.Fr} {W : AW} (h0 : I 0 R W)
    (hs : ∀ k R W, k < n → I k R W → ∃ r, body R W = some r ∧ ((r.1 = .normal ∧ I (k + 1) r.2.1 r.2.2) ∨ (r.1 ≠ .normal ∧ Q r)))
    (he : ∀ R W, I n R W → ∃ r, body R W = some r ∧ r.1 ≠ .normal ∧ Q r) : ∃ r, loopO body R W = some r ∧ Q r := by
  rw [loopO_eq]
  obtain ⟨r, h1, _, h2⟩ := aLoop_some n 1000000 I Q R W hn h0 hs he
  exact ⟨r, h1, h2⟩
end Go.Eng
