/- Contracts of functions, and their laws. -/
import Derived.Test.YtkpgmabebjmahaaPlainA
import Derived.Test.YtkpgmabebjmahaaOpnA
import Derived.KernelRfl
/- HeapsOrders: it answers true. -/
namespace Go.Proofs.Ytkpgmabebjmahaa
open Go Go.Eng Go.Hp
set_option linter.unusedVariables false
set_option linter.unusedSimpArgs false
set_option linter.unusedSectionVars false
set_option maxRecDepth 100000
theorem chk_zero {k nx : Int} {l : List (Int × Int)} (h1 : 1 ≤ nx) (h2 : nx ≤ 1000000000000000) (hb : ∀ x ∈ l, 1 ≤ x.1 ∧ x.1 < nx) (hd : ∀ a ∈ l, ∀ b ∈ l, a.1 = b.1 → a = b) (hn : l.Nodup) (hs : l.Pairwise fun a b => befP (KS k) b a = false) : chk (KS k) nx l = 0 := by
  have a1 : ¬ (nx < 1 ∨ 1000000000000000 < nx) := by omega
  have a2 : ¬ badR nx l := fun ⟨i, hi, h⟩ => by
    have := hb _ (List.getElem_mem hi)
    omega
  have a3 : ¬ twiceR l l.length := fun ⟨i, j, hj, hij, _, e⟩ => by
    have hi : i < l.length := by omega
    have := hd _ (List.getElem_mem hi) _ (List.getElem_mem hj) e
    exact List.pairwise_iff_getElem.1 hn i j hi hj hij this
  have a4 : ¬ formR (KS k) l := fun ⟨i, hi, e⟩ => by
    have e2 := List.pairwise_iff_getElem.1 hs i (i + 1) (by omega) hi (by omega)
    have hne : l[i] ≠ l[i + 1] := List.pairwise_iff_getElem.1 hn i (i + 1) (by omega) hi (by omega)
    exact hne (same_first (hd _ (List.getElem_mem _) _ (List.getElem_mem _)) e e2)
  unfold chk
  rw [if_neg a1, if_neg a2, if_neg a3, if_neg a4]
theorem sN (W : AW) : oBin Try.prog .neq 9 false true (.string xB) (strV [120]) W = some (.bool false, W) := by
  have : oBin Try.prog .neq 9 false true (.string xB) (.string xB) W = some (.bool (!(xB.toList == xB.toList)), W) := oBin_strings_neq
  rw [beq_self_eq_true] at this
  exact this
/-- the three queues, when i values have been taken out of each -/
structure L4I (A B C : Nat → Prop) (qa mha qb mhb qc mhc : Nat) (nx nb : Int) (V : AW) (n : Nat) : Prop where
  ex : ∃ (fa : Nat → En) (fb : Nat → Na.En) (fc : Nat → En), QS V A qa mha (lsV 0) (KS 0) nx n fa ∧ Na.QS V B qb mhb (.func (.func 32) #[] #[]) byN nb n fb ∧ QS V C qc mhc (lsV 0) (KS 0) nx n fc ∧ (hvs n fa).Perm (hvs n fc) ∧ ((all n fa).map (·.v)).Perm ((all n fb).map fun e => e.v.2) ∧ ∀ i, i < n → (fb i).v.1 = xB
theorem hvs_cons {n : Nat} {f g : Nat → En} (h : (f 0 :: all n g).Perm (all (n + 1) f)) : (hv (f 0) :: hvs n g).Perm (hvs (n + 1) f) := h.map hv
theorem KS_f {a b : Int} : KS 0 a b = decide (a < b) := rfl
theorem pops {A B C : Nat → Prop} {qa mha qb mhb qc mhc : Nat} {nx nb : Int} {V : AW} {n : Nat} (h : L4I A B C qa mha qb mhb qc mhc nx nb V (n + 1)) (hn : n ≤ 1000) (ab : ∀ b, A b → ¬ B b) (ac : ∀ b, A b → ¬ C b) (bc : ∀ b, B b → ¬ C b) (hl : ∀ b, A b ∨ B b ∨ C b → b < V.next) :
    ∃ hd x V1 V2 hb V4, omS (.func (.func 15) #[] #[]) [qV qa] V = some (.tuple #[.int .i64 hd, .int .i64 x, .int .i64 0], V1) ∧ omS (.func (.func 36) #[] #[]) [Na.qV qb] V1 = some (.tuple #[.int .i64 hb, Na.hoV (xB, x), .int .i64 0], V2) ∧
      (∀ V3 : AW, Le V2 V3 → ∃ V5, omS (.func (.func 15) #[] #[]) [qV qc] V3 = some (.tuple #[.int .i64 hd, .int .i64 x, .int .i64 0], V5) ∧ L4I A B C qa mha qb mhb qc mhc nx nb V5 n ∧ V3.next ≤ V5.next ∧ ∀ b, b < V3.next → ¬ C b → V5.get b = V3.get b) ∧ V.next ≤ V2.next ∧ (∀ b, b < V.next → ¬ A b → ¬ B b → V2.get b = V.get b) ∧ V4 = V2 := by
  obtain ⟨fa, fb, fc, Qa, Qb, Qc, P1, P2, X⟩ := h.ex
  have o := byK_ord (kfOf 0)
  have hls := isLess_of 0
  obtain ⟨V1, ga, a1, a2, a3, a4, a5⟩ := qPop_ok o hls Qa (by omega)
  have Qb1 : Na.QS V1 B qb mhb (.func (.func 32) #[] #[]) byN nb (n + 1) fb := Qb.keep (by omega) (fun b hb hB => a5.get b hb fun hA => ab b hA hB) fun b _ hB => hB
  obtain ⟨V2, gb, b1, b2, b3, b4⟩ := Na.qPop_ok byN_ord lessN_ok Qb1 (by omega)
  have n2 := b4.next
  -- the first of a and of b
  have hv1 : (fb 0).v.2 = (fa 0).v := by
    have m1 : (fa 0).v ∈ (all (n + 1) fb).map fun e => e.v.2 := P2.mem_iff.1 (List.mem_map.2 ⟨fa 0, all_mem.2 ⟨0, by omega, rfl⟩, rfl⟩)
    have m2 : (fb 0).v.2 ∈ (all (n + 1) fa).map (·.v) := P2.mem_iff.2 (List.mem_map.2 ⟨fb 0, all_mem.2 ⟨0, by omega, rfl⟩, rfl⟩)
    obtain ⟨e, he, e1⟩ := List.mem_map.1 m1
    obtain ⟨j, hj, rfl⟩ := all_mem.1 he
    obtain ⟨e', he', e2⟩ := List.mem_map.1 m2
    obtain ⟨j', hj', rfl⟩ := all_mem.1 he'
    have f1 := Qa.hp.first o j' hj'
    have f2 := Qb.hp.first byN_ord j hj
    try simp only at e1 e2
    unfold bef at f1
    unfold Na.bef byN at f2
    have f1 : KS 0 (fa j').v (fa 0).v = false := (Bool.or_eq_false_iff.1 f1).1
    rw [KS_f, decide_eq_false_iff_not] at f1
    rw [Bool.or_eq_false_iff, decide_eq_false_iff_not] at f2
    have := f2.1
    omega
  have hh1 : hv (fc 0) = hv (fa 0) := by
    have m1 : hv (fa 0) ∈ hvs (n + 1) fc := P1.mem_iff.1 (hvs_mem.2 ⟨0, by omega, rfl⟩)
    have m2 : hv (fc 0) ∈ hvs (n + 1) fa := P1.mem_iff.2 (hvs_mem.2 ⟨0, by omega, rfl⟩)
    obtain ⟨j, hj, e1⟩ := hvs_mem.1 m1
    obtain ⟨j', hj', e2⟩ := hvs_mem.1 m2
    have f1 := Qa.hp.first o j' hj'
    have f2 := Qc.hp.first o j hj
    rw [bef_P, e2] at f1
    rw [bef_P, e1] at f2
    refine same_first (fun e => ?_) f1 f2
    have : (fc 0).h = (fc j).h := by
      have := congrArg Prod.fst e1
      simp only [hv] at this e
      omega
    have hj0 := Qc.fresh (show 0 < n + 1 by omega) hj this
    subst hj0
    exact e1
  have x0 : (fb 0).v = (xB, (fa 0).v) := by rw [← X 0 (by omega), ← hv1]
  rw [x0] at b1
  refine ⟨(fa 0).h, (fa 0).v, V1, V2, (fb 0).h, V2, a1, b1, fun V3 l3 => ?_, by omega, fun b hb hA hB => by rw [b4.get b (by omega) hB, a5.get b hb hA], rfl⟩
  have n3 := l3.next
  have gV3 : ∀ b, b < V.next → ¬ A b → ¬ B b → V3.get b = V.get b := fun b hb hA hB => by rw [l3.get b (by omega), b4.get b (by omega) hB, a5.get b hb hA]
  have Qc3 : QS V3 C qc mhc (lsV 0) (KS 0) nx (n + 1) fc := Qc.keep (by omega) (fun b hb hC => gV3 b hb (fun hA => ac b hA hC) fun hB => bc b hB hC) fun b _ hC => hC
  obtain ⟨V5, gc', c1, c2, c3, c4, c5⟩ := qPop_ok o hls Qc3 (by omega)
  have ehv : (fc 0).h = (fa 0).h ∧ (fc 0).v = (fa 0).v := ⟨congrArg Prod.fst hh1, congrArg Prod.snd hh1⟩
  rw [ehv.1, ehv.2] at c1
  refine ⟨V5, c1, ⟨ga, gb, gc', ?_, ?_, c2, ?_, ?_, ?_⟩, by omega, fun b hb hC => c5.get b hb hC⟩
  · refine a2.keep (by omega) (fun b hb hA => ?_) fun b _ hA => hA
    rw [c5.get b (by omega) (ac b hA), l3.get b (by omega), b4.get b (by omega) (ab b hA)]
  · refine b2.keep (by omega) (fun b hb hB => ?_) fun b _ hB => hB
    rw [c5.get b (by omega) (bc b hB), l3.get b (by omega)]
  · have e1 := hvs_cons a3
    have e2 := hvs_cons c3
    rw [hh1] at e2
    exact List.Perm.cons_inv (e1.trans (P1.trans e2.symm))
  · have e1 : ((fa 0).v :: (all n ga).map (·.v)).Perm ((all (n + 1) fa).map (·.v)) := a3.map (fun e : En => e.v)
    have e2 : ((fb 0).v.2 :: (all n gb).map fun e => e.v.2).Perm ((all (n + 1) fb).map fun e => e.v.2) := b3.map (fun e : Na.En => e.v.2)
    rw [hv1] at e2
    exact List.Perm.cons_inv (e1.trans (P2.trans e2.symm))
  · intro i hi
    have : gb i ∈ all (n + 1) fb := b3.mem_iff.1 (List.mem_cons_of_mem _ (all_mem.2 ⟨i, hi, rfl⟩))
    obtain ⟨j, hj, ej⟩ := all_mem.1 this
    rw [← ej]; exact X j hj
theorem orders_L4 {W Vs : AW} {A B C : Nat → Prop} {qa mha qb mhb qc mhc : Nat} {nx nb : Int} {N : Nat} {dv : Value} {R0 : PlanTab.Fr} (hN : N ≤ 100) (hd : ∀ W' ty cf, oBuiltin Try.prog .len #[22] ty cf [dv] W' = some (.int .i64 (N : Int), W')) (h0 : L4I A B C qa mha qb mhb qc mhc nx nb Vs N)
    (ab : ∀ b, A b → ¬ B b) (ac : ∀ b, A b → ¬ C b) (bc : ∀ b, B b → ¬ C b) (hl : ∀ b, A b ∨ B b ∨ C b → W.next ≤ b ∧ b < Vs.next) (lW : Le W Vs) (r5 : R0 5 = dv) (r9 : R0 9 = qV qa) (r10 : R0 10 = Na.qV qb) (r16 : R0 16 = qV qc) (r18 : R0 18 = .int .i64 0)
    {ρ : Type} {K : LT → Option ρ} {G : ρ → Prop} (after : ∀ (R : PlanTab.Fr) (V : AW), R 9 = qV qa → R 10 = Na.qV qb → R 16 = qV qc → L4I A B C qa mha qb mhb qc mhc nx nb V 0 → Le W V → Vs.next ≤ V.next → Ok (K (.exit 6, R, V)) G) : Ok (bnd (loopO (law06_HeapsOrders_L4 omS) R0 Vs) K) G := by
  refine Ok_loop N (by omega) (fun k R V => R 5 = dv ∧ R 9 = qV qa ∧ R 10 = Na.qV qb ∧ R 16 = qV qc ∧ R 18 = .int .i64 (k : Int) ∧ Le W V ∧ Vs.next ≤ V.next ∧ ∃ n, n + k = N ∧ L4I A B C qa mha qb mhb qc mhc nx nb V n)
    (fun r => r.1 = .exit 6 ∧ r.2.1 9 = qV qa ∧ r.2.1 10 = Na.qV qb ∧ r.2.1 16 = qV qc ∧ Le W r.2.2 ∧ Vs.next ≤ r.2.2.next ∧ L4I A B C qa mha qb mhb qc mhc nx nb r.2.2 0) ⟨r5, r9, r10, r16, r18, lW, Nat.le_refl _, N, by omega, h0⟩ ?_ ?_ ?_
  · rintro k R V hk ⟨r5, r9, r10, r16, r18, lV, nV, n, hn, I⟩
    obtain ⟨n, rfl⟩ : ∃ n', n = n' + 1 := ⟨n - 1, by omega⟩
    unfold law06_HeapsOrders_L4
    have t1 : ((k : Int) < (N : Int)) := by omega
    have t2 := fun W' => oBin_add (P := Try.prog) (W := W') (t := 3) (c := false) (d := true) (a := (k : Int)) (b := 1) (by omega) (by omega)
    obtain ⟨h, x, V1, V2, hb, V4, a1, b1, c1, n2, g2, -⟩ := pops I (by omega) ab ac bc fun b hb => by have := hl b hb; omega
    generalize hV3 : (V2.add (.cells [.string .empty, .int .i64 0])) = V3
    have n3 : V3.next = V2.next + 1 := by rw [← hV3, AW.add_next]
    have x3 : V3.get V2.next = some (.cells [.string .empty, .int .i64 0]) := by rw [← hV3]; exact AW.get_add _ _
    have l3 : Le V2 V3 := by rw [← hV3]; exact (Le.refl _).add _
    have s3 := Na.st43 (xB, x) x3
    generalize hV3' : V3.put V2.next (.cells [.string xB, .int .i64 x]) = V3' at s3
    have n3' : V3'.next = V3.next := by rw [← hV3', AW.put_next]
    have l3' : Le V2 V3' := by rw [← hV3']; exact l3.put (Nat.le_refl _) _
    have x3' : V3'.get V2.next = some (.cells [.string xB, .int .i64 x]) := by rw [← hV3']; exact AW.get_put _ _ _
    obtain ⟨V5, c1, I5, n5, g5⟩ := c1 V3' l3'
    have x5 : V5.get V2.next = some (.cells [.string xB, .int .i64 x]) := by
      rw [g5 _ (by omega) fun hC => ?_]; exact x3'
      have := (hl _ (.inr (.inr hC))).2
      omega
    have e0 : decide ((0 : Int) = 0) = true := rfl
    have exx : decide (x = x) = true := decide_eq_true rfl
    have ehh : decide (h = h) = true := decide_eq_true rfl
    have al : oAlloc Try.prog 70 V2 = some (.pointer (some ⟨V2.next, 0, none⟩), V3) := by rw [← hV3]; exact Na.al43 V2
    simp only [SX, r5, r9, r10, r16, r18, hd, t1, decide_true, a1, b1, al, s3, c1, e0, Nat.zero_add, ldR (o := 1) (rwOf x5) rfl, ldR (o := 0) (rwOf x5) rfl, sN, exx, ehh, t2, Ok_some]
    refine .inl ⟨trivial, r5, r9, r10, r16, by rw [show ((k + 1 : Nat) : Int) = (k : Int) + 1 by omega]; rfl, ⟨by have := lV.next; omega, fun b hb => ?_⟩, by omega, n, by omega, I5⟩
    have hnot : ∀ b, b < W.next → ¬ A b ∧ ¬ B b ∧ ¬ C b := fun b hb => ⟨fun h => by have := (hl b (.inl h)).1; omega, fun h => by have := (hl b (.inr (.inl h))).1; omega, fun h => by have := (hl b (.inr (.inr h))).1; omega⟩
    have := lV.next
    rw [g5 b (by omega) (hnot b hb).2.2, l3'.get b (by omega), g2 b (by omega) (hnot b hb).1 (hnot b hb).2.1, lV.get b hb]
  · rintro R V ⟨r5, r9, r10, r16, r18, lV, nV, n, hn, I⟩
    obtain rfl : n = 0 := by omega
    unfold law06_HeapsOrders_L4
    have t1 : ¬ ((N : Int) < (N : Int)) := by omega
    simp only [SX, r5, r18, hd, t1, decide_false, Ok_some]
    exact ⟨by simp, trivial, r9, r10, r16, lV, nV, I⟩
  · rintro ⟨x, R, V⟩ ⟨hx, r9, r10, r16, lV, nV, I⟩
    simp only at hx r9 r10 r16 lV nV I
    subst hx
    exact after R V r9 r10 r16 I lV nV
/-- a row of one's own with what came -/
theorem rest0 {W3 : AW} {lo : Nat} {dv : Value} {D : List Int} (h : Lst lo W3 1 intC dv D) (hD : D.length ≤ 100) : ∃ rv W5 B, oBuildSlice Try.prog 22 0 [] W3 = some (.slice (some ⟨W3.next, 0, none⟩) 0 0, W3.add (.cells [])) ∧ aAppend Try.prog (W3.add (.cells [])) #[22, 22] (.slice (some ⟨W3.next, 0, none⟩) 0 0) dv = some (rv, W5) ∧ Le W3 W5 ∧ TRb W5 rv D B ∧ W3.next ≤ B ∧ B < W5.next := by
  have l4 : Le W3 (W3.add (.cells [])) := (Le.refl _).add _
  have n4 : (W3.add (.cells [])).next = W3.next + 1 := AW.add_next _ _
  by_cases e : D = []
  · subst e
    obtain ⟨a, c, rfl⟩ := lst_slice h
    refine ⟨_, _, W3.next, bs22_0 W3, app_none' ap22 (Nat.le_refl _) (by omega) (by omega), l4, ⟨0, [], rfl, by omega, ?_, .inr ⟨Nat.le_refl _, by unfold BIG; omega⟩⟩, Nat.le_refl _, by omega⟩
    exact cellsAt_new
  · obtain ⟨v', W5, p1, p2, p3, p4⟩ := (EL.nil' W3.next (W3.add (.cells [])) 1 intC W3.next).app ap22 intC_len intC_one (((h.mono l4).el).rd intC_len) (by simp; omega) (by simp; omega) (by omega)
    rw [List.nil_append] at p2
    obtain ⟨B, t1, t2⟩ := EL.tr p2 (by omega) fun h => absurd h e
    refine ⟨v', W5, B, bs22_0 W3, p1, ⟨by omega, fun b hb => by rw [p4 b hb, l4.get b hb]⟩, t1, t2, ?_⟩
    obtain ⟨c, j, _, h, _⟩ := t1
    exact h
theorem orders_ok {lv pv : Value} {l : List Int} {ps : List Nat} {W : AW} (h : Ints W lv l) (hp : Pks W pv ps) : omS (.func (.func 7) #[] #[]) [lv, pv] W = some (.bool true, W) := by
  refine om_drop rfl ?_ law06_HeapsOrders_om
  unfold law06_HeapsOrders
  by_cases c1 : 100 < l.length
  · have e1 : (100 : Int) < (l.length : Int) := by omega
    simp only [SX, h.len lenI, e1, decide_true, awake_ok, Ok_some]
    exact ⟨trivial, .refl _⟩
  have e1 : ¬ (100 : Int) < (l.length : Int) := by omega
  by_cases c2 : 200 < ps.length
  · have e2 : (200 : Int) < (ps.length : Int) := by omega
    simp only [SX, h.len lenI, e1, hp.len len47, e2, decide_true, decide_false, awake_ok, Ok_some]
    exact ⟨trivial, .refl _⟩
  have e2 : ¬ (200 : Int) < (ps.length : Int) := by omega
  simp only [SX, h.len lenI, e1, hp.len len47, e2, decide_false]
  refine orders_L1 h (by omega) rfl rfl rfl fun R V dv r1 r4 r5 hD lV => ?_
  have hDn : (dsf [] l).Nodup := dsf_nodup l [] (by simp)
  have hDl : (dsf [] l).length ≤ 100 := by
    have := dsf_len l []
    simp at this; omega
  generalize dsf [] l = D at hD hDn hDl
  have r1' : R 1 = pv := r1
  obtain ⟨V1, qa, mha, ga, m1, m2, m3, m4⟩ := made1_ok (k := 0) (W := V) (In := fun b => V.next ≤ b) hD.ints (by omega) fun b => Iff.rfl
  have nV1 := m4.next
  have lV1 : Le V V1 := ⟨nV1, fun b hb => m4.get b hb (by omega)⟩
  obtain ⟨V2, qb, mhb, k1, k2, k3⟩ := Na.new_ok (In := fun b => V1.next ≤ b) (W := V1) (fun b hb => hb) 32 byN fun _ => ⟨0, 0, (.empty, 0)⟩
  have nV2 := k3.next
  have lV2 : Le V1 V2 := ⟨nV2, fun b hb => k3.get b hb (by omega)⟩
  obtain ⟨rv, V3, B, s1, s2, l3, T, B1, B2⟩ := rest0 (hD.mono (lV1.trans lV2)) hDl
  have nV3 := l3.next
  have I0 : L3I V1 D qb mhb V3 rv 0 := by
    refine ⟨fun b => (V1.next ≤ b ∧ b < V2.next) ∨ V3.next ≤ b, _, D, B, T, k2.keep l3.next (fun b hb _ => l3.get b hb) fun b hb hi => .inl ⟨hi, hb⟩, fun b hb => .inr hb, ?_, ?_, ?_, fun i hi => by omega, lV2.trans l3⟩
    · rintro (h | h) <;> omega
    · rintro b (h | h) <;> omega
    · show List.Perm ([] ++ D) D
      exact .refl _
  have pE : ∀ a W', oBin Try.prog .eql 24 false true (.pointer (some a)) (.pointer none) W' = some (.bool false, W') := fun a W' => pEq a _ _ W'
  have pE2 : ∀ a W', oBin Try.prog .eql 67 false true (.pointer (some a)) (.pointer none) W' = some (.bool false, W') := fun a W' => Na.pEq a _ _ W'
  simp only [SX, r5, m1, k1, pE, pE2, s1, s2]
  refine orders_L3 (av := qV qa) (dv := dv) (hp.mono (lV.trans lV1)) hDl I0 (by exact r1') (by exact r5) (by rfl) (by rfl) (by rfl) (by rfl) fun R' V4 rv' q5 q9 q10 I => ?_
  obtain ⟨In, fb, lr, B', T', Qb, up, nB, low, P, X, L4⟩ := I
  have elr : lr = [] := by
    have := P.length_eq
    rw [List.length_append, List.length_map, all_len] at this
    exact List.length_eq_zero_iff.1 (by omega)
  subst elr
  rw [List.append_nil] at P
  have n4 := L4.next
  have Qa4 : QS V4 (fun b => V.next ≤ b ∧ b < V1.next) qa mha (lsV 0) (KS 0) ((D.length : Int) + 1) D.length ga := m2.keep L4.next (fun b hb _ => L4.get b hb) fun b hb hi => ⟨hi, hb⟩
  have o := byK_ord (kfOf 0)
  have hlz : ∀ D, liesD D (lsV 0) := lz_of _
  have hl1 : IsLess1 (lsV 0) (KS 0) := less1_ok
  obtain ⟨V5, sv, ls, t1, t2, t3, t4⟩ := save_ok o hl1 hlz Qa4 (by omega)
  have n5 := t2.next
  have hlen : ls.length = D.length := by rw [t4.perm.length_eq, List.length_map, all_len]
  have hmem : ∀ x ∈ ls, ∃ i, i < D.length ∧ hv (ga i) = x := fun x hx => hvs_mem.1 (t4.perm.mem_iff.1 hx)
  have hdif : ∀ a ∈ ls, ∀ b ∈ ls, a.1 = b.1 → a = b := fun a ha b hb e => by
    obtain ⟨i, hi, rfl⟩ := hmem a ha
    obtain ⟨j, hj, rfl⟩ := hmem b hb
    rw [m2.fresh hi hj e]
  have hnd : ls.Nodup := by
    refine t4.perm.nodup_iff.2 ?_
    refine List.pairwise_iff_getElem.2 fun i j hi hj hij e => ?_
    rw [hvs_len] at hi hj
    have a1 : (hvs D.length ga)[i]'(by rw [hvs_len]; exact hi) = hv (ga i) := by simp [hvs, all]
    have a2 : (hvs D.length ga)[j]'(by rw [hvs_len]; exact hj) = hv (ga j) := by simp [hvs, all]
    rw [a1, a2] at e
    have := m2.fresh hi hj (congrArg Prod.fst e)
    omega
  have hc : chk (KS 0) ((D.length : Int) + 1) ls = 0 := chk_zero (by omega) (by omega) (fun x hx => by
    obtain ⟨i, hi, rfl⟩ := hmem x hx
    exact m2.hd i hi) hdif hnd t4.sort
  have hsv : isSl sv := t3.el.isSl
  obtain ⟨V6, qc, mhc, fc, u1, u2, u3, u4⟩ := load_ok (W := V5) (k := 35) (ls := KS 0) o (isLess_of 0) (Lst.items t3) hsv (by omega) hc
  have n6 := u2.next
  have lV6 : Le V4 V6 := t2.trans u2
  rw [hlen] at u3
  have e0 : decide ((0 : Int) = 0) = true := rfl
  have hdv : ∀ W' ty cf, oBuiltin Try.prog .len #[22] ty cf [dv] W' = some (.int .i64 (D.length : Int), W') := fun W' ty cf => hD.ints.len lenI W' ty cf
  have J0 : L4I (fun b => V.next ≤ b ∧ b < V1.next) (fun b => In b ∧ b < V4.next) (fun b => V5.next ≤ b ∧ b < V6.next) qa mha qb mhb qc mhc ((D.length : Int) + 1) (1 + (D.length : Int)) V6 D.length := by
    refine ⟨ga, fb, fc, Qa4.keep lV6.next (fun b hb _ => lV6.get b hb) (fun b _ h => h), Qb.keep lV6.next (fun b hb _ => lV6.get b hb) (fun b hb h => ⟨h, hb⟩), u3.keep (Nat.le_refl _) (fun _ _ _ => rfl) (fun b hb h => ⟨h, hb⟩), ?_, ?_, X⟩
    · have : hvs D.length fc = ls := by
        rw [← hlen]
        exact hvs_is u4
      rw [this]; exact t4.perm.symm
    · have e1 : ((all D.length ga).map (·.v)).Perm ((idx D).map (·.2)) := by
        have := m3.map (·.2)
        rw [List.map_map] at this
        exact this
      have e2 : (idx D).map (·.2) = D := by
        unfold idx
        rw [List.map_map]
        have : ((fun x : Int × Int => x.2) ∘ fun p : Int × Nat => (((p.2 + 1 : Nat) : Int), p.1)) = Prod.fst := rfl
        rw [this, List.zipIdx_map_fst]
      rw [e2] at e1
      exact e1.trans P.symm
  simp only [SX, q9, t1, u1, e0]
  refine orders_L4 (W := V) hDl hdv J0 ?_ ?_ ?_ ?_ (((lV1.trans L4).trans lV6)) (by exact q5) (by exact q9) (by exact q10) (by rfl) (by rfl) fun R6 V7 w9 w10 w16 J7 lV7 nV7 => ?_
  · rintro b h1 h2
    have := low b h2.1
    omega
  · rintro b h1 h2; omega
  · rintro b h1 h2
    have := h1.2; omega
  · rintro b (h | h | h)
    · omega
    · have := low b h.1
      have := h.2
      omega
    · omega
  obtain ⟨ha, hb, hc7, Qa7, Qb7, Qc7, -⟩ := J7.ex
  have Qa8 : QS V7 (fun b => (V.next ≤ b ∧ b < V1.next) ∨ V7.next ≤ b) qa mha (lsV 0) (KS 0) ((D.length : Int) + 1) 0 ha := Qa7.keep (Nat.le_refl _) (fun _ _ _ => rfl) fun b _ h => .inl h
  obtain ⟨V8, g8, x1, x2, -, x4⟩ := qPush_ok o (isLess_of 0) Qa8 (by omega) (by omega) (fun b hb => .inr hb) 1
  have n8 := x4.next
  have Qc8 : QS V8 (fun b => (V5.next ≤ b ∧ b < V6.next) ∨ V8.next ≤ b) qc mhc (lsV 0) (KS 0) ((D.length : Int) + 1) 0 hc7 := Qc7.keep n8 (fun b hb hC => x4.get b hb fun hA => by rcases hA with hA | hA <;> omega) fun b _ h => .inl h
  obtain ⟨V9, g9, y1, y2, -, y4⟩ := qPush_ok o (isLess_of 0) Qc8 (by omega) (by omega) (fun b hb => .inr hb) 1
  have n9 := y4.next
  have Qb9 : Na.QS V9 (fun b => In b ∧ b < V4.next) qb mhb (.func (.func 32) #[] #[]) byN (1 + (D.length : Int)) 0 hb := Qb7.keep (by omega) (fun b hb' hB => by
    have b1 := hB.2
    have b2 := low b hB.1
    rw [y4.get b (by omega) fun hC => by rcases hC with hC | hC <;> omega, x4.get b hb' fun hA => by rcases hA with hA | hA <;> omega]) fun b _ h => h
  have en : decide ((D.length : Int) + 1 = (D.length : Int) + 1) = true := decide_eq_true rfl
  have ez : decide (((0 : Nat) : Int) = 0) = true := rfl
  simp only [SX, w9, w10, w16, x1, y1, e0, en, Na.qLen_ok Qb9, ez, awake_ok, Ok_some]
  refine ⟨trivial, by have := lV.next; have := lV7.next; omega, fun b hb => ?_⟩
  have := lV.next
  have := lV7.next
  rw [y4.get b (by omega) fun hC => by rcases hC with hC | hC <;> omega, x4.get b (by omega) fun hA => by rcases hA with hA | hA <;> omega, lV7.get b (by omega), lV.get b hb]
end Go.Proofs.Ytkpgmabebjmahaa
/- What is handed in, opened. -/
namespace Go.Proofs.Ytkpgmabebjmahaa
open Go Go.Eng Go.RowKit
set_option linter.unusedVariables false
set_option linter.unusedSimpArgs false
set_option maxRecDepth 100000
abbrev globW : List (Nat × List Value) := [(0, [])]
section
variable {H : Type} {enc : TypeId × Value → H} {w : World} {σ : Inj} {W : AW} {v0 : Value} {d : DataW H} {p : List MemPlace} {r : Reach} {b0 : Nat}
theorem slice_of {t e : TypeId} (ht : Try.prog.underlying t = some (.slice e)) (hv : Value.okWide Try.prog w r b0 t v0) : ∃ a l c, v0 = .slice a l c := by
  unfold Value.okWide at hv
  rw [ht] at hv
  simp only at hv
  unfold Cell.okWide at hv
  rw [ht] at hv
  cases v0 with
  | slice a l c => exact ⟨a, l, c, rfl⟩
  | _ => simp only [Cell.ok, ht] at hv
theorem sim22 : simT Try.prog 3 22 = true := by kernel_rfl
theorem openInts (ho : Opened σ W w) (hv : Value.okWide Try.prog w r b0 22 v0) (h : DataW.Trod enc Try.prog w 0 (fun _ => true) true 22 v0 d p) :
    ∃ (σ2 : Inj) (W2 : AW) (l : List Int) (u : Value), Opened σ2 W2 w ∧ Sub σ σ2 ∧ Le W W2 ∧ VR σ2 u v0 ∧ Ints W2 u l := by
  obtain ⟨a, n, c, rfl⟩ := slice_of Try.underlying22 hv
  obtain ⟨m, hm⟩ := h
  obtain ⟨σ2, W2, cs2, o2, s2, l2, r2, a2⟩ := opens_trod sim22 hm σ W ho
  obtain ⟨u, l, rfl, hr⟩ := DR.ints (n := 1) a2 Try.underlying22 Try.underlying3 (by kernel_rfl)
  have hvr : VR σ2 u (.slice a n c) := r2.2 0 _ _ rfl rfl
  exact ⟨σ2, W2, l, u, o2, s2, l2, hvr, hr.1⟩
end
theorem row0 : (match (begin Try.prog (fun _ _ => 0) default).world.heap[0]? with | some (.cells _ _ _) => true | _ => false) = true := by kernel_rfl
theorem heap0 {w : World} (h : w.ShapedOpen Try.prog) : LaidG globW w.heap := by
  intro x hx
  obtain rfl : x = (0, []) := by simpa [globW] using hx
  have hr := row0
  split at hr
  case h_2 => cases hr
  rename_i c t fr hz
  have hlt : 0 < (begin Try.prog (fun _ _ => 0) default).world.heap.size := (Array.getElem?_eq_some_iff.1 hz).1
  obtain ⟨o, o0, h1, h2, h3⟩ := h.2 0 (by decide +kernel) hlt
  obtain rfl := Option.some.inj (hz.symm.trans h2)
  have ho : o = .cells c t fr := by
    split at h3
    · cases o <;> exact h3
    · exact h3
  subst ho
  exact ⟨c, t, fr, h1, fun i v hv => by simp at hv⟩
theorem openG {w : World} (h : w.ShapedOpen Try.prog) : Opened (σG globW) (WG globW 5) w := ⟨rel_G rfl (heap0 h), allRo_G, 0, _, rfl⟩
theorem kidsT : Kids Try.prog (· < Try.prog.types.size) := kids_rows (by kernel_rfl) (by kernel_rfl)
theorem fullT : ∀ t e, t < Try.prog.types.size → Try.prog.underlying t = some (.slice e) → 0 < Try.prog.cellsOf e := slices_full_of Try.prog (by kernel_rfl)
theorem own : ownKnob Try.prog.godebug = none := by kernel_rfl
/-- what is opened is called -/
theorem open_calls (hok : CalleeOK Try.prog PlanTab.ng omS) {w : World} {σ : Inj} {W : AW} (ho : Opened σ W w) {i : Nat} {args args' : List Value} (hr : LR σ args args') (h : omS (.func (.func i) #[] #[]) args W = some (.bool true, W)) :
    Calls Try.prog i args'.toArray w fun e w' => e = .returned (.bool true) ∧ Quiet w w' := by
  have hG : Glob σ [] := fun g hg => by cases hg
  exact om_calls hok ho.rel hG ho.ro hr rfl h
end Go.Proofs.Ytkpgmabebjmahaa
/- What is handed in, opened: pairs of numbers, bytes. -/
namespace Go.Proofs.Ytkpgmabebjmahaa
open Go Go.Eng Go.RowKit
set_option linter.unusedVariables false
set_option linter.unusedSimpArgs false
set_option maxRecDepth 100000
section
variable {H : Type} {enc : TypeId × Value → H} {w : World} {σ : Inj} {W : AW} {v0 : Value} {d : DataW H} {p : List MemPlace} {r : Reach} {b0 : Nat}
end
theorem liftV {σ σ' : Inj} {v v' : Value} (s : Sub σ σ') (h : VR σ v v') : VR σ' v v' := h.mono s
theorem liftI {W W' : AW} {k : IntKind} {v : Value} {l : List Int} (s : Le W W') (h : Row W 1 (intAt k) v l) : Row W' 1 (intAt k) v l := h.mono s
theorem sim47 : simT Try.prog 3 47 = true := by kernel_rfl
theorem ce5 : Try.prog.cellsOf 5 = 1 := by kernel_rfl
end Go.Proofs.Ytkpgmabebjmahaa
/- What HeapsOrders takes: picks, opened. -/
namespace Go.Proofs.Ytkpgmabebjmahaa
open Go Go.Eng Go.RowKit
set_option linter.unusedVariables false
set_option linter.unusedSimpArgs false
set_option maxRecDepth 100000
section
variable {H : Type} {enc : TypeId × Value → H} {w : World} {σ : Inj} {W : AW} {v0 : Value} {d : DataW H} {p : List MemPlace} {r : Reach} {b0 : Nat}
theorem pk_of {W : AW} {n : Nat} {c : List Value} (h : DR Try.prog W (n + 1) 5 c) : ∃ x : Nat, ∀ pre post, pkAt (pre ++ (c ++ post)) pre.length x := by
  obtain ⟨m, rfl, h1, h2⟩ := h.intB Try.underlying5
  have h1' : (0 : Int) ≤ m := h1
  have h2' : m ≤ 255 := h2
  refine ⟨m.toNat, fun pre post => ⟨?_, by omega⟩⟩
  rw [List.getElem?_append_right (by omega)]
  simp
  omega
theorem openPks (ho : Opened σ W w) (hv : Value.okWide Try.prog w r b0 47 v0) (h : DataW.Trod enc Try.prog w 0 (fun _ => true) true 47 v0 d p) :
    ∃ (σ2 : Inj) (W2 : AW) (l : List Nat) (u : Value), Opened σ2 W2 w ∧ Sub σ σ2 ∧ Le W W2 ∧ VR σ2 u v0 ∧ Pks W2 u l := by
  obtain ⟨a, n, c, rfl⟩ := slice_of Try.underlying47 hv
  obtain ⟨m, hm⟩ := h
  obtain ⟨σ2, W2, cs2, o2, s2, l2, r2, a2⟩ := opens_trod sim47 hm σ W ho
  obtain ⟨u, l, rfl, hr⟩ := a2.row Try.underlying47 (at_ := pkAt) (fun c _ hc => pk_of hc)
  have hvr : VR σ2 u (.slice a n c) := r2.2 0 _ _ rfl rfl
  rw [ce5] at hr
  exact ⟨σ2, W2, l, u, o2, s2, l2, hvr, hr.1⟩
end
end Go.Proofs.Ytkpgmabebjmahaa
