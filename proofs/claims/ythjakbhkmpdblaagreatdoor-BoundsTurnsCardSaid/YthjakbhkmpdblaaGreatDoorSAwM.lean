/- What the example's calls are reckoned with: small callees at the example's venue, state and work, each answered for once. -/
import Derived.Test.YthjakbhkmpdblaaGreatDoorSCheck
import Derived.Test.YthjakbhkmpdblaaGreatDoorSKeys
set_option maxRecDepth 100000
namespace Go.Proofs.YthjakbhkmpdblaaGreatDoor
open Go Go.Eng Go.RowKit
def sl (b n : Nat) : Value := .slice (some ⟨b, 0, none⟩) n n
def slO (b n z : Nat) : Value := .slice (some ⟨b, 0, none⟩) n (BIG + z)
def tup (l : List Value) : Value := .tuple ⟨l⟩
def i64 (n : Int) : Value := .int .i64 n
def pl2 (a b : Int) : Value := .agg #[.int .i64 a, .int .i64 b]
def seX (st ow dl : Int) : List Value := [i64 st, .int .u32 ow, i64 dl, .int .u64 0, .int .u64 0]
def z5 : List Value := seX 0 0 0
def opH (ow seat : Int) : List Value := [i64 2, .int .u32 ow, i64 100, i64 seat, i64 0, i64 0, .int .u32 0, .int .u32 0, .int .u32 0, .int .u64 0, .int .u64 0, i64 0]
def gsV : List (Nat × List Value) := [(0, usesV), (4, [.string ⟨#[97]⟩, sl 5 1, i64 2, .string ⟨#[98]⟩, sl 6 1, i64 2]), (5, [i64 3]), (6, [i64 3])]
def gsS : List (Nat × List Value) := gsV ++ [(7, z5 ++ (z5 ++ (z5 ++ (z5 ++ (z5 ++ z5))))), (8, [.slice none 0 0, .slice none 0 0])]
def gsX : List (Nat × List Value) := gsS ++ [(9, [sl 10 1, sl 11 1]), (10, opH 1 3), (11, opH 2 3)]
def venX : List Value := [i64 2, i64 10, i64 100, sl 4 2]
def vX : Value := .agg ⟨venX⟩
def stX : List Value := venX ++ [i64 0, sl 7 6, slO 8 2 1]
def wkX : Value := .agg ⟨stX ++ [sl 9 2]⟩
def o1 : Value := .agg ⟨opH 1 3⟩
def o2 : Value := .agg ⟨opH 2 3⟩
theorem names_a : ∀ w : World, LaidG [(0, [])] w.heap → Calls Tryz.prog 82 #[.string ⟨#[97]⟩] w fun e w' => e = .returned (.bool true) ∧ Quiet w w' := fun w hl =>
  closed_quiet followsW lookedW noSpec 100 (gs := [(0, [])]) (N := 4) rfl rfl (args := [.string ⟨#[97]⟩]) rfl (by kernel_rfl) w hl
theorem names_b : ∀ w : World, LaidG [(0, [])] w.heap → Calls Tryz.prog 82 #[.string ⟨#[98]⟩] w fun e w' => e = .returned (.bool true) ∧ Quiet w w' := fun w hl =>
  closed_quiet followsW lookedW noSpec 100 (gs := [(0, [])]) (N := 4) rfl rfl (args := [.string ⟨#[98]⟩]) rfl (by kernel_rfl) w hl
theorem names_okW : ∀ b ∈ nameW, ∀ w : World, LaidG [(0, [])] w.heap → Calls Tryz.prog 82 #[.string b] w fun e w' => e = .returned (.bool true) ∧ Quiet w w' := by
  intro b hb w hl
  have h2 : b = ⟨#[97]⟩ ∨ b = ⟨#[98]⟩ := by simpa [nameW] using hb
  rcases h2 with rfl | rfl
  · exact names_a w hl
  · exact names_b w hl
noncomputable def specW : Eng.Callee := memo 82 nameW (specL [(21, chk 21), (71, sdC 71 103), (72, keyC 72 103 133)])
theorem specW_ok : CalleeOK Tryz.prog PlanTab.ng specW := memo_ok (by decide) Tryz.func82 (by kernel_rfl) rfl (specL_ok fun x hx => by
  have h2 : x = (21, chk 21) ∨ x = (71, sdC 71 103) ∨ x = (72, keyC 72 103 133) := by simpa using hx
  rcases h2 with rfl | rfl | rfl
  · exact check_ok
  · exact sorted_ok
  · exact keys_ok) names_okW
theorem one_ent {F : Nat} {bad : List Nat} {spec : Eng.Callee} {gs : List (Nat × List Value)} {a : List Value} {r : Value} (hp : plain r = true) (h : okVal r (aCallF Tryz.prog bad spec 100 (.func (.func F) #[] #[]) a (WG gs 12)) = true) :
    ∀ x ∈ [(a, r)], plain x.2 = true ∧ okVal x.2 (aCallF Tryz.prog bad spec 100 (.func (.func F) #[] #[]) x.1 (WG gs 12)) = true := by
  intro x hx
  obtain rfl := List.mem_singleton.1 hx
  exact ⟨hp, h⟩
theorem cons_ent {F : Nat} {bad : List Nat} {spec : Eng.Callee} {gs : List (Nat × List Value)} {a : List Value} {r : Value} {l : List (List Value × Value)} (hp : plain r = true) (h : okVal r (aCallF Tryz.prog bad spec 100 (.func (.func F) #[] #[]) a (WG gs 12)) = true)
    (hl : ∀ x ∈ l, plain x.2 = true ∧ okVal x.2 (aCallF Tryz.prog bad spec 100 (.func (.func F) #[] #[]) x.1 (WG gs 12)) = true) :
    ∀ x ∈ (a, r) :: l, plain x.2 = true ∧ okVal x.2 (aCallF Tryz.prog bad spec 100 (.func (.func F) #[] #[]) x.1 (WG gs 12)) = true := by
  intro x hx
  rcases List.mem_cons.1 hx with rfl | hx
  · exact ⟨hp, h⟩
  · exact hl x hx
def bad0 : List Nat := 82 :: badW
theorem look0 : funsOk PlanTab.ng bad0 0 Tryz.prog.funcs.toList = true := funsOk_more lookedW
noncomputable def sp27 : Eng.Callee := memoM 27 PlanTab.ng gsV [([vX], tup [i64 0, i64 0])] specW
theorem ok27 : CalleeOK Tryz.prog PlanTab.ng sp27 := memoM_ok (n := 100) (N := 12) followsW look0 specW_ok specW_ok (by kernel_rfl) (one_ent (by kernel_rfl) (by kernel_rfl))
def bad1 : List Nat := 27 :: bad0
theorem look1 : funsOk PlanTab.ng bad1 0 Tryz.prog.funcs.toList = true := funsOk_more look0
noncomputable def sp46 : Eng.Callee := memoM 46 PlanTab.ng gsV [([vX], tup [i64 6, i64 0])] sp27
theorem ok46 : CalleeOK Tryz.prog PlanTab.ng sp46 := memoM_ok (n := 100) (N := 12) followsW look1 ok27 ok27 (by kernel_rfl) (one_ent (by kernel_rfl) (by kernel_rfl))
def bad2 : List Nat := 46 :: bad1
theorem look2 : funsOk PlanTab.ng bad2 0 Tryz.prog.funcs.toList = true := funsOk_more look1
noncomputable def sp19 : Eng.Callee := memoM 19 PlanTab.ng gsS [([.agg ⟨stX⟩], i64 0)] sp46
theorem ok19 : CalleeOK Tryz.prog PlanTab.ng sp19 := memoM_ok (n := 100) (N := 12) followsW look2 ok46 ok46 (by kernel_rfl) (one_ent (by kernel_rfl) (by kernel_rfl))
def bad3 : List Nat := 19 :: bad2
theorem look3 : funsOk PlanTab.ng bad3 0 Tryz.prog.funcs.toList = true := funsOk_more look2
noncomputable def sp7 : Eng.Callee := memoM 7 PlanTab.ng gsX [([wkX], tup [i64 0, i64 0])] sp19
theorem ok7 : CalleeOK Tryz.prog PlanTab.ng sp7 := memoM_ok (n := 100) (N := 12) followsW look3 ok19 ok19 (by kernel_rfl) (one_ent (by kernel_rfl) (by kernel_rfl))
def bad4 : List Nat := 7 :: bad3
theorem look4 : funsOk PlanTab.ng bad4 0 Tryz.prog.funcs.toList = true := funsOk_more look3
noncomputable def sp53 : Eng.Callee := memoM 53 PlanTab.ng gsV [([vX, o1], tup [i64 3, i64 0]), ([vX, o2], tup [i64 3, i64 0])] sp7
theorem ok53 : CalleeOK Tryz.prog PlanTab.ng sp53 := memoM_ok (n := 100) (N := 12) followsW look4 ok7 ok7 (by kernel_rfl) (cons_ent (by kernel_rfl) (by kernel_rfl) (one_ent (by kernel_rfl) (by kernel_rfl)))
def bad5 : List Nat := 53 :: bad4
theorem look5 : funsOk PlanTab.ng bad5 0 Tryz.prog.funcs.toList = true := funsOk_more look4
noncomputable def sp135 : Eng.Callee := memoM 135 PlanTab.ng gsV [([vX, o1, i64 0], tup [pl2 1 1, i64 0]), ([vX, o1, i64 1], tup [pl2 2 0, i64 0]), ([vX, o1, i64 2], tup [pl2 3 1, i64 0]), ([vX, o2, i64 0], tup [pl2 1 1, i64 0]), ([vX, o2, i64 1], tup [pl2 2 0, i64 0]), ([vX, o2, i64 2], tup [pl2 3 1, i64 0])] sp53
theorem ok135 : CalleeOK Tryz.prog PlanTab.ng sp135 := memoM_ok (n := 100) (N := 12) followsW look5 ok53 ok53 (by kernel_rfl) (cons_ent (by kernel_rfl) (by kernel_rfl) (cons_ent (by kernel_rfl) (by kernel_rfl) (cons_ent (by kernel_rfl) (by kernel_rfl) (cons_ent (by kernel_rfl) (by kernel_rfl) (cons_ent (by kernel_rfl) (by kernel_rfl) (one_ent (by kernel_rfl) (by kernel_rfl)))))))
def bad6 : List Nat := 135 :: bad5
theorem look6 : funsOk PlanTab.ng bad6 0 Tryz.prog.funcs.toList = true := funsOk_more look5
end Go.Proofs.YthjakbhkmpdblaaGreatDoor
