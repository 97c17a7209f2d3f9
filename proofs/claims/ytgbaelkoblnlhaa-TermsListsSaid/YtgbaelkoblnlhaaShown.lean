/-
  Walks: shown: some known calls.
-/
import Derived.Test.YtgbaelkoblnlhaaRMake3
import Derived.Test.YtgbaelkoblnlhaaRegion2
import Derived.Test.YtgbaelkoblnlhaaKept
import Derived.Test.YtgbaelkoblnlhaaSpoil
namespace Go.Proofs.Ytgbaelkoblnlhaa
open Go.RowKit
theorem zeroB_k (f : Fd) (n : Nat) (h : bareF f = Fd.zero) (h2 : bareN f n = 0) : zeroB (bareF f) (bareN f n) = true := by rw [h, h2, zeroB_true]
theorem form_int (n : Int) : formT (intF n) .nil = true := by
  unfold formT nodeB
  rw [zeroB_k _ _ rfl rfl]; rfl
theorem form_atom (s : ByteArray) : formT (atomF s) .nil = nameB s := by
  unfold formT nodeB
  rw [zeroB_k _ _ rfl rfl]
  rw [show okK (atomF s) .nil = nameB s from rfl, show formL .nil = true from rfl, Bool.true_and, Bool.and_true]
theorem form_nil : formT (kF 8) .nil = true := by
  unfold formT nodeB
  rw [zeroB_k _ _ rfl rfl]; rfl
theorem form_zero : formT Fd.zero .nil = false := by
  unfold formT nodeB
  rw [show okK Fd.zero .nil = false from rfl, Bool.and_false]; rfl
def aS : ByteArray := ⟨#[97]⟩
theorem name_a : nameB ⟨#[97]⟩ = true := by decide +kernel
theorem name_A : nameB ⟨#[65]⟩ = false := by decide +kernel
def tL : TL := .cons (atomF ⟨#[97]⟩) .nil (.cons (intF 1) .nil .nil)
def lL : TL := .cons (intF 1) .nil (.cons (kF 8) .nil .nil)
theorem form_tL : formL tL = true := by
  unfold tL
  rw [formL_cons, formL_cons, form_atom, form_int, name_a]; rfl
theorem form_tT : formT (kF 7) tL = true := form_tuple form_tL (by decide)
theorem tup_tL : tupC tL = 0 := by
  unfold tupC
  rw [form_tL, if_pos rfl, if_neg (by decide)]
theorem form_lT : formT (kF 9) lL = true := form_list (by unfold lL; rw [formL_cons, formL_cons, form_int, form_nil]; rfl) (by decide) (by decide)
theorem size_t : sizeF (kF 7) tL = 3 := by unfold sizeF; rw [form_tT]; rfl
theorem valid_t : validF (kF 7) tL = true := by unfold validF; rw [form_tT]; rfl
theorem valid_z : validF Fd.zero .nil = false := by unfold validF; rw [form_zero]; rfl
theorem cons_l : lstC (.cons (intF 1) .nil .nil) (kF 8) .nil = 0 := by
  unfold lstC
  rw [form_one, form_int, form_nil]; rfl
theorem isL_l : isL (kF 9) lL = true := by
  unfold isL validF
  rw [form_lT]; rfl
theorem Atom_a (W : World) : Calls Try.prog 37 #[.string ⟨#[97]⟩] W fun e w' => e = .returned (.tuple #[.agg #[.int .i64 2, .int .i64 0, .int .i64 0, .string ⟨#[97]⟩, .string ⟨#[]⟩, .int .i64 0, .slice none 0 0, .string ⟨#[]⟩, .int .i64 0], .int .i64 0]) ∧ Below W.heap.size W w' := by
  have h := pAtom_any ⟨#[97]⟩ (by decide) W
  rw [show atC ⟨#[97]⟩ = 0 by unfold atC; rw [name_a]; rfl] at h
  exact h
theorem Atom_A (W : World) : Calls Try.prog 37 #[.string ⟨#[65]⟩] W fun e w' => e = .returned (.tuple #[.agg #[.int .i64 0, .int .i64 0, .int .i64 0, .string ⟨#[]⟩, .string ⟨#[]⟩, .int .i64 0, .slice none 0 0, .string ⟨#[]⟩, .int .i64 0], .int .i64 2]) ∧ Below W.heap.size W w' := by
  have h := pAtom_any ⟨#[65]⟩ (by decide) W
  rw [show atC ⟨#[65]⟩ = 2 by unfold atC; rw [name_A]; rfl] at h
  exact h
theorem Tuple_t (W : World) (g : Nat) (hg : W.heap[g]? = some (.cells #[.int .i64 2, .int .i64 0, .int .i64 0, .string ⟨#[97]⟩, .string ⟨#[]⟩, .int .i64 0, .slice none 0 0, .string ⟨#[]⟩, .int .i64 0, .int .i64 1, .int .i64 1, .int .i64 0, .string ⟨#[]⟩, .string ⟨#[]⟩, .int .i64 0, .slice none 0 0, .string ⟨#[]⟩, .int .i64 0] 24 (0, 0))) : Calls Try.prog 33 #[.slice (some ⟨g, 0, none⟩) 2 2] W fun e w' => ∃ ai ci, e = .returned (.tuple #[.agg #[.int .i64 7, .int .i64 0, .int .i64 0, .string ⟨#[]⟩, .string ⟨#[]⟩, .int .i64 0, .slice ai 2 ci, .string ⟨#[]⟩, .int .i64 0], .int .i64 0]) ∧ NwS w' W.heap.size w'.heap.size tL (.slice ai 2 ci) ∧ Below W.heap.size W w' := by
  have hr : RdS W 0 (g + 1) tL (.slice (some ⟨g, 0, none⟩) 2 2) := by
    refine ⟨_, _, rfl, by decide, by decide, fun _ => ⟨g, 0, rfl, RdL.rd tL (Fd.cells (atomF ⟨#[97]⟩) (.slice none 0 0) ++ (Fd.cells (intF 1) (.slice none 0 0) ++ [])) g 0 ⟨_, _, rfl, RdS.nil _ _ _, ⟨_, _, rfl, RdS.nil _ _ _, rfl⟩⟩ (Nat.zero_le _) (Nat.lt_succ_self _) fun j u hu => ?_⟩⟩
    rw [cells_of hg, Nat.zero_add, List.getElem?_toArray]
    exact hu
  have h := pTuple_any tL _ W 0 (g + 1) (by decide) ⟨by decide, by decide, by decide, trivial, by decide, by decide, by decide, trivial, trivial⟩ hr (lt_of_block hg)
  rw [tup_tL] at h
  exact h
theorem Cons_l (W : World) : Calls Try.prog 36 #[.agg #[.int .i64 1, .int .i64 1, .int .i64 0, .string ⟨#[]⟩, .string ⟨#[]⟩, .int .i64 0, .slice none 0 0, .string ⟨#[]⟩, .int .i64 0], .agg #[.int .i64 8, .int .i64 0, .int .i64 0, .string ⟨#[]⟩, .string ⟨#[]⟩, .int .i64 0, .slice none 0 0, .string ⟨#[]⟩, .int .i64 0]] W fun e w' => ∃ ai ci, e = .returned (.tuple #[.agg #[.int .i64 9, .int .i64 0, .int .i64 0, .string ⟨#[]⟩, .string ⟨#[]⟩, .int .i64 0, .slice ai 2 ci, .string ⟨#[]⟩, .int .i64 0], .int .i64 0]) ∧ NwS w' W.heap.size w'.heap.size lL (.slice ai 2 ci) ∧ Below W.heap.size W w' := by
  have h := pCons_any (intF 1) .nil (.slice none 0 0) (kF 8) .nil (.slice none 0 0) W 0 0 0 0 ⟨by decide, by decide, by decide, by decide, trivial⟩ (by decide) ⟨by decide, by decide, by decide, by decide, trivial⟩ (RdS.nil _ _ _) (RdS.nil _ _ _) (Nat.zero_le _) (Nat.zero_le _)
  rw [cons_l] at h
  exact h
theorem Head_l (W : World) (A B : Nat) (ai : Option Addr) (ci : Nat) (hr : RdS W A B lL (.slice ai 2 ci)) (hB : B ≤ W.heap.size) : Calls Try.prog 49 #[.agg #[.int .i64 9, .int .i64 0, .int .i64 0, .string ⟨#[]⟩, .string ⟨#[]⟩, .int .i64 0, .slice ai 2 ci, .string ⟨#[]⟩, .int .i64 0]] W fun e w' => ∃ ai ci, e = .returned (.tuple #[.agg #[.int .i64 1, .int .i64 1, .int .i64 0, .string ⟨#[]⟩, .string ⟨#[]⟩, .int .i64 0, .slice ai 0 ci, .string ⟨#[]⟩, .int .i64 0], .bool true]) ∧ Below W.heap.size W w' := by
  have h := pHead_any (kF 9) lL (.slice ai 2 ci) W A B ⟨by decide, by decide, by decide, by decide, by decide, by decide, by decide, trivial, by decide, by decide, by decide, trivial, trivial⟩ hr hB
  rw [isL_l, show headF (kF 9) lL = intF 1 by unfold headF; rw [isL_l]; rfl, show headL (kF 9) lL = .nil by unfold headL; rw [isL_l]; rfl] at h
  exact h.mono fun e w' ⟨ai, ci, h1, h2, h3⟩ => ⟨ai, ci, h1, h3⟩
theorem tame_t : tame (kF 7) tL := ⟨by decide, by decide, by decide, by decide, by decide, by decide, by decide, trivial, by decide, by decide, by decide, trivial, trivial⟩
theorem Size_t (W : World) (A B : Nat) (ai : Option Addr) (ci : Nat) (hr : RdS W A B tL (.slice ai 2 ci)) (hB : B ≤ W.heap.size) : Calls Try.prog 23 #[.agg #[.int .i64 7, .int .i64 0, .int .i64 0, .string ⟨#[]⟩, .string ⟨#[]⟩, .int .i64 0, .slice ai 2 ci, .string ⟨#[]⟩, .int .i64 0]] W fun e w' => e = .returned (.int .i64 3) ∧ Below W.heap.size W w' := by
  have h := pSize_any (kF 7) tL (.slice ai 2 ci) W A B tame_t hr hB
  rw [size_t] at h
  exact h
theorem Valid_t (W : World) (A B : Nat) (ai : Option Addr) (ci : Nat) (hr : RdS W A B tL (.slice ai 2 ci)) (hB : B ≤ W.heap.size) : Calls Try.prog 21 #[.agg #[.int .i64 7, .int .i64 0, .int .i64 0, .string ⟨#[]⟩, .string ⟨#[]⟩, .int .i64 0, .slice ai 2 ci, .string ⟨#[]⟩, .int .i64 0]] W fun e w' => e = .returned (.bool true) ∧ Below W.heap.size W w' := by
  have h := pValid_any (kF 7) tL (.slice ai 2 ci) W A B tame_t hr hB
  rw [valid_t] at h
  exact h
theorem Valid_z (W : World) : Calls Try.prog 21 #[.agg #[.int .i64 0, .int .i64 0, .int .i64 0, .string ⟨#[]⟩, .string ⟨#[]⟩, .int .i64 0, .slice none 0 0, .string ⟨#[]⟩, .int .i64 0]] W fun e w' => e = .returned (.bool false) ∧ Below W.heap.size W w' := by
  have h := pValid_any Fd.zero .nil (.slice none 0 0) W 0 0 ⟨by decide, by decide, by decide, by decide, trivial⟩ (RdS.nil _ _ _) (Nat.zero_le _)
  rw [valid_z] at h
  exact h
theorem Copy_t (W : World) (A B : Nat) (ai : Option Addr) (ci : Nat) (hr : RdS W A B tL (.slice ai 2 ci)) (hB : B ≤ W.heap.size) : Calls Try.prog 29 #[.agg #[.int .i64 7, .int .i64 0, .int .i64 0, .string ⟨#[]⟩, .string ⟨#[]⟩, .int .i64 0, .slice ai 2 ci, .string ⟨#[]⟩, .int .i64 0]] W fun e w' => ∃ ai ci, e = .returned (.agg #[.int .i64 7, .int .i64 0, .int .i64 0, .string ⟨#[]⟩, .string ⟨#[]⟩, .int .i64 0, .slice ai 2 ci, .string ⟨#[]⟩, .int .i64 0]) ∧ NwS w' W.heap.size w'.heap.size tL (.slice ai 2 ci) ∧ Below W.heap.size W w' :=
  (copy_all 2).1 (kF 7) tL _ W A B (by decide) (by decide) ⟨_, rfl, hr⟩ hB
theorem Same_tt (W : World) (A B : Nat) (ai ai' : Option Addr) (ci ci' : Nat) (hr : RdS W A B tL (.slice ai 2 ci)) (hr' : RdS W A B tL (.slice ai' 2 ci')) (hB : B ≤ W.heap.size) : Calls Try.prog 27 #[.agg #[.int .i64 7, .int .i64 0, .int .i64 0, .string ⟨#[]⟩, .string ⟨#[]⟩, .int .i64 0, .slice ai 2 ci, .string ⟨#[]⟩, .int .i64 0], .agg #[.int .i64 7, .int .i64 0, .int .i64 0, .string ⟨#[]⟩, .string ⟨#[]⟩, .int .i64 0, .slice ai' 2 ci', .string ⟨#[]⟩, .int .i64 0]] W fun e w' => e = .returned (.bool true) ∧ Below W.heap.size W w' := by
  have h := (pgSame_all 2).1 (kF 7) tL (kF 7) tL _ _ W A B (by decide) ⟨_, rfl, hr⟩ ⟨_, rfl, hr'⟩ hB
  rw [Fd.same_iff.2 rfl, TL.same_iff.2 rfl] at h
  exact h
theorem Same_tl (W : World) (A B : Nat) (ai ai' : Option Addr) (ci ci' : Nat) (hr : RdS W A B tL (.slice ai 2 ci)) (hr' : RdS W A B lL (.slice ai' 2 ci')) (hB : B ≤ W.heap.size) : Calls Try.prog 27 #[.agg #[.int .i64 7, .int .i64 0, .int .i64 0, .string ⟨#[]⟩, .string ⟨#[]⟩, .int .i64 0, .slice ai 2 ci, .string ⟨#[]⟩, .int .i64 0], .agg #[.int .i64 9, .int .i64 0, .int .i64 0, .string ⟨#[]⟩, .string ⟨#[]⟩, .int .i64 0, .slice ai' 2 ci', .string ⟨#[]⟩, .int .i64 0]] W fun e w' => e = .returned (.bool false) ∧ Below W.heap.size W w' := by
  have h := (pgSame_all 2).1 (kF 7) tL (kF 9) lL _ _ W A B (by decide) ⟨_, rfl, hr⟩ ⟨_, rfl, hr'⟩ hB
  have e : (kF 7).same (kF 9) = false := by
    cases q : (kF 7).same (kF 9)
    · rfl
    · have := Fd.same_iff.1 q; simp [kF] at this
  rw [e, Bool.false_and] at h
  exact h
end Go.Proofs.Ytgbaelkoblnlhaa
