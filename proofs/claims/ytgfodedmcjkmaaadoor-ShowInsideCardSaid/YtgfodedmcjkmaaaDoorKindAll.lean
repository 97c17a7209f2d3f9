/-
  The eleven closures of terms.kinds in one contract; the table of them.
-/
import Derived.Test.YtgfodedmcjkmaaaDoorWhole
import Derived.Test.YtgfodedmcjkmaaaDoorKinds2
import Derived.Test.YtgfodedmcjkmaaaDoorKind9
import Derived.Test.YtgfodedmcjkmaaaDoorKind10
import Derived.Laws.EntriesVeiled
namespace Go.Proofs.YtgfodedmcjkmaaaDoor
open Go.RowKit
/-- the closure at index k -/
def kindFn (k : Nat) : FuncId := ([73, 74, 75, 70, 76, 77, 70, 78, 79, 80, 81] : List Nat).getD k 0
/-- what is left of a term's fields: the kind stays -/
def leftK (f : Fd) : Fd := {bareF f with k := f.k}
/-- the items that are left: the same slice, or nil -/
def Ori (f : Fd) (ao : Option Addr) (cap : Nat) (ai : Option Addr) (ci : Nat) : Prop := (dropsK f.k = false ∧ ai = ao ∧ ci = cap) ∨ (dropsK f.k = true ∧ ai = none ∧ ci = 0)
def KindR (f : Fd) (n : Nat) (ok : Bool) (ao : Option Addr) (cap : Nat) (w : World) (e : Ending) (w' : World) : Prop := ∃ ai ci, e = .returned (.tuple #[.agg #[.int .i64 (leftK f).k, .int .i64 (leftK f).i, .int .i64 (leftK f).g, .string (leftK f).nm, .string (leftK f).fn, .int .i64 (leftK f).ar, .slice ai (bareN f n) ci, .string (leftK f).bs, .int .i64 (leftK f).n], .bool ok]) ∧ Ori f ao cap ai ci ∧ Below w.heap.size w w'
theorem kindR_of {f g : Fd} {n m : Nat} {a b : Bool} {ai ao : Option Addr} {ci cap : Nat} {w w' : World} {e : Ending} (h : e = kindRet g (.slice ai m ci) a ∧ Below w.heap.size w w') (h1 : g = leftK f) (h2 : m = bareN f n) (h4 : Ori f ao cap ai ci) (h3 : a = b) : KindR f n b ao cap w e w' := by
  subst h1 h2 h3
  exact ⟨ai, ci, h.1, h4, h.2⟩
theorem leftK_same {f : Fd} (h : bareF f = {f with k := 0}) : f = leftK f := by unfold leftK; rw [h]
theorem dropsK_other {k : Int} (h4 : k ≠ 4) (h7 : k ≠ 7) (h9 : k ≠ 9) : dropsK k = false := by
  unfold dropsK
  rw [decide_eq_false h4, decide_eq_false h7, decide_eq_false h9]; rfl
theorem kind_all (f : Fd) (it : TL) (ao : Option Addr) (cap : Nat) (w : World) (A B : Nat) (hk0 : 0 ≤ f.k) (hk1 : f.k < 11) (hsm : smallT 1000000 f it) (hs : RdS w A B it (.slice ao it.len cap)) (hB : B ≤ w.heap.size) :
    Calls Tryd.prog (kindFn f.k.toNat) #[.agg #[.int .i64 f.k, .int .i64 f.i, .int .i64 f.g, .string f.nm, .string f.fn, .int .i64 f.ar, .slice ao it.len cap, .string f.bs, .int .i64 f.n]] w (KindR f it.len (okK f it) ao cap w) := by
  have hnm : f.nm.size ≤ maxLen := Nat.le_trans hsm.1 (by decide)
  have hfn : f.fn.size ≤ maxLen := Nat.le_trans hsm.2.1 (by decide)
  have hbs : f.bs.size ≤ maxLen := Nat.le_trans hsm.2.2.1 (by decide)
  by_cases h0 : f.k = 0
  · rw [show kindFn f.k.toNat = 73 by rw [h0]; rfl]
    refine (kind2_any f ao it.len cap w).mono fun e w' h => kindR_of h (leftK_same (bareF_other (by omega) (by omega) (by omega) (by omega) (by omega) (by omega) (by omega))) (bareN_other (by omega) (by omega) (by omega)).symm (.inl ⟨dropsK_other (by omega) (by omega) (by omega), rfl, rfl⟩) ?_
    unfold okK; rw [h0]; rfl
  by_cases h1 : f.k = 1
  · rw [show kindFn f.k.toNat = 74 by rw [h1]; rfl]
    refine (kind3_any f ao it.len cap w).mono fun e w' h => kindR_of h ?_ (bareN_other (by omega) (by omega) (by omega)).symm (.inl ⟨dropsK_other (by omega) (by omega) (by omega), rfl, rfl⟩) ?_
    · unfold leftK bareF; rw [if_pos h1, h1]
    · unfold okK; rw [h1]; rfl
  by_cases h2 : f.k = 2
  · rw [show kindFn f.k.toNat = 75 by rw [h2]; rfl]
    refine (kind4_any f ao it.len cap w hnm).mono fun e w' h => kindR_of h ?_ (bareN_other (by omega) (by omega) (by omega)).symm (.inl ⟨dropsK_other (by omega) (by omega) (by omega), rfl, rfl⟩) ?_
    · unfold leftK bareF; rw [if_neg h1, if_pos h2]
    · unfold okK; rw [h2]; rfl
  by_cases h3 : f.k = 3
  · rw [show kindFn f.k.toNat = 70 by rw [h3]; rfl]
    refine (kind1_any f ao it.len cap w hnm).mono fun e w' h => kindR_of h ?_ (bareN_other (by omega) (by omega) (by omega)).symm (.inl ⟨dropsK_other (by omega) (by omega) (by omega), rfl, rfl⟩) ?_
    · unfold leftK bareF; rw [if_neg h1, if_neg h2, if_pos (.inl h3)]
    · unfold okK; rw [h3]; rfl
  by_cases h4 : f.k = 4
  · rw [show kindFn f.k.toNat = 76 by rw [h4]; rfl]
    refine (kind5_any f ao it.len cap w hnm).mono fun e w' h => kindR_of h ?_ ?_ (.inr ⟨by rw [h4]; rfl, rfl, rfl⟩) ?_
    · unfold leftK bareF; rw [if_neg h1, if_neg h2, if_neg (by omega), if_pos h4]
    · unfold bareN dropsK; rw [h4]; rfl
    · unfold okK; rw [h4]; rfl
  by_cases h5 : f.k = 5
  · rw [show kindFn f.k.toNat = 77 by rw [h5]; rfl]
    refine (kind6_any f ao it.len cap w hnm hfn).mono fun e w' h => kindR_of h ?_ (bareN_other (by omega) (by omega) (by omega)).symm (.inl ⟨dropsK_other (by omega) (by omega) (by omega), rfl, rfl⟩) ?_
    · unfold leftK bareF; rw [if_neg h1, if_neg h2, if_neg (by omega), if_neg h4, if_pos h5]
    · unfold okK; rw [h5]; rfl
  by_cases h6 : f.k = 6
  · rw [show kindFn f.k.toNat = 70 by rw [h6]; rfl]
    refine (kind1_any f ao it.len cap w hnm).mono fun e w' h => kindR_of h ?_ (bareN_other (by omega) (by omega) (by omega)).symm (.inl ⟨dropsK_other (by omega) (by omega) (by omega), rfl, rfl⟩) ?_
    · unfold leftK bareF; rw [if_neg h1, if_neg h2, if_pos (.inr h6)]
    · unfold okK; rw [h6]; rfl
  by_cases h7 : f.k = 7
  · rw [show kindFn f.k.toNat = 78 by rw [h7]; rfl]
    refine (kind7_any f ao it.len cap w).mono fun e w' h => kindR_of h (leftK_same (bareF_other (by omega) (by omega) (by omega) (by omega) (by omega) (by omega) (by omega))) ?_ (.inr ⟨by rw [h7]; rfl, rfl, rfl⟩) ?_
    · unfold bareN dropsK; rw [h7]; rfl
    · unfold okK; rw [h7]; rfl
  by_cases h8 : f.k = 8
  · rw [show kindFn f.k.toNat = 79 by rw [h8]; rfl]
    refine (kind8_any f ao it.len cap w).mono fun e w' h => kindR_of h (leftK_same (bareF_other (by omega) (by omega) (by omega) (by omega) (by omega) (by omega) (by omega))) (bareN_other (by omega) (by omega) (by omega)).symm (.inl ⟨dropsK_other (by omega) (by omega) (by omega), rfl, rfl⟩) ?_
    unfold okK; rw [h8]; rfl
  by_cases h9 : f.k = 9
  · rw [show kindFn f.k.toNat = 80 by rw [h9]; rfl]
    refine (kind9_any f it _ w A B hs hB).mono fun e w' h => kindR_of h (leftK_same (bareF_other (by omega) (by omega) (by omega) (by omega) (by omega) (by omega) (by omega))) ?_ (.inr ⟨by rw [h9]; rfl, rfl, rfl⟩) ?_
    · unfold bareN dropsK; rw [h9]; rfl
    · unfold okK; rw [h9]; rfl
  · have h10 : f.k = 10 := by omega
    rw [show kindFn f.k.toNat = 81 by rw [h10]; rfl]
    cases hw : withinB f.n 0 16384
    · refine (kind10_out f ao it.len cap w hw).mono fun e w' h => kindR_of h ?_ (bareN_other (by omega) (by omega) (by omega)).symm (.inl ⟨dropsK_other (by omega) (by omega) (by omega), rfl, rfl⟩) ?_
      · unfold leftK bareF; rw [if_neg h1, if_neg h2, if_neg (by omega), if_neg h4, if_neg h5, if_pos h10]
      · unfold okK; rw [h10, hw]; rfl
    · refine (kind10_in f ao it.len cap w hbs hw).mono fun e w' h => kindR_of h ?_ (bareN_other (by omega) (by omega) (by omega)).symm (.inl ⟨dropsK_other (by omega) (by omega) (by omega), rfl, rfl⟩) ?_
      · unfold leftK bareF; rw [if_neg h1, if_neg h2, if_neg (by omega), if_neg h4, if_neg h5, if_pos h10]
      · unfold okK; rw [h10, hw]; rfl
def kindVs : Array Value := #[.func (.func 73) #[] #[], .func (.func 74) #[] #[], .func (.func 75) #[] #[], .func (.func 70) #[] #[], .func (.func 76) #[] #[], .func (.func 77) #[] #[], .func (.func 70) #[] #[], .func (.func 78) #[] #[], .func (.func 79) #[] #[], .func (.func 80) #[] #[], .func (.func 81) #[] #[]]
theorem kinds_size : (Tryd.prog.info? 90).map (·.size) = some 11 := by kernel_rfl
set_option maxRecDepth 100000 in
set_option maxHeartbeats 1000000 in
theorem kinds_any (w : World) : Calls Tryd.prog 63 #[] w fun e w' => e = .returned (.agg #[.func (.func 73) #[] #[], .func (.func 74) #[] #[], .func (.func 75) #[] #[], .func (.func 70) #[] #[], .func (.func 76) #[] #[], .func (.func 77) #[] #[], .func (.func 70) #[] #[], .func (.func 78) #[] #[], .func (.func 79) #[] #[], .func (.func 80) #[] #[], .func (.func 81) #[] #[]]) ∧ Below w.heap.size w w' := by
  go_enter Tryd.func63, Tryd.ntmps63
  go_wp2_with fail
  refine bodyPost_ret (v := .agg #[.func (.func 73) #[] #[], .func (.func 74) #[] #[], .func (.func 75) #[] #[], .func (.func 70) #[] #[], .func (.func 76) #[] #[], .func (.func 77) #[] #[], .func (.func 70) #[] #[], .func (.func 78) #[] #[], .func (.func 79) #[] #[], .func (.func 80) #[] #[], .func (.func 81) #[] #[]]) ?_ rfl ⟨rfl, below_alloc _ _⟩
  have hl := run_loadVar_row (P := Tryd.prog) _ w.heap.size _ 90 _ _ _ (heap_alloc_new w (.cells kindVs 90)) Tryd.underlying90 rfl kinds_size
  rw [results_cell1 rfl]
  exact hl
end Go.Proofs.YtgfodedmcjkmaaaDoor
