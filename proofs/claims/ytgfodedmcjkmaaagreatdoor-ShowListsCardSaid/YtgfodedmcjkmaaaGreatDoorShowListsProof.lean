/-
  ShowLists: for every row of terms the law returns true: List answers what the document says.
-/
import Derived.Test.YtgfodedmcjkmaaaGreatDoorTrod
import Derived.Test.YtgfodedmcjkmaaaGreatDoorRow6
import Derived.Test.YtgfodedmcjkmaaaGreatDoorLawL
namespace Go.Proofs.YtgfodedmcjkmaaaGreatDoor
open Go.ChangeShapes Go.WideShapes Go.ChangeAt Go.RowKit Go.Joins
theorem wf_iok : ∀ {l : TL}, l.wf → l.iok
  | .nil, _ => trivial
  | .cons _ _ _, ⟨h, h1, h2⟩ => ⟨h.2.1, wf_iok h1, wf_iok h2⟩
set_option maxRecDepth 100000 in
theorem shlists_contract (H : Type) (enc : TypeId × Value → H) (W : World) (base : Nat) (args : Array Value) (ds gs : List (DataW H)) (before : List MemPlace)
    (hval0 : ∀ (j : Nat) t v, Tryz.f5.params[j]? = some t → args[j]? = some v → Value.okWide Tryz.prog W .any base t v)
    (hW : DataW.Whole enc Tryz.prog Tryz.f5.params.toList Rows.showListsSpec.vars false W args.toList ds gs before) (hL : laidMetH Tryz.prog Rows.showListsRow.laid W) :
    Calls Tryz.prog 5 args W fun e W' => ∃ v, e = .returned v ∧ Rows.showListsSpec.post enc Tryz.prog Tryz.f5 false true false false W args v W' := by
  have hval : ∀ (j : Nat) t v, Tryz.f5.params[j]? = some t → args[j]? = some v → Value.okWide Tryz.prog W .any base t v := hval0
  have hW1 : DataW.Whole enc Tryz.prog Tryz.f5.params.toList Rows.showListsSpec.vars false W args.toList ds gs before := hW
  have hP := pow_laid hL
  obtain ⟨p, q, hA0, hV, rfl, _, _⟩ := hW
  have hA : DataW.TrodAll enc Tryz.prog W 0 (fun _ => true) true Tryz.f5.params.toList args.toList ds p := hA0
  rw [Tryz.params5] at hA hval
  obtain ⟨rfl, rfl⟩ := trodVars_none hV
  obtain ⟨v0, d0, hargs, rfl, h0⟩ := trodAll_one hA
  obtain rfl : args = #[v0] := by cases args; simp_all
  obtain ⟨l0, hr0, hw0⟩ := open_terms (hval 0 22 v0 rfl rfl) h0
  obtain ⟨ai0, ci0, rfl⟩ := hr0.slice
  have H0 : Calls Tryz.prog 5 #[.slice ai0 l0.len ci0] W (Yes W) := by
    by_cases hm : 200 < l0.len
    · exact lists_many l0 ai0 ci0 W hP hr0 hm
    · by_cases hg : leftF l0 6000 < 0
      · exact lists_great l0 ai0 ci0 W hP hr0 (by omega) hg
      · exact lists_main l0 ai0 ci0 W hP hr0 (by omega) (wf_iok hw0) (by omega)
  exact H0.mono fun e W' h => yes_post rfl rfl (by kernel_rfl) hW1 rfl rfl rfl h
theorem shlists_laid (os : Os) : laidMet Tryz.prog Rows.showListsRow.laid ((laidWorld os).forCall (fun _ _ => 0) ⟨#[], #[.slice none 0 0], []⟩).memory :=
  laidMet_of_run' 8 (by kernel_rfl) (by kernel_rfl)
theorem shlists_reads (os : Os) {H : Type} (enc : TypeId × Value → H) : ∃ places, DataW.whole enc Tryz.prog ((laidWorld os).forCall (fun _ _ => 0) ⟨#[], #[.slice none 0 0], []⟩).memory Tryz.f5.params.toList Rows.showListsSpec.vars false #[(.slice none 0 0 : Value)].toList 8 = some ([.nil], [], places) :=
  ⟨[], by kernel_rfl⟩
set_option maxRecDepth 100000 in
theorem shlists_lifted (os : Os) (started : os.Started) (H : Type) (enc : TypeId × Value → H) (F : Stop.Interp) :
    ReturnsInHanded {} Tryz.checked os 5 .any ((OpenSpec.ofChange Rows.showListsSpec).preRow enc Tryz.prog Tryz.f5 Rows.showListsRow.domain false Rows.showListsRow.laid) (((OpenSpec.ofChange Rows.showListsSpec).at F).post enc Tryz.prog Tryz.f5 false true false false) := by
  obtain ⟨places, hx⟩ := shlists_reads os enc
  refine returnsInHanded_of_row (C := Tryz.checked) (s := OpenSpec.ofChange Rows.showListsSpec) Tryz.own started (by kernel_rfl) Tryz.func5
    (witness_row_at (enc := enc) (C := Tryz.checked) false (laidWorld os) #[.slice none 0 0] rfl (by kernel_rfl) (by kernel_rfl) (by kernel_rfl)
      (OpenSpec.preRow_of_cond 8 hx (by kernel_rfl) (fun k hk => by cases hk) (by kernel_rfl) (shlists_laid os))) ?_
  intro W base args ds gs before hval hW _ _ _ hL _ _
  exact shlists_contract H enc W base args ds gs before hval hW hL
theorem shlists_said : Rows.ShowListsSaid :=
  OpenClaim.holds_of_cond 5 Tryz.f5 rfl rfl rfl rfl rfl rfl rfl ⟨rfl, rfl, rfl, rfl, rfl⟩ rfl rfl rfl rfl rfl (by kernel_rfl) Tryz.func5 (by kernel_rfl)
    (of_decide_eq_true (by kernel_rfl)) (by unfold Func.isWrapper; first | (rw [if_pos (by decide +kernel)]; kernel_rfl) | (rw [if_neg (by decide +kernel)]; exact ⟨rfl, rfl⟩))
    (fun os started H enc _ F => by rw [OpenClaim.pre_eq_preRow]; exact shlists_lifted os started H enc F)
theorem shlists_plain (f : FuncId) (fn : Func) (hf : Tryz.pinned.checked.prog.funcNamed "stagehand/stagehandlaw06.ShowLists" = some f) (hfn : Tryz.pinned.checked.prog.funcs[f]? = some fn) :
    true = Tryz.pinned.checked.prog.looks [] ∧ ∀ (j : Nat) t, fn.params[j]? = some t → Tryz.pinned.checked.prog.wantsStandIn t = false := by
  obtain rfl : f = 5 := Option.some.inj ((show Tryz.prog.funcNamed "stagehand/stagehandlaw06.ShowLists" = some 5 by kernel_rfl).symm.trans hf) |>.symm
  obtain rfl : fn = Tryz.f5 := (Option.some.inj (Tryz.func5.symm.trans hfn)).symm
  refine ⟨by kernel_rfl, fun j t ht => ?_⟩
  rw [Tryz.params5] at ht
  obtain rfl : t = 22 := by simpa using Array.mem_of_getElem? ht
  exact (show Tryz.prog.wantsStandIn 22 = false by kernel_rfl)
theorem shlists_holds : Rows.ShowListsCardSaid :=
  Claim7.holds_tied_plain_at .later [] _ _ _ _ shlists_said (fun _ h => by cases h) (by kernel_rfl) (fun _ h => by cases h) showLists_row_tie rfl ⟨rfl, rfl⟩ (by kernel_rfl) rfl shlists_plain (by kernel_rfl)
#print axioms shlists_holds
end Go.Proofs.YtgfodedmcjkmaaaGreatDoor
