/-
  ShowInside: for every row of terms the law returns true: the text of a tuple, and of a proper list, is composed of the texts of its elements.
-/
import Derived.Test.YtgfodedmcjkmaaaDoorTrod
import Derived.Test.YtgfodedmcjkmaaaDoorRow6
import Derived.Test.YtgfodedmcjkmaaaDoorLawIn
namespace Go.Proofs.YtgfodedmcjkmaaaDoor
open Go.ChangeShapes Go.WideShapes Go.ChangeAt Go.RowKit Go.Joins
theorem wf_iok : ∀ {l : TL}, l.wf → l.iok
  | .nil, _ => trivial
  | .cons _ _ _, ⟨h, h1, h2⟩ => ⟨h.2.1, wf_iok h1, wf_iok h2⟩
set_option maxRecDepth 100000 in
theorem shinside_contract (H : Type) (enc : TypeId × Value → H) (W : World) (base : Nat) (args : Array Value) (ds gs : List (DataW H)) (before : List MemPlace)
    (hval0 : ∀ (j : Nat) t v, Tryd.f5.params[j]? = some t → args[j]? = some v → Value.okWide Tryd.prog W .any base t v)
    (hW : DataW.Whole enc Tryd.prog Tryd.f5.params.toList Rows.showInsideSpec.vars false W args.toList ds gs before) (hL : laidMetH Tryd.prog Rows.showInsideRow.laid W) :
    Calls Tryd.prog 5 args W fun e W' => ∃ v, e = .returned v ∧ Rows.showInsideSpec.post enc Tryd.prog Tryd.f5 false true false false W args v W' := by
  have hval : ∀ (j : Nat) t v, Tryd.f5.params[j]? = some t → args[j]? = some v → Value.okWide Tryd.prog W .any base t v := hval0
  have hW1 : DataW.Whole enc Tryd.prog Tryd.f5.params.toList Rows.showInsideSpec.vars false W args.toList ds gs before := hW
  have hP := pow_laid hL
  obtain ⟨p, q, hA0, hV, rfl, _, _⟩ := hW
  have hA : DataW.TrodAll enc Tryd.prog W 0 (fun _ => true) true Tryd.f5.params.toList args.toList ds p := hA0
  rw [Tryd.params5] at hA hval
  obtain ⟨rfl, rfl⟩ := trodVars_none hV
  obtain ⟨v0, d0, hargs, rfl, h0⟩ := trodAll_one hA
  obtain rfl : args = #[v0] := by cases args; simp_all
  obtain ⟨l0, hr0, hw0⟩ := open_terms (hval 0 22 v0 rfl rfl) h0
  obtain ⟨ai0, ci0, rfl⟩ := hr0.slice
  have H0 : Calls Tryd.prog 5 #[.slice ai0 l0.len ci0] W (Yes W) := by
    by_cases h0 : l0.len = 0
    · exact in_zero l0 ai0 ci0 W hP hr0 h0
    · by_cases hm : 200 < l0.len
      · exact in_many l0 ai0 ci0 W hP hr0 hm
      · by_cases hg : leftF l0 6000 < 0
        · exact in_great l0 ai0 ci0 W hP hr0 (by omega) (by omega) hg
        · by_cases hc : tupC l0 = 0
          · by_cases hd : lstC l0 (kF 8) .nil = 0
            · exact in_main l0 ai0 ci0 W hP hr0 (by omega) (by omega) (by omega) (wf_iok hw0) hc hd
            · exact in_bad2 l0 ai0 ci0 W hP hr0 (by omega) (by omega) (by omega) hc hd
          · exact in_bad1 l0 ai0 ci0 W hP hr0 (by omega) (by omega) (by omega) hc
  exact H0.mono fun e W' h => yes_post rfl rfl (by kernel_rfl) hW1 rfl rfl rfl h
theorem shinside_laid (os : Os) : laidMet Tryd.prog Rows.showInsideRow.laid ((laidWorld os).forCall (fun _ _ => 0) ⟨#[], #[.slice none 0 0], []⟩).memory :=
  laidMet_of_run' 8 (by kernel_rfl) (by kernel_rfl)
theorem shinside_reads (os : Os) {H : Type} (enc : TypeId × Value → H) : ∃ places, DataW.whole enc Tryd.prog ((laidWorld os).forCall (fun _ _ => 0) ⟨#[], #[.slice none 0 0], []⟩).memory Tryd.f5.params.toList Rows.showInsideSpec.vars false #[(.slice none 0 0 : Value)].toList 8 = some ([.nil], [], places) :=
  ⟨[], by kernel_rfl⟩
set_option maxRecDepth 100000 in
theorem shinside_lifted (os : Os) (started : os.Started) (H : Type) (enc : TypeId × Value → H) (F : Stop.Interp) :
    ReturnsInHanded {} Tryd.checked os 5 .any ((OpenSpec.ofChange Rows.showInsideSpec).preRow enc Tryd.prog Tryd.f5 Rows.showInsideRow.domain false Rows.showInsideRow.laid) (((OpenSpec.ofChange Rows.showInsideSpec).at F).post enc Tryd.prog Tryd.f5 false true false false) := by
  obtain ⟨places, hx⟩ := shinside_reads os enc
  refine returnsInHanded_of_row (C := Tryd.checked) (s := OpenSpec.ofChange Rows.showInsideSpec) Tryd.own started (by kernel_rfl) Tryd.func5
    (witness_row_at (enc := enc) (C := Tryd.checked) false (laidWorld os) #[.slice none 0 0] rfl (by kernel_rfl) (by kernel_rfl) (by kernel_rfl)
      (OpenSpec.preRow_of_cond 8 hx (by kernel_rfl) (fun k hk => by cases hk) (by kernel_rfl) (shinside_laid os))) ?_
  intro W base args ds gs before hval hW _ _ _ hL _ _
  exact shinside_contract H enc W base args ds gs before hval hW hL
theorem shinside_said : Rows.ShowInsideSaid :=
  OpenClaim.holds_of_cond 5 Tryd.f5 rfl rfl rfl rfl rfl rfl rfl ⟨rfl, rfl, rfl, rfl, rfl⟩ rfl rfl rfl rfl rfl (by kernel_rfl) Tryd.func5 (by kernel_rfl)
    (of_decide_eq_true (by kernel_rfl)) (by unfold Func.isWrapper; first | (rw [if_pos (by decide +kernel)]; kernel_rfl) | (rw [if_neg (by decide +kernel)]; exact ⟨rfl, rfl⟩))
    (fun os started H enc _ F => by rw [OpenClaim.pre_eq_preRow]; exact shinside_lifted os started H enc F)
theorem shinside_plain (f : FuncId) (fn : Func) (hf : Tryd.pinned.checked.prog.funcNamed "stagehand/stagehandlaw06.ShowInside" = some f) (hfn : Tryd.pinned.checked.prog.funcs[f]? = some fn) :
    true = Tryd.pinned.checked.prog.looks [] ∧ ∀ (j : Nat) t, fn.params[j]? = some t → Tryd.pinned.checked.prog.wantsStandIn t = false := by
  obtain rfl : f = 5 := Option.some.inj ((show Tryd.prog.funcNamed "stagehand/stagehandlaw06.ShowInside" = some 5 by kernel_rfl).symm.trans hf) |>.symm
  obtain rfl : fn = Tryd.f5 := (Option.some.inj (Tryd.func5.symm.trans hfn)).symm
  refine ⟨by kernel_rfl, fun j t ht => ?_⟩
  rw [Tryd.params5] at ht
  obtain rfl : t = 22 := by simpa using Array.mem_of_getElem? ht
  exact (show Tryd.prog.wantsStandIn 22 = false by kernel_rfl)
theorem shinside_holds : Rows.ShowInsideCardSaid :=
  Claim7.holds_tied_plain_at .later [] _ _ _ _ shinside_said (fun _ h => by cases h) (by kernel_rfl) (fun _ h => by cases h) showInside_row_tie rfl ⟨rfl, rfl⟩ (by kernel_rfl) rfl shinside_plain (by kernel_rfl)
#print axioms shinside_holds
end Go.Proofs.YtgfodedmcjkmaaaDoor
