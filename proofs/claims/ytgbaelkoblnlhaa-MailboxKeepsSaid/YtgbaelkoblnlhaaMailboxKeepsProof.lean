/-
  MailboxKeeps: for every row of terms the law returns true: what is put is copied, and what All, Look and Take return is new memory.
-/
import Derived.Test.YtgbaelkoblnlhaaTrod
import Derived.Test.YtgbaelkoblnlhaaKeeps
namespace Go.Proofs.Ytgbaelkoblnlhaa
open Go.ChangeShapes Go.WideShapes Go.ChangeAt Go.RowKit Go.Joins
set_option maxRecDepth 100000 in
theorem keeps_lifted (os : Os) (started : os.Started) (H : Type) (enc : TypeId × Value → H) :
    ReturnsInHanded {} Try.checked os 10 .any (Rows.mailboxKeepsSpec.pre6 enc Try.prog Try.f10 Rows.mailboxKeepsRow.domain false) (Rows.mailboxKeepsSpec.post enc Try.prog Try.f10 false true false false) := by
  refine returnsInHanded_of_change (C := Try.checked) Try.own started (by kernel_rfl) Try.func10
    (ChangeSpec.witness6 (enc := enc) (C := Try.checked) false ⟨#[], #[.slice none 0 0], []⟩ 8 (by kernel_rfl) (by kernel_rfl) (by kernel_rfl) (by kernel_rfl)) ?_
  intro W base args ds gs before hval0 hW _ _
  have hval : ∀ (j : Nat) t v, Try.f10.params[j]? = some t → args[j]? = some v → Value.okWide Try.prog W .any base t v := hval0
  have hW1 : DataW.Whole enc Try.prog Try.f10.params.toList Rows.mailboxKeepsSpec.vars false W args.toList ds gs before := hW
  obtain ⟨p, q, hA0, hV, rfl, _, _⟩ := hW
  have hA : DataW.TrodAll enc Try.prog W 0 (fun _ => true) true Try.f10.params.toList args.toList ds p := hA0
  rw [Try.params10] at hA hval
  obtain ⟨rfl, rfl⟩ := trodVars_none hV
  obtain ⟨v0, d0, rfl, rfl, h0⟩ := trodAll_one hA
  obtain ⟨l0, hr0, hw0⟩ := open_terms (hval 0 22 v0 rfl rfl) h0
  obtain ⟨ai0, ci0, rfl⟩ := hr0.slice
  have H0 : Calls Try.prog 10 #[.slice ai0 l0.len ci0] W (Yes W) := by
    by_cases h1 : 100 < l0.len
    · exact keeps_many l0 ai0 ci0 W h1
    · by_cases hg : leftF l0 6000 < 0
      · exact keeps_great l0 ai0 ci0 W hr0 (by omega) hg
      · exact keeps_main l0 ai0 ci0 W hr0 (by omega) (by omega)
  exact H0.mono fun e W' h => yes_post rfl rfl (by kernel_rfl) hW1 rfl rfl rfl h
theorem keeps_holds : Rows.MailboxKeepsSaid :=
  OpenClaim.holds_of_wide 10 Try.f10 rfl rfl rfl rfl rfl rfl rfl ⟨rfl, rfl, rfl, rfl, rfl⟩ rfl rfl rfl rfl rfl (by kernel_rfl) Try.func10 (by kernel_rfl)
    (of_decide_eq_true (by kernel_rfl)) (by unfold Func.isWrapper; rw [if_neg (of_decide_eq_false (by kernel_rfl))]; exact ⟨rfl, rfl⟩)
    (fun os started H enc _ => keeps_lifted os started H enc)
#print axioms keeps_holds
end Go.Proofs.Ytgbaelkoblnlhaa
