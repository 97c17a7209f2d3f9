/-
  TermsEqual: for every two terms the law returns true: Same answers what the reference says; Copy answers an equal term that shares no list with its argument.
-/
import Derived.Test.YtgbaelkoblnlhaaTrod
import Derived.Test.YtgbaelkoblnlhaaEqual
namespace Go.Proofs.Ytgbaelkoblnlhaa
open Go.ChangeShapes Go.WideShapes Go.ChangeAt Go.RowKit Go.Joins
set_option maxRecDepth 100000 in
theorem equal_lifted (os : Os) (started : os.Started) (H : Type) (enc : TypeId × Value → H) :
    ReturnsInHanded {} Try.checked os 4 .any (Rows.termsEqualSpec.pre6 enc Try.prog Try.f4 Rows.termsEqualRow.domain false) (Rows.termsEqualSpec.post enc Try.prog Try.f4 false true false false) := by
  refine returnsInHanded_of_change (C := Try.checked) Try.own started (by kernel_rfl) Try.func4
    (ChangeSpec.witness6 (enc := enc) (C := Try.checked) false ⟨#[], #[.agg #[.int .i64 0, .int .i64 0, .int .i64 0, .string ⟨#[]⟩, .string ⟨#[]⟩, .int .i64 0, .slice none 0 0, .string ⟨#[]⟩, .int .i64 0], .agg #[.int .i64 0, .int .i64 0, .int .i64 0, .string ⟨#[]⟩, .string ⟨#[]⟩, .int .i64 0, .slice none 0 0, .string ⟨#[]⟩, .int .i64 0]], []⟩ 8 (by kernel_rfl) (by kernel_rfl) (by kernel_rfl) (by kernel_rfl)) ?_
  intro W base args ds gs before hval0 hW _ _
  have hval : ∀ (j : Nat) t v, Try.f4.params[j]? = some t → args[j]? = some v → Value.okWide Try.prog W .any base t v := hval0
  have hW1 : DataW.Whole enc Try.prog Try.f4.params.toList Rows.termsEqualSpec.vars false W args.toList ds gs before := hW
  obtain ⟨p, q, hA0, hV, rfl, _, _⟩ := hW
  have hA : DataW.TrodAll enc Try.prog W 0 (fun _ => true) true Try.f4.params.toList args.toList ds p := hA0
  rw [Try.params4] at hA hval
  obtain ⟨rfl, rfl⟩ := trodVars_none hV
  obtain ⟨v0, v1, d0, d1, p0, p1, rfl, rfl, rfl, h0, h1⟩ := trodAll_two hA
  obtain ⟨f0, it0, ⟨iv0, rfl, hr0⟩, hw0, hv0⟩ := open_term (hval 0 24 v0 rfl rfl) h0
  obtain ⟨ai0, ci0, rfl⟩ := hr0.slice
  obtain ⟨f1, it1, ⟨iv1, rfl, hr1⟩, hw1, hv1⟩ := open_term (hval 1 24 v1 rfl rfl) h1
  obtain ⟨ai1, ci1, rfl⟩ := hr1.slice
  have H0 : Calls Try.prog 4 #[f0.val (.slice ai0 it0.len ci0), f1.val (.slice ai1 it1.len ci1)] W (Yes W) := by
    by_cases hg : leftF (.cons f0 it0 (.cons f1 it1 .nil)) 30000 < 0
    · exact equal_great f0 it0 ai0 ci0 f1 it1 ai1 ci1 W hr0 hr1 hg
    · exact equal_main f0 it0 ai0 ci0 f1 it1 ai1 ci1 W hr0 hr1 (by omega) _ rfl
  exact H0.mono fun e W' h => yes_post rfl rfl (by kernel_rfl) hW1 rfl rfl rfl h
theorem equal_holds : Rows.TermsEqualSaid :=
  OpenClaim.holds_of_wide 4 Try.f4 rfl rfl rfl rfl rfl rfl rfl ⟨rfl, rfl, rfl, rfl, rfl⟩ rfl rfl rfl rfl rfl (by kernel_rfl) Try.func4 (by kernel_rfl)
    (of_decide_eq_true (by kernel_rfl)) (by unfold Func.isWrapper; rw [if_neg (of_decide_eq_false (by kernel_rfl))]; exact ⟨rfl, rfl⟩)
    (fun os started H enc _ => equal_lifted os started H enc)
#print axioms equal_holds
end Go.Proofs.Ytgbaelkoblnlhaa
