/-
  TermsLists: for every two rows of terms and every tail the law returns true: a list that is made has the elements and the tail of which it was made.
-/
import Derived.Test.YtgbaelkoblnlhaaTrod
import Derived.Test.YtgbaelkoblnlhaaLists
namespace Go.Proofs.Ytgbaelkoblnlhaa
open Go.ChangeShapes Go.WideShapes Go.ChangeAt Go.RowKit Go.Joins
set_option maxRecDepth 100000 in
theorem lists_lifted (os : Os) (started : os.Started) (H : Type) (enc : TypeId × Value → H) :
    ReturnsInHanded {} Try.checked os 8 .any (Rows.termsListsSpec.pre6 enc Try.prog Try.f8 Rows.termsListsRow.domain false) (Rows.termsListsSpec.post enc Try.prog Try.f8 false true false false) := by
  refine returnsInHanded_of_change (C := Try.checked) Try.own started (by kernel_rfl) Try.func8
    (ChangeSpec.witness6 (enc := enc) (C := Try.checked) false ⟨#[], #[.slice none 0 0, .slice none 0 0, .agg #[.int .i64 0, .int .i64 0, .int .i64 0, .string ⟨#[]⟩, .string ⟨#[]⟩, .int .i64 0, .slice none 0 0, .string ⟨#[]⟩, .int .i64 0]], []⟩ 8 (by kernel_rfl) (by kernel_rfl) (by kernel_rfl) (by kernel_rfl)) ?_
  intro W base args ds gs before hval0 hW _ _
  have hval : ∀ (j : Nat) t v, Try.f8.params[j]? = some t → args[j]? = some v → Value.okWide Try.prog W .any base t v := hval0
  have hW1 : DataW.Whole enc Try.prog Try.f8.params.toList Rows.termsListsSpec.vars false W args.toList ds gs before := hW
  obtain ⟨p, q, hA0, hV, rfl, _, _⟩ := hW
  have hA : DataW.TrodAll enc Try.prog W 0 (fun _ => true) true Try.f8.params.toList args.toList ds p := hA0
  rw [Try.params8] at hA hval
  obtain ⟨rfl, rfl⟩ := trodVars_none hV
  obtain ⟨v0, v1, v2, d0, d1, d2, p0, p1, p2, rfl, rfl, rfl, h0, h1, h2⟩ := trodAll_three hA
  obtain ⟨l0, hr0, hw0⟩ := open_terms (hval 0 22 v0 rfl rfl) h0
  obtain ⟨ai0, ci0, rfl⟩ := hr0.slice
  obtain ⟨l1, hr1, hw1⟩ := open_terms (hval 1 22 v1 rfl rfl) h1
  obtain ⟨ai1, ci1, rfl⟩ := hr1.slice
  obtain ⟨f2, it2, ⟨iv2, rfl, hr2⟩, hw2, hv2⟩ := open_term (hval 2 24 v2 rfl rfl) h2
  obtain ⟨ai2, ci2, rfl⟩ := hr2.slice
  have H0 : Calls Try.prog 8 #[.slice ai0 l0.len ci0, .slice ai1 l1.len ci1, f2.val (.slice ai2 it2.len ci2)] W (Yes W) := by
    by_cases hg1 : leftF l0 20000 < 0
    · exact lists_great1 l0 ai0 ci0 l1 ai1 ci1 f2 it2 ai2 ci2 W hr0 hr1 hr2 hg1
    · by_cases hg2 : leftF l1 20000 < 0
      · exact lists_great2 l0 ai0 ci0 l1 ai1 ci1 f2 it2 ai2 ci2 W hr0 hr1 hr2 (by omega) hg2
      · by_cases hg3 : leftF (.cons f2 it2 .nil) 20000 < 0
        · exact lists_great3 l0 ai0 ci0 l1 ai1 ci1 f2 it2 ai2 ci2 W hr0 hr1 hr2 (by omega) (by omega) hg3
        · exact lists_main l0 ai0 ci0 l1 ai1 ci1 f2 it2 ai2 ci2 W hr0 hr1 hr2 (by omega) (by omega) (by omega)
  exact H0.mono fun e W' h => yes_post rfl rfl (by kernel_rfl) hW1 rfl rfl rfl h
theorem lists_holds : Rows.TermsListsSaid :=
  OpenClaim.holds_of_wide 8 Try.f8 rfl rfl rfl rfl rfl rfl rfl ⟨rfl, rfl, rfl, rfl, rfl⟩ rfl rfl rfl rfl rfl (by kernel_rfl) Try.func8 (by kernel_rfl)
    (of_decide_eq_true (by kernel_rfl)) (by unfold Func.isWrapper; rw [if_neg (of_decide_eq_false (by kernel_rfl))]; exact ⟨rfl, rfl⟩)
    (fun os started H enc _ => lists_lifted os started H enc)
#print axioms lists_holds
end Go.Proofs.Ytgbaelkoblnlhaa
