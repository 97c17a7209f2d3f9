/-
  TermsMake: for every row of terms, every term and every name the law returns true: the makers answer what the reference says, as new memory.
-/
import Derived.Test.YtgbaelkoblnlhaaTrod
import Derived.Test.YtgbaelkoblnlhaaOpens
import Derived.Test.YtgbaelkoblnlhaaMaking
namespace Go.Proofs.Ytgbaelkoblnlhaa
open Go.ChangeShapes Go.WideShapes Go.ChangeAt Go.RowKit Go.Joins
set_option maxRecDepth 100000 in
theorem making_lifted (os : Os) (started : os.Started) (H : Type) (enc : TypeId × Value → H) :
    ReturnsInHanded {} Try.checked os 7 .any (Rows.termsMakeSpec.pre6 enc Try.prog Try.f7 Rows.termsMakeRow.domain false) (Rows.termsMakeSpec.post enc Try.prog Try.f7 false true false false) := by
  refine returnsInHanded_of_change (C := Try.checked) Try.own started (by kernel_rfl) Try.func7
    (ChangeSpec.witness6 (enc := enc) (C := Try.checked) false ⟨#[], #[.slice none 0 0, .agg #[.int .i64 0, .int .i64 0, .int .i64 0, .string ⟨#[]⟩, .string ⟨#[]⟩, .int .i64 0, .slice none 0 0, .string ⟨#[]⟩, .int .i64 0], .string ⟨#[]⟩], []⟩ 8 (by kernel_rfl) (by kernel_rfl) (by kernel_rfl) (by kernel_rfl)) ?_
  intro W base args ds gs before hval0 hW _ _
  have hval : ∀ (j : Nat) t v, Try.f7.params[j]? = some t → args[j]? = some v → Value.okWide Try.prog W .any base t v := hval0
  have hW1 : DataW.Whole enc Try.prog Try.f7.params.toList Rows.termsMakeSpec.vars false W args.toList ds gs before := hW
  obtain ⟨p, q, hA0, hV, rfl, _, _⟩ := hW
  have hA : DataW.TrodAll enc Try.prog W 0 (fun _ => true) true Try.f7.params.toList args.toList ds p := hA0
  rw [Try.params7] at hA hval
  obtain ⟨rfl, rfl⟩ := trodVars_none hV
  obtain ⟨v0, v1, v2, d0, d1, d2, p0, p1, p2, rfl, rfl, rfl, h0, h1, h2⟩ := trodAll_three hA
  obtain ⟨l0, hr0, hw0⟩ := open_terms (hval 0 22 v0 rfl rfl) h0
  obtain ⟨ai0, ci0, rfl⟩ := hr0.slice
  obtain ⟨f1, it1, ⟨iv1, rfl, hr1⟩, hw1, hv1⟩ := open_term (hval 1 24 v1 rfl rfl) h1
  obtain ⟨ai1, ci1, rfl⟩ := hr1.slice
  obtain ⟨s2, rfl, hs2⟩ := open_str Try.underlying9 (hval 2 9 v2 rfl rfl) h2
  have H0 : Calls Try.prog 7 #[.slice ai0 l0.len ci0, f1.val (.slice ai1 it1.len ci1), .string s2] W (Yes W) := by
    by_cases hs : 1000 < s2.size
    · exact making_long l0 ai0 ci0 f1 it1 ai1 ci1 s2 W hr0 hr1 hs2 hs
    · by_cases hg1 : leftF l0 20000 < 0
      · exact making_great1 l0 ai0 ci0 f1 it1 ai1 ci1 s2 W hr0 hr1 hs2 hs hg1
      · by_cases hg2 : leftF (.cons f1 it1 .nil) 20000 < 0
        · exact making_great2 l0 ai0 ci0 f1 it1 ai1 ci1 s2 W hr0 hr1 hs2 hs (by omega) hg2
        · exact making_main l0 ai0 ci0 f1 it1 ai1 ci1 s2 W hr0 hr1 hs2 hs (by omega) (by omega)
  exact H0.mono fun e W' h => yes_post rfl rfl (by kernel_rfl) hW1 rfl rfl rfl h
theorem making_holds : Rows.TermsMakeSaid :=
  OpenClaim.holds_of_wide 7 Try.f7 rfl rfl rfl rfl rfl rfl rfl ⟨rfl, rfl, rfl, rfl, rfl⟩ rfl rfl rfl rfl rfl (by kernel_rfl) Try.func7 (by kernel_rfl)
    (of_decide_eq_true (by kernel_rfl)) (by unfold Func.isWrapper; rw [if_neg (of_decide_eq_false (by kernel_rfl))]; exact ⟨rfl, rfl⟩)
    (fun os started H enc _ => making_lifted os started H enc)
#print axioms making_holds
end Go.Proofs.Ytgbaelkoblnlhaa
