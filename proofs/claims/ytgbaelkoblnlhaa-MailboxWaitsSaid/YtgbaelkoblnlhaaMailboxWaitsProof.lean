/-
  MailboxWaits: for every row of terms and every term the law returns true: when all messages have been examined, the next one that is put is the next one to be examined; after Rewind, it is the first one again.
-/
import Derived.Test.YtgbaelkoblnlhaaTrod
import Derived.Test.YtgbaelkoblnlhaaWaits
namespace Go.Proofs.Ytgbaelkoblnlhaa
open Go.ChangeShapes Go.WideShapes Go.ChangeAt Go.RowKit Go.Joins
set_option maxRecDepth 100000 in
theorem waits_lifted (os : Os) (started : os.Started) (H : Type) (enc : TypeId × Value → H) :
    ReturnsInHanded {} Try.checked os 14 .any (Rows.mailboxWaitsSpec.pre6 enc Try.prog Try.f14 Rows.mailboxWaitsRow.domain false) (Rows.mailboxWaitsSpec.post enc Try.prog Try.f14 false true false false) := by
  refine returnsInHanded_of_change (C := Try.checked) Try.own started (by kernel_rfl) Try.func14
    (ChangeSpec.witness6 (enc := enc) (C := Try.checked) false ⟨#[], #[.slice none 0 0, .agg #[.int .i64 0, .int .i64 0, .int .i64 0, .string ⟨#[]⟩, .string ⟨#[]⟩, .int .i64 0, .slice none 0 0, .string ⟨#[]⟩, .int .i64 0]], []⟩ 8 (by kernel_rfl) (by kernel_rfl) (by kernel_rfl) (by kernel_rfl)) ?_
  intro W base args ds gs before hval0 hW _ _
  have hval : ∀ (j : Nat) t v, Try.f14.params[j]? = some t → args[j]? = some v → Value.okWide Try.prog W .any base t v := hval0
  have hW1 : DataW.Whole enc Try.prog Try.f14.params.toList Rows.mailboxWaitsSpec.vars false W args.toList ds gs before := hW
  obtain ⟨p, q, hA0, hV, rfl, _, _⟩ := hW
  have hA : DataW.TrodAll enc Try.prog W 0 (fun _ => true) true Try.f14.params.toList args.toList ds p := hA0
  rw [Try.params14] at hA hval
  obtain ⟨rfl, rfl⟩ := trodVars_none hV
  obtain ⟨v0, v1, d0, d1, p0, p1, rfl, rfl, rfl, h0, h1⟩ := trodAll_two hA
  obtain ⟨l0, hr0, hw0⟩ := open_terms (hval 0 22 v0 rfl rfl) h0
  obtain ⟨ai0, ci0, rfl⟩ := hr0.slice
  obtain ⟨f1, it1, ⟨iv1, rfl, hr1⟩, hw1, hv1⟩ := open_term (hval 1 24 v1 rfl rfl) h1
  obtain ⟨ai1, ci1, rfl⟩ := hr1.slice
  have H0 : Calls Try.prog 14 #[.slice ai0 l0.len ci0, f1.val (.slice ai1 it1.len ci1)] W (Yes W) := by
    by_cases h1 : 100 < l0.len
    · exact waits_many l0 ai0 ci0 f1 it1 ai1 ci1 W h1
    · by_cases hg : leftF l0 6000 < 0
      · exact waits_great1 l0 ai0 ci0 f1 it1 ai1 ci1 W hr0 (by omega) hg
      · by_cases hg2 : leftF (.cons f1 it1 .nil) 6000 < 0
        · exact waits_great2 l0 ai0 ci0 f1 it1 ai1 ci1 W hr0 hr1 (by omega) (by omega) hg2
        · by_cases hv : validF f1 it1 = true
          · exact waits_main l0 ai0 ci0 f1 it1 ai1 ci1 W hr0 hr1 (by omega) (by omega) (by omega) hv
          · exact waits_bad l0 ai0 ci0 f1 it1 ai1 ci1 W hr0 hr1 (by omega) (by omega) (by omega) (Bool.eq_false_iff.2 hv)
  exact H0.mono fun e W' h => yes_post rfl rfl (by kernel_rfl) hW1 rfl rfl rfl h
theorem waits_holds : Rows.MailboxWaitsSaid :=
  OpenClaim.holds_of_wide 14 Try.f14 rfl rfl rfl rfl rfl rfl rfl ⟨rfl, rfl, rfl, rfl, rfl⟩ rfl rfl rfl rfl rfl (by kernel_rfl) Try.func14 (by kernel_rfl)
    (of_decide_eq_true (by kernel_rfl)) (by unfold Func.isWrapper; rw [if_neg (of_decide_eq_false (by kernel_rfl))]; exact ⟨rfl, rfl⟩)
    (fun os started H enc _ => waits_lifted os started H enc)
#print axioms waits_holds
end Go.Proofs.Ytgbaelkoblnlhaa
