/-
  MailboxPicks: for every row of terms and every number the law returns true: after so many Skips, Take removes just the message with that index, and all others stay in their order.
-/
import Derived.Test.YtgbaelkoblnlhaaTrod
import Derived.Test.YtgbaelkoblnlhaaOpens
import Derived.Test.YtgbaelkoblnlhaaPicks
namespace Go.Proofs.Ytgbaelkoblnlhaa
open Go.ChangeShapes Go.WideShapes Go.ChangeAt Go.RowKit Go.Joins
set_option maxRecDepth 100000 in
theorem picks_lifted (os : Os) (started : os.Started) (H : Type) (enc : TypeId × Value → H) :
    ReturnsInHanded {} Try.checked os 11 .any (Rows.mailboxPicksSpec.pre6 enc Try.prog Try.f11 Rows.mailboxPicksRow.domain false) (Rows.mailboxPicksSpec.post enc Try.prog Try.f11 false true false false) := by
  refine returnsInHanded_of_change (C := Try.checked) Try.own started (by kernel_rfl) Try.func11
    (ChangeSpec.witness6 (enc := enc) (C := Try.checked) false ⟨#[], #[.slice none 0 0, .int .i64 0], []⟩ 8 (by kernel_rfl) (by kernel_rfl) (by kernel_rfl) (by kernel_rfl)) ?_
  intro W base args ds gs before hval0 hW _ _
  have hval : ∀ (j : Nat) t v, Try.f11.params[j]? = some t → args[j]? = some v → Value.okWide Try.prog W .any base t v := hval0
  have hW1 : DataW.Whole enc Try.prog Try.f11.params.toList Rows.mailboxPicksSpec.vars false W args.toList ds gs before := hW
  obtain ⟨p, q, hA0, hV, rfl, _, _⟩ := hW
  have hA : DataW.TrodAll enc Try.prog W 0 (fun _ => true) true Try.f11.params.toList args.toList ds p := hA0
  rw [Try.params11] at hA hval
  obtain ⟨rfl, rfl⟩ := trodVars_none hV
  obtain ⟨v0, v1, d0, d1, p0, p1, rfl, rfl, rfl, h0, h1⟩ := trodAll_two hA
  obtain ⟨l0, hr0, hw0⟩ := open_terms (hval 0 22 v0 rfl rfl) h0
  obtain ⟨ai0, ci0, rfl⟩ := hr0.slice
  obtain ⟨n1, rfl, -⟩ := open_i64 Try.underlying3 (hval 1 3 v1 rfl rfl) h1
  have H0 : Calls Try.prog 11 #[.slice ai0 l0.len ci0, .int .i64 n1] W (Yes W) := by
    by_cases h0 : l0.len = 0
    · exact picks_zero l0 ai0 ci0 n1 W h0
    · by_cases h1 : 100 < l0.len
      · exact picks_many l0 ai0 ci0 n1 W h1
      · by_cases hg : leftF l0 6000 < 0
        · exact picks_great l0 ai0 ci0 n1 W hr0 h0 (by omega) hg
        · exact picks_main l0 ai0 ci0 n1 W hr0 h0 (by omega) (by omega)
  exact H0.mono fun e W' h => yes_post rfl rfl (by kernel_rfl) hW1 rfl rfl rfl h
theorem picks_holds : Rows.MailboxPicksSaid :=
  OpenClaim.holds_of_wide 11 Try.f11 rfl rfl rfl rfl rfl rfl rfl ⟨rfl, rfl, rfl, rfl, rfl⟩ rfl rfl rfl rfl rfl (by kernel_rfl) Try.func11 (by kernel_rfl)
    (of_decide_eq_true (by kernel_rfl)) (by unfold Func.isWrapper; rw [if_neg (of_decide_eq_false (by kernel_rfl))]; exact ⟨rfl, rfl⟩)
    (fun os started H enc _ => picks_lifted os started H enc)
#print axioms picks_holds
end Go.Proofs.Ytgbaelkoblnlhaa
