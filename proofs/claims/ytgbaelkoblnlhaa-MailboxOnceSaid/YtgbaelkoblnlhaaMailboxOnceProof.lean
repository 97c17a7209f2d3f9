/-
  MailboxOnce: for every script the law returns true: every message that was put is taken once or is still there, in the order in which they were put.
-/
import Derived.Test.YtgbaelkoblnlhaaTrod
import Derived.Test.YtgbaelkoblnlhaaOnce
import Derived.SizedLaws
namespace Go.Proofs.Ytgbaelkoblnlhaa
open Go.ChangeShapes Go.WideShapes Go.ChangeAt Go.RowKit Go.Joins
set_option maxRecDepth 100000 in
theorem once_lifted (os : Os) (started : os.Started) (H : Type) (enc : TypeId × Value → H) :
    ReturnsInHanded {} Try.checked os 15 .any (Rows.mailboxOnceSpec.pre6 enc Try.prog Try.f15 Rows.mailboxOnceRow.domain false) (Rows.mailboxOnceSpec.post enc Try.prog Try.f15 false true false false) := by
  refine returnsInHanded_of_change_sized (C := Try.checked) Try.own started (by kernel_rfl) Try.func15
    (ChangeSpec.witness6 (enc := enc) (C := Try.checked) false ⟨#[], #[.slice none 0 0], []⟩ 8 (by kernel_rfl) (by kernel_rfl) (by kernel_rfl) (by kernel_rfl)) ?_
  intro W base args ds gs before hval0 hW _ hsz _
  have hval : ∀ (j : Nat) t v, Try.f15.params[j]? = some t → args[j]? = some v → Value.okWide Try.prog W .any base t v := hval0
  have hW1 : DataW.Whole enc Try.prog Try.f15.params.toList Rows.mailboxOnceSpec.vars false W args.toList ds gs before := hW
  obtain ⟨p, q, hA0, hV, rfl, _, _⟩ := hW
  have hA : DataW.TrodAll enc Try.prog W 0 (fun _ => true) true Try.f15.params.toList args.toList ds p := hA0
  rw [Try.params15] at hA hval
  obtain ⟨rfl, rfl⟩ := trodVars_none hV
  obtain ⟨v0, d0, rfl, rfl, h0⟩ := trodAll_one hA
  obtain ⟨ks0, l0, hr0, hk0, hq0⟩ := open_ops (hval 0 68 v0 rfl rfl) h0
  have hn0 : l0.len ≤ 1172812402926 := by
    rcases hq0 with h | ⟨elems, spare, rfl, h⟩
    · omega
    · have hz := sized_slice hsz (j := 0) (t := 68) (e := 72) (elems := elems) (spare := spare) rfl rfl Try.underlying68
      rw [show Try.checked.prog.bytesOf 72 = 120 by kernel_rfl] at hz
      have hr : reachBytes = 140737488351232 := by decide
      omega
  have H0 : Calls Try.prog 15 #[v0] W (Yes W) := by
    by_cases h1 : 300 < l0.len
    · exact once_many ks0 l0 v0 W hr0 h1
    · exact once_main ks0 l0 v0 W hr0 (by omega)
  exact H0.mono fun e W' h => yes_post rfl rfl (by kernel_rfl) hW1 rfl rfl rfl h
theorem once_holds : Rows.MailboxOnceSaid :=
  OpenClaim.holds_of_wide 15 Try.f15 rfl rfl rfl rfl rfl rfl rfl ⟨rfl, rfl, rfl, rfl, rfl⟩ rfl rfl rfl rfl rfl (by kernel_rfl) Try.func15 (by kernel_rfl)
    (of_decide_eq_true (by kernel_rfl)) (by unfold Func.isWrapper; rw [if_neg (of_decide_eq_false (by kernel_rfl))]; exact ⟨rfl, rfl⟩)
    (fun os started H enc _ => once_lifted os started H enc)
#print axioms once_holds
end Go.Proofs.Ytgbaelkoblnlhaa
