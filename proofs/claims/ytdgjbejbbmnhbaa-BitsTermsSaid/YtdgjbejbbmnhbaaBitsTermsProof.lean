/-
  BitsTerms: for every bit string and every term the law returns true: Term and FromTerm return what the reference says, and are inverse to each other.
-/
import Derived.Test.YtdgjbejbbmnhbaaOpenTerm
import Derived.Test.YtdgjbejbbmnhbaaBitsLawTerms
namespace Go.Proofs.Ytdgjbejbbmnhbaa
open Go.ChangeShapes Go.WideShapes Go.ChangeAt Go.RowKit Go.Joins
set_option maxRecDepth 100000 in
set_option maxHeartbeats 1000000 in
theorem lawTerms (s : ByteArray) (n : Int) (k i g : Int) (nm fn : ByteArray) (ar : Int) (ao : Option Addr) (il cap : Nat) (bs : ByteArray) (m : Int) (hs : s.size ≤ maxLen) (hn : i64ok n) (hb : bs.size ≤ maxLen) (hil : il ≤ maxLen) (hm : i64ok m) (w : World) :
    Calls Try.prog 7 #[.agg #[.string s, .int .i64 n], tmV k i g nm fn ar (.slice ao il cap) bs m] w (Yes w) := by
  rw [maxLen_val] at hs hb hil
  by_cases h1 : s.size ≤ 4096
  · by_cases h2 : bs.size ≤ 4096
    · by_cases h3 : il ≤ 100
      · exact terms_main s n k i g nm fn ar ao il cap bs m h1 hn h2 hm h3 w
      · have l1 : ¬ (4096 : Int) < (s.size : Int) := by omega
        have l2 : ¬ (4096 : Int) < (bs.size : Int) := by omega
        have l3 : (100 : Int) < (il : Int) := by omega
        unfold tmV
        go_enter Try.func7, Try.ntmps7
        go_wp2_with fail
        refine (awake_any _).mono ?_
        rintro e w1 ⟨rfl, hb⟩
        go_wp2_with fail
        go_ret
        exact ⟨rfl, bstep (balloc (below_alloc _ _) _) hb⟩
    · have l1 : ¬ (4096 : Int) < (s.size : Int) := by omega
      have l2 : (4096 : Int) < (bs.size : Int) := by omega
      unfold tmV
      go_enter Try.func7, Try.ntmps7
      go_wp2_with fail
      refine (awake_any _).mono ?_
      rintro e w1 ⟨rfl, hb⟩
      go_wp2_with fail
      go_ret
      exact ⟨rfl, bstep (balloc (below_alloc _ _) _) hb⟩
  · have l1 : (4096 : Int) < (s.size : Int) := by omega
    unfold tmV
    go_enter Try.func7, Try.ntmps7
    go_wp2_with fail
    refine (awake_any _).mono ?_
    rintro e w1 ⟨rfl, hb⟩
    go_wp2_with fail
    go_ret
    exact ⟨rfl, bstep (balloc (below_alloc _ _) _) hb⟩
set_option maxRecDepth 100000 in
theorem terms_lifted (os : Os) (started : os.Started) (H : Type) (enc : TypeId × Value → H) :
    ReturnsInHanded {} Try.checked os 7 .any (Rows.bitsTermsSpec.pre6 enc Try.prog Try.f7 Rows.bitsTermsRow.domain false) (Rows.bitsTermsSpec.post enc Try.prog Try.f7 false true false false) := by
  refine returnsInHanded_of_change (C := Try.checked) Try.own started (by kernel_rfl) Try.func7
    (ChangeSpec.witness6 (enc := enc) (C := Try.checked) false ⟨#[], #[.agg #[.string ⟨#[]⟩, .int .i64 0], .agg #[.int .i64 0, .int .i64 0, .int .i64 0, .string ⟨#[]⟩, .string ⟨#[]⟩, .int .i64 0, .slice none 0 0, .string ⟨#[]⟩, .int .i64 0]], []⟩ 8 (by kernel_rfl) (by kernel_rfl) (by kernel_rfl) (by kernel_rfl)) ?_
  intro W base args ds gs before hval0 hW _ _
  have hval : ∀ (j : Nat) t v, Try.f7.params[j]? = some t → args[j]? = some v → Value.okWide Try.prog W .any base t v := hval0
  have hW1 : DataW.Whole enc Try.prog Try.f7.params.toList Rows.bitsTermsSpec.vars false W args.toList ds gs before := hW
  obtain ⟨p, q, hA0, hV, rfl, _, _⟩ := hW
  have hA : DataW.TrodAll enc Try.prog W 0 (fun _ => true) true Try.f7.params.toList args.toList ds p := hA0
  rw [Try.params7] at hA hval
  obtain ⟨rfl, rfl⟩ := trodVars_none hV
  obtain ⟨v0, v1, d0, d1, p0, p1, rfl, rfl, rfl, h0, h1⟩ := trodAll_two hA
  obtain ⟨s, n, rfl, hs, hn⟩ := open_bits (hval 0 25 v0 rfl rfl) h0
  obtain ⟨k, i, g, nm, fn, ar, ao, il, cap, bs, m, rfl, hb, hil, hm⟩ := open_term (hval 1 40 v1 rfl rfl) h1
  exact (lawTerms s n k i g nm fn ar ao il cap bs m hs hn hb hil hm W).mono fun e W' h => yes_post rfl rfl (by kernel_rfl) hW1 rfl rfl rfl h
theorem terms_holds : Rows.BitsTermsSaid :=
  OpenClaim.holds_of_wide 7 Try.f7 rfl rfl rfl rfl rfl rfl rfl ⟨rfl, rfl, rfl, rfl, rfl⟩ rfl rfl rfl rfl rfl (by kernel_rfl) Try.func7 (by kernel_rfl)
    (of_decide_eq_true (by kernel_rfl)) (by unfold Func.isWrapper; rw [if_neg (of_decide_eq_false (by kernel_rfl))]; exact ⟨rfl, rfl⟩)
    (fun os started H enc _ => terms_lifted os started H enc)
#print axioms terms_holds
end Go.Proofs.Ytdgjbejbbmnhbaa
