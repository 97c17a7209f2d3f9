/-
  LexValid: for every two tokens and every row of tokens the law returns true: Valid, Reserved and Same answer what the document says.
-/
import Derived.Test.YtmcnhggpmlhgeaaGreatDoorRow9
import Derived.Test.YtmcnhggpmlhgeaaGreatDoorLaid9
import Derived.Deep.DeepWitnessRowRef
import Derived.Test.YtmcnhggpmlhgeaaGreatDoorLwH
namespace Go.Proofs.YtmcnhggpmlhgeaaGreatDoor
open Go.ChangeShapes Go.WideShapes Go.ChangeAt Go.RowKit Go.Joins
set_option maxRecDepth 100000 in
theorem lexvalid_contract (H : Type) (enc : TypeId × Value → H) (W : World) (base : Nat) (args : Array Value) (ds gs : List (DataW H)) (before : List MemPlace)
    (hval0 : ∀ (j : Nat) t v, Tryz.f5.params[j]? = some t → args[j]? = some v → Value.okWide Tryz.prog W .any base t v)
    (hW : DataW.Whole enc Tryz.prog Tryz.f5.params.toList Rows.lexValidSpec.vars false W args.toList ds gs before) (hL : laidMetH Tryz.prog Rows.lexValidRow.laid W) :
    Calls Tryz.prog 5 args W fun e W' => ∃ v, e = .returned v ∧ Rows.lexValidSpec.post enc Tryz.prog Tryz.f5 false true false false W args v W' := by
  have hval : ∀ (j : Nat) t v, Tryz.f5.params[j]? = some t → args[j]? = some v → Value.okWide Tryz.prog W .any base t v := hval0
  have hW1 : DataW.Whole enc Tryz.prog Tryz.f5.params.toList Rows.lexValidSpec.vars false W args.toList ds gs before := hW
  have hP := tb_laid hL
  obtain ⟨p, q, hA0, hV, rfl, _, _⟩ := hW
  have hA : DataW.TrodAll enc Tryz.prog W 0 (fun _ => true) true Tryz.f5.params.toList args.toList ds p := hA0
  rw [Tryz.params5] at hA hval
  obtain ⟨rfl, rfl⟩ := trodVars_none hV
  obtain ⟨v0, v1, v2, d0, d1, d2, p0, p1, p2, hargs, rfl, rfl, h0, h1, h2⟩ := trodAll_three hA
  obtain rfl : args = #[v0, v1, v2] := by cases args; simp_all
  obtain ⟨t0, rfl, ht0⟩ := open_tok (hval 0 36 v0 rfl rfl) h0
  obtain ⟨t1, rfl, ht1⟩ := open_tok (hval 1 36 v1 rfl rfl) h1
  obtain ⟨l2, hr2, hl2⟩ := open_toks (hval 2 23 v2 rfl rfl) h2
  have H0 : Calls Tryz.prog 5 #[.agg #[.int .i64 t0.k, .string (ba t0.tx), .int .u64 (t0.n : Int), .int .i64 t0.pos], .agg #[.int .i64 t1.k, .string (ba t1.tx), .int .u64 (t1.n : Int), .int .i64 t1.pos], v2] W (Yes W) := by
    exact LexValid_law W.heap.size t0 t1 l2 v2 W hr2 (Nat.le_refl _) hl2 ht0 ht1 hP
  exact H0.mono fun e W' h => yes_post rfl rfl (by kernel_rfl) hW1 rfl rfl rfl h
theorem lexvalid_laid (os : Os) : laidMet Tryz.prog Rows.lexValidRow.laid ((laidWorld os).forCall (fun _ _ => 0) ⟨#[], #[(.agg #[.int .i64 0, .string ⟨#[]⟩, .int .u64 0, .int .i64 0] : Value), (.agg #[.int .i64 0, .string ⟨#[]⟩, .int .u64 0, .int .i64 0] : Value), (.slice none 0 0 : Value)], []⟩).memory :=
  laidMet_of_run' 8 (by kernel_rfl) (by kernel_rfl)
theorem lexvalid_reads (os : Os) {H : Type} (enc : TypeId × Value → H) : ∃ places, DataW.whole enc Tryz.prog ((laidWorld os).forCall (fun _ _ => 0) ⟨#[], #[(.agg #[.int .i64 0, .string ⟨#[]⟩, .int .u64 0, .int .i64 0] : Value), (.agg #[.int .i64 0, .string ⟨#[]⟩, .int .u64 0, .int .i64 0] : Value), (.slice none 0 0 : Value)], []⟩).memory Tryz.f5.params.toList Rows.lexValidSpec.vars false #[(.agg #[.int .i64 0, .string ⟨#[]⟩, .int .u64 0, .int .i64 0] : Value), (.agg #[.int .i64 0, .string ⟨#[]⟩, .int .u64 0, .int .i64 0] : Value), (.slice none 0 0 : Value)].toList 8 = some ([.agg [.lit (.int .i64 0), .lit (.string []), .lit (.int .u64 0), .lit (.int .i64 0)], .agg [.lit (.int .i64 0), .lit (.string []), .lit (.int .u64 0), .lit (.int .i64 0)], .nil], [], places) :=
  ⟨[], by kernel_rfl⟩
set_option maxRecDepth 100000 in
theorem lexvalid_lifted (os : Os) (started : os.Started) (H : Type) (enc : TypeId × Value → H) (F : Stop.Interp) :
    ReturnsInHanded {} Tryz.checked os 5 .any ((OpenSpec.ofChange Rows.lexValidSpec).preRow enc Tryz.prog Tryz.f5 Rows.lexValidRow.domain false Rows.lexValidRow.laid) (((OpenSpec.ofChange Rows.lexValidSpec).at F).post enc Tryz.prog Tryz.f5 false true false false) := by
  obtain ⟨places, hx⟩ := lexvalid_reads os enc
  refine returnsInHanded_of_row (C := Tryz.checked) (s := OpenSpec.ofChange Rows.lexValidSpec) Tryz.own started (by kernel_rfl) Tryz.func5
    (witness_row_atRef (enc := enc) (C := Tryz.checked) false (laidWorld os) #[(.agg #[.int .i64 0, .string ⟨#[]⟩, .int .u64 0, .int .i64 0] : Value), (.agg #[.int .i64 0, .string ⟨#[]⟩, .int .u64 0, .int .i64 0] : Value), (.slice none 0 0 : Value)] rfl (by kernel_rfl) (by kernel_rfl) (by kernel_rfl)
      (OpenSpec.preRow_of_cond 8 hx (by kernel_rfl) (fun k hk => by cases hk) (by kernel_rfl) (lexvalid_laid os))) ?_
  intro W base args ds gs before hval hW _ _ _ hL _ _
  exact lexvalid_contract H enc W base args ds gs before hval hW hL
theorem lexvalid_said : Rows.LexValidSaid :=
  OpenClaim.holds_of_cond 5 Tryz.f5 rfl rfl rfl rfl rfl rfl rfl ⟨rfl, rfl, rfl, rfl, rfl⟩ rfl rfl rfl rfl rfl (by kernel_rfl) Tryz.func5 (by kernel_rfl)
    (of_decide_eq_true (by kernel_rfl)) (by unfold Func.isWrapper; first | (rw [if_pos (by decide +kernel)]; kernel_rfl) | (rw [if_neg (by decide +kernel)]; exact ⟨rfl, rfl⟩))
    (fun os started H enc _ F => by rw [OpenClaim.pre_eq_preRow]; exact lexvalid_lifted os started H enc F)
theorem lexvalid_plain (f : FuncId) (fn : Func) (hf : Tryz.pinned.checked.prog.funcNamed "stagehand/stagehandlaw09.LexValid" = some f) (hfn : Tryz.pinned.checked.prog.funcs[f]? = some fn) :
    true = Tryz.pinned.checked.prog.looks [] ∧ ∀ (j : Nat) t, fn.params[j]? = some t → Tryz.pinned.checked.prog.wantsStandIn t = false := by
  obtain rfl : f = 5 := Option.some.inj ((show Tryz.prog.funcNamed "stagehand/stagehandlaw09.LexValid" = some 5 by kernel_rfl).symm.trans hf) |>.symm
  obtain rfl : fn = Tryz.f5 := (Option.some.inj (Tryz.func5.symm.trans hfn)).symm
  refine ⟨by kernel_rfl, fun j t ht => ?_⟩
  rw [Tryz.params5] at ht
  have hm : t = 36 ∨ t = 23 := by have h := Array.mem_of_getElem? ht; simp at h; omega
  rcases hm with rfl | rfl
  · exact (show Tryz.prog.wantsStandIn 36 = false by kernel_rfl)
  · exact (show Tryz.prog.wantsStandIn 23 = false by kernel_rfl)
theorem lexvalid_holds : Rows.LexValidCardSaid :=
  Claim7.holds_tied_plain_at .later [] _ _ _ _ lexvalid_said (fun _ h => by cases h) (by kernel_rfl) (fun _ h => by cases h) lexValid_row_tie rfl ⟨rfl, rfl⟩ (by kernel_rfl) rfl lexvalid_plain (by kernel_rfl)
#print axioms lexvalid_holds
end Go.Proofs.YtmcnhggpmlhgeaaGreatDoor
