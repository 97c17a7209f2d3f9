/-
  Walks: the makers of the reference: formed, fits, Tuple.
-/
import Derived.Test.YtgfodedmcjkmaaaDoorRx
import Derived.Test.YtgfodedmcjkmaaaDoorBook0
import Derived.Test.YtgfodedmcjkmaaaDoorRows3
namespace Go.Proofs.YtgfodedmcjkmaaaDoor
open Go.RowKit
set_option maxHeartbeats 4000000 in
theorem rformed_any (l : TL) (v : Value) (w : World) (A B : Nat) (hsm : l.small 1000000) (hs : RdS w A B l v) (hB : B ≤ w.heap.size) :
    Calls Tryd.prog 26 #[v] w fun e w' => e = .returned (.bool (formL l)) ∧ Below w.heap.size w w' := by
  obtain ⟨ao, cap, rfl, hcap, hmax, hr⟩ := hs
  unfold maxLen at hmax
  have HR := Lib.hid hr
  have HSM := Lib.hid hsm
  clear hr hsm
  go_enter Tryd.func26, Tryd.ntmps26
  go_wp2_with fail
  go_loopw [3] (fun i wr => ∃ k : Nat, k ≤ l.len ∧ i = .int .i64 k ∧ Hid (formL l = formL (l.drop k)) ∧ Hid (Below w.heap.size w wr)) (fun i _ => l.len - (intOf i).toNat)
  case atStart => exact ⟨0, Nat.zero_le _, rfl, Lib.hid (by rw [TL.drop_zero]), Lib.hid (Below.refl _ _)⟩
  case round =>
    obtain ⟨k, hk, rfl, HE, HB⟩ := hrel
    by_cases hlt : k < l.len
    · have hlt' : (k : Int) < (l.len : Int) := by omega
      obtain ⟨f2, it2, e1⟩ := TL.drop_at l k hlt
      obtain ⟨b, o, rfl, hrd⟩ := HR.out (by intro e; rw [e] at hlt; simp [TL.len] at hlt)
      obtain ⟨hb, ai2, ci2, ⟨c0, c1, c2, c3, c4, c5, c6, c7, c8⟩, hit⟩ := Rd.nine hrd e1 (below_cells HB.out hB)
      have hcall := formed_all it2.cnt f2 it2 (.slice ai2 it2.len ci2) wr A B (Nat.le_refl _) (small_at HSM.out e1) hit (Nat.le_trans hB HB.out.size)
      have hfl := formL_drop e1 HE.out
      unfold FormedR at hcall
      generalize formT f2 it2 = s at hcall hfl
      have HCall := Lib.hid hcall
      have HFL := Lib.hid hfl
      clear hrd hit hcall e1 hfl
      go_wp2_with fail
      refine HCall.out.mono ?_
      rintro e w3 ⟨rfl, hb3⟩
      have HB3 := Lib.hid (bstep HB.out hb3)
      clear hb3 c0 c1 c2 c3 c4 c5 c6 c7 c8
      cases s
      · have HF := Lib.hid (show formL l = false by rw [HFL.out]; rfl)
        go_wp2_with fail
        go_ret
        exact ⟨ret_bool HF.out.symm, HB3.out⟩
      · go_wp2_with fail
        refine ⟨⟨k + 1, by omega, by go_num, Lib.hid (by rw [HFL.out, Bool.true_and]), HB3⟩, by simp only [intOf]; omega⟩
    · have hlt' : ¬ (k : Int) < (l.len : Int) := by omega
      have HF := Lib.hid (show formL l = true by rw [HE.out, TL.drop_len l k (by omega)]; rfl)
      go_wp2_with fail
      go_ret
      exact ⟨ret_bool HF.out.symm, HB.out⟩
noncomputable def fitC (f : Fd) (it : TL) : Int := if 2000 < wholeT f it then 3 else 0
/-- results that share what was there: a term and a word -/
def OldX (S : Nat → Prop) (c : Value) (F : Fd) (L : TL) (w : World) (e : Ending) (w' : World) : Prop := ∃ ai ci, e = .returned (.tuple #[.agg #[.int .i64 F.k, .int .i64 F.i, .int .i64 F.g, .string F.nm, .string F.fn, .int .i64 F.ar, .slice ai L.len ci, .string F.bs, .int .i64 F.n], c]) ∧ RdXS w' (fun b => S b ∨ (w.heap.size ≤ b ∧ b < w'.heap.size)) L (.slice ai L.len ci) ∧ Below w.heap.size w w'
set_option maxRecDepth 10000 in
set_option maxHeartbeats 4000000 in
theorem rfits_big (f : Fd) (it : TL) (iv : Value) (w : World) (A B : Nat) (hc : it.cnt ≤ 1000000) (hf : formT f it = true) (hw0 : 2000 < wholeT f it) (hs : RdS w A B it iv) (hB : B ≤ w.heap.size) :
    Calls Tryd.prog 27 #[.agg #[.int .i64 f.k, .int .i64 f.i, .int .i64 f.g, .string f.nm, .string f.fn, .int .i64 f.ar, iv, .string f.bs, .int .i64 f.n]] w fun e w' => e = .returned (.tuple #[.agg #[.int .i64 0, .int .i64 0, .int .i64 0, .string ⟨#[]⟩, .string ⟨#[]⟩, .int .i64 0, .slice none 0 0, .string ⟨#[]⟩, .int .i64 0], .int .i64 3]) ∧ Below w.heap.size w w' := by
  have HC := Lib.hid fun (W : World) (hb : Below w.heap.size w W) => whole_all it.cnt f it _ W A B (Nat.le_refl _) hc hf (hs.below hb hB) (Nat.le_trans hB hb.size)
  obtain ⟨ao, cap, rfl, hcap, hmax, -⟩ := hs
  have hw := wholeT_le hf
  have hw2 : wholeT f it ≤ 260000260 := Nat.le_trans hw (Nat.mul_le_mul_left 260 (Nat.succ_le_succ hc))
  clear hw hf hmax
  generalize wholeT f it = W at HC hw2 hw0
  have h1' : (2000 : Int) < (W : Int) := by omega
  go_enter Tryd.func27, Tryd.ntmps27
  go_wp2_with fail
  refine (HC.out _ (balloc (below_alloc _ _) _)).mono ?_
  rintro e w1 ⟨rfl, hb1⟩
  have HR := Lib.hid (keepB hb1 (new2_1 w _ _))
  have HB := Lib.hid (bstep (balloc (below_alloc _ _) _) hb1)
  clear hb1
  obtain ⟨d0, d1, d2, d3, d4, d5, d6, d7, d8, fr⟩ := nine_cells HR.out
  go_wp2_with fail
  refine bodyPost_ret (results_pair rfl _ _ (w.heap.size + 1) _ _ _ _ _ _ _ _ _ rfl (nine_blk HR.out _ _ _ _ _ _ _ _ _)) rfl ?_
  refine ⟨rfl, ?_⟩
  repeat (with_reducible refine bset ?_ (by omega) _)
  exact HB.out
set_option maxRecDepth 10000 in
set_option maxHeartbeats 4000000 in
theorem rfits_ok (f : Fd) (it : TL) (ao : Option Addr) (cap : Nat) (w : World) (A B : Nat) (hc : it.cnt ≤ 1000000) (hf : formT f it = true) (hw0 : ¬ 2000 < wholeT f it) (hs : RdS w A B it (.slice ao it.len cap)) (hB : B ≤ w.heap.size) :
    Calls Tryd.prog 27 #[.agg #[.int .i64 f.k, .int .i64 f.i, .int .i64 f.g, .string f.nm, .string f.fn, .int .i64 f.ar, .slice ao it.len cap, .string f.bs, .int .i64 f.n]] w fun e w' => e = .returned (.tuple #[.agg #[.int .i64 f.k, .int .i64 f.i, .int .i64 f.g, .string f.nm, .string f.fn, .int .i64 f.ar, .slice ao it.len cap, .string f.bs, .int .i64 f.n], .int .i64 0]) ∧ Below w.heap.size w w' := by
  have HC := Lib.hid fun (W : World) (hb : Below w.heap.size w W) => whole_all it.cnt f it _ W A B (Nat.le_refl _) hc hf (hs.below hb hB) (Nat.le_trans hB hb.size)
  clear hs hf
  generalize wholeT f it = W at HC hw0
  have h1' : ¬ (2000 : Int) < (W : Int) := by omega
  go_enter Tryd.func27, Tryd.ntmps27
  go_wp2_with fail
  refine (HC.out _ (balloc (below_alloc _ _) _)).mono ?_
  rintro e w1 ⟨rfl, hb1⟩
  have HA := Lib.hid (keepB hb1 (new2_0 w _ _))
  have HR := Lib.hid (keepB hb1 (new2_1 w _ _))
  have HB := Lib.hid (bstep (balloc (below_alloc _ _) _) hb1)
  clear hb1
  obtain ⟨b0, b1, b2, b3, b4, b5, b6, b7, b8, -⟩ := nine_cells HA.out
  obtain ⟨d0, d1, d2, d3, d4, d5, d6, d7, d8, fr⟩ := nine_cells HR.out
  go_wp2_with fail
  refine bodyPost_ret (results_pair rfl _ _ (w.heap.size + 1) _ _ _ _ _ _ _ _ _ rfl (nine_blk HR.out _ _ _ _ _ _ _ _ _)) rfl ?_
  refine ⟨rfl, ?_⟩
  repeat (with_reducible refine bset ?_ (by omega) _)
  exact HB.out
theorem own_empty (w : World) (base : Nat) (h : base ≤ w.heap.size) : (w.alloc (.cells #[] 24 (0, 0))).ownsRow base 24 9 (.slice (some ⟨w.heap.size, 0, none⟩) 0 0) 0 [] := World.ownsRow_made w #[] 0 h (Nat.zero_le _) rfl
theorem tup_fit {l : TL} (hf : formL l = true) (h : l.len ≤ 255) : tupC l = fitC (kF 7) l := by
  unfold tupC fitC
  rw [hf, if_pos rfl, whole_tuple]
  by_cases h2 : 2000 < wholeL l + 1
  · rw [if_pos (.inr h2), if_pos h2]
  · rw [if_neg (by omega), if_neg h2]
set_option maxRecDepth 10000 in
set_option maxHeartbeats 8000000 in
theorem rTuple_any (S : Nat → Prop) (l : TL) (v : Value) (w : World) (hS : ∀ b, S b → b < w.heap.size) (hm : l.cnt ≤ 1000000) (hsm : l.small 1000000) (hs : RdXS w S l v) :
    Calls Tryd.prog 12 #[v] w (OldX S (.int .i64 (tupC l)) (resF (tupC l) (kF 7)) (resL (tupC l) l) w) := by
  have HS := Lib.hid hs
  have HSb := Lib.hid hS
  obtain ⟨ao, cap, rfl, hcap, hmax, -⟩ := hs
  have hll := TL.len_le_cnt l
  have HC := Lib.hid fun (W : World) (hb : Below w.heap.size w W) => rformed_any l _ W 0 w.heap.size hsm ((HS.out.below hb hS).rd0 hS) hb.size
  unfold maxLen at hmax
  clear hsm hS
  by_cases hf : formL l = true
  case neg =>
    have hff : formL l = false := by simpa using hf
    have HT := Lib.hid (show tupC l = 2 by unfold tupC; rw [hff]; rfl)
    rw [hff] at HC
    clear hf hff
    go_enter Tryd.func12, Tryd.ntmps12
    go_wp2_with fail
    refine (HC.out _ (below_alloc _ _)).mono ?_
    rintro e w1 ⟨rfl, hb1⟩
    have HR := Lib.hid (keepB hb1 (heap_alloc_new w _))
    have HB := Lib.hid (bstep (below_alloc _ _) hb1)
    clear hb1
    obtain ⟨d0, d1, d2, d3, d4, d5, d6, d7, d8, fr⟩ := nine_cells HR.out
    go_wp2_with fail
    refine bodyPost_ret (results_pair rfl _ _ (w.heap.size) _ _ _ _ _ _ _ _ _ rfl (nine_blk HR.out _ _ _ _ _ _ _ _ _)) rfl ?_
    unfold OldX
    rw [HT.out]
    refine ⟨none, 0, rfl, RdXS.nil _ _, ?_⟩
    repeat (with_reducible refine bset ?_ (by omega) _)
    exact HB.out
  by_cases h1 : 255 < l.len
  case pos =>
    have h1' : (255 : Int) < (l.len : Int) := by omega
    have HT := Lib.hid (show tupC l = 3 by unfold tupC; rw [hf, if_pos rfl, if_pos (.inl h1)])
    rw [hf] at HC
    clear hf
    go_enter Tryd.func12, Tryd.ntmps12
    go_wp2_with fail
    refine (HC.out _ (below_alloc _ _)).mono ?_
    rintro e w1 ⟨rfl, hb1⟩
    have HR := Lib.hid (keepB hb1 (heap_alloc_new w _))
    have HB := Lib.hid (bstep (below_alloc _ _) hb1)
    clear hb1
    obtain ⟨d0, d1, d2, d3, d4, d5, d6, d7, d8, fr⟩ := nine_cells HR.out
    go_wp2_with fail
    refine bodyPost_ret (results_pair rfl _ _ (w.heap.size) _ _ _ _ _ _ _ _ _ rfl (nine_blk HR.out _ _ _ _ _ _ _ _ _)) rfl ?_
    unfold OldX
    rw [HT.out]
    refine ⟨none, 0, rfl, RdXS.nil _ _, ?_⟩
    repeat (with_reducible refine bset ?_ (by omega) _)
    exact HB.out
  have h1' : ¬ (255 : Int) < (l.len : Int) := by omega
  have HT := Lib.hid (tup_fit hf (by omega))
  have HFm := Lib.hid (form_tuple hf (by omega))
  rw [hf] at HC
  clear hf h1
  obtain ⟨-, xs, hx, hn0, hnews⟩ := HS.out.list
  have HX := Lib.hid hx
  have HN0 := Lib.hid hn0
  have HNews := Lib.hid hnews
  clear hx hn0 hnews
  go_enter Tryd.func12, Tryd.ntmps12
  go_wp2_with fail
  refine (HC.out _ (below_alloc _ _)).mono ?_
  rintro e w1 ⟨rfl, hb1⟩
  have HR1 := Lib.hid (keepB hb1 (heap_alloc_new w _))
  have HB1 := Lib.hid (bstep (below_alloc _ _) hb1)
  have hz1 : w.heap.size + 1 ≤ w1.heap.size := by have := hb1.size; simp at this; omega
  clear hb1
  go_wp2_with (at_builtin; refine wpList_append_row rfl (.tmp 12) (.tmp 13) rfl w1.heap.size w1.heap.size 0 0 [] rfl (own_empty w1 _ (Nat.le_refl _)) ao l.len cap xs rfl HN0.out HX.out.len (fun ad had j u hu => keep_al (below_keep HB1.out (HNews.out ad had j u hu)) _) HX.out.one (by omega) (by simp) ?_; intro g5 cap5 w5 hown5 hgrow5; have HR5 := Lib.hid (gr_keep hgrow5 (heap_after HR1.out _) (by omega)); have HB5 := Lib.hid (grown_below5 (balloc HB1.out _) hgrow5 (by simp; omega) (by omega)); have HO5 := Lib.hid hown5; have hz5 : w1.heap.size + 1 ≤ w5.heap.size := (by have := hgrow5.size; simp at this; exact this); clear hown5 hgrow5)
  have hO5 : w5.ownsRow w1.heap.size 24 9 (.slice (some ⟨g5, 0, none⟩) l.len cap5) l.len xs := by
    have h := HO5.out
    rw [Nat.zero_add, List.nil_append] at h
    exact h
  have HO6 := Lib.hid hO5
  have hg5 := (hO5.lt g5 rfl)
  have hrd5 : RdS w5 0 w5.heap.size l (.slice (some ⟨g5, 0, none⟩) l.len cap5) := (RdXS.of_owns (S := fun b => b < w5.heap.size) hO5 rfl hg5.2 (RdXL.keep2 (fun b hb => by have := HSb.out b hb; omega) (fun b o hb => below_cells HB5.out (Nat.le_refl _) b o (HSb.out b hb)) HX.out)).rd0 fun b hb => hb
  have HF5 := Lib.hid hrd5
  clear hO5 hrd5 HO5
  by_cases hw : 2000 < wholeT (kF 7) l
  · have HT2 := Lib.hid (show tupC l = 3 by rw [HT.out]; unfold fitC; rw [if_pos hw])
    have hcall := rfits_big (kF 7) l _ w5 0 w5.heap.size hm HFm.out hw HF5.out (Nat.le_refl _)
    have HCall := Lib.hid hcall
    clear hcall hw
    refine HCall.out.mono ?_
    rintro e w6 ⟨rfl, hb6⟩
    have HR := Lib.hid (keepB hb6 HR5.out)
    have HB := Lib.hid (bstep HB5.out hb6)
    clear hb6
    obtain ⟨d0, d1, d2, d3, d4, d5, d6, d7, d8, fr⟩ := nine_cells HR.out
    go_wp2_with fail
    refine bodyPost_ret (results_pair rfl _ _ (w.heap.size) _ _ _ _ _ _ _ _ _ rfl (nine_blk HR.out _ _ _ _ _ _ _ _ _)) rfl ?_
    unfold OldX
    rw [HT2.out]
    refine ⟨none, 0, rfl, RdXS.nil _ _, ?_⟩
    repeat (with_reducible refine bset ?_ (by omega) _)
    exact HB.out
  · have HT2 := Lib.hid (show tupC l = 0 by rw [HT.out]; unfold fitC; rw [if_neg hw])
    have hcall := rfits_ok (kF 7) l (some ⟨g5, 0, none⟩) cap5 w5 0 w5.heap.size hm HFm.out hw HF5.out (Nat.le_refl _)
    have HCall := Lib.hid hcall
    clear hcall hw
    refine HCall.out.mono ?_
    rintro e w6 ⟨rfl, hb6⟩
    have HR := Lib.hid (keepB hb6 HR5.out)
    have HB := Lib.hid (bstep HB5.out hb6)
    have HO := Lib.hid (own_below HO6.out hb6 (Nat.le_refl _))
    have hz6 := hb6.size
    clear hb6
    obtain ⟨d0, d1, d2, d3, d4, d5, d6, d7, d8, fr⟩ := nine_cells HR.out
    go_wp2_with fail
    refine bodyPost_ret (results_pair rfl _ _ (w.heap.size) _ _ _ _ _ _ _ _ _ rfl (nine_blk HR.out _ _ _ _ _ _ _ _ _)) rfl ?_
    unfold OldX
    rw [HT2.out]
    refine ⟨_, _, rfl, ?_, ?_⟩
    · refine RdXS.of_owns (C := w1.heap.size) (xs := xs) ?_ rfl (.inr ⟨by omega, by simp; omega⟩) ?_
      · refine own_keep HO.out fun k hk _ => ?_
        repeat (rw [Below.heap_setCell _ _ _ _ (by simp only []; omega)])
      · refine RdXL.keep2 (fun b hb => .inl hb) (fun b o hb => below_cells (C := w.heap.size) ?_ (Nat.le_refl _) b o (HSb.out b hb)) HX.out
        repeat (with_reducible refine bset ?_ (by omega) _)
        exact HB.out
    · repeat (with_reducible refine bset ?_ (by omega) _)
      exact HB.out
end Go.Proofs.YtgfodedmcjkmaaaDoor
