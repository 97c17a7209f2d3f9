/-
  Walks: the reference's List.
-/
import Derived.Test.YtgfodedmcjkmaaaDoorRTup
namespace Go.Proofs.YtgfodedmcjkmaaaDoor
open Go.RowKit
set_option maxRecDepth 100000 in
set_option maxHeartbeats 20000000 in
theorem rList_any (S : Nat → Prop) (l : TL) (v : Value) (f : Fd) (it : TL) (iv : Value) (w : World) (hS : ∀ b, S b → b < w.heap.size) (hm : l.cnt + it.cnt + 1 ≤ 1000000) (hsm : l.small 1000000) (hsm2 : smallT 1000000 f it) (hs : RdXS w S l v) (hs2 : RdXS w S it iv) :
    Calls Tryd.prog 13 #[v, .agg #[.int .i64 f.k, .int .i64 f.i, .int .i64 f.g, .string f.nm, .string f.fn, .int .i64 f.ar, iv, .string f.bs, .int .i64 f.n]] w (OldX S (.int .i64 (lstC l f it)) (resF (lstC l f it) (lstF l f)) (resL (lstC l f it) (lstL l f it)) w) := by
  have HS := Lib.hid hs
  have HS2 := Lib.hid hs2
  have HSb := Lib.hid hS
  obtain ⟨ao, cap, rfl, hcap, hmax, -⟩ := hs
  obtain ⟨ao', cap', rfl, hcap', hmax', -⟩ := hs2
  have HC1 := Lib.hid fun (W : World) (hb : Below w.heap.size w W) => rformed_any l _ W 0 w.heap.size hsm ((HS.out.below hb hS).rd0 hS) hb.size
  have HC2 := Lib.hid fun (W : World) (hb : Below w.heap.size w W) => formed_all it.cnt f it _ W 0 w.heap.size (Nat.le_refl _) hsm2 ((HS2.out.below hb hS).rd0 hS) hb.size
  unfold FormedR at HC2
  have hll := TL.len_le_cnt l
  have hli := TL.len_le_cnt it
  have hln : l.len ≤ 1000000 := by omega
  have hln2 : it.len ≤ 1000000 := by omega
  have HCn := Lib.hid hm
  unfold maxLen at hmax hmax'
  clear hsm hsm2 hS hm
  by_cases hf : formL l = true
  case neg =>
    have hff : formL l = false := by simpa using hf
    have HT := Lib.hid (lstC_bad (f := f) (it := it) (.inl hff))
    rw [hff] at HC1
    clear hf hff
    go_enter Tryd.func13, Tryd.ntmps13
    go_wp2_with fail
    refine (HC1.out _ (balloc (below_alloc _ _) _)).mono ?_
    rintro e w1 ⟨rfl, hb1⟩
    have HA1 := Lib.hid (keepB hb1 (new2_0 w _ _))
    have HR1 := Lib.hid (keepB hb1 (new2_1 w _ _))
    have HB1 := Lib.hid (bstep (balloc (below_alloc _ _) _) hb1)
    have hz1 : w.heap.size + 2 ≤ w1.heap.size := by have := hb1.size; simp at this; omega
    clear hb1
    obtain ⟨d0, d1, d2, d3, d4, d5, d6, d7, d8, fr⟩ := nine_cells HR1.out
    go_wp2_with fail
    refine bodyPost_ret (results_pair rfl _ _ (w.heap.size + 1) _ _ _ _ _ _ _ _ _ rfl (nine_blk HR1.out _ _ _ _ _ _ _ _ _)) rfl ?_
    unfold OldX
    rw [HT.out]
    refine ⟨none, 0, rfl, RdXS.nil _ _, ?_⟩
    repeat (with_reducible refine bset ?_ (by omega) _)
    exact HB1.out
  by_cases hg : formT f it = true
  case neg =>
    have hgf : formT f it = false := by simpa using hg
    have HT := Lib.hid (lstC_bad (l := l) (.inr hgf))
    rw [hf] at HC1
    rw [hgf] at HC2
    clear hf hg hgf
    go_enter Tryd.func13, Tryd.ntmps13
    go_wp2_with fail
    refine (HC1.out _ (balloc (below_alloc _ _) _)).mono ?_
    rintro e w1 ⟨rfl, hb1⟩
    have HA1 := Lib.hid (keepB hb1 (new2_0 w _ _))
    have HR1 := Lib.hid (keepB hb1 (new2_1 w _ _))
    have HB1 := Lib.hid (bstep (balloc (below_alloc _ _) _) hb1)
    have hz1 : w.heap.size + 2 ≤ w1.heap.size := by have := hb1.size; simp at this; omega
    clear hb1
    obtain ⟨b0, b1, b2, b3, b4, b5, b6, b7, b8, -⟩ := nine_cells HA1.out
    go_wp2_with fail
    refine (HC2.out _ HB1.out).mono ?_
    rintro e w2 ⟨rfl, hb2⟩
    have HA2 := Lib.hid (keepB hb2 HA1.out)
    have HR2 := Lib.hid (keepB hb2 HR1.out)
    have HB2 := Lib.hid (bstep HB1.out hb2)
    have hz2 : w.heap.size + 2 ≤ w2.heap.size := by have := hb2.size; omega
    clear hb2 HA1 HR1 HB1 b0 b1 b2 b3 b4 b5 b6 b7 b8
    obtain ⟨b0, b1, b2, b3, b4, b5, b6, b7, b8, -⟩ := nine_cells HA2.out
    obtain ⟨d0, d1, d2, d3, d4, d5, d6, d7, d8, fr⟩ := nine_cells HR2.out
    go_wp2_with fail
    refine bodyPost_ret (results_pair rfl _ _ (w.heap.size + 1) _ _ _ _ _ _ _ _ _ rfl (nine_blk HR2.out _ _ _ _ _ _ _ _ _)) rfl ?_
    unfold OldX
    rw [HT.out]
    refine ⟨none, 0, rfl, RdXS.nil _ _, ?_⟩
    repeat (with_reducible refine bset ?_ (by omega) _)
    exact HB2.out
  have HTC := Lib.hid (lstC_ok hf hg)
  have HFm := Lib.hid hg
  have HFl := Lib.hid hf
  rw [hf] at HC1
  rw [hg] at HC2
  clear hf hg
  by_cases h0 : l.len = 0
  case pos =>
    have h0' : ((l.len : Int) == 0) = true := by rw [h0]; rfl
    have HF1 := Lib.hid (show lstF l f = f by unfold lstF; rw [if_pos h0])
    have HF2 := Lib.hid (show lstL l f it = it by unfold lstL; rw [if_pos h0])
    have HTC2 := Lib.hid (show lstC l f it = if 2000 < wholeT f it then 3 else 0 by rw [HTC.out, h0, TL.len_zero h0]; simp [wholeL])
    have HFit := Lib.hid fun (W : World) (hb : Below w.heap.size w W) => (HS2.out.below hb HSb.out).rd0 HSb.out
    clear h0
    by_cases hw : 2000 < wholeT f it
    · have HT := Lib.hid (show lstC l f it = 3 by rw [HTC2.out, if_pos hw])
      have HCall := Lib.hid fun (W : World) (hb : Below w.heap.size w W) => rfits_big f it _ W 0 w.heap.size (by have := HCn.out; omega) HFm.out hw (HFit.out W hb) hb.size
      clear hw
      go_enter Tryd.func13, Tryd.ntmps13
      go_wp2_with fail
      refine (HC1.out _ (balloc (below_alloc _ _) _)).mono ?_
      rintro e w1 ⟨rfl, hb1⟩
      have HA1 := Lib.hid (keepB hb1 (new2_0 w _ _))
      have HR1 := Lib.hid (keepB hb1 (new2_1 w _ _))
      have HB1 := Lib.hid (bstep (balloc (below_alloc _ _) _) hb1)
      have hz1 : w.heap.size + 2 ≤ w1.heap.size := by have := hb1.size; simp at this; omega
      clear hb1
      obtain ⟨b0, b1, b2, b3, b4, b5, b6, b7, b8, -⟩ := nine_cells HA1.out
      go_wp2_with fail
      refine (HC2.out _ HB1.out).mono ?_
      rintro e w2 ⟨rfl, hb2⟩
      have HA2 := Lib.hid (keepB hb2 HA1.out)
      have HR2 := Lib.hid (keepB hb2 HR1.out)
      have HB2 := Lib.hid (bstep HB1.out hb2)
      have hz2 : w.heap.size + 2 ≤ w2.heap.size := by have := hb2.size; omega
      clear hb2 HA1 HR1 HB1 b0 b1 b2 b3 b4 b5 b6 b7 b8
      obtain ⟨b0, b1, b2, b3, b4, b5, b6, b7, b8, -⟩ := nine_cells HA2.out
      go_wp2_with fail
      refine (HCall.out _ HB2.out).mono ?_
      rintro e w3 ⟨rfl, hb3⟩
      have HR := Lib.hid (keepB hb3 HR2.out)
      have HB := Lib.hid (bstep HB2.out hb3)
      clear hb3 HA2 HR2 HB2 b0 b1 b2 b3 b4 b5 b6 b7 b8
      obtain ⟨d0, d1, d2, d3, d4, d5, d6, d7, d8, fr⟩ := nine_cells HR.out
      go_wp2_with fail
      refine bodyPost_ret (results_pair rfl _ _ (w.heap.size + 1) _ _ _ _ _ _ _ _ _ rfl (nine_blk HR.out _ _ _ _ _ _ _ _ _)) rfl ?_
      unfold OldX
      rw [HT.out]
      refine ⟨none, 0, rfl, RdXS.nil _ _, ?_⟩
      repeat (with_reducible refine bset ?_ (by omega) _)
      exact HB.out
    · have HT := Lib.hid (show lstC l f it = 0 by rw [HTC2.out, if_neg hw])
      have HCall := Lib.hid fun (W : World) (hb : Below w.heap.size w W) => rfits_ok f it _ _ W 0 w.heap.size (by have := HCn.out; omega) HFm.out hw (HFit.out W hb) hb.size
      clear hw
      go_enter Tryd.func13, Tryd.ntmps13
      go_wp2_with fail
      refine (HC1.out _ (balloc (below_alloc _ _) _)).mono ?_
      rintro e w1 ⟨rfl, hb1⟩
      have HA1 := Lib.hid (keepB hb1 (new2_0 w _ _))
      have HR1 := Lib.hid (keepB hb1 (new2_1 w _ _))
      have HB1 := Lib.hid (bstep (balloc (below_alloc _ _) _) hb1)
      have hz1 : w.heap.size + 2 ≤ w1.heap.size := by have := hb1.size; simp at this; omega
      clear hb1
      obtain ⟨b0, b1, b2, b3, b4, b5, b6, b7, b8, -⟩ := nine_cells HA1.out
      go_wp2_with fail
      refine (HC2.out _ HB1.out).mono ?_
      rintro e w2 ⟨rfl, hb2⟩
      have HA2 := Lib.hid (keepB hb2 HA1.out)
      have HR2 := Lib.hid (keepB hb2 HR1.out)
      have HB2 := Lib.hid (bstep HB1.out hb2)
      have hz2 : w.heap.size + 2 ≤ w2.heap.size := by have := hb2.size; omega
      clear hb2 HA1 HR1 HB1 b0 b1 b2 b3 b4 b5 b6 b7 b8
      obtain ⟨b0, b1, b2, b3, b4, b5, b6, b7, b8, -⟩ := nine_cells HA2.out
      go_wp2_with fail
      refine (HCall.out _ HB2.out).mono ?_
      rintro e w3 ⟨rfl, hb3⟩
      have HR := Lib.hid (keepB hb3 HR2.out)
      have HB := Lib.hid (bstep HB2.out hb3)
      clear hb3 HA2 HR2 HB2 b0 b1 b2 b3 b4 b5 b6 b7 b8
      obtain ⟨d0, d1, d2, d3, d4, d5, d6, d7, d8, fr⟩ := nine_cells HR.out
      go_wp2_with fail
      refine bodyPost_ret (results_pair rfl _ _ (w.heap.size + 1) _ _ _ _ _ _ _ _ _ rfl (nine_blk HR.out _ _ _ _ _ _ _ _ _)) rfl ?_
      unfold OldX
      rw [HT.out, HF1.out, HF2.out]
      refine ⟨_, _, rfl, (RdXS.below (C := w.heap.size) HS2.out ?_ HSb.out).mono fun b hb => .inl hb, ?_⟩
      · repeat (with_reducible refine bset ?_ (by omega) _)
        exact HB.out
      · repeat (with_reducible refine bset ?_ (by omega) _)
        exact HB.out
  have h0' : ((l.len : Int) == 0) = false := by simp; omega
  have hl1 : 1 ≤ l.len := by omega
  have HMd := Lib.hid (form_made HFl.out HFm.out hl1)
  have HF1 := Lib.hid (show lstF l f = kF 9 by unfold lstF; rw [if_neg h0])
  have HF2 := Lib.hid (show lstL l f it = l.app (tailL f it) by unfold lstL; rw [if_neg h0])
  obtain ⟨-, xs, hx, hn0, hnews⟩ := HS.out.list
  have HX := Lib.hid hx
  have HN0 := Lib.hid hn0
  have HNews := Lib.hid hnews
  have HCnt := Lib.hid (show (l.app (tailL f it)).cnt ≤ 1000000 by rw [cnt_app]; have := tailL_cnt f it; have := HCn.out; omega)
  clear h0 hx hn0 hnews
  by_cases h9 : f.k = 9
  case pos =>
    have x9 : (f.k == 9) = true := by rw [h9]; rfl
    have HF3 := Lib.hid (show tailL f it = it by unfold tailL; rw [if_pos h9])
    rw [HF3.out] at HMd HCnt
    obtain ⟨-, ys, hy, hm0, hnews2⟩ := HS2.out.list
    have HY := Lib.hid hy
    have HM0 := Lib.hid hm0
    have HNews2 := Lib.hid hnews2
    have HXL := Lib.hid (HX.out.app hy)
    clear h9 hy hm0 hnews2
    go_enter Tryd.func13, Tryd.ntmps13
    go_wp2_with fail
    refine (HC1.out _ (balloc (below_alloc _ _) _)).mono ?_
    rintro e w1 ⟨rfl, hb1⟩
    have HA1 := Lib.hid (keepB hb1 (new2_0 w _ _))
    have HR1 := Lib.hid (keepB hb1 (new2_1 w _ _))
    have HB1 := Lib.hid (bstep (balloc (below_alloc _ _) _) hb1)
    have hz1 : w.heap.size + 2 ≤ w1.heap.size := by have := hb1.size; simp at this; omega
    clear hb1
    obtain ⟨b0, b1, b2, b3, b4, b5, b6, b7, b8, -⟩ := nine_cells HA1.out
    go_wp2_with fail
    refine (HC2.out _ HB1.out).mono ?_
    rintro e w2 ⟨rfl, hb2⟩
    have HA2 := Lib.hid (keepB hb2 HA1.out)
    have HR2 := Lib.hid (keepB hb2 HR1.out)
    have HB2 := Lib.hid (bstep HB1.out hb2)
    have hz2 : w.heap.size + 2 ≤ w2.heap.size := by have := hb2.size; omega
    clear hb2 HA1 HR1 HB1 b0 b1 b2 b3 b4 b5 b6 b7 b8
    obtain ⟨b0, b1, b2, b3, b4, b5, b6, b7, b8, -⟩ := nine_cells HA2.out
    go_wp2_with (first | (at_builtin; refine wpList_append_row rfl (.tmp 23) (.tmp 24) rfl w2.heap.size w2.heap.size 0 0 [] rfl (own_empty w2 _ (Nat.le_refl _)) ao l.len cap xs rfl HN0.out HX.out.len (fun ad had j u hu => keep_al (below_keep HB2.out (HNews.out ad had j u hu)) _) HX.out.one (by omega) (by simp) ?_; intro g5 cap5 w5 hown5 hgrow5; rw [Nat.zero_add, List.nil_append] at hown5; have HR5 := Lib.hid (gr_keep hgrow5 (heap_after HR2.out _) (by omega)); have HA5 := Lib.hid (gr_keep hgrow5 (heap_after HA2.out _) (by omega)); have HB5 := Lib.hid (grown_below5 (balloc HB2.out _) hgrow5 (by simp; omega) (by omega)); have HO5 := Lib.hid hown5; have hz5 : w2.heap.size + 1 ≤ w5.heap.size := (by have := hgrow5.size; simp at this; exact this); have hg5 := (hown5.lt g5 rfl); clear hown5 hgrow5 b0 b1 b2 b3 b4 b5 b6 b7 b8; obtain ⟨b0, b1, b2, b3, b4, b5, b6, b7, b8, -⟩ := nine_cells HA5.out) | (at_builtin; refine wpList_append_row rfl (.tmp 29) (.tmp 31) rfl w2.heap.size g5 l.len cap5 xs rfl HO5.out ao' it.len cap' ys rfl HM0.out HY.out.len (fun ad had j u hu => below_keep HB5.out (HNews2.out ad had j u hu)) HY.out.one (by omega) (by omega) ?_; intro g7 cap7 w7 hown7 hgrow7; have HR7 := Lib.hid (gr_keep hgrow7 HR5.out (by omega)); have HB7 := Lib.hid (grown_below5 HB5.out hgrow7 (by omega) (by omega)); have HO7 := Lib.hid hown7; have hz7 := hgrow7.size; clear hown7 hgrow7 b0 b1 b2 b3 b4 b5 b6 b7 b8))
    have hO7 := HO7.out
    have hlen : (l.app it).len = l.len + it.len := TL.len_app _ _
    have hg7 := (hO7.lt g7 rfl)
    have hrd7 : RdS w7 0 w7.heap.size (l.app it) (.slice (some ⟨g7, 0, none⟩) (l.len + it.len) cap7) := (RdXS.of_owns (S := fun b => b < w7.heap.size) hO7 hlen.symm hg7.2 (RdXL.keep2 (fun b hb => by have := HSb.out b hb; omega) (fun b o hb => below_cells HB7.out (Nat.le_refl _) b o (HSb.out b hb)) HXL.out)).rd0 fun b hb => hb
    have HF7 := Lib.hid hrd7
    rw [← hlen] at HF7 ⊢
    clear hO7 hrd7
    by_cases hw : 2000 < wholeT (kF 9) (l.app it)
    · have HT := Lib.hid (show lstC l f it = 3 by rw [HTC.out, ← HMd.out.2, if_pos hw])
      have hcall := rfits_big (kF 9) (l.app it) _ w7 0 w7.heap.size HCnt.out HMd.out.1 hw HF7.out (Nat.le_refl _)
      have HCall := Lib.hid hcall
      clear hcall hw
      refine HCall.out.mono ?_
      rintro e w8 ⟨rfl, hb8⟩
      have HR := Lib.hid (keepB hb8 HR7.out)
      have HB := Lib.hid (bstep HB7.out hb8)
      clear hb8
      obtain ⟨d0, d1, d2, d3, d4, d5, d6, d7, d8, fr⟩ := nine_cells HR.out
      go_wp2_with fail
      refine bodyPost_ret (results_pair rfl _ _ (w.heap.size + 1) _ _ _ _ _ _ _ _ _ rfl (nine_blk HR.out _ _ _ _ _ _ _ _ _)) rfl ?_
      unfold OldX
      rw [HT.out]
      refine ⟨none, 0, rfl, RdXS.nil _ _, ?_⟩
      repeat (with_reducible refine bset ?_ (by omega) _)
      exact HB.out
    · have HT := Lib.hid (show lstC l f it = 0 by rw [HTC.out, ← HMd.out.2, if_neg hw])
      have hcall := rfits_ok (kF 9) (l.app it) (some ⟨g7, 0, none⟩) cap7 w7 0 w7.heap.size HCnt.out HMd.out.1 hw HF7.out (Nat.le_refl _)
      have HCall := Lib.hid hcall
      clear hcall hw
      refine HCall.out.mono ?_
      rintro e w8 ⟨rfl, hb8⟩
      have HR := Lib.hid (keepB hb8 HR7.out)
      have HB := Lib.hid (bstep HB7.out hb8)
      have HO := Lib.hid (own_below HO7.out hb8 (Nat.le_refl _))
      have hz8 := hb8.size
      clear hb8
      obtain ⟨d0, d1, d2, d3, d4, d5, d6, d7, d8, fr⟩ := nine_cells HR.out
      go_wp2_with fail
      refine bodyPost_ret (results_pair rfl _ _ (w.heap.size + 1) _ _ _ _ _ _ _ _ _ rfl (nine_blk HR.out _ _ _ _ _ _ _ _ _)) rfl ?_
      unfold OldX
      rw [HT.out, HF1.out, HF2.out, HF3.out]
      refine ⟨some ⟨g7, 0, none⟩, cap7, ?_, ?_, ?_⟩
      · rw [show resL 0 (l.app it) = l.app it from rfl, hlen]
        rfl
      · have hq : w7.heap.size ≤ w8.heap.size := hz8
        rw [show resL 0 (l.app it) = l.app it from rfl]
        refine RdXS.of_owns (C := w2.heap.size) (n := (l.app it).len) ?_ rfl (.inr ⟨by omega, by simp; omega⟩) ?_ (xs := xs ++ ys)
        · rw [hlen]
          refine own_keep HO.out fun k hk _ => ?_
          repeat (rw [Below.heap_setCell _ _ _ _ (by simp only []; omega)])
        · refine RdXL.keep2 (fun b hb => .inl hb) (fun b o hb => below_cells (C := w.heap.size) ?_ (Nat.le_refl _) b o (HSb.out b hb)) HXL.out
          repeat (with_reducible refine bset ?_ (by omega) _)
          exact HB.out
      · repeat (with_reducible refine bset ?_ (by omega) _)
        exact HB.out
  case neg =>
    have x9 : (f.k == 9) = false := by simpa using h9
    have HF3 := Lib.hid (show tailL f it = .cons f it .nil by unfold tailL; rw [if_neg h9])
    rw [HF3.out] at HMd HCnt
    have HXL := Lib.hid (HX.out.app (RdXL.single (f := f) HS2.out))
    clear h9
    go_enter Tryd.func13, Tryd.ntmps13
    go_wp2_with fail
    refine (HC1.out _ (balloc (below_alloc _ _) _)).mono ?_
    rintro e w1 ⟨rfl, hb1⟩
    have HA1 := Lib.hid (keepB hb1 (new2_0 w _ _))
    have HR1 := Lib.hid (keepB hb1 (new2_1 w _ _))
    have HB1 := Lib.hid (bstep (balloc (below_alloc _ _) _) hb1)
    have hz1 : w.heap.size + 2 ≤ w1.heap.size := by have := hb1.size; simp at this; omega
    clear hb1
    obtain ⟨b0, b1, b2, b3, b4, b5, b6, b7, b8, -⟩ := nine_cells HA1.out
    go_wp2_with fail
    refine (HC2.out _ HB1.out).mono ?_
    rintro e w2 ⟨rfl, hb2⟩
    have HA2 := Lib.hid (keepB hb2 HA1.out)
    have HR2 := Lib.hid (keepB hb2 HR1.out)
    have HB2 := Lib.hid (bstep HB1.out hb2)
    have hz2 : w.heap.size + 2 ≤ w2.heap.size := by have := hb2.size; omega
    clear hb2 HA1 HR1 HB1 b0 b1 b2 b3 b4 b5 b6 b7 b8
    obtain ⟨b0, b1, b2, b3, b4, b5, b6, b7, b8, -⟩ := nine_cells HA2.out
    go_wp2_with (first | (at_builtin; refine wpList_append_row rfl (.tmp 23) (.tmp 24) rfl w2.heap.size w2.heap.size 0 0 [] rfl (own_empty w2 _ (Nat.le_refl _)) ao l.len cap xs rfl HN0.out HX.out.len (fun ad had j u hu => keep_al (below_keep HB2.out (HNews.out ad had j u hu)) _) HX.out.one (by omega) (by simp) ?_; intro g5 cap5 w5 hown5 hgrow5; rw [Nat.zero_add, List.nil_append] at hown5; have HR5 := Lib.hid (gr_keep hgrow5 (heap_after HR2.out _) (by omega)); have HA5 := Lib.hid (gr_keep hgrow5 (heap_after HA2.out _) (by omega)); have HB5 := Lib.hid (grown_below5 (balloc HB2.out _) hgrow5 (by simp; omega) (by omega)); have HO5 := Lib.hid hown5; have hz5 : w2.heap.size + 1 ≤ w5.heap.size := (by have := hgrow5.size; simp at this; exact this); have hg5 := (hown5.lt g5 rfl); clear hown5 hgrow5 b0 b1 b2 b3 b4 b5 b6 b7 b8; obtain ⟨b0, b1, b2, b3, b4, b5, b6, b7, b8, -⟩ := nine_cells HA5.out) | (at_builtin; refine wpList_append_row rfl (.tmp 33) (.tmp 35) rfl w2.heap.size g5 l.len cap5 xs rfl (HO5.out.alloc _) (some ⟨w5.heap.size, 0, none⟩) 1 1 [.int .i64 f.k, .int .i64 f.i, .int .i64 f.g, .string f.nm, .string f.fn, .int .i64 f.ar, .slice ao' it.len cap', .string f.bs, .int .i64 f.n] rfl (by intro h; cases h) rfl (by intro ad had; injection had with had; subst had; exact news_one (heap_alloc_new _ _)) (cells_one f ao' it.len cap') (by omega) (by simp; omega) ?_; intro g7 cap7 w7 hown7 hgrow7; have HR7 := Lib.hid (gr_keep hgrow7 (heap_after HR5.out _) (by omega)); have HB7 := Lib.hid (grown_below5 (balloc HB5.out _) hgrow7 (by simp; omega) (by omega)); have HO7 := Lib.hid hown7; have hz7 : w5.heap.size + 1 ≤ w7.heap.size := (by have := hgrow7.size; simp at this; exact this); clear hown7 hgrow7 b0 b1 b2 b3 b4 b5 b6 b7 b8))
    obtain ⟨ys, hys⟩ : ∃ ys : List Value, ys = [.int .i64 f.k, .int .i64 f.i, .int .i64 f.g, .string f.nm, .string f.fn, .int .i64 f.ar, .slice ao' it.len cap', .string f.bs, .int .i64 f.n] := ⟨_, rfl⟩
    rw [← hys] at HO7
    rw [show f.cells (.slice ao' it.len cap') = ys from hys.symm] at HXL
    clear hys
    have hO7 := HO7.out
    have hlen : (l.app (TL.cons f it TL.nil)).len = l.len + 1 := TL.len_app _ _
    have hg7 := (hO7.lt g7 rfl)
    have hrd7 : RdS w7 0 w7.heap.size (l.app (TL.cons f it TL.nil)) (.slice (some ⟨g7, 0, none⟩) (l.len + 1) cap7) := (RdXS.of_owns (S := fun b => b < w7.heap.size) hO7 hlen.symm hg7.2 (RdXL.keep2 (fun b hb => by have := HSb.out b hb; omega) (fun b o hb => below_cells HB7.out (Nat.le_refl _) b o (HSb.out b hb)) HXL.out)).rd0 fun b hb => hb
    have HF7 := Lib.hid hrd7
    rw [← hlen] at HF7 ⊢
    clear hO7 hrd7
    by_cases hw : 2000 < wholeT (kF 9) (l.app (TL.cons f it TL.nil))
    · have HT := Lib.hid (show lstC l f it = 3 by rw [HTC.out, ← HMd.out.2, if_pos hw])
      have hcall := rfits_big (kF 9) (l.app (TL.cons f it TL.nil)) _ w7 0 w7.heap.size HCnt.out HMd.out.1 hw HF7.out (Nat.le_refl _)
      have HCall := Lib.hid hcall
      clear hcall hw
      refine HCall.out.mono ?_
      rintro e w8 ⟨rfl, hb8⟩
      have HR := Lib.hid (keepB hb8 HR7.out)
      have HB := Lib.hid (bstep HB7.out hb8)
      clear hb8
      obtain ⟨d0, d1, d2, d3, d4, d5, d6, d7, d8, fr⟩ := nine_cells HR.out
      go_wp2_with fail
      refine bodyPost_ret (results_pair rfl _ _ (w.heap.size + 1) _ _ _ _ _ _ _ _ _ rfl (nine_blk HR.out _ _ _ _ _ _ _ _ _)) rfl ?_
      unfold OldX
      rw [HT.out]
      refine ⟨none, 0, rfl, RdXS.nil _ _, ?_⟩
      repeat (with_reducible refine bset ?_ (by omega) _)
      exact HB.out
    · have HT := Lib.hid (show lstC l f it = 0 by rw [HTC.out, ← HMd.out.2, if_neg hw])
      have hcall := rfits_ok (kF 9) (l.app (TL.cons f it TL.nil)) (some ⟨g7, 0, none⟩) cap7 w7 0 w7.heap.size HCnt.out HMd.out.1 hw HF7.out (Nat.le_refl _)
      have HCall := Lib.hid hcall
      clear hcall hw
      refine HCall.out.mono ?_
      rintro e w8 ⟨rfl, hb8⟩
      have HR := Lib.hid (keepB hb8 HR7.out)
      have HB := Lib.hid (bstep HB7.out hb8)
      have HO := Lib.hid (own_below HO7.out hb8 (Nat.le_refl _))
      have hz8 := hb8.size
      clear hb8
      obtain ⟨d0, d1, d2, d3, d4, d5, d6, d7, d8, fr⟩ := nine_cells HR.out
      go_wp2_with fail
      refine bodyPost_ret (results_pair rfl _ _ (w.heap.size + 1) _ _ _ _ _ _ _ _ _ rfl (nine_blk HR.out _ _ _ _ _ _ _ _ _)) rfl ?_
      unfold OldX
      rw [HT.out, HF1.out, HF2.out, HF3.out]
      refine ⟨some ⟨g7, 0, none⟩, cap7, ?_, ?_, ?_⟩
      · rw [show resL 0 (l.app (TL.cons f it TL.nil)) = l.app (TL.cons f it TL.nil) from rfl, hlen]
        rfl
      · have hq : w7.heap.size ≤ w8.heap.size := hz8
        rw [show resL 0 (l.app (TL.cons f it TL.nil)) = l.app (TL.cons f it TL.nil) from rfl]
        refine RdXS.of_owns (C := w2.heap.size) (n := (l.app (TL.cons f it TL.nil)).len) ?_ rfl (.inr ⟨by omega, by simp; omega⟩) ?_ (xs := xs ++ ys)
        · rw [hlen]
          refine own_keep HO.out fun k hk _ => ?_
          repeat (rw [Below.heap_setCell _ _ _ _ (by simp only []; omega)])
        · refine RdXL.keep2 (fun b hb => .inl hb) (fun b o hb => below_cells (C := w.heap.size) ?_ (Nat.le_refl _) b o (HSb.out b hb)) HXL.out
          repeat (with_reducible refine bset ?_ (by omega) _)
          exact HB.out
      · repeat (with_reducible refine bset ?_ (by omega) _)
        exact HB.out
end Go.Proofs.YtgfodedmcjkmaaaDoor
