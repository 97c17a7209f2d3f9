/-
  Walks: the reference's Cons, Head, Tail and Elems.
-/
import Derived.Test.YtgbaelkoblnlhaaRMake2
namespace Go.Proofs.Ytgbaelkoblnlhaa
open Go.RowKit
theorem RdXS.one {w : World} {S : Nat → Prop} {g : Nat} {f : Fd} {it : TL} {ai : Option Addr} {ci cap : Nat} (h : RdXS w S it (.slice ai it.len ci)) (hg : w.heap[g]? = some (.cells #[.int .i64 f.k, .int .i64 f.i, .int .i64 f.g, .string f.nm, .string f.fn, .int .i64 f.ar, .slice ai it.len ci, .string f.bs, .int .i64 f.n] 24 (0, 0))) (hS : S g) (hc : 1 ≤ cap) (hx : cap ≤ maxLen) : RdXS w S (.cons f it .nil) (.slice (some ⟨g, 0, none⟩) 1 cap) :=
  ⟨some ⟨g, 0, none⟩, cap, rfl, hc, hx, fun _ => ⟨g, 0, rfl, RdXL.rdx (.cons f it .nil) _ g 0 (RdXL.single h) hS fun j u hu => by
    rw [cells_of hg, Nat.zero_add]
    exact (show (f.cells (.slice ai it.len ci)).toArray[j]? = some u by rw [List.getElem?_toArray]; exact hu)⟩⟩
set_option maxRecDepth 10000 in
set_option maxHeartbeats 4000000 in
theorem rCons_any (S : Nat → Prop) (f : Fd) (it : TL) (iv : Value) (f' : Fd) (it' : TL) (iv' : Value) (w : World) (hS : ∀ b, S b → b < w.heap.size) (hm : it.cnt + it'.cnt + 2 ≤ 1000000) (hsm : smallT 1000000 f it) (hsm' : smallT 1000000 f' it') (hs : RdXS w S it iv) (hs' : RdXS w S it' iv') :
    Calls Try.prog 47 #[.agg #[.int .i64 f.k, .int .i64 f.i, .int .i64 f.g, .string f.nm, .string f.fn, .int .i64 f.ar, iv, .string f.bs, .int .i64 f.n], .agg #[.int .i64 f'.k, .int .i64 f'.i, .int .i64 f'.g, .string f'.nm, .string f'.fn, .int .i64 f'.ar, iv', .string f'.bs, .int .i64 f'.n]] w (OldX S (.int .i64 (lstC (.cons f it .nil) f' it')) (resF (lstC (.cons f it .nil) f' it') (lstF (.cons f it .nil) f')) (resL (lstC (.cons f it .nil) f' it') (lstL (.cons f it .nil) f' it')) w) := by
  obtain ⟨ao, cap, rfl, hcap, hmax, -⟩ := id hs
  obtain ⟨ao', cap', rfl, hcap', hmax', -⟩ := id hs'
  have HSb := Lib.hid hS
  have HC := Lib.hid fun (W : World) (hb : Below w.heap.size w W) (hg : W.heap[w.heap.size + 3]? = some (.cells #[.int .i64 f.k, .int .i64 f.i, .int .i64 f.g, .string f.nm, .string f.fn, .int .i64 f.ar, .slice ao it.len cap, .string f.bs, .int .i64 f.n] 24 (0, 0))) =>
    rList_any (fun b => S b ∨ b = w.heap.size + 3) (.cons f it .nil) (.slice (some ⟨w.heap.size + 3, 0, none⟩) 1 1) f' it' (.slice ao' it'.len cap') W (fun b hx => by have := lt_of_block hg; rcases hx with hx | hx; (have := hS b hx; omega); omega) (by simp only [TL.cnt]; omega) ⟨hsm.1, hsm.2.1, hsm.2.2.1, hsm.2.2.2, trivial⟩ hsm' (RdXS.one ((hs.below hb hS).mono fun b h => .inl h) hg (.inr rfl) (by decide) (by decide)) ((hs'.below hb hS).mono fun b h => .inl h)
  generalize lstC (.cons f it .nil) f' it' = c at HC ⊢
  generalize lstF (.cons f it .nil) f' = F at HC ⊢
  generalize lstL (.cons f it .nil) f' it' = L at HC ⊢
  generalize resF c F = F at HC ⊢
  generalize resL c L = L at HC ⊢
  clear hs hs' hmax hmax' hsm hsm' hS
  go_enter Try.func47, Try.ntmps47
  go_wp2_with fail
  refine (HC.out _ (balloc (balloc (balloc (below_alloc _ _) _) _) _) (new4_3 _ _ _ _ _)).mono ?_
  rintro e w1 ⟨ai, ci, rfl, hn1, hb1⟩
  have HR := Lib.hid (keepB hb1 (new4_2 w _ _ _ _))
  have HB := Lib.hid (bstep (balloc (balloc (balloc (below_alloc _ _) _) _) _) hb1)
  have HN := Lib.hid hn1
  have hz1 : w.heap.size + 4 ≤ w1.heap.size := by have := hb1.size; simp at this; omega
  clear hb1 hn1
  obtain ⟨d0, d1, d2, d3, d4, d5, d6, d7, d8, fr⟩ := nine_cells HR.out
  go_wp2_with fail
  refine bodyPost_ret (results_pair rfl _ _ (w.heap.size + 2) _ _ _ _ _ _ _ _ _ rfl (nine_blk HR.out _ _ _ _ _ _ _ _ _)) rfl ?_
  refine ⟨_, _, rfl, ?_, ?_⟩
  · refine RdXS.keep2 HN.out (fun b hb => ?_) (fun b o hb => World.cell?_of_block ?_)
    · simp only [World.size_alloc] at hb
      simp only [size_setCell]
      rcases hb with (hb | hb) | hb
      · exact .inl hb
      · exact .inr ⟨by omega, by omega⟩
      · exact .inr ⟨by omega, by omega⟩
    · have hne : b ≠ w.heap.size + 2 := by
        simp only [World.size_alloc] at hb
        rcases hb with (hb | hb) | hb
        · have := HSb.out b hb; omega
        · omega
        · omega
      repeat (rw [Below.heap_setCell _ _ _ _ hne])
  · repeat (with_reducible refine bset ?_ (by omega) _)
    exact HB.out
set_option maxRecDepth 10000 in
set_option maxHeartbeats 8000000 in
theorem rHead_any (S : Nat → Prop) (f : Fd) (it : TL) (iv : Value) (w : World) (hS : ∀ b, S b → b < w.heap.size) (ht : tame f it) (hs : RdXS w S it iv) :
    Calls Try.prog 51 #[.agg #[.int .i64 f.k, .int .i64 f.i, .int .i64 f.g, .string f.nm, .string f.fn, .int .i64 f.ar, iv, .string f.bs, .int .i64 f.n]] w (OldX S (.bool (isL f it)) (headF f it) (headL f it) w) := by
  have HS := Lib.hid hs
  have HSb := Lib.hid hS
  obtain ⟨ao, cap, rfl, hcap, hmax, hr⟩ := hs
  unfold maxLen at hmax
  have HR0 := Lib.hid hr
  have HC := Lib.hid fun (W : World) (hb : Below w.heap.size w W) => rValid_any f it _ W 0 w.heap.size ht ((HS.out.below hb hS).rd0 hS) hb.size
  have HTm := Lib.hid ht
  clear ht hr hS
  by_cases hv : validF f it = true
  case neg =>
    have hvf : validF f it = false := by simpa using hv
    have HI := Lib.hid (isL_no (f := f) (it := it) (.inr hvf))
    have HF := Lib.hid (show headF f it = Fd.zero by unfold headF; rw [HI.out]; rfl)
    have HL := Lib.hid (show headL f it = .nil by unfold headL; rw [HI.out]; rfl)
    rw [HI.out]
    rw [hvf] at HC
    clear hv hvf
    go_enter Try.func51, Try.ntmps51
    go_wp2_with fail
    refine (HC.out _ (balloc (below_alloc _ _) _)).mono ?_
    rintro e w1 ⟨rfl, hb1⟩
    have HA := Lib.hid (keepB hb1 (new2_0 w _ _))
    have HR := Lib.hid (keepB hb1 (new2_1 w _ _))
    have HB := Lib.hid (bstep (balloc (below_alloc _ _) _) hb1)
    have hz1 : w.heap.size + 2 ≤ w1.heap.size := by have := hb1.size; simp at this; omega
    clear hb1
    obtain ⟨b0, b1, b2, b3, b4, b5, b6, b7, b8, -⟩ := nine_cells HA.out
    have b6' := keep_al b6 (.cells #[] 24 (0, 0))
    obtain ⟨d0, d1, d2, d3, d4, d5, d6, d7, d8, fr⟩ := nine_cells HR.out
    go_wp2_with fail
    refine bodyPost_ret (results_pair rfl _ _ (w.heap.size + 1) _ _ _ _ _ _ _ _ _ rfl (nine_blk HR.out _ _ _ _ _ _ _ _ _)) rfl ?_
    unfold OldX
    rw [HF.out, HL.out]
    refine ⟨none, 0, rfl, RdXS.nil _ _, ?_⟩
    repeat (with_reducible refine bset ?_ (by omega) _)
    exact HB.out
  by_cases h9 : f.k = 9
  case neg =>
    have x9 : (f.k != 9) = true := by simpa using h9
    have HI := Lib.hid (isL_no (it := it) (.inl h9))
    have HF := Lib.hid (show headF f it = Fd.zero by unfold headF; rw [HI.out]; rfl)
    have HL := Lib.hid (show headL f it = .nil by unfold headL; rw [HI.out]; rfl)
    rw [HI.out]
    rw [hv] at HC
    clear h9 hv
    go_enter Try.func51, Try.ntmps51
    go_wp2_with fail
    refine (HC.out _ (balloc (below_alloc _ _) _)).mono ?_
    rintro e w1 ⟨rfl, hb1⟩
    have HA := Lib.hid (keepB hb1 (new2_0 w _ _))
    have HR := Lib.hid (keepB hb1 (new2_1 w _ _))
    have HB := Lib.hid (bstep (balloc (below_alloc _ _) _) hb1)
    have hz1 : w.heap.size + 2 ≤ w1.heap.size := by have := hb1.size; simp at this; omega
    clear hb1
    obtain ⟨b0, b1, b2, b3, b4, b5, b6, b7, b8, -⟩ := nine_cells HA.out
    have b6' := keep_al b6 (.cells #[] 24 (0, 0))
    obtain ⟨d0, d1, d2, d3, d4, d5, d6, d7, d8, fr⟩ := nine_cells HR.out
    go_wp2_with fail
    refine bodyPost_ret (results_pair rfl _ _ (w.heap.size + 1) _ _ _ _ _ _ _ _ _ rfl (nine_blk HR.out _ _ _ _ _ _ _ _ _)) rfl ?_
    unfold OldX
    rw [HF.out, HL.out]
    refine ⟨none, 0, rfl, RdXS.nil _ _, ?_⟩
    repeat (with_reducible refine bset ?_ (by omega) _)
    exact HB.out
  have x9 : (f.k != 9) = false := by rw [h9]; rfl
  have HI := Lib.hid (isL_yes h9 hv)
  rw [HI.out]
  rw [hv] at HC
  clear h9 hv
  obtain ⟨hl2, -, -⟩ := valid_list HI.out
  obtain ⟨f2, it2, e1⟩ := TL.drop_at it 0 (by omega)
  obtain ⟨b, o, rfl, hrd⟩ := HR0.out (by intro e; rw [e] at hl2; simp [TL.len] at hl2)
  have HF := Lib.hid (show headF f it = f2 by unfold headF; rw [HI.out]; rw [if_pos rfl]; rw [← TL.drop_zero it, e1]; rfl)
  have HL := Lib.hid (show headL f it = it2 by unfold headL; rw [HI.out]; rw [if_pos rfl]; rw [← TL.drop_zero it, e1]; rfl)
  obtain ⟨hSb, ai, ci, hcl, hit⟩ := RdX.at_ it b o 0 f2 it2 _ hrd e1
  have HIt := Lib.hid hit
  have q0 : (0 : Int) < (it.len : Int) := by omega
  have q1 : (1 : Int) < (it.len : Int) := by omega
  go_enter Try.func51, Try.ntmps51
  go_wp2_with fail
  refine (HC.out _ (balloc (below_alloc _ _) _)).mono ?_
  rintro e w1 ⟨rfl, hb1⟩
  have HA := Lib.hid (keepB hb1 (new2_0 w _ _))
  have HR := Lib.hid (keepB hb1 (new2_1 w _ _))
  have HB := Lib.hid (bstep (balloc (below_alloc _ _) _) hb1)
  have hz1 : w.heap.size + 2 ≤ w1.heap.size := by have := hb1.size; simp at this; omega
  clear hb1
  obtain ⟨b0, b1, b2, b3, b4, b5, b6, b7, b8, -⟩ := nine_cells HA.out
  have b6' := keep_al b6 (.cells #[] 24 (0, 0))
  obtain ⟨d0, d1, d2, d3, d4, d5, d6, d7, d8, fr⟩ := nine_cells HR.out
  have hcw : ∀ j v, (f2.cells (.slice ai it2.len ci))[j]? = some v → w1.cell? ⟨b, o + 0 * 9 + j, none⟩ = some v := fun j v hj => below_keep HB.out (hcl j v hj)
  have c0 := hcw 0 _ rfl
  have c1 := hcw 1 _ rfl
  have c2 := hcw 2 _ rfl
  have c3 := hcw 3 _ rfl
  have c4 := hcw 4 _ rfl
  have c5 := hcw 5 _ rfl
  have c6 := hcw 6 _ rfl
  have c7 := hcw 7 _ rfl
  have c8 := hcw 8 _ rfl
  simp only [Nat.zero_mul, Nat.add_zero] at c0 c1 c2 c3 c4 c5 c6 c7 c8
  clear hrd hit e1 hcl hcw
  go_wp2_with fail
  refine bodyPost_ret (results_pair rfl _ _ (w.heap.size + 1) _ _ _ _ _ _ _ _ _ rfl (nine_blk HR.out _ _ _ _ _ _ _ _ _)) rfl ?_
  unfold OldX
  rw [HF.out, HL.out]
  refine ⟨_, _, rfl, (RdXS.below (C := w.heap.size) HIt.out ?_ HSb.out).mono fun b hb => .inl hb, ?_⟩
  · repeat (with_reducible refine bset ?_ (by omega) _)
    exact HB.out
  · repeat (with_reducible refine bset ?_ (by omega) _)
    exact HB.out
theorem RdXS.drop1 {w : World} {S : Nat → Prop} {l : TL} {b o cap : Nat} (h : RdXS w S l (.slice (some ⟨b, o, none⟩) l.len cap)) (h1 : 2 ≤ l.len) : RdXS w S (l.drop 1) (.slice (some ⟨b, o + 9, none⟩) (l.len - 1) (cap - 1)) := by
  obtain ⟨ao, c, e, h2, h3, h4⟩ := h
  injection e with e1 e2 e3
  subst e1 e3
  cases l with
  | nil => simp [TL.len] at h1
  | cons f it r =>
    obtain ⟨b', o', e, hr⟩ := h4 (by simp)
    injection e with e
    injection e with e1 e2 _
    subst e1 e2
    have e0 : (TL.cons f it r).drop 1 = r := by show r.drop 0 = r; exact TL.drop_zero r
    rw [e0]
    exact ⟨_, _, rfl, by simp only [TL.len] at h2; omega, by omega, fun _ => ⟨b, o + 9, rfl, hr.2.2⟩⟩
theorem RdXS.take {w : World} {S : Nat → Prop} {l : TL} {ao : Option Addr} {cap n : Nat} (h : RdXS w S l (.slice ao l.len cap)) (hn : n ≤ l.len) : RdXS w S (l.take n) (.slice ao n cap) := by
  obtain ⟨a1, c, e, h2, h3, h4⟩ := h
  injection e with e1 e2 e3
  subst e1 e3
  refine ⟨_, _, by rw [take_len _ _ hn], by rw [take_len _ _ hn]; omega, h3, fun hne => ?_⟩
  have hl : l ≠ .nil := by
    intro e; subst e
    apply hne
    cases n with
    | zero => rfl
    | succ n => simp [TL.len] at hn
  obtain ⟨b, o, e, hr⟩ := h4 hl
  refine ⟨b, o, e, ?_⟩
  clear h2 h4 hne hl e hn e2
  induction l generalizing n o with
  | nil => cases n <;> exact trivial
  | cons f it r _ ih =>
    cases n with
    | zero => exact trivial
    | succ n => exact ⟨hr.1, hr.2.1, ih (n := n) (o := o + 9) hr.2.2⟩
set_option maxRecDepth 10000 in
set_option maxHeartbeats 8000000 in
theorem rTail_any (S : Nat → Prop) (f : Fd) (it : TL) (iv : Value) (w : World) (hS : ∀ b, S b → b < w.heap.size) (ht : tame f it) (hs : RdXS w S it iv) :
    Calls Try.prog 52 #[.agg #[.int .i64 f.k, .int .i64 f.i, .int .i64 f.g, .string f.nm, .string f.fn, .int .i64 f.ar, iv, .string f.bs, .int .i64 f.n]] w (OldX S (.bool (isL f it)) (tlF f it) (tlL f it) w) := by
  have HS := Lib.hid hs
  have HSb := Lib.hid hS
  obtain ⟨ao, cap, rfl, hcap, hmax, hr⟩ := hs
  unfold maxLen at hmax
  have HR0 := Lib.hid hr
  have HC := Lib.hid fun (W : World) (hb : Below w.heap.size w W) => rValid_any f it _ W 0 w.heap.size ht ((HS.out.below hb hS).rd0 hS) hb.size
  have HTm := Lib.hid ht
  clear ht hr hS
  by_cases hv : validF f it = true
  case neg =>
    have hvf : validF f it = false := by simpa using hv
    have HI := Lib.hid (isL_no (f := f) (it := it) (.inr hvf))
    have HF := Lib.hid (show tlF f it = Fd.zero by unfold tlF; rw [HI.out]; rfl)
    have HL := Lib.hid (show tlL f it = .nil by unfold tlL; rw [HI.out]; rfl)
    rw [HI.out]
    rw [hvf] at HC
    clear hv hvf
    go_enter Try.func52, Try.ntmps52
    go_wp2_with fail
    refine (HC.out _ (balloc (below_alloc _ _) _)).mono ?_
    rintro e w1 ⟨rfl, hb1⟩
    have HA := Lib.hid (keepB hb1 (new2_0 w _ _))
    have HR := Lib.hid (keepB hb1 (new2_1 w _ _))
    have HB := Lib.hid (bstep (balloc (below_alloc _ _) _) hb1)
    have hz1 : w.heap.size + 2 ≤ w1.heap.size := by have := hb1.size; simp at this; omega
    clear hb1
    obtain ⟨b0, b1, b2, b3, b4, b5, b6, b7, b8, -⟩ := nine_cells HA.out
    have b6' := keep_al b6 (.cells #[] 24 (0, 0))
    obtain ⟨d0, d1, d2, d3, d4, d5, d6, d7, d8, fr⟩ := nine_cells HR.out
    go_wp2_with fail
    refine bodyPost_ret (results_pair rfl _ _ (w.heap.size + 1) _ _ _ _ _ _ _ _ _ rfl (nine_blk HR.out _ _ _ _ _ _ _ _ _)) rfl ?_
    unfold OldX
    rw [HF.out, HL.out]
    refine ⟨none, 0, rfl, RdXS.nil _ _, ?_⟩
    repeat (with_reducible refine bset ?_ (by omega) _)
    exact HB.out
  by_cases h9 : f.k = 9
  case neg =>
    have x9 : (f.k != 9) = true := by simpa using h9
    have HI := Lib.hid (isL_no (it := it) (.inl h9))
    have HF := Lib.hid (show tlF f it = Fd.zero by unfold tlF; rw [HI.out]; rfl)
    have HL := Lib.hid (show tlL f it = .nil by unfold tlL; rw [HI.out]; rfl)
    rw [HI.out]
    rw [hv] at HC
    clear h9 hv
    go_enter Try.func52, Try.ntmps52
    go_wp2_with fail
    refine (HC.out _ (balloc (below_alloc _ _) _)).mono ?_
    rintro e w1 ⟨rfl, hb1⟩
    have HA := Lib.hid (keepB hb1 (new2_0 w _ _))
    have HR := Lib.hid (keepB hb1 (new2_1 w _ _))
    have HB := Lib.hid (bstep (balloc (below_alloc _ _) _) hb1)
    have hz1 : w.heap.size + 2 ≤ w1.heap.size := by have := hb1.size; simp at this; omega
    clear hb1
    obtain ⟨b0, b1, b2, b3, b4, b5, b6, b7, b8, -⟩ := nine_cells HA.out
    have b6' := keep_al b6 (.cells #[] 24 (0, 0))
    obtain ⟨d0, d1, d2, d3, d4, d5, d6, d7, d8, fr⟩ := nine_cells HR.out
    go_wp2_with fail
    refine bodyPost_ret (results_pair rfl _ _ (w.heap.size + 1) _ _ _ _ _ _ _ _ _ rfl (nine_blk HR.out _ _ _ _ _ _ _ _ _)) rfl ?_
    unfold OldX
    rw [HF.out, HL.out]
    refine ⟨none, 0, rfl, RdXS.nil _ _, ?_⟩
    repeat (with_reducible refine bset ?_ (by omega) _)
    exact HB.out
  have x9 : (f.k != 9) = false := by rw [h9]; rfl
  have HI := Lib.hid (isL_yes h9 hv)
  rw [HI.out]
  rw [hv] at HC
  clear h9 hv
  obtain ⟨hl2, -, -⟩ := valid_list HI.out
  by_cases h2 : it.len = 2
  case pos =>
    have h2' : ((it.len : Int) == 2) = true := by rw [h2]; rfl
    obtain ⟨f2, it2, e1⟩ := TL.drop_at it 1 (by omega)
    obtain ⟨b, o, rfl, hrd⟩ := HR0.out (by intro e; rw [e] at hl2; simp [TL.len] at hl2)
    have HF := Lib.hid (show tlF f it = f2 by unfold tlF; rw [HI.out]; rw [if_pos rfl, if_pos h2]; rw [e1]; rfl)
    have HL := Lib.hid (show tlL f it = it2 by unfold tlL; rw [HI.out]; rw [if_pos rfl, if_pos h2]; rw [e1]; rfl)
    obtain ⟨hSb, ai, ci, hcl, hit⟩ := RdX.at_ it b o 1 f2 it2 _ hrd e1
    have HIt := Lib.hid hit
    have q0 : (0 : Int) < (it.len : Int) := by omega
    have q1 : (1 : Int) < (it.len : Int) := by omega
    clear h2
    go_enter Try.func52, Try.ntmps52
    go_wp2_with fail
    refine (HC.out _ (balloc (below_alloc _ _) _)).mono ?_
    rintro e w1 ⟨rfl, hb1⟩
    have HA := Lib.hid (keepB hb1 (new2_0 w _ _))
    have HR := Lib.hid (keepB hb1 (new2_1 w _ _))
    have HB := Lib.hid (bstep (balloc (below_alloc _ _) _) hb1)
    have hz1 : w.heap.size + 2 ≤ w1.heap.size := by have := hb1.size; simp at this; omega
    clear hb1
    obtain ⟨b0, b1, b2, b3, b4, b5, b6, b7, b8, -⟩ := nine_cells HA.out
    have b6' := keep_al b6 (.cells #[] 24 (0, 0))
    obtain ⟨d0, d1, d2, d3, d4, d5, d6, d7, d8, fr⟩ := nine_cells HR.out
    have hcw : ∀ j v, (f2.cells (.slice ai it2.len ci))[j]? = some v → w1.cell? ⟨b, o + 1 * 9 + j, none⟩ = some v := fun j v hj => below_keep HB.out (hcl j v hj)
    have c0 := hcw 0 _ rfl
    have c1 := hcw 1 _ rfl
    have c2 := hcw 2 _ rfl
    have c3 := hcw 3 _ rfl
    have c4 := hcw 4 _ rfl
    have c5 := hcw 5 _ rfl
    have c6 := hcw 6 _ rfl
    have c7 := hcw 7 _ rfl
    have c8 := hcw 8 _ rfl
    simp only [Nat.one_mul, Nat.add_zero] at c0 c1 c2 c3 c4 c5 c6 c7 c8
    clear hrd hit e1 hcl hcw
    go_wp2_with fail
    refine bodyPost_ret (results_pair rfl _ _ (w.heap.size + 1) _ _ _ _ _ _ _ _ _ rfl (nine_blk HR.out _ _ _ _ _ _ _ _ _)) rfl ?_
    unfold OldX
    rw [HF.out, HL.out]
    refine ⟨_, _, rfl, (RdXS.below (C := w.heap.size) HIt.out ?_ HSb.out).mono fun b hb => .inl hb, ?_⟩
    · repeat (with_reducible refine bset ?_ (by omega) _)
      exact HB.out
    · repeat (with_reducible refine bset ?_ (by omega) _)
      exact HB.out
  case neg =>
    have h2' : ((it.len : Int) == 2) = false := by simp; omega
    have HF := Lib.hid (show tlF f it = kF 9 by unfold tlF; rw [HI.out, if_pos rfl, if_neg h2])
    have HL := Lib.hid (show tlL f it = it.drop 1 by unfold tlL; rw [HI.out, if_pos rfl, if_neg h2])
    have q1 : (1 : Int) ≤ (it.len : Int) := by omega
    have q2 : (it.len : Int) ≤ (cap : Int) := by omega
    have hnc : ¬ cap = 1 := by omega
    obtain ⟨b, o, rfl, -⟩ := HR0.out (by intro e; rw [e] at hl2; simp [TL.len] at hl2)
    obtain ⟨hdl, xs, hx, hn0, hnews⟩ := (RdXS.drop1 HS.out (by omega)).list
    have hlc : it.len ≤ 1000000 := by have := TL.len_le_cnt it; have := HTm.out.1; omega
    have HX := Lib.hid hx
    have HDL := Lib.hid hdl
    have HXl := Lib.hid (show xs.length = (it.len - 1) * 9 by rw [hdl]; exact hx.len)
    have HN0 := Lib.hid hn0
    have HNews := Lib.hid hnews
    clear h2 hx hn0 hnews hdl
    go_enter Try.func52, Try.ntmps52
    go_wp2_with fail
    refine (HC.out _ (balloc (below_alloc _ _) _)).mono ?_
    rintro e w1 ⟨rfl, hb1⟩
    have HA := Lib.hid (keepB hb1 (new2_0 w _ _))
    have HR := Lib.hid (keepB hb1 (new2_1 w _ _))
    have HB := Lib.hid (bstep (balloc (below_alloc _ _) _) hb1)
    have hz1 : w.heap.size + 2 ≤ w1.heap.size := by have := hb1.size; simp at this; omega
    clear hb1
    obtain ⟨b0, b1, b2, b3, b4, b5, b6, b7, b8, -⟩ := nine_cells HA.out
    have b6' := keep_al b6 (.cells #[] 24 (0, 0))
    obtain ⟨d0, d1, d2, d3, d4, d5, d6, d7, d8, fr⟩ := nine_cells HR.out
    go_wp2_with (at_builtin; refine wpList_append_row rfl (.tmp 21) (.tmp 24) rfl w1.heap.size w1.heap.size 0 0 [] rfl (own_empty w1 _ (Nat.le_refl _)) (some ⟨b, o + 9, none⟩) (it.len - 1) (cap - 1) xs rfl HN0.out HXl.out (fun ad had j u hu => keep_al (below_keep HB.out (HNews.out ad had j u hu)) _) HX.out.one (by omega) (by simp) ?_; intro g5 cap5 w5 hown5 hgrow5; rw [Nat.zero_add, List.nil_append] at hown5; have HR5 := Lib.hid (gr_keep hgrow5 (heap_after HR.out _) (by omega)); have HB5 := Lib.hid (grown_below5 (balloc HB.out _) hgrow5 (by simp; omega) (by omega)); have HO5 := Lib.hid hown5; have hg5 := hown5.lt g5 rfl; clear hown5 hgrow5 d0 d1 d2 d3 d4 d5 d6 d7 d8 fr; obtain ⟨d0, d1, d2, d3, d4, d5, d6, d7, d8, fr⟩ := nine_cells HR5.out)
    refine bodyPost_ret (results_pair rfl _ _ (w.heap.size + 1) _ _ _ _ _ _ _ _ _ rfl (nine_blk HR5.out _ _ _ _ _ _ _ _ _)) rfl ?_
    unfold OldX
    rw [HF.out, HL.out]
    refine ⟨some ⟨g5, 0, none⟩, cap5, ?_, ?_, ?_⟩
    · rw [← HDL.out]; rfl
    · rw [← HDL.out]
      refine RdXS.of_owns (C := w1.heap.size) (xs := xs) ?_ HDL.out (.inr ⟨by omega, by simp; omega⟩) ?_
      · refine own_keep HO5.out fun k hk _ => ?_
        repeat (rw [Below.heap_setCell _ _ _ _ (by simp only []; omega)])
      · refine RdXL.keep2 (fun b hb => .inl hb) (fun b o hb => below_cells (C := w.heap.size) ?_ (Nat.le_refl _) b o (HSb.out b hb)) HX.out
        repeat (with_reducible refine bset ?_ (by omega) _)
        exact HB5.out
    · repeat (with_reducible refine bset ?_ (by omega) _)
      exact HB5.out
def ElemsX (S : Nat → Prop) (f : Fd) (it : TL) (w : World) (e : Ending) (w' : World) : Prop := ∃ ai ci, e = .returned (.tuple #[.slice ai (elL f it).len ci, .bool (elB f it)]) ∧ RdXS w' (fun b => S b ∨ (w.heap.size ≤ b ∧ b < w'.heap.size)) (elL f it) (.slice ai (elL f it).len ci) ∧ Below w.heap.size w w'
set_option maxRecDepth 10000 in
set_option maxHeartbeats 8000000 in
theorem rElems_any (S : Nat → Prop) (f : Fd) (it : TL) (iv : Value) (w : World) (hS : ∀ b, S b → b < w.heap.size) (ht : tame f it) (hs : RdXS w S it iv) :
    Calls Try.prog 54 #[.agg #[.int .i64 f.k, .int .i64 f.i, .int .i64 f.g, .string f.nm, .string f.fn, .int .i64 f.ar, iv, .string f.bs, .int .i64 f.n]] w (ElemsX S f it w) := by
  have HS := Lib.hid hs
  have HSb := Lib.hid hS
  obtain ⟨ao, cap, rfl, hcap, hmax, hr⟩ := hs
  unfold maxLen at hmax
  have HR0 := Lib.hid hr
  have HC := Lib.hid fun (W : World) (hb : Below w.heap.size w W) => rValid_any f it _ W 0 w.heap.size ht ((HS.out.below hb hS).rd0 hS) hb.size
  have HTm := Lib.hid ht
  clear ht hr hS
  unfold ElemsX
  by_cases hv : validF f it = true
  case neg =>
    have hvf : validF f it = false := by simpa using hv
    have HE := Lib.hid (show elB f it = false by unfold elB; rw [hvf]; rfl)
    have HL := Lib.hid (show elL f it = .nil by unfold elL; rw [HE.out]; rfl)
    rw [hvf] at HC
    clear hv hvf
    go_enter Try.func54, Try.ntmps54
    go_wp2_with fail
    refine (HC.out _ (below_alloc _ _)).mono ?_
    rintro e w1 ⟨rfl, hb1⟩
    have HA := Lib.hid (keepB hb1 (heap_alloc_new w _))
    have HB := Lib.hid (bstep (below_alloc _ _) hb1)
    have hz1 : w.heap.size + 1 ≤ w1.heap.size := by have := hb1.size; simp at this; omega
    clear hb1
    obtain ⟨b0, b1, b2, b3, b4, b5, b6, b7, b8, -⟩ := nine_cells HA.out
    have b6' := keep_al b6 (.cells #[] 24 (0, 0))
    go_wp2_with fail
    go_ret2
    rw [HL.out, HE.out]
    exact ⟨none, 0, rfl, RdXS.nil _ _, HB.out⟩
  by_cases h8 : f.k = 8
  case pos =>
    have x8 : (f.k == 8) = true := by rw [h8]; rfl
    have y8 : (f.k != 8) = false := by rw [h8]; rfl
    have HE := Lib.hid (show elB f it = true by unfold elB; rw [hv, decide_eq_true h8]; rfl)
    have HL := Lib.hid (show elL f it = .nil by unfold elL; rw [HE.out, h8]; rfl)
    rw [hv] at HC
    clear hv h8
    go_enter Try.func54, Try.ntmps54
    go_wp2_with fail
    refine (HC.out _ (below_alloc _ _)).mono ?_
    rintro e w1 ⟨rfl, hb1⟩
    have HA := Lib.hid (keepB hb1 (heap_alloc_new w _))
    have HB := Lib.hid (bstep (below_alloc _ _) hb1)
    have hz1 : w.heap.size + 1 ≤ w1.heap.size := by have := hb1.size; simp at this; omega
    clear hb1
    obtain ⟨b0, b1, b2, b3, b4, b5, b6, b7, b8, -⟩ := nine_cells HA.out
    have b6' := keep_al b6 (.cells #[] 24 (0, 0))
    go_wp2_with fail
    go_ret2
    rw [HL.out, HE.out]
    exact ⟨none, 0, rfl, RdXS.nil _ _, HB.out⟩
  have x8 : (f.k == 8) = false := by simpa using h8
  have y8 : (f.k != 8) = true := by simpa using h8
  by_cases h9 : f.k = 9
  case neg =>
    have x9 : (f.k != 9) = true := by simpa using h9
    have HE := Lib.hid (show elB f it = false by unfold elB; rw [decide_eq_false h8, decide_eq_false h9, Bool.false_and, Bool.or_false, Bool.and_false])
    have HL := Lib.hid (show elL f it = .nil by unfold elL; rw [HE.out]; rfl)
    rw [hv] at HC
    clear hv h9 h8
    go_enter Try.func54, Try.ntmps54
    go_wp2_with fail
    refine (HC.out _ (below_alloc _ _)).mono ?_
    rintro e w1 ⟨rfl, hb1⟩
    have HA := Lib.hid (keepB hb1 (heap_alloc_new w _))
    have HB := Lib.hid (bstep (below_alloc _ _) hb1)
    have hz1 : w.heap.size + 1 ≤ w1.heap.size := by have := hb1.size; simp at this; omega
    clear hb1
    obtain ⟨b0, b1, b2, b3, b4, b5, b6, b7, b8, -⟩ := nine_cells HA.out
    have b6' := keep_al b6 (.cells #[] 24 (0, 0))
    go_wp2_with fail
    go_ret2
    rw [HL.out, HE.out]
    exact ⟨none, 0, rfl, RdXS.nil _ _, HB.out⟩
  have x9 : (f.k != 9) = false := by rw [h9]; rfl
  obtain ⟨hl2, -, -⟩ := valid_list (isL_yes h9 hv)
  obtain ⟨lf, li, e1⟩ := TL.drop_at it (it.len - 1) (by omega)
  rw [TL.drop_len it (it.len - 1 + 1) (by omega)] at e1
  have hlk := TL.lastK_at it _ lf li e1
  obtain ⟨b, o, rfl, hrd⟩ := HR0.out (by intro e; rw [e] at hl2; simp [TL.len] at hl2)
  have hi0 : (0 : Int) ≤ (it.len : Int) - 1 := by omega
  have hi1 : (it.len : Int) - 1 < (it.len : Int) := by omega
  have hi2 : (it.len : Int) - 1 ≤ (cap : Int) := by omega
  obtain ⟨-, ai, ci, hcl, -⟩ := RdX.at_ it b o (it.len - 1) lf li _ hrd e1
  have HCl := Lib.hid (hcl 0 _ rfl)
  clear hrd e1 hcl
  by_cases hk8 : lf.k = 8
  case neg =>
    have z8 : (lf.k != 8) = true := by simpa using hk8
    have HE := Lib.hid (show elB f it = false by unfold elB; rw [decide_eq_false h8, hlk, decide_eq_false hk8, Bool.and_false, Bool.or_false, Bool.and_false])
    have HL := Lib.hid (show elL f it = .nil by unfold elL; rw [HE.out]; rfl)
    rw [hv] at HC
    clear hv h9 h8 hk8 hlk
    go_enter Try.func54, Try.ntmps54
    go_wp2_with fail
    refine (HC.out _ (below_alloc _ _)).mono ?_
    rintro e w1 ⟨rfl, hb1⟩
    have HA := Lib.hid (keepB hb1 (heap_alloc_new w _))
    have HB := Lib.hid (bstep (below_alloc _ _) hb1)
    have hz1 : w.heap.size + 1 ≤ w1.heap.size := by have := hb1.size; simp at this; omega
    clear hb1
    obtain ⟨b0, b1, b2, b3, b4, b5, b6, b7, b8, -⟩ := nine_cells HA.out
    have b6' := keep_al b6 (.cells #[] 24 (0, 0))
    have c0 : w1.cell? ⟨b, o + (it.len - 1) * 9, none⟩ = some (.int .i64 lf.k) := below_keep HB.out HCl.out
    go_wp2_with fail
    go_ret2
    rw [HL.out, HE.out]
    exact ⟨none, 0, rfl, RdXS.nil _ _, HB.out⟩
  have z8 : (lf.k != 8) = false := by rw [hk8]; rfl
  have HE := Lib.hid (show elB f it = true by unfold elB; rw [hv, h9, hlk, hk8]; rfl)
  have HL := Lib.hid (show elL f it = it.take (it.len - 1) by unfold elL; rw [HE.out, h9]; rfl)
  rw [hv] at HC
  obtain ⟨hdl, xs, hx, hn0, hnews⟩ := (RdXS.take HS.out (n := it.len - 1) (by omega)).list
  have hlc : it.len ≤ 1000000 := by have := TL.len_le_cnt it; have := HTm.out.1; omega
  have HX := Lib.hid hx
  have HDL := Lib.hid hdl
  have HXl := Lib.hid (show xs.length = (it.len - 1) * 9 by rw [hdl]; exact hx.len)
  have HN0 := Lib.hid hn0
  have HNews := Lib.hid hnews
  clear hv h9 h8 hk8 hlk hx hn0 hnews hdl
  go_enter Try.func54, Try.ntmps54
  go_wp2_with fail
  refine (HC.out _ (below_alloc _ _)).mono ?_
  rintro e w1 ⟨rfl, hb1⟩
  have HA := Lib.hid (keepB hb1 (heap_alloc_new w _))
  have HB := Lib.hid (bstep (below_alloc _ _) hb1)
  have hz1 : w.heap.size + 1 ≤ w1.heap.size := by have := hb1.size; simp at this; omega
  clear hb1
  obtain ⟨b0, b1, b2, b3, b4, b5, b6, b7, b8, -⟩ := nine_cells HA.out
  have b6' := keep_al b6 (.cells #[] 24 (0, 0))
  have c0 : w1.cell? ⟨b, o + (it.len - 1) * 9, none⟩ = some (.int .i64 lf.k) := below_keep HB.out HCl.out
  go_wp2_with (at_builtin; refine wpList_append_row rfl (.tmp 32) (.tmp 36) rfl w1.heap.size w1.heap.size 0 0 [] rfl (own_empty w1 _ (Nat.le_refl _)) (some ⟨b, o, none⟩) (it.len - 1) cap xs rfl HN0.out HXl.out (fun ad had j u hu => keep_al (below_keep HB.out (HNews.out ad had j u hu)) _) HX.out.one (by omega) (by simp) ?_; intro g5 cap5 w5 hown5 hgrow5; rw [Nat.zero_add, List.nil_append] at hown5; have HB5 := Lib.hid (grown_below5 (balloc HB.out _) hgrow5 (by simp; omega) (by omega)); have HO5 := Lib.hid hown5; have hg5 := hown5.lt g5 rfl; clear hown5 hgrow5)
  go_ret2
  rw [HL.out, HE.out]
  refine ⟨some ⟨g5, 0, none⟩, cap5, ?_, ?_, HB5.out⟩
  · rw [← HDL.out]; rfl
  · rw [← HDL.out]
    refine RdXS.of_owns HO5.out HDL.out (.inr ⟨by omega, by omega⟩) ?_
    exact RdXL.keep2 (fun b hb => .inl hb) (fun b o hb => below_cells HB5.out (Nat.le_refl _) b o (HSb.out b hb)) HX.out
end Go.Proofs.Ytgbaelkoblnlhaa
