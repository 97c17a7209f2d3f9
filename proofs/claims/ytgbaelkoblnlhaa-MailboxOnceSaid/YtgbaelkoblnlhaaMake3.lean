/-
  Walks: Cons, Head, Tail and Elems of package terms.
-/
import Derived.Test.YtgbaelkoblnlhaaMake2
namespace Go.Proofs.Ytgbaelkoblnlhaa
open Go.RowKit
theorem new4_2 (w : World) (o p q r : Obj) : ((((w.alloc o).alloc p).alloc q).alloc r).heap[w.heap.size + 2]? = some q := heap_after (new3_2 w o p q) r
theorem new4_3 (w : World) (o p q r : Obj) : ((((w.alloc o).alloc p).alloc q).alloc r).heap[w.heap.size + 3]? = some r := by
  have h := heap_alloc_new (((w.alloc o).alloc p).alloc q) r
  rwa [World.size_alloc, World.size_alloc, World.size_alloc] at h
set_option maxRecDepth 10000 in
set_option maxHeartbeats 4000000 in
theorem pCons_any (f : Fd) (it : TL) (iv : Value) (f' : Fd) (it' : TL) (iv' : Value) (w : World) (A B A' B' : Nat) (ht : tame f it) (hc : it.cnt < 1000000) (ht' : tame f' it') (hs : RdS w A B it iv) (hs' : RdS w A' B' it' iv') (hB : B ≤ w.heap.size) (hB' : B' ≤ w.heap.size) :
    Calls Try.prog 36 #[.agg #[.int .i64 f.k, .int .i64 f.i, .int .i64 f.g, .string f.nm, .string f.fn, .int .i64 f.ar, iv, .string f.bs, .int .i64 f.n], .agg #[.int .i64 f'.k, .int .i64 f'.i, .int .i64 f'.g, .string f'.nm, .string f'.fn, .int .i64 f'.ar, iv', .string f'.bs, .int .i64 f'.n]] w (NewP (.int .i64 (lstC (.cons f it .nil) f' it')) (resF (lstC (.cons f it .nil) f' it') (lstF (.cons f it .nil) f')) (resL (lstC (.cons f it .nil) f' it') (lstL (.cons f it .nil) f' it')) w) := by
  obtain ⟨ao, cap, rfl, hcap, hmax, -⟩ := id hs
  obtain ⟨ao', cap', rfl, hcap', hmax', -⟩ := id hs'
  have HC := Lib.hid fun (W : World) (hb : Below w.heap.size w W) (hg : W.heap[w.heap.size + 3]? = some (.cells #[.int .i64 f.k, .int .i64 f.i, .int .i64 f.g, .string f.nm, .string f.fn, .int .i64 f.ar, .slice ao it.len cap, .string f.bs, .int .i64 f.n] 24 (0, 0))) =>
    pList_any (.cons f it .nil) (.slice (some ⟨w.heap.size + 3, 0, none⟩) 1 1) f' it' (.slice ao' it'.len cap') W 0 (w.heap.size + 3 + 1) A' B' (by simp only [TL.cnt]; omega) (tame_one ht).2 ht' (RdS.one ((hs.below hb hB).less (Nat.zero_le _)) hg (Nat.zero_le _) (by omega) (by decide) (by decide)) (hs'.below hb hB') (lt_of_block hg) (Nat.le_trans hB' hb.size)
  generalize lstC (.cons f it .nil) f' it' = c at HC ⊢
  generalize lstF (.cons f it .nil) f' = F at HC ⊢
  generalize lstL (.cons f it .nil) f' it' = L at HC ⊢
  generalize resF c F = F at HC ⊢
  generalize resL c L = L at HC ⊢
  clear hs hs' ht ht' hmax hmax'
  go_enter Try.func36, Try.ntmps36
  go_wp2_with fail
  refine (HC.out _ (balloc (balloc (balloc (below_alloc _ _) _) _) _) (new4_3 _ _ _ _ _)).mono ?_
  rintro e w1 ⟨ai, ci, rfl, hn1, hb1⟩
  have HR := Lib.hid (keepB hb1 (new4_2 w _ _ _ _))
  have HB := Lib.hid (bstep (balloc (balloc (balloc (below_alloc _ _) _) _) _) hb1)
  have HN := Lib.hid hn1
  have hz1 : w.heap.size + 4 ≤ w1.heap.size := by have := hb1.size; simp at this; omega
  clear hb1 hn1
  obtain ⟨d0, d1, d2, d3, d4, d5, d6, d7, d8, fr⟩ := nine_cells HR.out
  go_wp2_with fail
  refine bodyPost_ret (results_pair rfl _ _ (w.heap.size + 2) _ _ _ _ _ _ _ _ _ rfl (nine_blk HR.out _ _ _ _ _ _ _ _ _)) rfl ?_
  refine ⟨_, _, rfl, ?_, ?_⟩
  · refine (HN.out.keep fun k hk _ => ?_).wide (by simp; omega) (by simp)
    simp at hk
    repeat (rw [Below.heap_setCell _ _ _ _ (by simp only []; omega)])
  · repeat (with_reducible refine bset ?_ (by omega) _)
    exact HB.out
/-- results: a term and a bool -/
theorem isL_no {f : Fd} {it : TL} (h : f.k ≠ 9 ∨ validF f it = false) : isL f it = false := by
  unfold isL
  rcases h with h | h
  · rw [decide_eq_false h, Bool.and_false]
  · rw [h, Bool.false_and]
theorem isL_yes {f : Fd} {it : TL} (h : f.k = 9) (h2 : validF f it = true) : isL f it = true := by
  unfold isL; rw [h2, decide_eq_true h]; rfl
theorem valid_list {f : Fd} {it : TL} (h : isL f it = true) : 2 ≤ it.len ∧ it.lastK ≠ 9 ∧ formL it = true := by
  unfold isL validF at h
  simp only [Bool.and_eq_true, decide_eq_true_eq] at h
  have := form_node h.1.1
  have h2 := ok_list (node_ok this.1) h.2
  exact ⟨h2.1, h2.2, this.2⟩
theorem RdS.drop1 {w : World} {A B : Nat} {l : TL} {b o cap : Nat} (h : RdS w A B l (.slice (some ⟨b, o, none⟩) l.len cap)) (h1 : 2 ≤ l.len) : RdS w A B (l.drop 1) (.slice (some ⟨b, o + 9, none⟩) (l.len - 1) (cap - 1)) := by
  obtain ⟨ao, c, e, h2, h3, h4⟩ := h
  injection e with e1 e2 e3
  subst e1 e3
  cases l with
  | nil => simp [TL.len] at h1
  | cons f it r =>
    obtain ⟨b', o', e, hr⟩ := h4 (by simp)
    injection e with e
    injection e with e1 e2 _
    subst e1 e2
    have e0 : (TL.cons f it r).drop 1 = r := by show r.drop 0 = r; exact TL.drop_zero r
    rw [e0]
    exact ⟨_, _, rfl, by simp only [TL.len] at h2; omega, by omega, fun _ => ⟨b, o + 9, rfl, hr.2.2.2⟩⟩
set_option maxRecDepth 10000 in
set_option maxHeartbeats 8000000 in
theorem pHead_any (f : Fd) (it : TL) (iv : Value) (w : World) (A B : Nat) (ht : tame f it) (hs : RdS w A B it iv) (hB : B ≤ w.heap.size) :
    Calls Try.prog 49 #[.agg #[.int .i64 f.k, .int .i64 f.i, .int .i64 f.g, .string f.nm, .string f.fn, .int .i64 f.ar, iv, .string f.bs, .int .i64 f.n]] w (NewP (.bool (isL f it)) (headF f it) (headL f it) w) := by
  have HS := Lib.hid hs
  obtain ⟨ao, cap, rfl, hcap, hmax, hr⟩ := hs
  unfold maxLen at hmax
  have HR0 := Lib.hid hr
  have HC := Lib.hid fun (W : World) (hb : Below w.heap.size w W) => pValid_any f it _ W A B ht (HS.out.below hb hB) (Nat.le_trans hB hb.size)
  have HTm := Lib.hid ht
  clear ht hr
  by_cases h9 : f.k = 9
  case neg =>
    have x9 : (f.k != 9) = true := by simpa using h9
    have HI := Lib.hid (isL_no (it := it) (.inl h9))
    have HF := Lib.hid (show headF f it = Fd.zero by unfold headF; rw [HI.out]; rfl)
    have HL := Lib.hid (show headL f it = .nil by unfold headL; rw [HI.out]; rfl)
    rw [HI.out]
    clear h9
    go_enter Try.func49, Try.ntmps49
    go_wp2_with fail
    refine bodyPost_ret (results_pair rfl _ _ (w.heap.size + 1) _ _ _ _ _ _ _ _ _ rfl (new2_1 w _ _)) rfl ?_
    unfold NewP
    rw [HF.out, HL.out]
    exact ⟨none, 0, rfl, NwS.nil _ _ _, balloc (below_alloc _ _) _⟩
  have x9 : (f.k != 9) = false := by rw [h9]; rfl
  by_cases hv : validF f it = true
  case neg =>
    have hvf : validF f it = false := by simpa using hv
    have HI := Lib.hid (isL_no (f := f) (it := it) (.inr hvf))
    have HF := Lib.hid (show headF f it = Fd.zero by unfold headF; rw [HI.out]; rfl)
    have HL := Lib.hid (show headL f it = .nil by unfold headL; rw [HI.out]; rfl)
    rw [HI.out]
    rw [hvf] at HC
    clear h9 hv hvf
    go_enter Try.func49, Try.ntmps49
    go_wp2_with fail
    refine (HC.out _ (balloc (below_alloc _ _) _)).mono ?_
    rintro e w1 ⟨rfl, hb1⟩
    have HR := Lib.hid (keepB hb1 (new2_1 w _ _))
    have HB := Lib.hid (bstep (balloc (below_alloc _ _) _) hb1)
    clear hb1
    obtain ⟨d0, d1, d2, d3, d4, d5, d6, d7, d8, fr⟩ := nine_cells HR.out
    go_wp2_with fail
    refine bodyPost_ret (results_pair rfl _ _ (w.heap.size + 1) _ _ _ _ _ _ _ _ _ rfl (nine_blk HR.out _ _ _ _ _ _ _ _ _)) rfl ?_
    unfold NewP
    rw [HF.out, HL.out]
    refine ⟨none, 0, rfl, NwS.nil _ _ _, ?_⟩
    repeat (with_reducible refine bset ?_ (by omega) _)
    exact HB.out
  have HI := Lib.hid (isL_yes h9 hv)
  rw [HI.out]
  rw [hv] at HC
  clear h9 hv
  obtain ⟨hl2, -, -⟩ := valid_list HI.out
  obtain ⟨f2, it2, e1⟩ := TL.drop_at it 0 (by omega)
  obtain ⟨b, o, rfl, hrd⟩ := HR0.out (by intro e; rw [e] at hl2; simp [TL.len] at hl2)
  have HF := Lib.hid (show headF f it = f2 by unfold headF; rw [HI.out]; rw [if_pos rfl]; rw [← TL.drop_zero it, e1]; rfl)
  have HL := Lib.hid (show headL f it = it2 by unfold headL; rw [HI.out]; rw [if_pos rfl]; rw [← TL.drop_zero it, e1]; rfl)
  have hcnt : it2.cnt ≤ 1000000 := by
    have h1 := TL.cnt_drop it 0
    rw [e1] at h1
    simp only [TL.cnt] at h1
    have := HTm.out.1
    omega
  go_enter Try.func49, Try.ntmps49
  go_wp2_with fail
  refine (HC.out _ (balloc (below_alloc _ _) _)).mono ?_
  rintro e w1 ⟨rfl, hb1⟩
  have HA1 := Lib.hid (keepB hb1 (new2_0 w _ _))
  have HR1 := Lib.hid (keepB hb1 (new2_1 w _ _))
  have HB1 := Lib.hid (bstep (balloc (below_alloc _ _) _) hb1)
  have hz1 : w.heap.size + 2 ≤ w1.heap.size := by have := hb1.size; simp at this; omega
  clear hb1
  obtain ⟨b0, b1, b2, b3, b4, b5, b6, b7, b8, -⟩ := nine_cells HA1.out
  obtain ⟨hb, ai, ci, ⟨c0, c1, c2, c3, c4, c5, c6, c7, c8⟩, hit⟩ := Rd.nine hrd e1 (below_cells HB1.out hB)
  simp only [Nat.zero_mul, Nat.add_zero] at c0 c1 c2 c3 c4 c5 c6 c7 c8
  have HCall := Lib.hid ((copy_all it2.cnt).1 f2 it2 (.agg #[.int .i64 f2.k, .int .i64 f2.i, .int .i64 f2.g, .string f2.nm, .string f2.fn, .int .i64 f2.ar, .slice ai it2.len ci, .string f2.bs, .int .i64 f2.n]) w1 A B (Nat.le_refl _) (by omega) ⟨_, rfl, hit⟩ (by omega))
  have q0 : (0 : Int) < (it.len : Int) := by omega
  have q1 : (1 : Int) < (it.len : Int) := by omega
  clear hrd hit e1
  go_wp2_with fail
  refine HCall.out.mono ?_
  rintro e w2 ⟨ai2, ci2, rfl, hn2, hb2⟩
  have HR := Lib.hid (keepB hb2 HR1.out)
  have HB := Lib.hid (bstep HB1.out hb2)
  have HN := Lib.hid hn2
  clear hb2 hn2 c0 c1 c2 c3 c4 c5 c6 c7 c8 b0 b1 b2 b3 b4 b5 b6 b7 b8 HA1 HR1 HB1
  obtain ⟨d0, d1, d2, d3, d4, d5, d6, d7, d8, fr⟩ := nine_cells HR.out
  go_wp2_with fail
  refine bodyPost_ret (results_pair rfl _ _ (w.heap.size + 1) _ _ _ _ _ _ _ _ _ rfl (nine_blk HR.out _ _ _ _ _ _ _ _ _)) rfl ?_
  unfold NewP
  rw [HF.out, HL.out]
  refine ⟨_, _, rfl, ?_, ?_⟩
  · refine (HN.out.keep fun k hk _ => ?_).wide (by omega) (by simp)
    repeat (rw [Below.heap_setCell _ _ _ _ (by simp only []; omega)])
  · repeat (with_reducible refine bset ?_ (by omega) _)
    exact HB.out
set_option maxRecDepth 10000 in
set_option maxHeartbeats 8000000 in
theorem pTail_any (f : Fd) (it : TL) (iv : Value) (w : World) (A B : Nat) (ht : tame f it) (hs : RdS w A B it iv) (hB : B ≤ w.heap.size) :
    Calls Try.prog 50 #[.agg #[.int .i64 f.k, .int .i64 f.i, .int .i64 f.g, .string f.nm, .string f.fn, .int .i64 f.ar, iv, .string f.bs, .int .i64 f.n]] w (NewP (.bool (isL f it)) (tlF f it) (tlL f it) w) := by
  have HS := Lib.hid hs
  obtain ⟨ao, cap, rfl, hcap, hmax, hr⟩ := hs
  unfold maxLen at hmax
  have HR0 := Lib.hid hr
  have HC := Lib.hid fun (W : World) (hb : Below w.heap.size w W) => pValid_any f it _ W A B ht (HS.out.below hb hB) (Nat.le_trans hB hb.size)
  have HTm := Lib.hid ht
  clear ht hr
  by_cases h9 : f.k = 9
  case neg =>
    have x9 : (f.k != 9) = true := by simpa using h9
    have HI := Lib.hid (isL_no (it := it) (.inl h9))
    have HF := Lib.hid (show tlF f it = Fd.zero by unfold tlF; rw [HI.out]; rfl)
    have HL := Lib.hid (show tlL f it = .nil by unfold tlL; rw [HI.out]; rfl)
    rw [HI.out]
    clear h9
    go_enter Try.func50, Try.ntmps50
    go_wp2_with fail
    refine bodyPost_ret (results_pair rfl _ _ (w.heap.size + 1) _ _ _ _ _ _ _ _ _ rfl (new2_1 w _ _)) rfl ?_
    unfold NewP
    rw [HF.out, HL.out]
    exact ⟨none, 0, rfl, NwS.nil _ _ _, balloc (below_alloc _ _) _⟩
  have x9 : (f.k != 9) = false := by rw [h9]; rfl
  by_cases hv : validF f it = true
  case neg =>
    have hvf : validF f it = false := by simpa using hv
    have HI := Lib.hid (isL_no (f := f) (it := it) (.inr hvf))
    have HF := Lib.hid (show tlF f it = Fd.zero by unfold tlF; rw [HI.out]; rfl)
    have HL := Lib.hid (show tlL f it = .nil by unfold tlL; rw [HI.out]; rfl)
    rw [HI.out]
    rw [hvf] at HC
    clear h9 hv hvf
    go_enter Try.func50, Try.ntmps50
    go_wp2_with fail
    refine (HC.out _ (balloc (below_alloc _ _) _)).mono ?_
    rintro e w1 ⟨rfl, hb1⟩
    have HR := Lib.hid (keepB hb1 (new2_1 w _ _))
    have HB := Lib.hid (bstep (balloc (below_alloc _ _) _) hb1)
    clear hb1
    obtain ⟨d0, d1, d2, d3, d4, d5, d6, d7, d8, fr⟩ := nine_cells HR.out
    go_wp2_with fail
    refine bodyPost_ret (results_pair rfl _ _ (w.heap.size + 1) _ _ _ _ _ _ _ _ _ rfl (nine_blk HR.out _ _ _ _ _ _ _ _ _)) rfl ?_
    unfold NewP
    rw [HF.out, HL.out]
    refine ⟨none, 0, rfl, NwS.nil _ _ _, ?_⟩
    repeat (with_reducible refine bset ?_ (by omega) _)
    exact HB.out
  have HI := Lib.hid (isL_yes h9 hv)
  rw [HI.out]
  rw [hv] at HC
  clear h9 hv
  obtain ⟨hl2, -, -⟩ := valid_list HI.out
  by_cases h2 : it.len = 2
  case pos =>
    have h2' : ((it.len : Int) == 2) = true := by rw [h2]; rfl
    obtain ⟨f2, it2, e1⟩ := TL.drop_at it 1 (by omega)
    obtain ⟨b, o, rfl, hrd⟩ := HR0.out (by intro e; rw [e] at hl2; simp [TL.len] at hl2)
    have HF := Lib.hid (show tlF f it = f2 by unfold tlF; rw [HI.out]; rw [if_pos rfl, if_pos h2]; rw [e1]; rfl)
    have HL := Lib.hid (show tlL f it = it2 by unfold tlL; rw [HI.out]; rw [if_pos rfl, if_pos h2]; rw [e1]; rfl)
    clear h2
    have hcnt : it2.cnt ≤ 1000000 := by
      have h1 := TL.cnt_drop it 1
      rw [e1] at h1
      simp only [TL.cnt] at h1
      have := HTm.out.1
      omega
    go_enter Try.func50, Try.ntmps50
    go_wp2_with fail
    refine (HC.out _ (balloc (below_alloc _ _) _)).mono ?_
    rintro e w1 ⟨rfl, hb1⟩
    have HA1 := Lib.hid (keepB hb1 (new2_0 w _ _))
    have HR1 := Lib.hid (keepB hb1 (new2_1 w _ _))
    have HB1 := Lib.hid (bstep (balloc (below_alloc _ _) _) hb1)
    have hz1 : w.heap.size + 2 ≤ w1.heap.size := by have := hb1.size; simp at this; omega
    clear hb1
    obtain ⟨b0, b1, b2, b3, b4, b5, b6, b7, b8, -⟩ := nine_cells HA1.out
    obtain ⟨hb, ai, ci, ⟨c0, c1, c2, c3, c4, c5, c6, c7, c8⟩, hit⟩ := Rd.nine hrd e1 (below_cells HB1.out hB)
    simp only [Nat.one_mul] at c0 c1 c2 c3 c4 c5 c6 c7 c8
    have HCall := Lib.hid ((copy_all it2.cnt).1 f2 it2 (.agg #[.int .i64 f2.k, .int .i64 f2.i, .int .i64 f2.g, .string f2.nm, .string f2.fn, .int .i64 f2.ar, .slice ai it2.len ci, .string f2.bs, .int .i64 f2.n]) w1 A B (Nat.le_refl _) (by omega) ⟨_, rfl, hit⟩ (by omega))
    have q0 : (0 : Int) < (it.len : Int) := by omega
    have q1 : (1 : Int) < (it.len : Int) := by omega
    clear hrd hit e1
    go_wp2_with fail
    refine HCall.out.mono ?_
    rintro e w2 ⟨ai2, ci2, rfl, hn2, hb2⟩
    have HR := Lib.hid (keepB hb2 HR1.out)
    have HB := Lib.hid (bstep HB1.out hb2)
    have HN := Lib.hid hn2
    clear hb2 hn2 c0 c1 c2 c3 c4 c5 c6 c7 c8 b0 b1 b2 b3 b4 b5 b6 b7 b8 HA1 HR1 HB1
    obtain ⟨d0, d1, d2, d3, d4, d5, d6, d7, d8, fr⟩ := nine_cells HR.out
    go_wp2_with fail
    refine bodyPost_ret (results_pair rfl _ _ (w.heap.size + 1) _ _ _ _ _ _ _ _ _ rfl (nine_blk HR.out _ _ _ _ _ _ _ _ _)) rfl ?_
    unfold NewP
    rw [HF.out, HL.out]
    refine ⟨_, _, rfl, ?_, ?_⟩
    · refine (HN.out.keep fun k hk _ => ?_).wide (by omega) (by simp)
      repeat (rw [Below.heap_setCell _ _ _ _ (by simp only []; omega)])
    · repeat (with_reducible refine bset ?_ (by omega) _)
      exact HB.out
  case neg =>
    have h2' : ((it.len : Int) == 2) = false := by simp; omega
    have HF := Lib.hid (show tlF f it = kF 9 by unfold tlF; rw [HI.out, if_pos rfl, if_neg h2])
    have HL := Lib.hid (show tlL f it = it.drop 1 by unfold tlL; rw [HI.out, if_pos rfl, if_neg h2])
    have q1 : (1 : Int) ≤ (it.len : Int) := by omega
    have q2 : (it.len : Int) ≤ (cap : Int) := by omega
    have hnc : ¬ cap = 1 := by omega
    have hdl := drop_len2 it 1
    have HDL := Lib.hid hdl
    have hcd := TL.cnt_drop it 1
    have hcd2 : (it.drop 1).cnt ≤ 1000000 := by have := HTm.out.1; omega
    clear h2 hdl hcd
    obtain ⟨b, o, rfl, -⟩ := HR0.out (by intro e; rw [e] at hl2; simp [TL.len] at hl2)
    have HRD := Lib.hid (RdS.drop1 HS.out (by omega))
    go_enter Try.func50, Try.ntmps50
    go_wp2_with fail
    refine (HC.out _ (balloc (below_alloc _ _) _)).mono ?_
    rintro e w1 ⟨rfl, hb1⟩
    have HA1 := Lib.hid (keepB hb1 (new2_0 w _ _))
    have HR1 := Lib.hid (keepB hb1 (new2_1 w _ _))
    have HB1 := Lib.hid (bstep (balloc (below_alloc _ _) _) hb1)
    have hz1 : w.heap.size + 2 ≤ w1.heap.size := by have := hb1.size; simp at this; omega
    clear hb1
    obtain ⟨b0, b1, b2, b3, b4, b5, b6, b7, b8, -⟩ := nine_cells HA1.out
    have HCall := Lib.hid ((copy_all (it.drop 1).cnt).2 (it.drop 1) (.slice (some ⟨b, o + 9, none⟩) (it.len - 1) (cap - 1)) w1 A B (Nat.le_refl _) (by omega) (HRD.out.below HB1.out hB) (by omega))
    go_wp2_with fail
    refine HCall.out.mono ?_
    rintro e w2 h3
    obtain ⟨he, hn, hb2⟩ := h3.nws
    subst he
    have HR := Lib.hid (keepB hb2 HR1.out)
    have HB := Lib.hid (bstep HB1.out hb2)
    have HN := Lib.hid hn
    clear hb2 hn h3 b0 b1 b2 b3 b4 b5 b6 b7 b8 HA1 HR1 HB1
    obtain ⟨d0, d1, d2, d3, d4, d5, d6, d7, d8, fr⟩ := nine_cells HR.out
    go_wp2_with fail
    refine bodyPost_ret (results_pair rfl _ _ (w.heap.size + 1) _ _ _ _ _ _ _ _ _ rfl (nine_blk HR.out _ _ _ _ _ _ _ _ _)) rfl ?_
    unfold NewP
    rw [HF.out, HL.out]
    refine ⟨_, _, rfl, ?_, ?_⟩
    · refine (HN.out.keep fun k hk _ => ?_).wide (by omega) (by simp)
      repeat (rw [Below.heap_setCell _ _ _ _ (by simp only []; omega)])
    · repeat (with_reducible refine bset ?_ (by omega) _)
      exact HB.out
def ElemsP (f : Fd) (it : TL) (w : World) (e : Ending) (w' : World) : Prop := ∃ ai ci, e = .returned (.tuple #[.slice ai (elL f it).len ci, .bool (elB f it)]) ∧ NwS w' w.heap.size w'.heap.size (elL f it) (.slice ai (elL f it).len ci) ∧ Below w.heap.size w w'
theorem RdS.take {w : World} {A B : Nat} {l : TL} {ao : Option Addr} {cap n : Nat} (h : RdS w A B l (.slice ao l.len cap)) (hn : n ≤ l.len) : RdS w A B (l.take n) (.slice ao n cap) := by
  obtain ⟨a1, c, e, h2, h3, h4⟩ := h
  injection e with e1 e2 e3
  subst e1 e3
  refine ⟨_, _, by rw [take_len _ _ hn], by rw [take_len _ _ hn]; omega, h3, fun hne => ?_⟩
  have hl : l ≠ .nil := by
    intro e; subst e
    apply hne
    cases n with
    | zero => rfl
    | succ n => simp [TL.len] at hn
  obtain ⟨b, o, e, hr⟩ := h4 hl
  refine ⟨b, o, e, ?_⟩
  clear h2 h4 hne hl e hn e2
  induction l generalizing n o with
  | nil => cases n <;> exact trivial
  | cons f it r _ ih =>
    cases n with
    | zero => exact trivial
    | succ n => exact ⟨hr.1, hr.2.1, hr.2.2.1, ih (n := n) (o := o + 9) hr.2.2.2⟩
set_option maxRecDepth 10000 in
set_option maxHeartbeats 8000000 in
theorem pElems_any (f : Fd) (it : TL) (iv : Value) (w : World) (A B : Nat) (ht : tame f it) (hs : RdS w A B it iv) (hB : B ≤ w.heap.size) :
    Calls Try.prog 53 #[.agg #[.int .i64 f.k, .int .i64 f.i, .int .i64 f.g, .string f.nm, .string f.fn, .int .i64 f.ar, iv, .string f.bs, .int .i64 f.n]] w (ElemsP f it w) := by
  have HS := Lib.hid hs
  obtain ⟨ao, cap, rfl, hcap, hmax, hr⟩ := hs
  unfold maxLen at hmax
  have HR0 := Lib.hid hr
  have HC := Lib.hid fun (W : World) (hb : Below w.heap.size w W) => pValid_any f it _ W A B ht (HS.out.below hb hB) (Nat.le_trans hB hb.size)
  have HTm := Lib.hid ht
  clear ht hr
  unfold ElemsP
  by_cases hv : validF f it = true
  case neg =>
    have hvf : validF f it = false := by simpa using hv
    have HE := Lib.hid (show elB f it = false by unfold elB; rw [hvf]; rfl)
    have HL := Lib.hid (show elL f it = .nil by unfold elL; rw [HE.out]; rfl)
    rw [hvf] at HC
    clear hv hvf
    go_enter Try.func53, Try.ntmps53
    go_wp2_with fail
    refine (HC.out _ (below_alloc _ _)).mono ?_
    rintro e w1 ⟨rfl, hb1⟩
    have HA1 := Lib.hid (keepB hb1 (heap_alloc_new w _))
    have HB1 := Lib.hid (bstep (below_alloc _ _) hb1)
    have hz1 : w.heap.size + 1 ≤ w1.heap.size := by have := hb1.size; simp at this; omega
    clear hb1
    obtain ⟨b0, b1, b2, b3, b4, b5, b6, b7, b8, -⟩ := nine_cells HA1.out
    go_wp2_with fail
    go_ret2
    refine ⟨none, 0, ?_, ?_, HB1.out⟩
    · rw [HE.out, HL.out]; rfl
    · rw [HL.out]; exact NwS.nil _ _ _
  by_cases h8 : f.k = 8
  case pos =>
    have x8 : (f.k == 8) = true := by rw [h8]; rfl
    have HE := Lib.hid (show elB f it = true by unfold elB; rw [hv, decide_eq_true h8]; rfl)
    have HL := Lib.hid (show elL f it = .nil by unfold elL; rw [HE.out, h8]; rfl)
    rw [hv] at HC
    clear hv h8
    go_enter Try.func53, Try.ntmps53
    go_wp2_with fail
    refine (HC.out _ (below_alloc _ _)).mono ?_
    rintro e w1 ⟨rfl, hb1⟩
    have HA1 := Lib.hid (keepB hb1 (heap_alloc_new w _))
    have HB1 := Lib.hid (bstep (below_alloc _ _) hb1)
    have hz1 : w.heap.size + 1 ≤ w1.heap.size := by have := hb1.size; simp at this; omega
    clear hb1
    obtain ⟨b0, b1, b2, b3, b4, b5, b6, b7, b8, -⟩ := nine_cells HA1.out
    go_wp2_with fail
    go_ret2
    refine ⟨none, 0, ?_, ?_, HB1.out⟩
    · rw [HE.out, HL.out]; rfl
    · rw [HL.out]; exact NwS.nil _ _ _
  have x8 : (f.k == 8) = false := by simpa using h8
  by_cases h9 : f.k = 9
  case neg =>
    have x9 : (f.k != 9) = true := by simpa using h9
    have HE := Lib.hid (show elB f it = false by unfold elB; rw [decide_eq_false h8, decide_eq_false h9, Bool.false_and, Bool.or_false, Bool.and_false])
    have HL := Lib.hid (show elL f it = .nil by unfold elL; rw [HE.out]; rfl)
    rw [hv] at HC
    clear hv h9 h8
    go_enter Try.func53, Try.ntmps53
    go_wp2_with fail
    refine (HC.out _ (below_alloc _ _)).mono ?_
    rintro e w1 ⟨rfl, hb1⟩
    have HA1 := Lib.hid (keepB hb1 (heap_alloc_new w _))
    have HB1 := Lib.hid (bstep (below_alloc _ _) hb1)
    have hz1 : w.heap.size + 1 ≤ w1.heap.size := by have := hb1.size; simp at this; omega
    clear hb1
    obtain ⟨b0, b1, b2, b3, b4, b5, b6, b7, b8, -⟩ := nine_cells HA1.out
    go_wp2_with fail
    go_ret2
    refine ⟨none, 0, ?_, ?_, HB1.out⟩
    · rw [HE.out, HL.out]; rfl
    · rw [HL.out]; exact NwS.nil _ _ _
  have x9 : (f.k != 9) = false := by rw [h9]; rfl
  obtain ⟨hl2, -, -⟩ := valid_list (isL_yes h9 hv)
  obtain ⟨lf, li, e1⟩ := TL.drop_at it (it.len - 1) (by omega)
  rw [TL.drop_len it (it.len - 1 + 1) (by omega)] at e1
  have hlk := TL.lastK_at it _ lf li e1
  obtain ⟨b, o, rfl, hrd⟩ := HR0.out (by intro e; rw [e] at hl2; simp [TL.len] at hl2)
  have hi0 : (0 : Int) ≤ (it.len : Int) - 1 := by omega
  have hi1 : (it.len : Int) - 1 < (it.len : Int) := by omega
  have hi2 : (it.len : Int) - 1 ≤ (cap : Int) := by omega
  have HRd := Lib.hid hrd
  have HE1 := Lib.hid e1
  clear hrd e1
  by_cases hk8 : lf.k = 8
  case neg =>
    have y8 : (lf.k != 8) = true := by simpa using hk8
    have HE := Lib.hid (show elB f it = false by unfold elB; rw [decide_eq_false h8, hlk, decide_eq_false hk8, Bool.and_false, Bool.or_false, Bool.and_false])
    have HL := Lib.hid (show elL f it = .nil by unfold elL; rw [HE.out]; rfl)
    rw [hv] at HC
    clear hv h9 h8 hk8 hlk
    go_enter Try.func53, Try.ntmps53
    go_wp2_with fail
    refine (HC.out _ (below_alloc _ _)).mono ?_
    rintro e w1 ⟨rfl, hb1⟩
    have HA1 := Lib.hid (keepB hb1 (heap_alloc_new w _))
    have HB1 := Lib.hid (bstep (below_alloc _ _) hb1)
    have hz1 : w.heap.size + 1 ≤ w1.heap.size := by have := hb1.size; simp at this; omega
    clear hb1
    obtain ⟨b0, b1, b2, b3, b4, b5, b6, b7, b8, -⟩ := nine_cells HA1.out
    obtain ⟨-, ai2, ci2, ⟨c0, -, -, -, -, -, -, -, -⟩, -⟩ := Rd.nine HRd.out HE1.out (below_cells HB1.out hB)
    go_wp2_with fail
    go_ret2
    refine ⟨none, 0, ?_, ?_, HB1.out⟩
    · rw [HE.out, HL.out]; rfl
    · rw [HL.out]; exact NwS.nil _ _ _
  have y8 : (lf.k != 8) = false := by rw [hk8]; rfl
  have HE := Lib.hid (show elB f it = true by unfold elB; rw [hv, h9, hlk, hk8]; rfl)
  have HL := Lib.hid (show elL f it = it.take (it.len - 1) by unfold elL; rw [HE.out, h9]; rfl)
  rw [hv] at HC
  have HTk := Lib.hid (RdS.take HS.out (n := it.len - 1) (by omega))
  have HLen := Lib.hid (take_len it (it.len - 1) (by omega))
  have hcd : (it.take (it.len - 1)).cnt ≤ 1000000 := by
    have h := cnt_app (it.take (it.len - 1)) (it.drop (it.len - 1))
    rw [take_drop] at h
    have := HTm.out.1
    omega
  clear hv h9 h8 hk8 hlk
  go_enter Try.func53, Try.ntmps53
  go_wp2_with fail
  refine (HC.out _ (below_alloc _ _)).mono ?_
  rintro e w1 ⟨rfl, hb1⟩
  have HA1 := Lib.hid (keepB hb1 (heap_alloc_new w _))
  have HB1 := Lib.hid (bstep (below_alloc _ _) hb1)
  have hz1 : w.heap.size + 1 ≤ w1.heap.size := by have := hb1.size; simp at this; omega
  clear hb1
  obtain ⟨b0, b1, b2, b3, b4, b5, b6, b7, b8, -⟩ := nine_cells HA1.out
  obtain ⟨-, ai2, ci2, ⟨c0, -, -, -, -, -, -, -, -⟩, -⟩ := Rd.nine HRd.out HE1.out (below_cells HB1.out hB)
  have HCall := Lib.hid ((copy_all (it.take (it.len - 1)).cnt).2 (it.take (it.len - 1)) (.slice (some ⟨b, o, none⟩) (it.len - 1) cap) w1 A B (Nat.le_refl _) (by omega) (HTk.out.below HB1.out hB) (by omega))
  go_wp2_with fail
  refine HCall.out.mono ?_
  rintro e w2 h3
  obtain ⟨he, hn, hb2⟩ := h3.nws
  subst he
  have HB := Lib.hid (bstep HB1.out hb2)
  have HN := Lib.hid hn
  clear hb2 hn h3
  go_wp2_with fail
  go_ret2
  rw [HL.out, HE.out]
  exact ⟨_, _, rfl, HN.out.wide (by omega) (Nat.le_refl _), HB.out⟩
end Go.Proofs.Ytgbaelkoblnlhaa
