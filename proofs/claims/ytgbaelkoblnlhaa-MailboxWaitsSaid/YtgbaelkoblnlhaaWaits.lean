/-
  Walks: the law MailboxWaits: when all messages have been examined, the next one that is put is the next one to be examined; after Rewind, it is the first one again.
-/
import Derived.Test.YtgbaelkoblnlhaaOne
import Derived.Test.YtgbaelkoblnlhaaGreat
namespace Go.Proofs.Ytgbaelkoblnlhaa
open Go.RowKit
theorem TL.small_drop : ∀ (l : TL) (k : Nat), l.small 1000000 → (l.drop k).small 1000000
  | .nil, k, _ => by cases k <;> trivial
  | .cons _ _ _, 0, h => h
  | .cons _ _ r, k + 1, h => TL.small_drop r k h.2.2.2.2
theorem tame_at2 {l : TL} {k : Nat} {f : Fd} {it r : TL} (hc : l.cnt ≤ 1000000) (hs : l.small 1000000) (hd : l.drop k = .cons f it r) : tame f it := by
  have h1 := l.cnt_drop k
  rw [hd] at h1
  simp only [TL.cnt] at h1
  have h2 := TL.small_drop l k hs
  rw [hd] at h2
  exact ⟨by omega, h2.1, h2.2.1, h2.2.2.1, h2.2.2.2.1⟩
/-- the valid ones -/
noncomputable def vals : TL → TL
  | .nil => .nil
  | .cons f it r => if validF f it = true then .cons f it (vals r) else vals r
theorem vals_app : ∀ l m : TL, vals (l.app m) = (vals l).app (vals m)
  | .nil, _ => rfl
  | .cons f it r, m => by
    simp only [TL.app, vals]
    split
    · simp only [TL.app, vals_app r m]
    · exact vals_app r m
theorem vals_len : ∀ l : TL, (vals l).len ≤ l.len
  | .nil => Nat.le_refl _
  | .cons f it r => by
    have := vals_len r
    simp only [vals]
    split <;> simp only [TL.len] <;> omega
theorem vals_cnt : ∀ l : TL, (vals l).cnt ≤ l.cnt
  | .nil => Nat.le_refl _
  | .cons f it r => by
    have := vals_cnt r
    simp only [vals]
    split <;> simp only [TL.cnt] <;> omega
/-- a box of a term outside a set -/
def Kp (w : World) (S : Nat → Prop) (L : Nat) (cs : Array Value) : Prop := w.heap[L]? = some (.cells cs 24 (0, 0)) ∧ ¬ S L
theorem Kp.below {w w' : World} {S : Nat → Prop} {L : Nat} {cs : Array Value} (h : Kp w S L cs) (hb : Below w.heap.size w w') : Kp w' S L cs := ⟨keepB hb h.1, h.2⟩
theorem Kp.step {w w' : World} {S S' : Nat → Prop} {L : Nat} {cs : Array Value} (h : Kp w S L cs) (ho : OutsS S w w') (hS : ∀ b, S' b → S b ∨ (w.heap.size ≤ b ∧ b < w'.heap.size)) : Kp w' S' L cs := by
  have hl := lt_of_block h.1
  refine ⟨(ho.block L hl h.2).trans h.1, fun hs => ?_⟩
  rcases hS L hs with h1 | h1
  · exact h.2 h1
  · omega
theorem Kp.out {w w' : World} {S : Nat → Prop} {L : Nat} {cs : Array Value} (h : Kp w S L cs) (ho : OutsS S w w') : Kp w' S L cs := h.step ho fun _ h => .inl h
theorem Kp.ne {w : World} {S : Nat → Prop} {L L' : Nat} {cs : Array Value} (h : Kp w S L cs) (hne : L ≠ L') (k : Nat) (u : Value) : Kp (w.setCell ⟨L', k, none⟩ u) S L cs := ⟨blk_oth h.1 hne k u, h.2⟩
theorem outs_box (w : World) (L : Nat) (a0 a1 a2 a3 a4 a5 a6 a7 a8 : Value) : OutsS (fun b => b = L) w (((((((((w.setCell ⟨L, 0, none⟩ a0).setCell ⟨L, 1, none⟩ a1).setCell ⟨L, 2, none⟩ a2).setCell ⟨L, 3, none⟩ a3).setCell ⟨L, 4, none⟩ a4).setCell ⟨L, 5, none⟩ a5).setCell ⟨L, 6, none⟩ a6).setCell ⟨L, 7, none⟩ a7).setCell ⟨L, 8, none⟩ a8) := by
  have h : (fun b => b = L) L := rfl
  have key : ∀ {a b : World} (_ : OutsS (fun b => b = L) a b) (k : Nat) (u : Value), OutsS (fun b => b = L) a (b.setCell ⟨L, k, none⟩ u) := fun hq k u => OutsS.put hq h k u
  exact key (key (key (key (key (key (key (key (key (OutsS.refl _ _) 0 a0) 1 a1) 2 a2) 3 a3) 4 a4) 5 a5) 6 a6) 7 a7) 8 a8
theorem drop_app : ∀ (l m : TL), (l.app m).drop l.len = m
  | .nil, m => TL.drop_zero m
  | .cons _ _ r, m => drop_app r m
def firstF (d : Fd) : TL → Fd
  | .nil => d
  | .cons f _ _ => f
def firstL (d : TL) : TL → TL
  | .nil => d
  | .cons _ it _ => it
set_option maxRecDepth 100000 in
set_option maxHeartbeats 1000000 in
theorem waits_many (l : TL) (ao : Option Addr) (c : Nat) (f : Fd) (it : TL) (ai : Option Addr) (ci : Nat) (w : World) (h0 : 100 < l.len) :
    Calls Try.prog 14 #[.slice ao l.len c, .agg #[.int .i64 f.k, .int .i64 f.i, .int .i64 f.g, .string f.nm, .string f.fn, .int .i64 f.ar, .slice ai it.len ci, .string f.bs, .int .i64 f.n]] w (Yes w) := by
  have hz1 : decide ((100 : Int) < (l.len : Int)) = true := by simp; omega
  have hz2 : (100 : Int) < (l.len : Int) := by omega
  clear h0
  have HB0 := Lib.hid (below_alloc w (.cells #[.int .i64 f.k, .int .i64 f.i, .int .i64 f.g, .string f.nm, .string f.fn, .int .i64 f.ar, .slice ai it.len ci, .string f.bs, .int .i64 f.n] 24 (0, 0)))
  go_enter Try.func14, Try.ntmps14
  go_wp2_with fail
  refine (shown14 _).mono ?_
  rintro e w1 ⟨rfl, hb1⟩
  have HH := Lib.hid (keepB hb1 (heap_alloc_new w (.cells #[.int .i64 f.k, .int .i64 f.i, .int .i64 f.g, .string f.nm, .string f.fn, .int .i64 f.ar, .slice ai it.len ci, .string f.bs, .int .i64 f.n] 24 (0, 0))))
  have HB1 := Lib.hid (bstep HB0.out hb1)
  clear hb1
  go_wp2_with fail
  go_ret
  exact ⟨rfl, HB1.out⟩
set_option maxRecDepth 100000 in
set_option maxHeartbeats 1000000 in
theorem waits_great1 (l : TL) (ao : Option Addr) (c : Nat) (f : Fd) (it : TL) (ai : Option Addr) (ci : Nat) (w : World) (hs : RdS w 0 w.heap.size l (.slice ao l.len c)) (h0 : l.len ≤ 100) (hg : leftF l 6000 < 0) :
    Calls Try.prog 14 #[.slice ao l.len c, .agg #[.int .i64 f.k, .int .i64 f.i, .int .i64 f.g, .string f.nm, .string f.fn, .int .i64 f.ar, .slice ai it.len ci, .string f.bs, .int .i64 f.n]] w (Yes w) := by
  have hz1 : decide ((100 : Int) < (l.len : Int)) = false := by simp; omega
  have hz2 : ¬ (100 : Int) < (l.len : Int) := by omega
  have HS := Lib.hid hs
  have HG := Lib.hid hg
  clear hs hg h0
  have HB0 := Lib.hid (below_alloc w (.cells #[.int .i64 f.k, .int .i64 f.i, .int .i64 f.g, .string f.nm, .string f.fn, .int .i64 f.ar, .slice ai it.len ci, .string f.bs, .int .i64 f.n] 24 (0, 0)))
  go_enter Try.func14, Try.ntmps14
  go_wp2_with fail
  refine (shown14 _).mono ?_
  rintro e w1 ⟨rfl, hb1⟩
  have HH := Lib.hid (keepB hb1 (heap_alloc_new w (.cells #[.int .i64 f.k, .int .i64 f.i, .int .i64 f.g, .string f.nm, .string f.fn, .int .i64 f.ar, .slice ai it.len ci, .string f.bs, .int .i64 f.n] 24 (0, 0))))
  have HB1 := Lib.hid (bstep HB0.out hb1)
  clear hb1
  go_wp2_with fail
  refine (Great_yes l _ w1 0 w.heap.size _ (HS.out.below HB1.out (Nat.le_refl _)) HB1.out.size (by decide) (by decide) HG.out).mono ?_
  rintro e w2 ⟨rfl, hb2⟩
  have HB2 := Lib.hid (bstep HB1.out hb2)
  have HH2 := Lib.hid (keepB hb2 HH.out)
  clear hb2
  go_wp2_with fail
  go_ret
  exact ⟨rfl, HB2.out⟩
set_option maxRecDepth 100000 in
set_option maxHeartbeats 1000000 in
theorem waits_great2 (l : TL) (ao : Option Addr) (c : Nat) (f : Fd) (it : TL) (ai : Option Addr) (ci : Nat) (w : World) (hs : RdS w 0 w.heap.size l (.slice ao l.len c)) (ht : RdS w 0 w.heap.size it (.slice ai it.len ci)) (h0 : l.len ≤ 100) (hg : 0 ≤ leftF l 6000) (hg2 : leftF (.cons f it .nil) 6000 < 0) :
    Calls Try.prog 14 #[.slice ao l.len c, .agg #[.int .i64 f.k, .int .i64 f.i, .int .i64 f.g, .string f.nm, .string f.fn, .int .i64 f.ar, .slice ai it.len ci, .string f.bs, .int .i64 f.n]] w (Yes w) := by
  have hz1 : decide ((100 : Int) < (l.len : Int)) = false := by simp; omega
  have hz2 : ¬ (100 : Int) < (l.len : Int) := by omega
  have HS := Lib.hid hs
  have HT := Lib.hid ht
  have HG := Lib.hid hg
  have HG2 := Lib.hid hg2
  clear hs ht hg hg2 h0
  have HB0 := Lib.hid (below_alloc w (.cells #[.int .i64 f.k, .int .i64 f.i, .int .i64 f.g, .string f.nm, .string f.fn, .int .i64 f.ar, .slice ai it.len ci, .string f.bs, .int .i64 f.n] 24 (0, 0)))
  go_enter Try.func14, Try.ntmps14
  go_wp2_with fail
  refine (shown14 _).mono ?_
  rintro e w1 ⟨rfl, hb1⟩
  have HH := Lib.hid (keepB hb1 (heap_alloc_new w (.cells #[.int .i64 f.k, .int .i64 f.i, .int .i64 f.g, .string f.nm, .string f.fn, .int .i64 f.ar, .slice ai it.len ci, .string f.bs, .int .i64 f.n] 24 (0, 0))))
  have HB1 := Lib.hid (bstep HB0.out hb1)
  clear hb1
  go_wp2_with fail
  refine (Great_no l _ w1 0 w.heap.size _ (HS.out.below HB1.out (Nat.le_refl _)) HB1.out.size (by decide) (by decide) HG.out).mono ?_
  rintro e w2 ⟨rfl, hb2⟩
  have HB2 := Lib.hid (bstep HB1.out hb2)
  have HH2 := Lib.hid (keepB hb2 HH.out)
  clear hb2
  obtain ⟨c0, c1, c2, c3, c4, c5, c6, c7, c8, -⟩ := nine_cells HH2.out
  go_wp2_with fail
  have h1 := RdS.one0 (f := f) ((HT.out.below HB2.out (Nat.le_refl _)).more HB2.out.size)
  refine (Great_yes _ _ _ _ _ _ h1 (by simp) (by decide) (by decide) HG2.out).mono ?_
  rintro e w3 ⟨rfl, hb3⟩
  have HB3 := Lib.hid (bstep (balloc HB2.out (.cells #[.int .i64 f.k, .int .i64 f.i, .int .i64 f.g, .string f.nm, .string f.fn, .int .i64 f.ar, .slice ai it.len ci, .string f.bs, .int .i64 f.n] 24 (0, 0))) hb3)
  have HH3 := Lib.hid (keepB hb3 (heap_after HH2.out (.cells #[.int .i64 f.k, .int .i64 f.i, .int .i64 f.g, .string f.nm, .string f.fn, .int .i64 f.ar, .slice ai it.len ci, .string f.bs, .int .i64 f.n] 24 (0, 0))))
  clear hb3 h1 c0 c1 c2 c3 c4 c5 c6 c7 c8
  go_wp2_with fail
  go_ret
  exact ⟨rfl, HB3.out⟩
set_option maxRecDepth 100000 in
set_option maxHeartbeats 1000000 in
theorem waits_bad (l : TL) (ao : Option Addr) (c : Nat) (f : Fd) (it : TL) (ai : Option Addr) (ci : Nat) (w : World) (hs : RdS w 0 w.heap.size l (.slice ao l.len c)) (ht : RdS w 0 w.heap.size it (.slice ai it.len ci)) (h0 : l.len ≤ 100) (hg : 0 ≤ leftF l 6000) (hg2 : 0 ≤ leftF (.cons f it .nil) 6000) (hv : validF f it = false) :
    Calls Try.prog 14 #[.slice ao l.len c, .agg #[.int .i64 f.k, .int .i64 f.i, .int .i64 f.g, .string f.nm, .string f.fn, .int .i64 f.ar, .slice ai it.len ci, .string f.bs, .int .i64 f.n]] w (Yes w) := by
  have hz1 : decide ((100 : Int) < (l.len : Int)) = false := by simp; omega
  have hz2 : ¬ (100 : Int) < (l.len : Int) := by omega
  have HS := Lib.hid hs
  have HT := Lib.hid ht
  have HG := Lib.hid hg
  have HG2 := Lib.hid hg2
  have HTm := Lib.hid (tame_of (by decide) hg2).1
  have HV := Lib.hid hv
  clear hs ht hg hg2 h0 hv
  have HB0 := Lib.hid (below_alloc w (.cells #[.int .i64 f.k, .int .i64 f.i, .int .i64 f.g, .string f.nm, .string f.fn, .int .i64 f.ar, .slice ai it.len ci, .string f.bs, .int .i64 f.n] 24 (0, 0)))
  go_enter Try.func14, Try.ntmps14
  go_wp2_with fail
  refine (shown14 _).mono ?_
  rintro e w1 ⟨rfl, hb1⟩
  have HH := Lib.hid (keepB hb1 (heap_alloc_new w (.cells #[.int .i64 f.k, .int .i64 f.i, .int .i64 f.g, .string f.nm, .string f.fn, .int .i64 f.ar, .slice ai it.len ci, .string f.bs, .int .i64 f.n] 24 (0, 0))))
  have HB1 := Lib.hid (bstep HB0.out hb1)
  clear hb1
  go_wp2_with fail
  refine (Great_no l _ w1 0 w.heap.size _ (HS.out.below HB1.out (Nat.le_refl _)) HB1.out.size (by decide) (by decide) HG.out).mono ?_
  rintro e w2 ⟨rfl, hb2⟩
  have HB2 := Lib.hid (bstep HB1.out hb2)
  have HH2 := Lib.hid (keepB hb2 HH.out)
  clear hb2
  obtain ⟨c0, c1, c2, c3, c4, c5, c6, c7, c8, -⟩ := nine_cells HH2.out
  go_wp2_with fail
  have h1 := RdS.one0 (f := f) ((HT.out.below HB2.out (Nat.le_refl _)).more HB2.out.size)
  refine (Great_no _ _ _ _ _ _ h1 (by simp) (by decide) (by decide) HG2.out).mono ?_
  rintro e w3 ⟨rfl, hb3⟩
  have HB3 := Lib.hid (bstep (balloc HB2.out (.cells #[.int .i64 f.k, .int .i64 f.i, .int .i64 f.g, .string f.nm, .string f.fn, .int .i64 f.ar, .slice ai it.len ci, .string f.bs, .int .i64 f.n] 24 (0, 0))) hb3)
  have HH3 := Lib.hid (keepB hb3 (heap_after HH2.out (.cells #[.int .i64 f.k, .int .i64 f.i, .int .i64 f.g, .string f.nm, .string f.fn, .int .i64 f.ar, .slice ai it.len ci, .string f.bs, .int .i64 f.n] 24 (0, 0))))
  clear hb3 h1 c0 c1 c2 c3 c4 c5 c6 c7 c8
  obtain ⟨c0, c1, c2, c3, c4, c5, c6, c7, c8, -⟩ := nine_cells HH3.out
  go_wp2_with fail
  refine (rValid_any f it _ w3 0 w.heap.size HTm.out (HT.out.below HB3.out (Nat.le_refl _)) HB3.out.size).mono ?_
  rintro e w4 ⟨he4, hb4⟩
  obtain rfl := he4.trans (show _ = Ending.returned (.bool false) by rw [HV.out])
  have HB4 := Lib.hid (bstep HB3.out hb4)
  have HH4 := Lib.hid (keepB hb4 HH3.out)
  clear hb4 he4 c0 c1 c2 c3 c4 c5 c6 c7 c8
  go_wp2_with fail
  go_ret
  exact ⟨rfl, HB4.out⟩
set_option maxRecDepth 100000 in
set_option maxHeartbeats 8000000 in
theorem waits_main (l : TL) (ao : Option Addr) (c : Nat) (f : Fd) (it : TL) (ai : Option Addr) (ci : Nat) (w : World) (hs : RdS w 0 w.heap.size l (.slice ao l.len c)) (ht : RdS w 0 w.heap.size it (.slice ai it.len ci)) (h0 : l.len ≤ 100) (hg : 0 ≤ leftF l 6000) (hg2 : 0 ≤ leftF (.cons f it .nil) 6000) (hv : validF f it = true) :
    Calls Try.prog 14 #[.slice ao l.len c, .agg #[.int .i64 f.k, .int .i64 f.i, .int .i64 f.g, .string f.nm, .string f.fn, .int .i64 f.ar, .slice ai it.len ci, .string f.bs, .int .i64 f.n]] w (Yes w) := by
  have hz1 : decide ((100 : Int) < (l.len : Int)) = false := by simp; omega
  have hz2 : ¬ (100 : Int) < (l.len : Int) := by omega
  have HS := Lib.hid hs
  have HT := Lib.hid ht
  have HG := Lib.hid hg
  have HG2 := Lib.hid hg2
  have HTm := Lib.hid (tame_of (by decide) hg2).1
  have HTc := Lib.hid (tame_of (by decide) hg2).2
  have HV := Lib.hid hv
  have hlc := leftF_cnt _ _ hg
  have hlr := (leftF_range l 6000 (by decide)).1
  have HCn := Lib.hid (show l.cnt ≤ 6000 by omega)
  have HSm := Lib.hid (TL.small_mono (m' := 1000000) (by decide) _ hlc.2)
  have hl1 : (l.len : Int) ≤ 100 := by omega
  have hl2 : l.len ≤ 100 := h0
  clear hs ht hg hg2 hv hlc hlr h0
  have HB0 := Lib.hid (below_alloc w (.cells #[.int .i64 f.k, .int .i64 f.i, .int .i64 f.g, .string f.nm, .string f.fn, .int .i64 f.ar, .slice ai it.len ci, .string f.bs, .int .i64 f.n] 24 (0, 0)))
  go_enter Try.func14, Try.ntmps14
  go_wp2_with fail
  refine (shown14 _).mono ?_
  rintro e w1 ⟨rfl, hb1⟩
  have HH := Lib.hid (keepB hb1 (heap_alloc_new w (.cells #[.int .i64 f.k, .int .i64 f.i, .int .i64 f.g, .string f.nm, .string f.fn, .int .i64 f.ar, .slice ai it.len ci, .string f.bs, .int .i64 f.n] 24 (0, 0))))
  have HB1 := Lib.hid (bstep HB0.out hb1)
  clear hb1
  go_wp2_with fail
  refine (Great_no l _ w1 0 w.heap.size _ (HS.out.below HB1.out (Nat.le_refl _)) HB1.out.size (by decide) (by decide) HG.out).mono ?_
  rintro e w2 ⟨rfl, hb2⟩
  have HB2 := Lib.hid (bstep HB1.out hb2)
  have HH2 := Lib.hid (keepB hb2 HH.out)
  clear hb2
  obtain ⟨c0, c1, c2, c3, c4, c5, c6, c7, c8, -⟩ := nine_cells HH2.out
  go_wp2_with fail
  have h1 := RdS.one0 (f := f) ((HT.out.below HB2.out (Nat.le_refl _)).more HB2.out.size)
  refine (Great_no _ _ _ _ _ _ h1 (by simp) (by decide) (by decide) HG2.out).mono ?_
  rintro e w3 ⟨rfl, hb3⟩
  have HB3 := Lib.hid (bstep (balloc HB2.out (.cells #[.int .i64 f.k, .int .i64 f.i, .int .i64 f.g, .string f.nm, .string f.fn, .int .i64 f.ar, .slice ai it.len ci, .string f.bs, .int .i64 f.n] 24 (0, 0))) hb3)
  have HH3 := Lib.hid (keepB hb3 (heap_after HH2.out (.cells #[.int .i64 f.k, .int .i64 f.i, .int .i64 f.g, .string f.nm, .string f.fn, .int .i64 f.ar, .slice ai it.len ci, .string f.bs, .int .i64 f.n] 24 (0, 0))))
  clear hb3 h1 c0 c1 c2 c3 c4 c5 c6 c7 c8
  obtain ⟨c0, c1, c2, c3, c4, c5, c6, c7, c8, -⟩ := nine_cells HH3.out
  go_wp2_with fail
  refine (rValid_any f it _ w3 0 w.heap.size HTm.out (HT.out.below HB3.out (Nat.le_refl _)) HB3.out.size).mono ?_
  rintro e w4 ⟨he4, hb4⟩
  obtain rfl := he4.trans (show _ = Ending.returned (.bool true) by rw [HV.out])
  have HB4 := Lib.hid (bstep HB3.out hb4)
  have HH4 := Lib.hid (keepB hb4 HH3.out)
  clear hb4 he4 c0 c1 c2 c3 c4 c5 c6 c7 c8
  go_wp2_with fail
  refine (New1 w w4 HB4.out).mono ?_
  rintro e w5 ⟨rfl, h5, hb5, hz5⟩
  have HK5 := Lib.hid (show Kp w5 (fun b => b = w4.heap.size) w.heap.size #[.int .i64 f.k, .int .i64 f.i, .int .i64 f.g, .string f.nm, .string f.fn, .int .i64 f.ar, .slice ai it.len ci, .string f.bs, .int .i64 f.n] from ⟨keepB hb5 HH4.out, fun e => by have := lt_of_block HH4.out; omega⟩)
  have H5 := Lib.hid h5
  have HZ5 := Lib.hid hz5
  clear hz5
  clear h5 hb5 HH HH2 HH3 HH4 HB0 HB1 HB2 HB3 HG HG2
  obtain ⟨c0, c1, c2, c3, c4, c5, c6, c7, c8, -⟩ := nine_cells HK5.out.1
  go_wp2_with fail
  have HX6 := Lib.hid (show Kp (w5.alloc (.cells #[.int .i64 f.k, .int .i64 f.i, .int .i64 f.g, .string f.nm, .string f.fn, .int .i64 f.ar, .slice ai it.len ci, .string f.bs, .int .i64 f.n] 24 (0, 0))) (fun b => b = w4.heap.size) w5.heap.size #[.int .i64 f.k, .int .i64 f.i, .int .i64 f.g, .string f.nm, .string f.fn, .int .i64 f.ar, .slice ai it.len ci, .string f.bs, .int .i64 f.n] from ⟨heap_alloc_new w5 _, fun e => by have := HZ5.out; omega⟩)
  have HK6 := Lib.hid (HK5.out.below (below_alloc w5 (.cells #[.int .i64 f.k, .int .i64 f.i, .int .i64 f.g, .string f.nm, .string f.fn, .int .i64 f.ar, .slice ai it.len ci, .string f.bs, .int .i64 f.n] 24 (0, 0))))
  have H6 := Lib.hid (H5.out.below (below_alloc w5 (.cells #[.int .i64 f.k, .int .i64 f.i, .int .i64 f.g, .string f.nm, .string f.fn, .int .i64 f.ar, .slice ai it.len ci, .string f.bs, .int .i64 f.n] 24 (0, 0))))
  obtain ⟨w6, hw6⟩ : ∃ w6, w6 = w5.alloc (.cells #[.int .i64 f.k, .int .i64 f.i, .int .i64 f.g, .string f.nm, .string f.fn, .int .i64 f.ar, .slice ai it.len ci, .string f.bs, .int .i64 f.n] 24 (0, 0)) := ⟨_, rfl⟩
  rw [← hw6] at HX6 HK6 H6 ⊢
  clear hw6 c0 c1 c2 c3 c4 c5 c6 c7 c8 HK5 H5
  have HZX := Lib.hid (show w.heap.size < w5.heap.size by have := lt_of_block HK6.out.1; have := HB4.out.size; have := HZ5.out; omega)
  go_loopw [7, 8] (fun m i wr => ∃ (k : Nat) (S : Nat → Prop) (aF : Option Addr) (cF : Nat) (M : TL), k ≤ l.len ∧ Hid (M = vals (l.take k)) ∧ m = .int .i64 M.len ∧ i = .int .i64 k ∧ Hid (OneS w wr S w4.heap.size M 0) ∧ Hid (Kp wr S w.heap.size #[.int .i64 f.k, .int .i64 f.i, .int .i64 f.g, .string f.nm, .string f.fn, .int .i64 f.ar, .slice ai it.len ci, .string f.bs, .int .i64 f.n]) ∧ Hid (Kp wr S w5.heap.size #[.int .i64 (firstF f M).k, .int .i64 (firstF f M).i, .int .i64 (firstF f M).g, .string (firstF f M).nm, .string (firstF f M).fn, .int .i64 (firstF f M).ar, .slice aF (firstL it M).len cF, .string (firstF f M).bs, .int .i64 (firstF f M).n]) ∧ Hid (RdS w 0 w.heap.size (firstL it M) (.slice aF (firstL it M).len cF))) (fun _ i _ => l.len - (intOf i).toNat)
  case atStart => exact ⟨0, _, ai, ci, .nil, Nat.zero_le _, Lib.hid (by rw [TL.take_zero]; rfl), rfl, rfl, H6, HK6, HX6, HT⟩
  case round =>
    clear H6 HK6 HX6
    obtain ⟨k, S, aF, cF, M, hk, HMv, rfl, rfl, H, HK, HX, HF⟩ := hrel
    rename_i wr
    have hml : M.len ≤ k := by rw [HMv.out]; exact Nat.le_trans (vals_len _) (by rw [take_len _ _ hk]; exact Nat.le_refl _)
    have hmi : (M.len : Int) ≤ 100 := by omega
    by_cases hlt : k < l.len
    · have hlt' : (k : Int) < (l.len : Int) := by omega
      have hlb : decide ((k : Int) < (l.len : Int)) = true := decide_eq_true hlt'
      obtain ⟨b, ob, rfl, hrd⟩ : ∃ b o, ao = some ⟨b, o, none⟩ ∧ Rd w 0 w.heap.size l b o := by
        obtain ⟨ao', c', e, _, _, h⟩ := HS.out
        injection e with e1 e2 e3
        subst e1
        exact h (fun e => by rw [e] at hlt; simp [TL.len] at hlt)
      have HRd := Lib.hid hrd
      clear hrd
      obtain ⟨f2, it2, hd⟩ := l.drop_at k hlt
      have HD := Lib.hid hd
      have HT2 := Lib.hid (tame_at2 (by have := HCn.out; omega) HSm.out hd)
      have HMs := Lib.hid (show vals (l.take (k + 1)) = M.app (vals (.cons f2 it2 .nil)) by rw [take_snoc l k f2 it2 _ hd, vals_app, ← HMv.out])
      clear hd HMv
      obtain ⟨hbw, a2, q2, hnine, hit⟩ := Rd.nine HRd.out HD.out (below_cells H.out.2.2 (Nat.le_refl _))
      obtain ⟨c0, c1, c2, c3, c4, c5, c6, c7, c8⟩ := hnine
      have HIt := Lib.hid (hit.more (B' := wr.heap.size) H.out.2.2.size)
      clear hit
      go_wp2_with fail
      by_cases hv : validF f2 it2 = true
      · have HMs2 := Lib.hid (show vals (l.take (k + 1)) = M.app (.cons f2 it2 .nil) by rw [HMs.out]; simp only [vals, if_pos hv])
        refine (Put1 H.out (by omega) f2 it2 a2 q2 HT2.out hv HIt.out).mono ?_
        rintro e w7 ⟨rfl, ⟨S7, h7, hs7⟩, ho7⟩
        have H7 := Lib.hid h7
        have HK7 := Lib.hid (HK.out.step ho7 hs7)
        have HX7 := Lib.hid (HX.out.step ho7 hs7)
        clear h7 hs7 ho7 hv c0 c1 c2 c3 c4 c5 c6 c7 c8 HMs HIt
        by_cases hm : M.len = 0
        · have hmz : ((M.len : Int) == 0) = true := by rw [hm]; rfl
          have hM0 := TL.len_zero hm
          obtain ⟨_, a3, q3, hnine, hit⟩ := Rd.nine HRd.out HD.out (below_cells H7.out.2.2 (Nat.le_refl _))
          obtain ⟨c0, c1, c2, c3, c4, c5, c6, c7, c8⟩ := hnine
          obtain ⟨x0, x1, x2, x3, x4, x5, x6, x7, x8, fx⟩ := nine_cells HX7.out.1
          obtain ⟨_, _, iv, hcl, hiw⟩ := Rd.at_ l b ob k f2 it2 _ HRd.out HD.out
          obtain ⟨a4, q4, hiv⟩ := hiw.slice
          subst hiv
          have h6 : w.cell? ⟨b, ob + 9 * k + 6, none⟩ = some (.slice a4 it2.len q4) := hcl 6 _ rfl
          have e6 : ob + 9 * k + 6 = ob + k * 9 + 6 := by omega
          rw [e6] at h6
          have hq := (below_cells H7.out.2.2 (Nat.le_refl _) b (ob + k * 9 + 6) hbw).trans h6
          rw [c6] at hq
          have hq := Option.some.inj hq
          injection hq with hq1 _ hq3
          subst hq1 hq3
          have HIw := Lib.hid hiw
          clear hiw hcl hit h6 e6
          subst hM0
          go_wp2_with fail
          refine ⟨⟨k + 1, S7, a3, q3, .cons f2 it2 .nil, by omega, Lib.hid HMs2.out.symm, rfl, by go_num, Lib.hid ?_, Lib.hid ?_, Lib.hid ?_, Lib.hid HIw.out⟩, by simp only [intOf]; omega⟩
          · refine OneS.keep (l := .cons f2 it2 .nil) H7.out (fun b => b = w5.heap.size) ?_ (fun b hb => by rw [hb]; exact ⟨Nat.le_of_lt HZX.out, HX7.out.2⟩)
            with_reducible exact outs_box _ _ _ _ _ _ _ _ _ _ _
          · repeat (with_reducible refine Kp.ne ?_ (Nat.ne_of_lt HZX.out) _ _)
            exact HK7.out
          · have hx71 := HX7.out.1
            refine ⟨?_, HX7.out.2⟩
            with_reducible refine (nine_blk hx71 _ _ _ _ _ _ _ _ _).trans ?_
            rfl
        · have hmz : ((M.len : Int) == 0) = false := by simp; omega
          go_wp2_with fail
          refine ⟨⟨k + 1, S7, aF, cF, M.app (.cons f2 it2 .nil), by omega, Lib.hid HMs2.out.symm, by rw [TL.len_app]; go_num, by go_num, H7, HK7, ?_, ?_⟩, by simp only [intOf]; omega⟩
          · cases M with
            | nil => exact absurd rfl hm
            | cons _ _ _ => exact HX7
          · cases M with
            | nil => exact absurd rfl hm
            | cons _ _ _ => exact HF
      · have hv := Bool.eq_false_iff.2 hv
        have HMs2 := Lib.hid (show vals (l.take (k + 1)) = M by rw [HMs.out]; simp only [vals, if_neg (show ¬ validF f2 it2 = true by rw [hv]; decide), TL.app_nil])
        refine (Put_bad H.out.1 f2 it2 a2 q2 HT2.out hv HIt.out).mono ?_
        rintro e w7 ⟨rfl, hb7⟩
        have H7 := Lib.hid (H.out.below hb7)
        have HK7 := Lib.hid (HK.out.below hb7)
        have HX7 := Lib.hid (HX.out.below hb7)
        clear hb7 hv c0 c1 c2 c3 c4 c5 c6 c7 c8 HMs HIt
        go_wp2_with fail
        exact ⟨⟨k + 1, S, aF, cF, M, by omega, Lib.hid HMs2.out.symm, rfl, by go_num, H7, HK7, HX7, HF⟩, by simp only [intOf]; omega⟩
    · have hlt' : ¬ (k : Int) < (l.len : Int) := by omega
      have hlb : decide ((k : Int) < (l.len : Int)) = false := decide_eq_false hlt'
      have HMv := Lib.hid (show M = vals l by have h := HMv.out; rwa [take_all l k (by omega)] at h)
      have hmc : M.cnt ≤ 6000 := by rw [HMv.out]; exact Nat.le_trans (vals_cnt l) HCn.out
      clear hk
      go_wp2_with fail
      clear hlb hlt hlt'
      go_loopw [9] (fun i wq => ∃ j : Nat, j ≤ M.len ∧ i = .int .i64 j ∧ Hid (OneS w wq S w4.heap.size M j) ∧ Hid (Kp wq S w.heap.size #[.int .i64 f.k, .int .i64 f.i, .int .i64 f.g, .string f.nm, .string f.fn, .int .i64 f.ar, .slice ai it.len ci, .string f.bs, .int .i64 f.n]) ∧ Hid (Kp wq S w5.heap.size #[.int .i64 (firstF f M).k, .int .i64 (firstF f M).i, .int .i64 (firstF f M).g, .string (firstF f M).nm, .string (firstF f M).fn, .int .i64 (firstF f M).ar, .slice aF (firstL it M).len cF, .string (firstF f M).bs, .int .i64 (firstF f M).n])) (fun i _ => M.len - (intOf i).toNat)
      case atStart => exact ⟨0, Nat.zero_le _, rfl, H, HK, HX⟩
      case round =>
        clear H HK HX
        obtain ⟨j, hj, rfl, H, HK, HX⟩ := hrel
        rename_i wq
        by_cases hlt : j < M.len
        · have hlt' : (j : Int) < (M.len : Int) := by omega
          have hlb : decide ((j : Int) < (M.len : Int)) = true := decide_eq_true hlt'
          go_wp2_with fail
          refine (Skip1 H.out (by omega) (by omega)).mono ?_
          rintro e w7 ⟨rfl, h7, ho7⟩
          have H7 := Lib.hid h7
          have HK7 := Lib.hid (HK.out.out ho7)
          have HX7 := Lib.hid (HX.out.out ho7)
          clear h7 ho7
          go_wp2_with fail
          exact ⟨⟨j + 1, by omega, by go_num, H7, HK7, HX7⟩, by simp only [intOf]; omega⟩
        · have hlt' : ¬ (j : Int) < (M.len : Int) := by omega
          have hlb : decide ((j : Int) < (M.len : Int)) = false := decide_eq_false hlt'
          obtain rfl : j = M.len := by omega
          clear hj
          go_wp2_with fail
          clear hlb hlt hlt'
          have hend : M.len = M.len := rfl
          refine (Look_no H.out.1).mono ?_
          rintro e w10 ⟨rfl, hb10⟩
          have H10 := Lib.hid (H.out.below (balloc hb10 (.cells #[.int .i64 0, .int .i64 0, .int .i64 0, .string ⟨#[]⟩, .string ⟨#[]⟩, .int .i64 0, .slice none 0 0, .string ⟨#[]⟩, .int .i64 0] 24 (0, 0))))
          have HK10 := Lib.hid (HK.out.below (balloc hb10 (.cells #[.int .i64 0, .int .i64 0, .int .i64 0, .string ⟨#[]⟩, .string ⟨#[]⟩, .int .i64 0, .slice none 0 0, .string ⟨#[]⟩, .int .i64 0] 24 (0, 0))))
          have HX10 := Lib.hid (HX.out.below (balloc hb10 (.cells #[.int .i64 0, .int .i64 0, .int .i64 0, .string ⟨#[]⟩, .string ⟨#[]⟩, .int .i64 0, .slice none 0 0, .string ⟨#[]⟩, .int .i64 0] 24 (0, 0))))
          clear hb10 hend
          go_upto_region 22 with (fail)
          obtain ⟨w11, hw11⟩ : ∃ w11, w11 = w10.alloc (.cells #[.int .i64 0, .int .i64 0, .int .i64 0, .string ⟨#[]⟩, .string ⟨#[]⟩, .int .i64 0, .slice none 0 0, .string ⟨#[]⟩, .int .i64 0] 24 (0, 0)) := ⟨_, rfl⟩
          rw [← hw11] at H10 HK10 HX10 ⊢
          clear hw11
          obtain ⟨c0, c1, c2, c3, c4, c5, c6, c7, c8, -⟩ := nine_cells HK10.out.1
          go_wp2_with fail
          refine (Skip_no H10.out.1).mono ?_
          rintro e wz ⟨rfl, rfl⟩
          go_wp2_with fail
          refine (At_any H10.out.1).mono ?_
          rintro e wz ⟨rfl, rfl⟩
          have heq : ((M.len : Int) == (M.len : Int)) = true := by simp
          go_wp2_with fail
          refine (Put1 H10.out (by omega) f it ai ci HTm.out HV.out ((HT.out.below H10.out.2.2 (Nat.le_refl _)).more H10.out.2.2.size)).mono ?_
          rintro e w12 ⟨rfl, ⟨S12, h12, hs12⟩, ho12⟩
          have H12 := Lib.hid h12
          have HK12 := Lib.hid (HK10.out.step ho12 hs12)
          have HX12 := Lib.hid (HX10.out.step ho12 hs12)
          clear h12 hs12 ho12 c0 c1 c2 c3 c4 c5 c6 c7 c8
          have hd12 : (M.app (.cons f it .nil)).drop M.len = .cons f it .nil := drop_app M _
          go_wp2_with fail
          refine (Look_yes H12.out.1 hd12 (by have := HTc.out; omega)).mono ?_
          rintro e w13 ⟨a13, c13, rfl, hn13, hb13⟩
          have H13 := Lib.hid (H12.out.below (balloc hb13 (.cells #[.int .i64 f.k, .int .i64 f.i, .int .i64 f.g, .string f.nm, .string f.fn, .int .i64 f.ar, .slice a13 it.len c13, .string f.bs, .int .i64 f.n] 24 (0, 0))))
          have HK13 := Lib.hid (HK12.out.below (balloc hb13 (.cells #[.int .i64 f.k, .int .i64 f.i, .int .i64 f.g, .string f.nm, .string f.fn, .int .i64 f.ar, .slice a13 it.len c13, .string f.bs, .int .i64 f.n] 24 (0, 0))))
          have HX13 := Lib.hid (HX12.out.below (balloc hb13 (.cells #[.int .i64 f.k, .int .i64 f.i, .int .i64 f.g, .string f.nm, .string f.fn, .int .i64 f.ar, .slice a13 it.len c13, .string f.bs, .int .i64 f.n] 24 (0, 0))))
          have HN13 := Lib.hid ((hn13.rds.less (Nat.zero_le _)).below (below_alloc w13 (.cells #[.int .i64 f.k, .int .i64 f.i, .int .i64 f.g, .string f.nm, .string f.fn, .int .i64 f.ar, .slice a13 it.len c13, .string f.bs, .int .i64 f.n] 24 (0, 0))) (Nat.le_refl _))
          have HY13 := Lib.hid (heap_alloc_new w13 (.cells #[.int .i64 f.k, .int .i64 f.i, .int .i64 f.g, .string f.nm, .string f.fn, .int .i64 f.ar, .slice a13 it.len c13, .string f.bs, .int .i64 f.n] 24 (0, 0)))
          have HSl := Lib.hid (show ¬ S12 w13.heap.size from fun hs => by have := H12.out.1.lt _ hs; have := hb13.size; omega)
          have HXY := Lib.hid (show w5.heap.size < w13.heap.size by have := lt_of_block HX12.out.1; have := hb13.size; omega)
          clear hn13 hb13 hd12
          go_upto_region 25 with (fail)
          obtain ⟨w14, hw14⟩ : ∃ w14, w14 = w13.alloc (.cells #[.int .i64 f.k, .int .i64 f.i, .int .i64 f.g, .string f.nm, .string f.fn, .int .i64 f.ar, .slice a13 it.len c13, .string f.bs, .int .i64 f.n] 24 (0, 0)) := ⟨_, rfl⟩
          have HZ14 := Lib.hid (show w14.heap.size = w13.heap.size + 1 by rw [hw14]; simp)
          rw [← hw14] at H13 HK13 HX13 HN13 HY13 ⊢
          clear hw14
          obtain ⟨c0, c1, c2, c3, c4, c5, c6, c7, c8, -⟩ := nine_cells HK13.out.1
          obtain ⟨y0, y1, y2, y3, y4, y5, y6, y7, y8, -⟩ := nine_cells HY13.out
          go_wp2_with fail
          refine (kitSame_eq f it a13 ai c13 ci w14 (HN13.out.more (by have := HZ14.out; omega)) ((HT.out.below H13.out.2.2 (Nat.le_refl _)).more H13.out.2.2.size)).mono ?_
          rintro e w15 ⟨rfl, hb15⟩
          have H15 := Lib.hid (H13.out.below hb15)
          have HX15 := Lib.hid (HX13.out.below hb15)
          have HY15 := Lib.hid (show Kp w15 S12 w13.heap.size #[.int .i64 f.k, .int .i64 f.i, .int .i64 f.g, .string f.nm, .string f.fn, .int .i64 f.ar, .slice a13 it.len c13, .string f.bs, .int .i64 f.n] from ⟨keepB hb15 HY13.out, HSl.out⟩)
          clear hb15 c0 c1 c2 c3 c4 c5 c6 c7 c8 y0 y1 y2 y3 y4 y5 y6 y7 y8
          go_wp2_with fail
          refine (At_any H15.out.1).mono ?_
          rintro e wz ⟨rfl, rfl⟩
          go_wp2_with fail
          refine (Rewind1 H15.out).mono ?_
          rintro e w16 ⟨rfl, h16, ho16⟩
          have H16 := Lib.hid h16
          have HX16 := Lib.hid (HX15.out.out ho16)
          have HY16 := Lib.hid (HY15.out.out ho16)
          clear h16 ho16 heq
          have hd16 : ∃ r, (M.app (.cons f it .nil)).drop 0 = .cons (firstF f M) (firstL it M) r := by
            rw [TL.drop_zero]
            cases M with
            | nil => exact ⟨_, rfl⟩
            | cons _ _ _ => exact ⟨_, rfl⟩
          obtain ⟨r16, hd16⟩ := hd16
          have hfc : (firstL it M).cnt ≤ 1000000000 := by
            have := HTc.out
            cases M with
            | nil => simp only [firstL]; omega
            | cons _ _ _ => simp only [firstL, TL.cnt] at hmc ⊢; omega
          generalize firstF f M = FF at *
          generalize firstL it M = FL at *
          go_wp2_with fail
          refine (Look_yes H16.out.1 hd16 hfc).mono ?_
          rintro e w17 ⟨a17, c17, rfl, hn17, hb17⟩
          have H17 := Lib.hid (H16.out.below hb17)
          have HX17 := Lib.hid (HX16.out.below hb17)
          have HY17 := Lib.hid (HY16.out.below hb17)
          have HN17 := Lib.hid (hn17.rds)
          have HZ17 := Lib.hid (show w13.heap.size < w16.heap.size from lt_of_block HY16.out.1)
          clear hn17 hb17 hd16 hfc
          obtain ⟨y0, y1, y2, y3, y4, y5, y6, y7, y8, fy⟩ := nine_cells HY17.out.1
          go_upto_region 29 with (fail)
          have HY18 := Lib.hid (nine_blk HY17.out.1 (.int .i64 FF.k) (.int .i64 FF.i) (.int .i64 FF.g) (.string FF.nm) (.string FF.fn) (.int .i64 FF.ar) (.slice a17 FL.len c17) (.string FF.bs) (.int .i64 FF.n))
          have hxy : w5.heap.size ≠ w13.heap.size := Nat.ne_of_lt HXY.out
          have HO18 := Lib.hid (outs_box w17 w13.heap.size (.int .i64 FF.k) (.int .i64 FF.i) (.int .i64 FF.g) (.string FF.nm) (.string FF.fn) (.int .i64 FF.ar) (.slice a17 FL.len c17) (.string FF.bs) (.int .i64 FF.n))
          have HX18 := Lib.hid (HO18.out.block _ (lt_of_block HX17.out.1) hxy |>.trans HX17.out.1)
          obtain ⟨w18, hw18⟩ : ∃ w18, w18 = (((((((((w17.setCell ⟨w13.heap.size, 0, none⟩ (.int .i64 FF.k)).setCell ⟨w13.heap.size, 1, none⟩ (.int .i64 FF.i)).setCell ⟨w13.heap.size, 2, none⟩ (.int .i64 FF.g)).setCell ⟨w13.heap.size, 3, none⟩ (.string FF.nm)).setCell ⟨w13.heap.size, 4, none⟩ (.string FF.fn)).setCell ⟨w13.heap.size, 5, none⟩ (.int .i64 FF.ar)).setCell ⟨w13.heap.size, 6, none⟩ (.slice a17 FL.len c17)).setCell ⟨w13.heap.size, 7, none⟩ (.string FF.bs)).setCell ⟨w13.heap.size, 8, none⟩ (.int .i64 FF.n)) := ⟨_, rfl⟩
          rw [← hw18] at HY18 HO18 HX18 ⊢
          clear hw18
          have H18 := Lib.hid (OneS.keep H17.out (fun b => b = w13.heap.size) HO18.out (fun b hb => by rw [hb]; exact ⟨Nat.le_of_lt (Nat.lt_trans HZX.out HXY.out), HY17.out.2⟩))
          have HN18 := Lib.hid (((HN17.out.keepX fun b o h1 _ => cell_eq (HO18.out.block b (by omega) (by have := HZ17.out; omega)) o).less (Nat.zero_le _)).more (B' := w18.heap.size) HO18.out.size)
          have HF18 := Lib.hid ((HF.out.below H18.out.2.2 (Nat.le_refl _)).more (B' := w18.heap.size) H18.out.2.2.size)
          clear y0 y1 y2 y3 y4 y5 y6 y7 y8 fy hxy
          obtain ⟨y0, y1, y2, y3, y4, y5, y6, y7, y8, -⟩ := nine_cells HY18.out
          obtain ⟨x0, x1, x2, x3, x4, x5, x6, x7, x8, -⟩ := nine_cells HX18.out
          go_wp2_with fail
          refine (kitSame_eq FF FL a17 aF c17 cF w18 HN18.out HF18.out).mono ?_
          rintro e w19 ⟨rfl, hb19⟩
          have H19 := Lib.hid (H18.out.below hb19)
          clear hb19 x0 x1 x2 x3 x4 x5 x6 x7 x8 y0 y1 y2 y3 y4 y5 y6 y7 y8
          go_wp2_with fail
          refine (At_any H19.out.1).mono ?_
          rintro e wz ⟨rfl, rfl⟩
          go_wp2_with fail
          go_ret
          exact ⟨rfl, H19.out.2.2⟩
end Go.Proofs.Ytgbaelkoblnlhaa
