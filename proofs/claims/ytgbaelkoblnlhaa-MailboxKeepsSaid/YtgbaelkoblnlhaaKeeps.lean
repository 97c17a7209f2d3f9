/-
  Walks: the law MailboxKeeps: what is put is copied, and what All, Look and Take return is new memory.
-/
import Derived.Test.YtgbaelkoblnlhaaDoes
import Derived.Test.YtgbaelkoblnlhaaOne
import Derived.Test.YtgbaelkoblnlhaaGreat
namespace Go.Proofs.Ytgbaelkoblnlhaa
open Go.RowKit
theorem tame_at4 {l : TL} {k : Nat} {f : Fd} {it r : TL} (hc : l.cnt ≤ 1000000) (hs : l.small 1000000) (hd : l.drop k = .cons f it r) : tame f it := by
  have key : ∀ (l : TL) (k : Nat), l.small 1000000 → (l.drop k).small 1000000 := by
    intro l
    induction l with
    | nil => intro k _; cases k <;> trivial
    | cons f it r _ ih =>
      intro k h
      cases k with
      | zero => exact h
      | succ k => exact ih k h.2.2.2.2
  have h1 := l.cnt_drop k
  rw [hd] at h1
  simp only [TL.cnt] at h1
  have h2 := key l k hs
  rw [hd] at h2
  exact ⟨by omega, h2.1, h2.2.1, h2.2.2.1, h2.2.2.2.1⟩
theorem outs_boxK (w : World) (L : Nat) (a0 a1 a2 a3 a4 a5 a6 a7 a8 : Value) : OutsS (fun b => b = L) w (((((((((w.setCell ⟨L, 0, none⟩ a0).setCell ⟨L, 1, none⟩ a1).setCell ⟨L, 2, none⟩ a2).setCell ⟨L, 3, none⟩ a3).setCell ⟨L, 4, none⟩ a4).setCell ⟨L, 5, none⟩ a5).setCell ⟨L, 6, none⟩ a6).setCell ⟨L, 7, none⟩ a7).setCell ⟨L, 8, none⟩ a8) := by
  have h : (fun b => b = L) L := rfl
  have key : ∀ {a b : World} (_ : OutsS (fun b => b = L) a b) (k : Nat) (u : Value), OutsS (fun b => b = L) a (b.setCell ⟨L, k, none⟩ u) := fun hq k u => OutsS.put hq h k u
  exact key (key (key (key (key (key (key (key (key (OutsS.refl _ _) 0 a0) 1 a1) 2 a2) 3 a3) 4 a4) 5 a5) 6 a6) 7 a7) 8 a8
theorem OutsS.of_spw {A B : Nat} {w w' : World} (h : SpW A B w w') : OutsS (fun b => A ≤ b ∧ b < B) w w' := ⟨h.os, h.tape, h.output, h.size, fun k hk hn => h.out k hk (by
  rcases Nat.lt_or_ge k A with h1 | h1
  · exact .inl h1
  · rcases Nat.lt_or_ge k B with h2 | h2
    · exact absurd ⟨h1, h2⟩ hn
    · exact .inr h2)⟩
theorem TwoX.keepT {w0 w w' : World} {B R : Nat} {S S2 : Nat → Prop} {l l2 : TL} {p p2 : Nat} {v : Value} {xs : List Value} (h : TwoX w0 w B R S S2 l p l2 p2 v xs) (T : Nat → Prop) (ho : OutsS T w w') (hT : ∀ b, T b → w0.heap.size ≤ b ∧ ¬ S b ∧ ¬ S2 b) : TwoX w0 w' B R S S2 l p l2 p2 v xs := by
  obtain ⟨h1, h2, h3, h4⟩ := h
  have hz := h4.size
  refine ⟨h1.keep ho.size fun b hb => ho.block b (h1.lt b hb) fun ht => (hT b ht).2.1 hb, h2.keep ho.size fun b hb => ho.block b ?_ ?_, h3, ho.below hz (fun k hk => (hT k hk).1) h4⟩
  · rcases hb with hb | hb
    · exact (h2.lt b hb).2
    · have := h2.ltT b hb; omega
  · rcases hb with hb | hb
    · exact fun ht => (hT b ht).2.2 hb
    · intro ht; have := (hT b ht).1; have := h2.ltT b hb; omega
/-- what a call of Take and of the reference's Take answer -/
theorem take_both (l : TL) (p : Nat) (hp : p ≤ l.len) (hc : l.cnt ≤ 1000000000) : ∃ (F : Fd) (L : TL) (b : Bool) (l' : TL) (p' : Nat), L.cnt ≤ l.cnt ∧ l'.cnt ≤ l.cnt ∧
    (∀ w S B, MbS w S B l p → Calls Try.prog 64 #[.pointer (some ⟨B, 0, none⟩)] w fun e w' => (∃ ai ci, e = .returned (.tuple #[.agg #[.int .i64 F.k, .int .i64 F.i, .int .i64 F.g, .string F.nm, .string F.fn, .int .i64 F.ar, .slice ai L.len ci, .string F.bs, .int .i64 F.n], .bool b]) ∧ NwS w' w.heap.size w'.heap.size L (.slice ai L.len ci)) ∧ MbS w' S B l' p' ∧ OutsS S w w') ∧
    (∀ w N T S R v xs, Rb w N T S R l p v xs → Calls Try.prog 65 #[.pointer (some ⟨R, 0, none⟩)] w fun e w' => (∃ ai ci, e = .returned (.tuple #[.agg #[.int .i64 F.k, .int .i64 F.i, .int .i64 F.g, .string F.nm, .string F.fn, .int .i64 F.ar, .slice ai L.len ci, .string F.bs, .int .i64 F.n], .bool b]) ∧ RdXS w' T L (.slice ai L.len ci)) ∧ (∃ S' v' xs', Rb w' N T S' R l' p' v' xs' ∧ ∀ k, S' k → S k ∨ (w.heap.size ≤ k ∧ k < w'.heap.size)) ∧ OutsS S w w') := by
  have hlc := l.len_le_cnt
  by_cases h : p < l.len
  · obtain ⟨f, it, hd⟩ := l.drop_at p h
    have h1 := l.cnt_drop p
    rw [hd] at h1
    simp only [TL.cnt] at h1
    have hdc : (l.del p).cnt ≤ l.cnt := by
      have key : ∀ (l : TL) (p : Nat), (l.del p).cnt ≤ l.cnt := by
        intro l
        induction l with
        | nil => intro p; cases p <;> exact Nat.le_refl _
        | cons f it r _ ih =>
          intro p
          cases p with
          | zero => rw [TL.del_zero]; simp only [TL.cnt]; omega
          | succ p => rw [TL.del_succ]; have := ih p; simp only [TL.cnt]; omega
      exact key l p
    refine ⟨f, it, true, l.del p, 0, by omega, hdc, fun w S B hM => (Take_yes hM hd h (by omega) (by omega)).mono fun e w' q => ?_, fun w N T S R v xs hR => (rTake_yes hR hd h (by omega)).mono fun e w' q => ?_⟩
    · obtain ⟨ai, ci, q1, q2, q3, q4⟩ := q
      exact ⟨⟨ai, ci, q1, q2⟩, q3, q4⟩
    · obtain ⟨ai, ci, q1, q2, ⟨v', xs', q3⟩, q4⟩ := q
      exact ⟨⟨ai, ci, q1, q2⟩, ⟨_, v', xs', q3, fun _ h => h⟩, q4⟩
  · obtain rfl : p = l.len := by omega
    refine ⟨Fd.zero, .nil, false, l, l.len, Nat.zero_le _, Nat.le_refl _, fun w S B hM => (Take_no hM).mono fun e w' q => ⟨⟨none, 0, q.1, NwS.nil _ _ _⟩, hM.below q.2, OutsS.of_below q.2⟩, fun w N T S R v xs hR => (rTake_no hR).mono fun e w' q => ⟨⟨none, 0, q.1, RdXS.nil _ _⟩, ⟨S, v, xs, hR.below q.2, fun _ h => .inl h⟩, OutsS.of_below q.2⟩⟩
set_option maxRecDepth 100000 in
set_option maxHeartbeats 1000000 in
theorem keeps_many (l : TL) (ao : Option Addr) (c : Nat) (w : World) (h0 : 100 < l.len) :
    Calls Try.prog 10 #[.slice ao l.len c] w (Yes w) := by
  have hz1 : decide ((100 : Int) < (l.len : Int)) = true := by simp; omega
  have hz2 : (100 : Int) < (l.len : Int) := by omega
  clear h0
  go_enter Try.func10, Try.ntmps10
  go_wp2_with fail
  refine (shown14 _).mono ?_
  rintro e w1 ⟨rfl, hb1⟩
  have HB1 := Lib.hid hb1
  clear hb1
  go_wp2_with fail
  go_ret
  exact ⟨rfl, HB1.out⟩
set_option maxRecDepth 100000 in
set_option maxHeartbeats 1000000 in
theorem keeps_great (l : TL) (ao : Option Addr) (c : Nat) (w : World) (hs : RdS w 0 w.heap.size l (.slice ao l.len c)) (h0 : l.len ≤ 100) (hg : leftF l 6000 < 0) :
    Calls Try.prog 10 #[.slice ao l.len c] w (Yes w) := by
  have hz1 : decide ((100 : Int) < (l.len : Int)) = false := by simp; omega
  have hz2 : ¬ (100 : Int) < (l.len : Int) := by omega
  have HS := Lib.hid hs
  have HG := Lib.hid hg
  clear hs hg h0
  go_enter Try.func10, Try.ntmps10
  go_wp2_with fail
  refine (shown14 _).mono ?_
  rintro e w1 ⟨rfl, hb1⟩
  have HB1 := Lib.hid hb1
  clear hb1
  go_wp2_with fail
  refine (Great_yes l _ w1 0 w.heap.size _ (HS.out.below HB1.out (Nat.le_refl _)) HB1.out.size (by decide) (by decide) HG.out).mono ?_
  rintro e w2 ⟨rfl, hb2⟩
  have HB2 := Lib.hid (bstep HB1.out hb2)
  clear hb2
  go_wp2_with fail
  go_ret
  exact ⟨rfl, HB2.out⟩
set_option maxRecDepth 100000 in
set_option maxHeartbeats 8000000 in
theorem keeps_main (l : TL) (ao : Option Addr) (c : Nat) (w : World) (hs : RdS w 0 w.heap.size l (.slice ao l.len c)) (h0 : l.len ≤ 100) (hg : 0 ≤ leftF l 6000) :
    Calls Try.prog 10 #[.slice ao l.len c] w (Yes w) := by
  have hz1 : decide ((100 : Int) < (l.len : Int)) = false := by simp; omega
  have hz2 : ¬ (100 : Int) < (l.len : Int) := by omega
  have HS := Lib.hid hs
  have HG := Lib.hid hg
  have hlc := leftF_cnt _ _ hg
  have hlr := (leftF_range l 6000 (by decide)).1
  have HCn := Lib.hid (show l.cnt ≤ 6000 by omega)
  have HSm := Lib.hid (TL.small_mono (m' := 1000000) (by decide) _ hlc.2)
  have hl1 : (l.len : Int) ≤ 100 := by omega
  have hl2 : l.len ≤ 100 := h0
  clear hs hg hlc hlr h0
  go_enter Try.func10, Try.ntmps10
  go_wp2_with fail
  refine (shown14 _).mono ?_
  rintro e w1 ⟨rfl, hb1⟩
  have HB1 := Lib.hid hb1
  clear hb1
  go_wp2_with fail
  refine (Great_no l _ w1 0 w.heap.size _ (HS.out.below HB1.out (Nat.le_refl _)) HB1.out.size (by decide) (by decide) HG.out).mono ?_
  rintro e w2 ⟨rfl, hb2⟩
  have HB2 := Lib.hid (bstep HB1.out hb2)
  clear hb2 HG
  go_wp2_with fail
  refine (New_any w2).mono ?_
  rintro e w3 ⟨rfl, h3, hb3, hz3⟩
  have HM3 := Lib.hid h3
  have HB3 := Lib.hid (HB2.out.trans (hb3.mono HB2.out.size))
  have HZ3 := Lib.hid hz3
  clear h3 hb3 hz3
  go_upto_region 6 with (fail)
  have HTw := Lib.hid (show TwoX w (w3.alloc (.cells #[.slice none 0 0, .int .i64 0] 62 (0, 0))) w2.heap.size w3.heap.size (fun b => b = w2.heap.size) (fun b => b = w3.heap.size) .nil 0 .nil 0 (.slice none 0 0) [] from
    ⟨⟨_, HM3.out.below (below_alloc w3 _)⟩, ⟨heap_alloc_new w3 _, World.ownsRow_nil _ _ _ _, rfl, Nat.le_refl _, rfl, fun g hg => by (cases hg), fun b hb => by have := HB3.out.size; simp; omega, fun b hb => hb, by have := HB3.out.size; simp; omega⟩, fun b hb => by have := HB2.out.size; have := HZ3.out; omega, HB3.out.alloc HB3.out.size _⟩)
  obtain ⟨w4, hw4⟩ : ∃ w4, w4 = w3.alloc (.cells #[.slice none 0 0, .int .i64 0] 62 (0, 0)) := ⟨_, rfl⟩
  rw [← hw4] at HTw ⊢
  clear hw4
  go_wp2_with fail
  go_loopw [5] (fun i wr => ∃ (k : Nat) (m : TL) (S S2 : Nat → Prop) (v : Value) (xs : List Value), k ≤ l.len ∧ i = .int .i64 k ∧ Hid (TwoX w wr w2.heap.size w3.heap.size S S2 m 0 m 0 v xs) ∧ m.cnt ≤ k * 7000) (fun i _ => l.len - (intOf i).toNat)
  case atStart => exact ⟨0, .nil, _, _, _, _, Nat.zero_le _, rfl, HTw, Nat.zero_le _⟩
  case round =>
    clear HTw
    rename_i wr
    obtain ⟨k, m, S, S2, v, xs, hk, rfl, HX, hmc⟩ := hrel
    have hml := m.len_le_cnt
    by_cases hlt : k < l.len
    · have hlt' : (k : Int) < (l.len : Int) := by omega
      have hlb : decide ((k : Int) < (l.len : Int)) = true := decide_eq_true hlt'
      obtain ⟨b, ob, rfl, hrd⟩ : ∃ b o, ao = some ⟨b, o, none⟩ ∧ Rd w 0 w.heap.size l b o := by
        obtain ⟨ao', c', e, _, _, h⟩ := HS.out
        injection e with e1 e2 e3
        subst e1
        exact h (fun e => by rw [e] at hlt; simp [TL.len] at hlt)
      obtain ⟨f, it, hd⟩ := l.drop_at k hlt
      have HTm := Lib.hid (tame_at4 (by have := HCn.out; omega) HSm.out hd)
      have hcit : it.cnt ≤ 6000 := by have q := l.cnt_drop k; rw [hd] at q; simp only [TL.cnt] at q; have := HCn.out; omega
      obtain ⟨hbw, ai, ci, hnine, hit⟩ := Rd.nine hrd hd (below_cells HX.out.2.2.2 (Nat.le_refl _))
      obtain ⟨c0, c1, c2, c3, c4, c5, c6, c7, c8⟩ := hnine
      have HItr := Lib.hid hit
      have HIt := Lib.hid fun W (hb : Below w.heap.size w W) => (show RdXS W (fun b => b < w.heap.size) it (.slice ai it.len ci) from (hit.x (S := fun b => b < w.heap.size) fun _ _ h => h).keep2 (fun _ h => h) fun b o hb2 => (hb.cell (p := ⟨b, o, none⟩) hb2).trans (HX.out.2.2.2.cell (p := ⟨b, o, none⟩) hb2).symm)
      have hzr := HX.out.2.2.2.size
      clear hit hd hrd
      go_wp2_with fail
      refine ((lend_all it.cnt).1 f it _ wr 0 w.heap.size (Nat.le_refl _) (by omega) HItr.out hzr).mono ?_
      rintro e w6 ⟨a6, q6, rfl, hkp, hb6⟩
      have HX7 := Lib.hid (HX.out.below (balloc hb6 (.cells #[.int .i64 f.k, .int .i64 f.i, .int .i64 f.g, .string f.nm, .string f.fn, .int .i64 f.ar, .slice a6 it.len q6, .string f.bs, .int .i64 f.n] 24 (0, 0))))
      have HK7 := Lib.hid (hkp.below (below_alloc w6 (.cells #[.int .i64 f.k, .int .i64 f.i, .int .i64 f.g, .string f.nm, .string f.fn, .int .i64 f.ar, .slice a6 it.len q6, .string f.bs, .int .i64 f.n] 24 (0, 0))) (Nat.le_refl _) (Nat.le_trans hzr hb6.size))
      have HH7 := Lib.hid (heap_alloc_new w6 (.cells #[.int .i64 f.k, .int .i64 f.i, .int .i64 f.g, .string f.nm, .string f.fn, .int .i64 f.ar, .slice a6 it.len q6, .string f.bs, .int .i64 f.n] 24 (0, 0)))
      have hz6 := hb6.size
      have HFr := Lib.hid fun b (hb : wr.heap.size ≤ b) => HX.out.far hb
      replace c0 := below_keep (balloc hb6 (.cells #[.int .i64 f.k, .int .i64 f.i, .int .i64 f.g, .string f.nm, .string f.fn, .int .i64 f.ar, .slice a6 it.len q6, .string f.bs, .int .i64 f.n] 24 (0, 0))) c0
      replace c1 := below_keep (balloc hb6 (.cells #[.int .i64 f.k, .int .i64 f.i, .int .i64 f.g, .string f.nm, .string f.fn, .int .i64 f.ar, .slice a6 it.len q6, .string f.bs, .int .i64 f.n] 24 (0, 0))) c1
      replace c2 := below_keep (balloc hb6 (.cells #[.int .i64 f.k, .int .i64 f.i, .int .i64 f.g, .string f.nm, .string f.fn, .int .i64 f.ar, .slice a6 it.len q6, .string f.bs, .int .i64 f.n] 24 (0, 0))) c2
      replace c3 := below_keep (balloc hb6 (.cells #[.int .i64 f.k, .int .i64 f.i, .int .i64 f.g, .string f.nm, .string f.fn, .int .i64 f.ar, .slice a6 it.len q6, .string f.bs, .int .i64 f.n] 24 (0, 0))) c3
      replace c4 := below_keep (balloc hb6 (.cells #[.int .i64 f.k, .int .i64 f.i, .int .i64 f.g, .string f.nm, .string f.fn, .int .i64 f.ar, .slice a6 it.len q6, .string f.bs, .int .i64 f.n] 24 (0, 0))) c4
      replace c5 := below_keep (balloc hb6 (.cells #[.int .i64 f.k, .int .i64 f.i, .int .i64 f.g, .string f.nm, .string f.fn, .int .i64 f.ar, .slice a6 it.len q6, .string f.bs, .int .i64 f.n] 24 (0, 0))) c5
      replace c6 := below_keep (balloc hb6 (.cells #[.int .i64 f.k, .int .i64 f.i, .int .i64 f.g, .string f.nm, .string f.fn, .int .i64 f.ar, .slice a6 it.len q6, .string f.bs, .int .i64 f.n] 24 (0, 0))) c6
      replace c7 := below_keep (balloc hb6 (.cells #[.int .i64 f.k, .int .i64 f.i, .int .i64 f.g, .string f.nm, .string f.fn, .int .i64 f.ar, .slice a6 it.len q6, .string f.bs, .int .i64 f.n] 24 (0, 0))) c7
      replace c8 := below_keep (balloc hb6 (.cells #[.int .i64 f.k, .int .i64 f.i, .int .i64 f.g, .string f.nm, .string f.fn, .int .i64 f.ar, .slice a6 it.len q6, .string f.bs, .int .i64 f.n] 24 (0, 0))) c8
      clear hkp hb6
      go_upto_region 12 with (fail)
      obtain ⟨w7, hw7⟩ : ∃ w7, w7 = w6.alloc (.cells #[.int .i64 f.k, .int .i64 f.i, .int .i64 f.g, .string f.nm, .string f.fn, .int .i64 f.ar, .slice a6 it.len q6, .string f.bs, .int .i64 f.n] 24 (0, 0)) := ⟨_, rfl⟩
      have hz7 : w6.heap.size < w7.heap.size := by rw [hw7]; simp
      rw [← hw7] at HX7 HK7 HH7 c0 c1 c2 c3 c4 c5 c6 c7 c8 ⊢
      clear hw7
      obtain ⟨d0, d1, d2, d3, d4, d5, d6, d7, d8, -⟩ := nine_cells HH7.out
      have hbr1 := Below.refl w7.heap.size w7
      have hbr2 := hbr1.drew
      have HS1n := Lib.hid (show ¬ S w6.heap.size ∧ ¬ S b from ⟨(HFr.out _ hz6).1, fun hs => by have := (HX7.out.2.2.1 b hs).1; omega⟩)
      have HS2n := Lib.hid (show ¬ S2 w6.heap.size ∧ ¬ S2 b from ⟨(HFr.out _ hz6).2, fun hs => by have := (HX7.out.2.1.lt b hs).1; omega⟩)
      have HSk1 := Lib.hid (show ∀ k, wr.heap.size ≤ k → ¬ S k from fun k hk => (HFr.out k hk).1)
      have HSk2 := Lib.hid (show ∀ k, wr.heap.size ≤ k → ¬ S2 k from fun k hk => (HFr.out k hk).2)
      have hbw7 : b < w7.heap.size := by omega
      have HKk := Lib.hid fun W W' {T : Nat → Prop} (hk : KpS W wr.heap.size w6.heap.size 0 w.heap.size it (.slice a6 it.len q6) (.slice ai it.len ci)) (ho : OutsS T W W') (hT : ∀ k, wr.heap.size ≤ k → ¬ T k) (hb1 : Below w.heap.size w W) (hb2 : Below w.heap.size w W') (hz : w7.heap.size ≤ W.heap.size) => hk.keep (w' := W') (fun k h1 h2 => ho.block k (by omega) (hT k h1)) (fun b o _ hb => (hb2.cell (p := ⟨b, o, none⟩) hb).trans (hb1.cell (p := ⟨b, o, none⟩) hb).symm)
      have HKe := Lib.hid fun W (hk : KpS W wr.heap.size w6.heap.size 0 w.heap.size it (.slice a6 it.len q6) (.slice ai it.len ci)) (hz : w7.heap.size ≤ W.heap.size) => (kept_all it.cnt).1 f it _ _ W wr.heap.size w6.heap.size 0 w.heap.size (Nat.le_refl _) hk (by omega) (by omega)
      by_cases hv : validF f it = true
      · skip
        have HPt := Lib.hid fun W (hb : Below w7.heap.size w7 W) => (Put_ok (HX7.out.below hb).1 (by omega) f it a6 q6 HTm.out hv ((HK7.out.nws.rds.below hb (by omega)).less (Nat.zero_le _) |>.more (by have := hb.size; omega))).mono fun e w8 h => (show e = .returned (.int .i64 0) ∧ (∃ S3, TwoX w w8 w2.heap.size w3.heap.size S3 S2 (m.app (.cons f it .nil)) 0 m 0 v xs ∧ ∀ b, S3 b → S b ∨ w7.heap.size ≤ b) ∧ OutsS S w7 w8 from ⟨h.1, ⟨_, TwoX.left (HX7.out.below hb) h.2.1 (fun b hb => hb) h.2.2, fun b hb2 => hb2.imp id fun h => Nat.le_trans hb.size h.1⟩, (OutsS.of_below hb).trans h.2.2⟩)
        have HPr := Lib.hid fun W S3 (hX : TwoX w W w2.heap.size w3.heap.size S3 S2 (m.app (.cons f it .nil)) 0 m 0 v xs) => (rPut_ok hX.2.1 (by omega) f it ai ci HTm.out hv (HIt.out W hX.2.2.2)).mono fun e w9 h => (show e = .returned (.int .i64 0) ∧ (∃ S4 v4 xs4, TwoX w w9 w2.heap.size w3.heap.size S3 S4 (m.app (.cons f it .nil)) 0 (m.app (.cons f it .nil)) 0 v4 xs4 ∧ ∀ b, S4 b → S2 b ∨ W.heap.size ≤ b) ∧ OutsS S2 W w9 from ⟨h.1, by obtain ⟨v4, xs4, h4⟩ := h.2.1; exact ⟨_, v4, xs4, hX.right h4 (fun b hb => hb) h.2.2, fun b hb => hb.imp id fun h => h.1⟩, h.2.2⟩)
        clear hv
        go_region_held3 (fun w' => w'.cell? ⟨w6.heap.size, 0, none⟩ = some (.int .i64 f.k) ∧ w'.cell? ⟨w6.heap.size, 1, none⟩ = some (.int .i64 f.i) ∧ w'.cell? ⟨w6.heap.size, 2, none⟩ = some (.int .i64 f.g) ∧ w'.cell? ⟨w6.heap.size, 3, none⟩ = some (.string f.nm) ∧ w'.cell? ⟨w6.heap.size, 4, none⟩ = some (.string f.fn) ∧ w'.cell? ⟨w6.heap.size, 5, none⟩ = some (.int .i64 f.ar) ∧ w'.cell? ⟨w6.heap.size, 6, none⟩ = some (.slice a6 it.len q6) ∧ w'.cell? ⟨w6.heap.size, 7, none⟩ = some (.string f.bs) ∧ w'.cell? ⟨w6.heap.size, 8, none⟩ = some (.int .i64 f.n) ∧ w'.cell? ⟨b, ob + k * 9, none⟩ = some (.int .i64 f.k) ∧ w'.cell? ⟨b, ob + k * 9 + 1, none⟩ = some (.int .i64 f.i) ∧ w'.cell? ⟨b, ob + k * 9 + 2, none⟩ = some (.int .i64 f.g) ∧ w'.cell? ⟨b, ob + k * 9 + 3, none⟩ = some (.string f.nm) ∧ w'.cell? ⟨b, ob + k * 9 + 4, none⟩ = some (.string f.fn) ∧ w'.cell? ⟨b, ob + k * 9 + 5, none⟩ = some (.int .i64 f.ar) ∧ w'.cell? ⟨b, ob + k * 9 + 6, none⟩ = some (.slice ai it.len ci) ∧ w'.cell? ⟨b, ob + k * 9 + 7, none⟩ = some (.string f.bs) ∧ w'.cell? ⟨b, ob + k * 9 + 8, none⟩ = some (.int .i64 f.n))
          (first
            | (exact ⟨d0, d1, d2, d3, d4, d5, d6, d7, d8, c0, c1, c2, c3, c4, c5, c6, c7, c8⟩)
            | (go_split_ands; refine ⟨?_, ?_, ?_, ?_, ?_, ?_, ?_, ?_, ?_, ?_, ?_, ?_, ?_, ?_, ?_, ?_, ?_, ?_⟩ <;> first | exact below_keep hb10 (by assumption) | exact outs_cell ho9 (by omega) HS2n.out.1 (by assumption) | exact outs_cell ho9 (by omega) HS2n.out.2 (by assumption) | exact outs_cell HO8.out (by omega) HS1n.out.1 (by assumption) | exact outs_cell HO8.out (by omega) HS1n.out.2 (by assumption)))
          (first
            | (go_at_call 59; ((with_reducible refine (HPt.out _ (by first | exact hbr1 | exact hbr2)).mono ?_); rintro e w8 ⟨rfl, ⟨S3, hX8, hS3⟩, ho8⟩); have HX8 := Lib.hid hX8; have HS3 := Lib.hid hS3; have HO8 := Lib.hid ho8; have hz8 : w7.heap.size ≤ w8.heap.size := HO8.out.size; have HK8 := Lib.hid (HKk.out _ _ HK7.out HO8.out HSk1.out HX7.out.2.2.2 HX8.out.2.2.2 (Nat.le_refl _)))
            | (go_at_call 60; ((with_reducible refine (HPr.out _ _ HX8.out).mono ?_); rintro e w9 ⟨rfl, ⟨S4, v4, xs4, hX9, hS4⟩, ho9⟩); have HX9 := Lib.hid hX9; have HS4 := Lib.hid hS4; have HK9 := Lib.hid (HKk.out _ _ HK8.out ho9 HSk2.out HX8.out.2.2.2 HX9.out.2.2.2 hz8); have hz9 : w8.heap.size ≤ w9.heap.size := ho9.size; have HZ9 := Lib.hid (Nat.le_trans hz8 hz9))
            | (go_at_call 25; ((with_reducible refine (HKe.out _ HK9.out HZ9.out).mono ?_); rintro e w10 ⟨rfl, hb10⟩); have HX10 := Lib.hid (HX9.out.below hb10); have HK10 := Lib.hid (HKk.out _ _ HK9.out (OutsS.of_below (S := fun _ => False) hb10) (fun _ _ h => h) HX9.out.2.2.2 HX10.out.2.2.2 HZ9.out); have HZ10 := Lib.hid (Nat.le_trans HZ9.out hb10.size)))
        have HH10 := Lib.hid (keepB hb10 ((ho9.block w6.heap.size (by omega) HS2n.out.1).trans ((HO8.out.block w6.heap.size hz7 HS1n.out.1).trans HH7.out)))
        have HSp := Lib.hid (HK10.out.nws.sp it.cnt it _ (Nat.le_refl _))
        have HX10' := HX10
        clear c0 c1 c2 c3 c4 c5 c6 c7 c8 d0 d1 d2 d3 d4 d5 d6 d7 d8 hb10 ho9
        obtain ⟨d0, d1, d2, d3, d4, d5, d6, d7, d8, -⟩ := nine_cells HH10.out
        rename_i w10'
        go_wp2_with fail
        refine (Spoil_any f it.cnt it.len a6 q6 _ wr.heap.size w6.heap.size HSp.out (by have := HZ10.out; omega)).mono ?_
        rintro e w11 ⟨rfl, hsp⟩
        have HX11 := Lib.hid (HX10.out.keepT _ (OutsS.of_spw hsp) (fun b hb => ⟨by omega, fun hs => by
          rcases HS3.out b hs with h | h
          · exact HSk1.out b hb.1 h
          · omega, fun hs => by
          rcases HS4.out b hs with h | h
          · exact HSk2.out b hb.1 h
          · omega⟩))
        clear hsp d0 d1 d2 d3 d4 d5 d6 d7 d8
        go_wp2_with fail
        exact ⟨⟨k + 1, _, _, _, _, _, by omega, by go_num, HX11, by (rw [cnt_app]; simp only [TL.cnt]; omega)⟩, by simp only [intOf]; omega⟩
      · have hv := Bool.eq_false_iff.2 hv
        have HPt := Lib.hid fun W (hb : Below w7.heap.size w7 W) => (Put_bad (HX7.out.below hb).1 f it a6 q6 HTm.out hv ((HK7.out.nws.rds.below hb (by omega)).less (Nat.zero_le _) |>.more (by have := hb.size; omega))).mono fun e w8 h => (show e = .returned (.int .i64 2) ∧ (∃ S3, TwoX w w8 w2.heap.size w3.heap.size S3 S2 m 0 m 0 v xs ∧ ∀ b, S3 b → S b ∨ w7.heap.size ≤ b) ∧ OutsS S w7 w8 from ⟨h.1, ⟨S, (HX7.out.below hb).below h.2, fun b hb2 => .inl hb2⟩, OutsS.of_below (bstep hb h.2)⟩)
        have HPr := Lib.hid fun W S3 (hX : TwoX w W w2.heap.size w3.heap.size S3 S2 m 0 m 0 v xs) => (rPut_bad hX.2.1 f it ai ci HTm.out hv (HIt.out W hX.2.2.2)).mono fun e w9 h => (show e = .returned (.int .i64 2) ∧ (∃ S4 v4 xs4, TwoX w w9 w2.heap.size w3.heap.size S3 S4 m 0 m 0 v4 xs4 ∧ ∀ b, S4 b → S2 b ∨ W.heap.size ≤ b) ∧ OutsS S2 W w9 from ⟨h.1, ⟨S2, v, xs, hX.below h.2, fun b hb => .inl hb⟩, OutsS.of_below h.2⟩)
        clear hv
        go_region_held3 (fun w' => w'.cell? ⟨w6.heap.size, 0, none⟩ = some (.int .i64 f.k) ∧ w'.cell? ⟨w6.heap.size, 1, none⟩ = some (.int .i64 f.i) ∧ w'.cell? ⟨w6.heap.size, 2, none⟩ = some (.int .i64 f.g) ∧ w'.cell? ⟨w6.heap.size, 3, none⟩ = some (.string f.nm) ∧ w'.cell? ⟨w6.heap.size, 4, none⟩ = some (.string f.fn) ∧ w'.cell? ⟨w6.heap.size, 5, none⟩ = some (.int .i64 f.ar) ∧ w'.cell? ⟨w6.heap.size, 6, none⟩ = some (.slice a6 it.len q6) ∧ w'.cell? ⟨w6.heap.size, 7, none⟩ = some (.string f.bs) ∧ w'.cell? ⟨w6.heap.size, 8, none⟩ = some (.int .i64 f.n) ∧ w'.cell? ⟨b, ob + k * 9, none⟩ = some (.int .i64 f.k) ∧ w'.cell? ⟨b, ob + k * 9 + 1, none⟩ = some (.int .i64 f.i) ∧ w'.cell? ⟨b, ob + k * 9 + 2, none⟩ = some (.int .i64 f.g) ∧ w'.cell? ⟨b, ob + k * 9 + 3, none⟩ = some (.string f.nm) ∧ w'.cell? ⟨b, ob + k * 9 + 4, none⟩ = some (.string f.fn) ∧ w'.cell? ⟨b, ob + k * 9 + 5, none⟩ = some (.int .i64 f.ar) ∧ w'.cell? ⟨b, ob + k * 9 + 6, none⟩ = some (.slice ai it.len ci) ∧ w'.cell? ⟨b, ob + k * 9 + 7, none⟩ = some (.string f.bs) ∧ w'.cell? ⟨b, ob + k * 9 + 8, none⟩ = some (.int .i64 f.n))
          (first
            | (exact ⟨d0, d1, d2, d3, d4, d5, d6, d7, d8, c0, c1, c2, c3, c4, c5, c6, c7, c8⟩)
            | (go_split_ands; refine ⟨?_, ?_, ?_, ?_, ?_, ?_, ?_, ?_, ?_, ?_, ?_, ?_, ?_, ?_, ?_, ?_, ?_, ?_⟩ <;> first | exact below_keep hb10 (by assumption) | exact outs_cell ho9 (by omega) HS2n.out.1 (by assumption) | exact outs_cell ho9 (by omega) HS2n.out.2 (by assumption) | exact outs_cell HO8.out (by omega) HS1n.out.1 (by assumption) | exact outs_cell HO8.out (by omega) HS1n.out.2 (by assumption)))
          (first
            | (go_at_call 59; ((with_reducible refine (HPt.out _ (by first | exact hbr1 | exact hbr2)).mono ?_); rintro e w8 ⟨rfl, ⟨S3, hX8, hS3⟩, ho8⟩); have HX8 := Lib.hid hX8; have HS3 := Lib.hid hS3; have HO8 := Lib.hid ho8; have hz8 : w7.heap.size ≤ w8.heap.size := HO8.out.size; have HK8 := Lib.hid (HKk.out _ _ HK7.out HO8.out HSk1.out HX7.out.2.2.2 HX8.out.2.2.2 (Nat.le_refl _)))
            | (go_at_call 60; ((with_reducible refine (HPr.out _ _ HX8.out).mono ?_); rintro e w9 ⟨rfl, ⟨S4, v4, xs4, hX9, hS4⟩, ho9⟩); have HX9 := Lib.hid hX9; have HS4 := Lib.hid hS4; have HK9 := Lib.hid (HKk.out _ _ HK8.out ho9 HSk2.out HX8.out.2.2.2 HX9.out.2.2.2 hz8); have hz9 : w8.heap.size ≤ w9.heap.size := ho9.size; have HZ9 := Lib.hid (Nat.le_trans hz8 hz9))
            | (go_at_call 25; ((with_reducible refine (HKe.out _ HK9.out HZ9.out).mono ?_); rintro e w10 ⟨rfl, hb10⟩); have HX10 := Lib.hid (HX9.out.below hb10); have HK10 := Lib.hid (HKk.out _ _ HK9.out (OutsS.of_below (S := fun _ => False) hb10) (fun _ _ h => h) HX9.out.2.2.2 HX10.out.2.2.2 HZ9.out); have HZ10 := Lib.hid (Nat.le_trans HZ9.out hb10.size)))
        have HH10 := Lib.hid (keepB hb10 ((ho9.block w6.heap.size (by omega) HS2n.out.1).trans ((HO8.out.block w6.heap.size hz7 HS1n.out.1).trans HH7.out)))
        have HSp := Lib.hid (HK10.out.nws.sp it.cnt it _ (Nat.le_refl _))
        have HX10' := HX10
        clear c0 c1 c2 c3 c4 c5 c6 c7 c8 d0 d1 d2 d3 d4 d5 d6 d7 d8 hb10 ho9
        obtain ⟨d0, d1, d2, d3, d4, d5, d6, d7, d8, -⟩ := nine_cells HH10.out
        rename_i w10'
        go_wp2_with fail
        refine (Spoil_any f it.cnt it.len a6 q6 _ wr.heap.size w6.heap.size HSp.out (by have := HZ10.out; omega)).mono ?_
        rintro e w11 ⟨rfl, hsp⟩
        have HX11 := Lib.hid (HX10.out.keepT _ (OutsS.of_spw hsp) (fun b hb => ⟨by omega, fun hs => by
          rcases HS3.out b hs with h | h
          · exact HSk1.out b hb.1 h
          · omega, fun hs => by
          rcases HS4.out b hs with h | h
          · exact HSk2.out b hb.1 h
          · omega⟩))
        clear hsp d0 d1 d2 d3 d4 d5 d6 d7 d8
        go_wp2_with fail
        exact ⟨⟨k + 1, _, _, _, _, _, by omega, by go_num, HX11, by omega⟩, by simp only [intOf]; omega⟩
    · have hlt' : ¬ (k : Int) < (l.len : Int) := by omega
      have hlb : decide ((k : Int) < (l.len : Int)) = false := decide_eq_false hlt'
      have hmb : m.cnt ≤ 700000 := by omega
      go_wp2_with fail
      clear hlb hlt hlt' hk hmc
      refine (All_any HX.out.1 (by omega)).mono ?_
      rintro e w5 ⟨aq, cq, rfl, hn, hb5⟩
      have HX5 := Lib.hid (HX.out.below hb5)
      have HSp := Lib.hid (hn.sp m.cnt m _ (Nat.le_refl _))
      have HFr := Lib.hid fun b (hb : wr.heap.size ≤ b) => HX.out.far hb
      have hzr := HX.out.2.2.2.size
      have hz5 := hb5.size
      clear hn hb5
      go_wp2_with fail
      refine (spoil_all m.cnt _ w5 wr.heap.size w5.heap.size HSp.out (Nat.le_refl _)).mono ?_
      rintro e w6 ⟨rfl, hsp⟩
      have HX6 := Lib.hid (HX5.out.keepT _ (OutsS.of_spw hsp) (fun b hb => ⟨by omega, HFr.out b hb.1⟩))
      clear hsp HSp HFr
      obtain ⟨F, L, bq, -, hLc, -, -, hL, -⟩ := look_both m 0 (Nat.zero_le _) (by omega)
      have HL := Lib.hid hL
      clear hL
      go_wp2_with fail
      refine (HL.out _ _ _ HX6.out.1).mono ?_
      rintro e w7 ⟨a7, q7, rfl, hn, hb7⟩
      have HX7 := Lib.hid (HX6.out.below (balloc hb7 (.cells #[.int .i64 F.k, .int .i64 F.i, .int .i64 F.g, .string F.nm, .string F.fn, .int .i64 F.ar, .slice a7 L.len q7, .string F.bs, .int .i64 F.n] 24 (0, 0))))
      have HSp := Lib.hid ((hn.below (below_alloc w7 (.cells #[.int .i64 F.k, .int .i64 F.i, .int .i64 F.g, .string F.nm, .string F.fn, .int .i64 F.ar, .slice a7 L.len q7, .string F.bs, .int .i64 F.n] 24 (0, 0))) (Nat.le_refl _)).sp L.cnt L _ (Nat.le_refl _))
      have HH7 := Lib.hid (heap_alloc_new w7 (.cells #[.int .i64 F.k, .int .i64 F.i, .int .i64 F.g, .string F.nm, .string F.fn, .int .i64 F.ar, .slice a7 L.len q7, .string F.bs, .int .i64 F.n] 24 (0, 0)))
      have HFr := Lib.hid fun b (hb : w6.heap.size ≤ b) => HX6.out.far hb
      have hz6 := HX6.out.2.2.2.size
      have hz7 := hb7.size
      clear hn hb7
      go_upto_region 17 with (fail)
      obtain ⟨w8, hw8⟩ : ∃ w8, w8 = w7.alloc (.cells #[.int .i64 F.k, .int .i64 F.i, .int .i64 F.g, .string F.nm, .string F.fn, .int .i64 F.ar, .slice a7 L.len q7, .string F.bs, .int .i64 F.n] 24 (0, 0)) := ⟨_, rfl⟩
      have hz8 : w7.heap.size < w8.heap.size := by rw [hw8]; simp
      rw [← hw8] at HX7 HSp HH7 ⊢
      clear hw8
      obtain ⟨d0, d1, d2, d3, d4, d5, d6, d7, d8, -⟩ := nine_cells HH7.out
      go_wp2_with fail
      refine (Spoil_any F L.cnt L.len a7 q7 w8 w6.heap.size w7.heap.size HSp.out (by omega)).mono ?_
      rintro e w9 ⟨rfl, hsp⟩
      have HX9 := Lib.hid (HX7.out.keepT _ (OutsS.of_spw hsp) (fun b hb => ⟨by omega, HFr.out b hb.1⟩))
      have HH9 := Lib.hid ((OutsS.of_spw hsp).block w7.heap.size hz8 (fun h => by omega) |>.trans HH7.out)
      have HS7 := Lib.hid (HFr.out w7.heap.size hz7)
      have hz9 := hsp.size
      clear hsp HSp HFr d0 d1 d2 d3 d4 d5 d6 d7 d8
      go_wp2_with fail
      refine (same_any w w9 w2.heap.size w3.heap.size m 0 HX9.out.two (by omega)).mono ?_
      rintro e w10 ⟨rfl, hb10⟩
      have HX10 := Lib.hid (HX9.out.below hb10)
      have HH10 := Lib.hid (keepB hb10 HH9.out)
      have hz10 := hb10.size
      clear hb10
      obtain ⟨F2, L2, b2, m2, p2, hL2, hm2, hT1, hT2⟩ := take_both m 0 (Nat.zero_le _) (by omega)
      have HT1 := Lib.hid hT1
      have HT2 := Lib.hid hT2
      clear hT1 hT2
      go_wp2_with fail
      refine (HT1.out _ _ _ HX10.out.1).mono ?_
      rintro e w11 ⟨⟨a11, q11, rfl, hn⟩, hm11, ho11⟩
      have HX11 := Lib.hid (HX10.out.left hm11 (fun b hb => .inl hb) ho11)
      have HN11 := Lib.hid hn
      have HH11 := Lib.hid ((ho11.block w7.heap.size (by omega) HS7.out.1).trans HH10.out)
      have HFr := Lib.hid fun b (hb : w10.heap.size ≤ b) => HX10.out.far hb
      have hz11 := ho11.size
      clear hn hm11 ho11
      obtain ⟨d0, d1, d2, d3, d4, d5, d6, d7, d8, fd⟩ := nine_cells HH11.out
      go_upto_region 21 with (fail)
      have HO12 := Lib.hid (outs_boxK w11 w7.heap.size (.int .i64 F2.k) (.int .i64 F2.i) (.int .i64 F2.g) (.string F2.nm) (.string F2.fn) (.int .i64 F2.ar) (.slice a11 L2.len q11) (.string F2.bs) (.int .i64 F2.n))
      have HH12 := Lib.hid (nine_blk HH11.out (.int .i64 F2.k) (.int .i64 F2.i) (.int .i64 F2.g) (.string F2.nm) (.string F2.fn) (.int .i64 F2.ar) (.slice a11 L2.len q11) (.string F2.bs) (.int .i64 F2.n))
      obtain ⟨w12, hw12⟩ : ∃ w12, w12 = (((((((((w11.setCell ⟨w7.heap.size, 0, none⟩ (.int .i64 F2.k)).setCell ⟨w7.heap.size, 1, none⟩ (.int .i64 F2.i)).setCell ⟨w7.heap.size, 2, none⟩ (.int .i64 F2.g)).setCell ⟨w7.heap.size, 3, none⟩ (.string F2.nm)).setCell ⟨w7.heap.size, 4, none⟩ (.string F2.fn)).setCell ⟨w7.heap.size, 5, none⟩ (.int .i64 F2.ar)).setCell ⟨w7.heap.size, 6, none⟩ (.slice a11 L2.len q11)).setCell ⟨w7.heap.size, 7, none⟩ (.string F2.bs)).setCell ⟨w7.heap.size, 8, none⟩ (.int .i64 F2.n)) := ⟨_, rfl⟩
      rw [← hw12] at HO12 HH12 ⊢
      clear hw12 d0 d1 d2 d3 d4 d5 d6 d7 d8 fd
      have hz12 := HO12.out.size
      have HX12 := Lib.hid (HX11.out.keepT _ HO12.out (fun b hb => by rw [hb]; exact ⟨by omega, HS7.out⟩))
      have HN12 := Lib.hid (HN11.out.keep (w' := w12) fun k h1 h2 => HO12.out.block k h2 (by omega))
      go_wp2_with fail
      refine (HT2.out _ _ _ _ _ _ _ HX12.out.2.1).mono ?_
      rintro e w13 ⟨⟨a13, q13, rfl, hx⟩, ⟨S4, v4, xs4, hm13, hS4⟩, ho13⟩
      have HX13 := Lib.hid ((HX12.out.right hm13 hS4 ho13).below (below_alloc w13 (.cells #[.int .i64 F2.k, .int .i64 F2.i, .int .i64 F2.g, .string F2.nm, .string F2.fn, .int .i64 F2.ar, .slice a13 L2.len q13, .string F2.bs, .int .i64 F2.n] 24 (0, 0))))
      have HN13 := Lib.hid ((HN12.out.keep (w' := w13) fun k h1 h2 => ho13.block k (by omega) (HFr.out k h1).2).below (below_alloc w13 (.cells #[.int .i64 F2.k, .int .i64 F2.i, .int .i64 F2.g, .string F2.nm, .string F2.fn, .int .i64 F2.ar, .slice a13 L2.len q13, .string F2.bs, .int .i64 F2.n] 24 (0, 0))) (by have := ho13.size; omega))
      have HR13 := Lib.hid ((hx.rds (A := 0) (B := w.heap.size) fun b hb => ⟨Nat.zero_le _, hb⟩).below (below_alloc w13 (.cells #[.int .i64 F2.k, .int .i64 F2.i, .int .i64 F2.g, .string F2.nm, .string F2.fn, .int .i64 F2.ar, .slice a13 L2.len q13, .string F2.bs, .int .i64 F2.n] 24 (0, 0))) (by have := ho13.size; omega))
      have HH13 := Lib.hid (heap_after ((ho13.block w7.heap.size (by omega) HS7.out.2).trans HH12.out) (.cells #[.int .i64 F2.k, .int .i64 F2.i, .int .i64 F2.g, .string F2.nm, .string F2.fn, .int .i64 F2.ar, .slice a13 L2.len q13, .string F2.bs, .int .i64 F2.n] 24 (0, 0)))
      have HI13 := Lib.hid (heap_alloc_new w13 (.cells #[.int .i64 F2.k, .int .i64 F2.i, .int .i64 F2.g, .string F2.nm, .string F2.fn, .int .i64 F2.ar, .slice a13 L2.len q13, .string F2.bs, .int .i64 F2.n] 24 (0, 0)))
      have HS13 := Lib.hid (show ∀ k, w10.heap.size ≤ k → k < w11.heap.size → ¬ S4 k from fun k h1 h2 hs => by
        rcases hS4 k hs with h | h
        · exact (HFr.out k h1).2 h
        · omega)
      have hz13 := ho13.size
      clear hx hm13 hS4 ho13
      go_upto_region 22 with (fail)
      obtain ⟨w14, hw14⟩ : ∃ w14, w14 = w13.alloc (.cells #[.int .i64 F2.k, .int .i64 F2.i, .int .i64 F2.g, .string F2.nm, .string F2.fn, .int .i64 F2.ar, .slice a13 L2.len q13, .string F2.bs, .int .i64 F2.n] 24 (0, 0)) := ⟨_, rfl⟩
      have hz14 : w13.heap.size < w14.heap.size := by rw [hw14]; simp
      rw [← hw14] at HX13 HN13 HR13 HH13 HI13 ⊢
      clear hw14
      obtain ⟨d0, d1, d2, d3, d4, d5, d6, d7, d8, -⟩ := nine_cells HH13.out
      obtain ⟨y0, y1, y2, y3, y4, y5, y6, y7, y8, -⟩ := nine_cells HI13.out
      have hbb : (b2 == b2) = true := by simp
      go_wp2_with fail
      refine (kitSame_eq F2 L2 a11 a13 q11 q13 w14 ((HN13.out.rds.less (Nat.zero_le _)).more (by omega)) (HR13.out.more (by omega))).mono ?_
      rintro e w15 ⟨rfl, hb15⟩
      have HX15 := Lib.hid (HX13.out.below hb15)
      have HH15 := Lib.hid (keepB hb15 HH13.out)
      have HSp := Lib.hid ((HN13.out.below hb15 (by omega)).sp L2.cnt L2 _ (Nat.le_refl _))
      have hz15 := hb15.size
      clear hb15 d0 d1 d2 d3 d4 d5 d6 d7 d8 y0 y1 y2 y3 y4 y5 y6 y7 y8 hbb
      obtain ⟨d0, d1, d2, d3, d4, d5, d6, d7, d8, -⟩ := nine_cells HH15.out
      go_wp2_with fail
      refine (Spoil_any F2 L2.cnt L2.len a11 q11 w15 w10.heap.size w11.heap.size HSp.out (by omega)).mono ?_
      rintro e w16 ⟨rfl, hsp⟩
      have HX16 := Lib.hid (HX15.out.keepT _ (OutsS.of_spw hsp) (fun b hb => ⟨by omega, (HFr.out b hb.1).1, HS13.out b hb.1 hb.2⟩))
      clear hsp d0 d1 d2 d3 d4 d5 d6 d7 d8
      go_wp2_with fail
      refine (same_any w w16 w2.heap.size w3.heap.size m2 p2 HX16.out.two (by omega)).mono ?_
      rintro e w17 ⟨rfl, hb17⟩
      have HX17 := Lib.hid (HX16.out.below hb17)
      clear hb17
      go_wp2_with fail
      go_ret
      exact ⟨rfl, HX17.out.2.2.2⟩
end Go.Proofs.Ytgbaelkoblnlhaa
