/-
  Walks: the law MailboxRuns: for every sequence of calls, each returns what the document says, and so do At, Len, All and Look after it.
-/
import Derived.Test.YtgbaelkoblnlhaaDoes
import Derived.Test.YtgbaelkoblnlhaaOne
import Derived.Test.YtgbaelkoblnlhaaOps
import Derived.Test.YtgbaelkoblnlhaaGreat
namespace Go.Proofs.Ytgbaelkoblnlhaa
open Go.RowKit
theorem tame_at3 {l : TL} {k : Nat} {f : Fd} {it r : TL} (hc : l.cnt ≤ 1000000) (hs : l.small 1000000) (hd : l.drop k = .cons f it r) : tame f it := by
  have key : ∀ (l : TL) (k : Nat), l.small 1000000 → (l.drop k).small 1000000 := by
    intro l
    induction l with
    | nil => intro k _; cases k <;> trivial
    | cons f it r _ ih =>
      intro k h
      cases k with
      | zero => exact h
      | succ k => exact ih k h.2.2.2.2
  have h1 := l.cnt_drop k
  rw [hd] at h1
  simp only [TL.cnt] at h1
  have h2 := key l k hs
  rw [hd] at h2
  exact ⟨by omega, h2.1, h2.2.1, h2.2.2.1, h2.2.2.2.1⟩
theorem del_cnt14 : ∀ (l : TL) (p : Nat), (l.del p).cnt ≤ l.cnt
  | .nil, p => by cases p <;> exact Nat.le_refl _
  | .cons f it r, 0 => by rw [TL.del_zero]; simp only [TL.cnt]; omega
  | .cons f it r, p + 1 => by rw [TL.del_succ]; have := del_cnt14 r p; simp only [TL.cnt]; omega
set_option maxRecDepth 100000 in
set_option maxHeartbeats 4000000 in
theorem great_any (ks : Nat → Int) (l : TL) (v : Value) (w : World) (hO : RdO w ks l v) (hb : l.len ≤ 1172812402926) :
    Calls Try.prog 68 #[v, .int .i64 6000] w fun e w' => e = .returned (.bool (decide (300 < l.len) || decide (leftF l 6000 < 0))) ∧ Below w.heap.size w w' := by
  generalize hB : (decide (300 < l.len) || decide (leftF l 6000 < 0)) = Bq
  have HBq := Lib.hid hB
  clear hB
  obtain ⟨ao, cap, rfl, -, -, hO⟩ := hO
  have HO := Lib.hid hO
  have hlb0 : (l.len : Int) ≤ 1172812402926 := by omega
  obtain ⟨i0, hi0, hz0, hz1, hz2⟩ := info_parts Try.info24
  clear hO
  go_enter Try.func68, Try.ntmps68
  go_wp2_with fail
  go_loopw [5, 6] (fun v i wr => ∃ (k : Nat) (xs : List Value), k ≤ l.len ∧ i = .int .i64 k ∧ Hid (wr.ownsRow w.heap.size 24 9 v k xs) ∧ Hid (RdXL wr (fun b => b < w.heap.size) (l.take k) xs) ∧ Hid (Below w.heap.size w wr)) (fun _ i _ => l.len - (intOf i).toNat)
  case atStart => exact ⟨0, [], Nat.zero_le _, rfl, Lib.hid (World.ownsRow_nil _ _ _ _), Lib.hid (by rw [TL.take_zero]; rfl), Lib.hid (Below.refl _ _)⟩
  case round =>
    rename_i wr
    obtain ⟨k, xs, hk, rfl, HW, HX, HB⟩ := hrel
    have hz := HB.out.size
    obtain ⟨va, vc, hva⟩ := own_slice HW.out
    subst hva
    by_cases hlt : k < l.len
    · skip
      have hlt' : (k : Int) < (l.len : Int) := by omega
      have hlb : decide ((k : Int) < (l.len : Int)) = true := decide_eq_true hlt'
      have hne : l ≠ .nil := fun e => by rw [e] at hlt; simp [TL.len] at hlt
      obtain ⟨b, o, rfl, hbw, hcell⟩ := HO.out hne
      obtain ⟨f, it, hd⟩ := l.drop_at k hlt
      obtain ⟨ai, ci, hc, hi⟩ := hcell k f it _ hd
      have HIt := Lib.hid hi
      have HD := Lib.hid hd
      have c1 : wr.cell? ⟨b, o + k * 10 + 1, none⟩ = some _ := ((HB.out).cell (p := ⟨b, o + k * 10 + 1, none⟩) hbw).trans (hc 1 _ rfl)
      have c2 : wr.cell? ⟨b, o + k * 10 + 2, none⟩ = some _ := ((HB.out).cell (p := ⟨b, o + k * 10 + 2, none⟩) hbw).trans (hc 2 _ rfl)
      have c3 : wr.cell? ⟨b, o + k * 10 + 3, none⟩ = some _ := ((HB.out).cell (p := ⟨b, o + k * 10 + 3, none⟩) hbw).trans (hc 3 _ rfl)
      have c4 : wr.cell? ⟨b, o + k * 10 + 4, none⟩ = some _ := ((HB.out).cell (p := ⟨b, o + k * 10 + 4, none⟩) hbw).trans (hc 4 _ rfl)
      have c5 : wr.cell? ⟨b, o + k * 10 + 5, none⟩ = some _ := ((HB.out).cell (p := ⟨b, o + k * 10 + 5, none⟩) hbw).trans (hc 5 _ rfl)
      have c6 : wr.cell? ⟨b, o + k * 10 + 6, none⟩ = some _ := ((HB.out).cell (p := ⟨b, o + k * 10 + 6, none⟩) hbw).trans (hc 6 _ rfl)
      have c7 : wr.cell? ⟨b, o + k * 10 + 7, none⟩ = some _ := ((HB.out).cell (p := ⟨b, o + k * 10 + 7, none⟩) hbw).trans (hc 7 _ rfl)
      have c8 : wr.cell? ⟨b, o + k * 10 + 8, none⟩ = some _ := ((HB.out).cell (p := ⟨b, o + k * 10 + 8, none⟩) hbw).trans (hc 8 _ rfl)
      have c9 : wr.cell? ⟨b, o + k * 10 + 9, none⟩ = some _ := ((HB.out).cell (p := ⟨b, o + k * 10 + 9, none⟩) hbw).trans (hc 9 _ rfl)
      clear hc hcell hd hi
      go_wp2_with (at_builtin; refine wpList_append_own_at _ rfl (.tmp 13) (.tmp 19) 22 rfl w.heap.size 24 i0 zeroV 9 112 Try.underlying22 hi0 hz0 hz1 hz2 rfl (by decide) _ k xs rfl (HW.out.alloc _) ⟨wr.heap.size, 0, none⟩ 1 1 (f.cells (.slice ai it.len ci)) rfl rfl (news_one (heap_alloc_new _ _)) (cells_one f ai it.len ci) (by unfold maxLen; omega) (by omega) (by simp; omega) ?_; intro v1 w3 hown3 hgrow3 _ _)
      have HB3 := Lib.hid (show Below w.heap.size w w3 from (balloc HB.out _).grown hgrow3 (by simp; omega) fun j e => (HW.out.lt j e).1)
      have HX3 := Lib.hid (show RdXL w3 (fun b => b < w.heap.size) (l.take (k + 1)) (xs ++ f.cells (.slice ai it.len ci)) by
        rw [take_snoc l k f it _ HD.out]
        have hkk : ∀ b o, b < w.heap.size → w3.cell? ⟨b, o, none⟩ = w.cell? ⟨b, o, none⟩ := fun b o hb => HB3.out.cell (p := ⟨b, o, none⟩) hb
        exact RdXL.app (RdXL.keep2 (fun _ h => h) (fun b o hb => (hkk b o hb).trans (HB.out.cell (p := ⟨b, o, none⟩) hb).symm) HX.out) (RdXL.single ((HIt.out.x fun _ _ h => h).keep2 (fun _ h => h) hkk)))
      have HW3 := Lib.hid hown3
      clear hown3 hgrow3
      refine ⟨⟨k + 1, _, by omega, by go_num, HW3, HX3, HB3⟩, by simp only [intOf]; omega⟩
    · have hlt' : ¬ (k : Int) < (l.len : Int) := by omega
      have hlb : decide ((k : Int) < (l.len : Int)) = false := decide_eq_false hlt'
      obtain rfl : k = l.len := by omega
      have HR := Lib.hid (show RdS wr 0 wr.heap.size l (.slice va l.len vc) from RdS.of_owns HW.out rfl (Nat.zero_le _) (Nat.le_refl _) (by
        have h := HX.out
        rw [take_all _ _ (Nat.le_refl _)] at h
        have key : ∀ (m : TL) (ys : List Value), RdXL wr (fun b => b < w.heap.size) m ys → RdL wr 0 wr.heap.size m ys := by
          intro m
          induction m with
          | nil => intro ys h; exact h
          | cons f it r _ ihr =>
            rintro ys ⟨iv, rest, e, hi, hr⟩
            exact ⟨iv, rest, e, hi.rds fun b hb => ⟨Nat.zero_le _, by omega⟩, ihr rest hr⟩
        exact key l xs h))
      by_cases h3 : 300 < l.len
      · have hd3 : decide ((300 : Int) < (l.len : Int)) = true := by simp; omega
        have h3' : (300 : Int) < (l.len : Int) := by omega
        obtain rfl : Bq = true := by rw [← HBq.out, decide_eq_true h3]; rfl
        clear h3
        go_wp2_with fail
        go_ret
        exact ⟨rfl, HB.out⟩
      · have hd3 : decide ((300 : Int) < (l.len : Int)) = false := by simp; omega
        have h3' : ¬ (300 : Int) < (l.len : Int) := by omega
        have HB2q := Lib.hid (show decide (leftF l 6000 < 0) = Bq by rw [← HBq.out, decide_eq_false h3]; rfl)
        clear HBq
        clear h3
        go_wp2_with fail
        refine (Great_any l _ wr 0 wr.heap.size 6000 HR.out (Nat.le_refl _) (by decide) (by decide)).mono ?_
        rintro e w4 ⟨he4, hb4⟩
        obtain rfl := he4.trans (show _ = Ending.returned (.bool Bq) by rw [HB2q.out])
        have HB4 := Lib.hid (HB.out.trans (hb4.mono hz))
        clear hb4 he4
        go_wp2_with fail
        go_ret
        exact ⟨rfl, HB4.out⟩
theorem does_any (w0 w : World) (B R : Nat) (l : TL) (p : Nat) (h : Two w0 w B R l p) (hc : l.cnt ≤ 900000000) (K : Int) (f : Fd) (it : TL) (ai : Option Addr) (ci : Nat) (ht : tame f it) (hs : RdXS w0 (fun b => b < w0.heap.size) it (.slice ai it.len ci)) :
    Calls Try.prog 69 #[.pointer (some ⟨B, 0, none⟩), .pointer (some ⟨R, 0, none⟩), .agg #[.int .i64 K, .int .i64 f.k, .int .i64 f.i, .int .i64 f.g, .string f.nm, .string f.fn, .int .i64 f.ar, .slice ai it.len ci, .string f.bs, .int .i64 f.n]] w fun e w' => e = .returned (.bool true) ∧ ∃ l' p', Two w0 w' B R l' p' ∧ l'.cnt ≤ l.cnt + it.cnt + 1 := by
  have hp := h.pos
  obtain ⟨S, S2, v, xs, hx⟩ := h
  have hX : TwoX w0 w B R S S2 l p l p v xs := hx
  have hm : 0 ≤ K % 6 ∧ K % 6 < 6 := ⟨Int.emod_nonneg _ (by decide), Int.emod_lt_of_pos _ (by decide)⟩
  have hput : ∀ k6 : Int, (k6 = 0 ∨ k6 = 5) → K % 6 = k6 → Calls Try.prog 69 #[.pointer (some ⟨B, 0, none⟩), .pointer (some ⟨R, 0, none⟩), .agg #[.int .i64 K, .int .i64 f.k, .int .i64 f.i, .int .i64 f.g, .string f.nm, .string f.fn, .int .i64 f.ar, .slice ai it.len ci, .string f.bs, .int .i64 f.n]] w fun e w' => e = .returned (.bool true) ∧ ∃ l' p', Two w0 w' B R l' p' ∧ l'.cnt ≤ l.cnt + it.cnt + 1 := fun k6 h6 hK => by
    by_cases hv : validF f it = true
    · exact (does_put hX (by omega) K k6 h6 hK f it ai ci ht hv hs).mono fun _ _ q => ⟨q.1, _, _, q.2, by rw [cnt_app]; simp only [TL.cnt]; omega⟩
    · exact (does_bad hX K k6 h6 hK f it ai ci ht (Bool.eq_false_iff.2 hv) hs).mono fun _ _ q => ⟨q.1, _, _, q.2, by omega⟩
  have hcase : K % 6 = 0 ∨ K % 6 = 1 ∨ K % 6 = 2 ∨ K % 6 = 3 ∨ K % 6 = 4 ∨ K % 6 = 5 := by omega
  rcases hcase with hK | hK | hK | hK | hK | hK
  · exact hput 0 (.inl rfl) hK
  · exact (does_look hX (by omega) K hK f it ai ci).mono fun _ _ q => ⟨q.1, _, _, q.2, by omega⟩
  · by_cases hl : p < l.len
    · exact (does_skip hX (by omega) K hK f it ai ci hl).mono fun _ _ q => ⟨q.1, _, _, q.2, by omega⟩
    · exact (does_skipno hX K hK f it ai ci (by omega)).mono fun _ _ q => ⟨q.1, _, _, q.2, by omega⟩
  · by_cases hl : p < l.len
    · exact (does_take hX (by omega) K hK f it ai ci hl).mono fun _ _ q => ⟨q.1, _, _, q.2, by have := del_cnt14 l p; omega⟩
    · exact (does_takeno hX K hK f it ai ci (by omega)).mono fun _ _ q => ⟨q.1, _, _, q.2, by omega⟩
  · exact (does_rewind hX K hK f it ai ci).mono fun _ _ q => ⟨q.1, _, _, q.2, by omega⟩
  · exact hput 5 (.inr rfl) hK
set_option maxRecDepth 100000 in
set_option maxHeartbeats 4000000 in
theorem runs_main (ks : Nat → Int) (l : TL) (v : Value) (w : World) (hO : RdO w ks l v) (hb : l.len ≤ 1172812402926) : Calls Try.prog 12 #[v] w (Yes w) := by
  have HGr := Lib.hid fun W (hB : Below w.heap.size w W) => great_any ks l v W (hO.below hB) hb
  obtain ⟨ao, cap, rfl, -, -, hO⟩ := hO
  have HO := Lib.hid hO
  have hlb0 : (l.len : Int) ≤ 1172812402926 := by omega
  clear hO
  go_enter Try.func12, Try.ntmps12
  go_wp2_with fail
  refine (shown14 _).mono ?_
  rintro e w1 ⟨rfl, hb1⟩
  have HB1 := Lib.hid hb1
  clear hb1
  go_wp2_with fail
  refine (HGr.out _ HB1.out).mono ?_
  rintro e w2 ⟨he2, hb2⟩
  have HB2 := Lib.hid (bstep HB1.out hb2)
  clear hb2 HGr
  by_cases hg : 300 < l.len ∨ leftF l 6000 < 0
  · obtain rfl := he2.trans (show _ = Ending.returned (.bool true) by rcases hg with h | h <;> simp [h])
    go_wp2_with fail
    go_ret
    exact ⟨rfl, HB2.out⟩
  · obtain rfl := he2.trans (show _ = Ending.returned (.bool false) by simp; omega)
    have hl3 : l.len ≤ 300 := by omega
    have hg2 : 0 ≤ leftF l 6000 := by omega
    have hlc := leftF_cnt _ _ hg2
    have hlr := (leftF_range l 6000 (by decide)).1
    have HCn := Lib.hid (show l.cnt ≤ 6000 by omega)
    have HSm := Lib.hid (TL.small_mono (m' := 1000000) (by decide) _ hlc.2)
    clear hg hg2 hlc hlr he2
    go_wp2_with fail
    refine (New_any w2).mono ?_
    rintro e w3 ⟨rfl, h3, hb3, hz3⟩
    have HM3 := Lib.hid h3
    have HB3 := Lib.hid (HB2.out.trans (hb3.mono HB2.out.size))
    have HZ3 := Lib.hid hz3
    clear h3 hb3 hz3
    go_upto_region 6 with (fail)
    have HTw := Lib.hid (show Two w (w3.alloc (.cells #[.slice none 0 0, .int .i64 0] 62 (0, 0))) w2.heap.size w3.heap.size .nil 0 from
      ⟨_, fun b => b = w3.heap.size, .slice none 0 0, [], ⟨_, HM3.out.below (below_alloc w3 _)⟩, ⟨heap_alloc_new w3 _, World.ownsRow_nil _ _ _ _, rfl, Nat.le_refl _, rfl, fun g hg => by (cases hg), fun b hb => by have := HB3.out.size; simp; omega, fun b hb => hb, by have := HB3.out.size; simp; omega⟩, fun b hb => by have := HB2.out.size; have := HZ3.out; omega, HB3.out.alloc HB3.out.size _⟩)
    obtain ⟨w4, hw4⟩ : ∃ w4, w4 = w3.alloc (.cells #[.slice none 0 0, .int .i64 0] 62 (0, 0)) := ⟨_, rfl⟩
    rw [← hw4] at HTw ⊢
    clear hw4
    go_wp2_with fail
    refine (same_any w w4 w2.heap.size w3.heap.size .nil 0 HTw.out (by decide)).mono ?_
    rintro e w5 ⟨rfl, hb5⟩
    have HT5 := Lib.hid (HTw.out.below hb5)
    clear hb5 HTw
    go_wp2_with fail
    go_loopw [5] (fun i wr => ∃ (k : Nat) (m : TL) (p : Nat), k ≤ l.len ∧ i = .int .i64 k ∧ Hid (Two w wr w2.heap.size w3.heap.size m p) ∧ m.cnt ≤ k * 7000) (fun i _ => l.len - (intOf i).toNat)
    case atStart => exact ⟨0, .nil, 0, Nat.zero_le _, rfl, HT5, Nat.zero_le _⟩
    case round =>
      clear HT5
      rename_i wr
      obtain ⟨k, m, p, hk, rfl, HT, hmc⟩ := hrel
      by_cases hlt : k < l.len
      · have hlt' : (k : Int) < (l.len : Int) := by omega
        have hlb : decide ((k : Int) < (l.len : Int)) = true := decide_eq_true hlt'
        have hne : l ≠ .nil := fun e => by rw [e] at hlt; simp [TL.len] at hlt
        obtain ⟨b, o, rfl, hbw, hcell⟩ := HO.out hne
        obtain ⟨f, it, hd⟩ := l.drop_at k hlt
        obtain ⟨ai, ci, hc, hi⟩ := hcell k f it _ hd
        have HIt := Lib.hid (hi.x (S := fun b => b < w.heap.size) fun _ _ h => h)
        have HTm := Lib.hid (tame_at3 (by have := HCn.out; omega) HSm.out hd)
        have hcit : it.cnt ≤ 6000 := by have q := l.cnt_drop k; rw [hd] at q; simp only [TL.cnt] at q; have := HCn.out; omega
        have c0 : wr.cell? ⟨b, o + k * 10, none⟩ = some _ := (HT.out.base.cell (p := ⟨b, o + k * 10 + 0, none⟩) hbw).trans (hc 0 _ rfl)
        have c1 : wr.cell? ⟨b, o + k * 10 + 1, none⟩ = some _ := (HT.out.base.cell (p := ⟨b, o + k * 10 + 1, none⟩) hbw).trans (hc 1 _ rfl)
        have c2 : wr.cell? ⟨b, o + k * 10 + 2, none⟩ = some _ := (HT.out.base.cell (p := ⟨b, o + k * 10 + 2, none⟩) hbw).trans (hc 2 _ rfl)
        have c3 : wr.cell? ⟨b, o + k * 10 + 3, none⟩ = some _ := (HT.out.base.cell (p := ⟨b, o + k * 10 + 3, none⟩) hbw).trans (hc 3 _ rfl)
        have c4 : wr.cell? ⟨b, o + k * 10 + 4, none⟩ = some _ := (HT.out.base.cell (p := ⟨b, o + k * 10 + 4, none⟩) hbw).trans (hc 4 _ rfl)
        have c5 : wr.cell? ⟨b, o + k * 10 + 5, none⟩ = some _ := (HT.out.base.cell (p := ⟨b, o + k * 10 + 5, none⟩) hbw).trans (hc 5 _ rfl)
        have c6 : wr.cell? ⟨b, o + k * 10 + 6, none⟩ = some _ := (HT.out.base.cell (p := ⟨b, o + k * 10 + 6, none⟩) hbw).trans (hc 6 _ rfl)
        have c7 : wr.cell? ⟨b, o + k * 10 + 7, none⟩ = some _ := (HT.out.base.cell (p := ⟨b, o + k * 10 + 7, none⟩) hbw).trans (hc 7 _ rfl)
        have c8 : wr.cell? ⟨b, o + k * 10 + 8, none⟩ = some _ := (HT.out.base.cell (p := ⟨b, o + k * 10 + 8, none⟩) hbw).trans (hc 8 _ rfl)
        have c9 : wr.cell? ⟨b, o + k * 10 + 9, none⟩ = some _ := (HT.out.base.cell (p := ⟨b, o + k * 10 + 9, none⟩) hbw).trans (hc 9 _ rfl)
        clear hc hcell hd hi hne
        go_wp2_with fail
        refine (does_any w wr w2.heap.size w3.heap.size m p HT.out (by omega) (ks k) f it ai ci HTm.out HIt.out).mono ?_
        rintro e w6 ⟨rfl, m', p', h6, hc6⟩
        have HT6 := Lib.hid h6
        clear h6 c0 c1 c2 c3 c4 c5 c6 c7 c8 c9
        go_wp2_with fail
        refine (same_any w w6 w2.heap.size w3.heap.size m' p' HT6.out (by omega)).mono ?_
        rintro e w7 ⟨rfl, hb7⟩
        have HT7 := Lib.hid (HT6.out.below hb7)
        clear hb7 HT6
        go_wp2_with fail
        exact ⟨⟨k + 1, m', p', by omega, by go_num, HT7, by omega⟩, by simp only [intOf]; omega⟩
      · have hlt' : ¬ (k : Int) < (l.len : Int) := by omega
        have hlb : decide ((k : Int) < (l.len : Int)) = false := decide_eq_false hlt'
        go_wp2_with fail
        go_ret
        exact ⟨rfl, HT.out.base⟩
end Go.Proofs.Ytgbaelkoblnlhaa
