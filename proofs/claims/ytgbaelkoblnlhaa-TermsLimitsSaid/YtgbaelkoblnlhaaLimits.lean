/-
  Walks: the law TermsLimits: at each limit of a term it is valid, and beyond it it is not.
-/
import Derived.Test.YtgbaelkoblnlhaaLimLaw
import Derived.Test.YtgbaelkoblnlhaaShown2
import Derived.Test.YtgbaelkoblnlhaaPick
import Derived.Deep.DeepCutAuto
namespace Go.Proofs.Ytgbaelkoblnlhaa
open Go.RowKit
theorem pick_nat (n : Int) (m : Nat) (hm : 1 ≤ m) : ∃ N : Nat, n % (m : Int) = (N : Int) ∧ N < m := by
  have h1 := Int.emod_nonneg n (show (m : Int) ≠ 0 by omega)
  have h2 := Int.emod_lt_of_pos n (show 0 < (m : Int) by omega)
  exact ⟨(n % m).toNat, by omega, by omega⟩
theorem pick_at (n m : Int) (N : Nat) (h : n % m = (N : Int)) (hm : 1 ≤ m) (hm2 : m ≤ 1000000) (W : World) : Calls Try.prog 26 #[.int .i64 n, .int .i64 m] W fun e w' => e = .returned (.int .i64 (N : Int)) ∧ W = w' :=
  (Pick_any n m W hm hm2).mono fun e w' h' => ⟨h'.1.trans (by rw [h]), h'.2⟩
set_option maxRecDepth 100000 in
set_option maxHeartbeats 4000000 in
theorem limits_any (n1 n2 n3 : Int) (w : World) : Calls Try.prog 5 #[.int .i64 n1, .int .i64 n2, .int .i64 n3] w (Yes w) := by
  obtain ⟨N1, hN1, hb1'⟩ := pick_nat n1 257 (by decide)
  obtain ⟨N2, hN2, hb2'⟩ := pick_nat n2 16386 (by decide)
  obtain ⟨N3, hN3, hb3'⟩ := pick_nat n3 200 (by decide)
  have HP1 := Lib.hid fun W => pick_at n1 257 N1 hN1 (by decide) (by decide) W
  have HP2 := Lib.hid fun W => pick_at n2 16386 N2 hN2 (by decide) (by decide) W
  have HP3 := Lib.hid fun W => pick_at n3 200 N3 hN3 (by decide) (by decide) W
  obtain ⟨C1, F1, L1, t1, t2, t3⟩ := tup_lim (fun j => (j : Int)) N1 (by omega)
  obtain ⟨C2, F2, L2, t4, t5, t6⟩ := lst_lim (fun _ => 7) (900 + N3) (by omega) (by omega)
  have HT1 := Lib.hid t1
  have HT2 := Lib.hid t2
  have HT3 := Lib.hid t3
  have HT4 := Lib.hid t4
  have HT5 := Lib.hid t5
  have HT6 := Lib.hid t6
  obtain ⟨i0, hi0, hz0, hz1, hz2'⟩ := info_parts Try.info24
  obtain ⟨i8, hi8, hy0, hy1, hy2⟩ := info_parts Try.info5
  have M1 := Lib.hid (show i8.bytes * ((N2 + 7) / 8) ≤ 281474976710656 by rw [hy2]; omega)
  have M2 := Lib.hid (show (N2 + 7) / 8 ≤ maxLen by unfold maxLen; omega)
  clear hN1 hN2 hN3 t1 t2 t3 t4 t5 t6
  go_enter Try.func5, Try.ntmps5
  go_wp2_with fail
  refine (shown_any _).mono ?_
  rintro e w1 ⟨rfl, hb1⟩
  have HB := Lib.hid hb1
  clear hb1
  go_wp2_with fail
  refine (HP1.out _).mono ?_
  rintro e wz ⟨rfl, rfl⟩
  go_wp2_with fail
  go_loopw [8, 9] (fun v i wr => ∃ k : Nat, k ≤ N1 ∧ i = .int .i64 k ∧ Hid (wr.ownsRow w.heap.size 24 9 v k (rowC (fun j => (j : Int)) k)) ∧ Hid (Below w.heap.size w wr)) (fun _ i _ => N1 - (intOf i).toNat)
  case atStart => exact ⟨0, Nat.zero_le _, rfl, Lib.hid (World.ownsRow_nil _ _ _ _), HB⟩
  case round =>
    obtain ⟨k, hk, rfl, HO, HB⟩ := hrel
    by_cases hlt : k < N1
    · have hlt' : (k : Int) < (N1 : Int) := by omega
      have hlb : decide ((k : Int) < (N1 : Int)) = true := decide_eq_true hlt'
      have hz := HB.out.size
      go_wp2_with fail
      refine (show Calls Try.prog 32 #[.int .i64 (k : Int)] wr fun e w' => e = .returned (.agg #[.int .i64 1, .int .i64 (k : Int), .int .i64 0, .string ⟨#[]⟩, .string ⟨#[]⟩, .int .i64 0, .slice none 0 0, .string ⟨#[]⟩, .int .i64 0]) ∧ Below wr.heap.size wr w' from pInt_any (k : Int) wr).mono ?_
      rintro e w2 ⟨rfl, hb2⟩
      have HB2 := Lib.hid hb2
      have hz2 := hb2.size
      have HO2 := Lib.hid (own_below HO.out hb2 (Nat.le_refl _))
      have HRow := Lib.hid HO.out.lt
      clear hb2
      go_wp2_with (at_builtin; refine wpList_append_own _ rfl (.tmp 25) (.tmp 28) 22 rfl w.heap.size 24 i0 zeroV 9 112 Try.underlying22 hi0 hz0 hz1 hz2' rfl (by decide) _ k (rowC (fun j => (j : Int)) k) rfl (HO2.out.alloc _) ⟨w2.heap.size, 0, none⟩ 1 1 ((intF (k : Int)).cells (.slice none 0 0)) rfl rfl (news_one (heap_alloc_new _ _)) (cells_one (intF (k : Int)) none 0 0) (by unfold maxLen; omega) (by omega) (by simp; omega) ?_; intro v' w3 hown3 hgrow3 _)
      have HB3 := Lib.hid (below_chain2 HB.out HB2.out hgrow3 hz fun j hj => (HRow.out j hj).1)
      refine ⟨⟨k + 1, by omega, by go_num, Lib.hid hown3, HB3⟩, by simp only [intOf]; omega⟩
    · have hlt' : ¬ (k : Int) < (N1 : Int) := by omega
      have hlb : decide ((k : Int) < (N1 : Int)) = false := decide_eq_false hlt'
      rw [show k = N1 by omega] at HO
      have hzB := HB.out.size

      have HR := Lib.hid (rowI_own HO.out)
      clear HO
      go_wp2_with fail
      refine (HT1.out _ _ HR.out).mono ?_
      rintro e w2 ⟨a2, c2, rfl, hn2, hb2⟩
      have HF := Lib.hid ((show Bk w2 [.nw wr.heap.size w2.heap.size L1 (.slice a2 L1.len c2), .base w] from ⟨⟨hn2, hb2.size, Nat.le_refl _⟩, bstep HB.out hb2, trivial⟩).box #[.int .i64 F1.k, .int .i64 F1.i, .int .i64 F1.g, .string F1.nm, .string F1.fn, .int .i64 F1.ar, .slice a2 L1.len c2, .string F1.bs, .int .i64 F1.n])
      clear hn2 hb2 HB HR
      go_upto_region 10 with (fail)
      obtain ⟨w3, hw3⟩ : ∃ w3, w3 = w2.alloc (.cells #[.int .i64 F1.k, .int .i64 F1.i, .int .i64 F1.g, .string F1.nm, .string F1.fn, .int .i64 F1.ar, .slice a2 L1.len c2, .string F1.bs, .int .i64 F1.n] 24 (0, 0)) := ⟨_, rfl⟩
      have hzw : w2.heap.size < w3.heap.size := by rw [hw3]; simp
      rw [← hw3] at HF ⊢
      clear hw3
      go_cut [55] (fun s55 wx => s55 = .bool false ∧ Hid (Bk wx [.blk w2.heap.size #[.int .i64 F1.k, .int .i64 F1.i, .int .i64 F1.g, .string F1.nm, .string F1.fn, .int .i64 F1.ar, .slice a2 L1.len c2, .string F1.bs, .int .i64 F1.n], .base w]) ∧ Hid (w.heap.size ≤ w2.heap.size ∧ w2.heap.size < wx.heap.size))
      case first =>
        have hw2 : w.heap.size ≤ w2.heap.size := by have := (HF.out.base 2 rfl).size; have := (HF.out.nw 1 rfl).2.1; omega
        rcases HT3.out with ⟨hc, rfl, hs⟩ | ⟨hc, rfl⟩
        · have hgd : decide ((N1 : Int) ≤ 255) = true := by simp; omega
          have hge : decide ((255 : Int) < (N1 : Int)) = false := by simp; omega
          have HS := Lib.hid hs
          obtain ⟨c0, c1, c2, c3, c4, c5, c6, c7, c8, -⟩ := nine_cells (HF.out.blk 0 rfl)
          clear hc hs
          go_wp2_with fail
          refine (pSize_any F1 L1 _ _ _ _ HT2.out (HF.out.nw0 1 rfl) (Nat.le_refl _)).mono ?_
          rintro e w4 ⟨he4, hb4⟩
          obtain rfl := he4.trans (show _ = Ending.returned (.int .i64 ((N1 : Int) + 1)) by rw [HS.out])
          have HF := Lib.hid (HF.out.below hb4)
          have hz4 := hb4.size
          clear hb4 he4 c0 c1 c2 c3 c4 c5 c6 c7 c8
          go_wp2_with fail
          go_meet
          exact ⟨rfl, Lib.hid ⟨HF.out.blk 0 rfl, HF.out.base 2 rfl, trivial⟩, Lib.hid ⟨hw2, by omega⟩⟩
        · have hgd : decide ((N1 : Int) ≤ 255) = false := by simp; omega
          have hge : decide ((255 : Int) < (N1 : Int)) = true := by simp; omega
          clear hc
          go_wp2_with fail
          go_meet
          exact ⟨rfl, Lib.hid ⟨HF.out.blk 0 rfl, HF.out.base 2 rfl, trivial⟩, Lib.hid ⟨hw2, by omega⟩⟩
      case rest =>
        obtain ⟨rfl, HF, HZ⟩ := hcut
        have hz5 := HZ.out.1
        have hz6 := HZ.out.2
        clear HZ hzw
        go_wp2_with fail
        refine (HP2.out _).mono ?_
        rintro e wz ⟨rfl, rfl⟩
        go_upto_region 14 with (at_make; refine wpList_make_full _ rfl _ _ 39 rfl wc.heap.size 5 i8 (.int .u8 0) 1 Try.underlying39 hi8 hy0 hy1 _ _ _ _ ((N2 + 7) / 8) rfl rfl (by omega) (by omega) M1.out M2.out (Nat.le_refl _) ?_; intro w5 hown5 hgrow5; have hcv := conv_zeros (n := (N2 + 7) / 8) (by have h := hown5; rw [Nat.mul_one, show (Value.int .u8 0).cells = #[Value.int .u8 0] from rfl, toList_madeCells_one] at h; exact h))
        have HB5 := Lib.hid ((Below.refl wc.heap.size wc).grown hgrow5 (Nat.le_refl _) (fun k h => by cases h))
        have hz7 := HB5.out.size
        have HF := Lib.hid ((HF.out.below HB5.out).box #[.int .i64 10, .int .i64 0, .int .i64 0, .string ⟨#[]⟩, .string ⟨#[]⟩, .int .i64 0, .slice none 0 0, .string (zerosS ((N2 + 7) / 8)), .int .i64 (N2 : Int)])
        clear hown5 hgrow5 HB5
        obtain ⟨w6, hw6⟩ : ∃ w6, w6 = w5.alloc (.cells #[.int .i64 10, .int .i64 0, .int .i64 0, .string ⟨#[]⟩, .string ⟨#[]⟩, .int .i64 0, .slice none 0 0, .string (zerosS ((N2 + 7) / 8)), .int .i64 (N2 : Int)] 24 (0, 0)) := ⟨_, rfl⟩
        have hz8 : w5.heap.size < w6.heap.size := by rw [hw6]; simp
        rw [← hw6] at HF ⊢
        clear hw6 hcv
        go_cut [82] (fun s82 wx => s82 = .bool false ∧ Hid (Bk wx [.blk w2.heap.size #[.int .i64 F1.k, .int .i64 F1.i, .int .i64 F1.g, .string F1.nm, .string F1.fn, .int .i64 F1.ar, .slice a2 L1.len c2, .string F1.bs, .int .i64 F1.n], .base w]) ∧ Hid (w6.heap.size ≤ wx.heap.size))
        case first =>
          by_cases hk : N2 ≤ 16384
          · have hgd : decide ((N2 : Int) ≤ 16384) = true := by simp; omega
            have HVt := Lib.hid ((bit_form N2 (by omega)).1 hk)
            obtain ⟨c0, c1, c2, c3, c4, c5, c6, c7, c8, -⟩ := nine_cells (HF.out.blk 0 rfl)
            go_wp2_with fail
            refine (pValid_any (bitF (zerosS ((N2 + 7) / 8)) N2) .nil (.slice none 0 0) _ 0 _ (bit_tame N2 (by omega)) (RdS.nil _ _ _) (Nat.le_refl _)).mono ?_
            rintro e w7 ⟨he7, hb7⟩
            obtain rfl := he7.trans (show _ = Ending.returned (.bool true) by rw [HVt.out.1])
            have HF := Lib.hid (HF.out.below hb7)
            have hz9 := hb7.size
            clear hb7 he7 c0 c1 c2 c3 c4 c5 c6 c7 c8
            obtain ⟨c0, c1, c2, c3, c4, c5, c6, c7, c8, -⟩ := nine_cells (HF.out.blk 0 rfl)
            go_wp2_with fail
            refine (pSize_any (bitF (zerosS ((N2 + 7) / 8)) N2) .nil (.slice none 0 0) _ 0 _ (bit_tame N2 (by omega)) (RdS.nil _ _ _) (Nat.le_refl _)).mono ?_
            rintro e w8 ⟨he8, hb8⟩
            obtain rfl := he8.trans (show _ = Ending.returned (.int .i64 (1 + ((N2 : Int) + 63) / 64)) by rw [HVt.out.2])
            have HF := Lib.hid (HF.out.below hb8)
            have hz10 := hb8.size
            clear hb8 he8 c0 c1 c2 c3 c4 c5 c6 c7 c8
            go_wp2_with fail
            go_meet
            exact ⟨rfl, Lib.hid ⟨HF.out.blk 1 rfl, HF.out.base 2 rfl, trivial⟩, Lib.hid (by omega)⟩
          · have hgd : decide ((N2 : Int) ≤ 16384) = false := by simp; omega
            have HVt := Lib.hid ((bit_form N2 (by omega)).2 hk)
            obtain ⟨c0, c1, c2, c3, c4, c5, c6, c7, c8, -⟩ := nine_cells (HF.out.blk 0 rfl)
            go_wp2_with fail
            refine (pValid_any (bitF (zerosS ((N2 + 7) / 8)) N2) .nil (.slice none 0 0) _ 0 _ (bit_tame N2 (by omega)) (RdS.nil _ _ _) (Nat.le_refl _)).mono ?_
            rintro e w7 ⟨he7, hb7⟩
            obtain rfl := he7.trans (show _ = Ending.returned (.bool false) by rw [HVt.out])
            have HF := Lib.hid (HF.out.below hb7)
            have hz9 := hb7.size
            clear hb7 he7 c0 c1 c2 c3 c4 c5 c6 c7 c8
            go_wp2_with fail
            go_meet
            exact ⟨rfl, Lib.hid ⟨HF.out.blk 1 rfl, HF.out.base 2 rfl, trivial⟩, Lib.hid (by omega)⟩
        case rest =>
          obtain ⟨rfl, HF, HZ⟩ := hcut
          have hz9 := HZ.out
          clear HZ
          go_wp2_with fail
          refine (HP3.out _).mono ?_
          rintro e wz ⟨rfl, rfl⟩
          go_wp2_with fail
          have HB := Lib.hid (Below.refl wc.heap.size wc)
          go_loopw [8, 15] (fun v i wr => ∃ k : Nat, k ≤ (900 + N3) ∧ i = .int .i64 k ∧ Hid (wr.ownsRow wc.heap.size 24 9 v k (rowC (fun _ => 7) k)) ∧ Hid (Below wc.heap.size wc wr)) (fun _ i _ => (900 + N3) - (intOf i).toNat)
          case atStart => exact ⟨0, Nat.zero_le _, rfl, Lib.hid (World.ownsRow_nil _ _ _ _), HB⟩
          case round =>
            obtain ⟨k, hk, rfl, HO, HB⟩ := hrel
            by_cases hlt : k < (900 + N3)
            · have hlt' : (k : Int) < 900 + (N3 : Int) := by omega
              have hlb : decide ((k : Int) < 900 + (N3 : Int)) = true := decide_eq_true hlt'
              have hz := HB.out.size
              go_wp2_with fail
              refine (show Calls Try.prog 32 #[.int .i64 7] wr fun e w' => e = .returned (.agg #[.int .i64 1, .int .i64 7, .int .i64 0, .string ⟨#[]⟩, .string ⟨#[]⟩, .int .i64 0, .slice none 0 0, .string ⟨#[]⟩, .int .i64 0]) ∧ Below wr.heap.size wr w' from pInt_any 7 wr).mono ?_
              rintro e w2 ⟨rfl, hb2⟩
              have HB2 := Lib.hid hb2
              have hz2 := hb2.size
              have HO2 := Lib.hid (own_below HO.out hb2 (Nat.le_refl _))
              have HRow := Lib.hid HO.out.lt
              clear hb2
              go_wp2_with (at_builtin; refine wpList_append_own _ rfl (.tmp 91) (.tmp 93) 22 rfl wc.heap.size 24 i0 zeroV 9 112 Try.underlying22 hi0 hz0 hz1 hz2' rfl (by decide) _ k (rowC (fun _ => 7) k) rfl (HO2.out.alloc _) ⟨w2.heap.size, 0, none⟩ 1 1 ((intF 7).cells (.slice none 0 0)) rfl rfl (news_one (heap_alloc_new _ _)) (cells_one (intF 7) none 0 0) (by unfold maxLen; omega) (by omega) (by simp; omega) ?_; intro v' w3 hown3 hgrow3 _)
              have HB3 := Lib.hid (below_chain2 HB.out HB2.out hgrow3 hz fun j hj => (HRow.out j hj).1)
              refine ⟨⟨k + 1, by omega, by go_num, Lib.hid hown3, HB3⟩, by simp only [intOf]; omega⟩
            · have hlt' : ¬ (k : Int) < 900 + (N3 : Int) := by omega
              have hlb : decide ((k : Int) < 900 + (N3 : Int)) = false := decide_eq_false hlt'
              rw [show k = (900 + N3) by omega] at HO
              have hzB := HB.out.size

              clear hlt hlt'
              have HF := Lib.hid (HF.out.below HB.out)
              go_wp2_with fail
              refine (show Calls Try.prog 35 #[] wr fun e w' => e = .returned (.agg #[.int .i64 8, .int .i64 0, .int .i64 0, .string ⟨#[]⟩, .string ⟨#[]⟩, .int .i64 0, .slice none 0 0, .string ⟨#[]⟩, .int .i64 0]) ∧ Below wr.heap.size wr w' from pNil_any wr).mono ?_
              rintro e w7 ⟨rfl, hb7⟩
              have HF := Lib.hid (HF.out.below hb7)
              have HR := Lib.hid (rowI_own (own_below HO.out hb7 (Nat.le_refl _)))
              have hz10 := hb7.size
              clear hb7 HO HB
              go_wp2_with fail
              refine (HT4.out _ _ HR.out).mono ?_
              rintro e w8 ⟨aq, cq, rfl, hn8, hb8⟩
              have HF := Lib.hid ((HF.out.below hb8).add (f := .nw w7.heap.size w8.heap.size L2 (.slice aq L2.len cq)) ⟨hn8, hb8.size, Nat.le_refl _⟩)
              have hz11 := hb8.size
              clear hb8 hn8 HR
              obtain ⟨c0, c1, c2, c3, c4, c5, c6, c7, c8, fr⟩ := nine_cells (HF.out.blk 1 rfl)
              go_upto_region 23 with (fail)
              have HF := Lib.hid (HF.out.put 1 rfl (by refine ⟨?_, ?_, trivial⟩ <;> (simp only [Fct.apart]; first | omega | (intro b hb; omega))) (.int .i64 F2.k) (.int .i64 F2.i) (.int .i64 F2.g) (.string F2.nm) (.string F2.fn) (.int .i64 F2.ar) (.slice aq L2.len cq) (.string F2.bs) (.int .i64 F2.n))
              obtain ⟨w9, hw9⟩ : ∃ w9, w9 = (((((((((w8.setCell ⟨w2.heap.size, 0, none⟩ (.int .i64 F2.k)).setCell ⟨w2.heap.size, 1, none⟩ (.int .i64 F2.i)).setCell ⟨w2.heap.size, 2, none⟩ (.int .i64 F2.g)).setCell ⟨w2.heap.size, 3, none⟩ (.string F2.nm)).setCell ⟨w2.heap.size, 4, none⟩ (.string F2.fn)).setCell ⟨w2.heap.size, 5, none⟩ (.int .i64 F2.ar)).setCell ⟨w2.heap.size, 6, none⟩ (.slice aq L2.len cq)).setCell ⟨w2.heap.size, 7, none⟩ (.string F2.bs)).setCell ⟨w2.heap.size, 8, none⟩ (.int .i64 F2.n)) := ⟨_, rfl⟩
              rw [← hw9] at HF ⊢
              clear hw9 c0 c1 c2 c3 c4 c5 c6 c7 c8 fr
              rcases HT6.out with ⟨hc, rfl, hs⟩ | ⟨hc, rfl⟩
              · have hgd : decide (2 * (900 + (N3 : Int)) + 1 ≤ 2000) = true := by simp; omega
                have HS := Lib.hid (show sizeF F2 L2 = 2 * (900 + (N3 : Int)) + 1 by rw [hs]; omega)
                obtain ⟨c0, c1, c2, c3, c4, c5, c6, c7, c8, -⟩ := nine_cells (HF.out.blk 0 rfl)
                clear hc hs
                go_wp2_with fail
                refine (pSize_any F2 L2 _ _ _ _ HT5.out (HF.out.nw0 1 rfl) (Nat.le_refl _)).mono ?_
                rintro e w10 ⟨he10, hb10⟩
                obtain rfl := he10.trans (show _ = Ending.returned (.int .i64 (2 * (900 + (N3 : Int)) + 1)) by rw [HS.out])
                have HF := Lib.hid (HF.out.below hb10)
                clear hb10 he10 c0 c1 c2 c3 c4 c5 c6 c7 c8
                go_wp2_with fail
                go_ret
                exact ⟨rfl, HF.out.base 2 rfl⟩
              · have hgd : decide (2 * (900 + (N3 : Int)) + 1 ≤ 2000) = false := by simp; omega
                clear hc
                go_wp2_with fail
                go_ret
                exact ⟨rfl, HF.out.base 2 rfl⟩
end Go.Proofs.Ytgbaelkoblnlhaa
