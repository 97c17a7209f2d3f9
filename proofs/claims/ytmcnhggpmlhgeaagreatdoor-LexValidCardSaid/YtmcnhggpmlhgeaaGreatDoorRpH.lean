/-
  Walks: the text of a token.
-/
import Derived.Test.YtmcnhggpmlhgeaaGreatDoorRpG
namespace Go.Proofs.YtmcnhggpmlhgeaaGreatDoor
open Go.RowKit
set_option maxRecDepth 100000 in
set_option maxHeartbeats 8000000 in
theorem text_3 (k : Int) (tx : List UInt8) (n : Nat) (pos : Int) (w : World) (hk : k = 3) (hn : n ≤ 9223372036854775808) (hT : Tb w) :
    Calls Tryz.prog 33 #[.agg #[.int .i64 k, .string (ba tx), .int .u64 (n : Int), .int .i64 pos]] w fun e w' => e = .returned (.string (ba (Lib.decDigits n))) ∧ Below w.heap.size w w' := by
  have x3 : (k == 3) = true := by simp; omega
  have HF := Lib.hid (fmt_any n hn (w.alloc (.cells #[.int .i64 k, .string (ba tx), .int .u64 (n : Int), .int .i64 pos] 36 (0, 0))) (hT.below (below_alloc _ _)))
  clear hT hk
  go_enter Tryz.func33, Tryz.ntmps33
  go_wp2_with fail
  refine HF.out.mono ?_
  rintro e w1 ⟨rfl, hb⟩
  have HB := Lib.hid (bstep (below_alloc w _) hb)
  clear hb
  go_wp2_with fail
  go_ret
  exact ⟨rfl, HB.out⟩
set_option maxRecDepth 100000 in
set_option maxHeartbeats 8000000 in
theorem text_e (k : Int) (tx : List UInt8) (n : Nat) (pos : Int) (w : World) (h3 : k ≠ 3) (h4 : k ≠ 4) :
    Calls Tryz.prog 33 #[.agg #[.int .i64 k, .string (ba tx), .int .u64 (n : Int), .int .i64 pos]] w fun e w' => e = .returned (.string (ba tx)) ∧ Below w.heap.size w w' := by
  have x3 : (k == 3) = false := by simp; omega
  have x4 : (k == 4) = false := by simp; omega
  clear h3 h4
  go_enter Tryz.func33, Tryz.ntmps33
  go_wp2_with fail
  go_ret
  exact ⟨rfl, below_alloc _ _⟩
set_option maxRecDepth 100000 in
set_option maxHeartbeats 8000000 in
theorem text_4 (k : Int) (tx : List UInt8) (n : Nat) (pos : Int) (w : World) (hk : k = 4) (hl : tx.length ≤ 1000000) :
    Calls Tryz.prog 33 #[.agg #[.int .i64 k, .string (ba tx), .int .u64 (n : Int), .int .i64 pos]] w fun e w' => e = .returned (.string (ba (34 :: (escT tx ++ [34])))) ∧ Below w.heap.size w w' := by
  have x3 : (k == 3) = false := by simp; omega
  have x4 : (k == 4) = true := by simp; omega
  clear hk
  have hE : (ba (escT tx)).size ≤ 2000000 := by rw [ba_size, escT_len]; have := List.countP_le_length (p := escB) (l := tx); unfold escN; omega
  have HR := Lib.hid fun g W h => Replace_any g tx W hl h
  have HEq := Lib.hid (show ((⟨#[34]⟩ : ByteArray) ++ ba (escT tx)) ++ (⟨#[34]⟩ : ByteArray) = ba (34 :: (escT tx ++ [34])) from by apply ByteArray.ext; simp [ba])
  generalize ba (34 :: (escT tx ++ [34])) = R at *
  generalize ba (escT tx) = E at *
  have y1 : ¬ 9223372036854775807 < 1 + E.size := by omega
  have y2 : ¬ 9223372036854775807 < 1 + E.size + 1 := by omega
  go_enter Tryz.func33, Tryz.ntmps33
  go_upto_region 5 with (fail)
  have HB0 := Lib.hid (heap_alloc_new w (.cells #[.int .i64 k, .string (ba tx), .int .u64 (n : Int), .int .i64 pos] 36 (0, 0)))
  have HW0 := Lib.hid (below_alloc w (.cells #[.int .i64 k, .string (ba tx), .int .u64 (n : Int), .int .i64 pos] 36 (0, 0)))
  have hz0 : (w.alloc (.cells #[.int .i64 k, .string (ba tx), .int .u64 (n : Int), .int .i64 pos] 36 (0, 0))).heap.size = w.heap.size + 1 := World.size_alloc _ _
  have HZ0 := Lib.hid hz0
  clear hz0
  generalize w.alloc (.cells #[.int .i64 k, .string (ba tx), .int .u64 (n : Int), .int .i64 pos] 36 (0, 0)) = w1 at HB0 HW0 HZ0 ⊢
  have HJ0 := Lib.hid (show Below w1.heap.size w1 w1.drew from (Below.refl _ _).drew)
  refine' wp_region_fix (by kernel_rfl) 7 [some 12, some 13, some 14, some 15, some 16, some 17, some 18] [_, _, _, _, _, _, _] [0, 1, 4] (fun (fs : List Bool) (W : World) => Hid (Below w1.heap.size w1 W) ∧ ((fs = [false, false, false] ∧ W.heap.size = w1.heap.size) ∨ (fs = [true, false, false] ∧ W.heap.size = w1.heap.size + 1 ∧ W.heap[w1.heap.size]? = some (.cells prS.toArray 9 (0, 0))) ∨ (fs = [true, true, false] ∧ RpF W (w1.heap.size + 1)) ∨ fs = [true, true, true])) (by kernel_rfl) (by decide) (by kernel_rfl) (by decide) (by rfl) (by decide) (⟨Lib.hid HJ0.out, .inl ⟨rfl, rfl⟩⟩) ?_ ?_
  rotate_left 7
  · refine all_cons 0 ?_ (all_cons 1 ?_ (all_cons 2 ?_ (all_cons 3 ?_ (all_cons 4 ?_ (all_cons 5 ?_ (all_cons 6 ?_ (all_done 7)))))))
    · intro o ho fs W HFi HAf HJ A HA HZ K' HK
      clear HAf HA HZ
      cases ho
      have hfi := HFi.out
      have hz : W.heap.size = w1.heap.size ∧ fs 1 = false ∧ fs 4 = false := by
        rcases HJ.out.2 with ⟨h, hz⟩ | ⟨h, -⟩ | ⟨h, -⟩ | h <;> (simp only [List.map_cons, List.map_nil, hfi, List.cons.injEq] at h)
        · exact ⟨hz, h.2.1, h.2.2.1⟩
        all_goals (exact absurd h.1 (by decide))
      have hbo := balloc HJ.out.1.out (.cells prS.toArray 9 (0, 0))
      have hno := heap_alloc_new W (.cells prS.toArray 9 (0, 0))
      rw [hz.1] at hno
      have HBo := Lib.hid hbo
      have HNo := Lib.hid hno
      have HZ2 := Lib.hid hz
      have hzz := hz.1
      clear hbo hno hz hfi
      go_simp
      exact HK.out _ ⟨Lib.hid HBo.out, .inr (.inl ⟨by simp only [List.map_cons, List.map_nil]; rw [upd_at, upd_ne _ (by decide), upd_ne _ (by decide), HZ2.out.2.1, HZ2.out.2.2], by rw [World.size_alloc, hzz], HNo.out⟩)⟩
    · intro o ho fs W HFi HAf HJ A HA HZ K' HK
      have f0 : fs 0 = true := by cases ho; exact HAf.out ⟨0, .data⟩ (by simp) rfl
      have s0 := HA.out 0 12 (by decide) f0 rfl
      simp only [List.getD_cons_zero] at s0
      clear HAf HA HZ
      cases ho
      have hfi := HFi.out
      have hz : W.heap.size = w1.heap.size + 1 ∧ W.heap[w1.heap.size]? = some (.cells prS.toArray 9 (0, 0)) ∧ fs 4 = false := by
        rcases HJ.out.2 with ⟨h, -⟩ | ⟨h, hz, hc⟩ | ⟨h, -⟩ | h <;> (simp only [List.map_cons, List.map_nil, hfi, f0, List.cons.injEq] at h)
        · exact absurd h.1 (by decide)
        · exact ⟨hz, hc, h.2.2.1⟩
        all_goals (exact absurd h.2.1 (by decide))
      have hN := NewR_any w1.heap.size W hz.2.1
      rw [hz.1] at hN
      have HN := Lib.hid hN
      have h4 := hz.2.2
      have HBW := Lib.hid HJ.out.1.out
      have hzz := hz.1
      clear hz hN hfi
      go_simp
      refine HN.out.mono ?_
      rintro e w2 ⟨rfl, hf, hb2, -⟩
      exact HK.out _ ⟨Lib.hid (HBW.out.trans (hb2.mono (by omega))), .inr (.inr (.inl ⟨by simp only [List.map_cons, List.map_nil]; rw [upd_at, upd_ne _ (by decide), upd_ne _ (by decide), f0, h4], hf⟩))⟩
    · intro o ho fs W HFi HAf HJ A HA HZ K' HK
      have z1 : A.tmps[1]? = some _ := HZ.out 1 (by decide)
      clear HAf HA HZ
      cases ho
      go_simp
      exact HK.out _ (by rw [upd_map fs (by decide)]; exact HJ.out)
    · intro o ho fs W HFi HAf HJ A HA HZ K' HK
      have f2 : fs 2 = true := by cases ho; exact HAf.out ⟨2, .data⟩ (by simp) rfl
      have s2 := HA.out 2 14 (by decide) f2 rfl
      simp only [List.getD_cons_succ, List.getD_cons_zero] at s2
      clear HAf HA HZ f2
      obtain ⟨c0, c1, c2, c3, -⟩ := four_cells ((HJ.out.1.out.block w.heap.size (by have := HZ0.out; omega)).trans HB0.out)
      cases ho
      go_simp
      exact HK.out _ (by rw [upd_map fs (by decide)]; exact HJ.out)
    · intro o ho fs W HFi HAf HJ A HA HZ K' HK
      have f1 : fs 1 = true := by cases ho; exact HAf.out ⟨1, .data⟩ (by simp) rfl
      have s1 := HA.out 1 13 (by decide) f1 rfl
      simp only [List.getD_cons_succ, List.getD_cons_zero] at s1
      have f3 : fs 3 = true := by cases ho; exact HAf.out ⟨3, .data⟩ (by simp) rfl
      have s3 := HA.out 3 15 (by decide) f3 rfl
      simp only [List.getD_cons_succ, List.getD_cons_zero] at s3
      clear HAf HA HZ
      cases ho
      have hfi := HFi.out
      have hz : RpF W (w1.heap.size + 1) ∧ fs 0 = true := by
        rcases HJ.out.2 with ⟨h, -⟩ | ⟨h, -⟩ | ⟨h, hc⟩ | h <;> (simp only [List.map_cons, List.map_nil, hfi, f1, List.cons.injEq] at h)
        · exact absurd h.2.1 (by decide)
        · exact absurd h.2.1 (by decide)
        · exact ⟨hc, h.1⟩
        · exact absurd h.2.2.1 (by decide)
      have hN := HR.out (w1.heap.size + 1) W hz.1
      have HN := Lib.hid hN
      have h0 := hz.2
      have HBW := Lib.hid HJ.out.1.out
      clear hz hN hfi
      go_simp
      refine HN.out.mono ?_
      rintro e w2 ⟨rfl, hc2⟩
      exact HK.out _ ⟨Lib.hid (HBW.out.trans (hc2.below HBW.out.size (fun j h1 h2 => by omega))), .inr (.inr (.inr (by simp only [List.map_cons, List.map_nil]; rw [upd_at, upd_ne _ (by decide), upd_ne _ (by decide), h0, f1])))⟩
    · intro o ho fs W HFi HAf HJ A HA HZ K' HK
      have f4 : fs 4 = true := by cases ho; exact HAf.out ⟨4, .data⟩ (by simp) rfl
      have s4 := HA.out 4 16 (by decide) f4 rfl
      simp only [List.getD_cons_succ, List.getD_cons_zero] at s4
      clear HAf HA HZ f4
      cases ho
      go_simp
      exact HK.out _ (by rw [upd_map fs (by decide)]; exact HJ.out)
    · intro o ho fs W HFi HAf HJ A HA HZ K' HK
      have f5 : fs 5 = true := by cases ho; exact HAf.out ⟨5, .data⟩ (by simp) rfl
      have s5 := HA.out 5 17 (by decide) f5 rfl
      simp only [List.getD_cons_succ, List.getD_cons_zero] at s5
      clear HAf HA HZ f5
      cases ho
      go_simp
      exact HK.out _ (by rw [upd_map fs (by decide)]; exact HJ.out)
  · intro W hJ
    simp only [canon, Act.put, List.getD_cons_succ, List.getD_cons_zero, List.drop_succ_cons, List.drop_zero, List.setIfInBounds_toArray, List.set_cons_zero, List.set_cons_succ]
    have HW := Lib.hid (HW0.out.trans (hJ.1.out.mono (by have := HZ0.out; omega)))
    clear hJ
    go_wp2_with fail
    go_ret
    exact ⟨by rw [← HEq.out]; rfl, HW.out⟩
theorem text_any (t : Tok) (w : World) (hl : t.tx.length ≤ 1000000) (hv : validTk t = true) (hT : Tb w) :
    Calls Tryz.prog 33 #[.agg #[.int .i64 t.k, .string (ba t.tx), .int .u64 (t.n : Int), .int .i64 t.pos]] w fun e w' => e = .returned (.string (ba (textTk t))) ∧ Below w.heap.size w w' := by
  obtain ⟨k, tx, n, pos⟩ := t
  unfold textTk
  by_cases h3 : k = 3
  · rw [if_pos h3]
    have hn : n ≤ 9223372036854775808 := by
      rcases valid_cases hv with ⟨-, -, h⟩ | ⟨h, -⟩
      · exact h
      · have h : n = 0 := h
        omega
    exact text_3 k tx n pos w h3 hn hT
  · rw [if_neg h3]
    by_cases h4 : k = 4
    · rw [if_pos h4]; exact text_4 k tx n pos w h4 hl
    · rw [if_neg h4]; exact text_e k tx n pos w h3 h4
end Go.Proofs.YtmcnhggpmlhgeaaGreatDoor
