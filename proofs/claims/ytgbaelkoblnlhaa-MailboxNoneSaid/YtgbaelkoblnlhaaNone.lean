/-
  Walks: the law MailboxNone: a mailbox that is nil, or was not returned by New, accepts no message; two mailboxes are independent.
-/
import Derived.Test.YtgbaelkoblnlhaaOne
import Derived.Test.YtgbaelkoblnlhaaGreat
import Derived.LaidEqlPtr
namespace Go.Proofs.Ytgbaelkoblnlhaa
open Go.RowKit
theorem box_info : ∃ j, Try.prog.info? 78 = some j ∧ j.size ≠ 0 := by
  have h : (Try.prog.info? 78).map (·.size) = some 6 := by kernel_rfl
  cases e : Try.prog.info? 78 with
  | none => rw [e] at h; cases h
  | some j => rw [e] at h; exact ⟨j, rfl, by have h2 : j.size = 6 := Option.some.inj h; rw [h2]; decide⟩
/-- two mailboxes are two -/
theorem box_ne {w : World} {S S' : Nat → Prop} {B B' : Nat} {l l' : TL} {p p' : Nat} (h : MbS w S B l p) (h' : MbS w S' B' l' p') (hne : B ≠ B') : (binOp .eql 58 (.pointer (some ⟨B, 0, none⟩)) (.pointer (some ⟨B', 0, none⟩))).run Try.prog w = .ok (.bool false) w := by
  obtain ⟨j, h1, h2⟩ := box_info
  obtain ⟨bs, h⟩ := h
  obtain ⟨bs', h'⟩ := h'
  exact run_eql_ptr_other w Try.underlying58 h1 h2 (fun e => hne (by injection e)) h.box h'.box
/-- a pointer that is no mailbox -/
def NoneV (w : World) (v : Value) : Prop := v = .pointer none ∨ ∃ B, v = .pointer (some ⟨B, 0, none⟩) ∧ B < w.heap.size ∧ w.cell? ⟨B, 0, none⟩ = some (.bool false)
theorem NoneV.below {w w' : World} {v : Value} (h : NoneV w v) (hb : Below w.heap.size w w') : NoneV w' v := by
  rcases h with h | ⟨B, h, hB, hc⟩
  · exact .inl h
  · exact .inr ⟨B, h, Nat.lt_of_lt_of_le hB hb.size, below_keep hb hc⟩
theorem none_v (v : Value) (w : World) (hv : NoneV w v) : Calls Try.prog 83 #[v] w fun e w' => e = .returned (.bool true) ∧ w = w' := by
  rcases hv with rfl | ⟨B, rfl, _, hc⟩
  · exact none_nil w
  · exact none_bad B w hc
theorem At_none (v : Value) (w : World) (hv : NoneV w v) : Calls Try.prog 67 #[v] w fun e w' => e = .returned (.int .i64 0) ∧ w = w' := by
  have HN := Lib.hid (none_v v w hv)
  clear hv
  go_enter Try.func67, Try.ntmps67
  go_wp2_with fail
  refine HN.out.mono ?_
  rintro e w1 ⟨rfl, rfl⟩
  go_wp2_with fail
  go_ret
  exact ⟨rfl, rfl⟩
theorem Len_none (v : Value) (w : World) (hv : NoneV w v) : Calls Try.prog 71 #[v] w fun e w' => e = .returned (.int .i64 0) ∧ w = w' := by
  have HN := Lib.hid (none_v v w hv)
  clear hv
  go_enter Try.func71, Try.ntmps71
  go_wp2_with fail
  refine HN.out.mono ?_
  rintro e w1 ⟨rfl, rfl⟩
  go_wp2_with fail
  go_ret
  exact ⟨rfl, rfl⟩
theorem Skip_none (v : Value) (w : World) (hv : NoneV w v) : Calls Try.prog 66 #[v] w fun e w' => e = .returned (.bool false) ∧ w = w' := by
  have HN := Lib.hid (none_v v w hv)
  clear hv
  go_enter Try.func66, Try.ntmps66
  go_wp2_with fail
  refine HN.out.mono ?_
  rintro e w1 ⟨rfl, rfl⟩
  go_wp2_with fail
  go_ret
  exact ⟨rfl, rfl⟩
theorem All_none (v : Value) (w : World) (hv : NoneV w v) : Calls Try.prog 61 #[v] w fun e w' => e = .returned (.slice none 0 0) ∧ w = w' := by
  have HN := Lib.hid (none_v v w hv)
  clear hv
  go_enter Try.func61, Try.ntmps61
  go_wp2_with fail
  refine HN.out.mono ?_
  rintro e w1 ⟨rfl, rfl⟩
  go_wp2_with fail
  go_ret
  exact ⟨rfl, rfl⟩
theorem Rewind_none (v : Value) (w : World) (hv : NoneV w v) : Calls Try.prog 70 #[v] w fun e w' => e = .returned (.tuple #[]) ∧ w = w' := by
  have HN := Lib.hid (none_v v w hv)
  clear hv
  go_enter Try.func70, Try.ntmps70
  go_wp2_with fail
  refine HN.out.mono ?_
  rintro e w1 ⟨rfl, rfl⟩
  go_wp2_with fail
  exact bodyPost_end (results_none rfl _ _ _) rfl ⟨rfl, rfl⟩
set_option maxHeartbeats 1000000 in
theorem Look_none (v : Value) (w : World) (hv : NoneV w v) : Calls Try.prog 62 #[v] w fun e w' => e = .returned (.tuple #[.agg #[.int .i64 0, .int .i64 0, .int .i64 0, .string ⟨#[]⟩, .string ⟨#[]⟩, .int .i64 0, .slice none 0 0, .string ⟨#[]⟩, .int .i64 0], .bool false]) ∧ Below w.heap.size w w' := by
  have HN := Lib.hid (none_v v (w.alloc (.cells #[.int .i64 0, .int .i64 0, .int .i64 0, .string ⟨#[]⟩, .string ⟨#[]⟩, .int .i64 0, .slice none 0 0, .string ⟨#[]⟩, .int .i64 0] 24 (0, 0))) (hv.below (below_alloc _ _)))
  clear hv
  go_enter Try.func62, Try.ntmps62
  go_wp2_with fail
  refine HN.out.mono ?_
  rintro e w1 ⟨rfl, rfl⟩
  go_wp2_with fail
  exact bodyPost_ret (results_pair rfl _ _ w.heap.size _ _ _ _ _ _ _ _ _ rfl (heap_alloc_new _ _)) rfl ⟨rfl, below_alloc _ _⟩
set_option maxHeartbeats 1000000 in
theorem Take_none (v : Value) (w : World) (hv : NoneV w v) : Calls Try.prog 64 #[v] w fun e w' => e = .returned (.tuple #[.agg #[.int .i64 0, .int .i64 0, .int .i64 0, .string ⟨#[]⟩, .string ⟨#[]⟩, .int .i64 0, .slice none 0 0, .string ⟨#[]⟩, .int .i64 0], .bool false]) ∧ Below w.heap.size w w' := by
  have HB := Lib.hid (below_alloc w (.cells #[.int .i64 0, .int .i64 0, .int .i64 0, .string ⟨#[]⟩, .string ⟨#[]⟩, .int .i64 0, .slice none 0 0, .string ⟨#[]⟩, .int .i64 0] 24 (0, 0)))
  have HL := Lib.hid (Look_none v _ (hv.below HB.out))
  clear hv
  go_enter Try.func64, Try.ntmps64
  go_wp2_with fail
  refine HL.out.mono ?_
  rintro e w2 ⟨rfl, hb2⟩
  have HH := Lib.hid (keepB hb2 (heap_alloc_new w (.cells #[.int .i64 0, .int .i64 0, .int .i64 0, .string ⟨#[]⟩, .string ⟨#[]⟩, .int .i64 0, .slice none 0 0, .string ⟨#[]⟩, .int .i64 0] 24 (0, 0))))
  have HB2 := Lib.hid (bstep HB.out hb2)
  have hz : w.heap.size < w2.heap.size := by have := hb2.size; simp at this; omega
  clear hb2
  obtain ⟨g0, g1, g2, g3, g4, g5, g6, g7, g8, fr⟩ := nine_cells HH.out
  go_wp2_with fail
  refine bodyPost_ret (results_pair rfl _ _ w.heap.size _ _ _ _ _ _ _ _ _ rfl (heap_after (nine_blk HH.out _ _ _ _ _ _ _ _ _) _)) rfl ⟨rfl, ?_⟩
  refine balloc ?_ _
  repeat (with_reducible refine bset ?_ (by simp) _)
  exact HB2.out
set_option maxRecDepth 100000 in
set_option maxHeartbeats 1000000 in
theorem none_great (f : Fd) (it : TL) (ai : Option Addr) (ci : Nat) (w : World) (hs : RdS w 0 w.heap.size it (.slice ai it.len ci)) (hg : leftF (.cons f it .nil) 6000 < 0) :
    Calls Try.prog 13 #[.agg #[.int .i64 f.k, .int .i64 f.i, .int .i64 f.g, .string f.nm, .string f.fn, .int .i64 f.ar, .slice ai it.len ci, .string f.bs, .int .i64 f.n]] w (Yes w) := by
  have HG := Lib.hid hg
  clear hg
  have HB0 := Lib.hid (below_alloc w (.cells #[.int .i64 f.k, .int .i64 f.i, .int .i64 f.g, .string f.nm, .string f.fn, .int .i64 f.ar, .slice ai it.len ci, .string f.bs, .int .i64 f.n] 24 (0, 0)))
  have HS := Lib.hid hs
  clear hs
  go_enter Try.func13, Try.ntmps13
  go_wp2_with fail
  refine (shown14 _).mono ?_
  rintro e w1 ⟨rfl, hb1⟩
  have HH := Lib.hid (keepB hb1 (heap_alloc_new w (.cells #[.int .i64 f.k, .int .i64 f.i, .int .i64 f.g, .string f.nm, .string f.fn, .int .i64 f.ar, .slice ai it.len ci, .string f.bs, .int .i64 f.n] 24 (0, 0))))
  have HB1 := Lib.hid (bstep HB0.out hb1)
  have hz1 : w.heap.size < w1.heap.size := by have := hb1.size; simp at this; omega
  clear hb1
  obtain ⟨c0, c1, c2, c3, c4, c5, c6, c7, c8, -⟩ := nine_cells HH.out
  go_wp2_with fail
  have h1 := RdS.one0 (f := f) ((HS.out.below HB1.out (Nat.le_refl _)).more HB1.out.size)
  refine (Great_yes _ _ _ _ _ _ h1 (by simp) (by decide) (by decide) HG.out).mono ?_
  rintro e w2 ⟨rfl, hb2⟩
  have HB2 := Lib.hid (bstep (balloc HB1.out _) hb2)
  clear hb2 h1
  go_wp2_with fail
  go_ret
  exact ⟨rfl, HB2.out⟩
set_option maxRecDepth 100000 in
set_option maxHeartbeats 8000000 in
theorem none_main (f : Fd) (it : TL) (ai : Option Addr) (ci : Nat) (w : World) (hs : RdS w 0 w.heap.size it (.slice ai it.len ci)) (hg : 0 ≤ leftF (.cons f it .nil) 6000) :
    Calls Try.prog 13 #[.agg #[.int .i64 f.k, .int .i64 f.i, .int .i64 f.g, .string f.nm, .string f.fn, .int .i64 f.ar, .slice ai it.len ci, .string f.bs, .int .i64 f.n]] w (Yes w) := by
  have HG := Lib.hid hg
  have HT := Lib.hid (tame_of (by decide) hg).1
  clear hg
  have HB0 := Lib.hid (below_alloc w (.cells #[.int .i64 f.k, .int .i64 f.i, .int .i64 f.g, .string f.nm, .string f.fn, .int .i64 f.ar, .slice ai it.len ci, .string f.bs, .int .i64 f.n] 24 (0, 0)))
  have HS := Lib.hid hs
  clear hs
  go_enter Try.func13, Try.ntmps13
  go_wp2_with fail
  refine (shown14 _).mono ?_
  rintro e w1 ⟨rfl, hb1⟩
  have HH := Lib.hid (keepB hb1 (heap_alloc_new w (.cells #[.int .i64 f.k, .int .i64 f.i, .int .i64 f.g, .string f.nm, .string f.fn, .int .i64 f.ar, .slice ai it.len ci, .string f.bs, .int .i64 f.n] 24 (0, 0))))
  have HB1 := Lib.hid (bstep HB0.out hb1)
  have hz1 : w.heap.size < w1.heap.size := by have := hb1.size; simp at this; omega
  clear hb1
  obtain ⟨c0, c1, c2, c3, c4, c5, c6, c7, c8, -⟩ := nine_cells HH.out
  go_wp2_with fail
  have h1 := RdS.one0 (f := f) ((HS.out.below HB1.out (Nat.le_refl _)).more HB1.out.size)
  refine (Great_no _ _ _ _ _ _ h1 (by simp) (by decide) (by decide) HG.out).mono ?_
  rintro e w2 ⟨rfl, hb2⟩
  have HB2 := Lib.hid (bstep (balloc HB1.out (.cells #[.int .i64 f.k, .int .i64 f.i, .int .i64 f.g, .string f.nm, .string f.fn, .int .i64 f.ar, .slice ai it.len ci, .string f.bs, .int .i64 f.n] 24 (0, 0))) hb2)
  have HH2 := Lib.hid (keepB hb2 (heap_after HH.out (.cells #[.int .i64 f.k, .int .i64 f.i, .int .i64 f.g, .string f.nm, .string f.fn, .int .i64 f.ar, .slice ai it.len ci, .string f.bs, .int .i64 f.n] 24 (0, 0))))
  have hz2 : w.heap.size < w2.heap.size := by have := hb2.size; simp at this; omega
  clear hb2 h1 c0 c1 c2 c3 c4 c5 c6 c7 c8 HH HB1 HG
  go_upto_region 6 with (fail)
  have HZ := Lib.hid (heap_after (heap_alloc_new w2 (.cells #[.bool false, .pointer none, .pointer none, .pointer none, .int .i64 0, .int .i64 0] 78 (0, 0))) (.cells #[.pointer none, .pointer (some ⟨w2.heap.size, 0, none⟩)] 58 (0, 0)))
  have HLs := Lib.hid (new2_1 w2 (.cells #[.bool false, .pointer none, .pointer none, .pointer none, .int .i64 0, .int .i64 0] 78 (0, 0)) (.cells #[.pointer none, .pointer (some ⟨w2.heap.size, 0, none⟩)] 58 (0, 0)))
  have HB4 := Lib.hid (balloc (balloc HB2.out (.cells #[.bool false, .pointer none, .pointer none, .pointer none, .int .i64 0, .int .i64 0] 78 (0, 0))) (.cells #[.pointer none, .pointer (some ⟨w2.heap.size, 0, none⟩)] 58 (0, 0)))
  have HH4 := Lib.hid (heap_after (heap_after HH2.out (.cells #[.bool false, .pointer none, .pointer none, .pointer none, .int .i64 0, .int .i64 0] 78 (0, 0))) (.cells #[.pointer none, .pointer (some ⟨w2.heap.size, 0, none⟩)] 58 (0, 0)))
  obtain ⟨w4, hw4⟩ : ∃ w4, w4 = (w2.alloc (.cells #[.bool false, .pointer none, .pointer none, .pointer none, .int .i64 0, .int .i64 0] 78 (0, 0))).alloc (.cells #[.pointer none, .pointer (some ⟨w2.heap.size, 0, none⟩)] 58 (0, 0)) := ⟨_, rfl⟩
  have hz4 : w4.heap.size = w2.heap.size + 2 := by rw [hw4]; simp
  rw [← hw4] at HZ HLs HB4 HH4 ⊢
  clear hw4 HH2 HB2
  go_wp2_with fail
  go_loopw [4] (fun i wr => ∃ k : Nat, k ≤ 2 ∧ i = .int .i64 k ∧ Hid (Below w4.heap.size w4 wr)) (fun i _ => 2 - (intOf i).toNat)
  case atStart => exact ⟨0, Nat.zero_le _, rfl, Lib.hid (Below.refl _ _)⟩
  case round =>
    obtain ⟨k, hk, rfl, HB⟩ := hrel
    by_cases hlt : k < 2
    · have hlt' : (k : Int) < 2 := by omega
      have hlb : decide ((k : Int) < 2) = true := decide_eq_true hlt'
      rename_i wr
      have hv : ∃ v, NoneV wr v ∧ wr.cell? ⟨w2.heap.size + 1, k, none⟩ = some v := by
        have hz := keepB HB.out HZ.out
        have hl := keepB HB.out HLs.out
        match k, hlt with
        | 0, _ => exact ⟨.pointer none, .inl rfl, cells_of hl 0⟩
        | 1, _ => exact ⟨_, .inr ⟨w2.heap.size, rfl, lt_of_block hz, cells_of hz 0⟩, cells_of hl 1⟩
      obtain ⟨v, hv, hc⟩ := hv
      have HV := Lib.hid hv
      clear hv
      go_wp2_with fail
      refine (Rewind_none v wr HV.out).mono ?_
      rintro e w5 ⟨rfl, rfl⟩
      go_wp2_with fail
      refine (Look_none v wr HV.out).mono ?_
      rintro e w6 ⟨rfl, hb6⟩
      have HV6 := Lib.hid (HV.out.below (balloc hb6 (.cells #[.int .i64 0, .int .i64 0, .int .i64 0, .string ⟨#[]⟩, .string ⟨#[]⟩, .int .i64 0, .slice none 0 0, .string ⟨#[]⟩, .int .i64 0] 24 (0, 0))))
      have HB6 := Lib.hid (bstep HB.out (balloc hb6 (.cells #[.int .i64 0, .int .i64 0, .int .i64 0, .string ⟨#[]⟩, .string ⟨#[]⟩, .int .i64 0, .slice none 0 0, .string ⟨#[]⟩, .int .i64 0] 24 (0, 0))))
      have hz6 : w4.heap.size ≤ w6.heap.size := by have := hb6.size; have := HB.out.size; omega
      clear hb6 hc
      go_wp2_with fail
      refine (Take_none v _ HV6.out).mono ?_
      rintro e w7 ⟨rfl, hb7⟩
      have HV7 := Lib.hid (HV6.out.below (balloc hb7 (.cells #[.int .i64 0, .int .i64 0, .int .i64 0, .string ⟨#[]⟩, .string ⟨#[]⟩, .int .i64 0, .slice none 0 0, .string ⟨#[]⟩, .int .i64 0] 24 (0, 0))))
      have HB7 := Lib.hid (bstep HB6.out (balloc hb7 (.cells #[.int .i64 0, .int .i64 0, .int .i64 0, .string ⟨#[]⟩, .string ⟨#[]⟩, .int .i64 0, .slice none 0 0, .string ⟨#[]⟩, .int .i64 0] 24 (0, 0))))
      clear hb7
      go_upto_region 13 with (fail)
      obtain ⟨w8, hw8⟩ : ∃ w8, w8 = w7.alloc (.cells #[.int .i64 0, .int .i64 0, .int .i64 0, .string ⟨#[]⟩, .string ⟨#[]⟩, .int .i64 0, .slice none 0 0, .string ⟨#[]⟩, .int .i64 0] 24 (0, 0)) := ⟨_, rfl⟩
      rw [← hw8] at HV7 HB7 ⊢
      clear hw8
      obtain ⟨c0, c1, c2, c3, c4, c5, c6, c7, c8, -⟩ := nine_cells (keepB HB7.out HH4.out)
      go_wp2_with fail
      refine (Put_none f it ai ci v w8 HV7.out).mono ?_
      rintro e w9 ⟨rfl, hb9⟩
      have HV9 := Lib.hid (HV7.out.below hb9)
      have HB9 := Lib.hid (bstep HB7.out hb9)
      clear hb9 c0 c1 c2 c3 c4 c5 c6 c7 c8
      go_wp2_with fail
      refine (Skip_none v w9 HV9.out).mono ?_
      rintro e w5 ⟨rfl, rfl⟩
      go_wp2_with fail
      refine (At_none v w9 HV9.out).mono ?_
      rintro e w5 ⟨rfl, rfl⟩
      go_wp2_with fail
      refine (Len_none v w9 HV9.out).mono ?_
      rintro e w5 ⟨rfl, rfl⟩
      go_wp2_with fail
      refine (All_none v w9 HV9.out).mono ?_
      rintro e w5 ⟨rfl, rfl⟩
      go_wp2_with fail
      refine ⟨⟨k + 1, by omega, by go_num, HB9⟩, by simp only [intOf]; omega⟩
    · have hlt' : ¬ (k : Int) < 2 := by omega
      have hlb : decide ((k : Int) < 2) = false := decide_eq_false hlt'
      rename_i wr
      have hz := HB.out.size
      have HBw := Lib.hid (HB4.out.trans (HB.out.mono (by omega)))
      have HHw := Lib.hid (keepB HB.out HH4.out)
      clear hk
      go_wp2_with fail
      refine (New1 w wr HBw.out).mono ?_
      rintro e w5 ⟨rfl, h5, hb5, hz5⟩
      have HO5 := Lib.hid h5
      have HH5 := Lib.hid (keepB hb5 HHw.out)
      clear h5 hb5
      go_wp2_with fail
      refine (New1 w w5 HO5.out.2.2).mono ?_
      rintro e w6 ⟨rfl, h6, hb6, hz6⟩
      have HO6 := Lib.hid (HO5.out.below hb6)
      rw [hz5] at h6
      have HP6 := Lib.hid h6
      have HH6 := Lib.hid (keepB hb6 HH5.out)
      clear h6 hb6
      have hpe := box_ne HO6.out.1 HP6.out.1 (by omega)
      obtain ⟨c0, c1, c2, c3, c4, c5, c6, c7, c8, -⟩ := nine_cells HH6.out
      have hsr := Lib.hid fun W (hb : Below w.heap.size w W) => (HS.out.below hb (Nat.le_refl _)).more (B' := W.heap.size) hb.size
      go_wp2_with fail
      by_cases hv : validF f it = true
      · refine (Put1 HO6.out (by decide) f it ai ci HT.out hv (hsr.out _ HO6.out.2.2)).mono ?_
        rintro e w7 ⟨rfl, ⟨S7, h7, -⟩, ho7⟩
        have HO7 := Lib.hid (show OneS w w7 S7 wr.heap.size (.cons f it .nil) 0 from h7)
        have HP7 := Lib.hid (HP6.out.keep _ ho7 (fun b hb => ⟨by omega, by omega⟩))
        have HH7 := Lib.hid ((ho7.block _ (by omega) (by omega)).trans HH6.out)
        have HVr := Lib.hid ((rValid_any f it _ w7 0 w7.heap.size HT.out (hsr.out _ HO7.out.2.2) (Nat.le_refl _)).mono fun e w' h => (show e = .returned (.bool true) ∧ Below w7.heap.size w7 w' from ⟨h.1.trans (by rw [hv]), h.2⟩))
        clear h7 ho7 c0 c1 c2 c3 c4 c5 c6 c7 c8 hv
        obtain ⟨c0, c1, c2, c3, c4, c5, c6, c7, c8, -⟩ := nine_cells HH7.out
        go_wp2_with fail
        refine HVr.out.mono ?_
        rintro e w8 ⟨rfl, hb8⟩
        have HO8 := Lib.hid (HO7.out.below hb8)
        have HP8 := Lib.hid (HP7.out.below hb8)
        clear hb8 c0 c1 c2 c3 c4 c5 c6 c7 c8
        go_wp2_with fail
        refine (Len_any HO8.out.1).mono ?_
        rintro e w9 ⟨rfl, rfl⟩
        simp only [TL.len, Nat.zero_add]
        go_wp2_with fail
        refine (Len_any HP8.out.1).mono ?_
        rintro e w9 ⟨rfl, rfl⟩
        simp only [TL.len]
        go_wp2_with fail
        go_ret
        exact ⟨rfl, HO8.out.2.2⟩
      · have hv := Bool.eq_false_iff.2 hv
        refine (Put_bad HO6.out.1 f it ai ci HT.out hv (hsr.out _ HO6.out.2.2)).mono ?_
        rintro e w7 ⟨rfl, hb7⟩
        have HO7 := Lib.hid (HO6.out.below hb7)
        have HP7 := Lib.hid (HP6.out.below hb7)
        have HH7 := Lib.hid (keepB hb7 HH6.out)
        have HVr := Lib.hid ((rValid_any f it _ w7 0 w7.heap.size HT.out (hsr.out _ HO7.out.2.2) (Nat.le_refl _)).mono fun e w' h => (show e = .returned (.bool false) ∧ Below w7.heap.size w7 w' from ⟨h.1.trans (by rw [hv]), h.2⟩))
        clear hb7 c0 c1 c2 c3 c4 c5 c6 c7 c8 hv
        obtain ⟨c0, c1, c2, c3, c4, c5, c6, c7, c8, -⟩ := nine_cells HH7.out
        go_wp2_with fail
        refine HVr.out.mono ?_
        rintro e w8 ⟨rfl, hb8⟩
        have HO8 := Lib.hid (HO7.out.below hb8)
        have HP8 := Lib.hid (HP7.out.below hb8)
        clear hb8 c0 c1 c2 c3 c4 c5 c6 c7 c8
        go_wp2_with fail
        refine (Len_any HO8.out.1).mono ?_
        rintro e w9 ⟨rfl, rfl⟩
        simp only [TL.len]
        go_wp2_with fail
        refine (Len_any HP8.out.1).mono ?_
        rintro e w9 ⟨rfl, rfl⟩
        simp only [TL.len]
        go_wp2_with fail
        go_ret
        exact ⟨rfl, HO8.out.2.2⟩
end Go.Proofs.Ytgbaelkoblnlhaa
