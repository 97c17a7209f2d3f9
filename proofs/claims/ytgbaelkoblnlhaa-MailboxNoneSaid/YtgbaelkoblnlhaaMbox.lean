/-
  Walks: the exported functions of the mailbox.
-/
import Derived.Test.YtgbaelkoblnlhaaMbOps
import Derived.Test.YtgbaelkoblnlhaaNwX
import Derived.Deep.RegionHeld3
import Derived.Maps.AppendAt
namespace Go.Proofs.Ytgbaelkoblnlhaa
open Go.RowKit
def MbS (w : World) (S : Nat → Prop) (B : Nat) (l : TL) (p : Nat) : Prop := ∃ bs, Mb w S B l p bs
theorem MbS.below {w w' : World} {S : Nat → Prop} {B : Nat} {l : TL} {p : Nat} (h : MbS w S B l p) (hb : Below w.heap.size w w') : MbS w' S B l p := h.imp fun _ h => h.below hb
theorem MbS.keep {w w' : World} {S : Nat → Prop} {B : Nat} {l : TL} {p : Nat} (h : MbS w S B l p) (hz : w.heap.size ≤ w'.heap.size) (hk : ∀ b, S b → w'.heap[b]? = w.heap[b]?) : MbS w' S B l p := h.imp fun _ h => h.keep hz hk
theorem MbS.lt {w : World} {S : Nat → Prop} {B : Nat} {l : TL} {p : Nat} (h : MbS w S B l p) : ∀ b, S b → b < w.heap.size := h.elim fun _ h => h.lt
theorem MbS.pos {w : World} {S : Nat → Prop} {B : Nat} {l : TL} {p : Nat} (h : MbS w S B l p) : p ≤ l.len := h.elim fun _ h => h.pos
theorem MbS.inB {w : World} {S : Nat → Prop} {B : Nat} {l : TL} {p : Nat} (h : MbS w S B l p) : S B := h.elim fun _ h => h.inS B (List.mem_cons_self ..)
theorem At_any {S : Nat → Prop} {B : Nat} {l : TL} {p : Nat} {w : World} (hM : MbS w S B l p) : Calls Try.prog 67 #[.pointer (some ⟨B, 0, none⟩)] w fun e w' => e = .returned (.int .i64 p) ∧ w = w' := by
  obtain ⟨bs, hm⟩ := hM
  have d0 := cells_of hm.box 0
  have d5 := cells_of hm.box 5
  simp only [List.getElem?_toArray, List.getElem?_cons_succ, List.getElem?_cons_zero] at d0 d5
  have HN := Lib.hid (none_no B w d0)
  clear hm
  go_enter Try.func67, Try.ntmps67
  go_wp2_with fail
  refine HN.out.mono ?_
  rintro e w1 ⟨rfl, rfl⟩
  go_wp2_with fail
  go_ret
  exact ⟨rfl, rfl⟩
theorem Len_any {S : Nat → Prop} {B : Nat} {l : TL} {p : Nat} {w : World} (hM : MbS w S B l p) : Calls Try.prog 71 #[.pointer (some ⟨B, 0, none⟩)] w fun e w' => e = .returned (.int .i64 l.len) ∧ w = w' := by
  obtain ⟨bs, hm⟩ := hM
  have d0 := cells_of hm.box 0
  have d4 := cells_of hm.box 4
  simp only [List.getElem?_toArray, List.getElem?_cons_succ, List.getElem?_cons_zero] at d0 d4
  have HN := Lib.hid (none_no B w d0)
  clear hm
  go_enter Try.func71, Try.ntmps71
  go_wp2_with fail
  refine HN.out.mono ?_
  rintro e w1 ⟨rfl, rfl⟩
  go_wp2_with fail
  go_ret
  exact ⟨rfl, rfl⟩
theorem Rewind_any {S : Nat → Prop} {B : Nat} {l : TL} {p : Nat} {w : World} (hM : MbS w S B l p) : Calls Try.prog 70 #[.pointer (some ⟨B, 0, none⟩)] w fun e w' => e = .returned (.tuple #[]) ∧ MbS w' S B l 0 ∧ OutsS S w w' := by
  obtain ⟨bs, hm⟩ := hM
  have d0 := cells_of hm.box 0
  simp only [List.getElem?_toArray, List.getElem?_cons_zero] at d0
  have HN := Lib.hid (none_no B w d0)
  have HR := Lib.hid (rewind_any hm)
  clear hm
  go_enter Try.func70, Try.ntmps70
  go_wp2_with fail
  refine HN.out.mono ?_
  rintro e w1 ⟨rfl, rfl⟩
  go_wp2_with fail
  refine HR.out.mono ?_
  rintro e w1 ⟨rfl, h1, h2, -⟩
  have H1 := Lib.hid h1
  have H2 := Lib.hid h2
  clear h1 h2
  go_wp2_with fail
  exact bodyPost_end (results_none rfl _ _ _) rfl ⟨rfl, ⟨_, H1.out⟩, H2.out⟩
theorem Skip_no {S : Nat → Prop} {B : Nat} {l : TL} {w : World} (hM : MbS w S B l l.len) : Calls Try.prog 66 #[.pointer (some ⟨B, 0, none⟩)] w fun e w' => e = .returned (.bool false) ∧ w = w' := by
  obtain ⟨bs, hm⟩ := hM
  have d0 := cells_of hm.box 0
  simp only [List.getElem?_toArray, List.getElem?_cons_zero] at d0
  have HN := Lib.hid (none_no B w d0)
  have HR := Lib.hid (skip_no hm)
  clear hm
  go_enter Try.func66, Try.ntmps66
  go_wp2_with fail
  refine HN.out.mono ?_
  rintro e w1 ⟨rfl, rfl⟩
  go_wp2_with fail
  refine HR.out.mono ?_
  rintro e w1 ⟨rfl, rfl⟩
  go_wp2_with fail
  go_ret
  exact ⟨rfl, rfl⟩
theorem Skip_yes {S : Nat → Prop} {B : Nat} {l : TL} {p : Nat} {w : World} (hM : MbS w S B l p) (hp : p < l.len) (hb : l.len ≤ 1000000000) : Calls Try.prog 66 #[.pointer (some ⟨B, 0, none⟩)] w fun e w' => e = .returned (.bool true) ∧ MbS w' S B l (p + 1) ∧ OutsS S w w' := by
  obtain ⟨bs, hm⟩ := hM
  have d0 := cells_of hm.box 0
  simp only [List.getElem?_toArray, List.getElem?_cons_zero] at d0
  have HN := Lib.hid (none_no B w d0)
  have HR := Lib.hid (skip_yes hm hp hb)
  clear hm hp hb
  go_enter Try.func66, Try.ntmps66
  go_wp2_with fail
  refine HN.out.mono ?_
  rintro e w1 ⟨rfl, rfl⟩
  go_wp2_with fail
  refine HR.out.mono ?_
  rintro e w1 ⟨rfl, h1, h2, -⟩
  have H1 := Lib.hid h1
  have H2 := Lib.hid h2
  clear h1 h2
  go_wp2_with fail
  go_ret
  exact ⟨rfl, ⟨_, H1.out⟩, H2.out⟩
set_option maxHeartbeats 1000000 in
theorem Look_no {S : Nat → Prop} {B : Nat} {l : TL} {w : World} (hM : MbS w S B l l.len) : Calls Try.prog 62 #[.pointer (some ⟨B, 0, none⟩)] w fun e w' => e = .returned (.tuple #[.agg #[.int .i64 0, .int .i64 0, .int .i64 0, .string ⟨#[]⟩, .string ⟨#[]⟩, .int .i64 0, .slice none 0 0, .string ⟨#[]⟩, .int .i64 0], .bool false]) ∧ Below w.heap.size w w' := by
  obtain ⟨bs, hm⟩ := hM
  have HMb := Lib.hid hm
  have hBz := hm.ltB
  have d0 := cells_of hm.box 0
  simp only [List.getElem?_toArray, List.getElem?_cons_zero] at d0
  have HN := Lib.hid fun W (hb : Below w.heap.size w W) => none_no B W ((hb.cell (p := ⟨B, 0, none⟩) hBz).trans d0)
  have e : bs[l.len]? = none := List.getElem?_eq_none (by rw [hm.len]; exact Nat.le_refl _)
  have HR := Lib.hid fun W (hb : Below w.heap.size w W) => (here_any (hm.below hb)).mono fun e' w' h => (show e' = .returned (.pointer none) ∧ W = w' from ⟨h.1.trans (by rw [e]; rfl), h.2⟩)
  clear hm e
  go_enter Try.func62, Try.ntmps62
  go_wp2_with fail
  refine (HN.out _ (below_alloc _ _)).mono ?_
  rintro e w1 ⟨rfl, rfl⟩
  go_wp2_with fail
  refine (HR.out _ (below_alloc _ _)).mono ?_
  rintro e w1 ⟨rfl, rfl⟩
  go_wp2_with fail
  exact bodyPost_ret (results_pair rfl _ _ w.heap.size _ _ _ _ _ _ _ _ _ rfl (heap_alloc_new _ _)) rfl ⟨rfl, below_alloc _ _⟩
set_option maxHeartbeats 2000000 in
theorem Look_yes {S : Nat → Prop} {B : Nat} {l : TL} {p : Nat} {w : World} (hM : MbS w S B l p) {f : Fd} {it r : TL} (hd : l.drop p = .cons f it r) (hc : it.cnt ≤ 1000000000) : Calls Try.prog 62 #[.pointer (some ⟨B, 0, none⟩)] w (NewP (.bool true) f it w) := by
  obtain ⟨bs, hm⟩ := hM
  have HMb := Lib.hid hm
  have hBz := hm.ltB
  have HB := Lib.hid (below_alloc w (.cells #[.int .i64 0, .int .i64 0, .int .i64 0, .string ⟨#[]⟩, .string ⟨#[]⟩, .int .i64 0, .slice none 0 0, .string ⟨#[]⟩, .int .i64 0] 24 (0, 0)))
  have d0 := cells_of hm.box 0
  simp only [List.getElem?_toArray, List.getElem?_cons_zero] at d0
  have HN := Lib.hid (none_no B (w.alloc (.cells #[.int .i64 0, .int .i64 0, .int .i64 0, .string ⟨#[]⟩, .string ⟨#[]⟩, .int .i64 0, .slice none 0 0, .string ⟨#[]⟩, .int .i64 0] 24 (0, 0))) ((HB.out.cell (p := ⟨B, 0, none⟩) hBz).trans d0))
  obtain ⟨b, ai, ci, hb, hh, hi⟩ := hm.chn.at_ p hd
  have HR := Lib.hid ((here_any (hm.below HB.out)).mono fun e' w' h => (show e' = .returned (.pointer (some ⟨b, 0, none⟩)) ∧ w.alloc (.cells #[.int .i64 0, .int .i64 0, .int .i64 0, .string ⟨#[]⟩, .string ⟨#[]⟩, .int .i64 0, .slice none 0 0, .string ⟨#[]⟩, .int .i64 0] 24 (0, 0)) = w' from ⟨h.1.trans (by rw [hb]; rfl), h.2⟩))
  have hbz := hm.ltc hb
  have c0 := cells_of hh 0
  have c1 := cells_of hh 1
  have c2 := cells_of hh 2
  have c3 := cells_of hh 3
  have c4 := cells_of hh 4
  have c5 := cells_of hh 5
  have c6 := cells_of hh 6
  have c7 := cells_of hh 7
  have c8 := cells_of hh 8
  simp only [List.getElem?_toArray, List.getElem?_cons_succ, List.getElem?_cons_zero] at c0 c1 c2 c3 c4 c5 c6 c7 c8
  have HC := Lib.hid fun W (hB : Below w.heap.size w W) => (copy_all it.cnt).1 f it (f.val (.slice ai it.len ci)) W 0 w.heap.size (Nat.le_refl _) hc ⟨_, rfl, (hi.rds fun b h => ⟨Nat.zero_le _, hm.lt b h.1⟩).below hB (Nat.le_refl _)⟩ hB.size
  unfold Fd.val Fd.cells at HC
  clear hm hb hh hi hc
  go_enter Try.func62, Try.ntmps62
  go_wp2_with fail
  refine HN.out.mono ?_
  rintro e w1 ⟨rfl, rfl⟩
  go_wp2_with fail
  refine HR.out.mono ?_
  rintro e w1 ⟨rfl, rfl⟩
  go_wp2_with fail
  refine HR.out.mono ?_
  rintro e w1 ⟨rfl, rfl⟩
  go_wp2_with fail
  refine (HC.out _ HB.out).mono ?_
  rintro e w2 ⟨ai2, ci2, rfl, hn, hb2⟩
  have HH := Lib.hid (keepB hb2 (heap_alloc_new w (.cells #[.int .i64 0, .int .i64 0, .int .i64 0, .string ⟨#[]⟩, .string ⟨#[]⟩, .int .i64 0, .slice none 0 0, .string ⟨#[]⟩, .int .i64 0] 24 (0, 0))))
  have HN2 := Lib.hid hn
  have HB2 := Lib.hid (bstep HB.out hb2)
  clear hn hb2
  obtain ⟨g0, g1, g2, g3, g4, g5, g6, g7, g8, fr⟩ := nine_cells HH.out
  go_wp2_with fail
  refine bodyPost_ret (results_pair rfl _ _ w.heap.size _ _ _ _ _ _ _ _ _ rfl (nine_blk HH.out _ _ _ _ _ _ _ _ _)) rfl ⟨_, _, rfl, ?_, ?_⟩
  · refine ((HN2.out.keep fun k hk _ => ?_).wide (by simp) (by simp [World.setCell]))
    simp at hk
    repeat (rw [Below.heap_setCell _ _ _ _ (by simp only []; omega)])
  · repeat (with_reducible refine bset ?_ (by simp) _)
    exact HB2.out
set_option maxHeartbeats 2000000 in
theorem Take_no {S : Nat → Prop} {B : Nat} {l : TL} {w : World} (hM : MbS w S B l l.len) : Calls Try.prog 64 #[.pointer (some ⟨B, 0, none⟩)] w fun e w' => e = .returned (.tuple #[.agg #[.int .i64 0, .int .i64 0, .int .i64 0, .string ⟨#[]⟩, .string ⟨#[]⟩, .int .i64 0, .slice none 0 0, .string ⟨#[]⟩, .int .i64 0], .bool false]) ∧ Below w.heap.size w w' := by
  have HB := Lib.hid (below_alloc w (.cells #[.int .i64 0, .int .i64 0, .int .i64 0, .string ⟨#[]⟩, .string ⟨#[]⟩, .int .i64 0, .slice none 0 0, .string ⟨#[]⟩, .int .i64 0] 24 (0, 0)))
  have HL := Lib.hid (Look_no (hM.below HB.out))
  clear hM
  go_enter Try.func64, Try.ntmps64
  go_wp2_with fail
  refine HL.out.mono ?_
  rintro e w2 ⟨rfl, hb2⟩
  have HH := Lib.hid (keepB hb2 (heap_alloc_new w (.cells #[.int .i64 0, .int .i64 0, .int .i64 0, .string ⟨#[]⟩, .string ⟨#[]⟩, .int .i64 0, .slice none 0 0, .string ⟨#[]⟩, .int .i64 0] 24 (0, 0))))
  have HB2 := Lib.hid (bstep HB.out hb2)
  have hz : w.heap.size < w2.heap.size := by have := hb2.size; simp at this; omega
  clear hb2
  obtain ⟨g0, g1, g2, g3, g4, g5, g6, g7, g8, fr⟩ := nine_cells HH.out
  go_wp2_with fail
  refine bodyPost_ret (results_pair rfl _ _ w.heap.size _ _ _ _ _ _ _ _ _ rfl (heap_after (nine_blk HH.out _ _ _ _ _ _ _ _ _) _)) rfl ⟨rfl, ?_⟩
  refine balloc ?_ _
  repeat (with_reducible refine bset ?_ (by simp) _)
  exact HB2.out
def TakeRet (f : Fd) (it : TL) (S : Nat → Prop) (B : Nat) (l : TL) (p : Nat) (w : World) (e : Ending) (w' : World) : Prop := ∃ ai ci, e = .returned (.tuple #[.agg #[.int .i64 f.k, .int .i64 f.i, .int .i64 f.g, .string f.nm, .string f.fn, .int .i64 f.ar, .slice ai it.len ci, .string f.bs, .int .i64 f.n], .bool true]) ∧ NwS w' w.heap.size w'.heap.size it (.slice ai it.len ci) ∧ MbS w' S B (l.del p) 0 ∧ OutsS S w w'
theorem outs_cell {S : Nat → Prop} {w w' : World} (h : OutsS S w w') {b o : Nat} {v : Value} (hb : b < w.heap.size) (hn : ¬ S b) (hc : w.cell? ⟨b, o, none⟩ = some v) : w'.cell? ⟨b, o, none⟩ = some v := (cell_eq (h.block b hb hn) o).trans hc
set_option maxHeartbeats 2000000 in
theorem Take_yes {S : Nat → Prop} {B : Nat} {l : TL} {p : Nat} {w : World} (hM : MbS w S B l p) {f : Fd} {it r : TL} (hd : l.drop p = .cons f it r) (hp : p < l.len) (hb : l.len ≤ 1000000000) (hc : it.cnt ≤ 1000000000) : Calls Try.prog 64 #[.pointer (some ⟨B, 0, none⟩)] w (TakeRet f it S B l p w) := by
  have HB := Lib.hid (below_alloc w (.cells #[.int .i64 0, .int .i64 0, .int .i64 0, .string ⟨#[]⟩, .string ⟨#[]⟩, .int .i64 0, .slice none 0 0, .string ⟨#[]⟩, .int .i64 0] 24 (0, 0)))
  have HL := Lib.hid (Look_yes (hM.below HB.out) hd hc)
  have HS := Lib.hid hM.lt
  have HP := Lib.hid hp
  obtain ⟨bs, hm⟩ := hM
  have HMb := Lib.hid hm
  have HBd := Lib.hid hb
  clear hm hd hp hb hc
  go_enter Try.func64, Try.ntmps64
  go_wp2_with fail
  refine HL.out.mono ?_
  rintro e w2 ⟨ai, ci, rfl, hn, hb2⟩
  have HH := Lib.hid (heap_after (keepB hb2 (heap_alloc_new w (.cells #[.int .i64 0, .int .i64 0, .int .i64 0, .string ⟨#[]⟩, .string ⟨#[]⟩, .int .i64 0, .slice none 0 0, .string ⟨#[]⟩, .int .i64 0] 24 (0, 0)))) (.cells #[.int .i64 f.k, .int .i64 f.i, .int .i64 f.g, .string f.nm, .string f.fn, .int .i64 f.ar, .slice ai it.len ci, .string f.bs, .int .i64 f.n] 24 (0, 0)))
  have HB2 := Lib.hid (balloc (bstep HB.out hb2) (.cells #[.int .i64 f.k, .int .i64 f.i, .int .i64 f.g, .string f.nm, .string f.fn, .int .i64 f.ar, .slice ai it.len ci, .string f.bs, .int .i64 f.n] 24 (0, 0)))
  have HN2 := Lib.hid (hn.below (below_alloc w2 (.cells #[.int .i64 f.k, .int .i64 f.i, .int .i64 f.g, .string f.nm, .string f.fn, .int .i64 f.ar, .slice ai it.len ci, .string f.bs, .int .i64 f.n] 24 (0, 0))) (Nat.le_refl _))
  have HT := Lib.hid (heap_alloc_new w2 (.cells #[.int .i64 f.k, .int .i64 f.i, .int .i64 f.g, .string f.nm, .string f.fn, .int .i64 f.ar, .slice ai it.len ci, .string f.bs, .int .i64 f.n] 24 (0, 0)))
  have hz : w.heap.size + 1 ≤ w2.heap.size := by have := hb2.size; simp at this; omega
  clear hn hb2
  go_wp2_with fail
  obtain ⟨w3, hw3⟩ : ∃ w3, w3 = w2.alloc (.cells #[.int .i64 f.k, .int .i64 f.i, .int .i64 f.g, .string f.nm, .string f.fn, .int .i64 f.ar, .slice ai it.len ci, .string f.bs, .int .i64 f.n] 24 (0, 0)) := ⟨_, rfl⟩
  have hz3 : w3.heap.size = w2.heap.size + 1 := by rw [hw3]; simp
  rw [← hw3] at HH HB2 HN2 HT ⊢
  clear hw3
  refine (drop_any (HMb.out.below HB2.out) HP.out HBd.out).mono ?_
  rintro e w4 ⟨rfl, hm4, ho4, hz4⟩
  have HH4 := Lib.hid ((ho4.block _ (by omega) (fun h => by have := HS.out _ h; omega)).trans HH.out)
  have HT4 := Lib.hid ((ho4.block _ (by omega) (fun h => by have := HS.out _ h; omega)).trans HT.out)
  have HN4 := Lib.hid (HN2.out.keep fun k h1 h2 => ho4.block k (by omega) (fun h => by have := HS.out _ h; simp at h1; omega))
  have HM4 := Lib.hid hm4
  have HO4 := Lib.hid ((OutsS.of_below (S := S) HB2.out).trans ho4)
  clear hm4 ho4 HH HT HN2 HB2
  obtain ⟨g0, g1, g2, g3, g4, g5, g6, g7, g8, fr⟩ := nine_cells HH4.out
  obtain ⟨t0, t1, t2, t3, t4, t5, t6, t7, t8, -⟩ := nine_cells HT4.out
  go_wp2_with fail
  refine bodyPost_ret (results_pair rfl _ _ w.heap.size _ _ _ _ _ _ _ _ _ rfl (nine_blk HH4.out _ _ _ _ _ _ _ _ _)) rfl ⟨_, _, rfl, ?_, ⟨_, HM4.out.keep ?_ fun k hk => ?_⟩, ?_⟩
  · refine ((HN4.out.keep fun k hk _ => ?_).wide (by simp) (by simp [World.setCell]; omega))
    simp at hk
    repeat (rw [Below.heap_setCell _ _ _ _ (by simp only []; omega)])
  · simp [World.setCell]
  · have hkz := HS.out k hk
    repeat (rw [Below.heap_setCell _ _ _ _ (by simp only []; omega)])
  · repeat (with_reducible refine OutsS.new ?_ (by exact Nat.le_refl _) _ _)
    exact HO4.out
/-- a call of Put that is answered by an errno alone -/
theorem Put_none (f : Fd) (it : TL) (ai : Option Addr) (ci : Nat) (v : Value) (w : World) (hv : v = .pointer none ∨ ∃ B, v = .pointer (some ⟨B, 0, none⟩) ∧ B < w.heap.size ∧ w.cell? ⟨B, 0, none⟩ = some (.bool false)) :
    Calls Try.prog 59 #[v, .agg #[.int .i64 f.k, .int .i64 f.i, .int .i64 f.g, .string f.nm, .string f.fn, .int .i64 f.ar, .slice ai it.len ci, .string f.bs, .int .i64 f.n]] w fun e w' => e = .returned (.int .i64 1) ∧ Below w.heap.size w w' := by
  have HB := Lib.hid (below_alloc w (.cells #[.int .i64 f.k, .int .i64 f.i, .int .i64 f.g, .string f.nm, .string f.fn, .int .i64 f.ar, .slice ai it.len ci, .string f.bs, .int .i64 f.n] 24 (0, 0)))
  rcases hv with rfl | ⟨B, rfl, hB, d0⟩
  · go_enter Try.func59, Try.ntmps59
    go_wp2_with fail
    refine (none_nil _).mono ?_
    rintro e w1 ⟨rfl, rfl⟩
    go_wp2_with fail
    go_ret
    exact ⟨rfl, HB.out⟩
  · have HN := Lib.hid (none_bad B (w.alloc (.cells #[.int .i64 f.k, .int .i64 f.i, .int .i64 f.g, .string f.nm, .string f.fn, .int .i64 f.ar, .slice ai it.len ci, .string f.bs, .int .i64 f.n] 24 (0, 0))) ((HB.out.cell (p := ⟨B, 0, none⟩) hB).trans d0))
    go_enter Try.func59, Try.ntmps59
    go_wp2_with fail
    refine HN.out.mono ?_
    rintro e w1 ⟨rfl, rfl⟩
    go_wp2_with fail
    go_ret
    exact ⟨rfl, HB.out⟩
set_option maxHeartbeats 2000000 in
theorem Put_bad {S : Nat → Prop} {B : Nat} {l : TL} {p : Nat} {w : World} (hM : MbS w S B l p) (f : Fd) (it : TL) (ai : Option Addr) (ci : Nat) (ht : tame f it) (hv : validF f it = false) (hs : RdS w 0 w.heap.size it (.slice ai it.len ci)) :
    Calls Try.prog 59 #[.pointer (some ⟨B, 0, none⟩), .agg #[.int .i64 f.k, .int .i64 f.i, .int .i64 f.g, .string f.nm, .string f.fn, .int .i64 f.ar, .slice ai it.len ci, .string f.bs, .int .i64 f.n]] w fun e w' => e = .returned (.int .i64 2) ∧ Below w.heap.size w w' := by
  have HB := Lib.hid (below_alloc w (.cells #[.int .i64 f.k, .int .i64 f.i, .int .i64 f.g, .string f.nm, .string f.fn, .int .i64 f.ar, .slice ai it.len ci, .string f.bs, .int .i64 f.n] 24 (0, 0)))
  obtain ⟨bs, hm⟩ := hM
  have hBz := hm.ltB
  have d0 := cells_of hm.box 0
  simp only [List.getElem?_toArray, List.getElem?_cons_zero] at d0
  have HN := Lib.hid (none_no B (w.alloc (.cells #[.int .i64 f.k, .int .i64 f.i, .int .i64 f.g, .string f.nm, .string f.fn, .int .i64 f.ar, .slice ai it.len ci, .string f.bs, .int .i64 f.n] 24 (0, 0))) ((HB.out.cell (p := ⟨B, 0, none⟩) hBz).trans d0))
  have HV := Lib.hid ((pValid_any f it _ (w.alloc (.cells #[.int .i64 f.k, .int .i64 f.i, .int .i64 f.g, .string f.nm, .string f.fn, .int .i64 f.ar, .slice ai it.len ci, .string f.bs, .int .i64 f.n] 24 (0, 0))) 0 w.heap.size ht (hs.below HB.out (Nat.le_refl _)) (by simp)).mono fun e w' h => (show e = .returned (.bool false) ∧ Below (w.alloc (.cells #[.int .i64 f.k, .int .i64 f.i, .int .i64 f.g, .string f.nm, .string f.fn, .int .i64 f.ar, .slice ai it.len ci, .string f.bs, .int .i64 f.n] 24 (0, 0))).heap.size (w.alloc (.cells #[.int .i64 f.k, .int .i64 f.i, .int .i64 f.g, .string f.nm, .string f.fn, .int .i64 f.ar, .slice ai it.len ci, .string f.bs, .int .i64 f.n] 24 (0, 0))) w' from ⟨h.1.trans (by rw [hv]), h.2⟩))
  clear hm hs hv ht d0
  go_enter Try.func59, Try.ntmps59
  go_wp2_with fail
  refine HN.out.mono ?_
  rintro e w1 ⟨rfl, rfl⟩
  go_wp2_with fail
  refine HV.out.mono ?_
  rintro e w1 ⟨rfl, hb1⟩
  have HB2 := Lib.hid (bstep HB.out hb1)
  clear hb1
  go_wp2_with fail
  go_ret
  exact ⟨rfl, HB2.out⟩
set_option maxRecDepth 100000 in
set_option maxHeartbeats 2000000 in
theorem Put_ok {S : Nat → Prop} {B : Nat} {l : TL} {p : Nat} {w : World} (hM : MbS w S B l p) (hb : l.len ≤ 1000000000) (f : Fd) (it : TL) (ai : Option Addr) (ci : Nat) (ht : tame f it) (hv : validF f it = true) (hs : RdS w 0 w.heap.size it (.slice ai it.len ci)) :
    Calls Try.prog 59 #[.pointer (some ⟨B, 0, none⟩), .agg #[.int .i64 f.k, .int .i64 f.i, .int .i64 f.g, .string f.nm, .string f.fn, .int .i64 f.ar, .slice ai it.len ci, .string f.bs, .int .i64 f.n]] w fun e w' => e = .returned (.int .i64 0) ∧ MbS w' (fun b => S b ∨ (w.heap.size ≤ b ∧ b < w'.heap.size)) B (l.app (.cons f it .nil)) p ∧ OutsS S w w' := by
  have HB := Lib.hid (below_alloc w (.cells #[.int .i64 f.k, .int .i64 f.i, .int .i64 f.g, .string f.nm, .string f.fn, .int .i64 f.ar, .slice ai it.len ci, .string f.bs, .int .i64 f.n] 24 (0, 0)))
  have HS := Lib.hid hM.lt
  obtain ⟨bs, hm⟩ := hM
  have HMb := Lib.hid hm
  have HBd := Lib.hid hb
  have hBz := hm.ltB
  have d0 := cells_of hm.box 0
  simp only [List.getElem?_toArray, List.getElem?_cons_zero] at d0
  have HN := Lib.hid (none_no B (w.alloc (.cells #[.int .i64 f.k, .int .i64 f.i, .int .i64 f.g, .string f.nm, .string f.fn, .int .i64 f.ar, .slice ai it.len ci, .string f.bs, .int .i64 f.n] 24 (0, 0))) ((HB.out.cell (p := ⟨B, 0, none⟩) hBz).trans d0))
  have HV := Lib.hid ((pValid_any f it _ (w.alloc (.cells #[.int .i64 f.k, .int .i64 f.i, .int .i64 f.g, .string f.nm, .string f.fn, .int .i64 f.ar, .slice ai it.len ci, .string f.bs, .int .i64 f.n] 24 (0, 0))) 0 w.heap.size ht (hs.below HB.out (Nat.le_refl _)) (by simp)).mono fun e w' h => (show e = .returned (.bool true) ∧ Below (w.alloc (.cells #[.int .i64 f.k, .int .i64 f.i, .int .i64 f.g, .string f.nm, .string f.fn, .int .i64 f.ar, .slice ai it.len ci, .string f.bs, .int .i64 f.n] 24 (0, 0))).heap.size (w.alloc (.cells #[.int .i64 f.k, .int .i64 f.i, .int .i64 f.g, .string f.nm, .string f.fn, .int .i64 f.ar, .slice ai it.len ci, .string f.bs, .int .i64 f.n] 24 (0, 0))) w' from ⟨h.1.trans (by rw [hv]), h.2⟩))
  have hcn := ht.1
  have HC := Lib.hid fun W (hB : Below w.heap.size w W) => (copy_all it.cnt).1 f it (f.val (.slice ai it.len ci)) W 0 w.heap.size (Nat.le_refl _) (by omega) ⟨_, rfl, hs.below hB (Nat.le_refl _)⟩ hB.size
  unfold Fd.val Fd.cells at HC
  clear hm hs hv ht d0 hb hcn
  go_enter Try.func59, Try.ntmps59
  go_wp2_with fail
  refine HN.out.mono ?_
  rintro e w1 ⟨rfl, rfl⟩
  go_wp2_with fail
  refine HV.out.mono ?_
  rintro e w1 ⟨rfl, hb1⟩
  have HB2 := Lib.hid (bstep HB.out hb1)
  have HH := Lib.hid (keepB hb1 (heap_alloc_new w (.cells #[.int .i64 f.k, .int .i64 f.i, .int .i64 f.g, .string f.nm, .string f.fn, .int .i64 f.ar, .slice ai it.len ci, .string f.bs, .int .i64 f.n] 24 (0, 0))))
  have hz : w.heap.size < w1.heap.size := by have := hb1.size; simp at this; omega
  clear hb1
  obtain ⟨c0, c1, c2, c3, c4, c5, c6, c7, c8, -⟩ := nine_cells HH.out
  go_upto_region 5 with (fail)
  go_region_held3 (fun w' => w'.cell? ⟨w.heap.size, 0, none⟩ = some (.int .i64 f.k) ∧ w'.cell? ⟨w.heap.size, 1, none⟩ = some (.int .i64 f.i) ∧ w'.cell? ⟨w.heap.size, 2, none⟩ = some (.int .i64 f.g) ∧ w'.cell? ⟨w.heap.size, 3, none⟩ = some (.string f.nm) ∧ w'.cell? ⟨w.heap.size, 4, none⟩ = some (.string f.fn) ∧ w'.cell? ⟨w.heap.size, 5, none⟩ = some (.int .i64 f.ar) ∧ w'.cell? ⟨w.heap.size, 6, none⟩ = some (.slice ai it.len ci) ∧ w'.cell? ⟨w.heap.size, 7, none⟩ = some (.string f.bs) ∧ w'.cell? ⟨w.heap.size, 8, none⟩ = some (.int .i64 f.n))
    (first
      | (exact ⟨c0, c1, c2, c3, c4, c5, c6, c7, c8⟩)
      | (go_split_ands; refine ⟨?_, ?_, ?_, ?_, ?_, ?_, ?_, ?_, ?_⟩ <;> first | exact below_keep hb2 (by assumption) | exact outs_cell ho3 hz2 hnS (by assumption)))
    (first
      | (go_at_call 29; ((with_reducible refine (HC.out _ (by first | exact HB2.out | exact HB2.out.drew)).mono ?_); rintro e w2 ⟨ai2, ci2, rfl, hn2, hb2⟩); have HB3 := Lib.hid (show Below w.heap.size w w2 by first | exact bstep HB2.out hb2 | exact bstep HB2.out.drew hb2); have HX2 := Lib.hid (show RdXS w2 (fun b => w.heap.size ≤ b ∧ b < w2.heap.size) it (.slice ai2 it.len ci2) from hn2.rds.x fun b h1 h2 => ⟨Nat.le_trans (Nat.le_of_lt hz) h1, h2⟩); have hz2 : w.heap.size < w2.heap.size := (by have := hb2.size; first | omega | (simp at this; omega)); have hnS : ¬ S w.heap.size := (fun h => Nat.lt_irrefl _ (HS.out _ h)))
      | (go_at_call 84; ((with_reducible refine (add_any (T := fun b => w.heap.size ≤ b ∧ b < w2.heap.size) (HMb.out.below HB3.out) HBd.out f it _ _ (fun b h => ⟨h.2, fun hs => by have := HS.out b hs; omega⟩) HX2.out).mono ?_); rintro e w3 ⟨rfl, ⟨c, hm3⟩, ho3⟩); have HM3 := Lib.hid hm3; have HO3 := Lib.hid ho3))
  go_wp2_with fail
  go_ret
  refine ⟨rfl, ⟨_, HM3.out.mono (fun b hb => ?_) (fun b hb => ?_)⟩, (OutsS.of_below HB3.out).trans HO3.out⟩
  · have h3 := HO3.out.size
    rcases hb with hb | hb | hb
    · exact .inl hb
    · exact .inr ⟨hb.1, by omega⟩
    · exact .inr ⟨by omega, hb.2⟩
  · have h3 := HO3.out.size
    rcases hb with hb | hb
    · have := HS.out b hb; omega
    · exact hb.2
def lenOf : Value → Nat
  | .slice _ n _ => n
  | _ => 0
theorem lenOf_own {w : World} {base e size : Nat} {v : Value} {n : Nat} {xs : List Value} (h : w.ownsRow base e size v n xs) : lenOf v = n := by
  obtain ⟨_, ⟨e, h0⟩ | ⟨g, cap, cur, e, _⟩⟩ := h
  · rw [e]; exact h0.symm
  · rw [e]; rfl
theorem grown_out {w w2 w3 : World} {o : Obj} {v : Value} {k : Nat} (hg : (w2.alloc o).grownBy w3 v.ownBlock) (hb : Below w.heap.size w w2) (hk : k < w.heap.size) (hn : v.ownBlock ≠ some k) : w3.heap[k]? = w.heap[k]? := by
  have hz := hb.size
  rw [hg.block k (by simp; omega) (fun e => hn e.symm), Below.heap_alloc _ _ _ (by omega)]
  exact hb.block k hk
theorem grown_cell {w w2 w3 : World} {o : Obj} {v x : Value} {base e size n b off : Nat} {xs : List Value} (ho : w.ownsRow base e size v n xs) (hg : (w2.alloc o).grownBy w3 v.ownBlock) (hb : Below w.heap.size w w2) (hB : base ≤ w.heap.size) (hlt : b < base) (h : w.cell? ⟨b, off, none⟩ = some x) : w3.cell? ⟨b, off, none⟩ = some x :=
  (cell_eq (grown_out hg hb (by omega) fun e => by have := (ho.lt b e).1; omega) off).trans h
set_option maxRecDepth 100000 in
set_option maxHeartbeats 2000000 in
theorem All_any {S : Nat → Prop} {B : Nat} {l : TL} {p : Nat} {w : World} (hM : MbS w S B l p) (hb : l.cnt ≤ 1000000000) : Calls Try.prog 61 #[.pointer (some ⟨B, 0, none⟩)] w fun e w' => ∃ ao c, e = .returned (.slice ao l.len c) ∧ NwS w' w.heap.size w'.heap.size l (.slice ao l.len c) ∧ Below w.heap.size w w' := by
  obtain ⟨bs, hm⟩ := hM
  have HMb := Lib.hid hm
  have hBz := hm.ltB
  have hlc := l.len_le_cnt
  have d0 := cells_of hm.box 0
  have d1 := cells_of hm.box 1
  simp only [List.getElem?_toArray, List.getElem?_cons_succ, List.getElem?_cons_zero] at d0 d1
  rw [pt_head] at d1
  have HN := Lib.hid (none_no B w d0)
  have HBd := Lib.hid (show l.cnt ≤ 1000000000 from hb)
  have HL := Lib.hid (show l.len ≤ 1000000000 by omega)
  obtain ⟨i0, hi0, hz0, hz1, hz2⟩ := info_parts Try.info24
  clear hm hb hlc
  obtain ⟨p0, hp0⟩ : ∃ p0, p0 = pt bs[0]? := ⟨_, rfl⟩
  rw [← hp0] at d1
  have HP0 := Lib.hid hp0
  clear hp0
  go_enter Try.func61, Try.ntmps61
  go_wp2_with fail
  refine HN.out.mono ?_
  rintro e w1 ⟨rfl, rfl⟩
  go_wp2_with fail
  go_loopw [3, 4] (fun v c wr => ∃ (k : Nat) (xs : List Value) (T : Nat → Prop), k ≤ l.len ∧ c = pt bs[k]? ∧ Hid (wr.ownsRow w.heap.size 24 9 v k xs) ∧ Hid (NwX wr T (l.take k) xs) ∧ Hid (∀ b, T b → w.heap.size ≤ b ∧ b < wr.heap.size ∧ v.ownBlock ≠ some b) ∧ Hid (Below w.heap.size w wr)) (fun v _ _ => l.len - lenOf v)
  case atStart => exact ⟨0, [], fun _ => False, Nat.zero_le _, HP0.out, Lib.hid (World.ownsRow_nil _ _ _ _), Lib.hid (by rw [TL.take_zero]; trivial), Lib.hid (fun _ h => h.elim), Lib.hid (Below.refl _ _)⟩
  case round =>
    rename_i wr
    obtain ⟨k, xs, T, hk, hc, HO, HX, HT, HB⟩ := hrel
    clear HP0
    have hz := HB.out.size
    by_cases hlt : k < l.len
    · obtain ⟨f, it, hd⟩ := l.drop_at k hlt
      obtain ⟨b, ai, ci, hb, hh, hi⟩ := (HMb.out.below HB.out).chn.at_ k hd
      have c0 := cells_of hh 0
      have c1 := cells_of hh 1
      have c2 := cells_of hh 2
      have c3 := cells_of hh 3
      have c4 := cells_of hh 4
      have c5 := cells_of hh 5
      have c6 := cells_of hh 6
      have c7 := cells_of hh 7
      have c8 := cells_of hh 8
      have c9 := cells_of hh 9
      simp only [List.getElem?_toArray, List.getElem?_cons_succ, List.getElem?_cons_zero] at c0 c1 c2 c3 c4 c5 c6 c7 c8 c9
      rw [hb] at hc
      simp only [pt] at hc
      subst hc
      have hcn : it.cnt ≤ 1000000000 := by have h1 := l.cnt_drop k; have h2 := HBd.out; rw [hd] at h1; simp only [TL.cnt] at h1; omega
      have HC := Lib.hid ((copy_all it.cnt).1 f it (f.val (.slice ai it.len ci)) wr 0 wr.heap.size (Nat.le_refl _) hcn ⟨_, rfl, hi.rds fun b h => ⟨Nat.zero_le _, (HMb.out.below HB.out).lt b h.1⟩⟩ (Nat.le_refl _))
      unfold Fd.val Fd.cells at HC
      have HD := Lib.hid hd
      have HHc := Lib.hid hh
      have HBk := Lib.hid hb
      have HC9 := Lib.hid c9
      have hbw : b < w.heap.size := HMb.out.ltc hb
      clear hh hi hcn hd
      obtain ⟨va, vc, hva⟩ := own_slice HO.out
      subst hva
      clear hb
      generalize hnx : pt bs[k + 1]? = nx at *
      have HNX := Lib.hid hnx
      clear hnx
      go_wp2_with fail
      refine HC.out.mono ?_
      rintro e w2 ⟨ai2, ci2, rfl, hn, hb2⟩
      have HB2 := Lib.hid hb2
      have HN2 := Lib.hid hn
      have HO2 := Lib.hid (own_below HO.out hb2 (Nat.le_refl _))
      have hzb := hb2.size
      have hkL := HL.out
      clear hb2 hn c0 c1 c2 c3 c4 c5 c6 c7 c8 c9
      go_wp2_with (at_builtin; refine wpList_append_own_at _ rfl (.tmp 18) (.tmp 24) 22 rfl w.heap.size 24 i0 zeroV 9 112 Try.underlying22 hi0 hz0 hz1 hz2 rfl (by decide) _ k xs rfl (HO2.out.alloc _) ⟨w2.heap.size, 0, none⟩ 1 1 (f.cells (.slice ai2 it.len ci2)) rfl rfl (news_one (heap_alloc_new _ _)) (cells_one f ai2 it.len ci2) (by unfold maxLen; omega) (by omega) (by simp; omega) ?_; intro v1 w3 hown3 hgrow3 _ hat3; have e9 := grown_cell HO.out hgrow3 HB2.out hz hbw HC9.out)
      have hkg : ∀ j, j < wr.heap.size → (Value.slice va k vc).ownBlock ≠ some j → w3.heap[j]? = wr.heap[j]? := fun j hj hn => grown_out hgrow3 HB2.out hj hn
      have HB3 := Lib.hid (show Below w.heap.size w w3 from HB.out.trans ⟨hgrow3.os.trans HB2.out.os, hgrow3.tape.trans HB2.out.tape, hgrow3.output.trans HB2.out.output, by have := hgrow3.size; simp at this; omega, fun j hj => hkg j (by omega) fun h => by have := (HO.out.lt j h).1; omega⟩)
      have hz3 : w2.heap.size < w3.heap.size := by have := hgrow3.size; simp at this; omega
      have HX3 := Lib.hid (show NwX w3 (fun j => T j ∨ (wr.heap.size ≤ j ∧ j < w2.heap.size)) (l.take (k + 1)) (xs ++ f.cells (.slice ai2 it.len ci2)) by
        rw [take_snoc l k f it _ HD.out]
        refine NwX.app _ _ _ _ (NwX.keep (fun j h => .inl h) (fun j h => hkg j (HT.out j h).2.1 (HT.out j h).2.2) _ _ HX.out) (by rw [HO.out.1, take_len _ _ hk]) (NwX.keep (fun j h => .inr h) (fun j h => ?_) _ _ (NwX.single HN2.out))
        rw [hgrow3.block j (by simp; omega) (fun e => by have := (HO.out.lt j e.symm).2; omega), Below.heap_alloc _ _ _ (by omega)])
      have HT3 := Lib.hid (show ∀ j, (T j ∨ (wr.heap.size ≤ j ∧ j < w2.heap.size)) → w.heap.size ≤ j ∧ j < w3.heap.size ∧ v1.ownBlock ≠ some j from fun j hj => by
        have h1 : w.heap.size ≤ j ∧ j < w2.heap.size ∧ (Value.slice va k vc).ownBlock ≠ some j := by
          rcases hj with hj | hj
          · have := HT.out j hj; exact ⟨this.1, by omega, this.2.2⟩
          · exact ⟨by omega, hj.2, fun h => by have := (HO.out.lt j h).2; omega⟩
        refine ⟨h1.1, by omega, fun h => ?_⟩
        rcases hat3 with e | e
        · exact h1.2.2 (e ▸ h)
        · rw [e, World.size_alloc] at h; injection h with h; omega)
      have HO3 := Lib.hid hown3
      clear hkg hgrow3 hat3 hown3 HHc HC
      rw [show lenOf v1 = k + 1 from lenOf_own HO3.out]
      refine ⟨⟨k + 1, _, _, by omega, HNX.out.symm, HO3, HX3, HT3, HB3⟩, by simp only [lenOf]; omega⟩
    · have hkl : k = l.len := by omega
      subst hkl
      have hbn : bs[l.len]? = none := List.getElem?_eq_none (by rw [HMb.out.len]; exact Nat.le_refl _)
      rw [hbn] at hc
      simp only [pt] at hc
      subst hc
      obtain ⟨va, vc, hva⟩ := own_slice HO.out
      subst hva
      go_wp2_with fail
      go_ret
      refine ⟨_, _, rfl, ?_, HB.out⟩
      have hx := HX.out
      rw [take_all _ _ (Nat.le_refl _)] at hx
      exact NwS.of_owns HO.out rfl (Nat.le_refl _) (Nat.le_refl _) (NwX.nwr (fun j h => ⟨(HT.out j h).1, (HT.out j h).2.1⟩) _ _ hx)
end Go.Proofs.Ytgbaelkoblnlhaa
