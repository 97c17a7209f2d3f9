/-
  What the laws of show share: rows of one and two terms, Great, Same of the kit, Read as one contract, few parts. Walks: shown of law06: it answers true.
-/
import Derived.Test.YtgfodedmcjkmaaaDoorRdD
import Derived.Test.YtgfodedmcjkmaaaDoorWrB
import Derived.Test.YtgfodedmcjkmaaaDoorGreat
import Derived.Test.YtgfodedmcjkmaaaDoorPCheck
import Derived.Test.YtgfodedmcjkmaaaDoorYes
import Derived.Test.YtgfodedmcjkmaaaDoorRTiny
namespace Go.Proofs.YtgfodedmcjkmaaaDoor
open Go.RowKit Go.Proofs.BitsM
theorem RdS.one1 {W : World} {f : Fd} {it : TL} {ai : Option Addr} {ci : Nat} (h : RdS W 0 W.heap.size it (.slice ai it.len ci)) :
    RdS (W.alloc (.cells #[.int .i64 f.k, .int .i64 f.i, .int .i64 f.g, .string f.nm, .string f.fn, .int .i64 f.ar, .slice ai it.len ci, .string f.bs, .int .i64 f.n] 24 (0, 0))) 0 (W.heap.size + 1) (.cons f it .nil) (.slice (some ⟨W.heap.size, 0, none⟩) 1 1) :=
  RdS.one (h.below (below_alloc W _) (Nat.le_refl _)) (heap_alloc_new W _) (Nat.zero_le _) (Nat.le_refl _) (Nat.le_refl _) (by unfold maxLen; omega)
theorem gr_no (l : TL) (v : Value) (w : World) (A B : Nat) (most : Int) (hv : RdS w A B l v) (hB : B ≤ w.heap.size) (h0 : -1 ≤ most) (h1 : most ≤ 1000000) (hg : 0 ≤ leftF l most) :
    Calls Tryd.prog 7 #[v, .int .i64 most] w fun e w' => e = .returned (.bool false) ∧ Below w.heap.size w w' :=
  (Great_any l v w A B most hv hB h0 h1).mono fun e w' h => ⟨h.1.trans (by rw [decide_eq_false (by omega)]), h.2⟩
theorem gr_yes (l : TL) (v : Value) (w : World) (A B : Nat) (most : Int) (hv : RdS w A B l v) (hB : B ≤ w.heap.size) (h0 : -1 ≤ most) (h1 : most ≤ 1000000) (hg : leftF l most < 0) :
    Calls Tryd.prog 7 #[v, .int .i64 most] w fun e w' => e = .returned (.bool true) ∧ Below w.heap.size w w' :=
  (Great_any l v w A B most hv hB h0 h1).mono fun e w' h => ⟨h.1.trans (by rw [decide_eq_true hg]), h.2⟩
/-- equal terms are found the same -/
theorem ksame_eq (f : Fd) (it : TL) (ai ai' : Option Addr) (ci ci' : Nat) (w : World) (h : RdS w 0 w.heap.size it (.slice ai it.len ci)) (h' : RdS w 0 w.heap.size it (.slice ai' it.len ci')) :
    Calls Tryd.prog 11 #[.agg #[.int .i64 f.k, .int .i64 f.i, .int .i64 f.g, .string f.nm, .string f.fn, .int .i64 f.ar, .slice ai it.len ci, .string f.bs, .int .i64 f.n], .agg #[.int .i64 f.k, .int .i64 f.i, .int .i64 f.g, .string f.nm, .string f.fn, .int .i64 f.ar, .slice ai' it.len ci', .string f.bs, .int .i64 f.n]] w fun e w' => e = .returned (.bool true) ∧ Below w.heap.size w w' :=
  ((kitSame_all it.cnt).1 f it f it _ _ w 0 w.heap.size (Nat.le_refl _) ⟨_, rfl, h⟩ ⟨_, rfl, h'⟩ (Nat.le_refl _)).mono fun e w' h => ⟨h.1.trans (by rw [Fd.same_iff.2 rfl, TL.same_iff.2 rfl]; rfl), h.2⟩
/-- what few parts mean -/
theorem tame_of1 {f : Fd} {it : TL} {m : Int} (hm : m ≤ 1000000) (h : 0 ≤ leftF (.cons f it .nil) m) : tame f it ∧ (it.cnt : Int) + 1 ≤ m := by
  obtain ⟨h1, h2⟩ := leftF_cnt _ _ h
  have h3 := TL.small_mono (m' := 1000000) (by omega) _ h2
  simp only [TL.cnt, TL.small] at h1 h3
  exact ⟨⟨by omega, h3.1, h3.2.1, h3.2.2.1, h3.2.2.2.1⟩, by omega⟩
/-- what Read answers, in one form -/
def rdF (o : Option (Fd × TL)) : Fd := match o with | none => kF 0 | some x => x.1
def rdT (o : Option (Fd × TL)) : TL := match o with | none => .nil | some x => x.2
def rdK (o : Option (Fd × TL)) : Int := match o with | none => 6 | some _ => 0
def TupP (f : Fd) (it : TL) (k : Int) (w : World) (e : Ending) (w' : World) : Prop := ∃ ai ci, e = .returned (.tuple #[.agg #[.int .i64 f.k, .int .i64 f.i, .int .i64 f.g, .string f.nm, .string f.fn, .int .i64 f.ar, .slice ai it.len ci, .string f.bs, .int .i64 f.n], .int .i64 k]) ∧ RdS w' w.heap.size w'.heap.size it (.slice ai it.len ci) ∧ Below w.heap.size w w'
theorem readPost_tup {o : Option (Fd × TL)} {w : World} {e : Ending} {w' : World} (h : ReadPost o w e w') : TupP (rdF o) (rdT o) (rdK o) w e w' := by
  cases o with
  | none => exact ⟨none, 0, h.1, RdS.nil _ _ _, h.2⟩
  | some x => exact h
theorem read_tup (l : List UInt8) (w : World) (hl : l.length < 1000000) {o : Option (Fd × TL)} (ho : readT l = o) {f : Fd} {it : TL} {k : Int} (hf : rdF o = f) (ht : rdT o = it) (hk : rdK o = k) : Calls Tryd.prog 10 #[.string (ba l)] w (TupP f it k w) := by
  subst ho hf ht hk
  exact (showRead_any l w hl).mono fun _ _ h => readPost_tup h
theorem Pw.below {w w' : World} (h : Pw w.heap.size w) (hb : Below w.heap.size w w') : Pw w'.heap.size w' := by
  have h2 := h.keep hb
  exact ⟨h2.1, h2.2.imp fun g hg => ⟨hg.1, Nat.lt_of_lt_of_le hg.2 hb.size⟩⟩
theorem Pw.allocd {w : World} (h : Pw w.heap.size w) (o : Obj) : Pw (w.alloc o).heap.size (w.alloc o) := h.below (below_alloc w o)
end Go.Proofs.YtgfodedmcjkmaaaDoor
namespace Go.Proofs.YtgfodedmcjkmaaaDoor
open Go.RowKit Go.Proofs.BitsM
theorem rd_two {w : World} {g : Nat} (f f' : Fd) (hg : w.heap[g]? = some (.cells #[.int .i64 f.k, .int .i64 f.i, .int .i64 f.g, .string f.nm, .string f.fn, .int .i64 f.ar, .slice none 0 0, .string f.bs, .int .i64 f.n, .int .i64 f'.k, .int .i64 f'.i, .int .i64 f'.g, .string f'.nm, .string f'.fn, .int .i64 f'.ar, .slice none 0 0, .string f'.bs, .int .i64 f'.n] 24 (0, 0))) : RdS w 0 (g + 1) (.cons f .nil (.cons f' .nil .nil)) (.slice (some ⟨g, 0, none⟩) 2 2) := by
  refine ⟨_, _, rfl, Nat.le_refl 2, by unfold maxLen; omega, fun _ => ⟨g, 0, rfl, RdL.rd _ (f.cells (.slice none 0 0) ++ (f'.cells (.slice none 0 0) ++ [])) g 0 ⟨_, _, rfl, RdS.nil _ _ _, ⟨_, _, rfl, RdS.nil _ _ _, rfl⟩⟩ (Nat.zero_le _) (Nat.lt_succ_self _) fun j u hu => ?_⟩⟩
  rw [cells_of hg, Nat.zero_add, List.getElem?_toArray]
  exact hu
def sL : TL := .cons (intF (-5)) .nil (.cons (atomF ⟨#[98]⟩) .nil .nil)
def sM : TL := .cons (intF 1) .nil (.cons (kF 8) .nil .nil)
theorem dec5 : Lib.itoa (-5) = [45, 53] := by decide +kernel
theorem dec1 : Lib.itoa 1 = [49] := by decide +kernel
theorem s_text : textT (kF 9) sL = [91, 45, 53, 124, 98, 93] := by decide +kernel
theorem zero_k6 (f : Fd) (n : Nat) (h : bareF f = Fd.zero) (h2 : bareN f n = 0) : zeroB (bareF f) (bareN f n) = true := by rw [h, h2, zeroB_true]
theorem f_int (n : Int) : formT (intF n) .nil = true := by
  unfold formT nodeB
  rw [zero_k6 _ _ rfl rfl]; rfl
theorem f_atom (s : ByteArray) : formT (atomF s) .nil = nameB s := by
  unfold formT nodeB
  rw [zero_k6 _ _ rfl rfl]
  rw [show okK (atomF s) .nil = nameB s from rfl, show formL .nil = true from rfl, Bool.true_and, Bool.and_true]
theorem f_nil : formT (kF 8) .nil = true := by
  unfold formT nodeB
  rw [zero_k6 _ _ rfl rfl]; rfl
theorem name_b : nameB ⟨#[98]⟩ = true := by decide +kernel
theorem s_form : formL sL = true := by
  unfold sL
  rw [formL_cons, formL_cons, f_int, f_atom, name_b]; rfl
theorem s_valid : validF (kF 9) sL = true := by
  unfold validF
  rw [form_list s_form (by decide) (by decide)]; rfl
theorem s_iok : (kF 9).iok ∧ sL.iok := ⟨⟨by decide, by decide⟩, ⟨by decide, by decide⟩, trivial, ⟨by decide, by decide⟩, trivial, trivial⟩
theorem s_tame : tame (kF 9) sL := ⟨by decide, by decide, by decide, by decide, ⟨by decide, by decide, by decide, trivial, ⟨by decide, by decide, by decide, trivial, trivial⟩⟩⟩
theorem s_term : termR (kF 9) sL = .tuple #[.string ⟨#[91, 45, 53, 124, 98, 93]⟩, .int .i64 0] := by unfold termR; rw [s_valid, if_pos rfl, s_text]; rfl
theorem s_read : readT [91, 45, 53, 124, 98, 93] = some (kF 9, sL) := s_text ▸ readT_text s_valid s_iok.1 s_iok.2
theorem s_none : pTerm true 8 0 [91, 45, 53, 124, 32, 98, 93] = none := by
  have h : (pTerm true 8 0 [91, 45, 53, 124, 32, 98, 93]).isNone = true := by decide +kernel
  exact Option.isNone_iff_eq_none.1 h
theorem s_bad : readT [91, 45, 53, 124, 32, 98, 93] = none := by unfold readT; rw [show ([91, 45, 53, 124, 32, 98, 93] : List UInt8).length + 1 = 8 from rfl, s_none]; rfl
theorem m_valid : validL sM = true := by
  unfold sM validL validL validL validF
  rw [f_int, f_nil]; rfl
theorem m_join : joinW sM = [49, 32, 91, 93] := by decide +kernel
theorem m_list : listR sM = .tuple #[.string ⟨#[49, 32, 91, 93]⟩, .int .i64 0] := by unfold listR; rw [m_valid, if_pos rfl, m_join]; rfl
theorem m_small : sM.cnt ≤ 1000000 ∧ sM.small 1000000 ∧ sM.iok := ⟨by decide, ⟨by decide, by decide, by decide, trivial, ⟨by decide, by decide, by decide, trivial, trivial⟩⟩, ⟨by decide, by decide⟩, trivial, ⟨by decide, by decide⟩, trivial, trivial⟩
theorem s_term_c (g : Nat) (w : World) (hg : w.heap[g]? = some (.cells #[.int .i64 (intF (-5)).k, .int .i64 (intF (-5)).i, .int .i64 (intF (-5)).g, .string (intF (-5)).nm, .string (intF (-5)).fn, .int .i64 (intF (-5)).ar, .slice none 0 0, .string (intF (-5)).bs, .int .i64 (intF (-5)).n, .int .i64 (atomF ⟨#[98]⟩).k, .int .i64 (atomF ⟨#[98]⟩).i, .int .i64 (atomF ⟨#[98]⟩).g, .string (atomF ⟨#[98]⟩).nm, .string (atomF ⟨#[98]⟩).fn, .int .i64 (atomF ⟨#[98]⟩).ar, .slice none 0 0, .string (atomF ⟨#[98]⟩).bs, .int .i64 (atomF ⟨#[98]⟩).n] 24 (0, 0))) (hP : Pw w.heap.size w) :
    Calls Tryd.prog 9 #[.agg #[.int .i64 9, .int .i64 0, .int .i64 0, .string ⟨#[]⟩, .string ⟨#[]⟩, .int .i64 0, .slice (some ⟨g, 0, none⟩) 2 2, .string ⟨#[]⟩, .int .i64 0]] w fun e w' => e = .returned (.tuple #[.string ⟨#[91, 45, 53, 124, 98, 93]⟩, .int .i64 0]) ∧ Below w.heap.size w w' := by
  have h := Term_any (kF 9) sL (some ⟨g, 0, none⟩) 2 0 (g + 1) w s_tame s_iok.1 s_iok.2 (rd_two _ _ hg) (lt_of_block hg) hP
  rw [s_term] at h
  exact h
theorem s_list_c (g : Nat) (w : World) (hg : w.heap[g]? = some (.cells #[.int .i64 (intF 1).k, .int .i64 (intF 1).i, .int .i64 (intF 1).g, .string (intF 1).nm, .string (intF 1).fn, .int .i64 (intF 1).ar, .slice none 0 0, .string (intF 1).bs, .int .i64 (intF 1).n, .int .i64 (kF 8).k, .int .i64 (kF 8).i, .int .i64 (kF 8).g, .string (kF 8).nm, .string (kF 8).fn, .int .i64 (kF 8).ar, .slice none 0 0, .string (kF 8).bs, .int .i64 (kF 8).n] 24 (0, 0))) (hP : Pw w.heap.size w) :
    Calls Tryd.prog 17 #[.slice (some ⟨g, 0, none⟩) 2 2] w fun e w' => e = .returned (.tuple #[.string ⟨#[49, 32, 91, 93]⟩, .int .i64 0]) ∧ Below w.heap.size w w' := by
  have h := List_any sM (.slice (some ⟨g, 0, none⟩) 2 2) 0 (g + 1) w m_small.1 m_small.2.1 m_small.2.2 (rd_two _ _ hg) (lt_of_block hg) hP
  rw [m_list] at h
  exact h
theorem s_read_c (w : World) : Calls Tryd.prog 10 #[.string ⟨#[91, 45, 53, 124, 98, 93]⟩] w (TupP (kF 9) sL 0 w) := read_tup [91, 45, 53, 124, 98, 93] w (by decide) s_read rfl rfl rfl
theorem s_bad_c (w : World) : Calls Tryd.prog 10 #[.string ⟨#[91, 45, 53, 124, 32, 98, 93]⟩] w (TupP (kF 0) .nil 6 w) := read_tup [91, 45, 53, 124, 32, 98, 93] w (by decide) s_bad rfl rfl rfl
set_option maxRecDepth 100000 in
set_option maxHeartbeats 8000000 in
theorem shown6_any (w : World) (hP : Pw w.heap.size w) : Calls Tryd.prog 6 #[] w (Yes w) := by
  have HP := Lib.hid hP
  clear hP
  have HF0 := Lib.hid (show Bq w [.base (fun _ => False) w] from ⟨Ch.refl _ _, trivial⟩)
  go_enter Tryd.func6, Tryd.ntmps6
  go_wp2_with fail
  refine (rInt_any (-5) _).mono ?_
  rintro e w1 ⟨rfl, hb⟩
  have HF1 := Lib.hid (HF0.out.below hb)
  clear HF0
  have hz1 : w.heap.size ≤ w1.heap.size := by have := hb.size; first | omega | (simp at this; omega)
  clear hb
  go_wp2_with fail
  refine (rAtom_any ⟨#[98]⟩ _).mono ?_
  rintro e w2 ⟨rfl, hb⟩
  have HF2 := Lib.hid (HF1.out.below hb)
  clear HF1
  have hz2 : w1.heap.size ≤ w2.heap.size := by have := hb.size; first | omega | (simp at this; omega)
  clear hb
  go_wp2_with fail
  have HF3 := Lib.hid (HF2.out.box #[.int .i64 (intF (-5)).k, .int .i64 (intF (-5)).i, .int .i64 (intF (-5)).g, .string (intF (-5)).nm, .string (intF (-5)).fn, .int .i64 (intF (-5)).ar, .slice none 0 0, .string (intF (-5)).bs, .int .i64 (intF (-5)).n, .int .i64 (atomF ⟨#[98]⟩).k, .int .i64 (atomF ⟨#[98]⟩).i, .int .i64 (atomF ⟨#[98]⟩).g, .string (atomF ⟨#[98]⟩).nm, .string (atomF ⟨#[98]⟩).fn, .int .i64 (atomF ⟨#[98]⟩).ar, .slice none 0 0, .string (atomF ⟨#[98]⟩).bs, .int .i64 (atomF ⟨#[98]⟩).n] 24 (n := w2.heap.size) (by rfl))
  clear HF2
  have HF4 := Lib.hid (HF3.out.box #[.int .i64 9, .int .i64 0, .int .i64 0, .string ⟨#[]⟩, .string ⟨#[]⟩, .int .i64 0, .slice (some ⟨w2.heap.size, 0, none⟩) 2 2, .string ⟨#[]⟩, .int .i64 0] 24 (n := w2.heap.size + 1) (by simp))
  clear HF3
  refine (s_term_c w2.heap.size _ (HF4.out.blk 1 rfl) (HP.out.below (((HF4.out.base 2 rfl)).below (Nat.le_refl _) fun _ _ h => h))).mono ?_
  rintro e w3 ⟨rfl, hb⟩
  have HF5 := Lib.hid (HF4.out.below hb)
  clear HF4
  have hz3 : w2.heap.size + 2 ≤ w3.heap.size := by have := hb.size; first | omega | (simp at this; omega)
  clear hb
  go_wp2_with fail
  refine (s_read_c _).mono ?_
  rintro e w4 ⟨ai, ci, rfl, hrd, hb⟩
  have HF6 := Lib.hid (HF5.out.below hb)
  clear HF5
  have hz4 : w3.heap.size ≤ w4.heap.size := by have := hb.size; first | omega | (simp at this; omega)
  clear hb
  have HRD := Lib.hid hrd
  clear hrd
  have HF7 := Lib.hid (HF6.out.add (f := .rd 0 w4.heap.size sL (.slice ai sL.len ci)) ⟨HRD.out.less (Nat.zero_le _), Nat.le_refl _⟩)
  clear HF6
  clear HRD
  go_wp2_with fail
  have HF8 := Lib.hid (HF7.out.box #[.int .i64 (kF 9).k, .int .i64 (kF 9).i, .int .i64 (kF 9).g, .string (kF 9).nm, .string (kF 9).fn, .int .i64 (kF 9).ar, .slice ai sL.len ci, .string (kF 9).bs, .int .i64 (kF 9).n] 24 (n := w4.heap.size) (by rfl))
  clear HF7
  refine (rInt_any 1 _).mono ?_
  rintro e w5 ⟨rfl, hb⟩
  have HF9 := Lib.hid (HF8.out.below hb)
  clear HF8
  have hz5 : w4.heap.size + 1 ≤ w5.heap.size := by have := hb.size; first | omega | (simp at this; omega)
  clear hb
  go_wp2_with fail
  refine (rNil_any _).mono ?_
  rintro e w6 ⟨rfl, hb⟩
  have HF10 := Lib.hid (HF9.out.below hb)
  clear HF9
  have hz6 : w5.heap.size ≤ w6.heap.size := by have := hb.size; first | omega | (simp at this; omega)
  clear hb
  go_wp2_with fail
  have HF11 := Lib.hid (HF10.out.box #[.int .i64 (intF 1).k, .int .i64 (intF 1).i, .int .i64 (intF 1).g, .string (intF 1).nm, .string (intF 1).fn, .int .i64 (intF 1).ar, .slice none 0 0, .string (intF 1).bs, .int .i64 (intF 1).n, .int .i64 (kF 8).k, .int .i64 (kF 8).i, .int .i64 (kF 8).g, .string (kF 8).nm, .string (kF 8).fn, .int .i64 (kF 8).ar, .slice none 0 0, .string (kF 8).bs, .int .i64 (kF 8).n] 24 (n := w6.heap.size) (by rfl))
  clear HF10
  refine (s_list_c w6.heap.size _ (HF11.out.blk 0 rfl) (HP.out.below (((HF11.out.base 5 rfl)).below (Nat.le_refl _) fun _ _ h => h))).mono ?_
  rintro e w7 ⟨rfl, hb⟩
  have HF12 := Lib.hid (HF11.out.below hb)
  clear HF11
  have hz7 : w6.heap.size + 1 ≤ w7.heap.size := by have := hb.size; first | omega | (simp at this; omega)
  clear hb
  go_wp2_with fail
  refine (s_bad_c _).mono ?_
  rintro e w8 ⟨aj, cj, rfl, -, hb⟩
  have HF13 := Lib.hid (HF12.out.below hb)
  clear HF12
  have hz8 : w7.heap.size ≤ w8.heap.size := by have := hb.size; first | omega | (simp at this; omega)
  clear hb
  obtain ⟨c0, c1, c2, c3, c4, c5, c6, c7, c8, -⟩ := nine_cells (HF13.out.blk 1 rfl)
  obtain ⟨d0, d1, d2, d3, d4, d5, d6, d7, d8, -⟩ := nine_cells (HF13.out.blk 3 rfl)
  have hb0 := lt_of_block (HF13.out.blk 1 rfl)
  have hb1 := lt_of_block (HF13.out.blk 3 rfl)
  go_wp2_with fail
  have HF14 := Lib.hid (HF13.out.box #[.int .i64 (kF 0).k, .int .i64 (kF 0).i, .int .i64 (kF 0).g, .string (kF 0).nm, .string (kF 0).fn, .int .i64 (kF 0).ar, .slice aj TL.nil.len cj, .string (kF 0).bs, .int .i64 (kF 0).n] 24 (n := w8.heap.size) (by rfl))
  clear HF13
  refine (ksame_eq (kF 9) sL _ _ _ _ _ (((HF14.out.rd 3 rfl).1.less (Nat.zero_le _)).more (HF14.out.rd 3 rfl).2) (((rd_two (g := w2.heap.size) _ _ (HF14.out.blk 5 rfl)).less (Nat.zero_le _)).more (by have := lt_of_block (HF14.out.blk 5 rfl); omega))).mono ?_
  rintro e w9 ⟨rfl, hb⟩
  have HF15 := Lib.hid (HF14.out.below hb)
  clear HF14
  have hz9 : w8.heap.size + 1 ≤ w9.heap.size := by have := hb.size; first | omega | (simp at this; omega)
  clear hb
  go_wp2_with fail
  go_ret
  exact ⟨rfl, (((HF15.out.base 6 rfl)).below (Nat.le_refl _) fun _ _ h => h)⟩
end Go.Proofs.YtgfodedmcjkmaaaDoor
