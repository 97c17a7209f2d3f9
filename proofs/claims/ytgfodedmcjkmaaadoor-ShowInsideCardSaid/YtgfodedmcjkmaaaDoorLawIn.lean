/-
  Walks: the law ShowInside.
-/
import Derived.Test.YtgfodedmcjkmaaaDoorLawRo
import Derived.Test.YtgfodedmcjkmaaaDoorRLst
namespace Go.Proofs.YtgfodedmcjkmaaaDoor
open Go.RowKit Go.Proofs.BitsM
theorem item_valid : ∀ {l : TL} {k : Nat} {f : Fd} {it r : TL}, formL l = true → wholeL l ≤ 2000 → l.drop k = .cons f it r → validF f it = true
  | .nil, 0, _, _, _, _, _, h => by simp [TL.drop] at h
  | .nil, _ + 1, _, _, _, _, _, h => by simp [TL.drop] at h
  | .cons f' it' r', 0, f, it, r, hf, hw, h => by
    rw [TL.drop] at h
    injection h with e1 e2 e3
    subst e1 e2
    rw [formL_cons, Bool.and_eq_true] at hf
    rw [wholeL_cons] at hw
    unfold validF
    rw [hf.1, Bool.true_and, decide_eq_true_eq]; omega
  | .cons f' it' r', k + 1, f, it, r, hf, hw, h => by
    rw [formL_cons, Bool.and_eq_true] at hf
    rw [wholeL_cons] at hw
    exact item_valid hf.2 (by omega) h
theorem tup_zero {l : TL} (h : tupC l = 0) : formL l = true ∧ wholeL l + 1 ≤ 2000 ∧ validF (kF 7) l = true := by
  unfold tupC at h
  cases hf : formL l with
  | false => rw [hf] at h; simp at h
  | true =>
    rw [hf, if_pos rfl] at h
    by_cases hc : 255 < l.len ∨ 2000 < wholeL l + 1
    · rw [if_pos hc] at h; cases h
    · refine ⟨rfl, by omega, ?_⟩
      unfold validF
      rw [form_tuple hf (by omega), whole_tuple, Bool.true_and, decide_eq_true_eq]; omega
theorem form8 : formT (kF 8) .nil = true := f_nil
theorem lst_zero {l : TL} (h : lstC l (kF 8) .nil = 0) (hl : 1 ≤ l.len) : validF (kF 9) (l.app (.cons (kF 8) .nil .nil)) = true := by
  unfold lstC at h
  cases hf : formL l with
  | false => rw [hf] at h; simp at h
  | true =>
    rw [hf, form8, Bool.and_self, if_pos rfl] at h
    have hm := form_made hf form8 hl
    rw [show tailL (kF 8) .nil = .cons (kF 8) .nil .nil from rfl] at hm
    by_cases hc : 2000 < wholeL l + wholeT (kF 8) .nil + l.len
    · rw [if_pos hc] at h; cases h
    · unfold validF
      rw [hm.1, hm.2, Bool.true_and, decide_eq_true_eq]; omega
theorem ba_cat (x y : List UInt8) : ba x ++ ba y = ba (x ++ y) := by
  apply ByteArray.ext; simp [ba, ByteArray.data_append]
theorem text_tup (l : TL) : textT (kF 7) l = 123 :: (joinC l.texts ++ [125]) := textT_k7 rfl
theorem text_lst (l : TL) : textT (kF 9) (l.app (.cons (kF 8) .nil .nil)) = 91 :: (joinC l.texts ++ [93]) := by
  rw [textT_k9 rfl, lisT_snoc, if_pos (show (kF 8).k = 8 from rfl)]; rfl
theorem tup_rd (l : TL) (ai : Option Addr) (ci B : Nat) (W : World) (hm : l.cnt ≤ 1000000) (hsm : l.small 1000000) (hs : RdS W 0 B l (.slice ai l.len ci)) (hB : B ≤ W.heap.size) {c : Int} (hc : tupC l = c) {F : Fd} {L : TL} (hF : resF c (kF 7) = F) (hL : resL c l = L) :
    Calls Tryd.prog 12 #[.slice ai l.len ci] W fun e w' => ∃ aj cj, e = .returned (.tuple #[.agg #[.int .i64 F.k, .int .i64 F.i, .int .i64 F.g, .string F.nm, .string F.fn, .int .i64 F.ar, .slice aj L.len cj, .string F.bs, .int .i64 F.n], .int .i64 c]) ∧ RdS w' 0 w'.heap.size L (.slice aj L.len cj) ∧ Below W.heap.size W w' := by
  subst hc hF hL
  refine (rTuple_any (fun b => b < W.heap.size) l _ W (fun _ h => h) hm hsm (hs.x fun b _ h2 => by show b < W.heap.size; omega)).mono ?_
  rintro e w' ⟨aj, cj, rfl, h1, h2⟩
  exact ⟨aj, cj, rfl, h1.rd0 fun b hb => by have := h2.size; rcases hb with h | h <;> omega, h2⟩
theorem lst_rd (l : TL) (ai : Option Addr) (ci B : Nat) (W : World) (hm : l.cnt + 1 ≤ 1000000) (hsm : l.small 1000000) (hs : RdS W 0 B l (.slice ai l.len ci)) (hB : B ≤ W.heap.size) {c : Int} (hc : lstC l (kF 8) .nil = c) {F : Fd} {L : TL} (hF : resF c (lstF l (kF 8)) = F) (hL : resL c (lstL l (kF 8) .nil) = L) :
    Calls Tryd.prog 13 #[.slice ai l.len ci, .agg #[.int .i64 (kF 8).k, .int .i64 (kF 8).i, .int .i64 (kF 8).g, .string (kF 8).nm, .string (kF 8).fn, .int .i64 (kF 8).ar, .slice none 0 0, .string (kF 8).bs, .int .i64 (kF 8).n]] W fun e w' => ∃ aj cj, e = .returned (.tuple #[.agg #[.int .i64 F.k, .int .i64 F.i, .int .i64 F.g, .string F.nm, .string F.fn, .int .i64 F.ar, .slice aj L.len cj, .string F.bs, .int .i64 F.n], .int .i64 c]) ∧ RdS w' 0 w'.heap.size L (.slice aj L.len cj) ∧ Below W.heap.size W w' := by
  subst hc hF hL
  refine (rList_any (fun b => b < W.heap.size) l _ (kF 8) .nil (.slice none 0 0) W (fun _ h => h) hm hsm ⟨by decide, by decide, by decide, trivial⟩ (hs.x fun b _ h2 => by show b < W.heap.size; omega) ((RdS.nil W 0 0).x fun b _ h2 => absurd h2 (Nat.not_lt_zero _))).mono ?_
  rintro e w' ⟨aj, cj, rfl, h1, h2⟩
  exact ⟨aj, cj, rfl, h1.rd0 fun b hb => by have := h2.size; rcases hb with h | h <;> omega, h2⟩
set_option maxRecDepth 100000 in
set_option maxHeartbeats 8000000 in
theorem in_zero (l : TL) (ai : Option Addr) (ci : Nat) (w : World) (hP : Pw w.heap.size w) (hs : RdS w 0 w.heap.size l (.slice ai l.len ci)) (hm : l.len = 0) :
    Calls Tryd.prog 5 #[.slice ai l.len ci] w (Yes w) := by
  have HP := Lib.hid hP
  clear hP
  have z0 : ((l.len : Int) == 0) = true := by simp; omega
  have HF0 := Lib.hid (show Bq w [.rd 0 w.heap.size l (.slice ai l.len ci), .base (fun _ => False) w] from ⟨⟨hs, Nat.le_refl _⟩, Ch.refl _ _, trivial⟩)
  clear hs
  go_enter Tryd.func5, Tryd.ntmps5
  go_wp2_with fail
  refine (shown6_any _ (HP.out.below (((HF0.out.base 1 rfl)).below (Nat.le_refl _) fun _ _ h => h))).mono ?_
  rintro e w1 ⟨rfl, hb⟩
  have HF1 := Lib.hid (HF0.out.below hb)
  clear HF0
  have hz1 : w.heap.size ≤ w1.heap.size := by have := hb.size; first | omega | (simp at this; omega)
  clear hb
  go_wp2_with fail
  go_ret
  exact ⟨rfl, (((HF1.out.base 1 rfl)).below (Nat.le_refl _) fun _ _ h => h)⟩
set_option maxRecDepth 100000 in
set_option maxHeartbeats 8000000 in
theorem in_many (l : TL) (ai : Option Addr) (ci : Nat) (w : World) (hP : Pw w.heap.size w) (hs : RdS w 0 w.heap.size l (.slice ai l.len ci)) (hm : 200 < l.len) :
    Calls Tryd.prog 5 #[.slice ai l.len ci] w (Yes w) := by
  have HP := Lib.hid hP
  clear hP
  have z0 : ((l.len : Int) == 0) = false := by simp; omega
  have z1 : (200 : Int) < (l.len : Int) := by omega
  have HF0 := Lib.hid (show Bq w [.rd 0 w.heap.size l (.slice ai l.len ci), .base (fun _ => False) w] from ⟨⟨hs, Nat.le_refl _⟩, Ch.refl _ _, trivial⟩)
  clear hs
  go_enter Tryd.func5, Tryd.ntmps5
  go_wp2_with fail
  refine (shown6_any _ (HP.out.below (((HF0.out.base 1 rfl)).below (Nat.le_refl _) fun _ _ h => h))).mono ?_
  rintro e w1 ⟨rfl, hb⟩
  have HF1 := Lib.hid (HF0.out.below hb)
  clear HF0
  have hz1 : w.heap.size ≤ w1.heap.size := by have := hb.size; first | omega | (simp at this; omega)
  clear hb
  go_wp2_with fail
  go_ret
  exact ⟨rfl, (((HF1.out.base 1 rfl)).below (Nat.le_refl _) fun _ _ h => h)⟩
set_option maxRecDepth 100000 in
set_option maxHeartbeats 8000000 in
theorem in_great (l : TL) (ai : Option Addr) (ci : Nat) (w : World) (hP : Pw w.heap.size w) (hs : RdS w 0 w.heap.size l (.slice ai l.len ci)) (h1 : 1 ≤ l.len) (hm : l.len ≤ 200) (hg : leftF l 6000 < 0) :
    Calls Tryd.prog 5 #[.slice ai l.len ci] w (Yes w) := by
  have HP := Lib.hid hP
  clear hP
  have HG := Lib.hid hg
  clear hg
  have z0 : ((l.len : Int) == 0) = false := by simp; omega
  have z1 : ¬ (200 : Int) < (l.len : Int) := by omega
  have HF0 := Lib.hid (show Bq w [.rd 0 w.heap.size l (.slice ai l.len ci), .base (fun _ => False) w] from ⟨⟨hs, Nat.le_refl _⟩, Ch.refl _ _, trivial⟩)
  clear hs
  go_enter Tryd.func5, Tryd.ntmps5
  go_wp2_with fail
  refine (shown6_any _ (HP.out.below (((HF0.out.base 1 rfl)).below (Nat.le_refl _) fun _ _ h => h))).mono ?_
  rintro e w1 ⟨rfl, hb⟩
  have HF1 := Lib.hid (HF0.out.below hb)
  clear HF0
  have hz1 : w.heap.size ≤ w1.heap.size := by have := hb.size; first | omega | (simp at this; omega)
  clear hb
  go_wp2_with fail
  all_goals (try (exfalso; omega))
  refine (gr_yes _ _ _ _ _ _ (HF1.out.rd 0 rfl).1 (HF1.out.rd 0 rfl).2 (by decide) (by decide) HG.out).mono ?_
  rintro e w2 ⟨rfl, hb⟩
  have HF2 := Lib.hid (HF1.out.below hb)
  clear HF1
  have hz2 : w1.heap.size ≤ w2.heap.size := by have := hb.size; first | omega | (simp at this; omega)
  clear hb
  go_wp2_with fail
  go_ret
  exact ⟨rfl, (((HF2.out.base 1 rfl)).below (Nat.le_refl _) fun _ _ h => h)⟩
set_option maxRecDepth 100000 in
set_option maxHeartbeats 8000000 in
theorem in_bad1 (l : TL) (ai : Option Addr) (ci : Nat) (w : World) (hP : Pw w.heap.size w) (hs : RdS w 0 w.heap.size l (.slice ai l.len ci)) (h1 : 1 ≤ l.len) (hm : l.len ≤ 200) (hg : 0 ≤ leftF l 6000) (hc : tupC l ≠ 0) :
    Calls Tryd.prog 5 #[.slice ai l.len ci] w (Yes w) := by
  have HP := Lib.hid hP
  clear hP
  obtain ⟨hcn, hsm⟩ := leftF_cnt _ _ hg
  have HCN := Lib.hid (show l.cnt ≤ 6000 from by omega)
  have HSM := Lib.hid (TL.small_mono (m' := 1000000) (by decide) _ hsm)
  clear hcn hsm
  have HG := Lib.hid hg
  clear hg
  obtain ⟨c1, hc1⟩ : ∃ c, tupC l = c := ⟨_, rfl⟩
  obtain ⟨F1, hF1⟩ : ∃ F, resF c1 (kF 7) = F := ⟨_, rfl⟩
  obtain ⟨L1, hL1⟩ : ∃ L, resL c1 l = L := ⟨_, rfl⟩
  have y1 : (c1 == 0) = false := by rw [← hc1]; simpa using hc
  have HCT := Lib.hid fun (W : World) (B : Nat) (h : RdS W 0 B l (.slice ai l.len ci)) hB => tup_rd l ai ci B W (by have := HCN.out; omega) HSM.out h hB hc1 hF1 hL1
  obtain ⟨c2, hc2⟩ : ∃ c, lstC l (kF 8) .nil = c := ⟨_, rfl⟩
  obtain ⟨F2, hF2⟩ : ∃ F, resF c2 (lstF l (kF 8)) = F := ⟨_, rfl⟩
  obtain ⟨L2, hL2⟩ : ∃ L, resL c2 (lstL l (kF 8) .nil) = L := ⟨_, rfl⟩
  have HCL := Lib.hid fun (W : World) (B : Nat) (h : RdS W 0 B l (.slice ai l.len ci)) hB => lst_rd l ai ci B W (by have := HCN.out; omega) HSM.out h hB hc2 hF2 hL2
  clear hc hc2 hF2 hL2 hc1 hF1 hL1
  have z0 : ((l.len : Int) == 0) = false := by simp; omega
  have z1 : ¬ (200 : Int) < (l.len : Int) := by omega
  have HF0 := Lib.hid (show Bq w [.rd 0 w.heap.size l (.slice ai l.len ci), .base (fun _ => False) w] from ⟨⟨hs, Nat.le_refl _⟩, Ch.refl _ _, trivial⟩)
  clear hs
  go_enter Tryd.func5, Tryd.ntmps5
  go_wp2_with fail
  refine (shown6_any _ (HP.out.below (((HF0.out.base 1 rfl)).below (Nat.le_refl _) fun _ _ h => h))).mono ?_
  rintro e w1 ⟨rfl, hb⟩
  have HF1 := Lib.hid (HF0.out.below hb)
  clear HF0
  have hz1 : w.heap.size ≤ w1.heap.size := by have := hb.size; first | omega | (simp at this; omega)
  clear hb
  go_wp2_with fail
  all_goals (try (exfalso; omega))
  refine (gr_no _ _ _ _ _ _ (HF1.out.rd 0 rfl).1 (HF1.out.rd 0 rfl).2 (by decide) (by decide) HG.out).mono ?_
  rintro e w2 ⟨rfl, hb⟩
  have HF2 := Lib.hid (HF1.out.below hb)
  clear HF1
  have hz2 : w1.heap.size ≤ w2.heap.size := by have := hb.size; first | omega | (simp at this; omega)
  clear hb
  go_wp2_with fail
  refine (HCT.out _ _ (HF2.out.rd 0 rfl).1 (HF2.out.rd 0 rfl).2).mono ?_
  rintro e w3 ⟨aj, cj, rfl, hrd, hb⟩
  have HF3 := Lib.hid (HF2.out.below hb)
  clear HF2
  have hz3 : w2.heap.size ≤ w3.heap.size := by have := hb.size; first | omega | (simp at this; omega)
  clear hb
  have HRD := Lib.hid hrd
  clear hrd
  have HF4 := Lib.hid (HF3.out.add (f := .rd 0 w3.heap.size L1 (.slice aj L1.len cj)) ⟨HRD.out, Nat.le_refl _⟩)
  clear HF3
  clear HRD
  go_wp2_with fail
  have HF5 := Lib.hid (HF4.out.box #[.int .i64 F1.k, .int .i64 F1.i, .int .i64 F1.g, .string F1.nm, .string F1.fn, .int .i64 F1.ar, .slice aj L1.len cj, .string F1.bs, .int .i64 F1.n] 24 (n := w3.heap.size) (by rfl))
  clear HF4
  refine (rNil_any _).mono ?_
  rintro e w4 ⟨rfl, hb⟩
  have HF6 := Lib.hid (HF5.out.below hb)
  clear HF5
  have hz4 : w3.heap.size + 1 ≤ w4.heap.size := by have := hb.size; first | omega | (simp at this; omega)
  clear hb
  go_wp2_with fail
  refine (HCL.out _ _ (HF6.out.rd 2 rfl).1 (HF6.out.rd 2 rfl).2).mono ?_
  rintro e w5 ⟨ak, ck, rfl, hrd, hb⟩
  have HF7 := Lib.hid (HF6.out.below hb)
  clear HF6
  have hz5 : w4.heap.size ≤ w5.heap.size := by have := hb.size; first | omega | (simp at this; omega)
  clear hb
  have HRD := Lib.hid hrd
  clear hrd
  have HF8 := Lib.hid (HF7.out.add (f := .rd 0 w5.heap.size L2 (.slice ak L2.len ck)) ⟨HRD.out, Nat.le_refl _⟩)
  clear HF7
  clear HRD
  go_wp2_with fail
  have HF9 := Lib.hid (HF8.out.box #[.int .i64 F2.k, .int .i64 F2.i, .int .i64 F2.g, .string F2.nm, .string F2.fn, .int .i64 F2.ar, .slice ak L2.len ck, .string F2.bs, .int .i64 F2.n] 24 (n := w5.heap.size) (by rfl))
  clear HF8
  go_ret
  exact ⟨rfl, (((HF9.out.base 5 rfl)).below (Nat.le_refl _) fun _ _ h => h)⟩
set_option maxRecDepth 100000 in
set_option maxHeartbeats 8000000 in
theorem in_bad2 (l : TL) (ai : Option Addr) (ci : Nat) (w : World) (hP : Pw w.heap.size w) (hs : RdS w 0 w.heap.size l (.slice ai l.len ci)) (h1 : 1 ≤ l.len) (hm : l.len ≤ 200) (hg : 0 ≤ leftF l 6000) (hc : tupC l = 0) (hd : lstC l (kF 8) .nil ≠ 0) :
    Calls Tryd.prog 5 #[.slice ai l.len ci] w (Yes w) := by
  have HP := Lib.hid hP
  clear hP
  obtain ⟨hcn, hsm⟩ := leftF_cnt _ _ hg
  have HCN := Lib.hid (show l.cnt ≤ 6000 from by omega)
  have HSM := Lib.hid (TL.small_mono (m' := 1000000) (by decide) _ hsm)
  clear hcn hsm
  have HG := Lib.hid hg
  clear hg
  have HCT := Lib.hid fun (W : World) (B : Nat) (h : RdS W 0 B l (.slice ai l.len ci)) hB => tup_rd l ai ci B W (by have := HCN.out; omega) HSM.out h hB hc (F := kF 7) (L := l) rfl rfl
  obtain ⟨c2, hc2⟩ : ∃ c, lstC l (kF 8) .nil = c := ⟨_, rfl⟩
  obtain ⟨F2, hF2⟩ : ∃ F, resF c2 (lstF l (kF 8)) = F := ⟨_, rfl⟩
  obtain ⟨L2, hL2⟩ : ∃ L, resL c2 (lstL l (kF 8) .nil) = L := ⟨_, rfl⟩
  have y2 : (c2 == 0) = false := by rw [← hc2]; simpa using hd
  have HCL := Lib.hid fun (W : World) (B : Nat) (h : RdS W 0 B l (.slice ai l.len ci)) hB => lst_rd l ai ci B W (by have := HCN.out; omega) HSM.out h hB hc2 hF2 hL2
  clear hc hc2 hF2 hL2 hd
  have z0 : ((l.len : Int) == 0) = false := by simp; omega
  have z1 : ¬ (200 : Int) < (l.len : Int) := by omega
  have HF0 := Lib.hid (show Bq w [.rd 0 w.heap.size l (.slice ai l.len ci), .base (fun _ => False) w] from ⟨⟨hs, Nat.le_refl _⟩, Ch.refl _ _, trivial⟩)
  clear hs
  go_enter Tryd.func5, Tryd.ntmps5
  go_wp2_with fail
  refine (shown6_any _ (HP.out.below (((HF0.out.base 1 rfl)).below (Nat.le_refl _) fun _ _ h => h))).mono ?_
  rintro e w1 ⟨rfl, hb⟩
  have HF1 := Lib.hid (HF0.out.below hb)
  clear HF0
  have hz1 : w.heap.size ≤ w1.heap.size := by have := hb.size; first | omega | (simp at this; omega)
  clear hb
  go_wp2_with fail
  all_goals (try (exfalso; omega))
  refine (gr_no _ _ _ _ _ _ (HF1.out.rd 0 rfl).1 (HF1.out.rd 0 rfl).2 (by decide) (by decide) HG.out).mono ?_
  rintro e w2 ⟨rfl, hb⟩
  have HF2 := Lib.hid (HF1.out.below hb)
  clear HF1
  have hz2 : w1.heap.size ≤ w2.heap.size := by have := hb.size; first | omega | (simp at this; omega)
  clear hb
  go_wp2_with fail
  refine (HCT.out _ _ (HF2.out.rd 0 rfl).1 (HF2.out.rd 0 rfl).2).mono ?_
  rintro e w3 ⟨aj, cj, rfl, hrd, hb⟩
  have HF3 := Lib.hid (HF2.out.below hb)
  clear HF2
  have hz3 : w2.heap.size ≤ w3.heap.size := by have := hb.size; first | omega | (simp at this; omega)
  clear hb
  have HRD := Lib.hid hrd
  clear hrd
  have HF4 := Lib.hid (HF3.out.add (f := .rd 0 w3.heap.size l (.slice aj l.len cj)) ⟨HRD.out, Nat.le_refl _⟩)
  clear HF3
  clear HRD
  go_wp2_with fail
  have HF5 := Lib.hid (HF4.out.box #[.int .i64 (kF 7).k, .int .i64 (kF 7).i, .int .i64 (kF 7).g, .string (kF 7).nm, .string (kF 7).fn, .int .i64 (kF 7).ar, .slice aj l.len cj, .string (kF 7).bs, .int .i64 (kF 7).n] 24 (n := w3.heap.size) (by rfl))
  clear HF4
  refine (rNil_any _).mono ?_
  rintro e w4 ⟨rfl, hb⟩
  have HF6 := Lib.hid (HF5.out.below hb)
  clear HF5
  have hz4 : w3.heap.size + 1 ≤ w4.heap.size := by have := hb.size; first | omega | (simp at this; omega)
  clear hb
  go_wp2_with fail
  refine (HCL.out _ _ (HF6.out.rd 2 rfl).1 (HF6.out.rd 2 rfl).2).mono ?_
  rintro e w5 ⟨ak, ck, rfl, hrd, hb⟩
  have HF7 := Lib.hid (HF6.out.below hb)
  clear HF6
  have hz5 : w4.heap.size ≤ w5.heap.size := by have := hb.size; first | omega | (simp at this; omega)
  clear hb
  have HRD := Lib.hid hrd
  clear hrd
  have HF8 := Lib.hid (HF7.out.add (f := .rd 0 w5.heap.size L2 (.slice ak L2.len ck)) ⟨HRD.out, Nat.le_refl _⟩)
  clear HF7
  clear HRD
  go_wp2_with fail
  have HF9 := Lib.hid (HF8.out.box #[.int .i64 F2.k, .int .i64 F2.i, .int .i64 F2.g, .string F2.nm, .string F2.fn, .int .i64 F2.ar, .slice ak L2.len ck, .string F2.bs, .int .i64 F2.n] 24 (n := w5.heap.size) (by rfl))
  clear HF8
  go_ret
  exact ⟨rfl, (((HF9.out.base 5 rfl)).below (Nat.le_refl _) fun _ _ h => h)⟩
set_option maxRecDepth 100000 in
set_option maxHeartbeats 8000000 in
theorem in_main (l : TL) (ai : Option Addr) (ci : Nat) (w : World) (hP : Pw w.heap.size w) (hs : RdS w 0 w.heap.size l (.slice ai l.len ci)) (h1 : 1 ≤ l.len) (hm : l.len ≤ 200) (hg : 0 ≤ leftF l 6000) (hi : l.iok) (hc : tupC l = 0) (hd : lstC l (kF 8) .nil = 0) :
    Calls Tryd.prog 5 #[.slice ai l.len ci] w (Yes w) := by
  have HP := Lib.hid hP
  clear hP
  obtain ⟨hcn, hsm⟩ := leftF_cnt _ _ hg
  have HCN := Lib.hid (show l.cnt ≤ 6000 from by omega)
  have HSM := Lib.hid (TL.small_mono (m' := 1000000) (by decide) _ hsm)
  clear hcn hsm
  have HG := Lib.hid hg
  clear hg
  have HCT := Lib.hid fun (W : World) (B : Nat) (h : RdS W 0 B l (.slice ai l.len ci)) hB => tup_rd l ai ci B W (by have := HCN.out; omega) HSM.out h hB hc (F := kF 7) (L := l) rfl rfl
  have hl0 : l.len ≠ 0 := by omega
  have HCL := Lib.hid fun (W : World) (B : Nat) (h : RdS W 0 B l (.slice ai l.len ci)) hB => lst_rd l ai ci B W (by have := HCN.out; omega) HSM.out h hB hd (F := kF 9) (L := l.app (.cons (kF 8) .nil .nil)) (show lstF l (kF 8) = kF 9 by unfold lstF; rw [if_neg hl0]) (show lstL l (kF 8) .nil = _ by unfold lstL; rw [if_neg hl0]; rfl)
  have HZ := Lib.hid (tup_zero hc)
  have HY := Lib.hid (lst_zero hd h1)
  have HX := Lib.hid fun k f it r (e : l.drop k = .cons f it r) => tame_at (Nat.le_trans HCN.out (by decide)) HSM.out hi e
  have HII := Lib.hid hi
  have hjl := textT_len (HZ.out.2.2) (show (kF 7).iok from ⟨by decide, by decide⟩) hi
  rw [text_tup, List.length_cons, List.length_append, List.length_singleton] at hjl
  have htm1 : tame (kF 7) l := ⟨Nat.le_trans HCN.out (by decide), by decide, by decide, by decide, HSM.out⟩
  have htm2 : tame (kF 9) (l.app (.cons (kF 8) .nil .nil)) := ⟨by rw [app_cnt]; have := HCN.out; simp only [TL.cnt]; omega, by decide, by decide, by decide, small_app HSM.out ⟨by decide, by decide, by decide, trivial, trivial⟩⟩
  have hio2 : (l.app (.cons (kF 8) .nil .nil)).iok := iok_app.2 ⟨hi, ⟨by decide, by decide⟩, trivial, trivial⟩
  have HT1 := Lib.hid fun (aj : Option Addr) (cj : Nat) W A B (hs : RdS W A B l (.slice aj l.len cj)) (hB : B ≤ W.heap.size) hP => (term_c (kF 7) l aj cj A B W htm1 ⟨by decide, by decide⟩ hi hs hB hP HZ.out.2.2).mono fun e w' h => (show e = .returned (.tuple #[.string (ba (123 :: (joinC l.texts ++ [125]))), .int .i64 0]) ∧ Below _ _ w' by rw [text_tup] at h; exact h)
  have HT2 := Lib.hid fun (aj : Option Addr) (cj : Nat) W A B (hs : RdS W A B (l.app (.cons (kF 8) .nil .nil)) (.slice aj (l.app (.cons (kF 8) .nil .nil)).len cj)) (hB : B ≤ W.heap.size) hP => (term_c (kF 9) _ aj cj A B W htm2 ⟨by decide, by decide⟩ hio2 hs hB hP HY.out).mono fun e w' h => (show e = .returned (.tuple #[.string (ba (91 :: (joinC l.texts ++ [93]))), .int .i64 0]) ∧ Below _ _ w' by rw [text_lst] at h; exact h)
  have HR := Lib.hid hs
  clear hc hd hi htm1 htm2 hio2 hl0
  have hll : l.len ≤ 1000000 := by omega
  have z0 : ((l.len : Int) == 0) = false := by simp; omega
  have z1 : ¬ (200 : Int) < (l.len : Int) := by omega
  have HF0 := Lib.hid (show Bq w [.rd 0 w.heap.size l (.slice ai l.len ci), .base (fun _ => False) w] from ⟨⟨hs, Nat.le_refl _⟩, Ch.refl _ _, trivial⟩)
  clear hs
  go_enter Tryd.func5, Tryd.ntmps5
  go_wp2_with fail
  refine (shown6_any _ (HP.out.below (((HF0.out.base 1 rfl)).below (Nat.le_refl _) fun _ _ h => h))).mono ?_
  rintro e w1 ⟨rfl, hb⟩
  have HF1 := Lib.hid (HF0.out.below hb)
  clear HF0
  have hz1 : w.heap.size ≤ w1.heap.size := by have := hb.size; first | omega | (simp at this; omega)
  clear hb
  go_wp2_with fail
  all_goals (try (exfalso; omega))
  refine (gr_no _ _ _ _ _ _ (HF1.out.rd 0 rfl).1 (HF1.out.rd 0 rfl).2 (by decide) (by decide) HG.out).mono ?_
  rintro e w2 ⟨rfl, hb⟩
  have HF2 := Lib.hid (HF1.out.below hb)
  clear HF1
  have hz2 : w1.heap.size ≤ w2.heap.size := by have := hb.size; first | omega | (simp at this; omega)
  clear hb
  go_wp2_with fail
  refine (HCT.out _ _ (HF2.out.rd 0 rfl).1 (HF2.out.rd 0 rfl).2).mono ?_
  rintro e w3 ⟨aj, cj, rfl, hrd, hb⟩
  have HF3 := Lib.hid (HF2.out.below hb)
  clear HF2
  have hz3 : w2.heap.size ≤ w3.heap.size := by have := hb.size; first | omega | (simp at this; omega)
  clear hb
  have HRD := Lib.hid hrd
  clear hrd
  have HF4 := Lib.hid (HF3.out.add (f := .rd 0 w3.heap.size l (.slice aj l.len cj)) ⟨HRD.out, Nat.le_refl _⟩)
  clear HF3
  clear HRD
  go_wp2_with fail
  have HF5 := Lib.hid (HF4.out.box #[.int .i64 (kF 7).k, .int .i64 (kF 7).i, .int .i64 (kF 7).g, .string (kF 7).nm, .string (kF 7).fn, .int .i64 (kF 7).ar, .slice aj l.len cj, .string (kF 7).bs, .int .i64 (kF 7).n] 24 (n := w3.heap.size) (by rfl))
  clear HF4
  refine (rNil_any _).mono ?_
  rintro e w4 ⟨rfl, hb⟩
  have HF6 := Lib.hid (HF5.out.below hb)
  clear HF5
  have hz4 : w3.heap.size + 1 ≤ w4.heap.size := by have := hb.size; first | omega | (simp at this; omega)
  clear hb
  go_wp2_with fail
  refine (HCL.out _ _ (HF6.out.rd 2 rfl).1 (HF6.out.rd 2 rfl).2).mono ?_
  rintro e w5 ⟨ak, ck, rfl, hrd, hb⟩
  have HF7 := Lib.hid (HF6.out.below hb)
  clear HF6
  have hz5 : w4.heap.size ≤ w5.heap.size := by have := hb.size; first | omega | (simp at this; omega)
  clear hb
  have HRD := Lib.hid hrd
  clear hrd
  have HF8 := Lib.hid (HF7.out.add (f := .rd 0 w5.heap.size (l.app (.cons (kF 8) .nil .nil)) (.slice ak (l.app (.cons (kF 8) .nil .nil)).len ck)) ⟨HRD.out, Nat.le_refl _⟩)
  clear HF7
  clear HRD
  go_wp2_with fail
  have HF9 := Lib.hid (HF8.out.box #[.int .i64 (kF 9).k, .int .i64 (kF 9).i, .int .i64 (kF 9).g, .string (kF 9).nm, .string (kF 9).fn, .int .i64 (kF 9).ar, .slice ak (l.app (.cons (kF 8) .nil .nil)).len ck, .string (kF 9).bs, .int .i64 (kF 9).n] 24 (n := w5.heap.size) (by rfl))
  clear HF8
  have hsw : w.heap.size ≤ w5.heap.size + 1 := by omega
  go_loopw [7, 8] (fun sv iv wr => ∃ (k : Nat) (acc : List UInt8), k ≤ l.len ∧ iv = .int .i64 k ∧ sv = .string (ba acc) ∧ Hid (joinC (l.texts.take k) = acc) ∧ Hid (Bq wr [.blk (w5.heap.size) #[.int .i64 (kF 9).k, .int .i64 (kF 9).i, .int .i64 (kF 9).g, .string (kF 9).nm, .string (kF 9).fn, .int .i64 (kF 9).ar, .slice ak (l.app (.cons (kF 8) .nil .nil)).len ck, .string (kF 9).bs, .int .i64 (kF 9).n] 24, .rd 0 w5.heap.size (l.app (.cons (kF 8) .nil .nil)) (.slice ak (l.app (.cons (kF 8) .nil .nil)).len ck), .blk (w3.heap.size) #[.int .i64 (kF 7).k, .int .i64 (kF 7).i, .int .i64 (kF 7).g, .string (kF 7).nm, .string (kF 7).fn, .int .i64 (kF 7).ar, .slice aj l.len cj, .string (kF 7).bs, .int .i64 (kF 7).n] 24, .rd 0 w3.heap.size l (.slice aj l.len cj), .rd 0 w.heap.size l (.slice ai l.len ci), .base (fun _ => False) w])) (fun _ iv _ => l.len - (intOf iv).toNat)
  case atStart => exact ⟨0, [], Nat.zero_le _, rfl, rfl, Lib.hid (by rw [List.take_zero]; rfl), HF9⟩
  case round =>
    obtain ⟨k, acc, hk, rfl, rfl, HA, HW⟩ := hrel
    clear HF9
    have HB := Lib.hid (((HW.out.base 5 rfl)).below (Nat.le_refl _) fun _ _ h => h)
    have hal : acc.length ≤ (joinC l.texts).length := by rw [← HA.out]; exact joinC_take_le _ _
    have s1 : (ba acc).size = acc.length := ba_size _
    by_cases hlt : k < l.len
    · skip
      have hlt' : (k : Int) < (l.len : Int) := by omega
      obtain ⟨f, it, e1⟩ := TL.drop_at l k hlt
      obtain ⟨ao0, cap0, ea, hcap, hmax, hr⟩ := HR.out
      injection ea with ea1 ea2 ea3
      subst ea1 ea3
      unfold maxLen at hmax
      obtain ⟨ob, o, rfl, hrd⟩ := hr (by intro e; rw [e] at hlt; simp [TL.len] at hlt)
      obtain ⟨-, hb, iv, hcl, hit⟩ := Rd.at_ l ob o k f it _ hrd e1
      have HIT := Lib.hid hit
      obtain ⟨am, cm, rfl, -, -, -⟩ := HIT.out
      have hcw : ∀ j v, (f.cells (.slice am it.len cm))[j]? = some v → wr.cell? ⟨ob, o + 9 * k + j, none⟩ = some v := fun j v hj => (HB.out.cell (p := ⟨ob, o + 9 * k + j, none⟩) (by exact hb)).trans (hcl j v hj)
      have c0 : wr.cell? ⟨ob, o + k * 9, none⟩ = some (.int .i64 f.k) := by have h := hcw 0 _ rfl; rw [Nat.mul_comm 9 k] at h; exact h
      have c1 : wr.cell? ⟨ob, o + k * 9 + 1, none⟩ = some (.int .i64 f.i) := by have h := hcw 1 _ rfl; rw [Nat.mul_comm 9 k] at h; exact h
      have c2 : wr.cell? ⟨ob, o + k * 9 + 2, none⟩ = some (.int .i64 f.g) := by have h := hcw 2 _ rfl; rw [Nat.mul_comm 9 k] at h; exact h
      have c3 : wr.cell? ⟨ob, o + k * 9 + 3, none⟩ = some (.string f.nm) := by have h := hcw 3 _ rfl; rw [Nat.mul_comm 9 k] at h; exact h
      have c4 : wr.cell? ⟨ob, o + k * 9 + 4, none⟩ = some (.string f.fn) := by have h := hcw 4 _ rfl; rw [Nat.mul_comm 9 k] at h; exact h
      have c5 : wr.cell? ⟨ob, o + k * 9 + 5, none⟩ = some (.int .i64 f.ar) := by have h := hcw 5 _ rfl; rw [Nat.mul_comm 9 k] at h; exact h
      have c6 : wr.cell? ⟨ob, o + k * 9 + 6, none⟩ = some (.slice am it.len cm) := by have h := hcw 6 _ rfl; rw [Nat.mul_comm 9 k] at h; exact h
      have c7 : wr.cell? ⟨ob, o + k * 9 + 7, none⟩ = some (.string f.bs) := by have h := hcw 7 _ rfl; rw [Nat.mul_comm 9 k] at h; exact h
      have c8 : wr.cell? ⟨ob, o + k * 9 + 8, none⟩ = some (.int .i64 f.n) := by have h := hcw 8 _ rfl; rw [Nat.mul_comm 9 k] at h; exact h
      have HXK := Lib.hid (HX.out k f it _ e1)
      have HV := Lib.hid (item_valid HZ.out.1 (by have := HZ.out.2.1; omega) e1)
      have HJ := Lib.hid (joinC_take _ _ _ (texts_at e1))
      have hj2 := joinC_take_le l.texts (k + 1)
      rw [HJ.out, HA.out] at hj2
      have HCall := Lib.hid fun W (hbW : Below w.heap.size w W) => term_c f it am cm 0 w.heap.size W HXK.out.1 HXK.out.2.1 HXK.out.2.2 (HIT.out.below hbW (Nat.le_refl _)) hbW.size (HP.out.below hbW) HV.out
      clear hcl hcw hrd e1 hit hr ea2
      generalize textT f it = tx at HCall HJ hj2
      have s2 : (ba tx).size = tx.length := ba_size _
      by_cases hk0 : k = 0
      · skip
        subst hk0
        simp only [Nat.zero_mul, Nat.add_zero] at c0 c1 c2 c3 c4 c5 c6 c7 c8
        rw [if_pos rfl, List.nil_append, List.length_append] at hj2
        have q2 : ¬ (9223372036854775807 < acc.length + tx.length) := by omega
        have a2 := ba_cat acc tx
        go_wp2_with fail
        refine (HCall.out _ HB.out).mono ?_
        rintro e w6 ⟨rfl, hb⟩
        have HF1 := Lib.hid (HW.out.below hb)
        clear HW
        have hz6 : wr.heap.size ≤ w6.heap.size := by have := hb.size; first | omega | (simp at this; omega)
        clear hb
        clear c0 c1 c2 c3 c4 c5 c6 c7 c8
        go_wp2_with fail
        go_roundw
        case rel => exact ⟨0 + 1, acc ++ tx, by omega, by go_num, rfl, Lib.hid (by rw [HJ.out, HA.out]; rfl), HF1⟩
        case measure => simp only [intOf]; omega
      · skip
        have x1 : (0 : Int) < (k : Int) := by omega
        rw [if_neg hk0, List.length_append, List.length_append, List.length_singleton] at hj2
        have q1 : ¬ (9223372036854775807 < acc.length + 1) := by omega
        have q2 : ¬ (9223372036854775807 < acc.length + 1 + tx.length) := by omega
        have a1 : ba acc ++ (⟨#[44]⟩ : ByteArray) = ba (acc ++ [44]) := ba_cat acc [44]
        have s3 : (ba (acc ++ [44])).size = acc.length + 1 := by rw [ba_size, List.length_append]; rfl
        have a2 : ba (acc ++ [44]) ++ ba tx = ba (acc ++ ([44] ++ tx)) := by rw [ba_cat, List.append_assoc]
        go_wp2_with fail
        refine (HCall.out _ HB.out).mono ?_
        rintro e w6 ⟨rfl, hb⟩
        have HF1 := Lib.hid (HW.out.below hb)
        clear HW
        have hz6 : wr.heap.size ≤ w6.heap.size := by have := hb.size; first | omega | (simp at this; omega)
        clear hb
        clear c0 c1 c2 c3 c4 c5 c6 c7 c8
        go_wp2_with fail
        go_roundw
        case rel => exact ⟨k + 1, acc ++ ([44] ++ tx), by omega, by go_num, rfl, Lib.hid (by rw [HJ.out, HA.out, if_neg hk0]), HF1⟩
        case measure => simp only [intOf]; omega
    · skip
      have x1 : ¬ (k : Int) < (l.len : Int) := by omega
      obtain rfl : k = l.len := by omega
      have hA := HA.out
      rw [← texts_len, List.take_length] at hA
      rw [hA] at HT1 HT2 hjl
      have a3 : (⟨#[123]⟩ : ByteArray) ++ ba acc = ba (123 :: acc) := ba_cat [123] acc
      have a4 : ba (123 :: acc) ++ (⟨#[125]⟩ : ByteArray) = ba (123 :: (acc ++ [125])) := ba_cat (123 :: acc) [125]
      have a5 : (⟨#[91]⟩ : ByteArray) ++ ba acc = ba (91 :: acc) := ba_cat [91] acc
      have a6 : ba (91 :: acc) ++ (⟨#[93]⟩ : ByteArray) = ba (91 :: (acc ++ [93])) := ba_cat (91 :: acc) [93]
      have s3 : (ba (123 :: acc)).size = acc.length + 1 := ba_size _
      have s4 : (ba (91 :: acc)).size = acc.length + 1 := ba_size _
      have q1 : ¬ (9223372036854775807 < 1 + acc.length) := by omega
      have q2 : ¬ (9223372036854775807 < acc.length + 1 + 1) := by omega
      clear hA hal
      obtain ⟨c0, c1, c2, c3, c4, c5, c6, c7, c8, -⟩ := nine_cells (HW.out.blk 2 rfl)
      have hv0 := lt_of_block (HW.out.blk 2 rfl)
      go_wp2_with fail
      refine (HT1.out _ _ _ _ _ (HW.out.rd 3 rfl).1 (HW.out.rd 3 rfl).2 (HP.out.below (((HW.out.base 5 rfl)).below (Nat.le_refl _) fun _ _ h => h))).mono ?_
      rintro e w6 ⟨rfl, hb⟩
      have HF1 := Lib.hid (HW.out.below hb)
      clear HW
      have hz6 : wr.heap.size ≤ w6.heap.size := by have := hb.size; first | omega | (simp at this; omega)
      clear hb
      clear c0 c1 c2 c3 c4 c5 c6 c7 c8 hv0
      obtain ⟨c0, c1, c2, c3, c4, c5, c6, c7, c8, -⟩ := nine_cells (HF1.out.blk 0 rfl)
      have hv0 := lt_of_block (HF1.out.blk 0 rfl)
      go_wp2_with fail
      refine (HT2.out _ _ _ _ _ (HF1.out.rd 1 rfl).1 (HF1.out.rd 1 rfl).2 (HP.out.below (((HF1.out.base 5 rfl)).below (Nat.le_refl _) fun _ _ h => h))).mono ?_
      rintro e w7 ⟨rfl, hb⟩
      have HF2 := Lib.hid (HF1.out.below hb)
      clear HF1
      have hz7 : w6.heap.size ≤ w7.heap.size := by have := hb.size; first | omega | (simp at this; omega)
      clear hb
      clear c0 c1 c2 c3 c4 c5 c6 c7 c8 hv0
      go_wp2_with fail
      go_ret
      exact ⟨rfl, (((HF2.out.base 5 rfl)).below (Nat.le_refl _) fun _ _ h => h)⟩
end Go.Proofs.YtgfodedmcjkmaaaDoor
