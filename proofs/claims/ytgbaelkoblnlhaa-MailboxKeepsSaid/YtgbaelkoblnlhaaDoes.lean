/-
  One call with both mailboxes.
-/
import Derived.Test.YtgbaelkoblnlhaaTwo
import Derived.Test.YtgbaelkoblnlhaaPick
namespace Go.Proofs.Ytgbaelkoblnlhaa
open Go.RowKit
def TwoX (w0 w : World) (B R : Nat) (S S2 : Nat → Prop) (l : TL) (p : Nat) (l2 : TL) (p2 : Nat) (v : Value) (xs : List Value) : Prop := MbS w S B l p ∧ Rb w w0.heap.size (fun b => b < w0.heap.size) S2 R l2 p2 v xs ∧ (∀ b, S b → w0.heap.size ≤ b ∧ ¬ S2 b) ∧ Below w0.heap.size w0 w
theorem TwoX.two {w0 w : World} {B R : Nat} {S S2 : Nat → Prop} {l : TL} {p : Nat} {v : Value} {xs : List Value} (h : TwoX w0 w B R S S2 l p l p v xs) : Two w0 w B R l p := ⟨S, S2, v, xs, h⟩
theorem TwoX.below {w0 w w' : World} {B R : Nat} {S S2 : Nat → Prop} {l l2 : TL} {p p2 : Nat} {v : Value} {xs : List Value} (h : TwoX w0 w B R S S2 l p l2 p2 v xs) (hb : Below w.heap.size w w') : TwoX w0 w' B R S S2 l p l2 p2 v xs :=
  ⟨h.1.below hb, h.2.1.below hb, h.2.2.1, h.2.2.2.trans (hb.mono h.2.2.2.size)⟩
theorem TwoX.left {w0 w w' : World} {B R : Nat} {S S' S2 : Nat → Prop} {l l2 l' : TL} {p p2 p' : Nat} {v : Value} {xs : List Value} (h : TwoX w0 w B R S S2 l p l2 p2 v xs) (hm : MbS w' S' B l' p') (hS : ∀ b, S' b → S b ∨ (w.heap.size ≤ b ∧ b < w'.heap.size)) (ho : OutsS S w w') : TwoX w0 w' B R S' S2 l' p' l2 p2 v xs := by
  obtain ⟨_, h2, h3, h4⟩ := h
  have hz := h4.size
  refine ⟨hm, h2.keep ho.size fun b hb => ho.block b ?_ ?_, fun b hb => ?_, ho.below hz (fun k hk => (h3 k hk).1) h4⟩
  · rcases hb with hb | hb
    · exact (h2.lt b hb).2
    · have := h2.ltT b hb; omega
  · rcases hb with hb | hb
    · exact fun hs => (h3 b hs).2 hb
    · intro hs; have := (h3 b hs).1; have := h2.ltT b hb; omega
  · rcases hS b hb with hb | hb
    · exact h3 b hb
    · exact ⟨by omega, fun h5 => by have := (h2.lt b h5).2; omega⟩
theorem TwoX.right {w0 w w' : World} {B R : Nat} {S S2 S' : Nat → Prop} {l l2 l' : TL} {p p2 p' : Nat} {v v' : Value} {xs xs' : List Value} (h : TwoX w0 w B R S S2 l p l2 p2 v xs) (hm : Rb w' w0.heap.size (fun b => b < w0.heap.size) S' R l' p' v' xs') (hS : ∀ b, S' b → S2 b ∨ (w.heap.size ≤ b ∧ b < w'.heap.size)) (ho : OutsS S2 w w') : TwoX w0 w' B R S S' l p l' p' v' xs' := by
  obtain ⟨h1, h2, h3, h4⟩ := h
  have hz := h4.size
  refine ⟨h1.keep ho.size fun b hb => ho.block b (h1.lt b hb) (h3 b hb).2, hm, fun b hb => ⟨(h3 b hb).1, fun h5 => ?_⟩, ho.below hz (fun k hk => (h2.lt k hk).1) h4⟩
  rcases hS b h5 with h6 | h6
  · exact (h3 b hb).2 h6
  · have := h1.lt b hb; omega
/-- a box outside both -/
theorem TwoX.far {w0 w : World} {B R : Nat} {S S2 : Nat → Prop} {l l2 : TL} {p p2 : Nat} {v : Value} {xs : List Value} (h : TwoX w0 w B R S S2 l p l2 p2 v xs) {k : Nat} (hk : w.heap.size ≤ k) : ¬ S k ∧ ¬ S2 k := ⟨fun hs => by have := h.1.lt k hs; omega, fun hs => by have := (h.2.1.lt k hs).2; omega⟩
set_option maxRecDepth 100000 in
set_option maxHeartbeats 4000000 in
theorem does_look {w0 w : World} {B R : Nat} {S S2 : Nat → Prop} {l : TL} {p : Nat} {v : Value} {xs : List Value} (h : TwoX w0 w B R S S2 l p l p v xs) (hc : l.cnt ≤ 1000000000) (K : Int) (hK : K % 6 = 1) (f : Fd) (it : TL) (ai : Option Addr) (ci : Nat) : Calls Try.prog 69 #[.pointer (some ⟨B, 0, none⟩), .pointer (some ⟨R, 0, none⟩), .agg #[.int .i64 K, .int .i64 f.k, .int .i64 f.i, .int .i64 f.g, .string f.nm, .string f.fn, .int .i64 f.ar, .slice ai it.len ci, .string f.bs, .int .i64 f.n]] w fun e w' => e = .returned (.bool true) ∧ Two w0 w' B R (l) (p) := by
  have HP := Lib.hid fun W => (Pick_any K 6 W (by decide) (by decide)).mono fun e w' h => (show e = .returned (.int .i64 1) ∧ W = w' from ⟨h.1.trans (by rw [hK]), h.2⟩)
  have hlc := l.len_le_cnt
  have HX := Lib.hid (h.below (below_alloc w (.cells #[.int .i64 K, .int .i64 f.k, .int .i64 f.i, .int .i64 f.g, .string f.nm, .string f.fn, .int .i64 f.ar, .slice ai it.len ci, .string f.bs, .int .i64 f.n] 72 (0, 0))))
  have HB := Lib.hid (below_alloc w (.cells #[.int .i64 K, .int .i64 f.k, .int .i64 f.i, .int .i64 f.g, .string f.nm, .string f.fn, .int .i64 f.ar, .slice ai it.len ci, .string f.bs, .int .i64 f.n] 72 (0, 0)))
  have HHo := Lib.hid (heap_alloc_new w (.cells #[.int .i64 K, .int .i64 f.k, .int .i64 f.i, .int .i64 f.g, .string f.nm, .string f.fn, .int .i64 f.ar, .slice ai it.len ci, .string f.bs, .int .i64 f.n] 72 (0, 0)))
  obtain ⟨F, L, b, -, -, -, -, hL, hL2⟩ := look_both l p h.1.pos hc
  have HL := Lib.hid hL
  have HL2 := Lib.hid hL2
  clear hK h
  go_enter Try.func69, Try.ntmps69
  go_wp2_with fail
  obtain ⟨w1, hw1⟩ : ∃ w1, w1 = w.alloc (.cells #[.int .i64 K, .int .i64 f.k, .int .i64 f.i, .int .i64 f.g, .string f.nm, .string f.fn, .int .i64 f.ar, .slice ai it.len ci, .string f.bs, .int .i64 f.n] 72 (0, 0)) := ⟨_, rfl⟩
  have hz1 : w1.heap.size = w.heap.size + 1 := by rw [hw1]; simp
  rw [← hw1] at HX HB HHo ⊢
  clear hw1
  refine (HP.out _).mono ?_
  rintro e w2 ⟨rfl, rfl⟩
  go_wp2_with fail
  refine (HL.out _ _ _ HX.out.1).mono ?_
  rintro e w3 ⟨aj, cj, rfl, hn, hb3⟩
  have HX3 := Lib.hid (HX.out.below (balloc hb3 (.cells #[.int .i64 F.k, .int .i64 F.i, .int .i64 F.g, .string F.nm, .string F.fn, .int .i64 F.ar, .slice aj L.len cj, .string F.bs, .int .i64 F.n] 24 (0, 0))))
  have HN3 := Lib.hid (((hn.rds.less (Nat.zero_le _)).below (below_alloc w3 (.cells #[.int .i64 F.k, .int .i64 F.i, .int .i64 F.g, .string F.nm, .string F.fn, .int .i64 F.ar, .slice aj L.len cj, .string F.bs, .int .i64 F.n] 24 (0, 0))) (Nat.le_refl _)))
  have HH3 := Lib.hid (heap_alloc_new w3 (.cells #[.int .i64 F.k, .int .i64 F.i, .int .i64 F.g, .string F.nm, .string F.fn, .int .i64 F.ar, .slice aj L.len cj, .string F.bs, .int .i64 F.n] 24 (0, 0)))
  have hz3 := hb3.size
  clear hn hb3
  go_wp2_with fail
  obtain ⟨w4, hw4⟩ : ∃ w4, w4 = w3.alloc (.cells #[.int .i64 F.k, .int .i64 F.i, .int .i64 F.g, .string F.nm, .string F.fn, .int .i64 F.ar, .slice aj L.len cj, .string F.bs, .int .i64 F.n] 24 (0, 0)) := ⟨_, rfl⟩
  have hz4 : w4.heap.size = w3.heap.size + 1 := by rw [hw4]; simp
  rw [← hw4] at HX3 HN3 HH3 ⊢
  clear hw4
  refine (HL2.out _ _ _ _ _ _ _ HX3.out.2.1).mono ?_
  rintro e w5 ⟨ak, ck, rfl, hn, hb5⟩
  have HX5 := Lib.hid (HX3.out.below hb5)
  have hz5 := hb5.size
  have HN5 := Lib.hid (show RdS w5 0 w5.heap.size L (.slice ak L.len ck) from hn.rds fun b hb => ⟨Nat.zero_le _, by have := HX3.out.2.2.2.size; omega⟩)
  have HH5 := Lib.hid (keepB hb5 HH3.out)
  have HN3 := Lib.hid (show RdS w5 0 w5.heap.size L (.slice aj L.len cj) from ((HN3.out.below hb5 (by omega)).more (by omega)))
  clear hn hb5
  go_upto_region 5 with (fail)
  have HN3 := Lib.hid ((HN3.out.below (below_alloc w5 (.cells #[.int .i64 F.k, .int .i64 F.i, .int .i64 F.g, .string F.nm, .string F.fn, .int .i64 F.ar, .slice ak L.len ck, .string F.bs, .int .i64 F.n] 24 (0, 0))) (Nat.le_refl _)).more (B' := (w5.alloc (.cells #[.int .i64 F.k, .int .i64 F.i, .int .i64 F.g, .string F.nm, .string F.fn, .int .i64 F.ar, .slice ak L.len ck, .string F.bs, .int .i64 F.n] 24 (0, 0))).heap.size) (by simp))
  have HN5 := Lib.hid ((HN5.out.below (below_alloc w5 (.cells #[.int .i64 F.k, .int .i64 F.i, .int .i64 F.g, .string F.nm, .string F.fn, .int .i64 F.ar, .slice ak L.len ck, .string F.bs, .int .i64 F.n] 24 (0, 0))) (Nat.le_refl _)).more (B' := (w5.alloc (.cells #[.int .i64 F.k, .int .i64 F.i, .int .i64 F.g, .string F.nm, .string F.fn, .int .i64 F.ar, .slice ak L.len ck, .string F.bs, .int .i64 F.n] 24 (0, 0))).heap.size) (by simp))
  have HX5 := Lib.hid (HX5.out.below (below_alloc w5 (.cells #[.int .i64 F.k, .int .i64 F.i, .int .i64 F.g, .string F.nm, .string F.fn, .int .i64 F.ar, .slice ak L.len ck, .string F.bs, .int .i64 F.n] 24 (0, 0))))
  have HH5 := Lib.hid (heap_after HH5.out (.cells #[.int .i64 F.k, .int .i64 F.i, .int .i64 F.g, .string F.nm, .string F.fn, .int .i64 F.ar, .slice ak L.len ck, .string F.bs, .int .i64 F.n] 24 (0, 0)))
  have HH6 := Lib.hid (heap_alloc_new w5 (.cells #[.int .i64 F.k, .int .i64 F.i, .int .i64 F.g, .string F.nm, .string F.fn, .int .i64 F.ar, .slice ak L.len ck, .string F.bs, .int .i64 F.n] 24 (0, 0)))
  obtain ⟨w7, hw7⟩ : ∃ w7, w7 = w5.alloc (.cells #[.int .i64 F.k, .int .i64 F.i, .int .i64 F.g, .string F.nm, .string F.fn, .int .i64 F.ar, .slice ak L.len ck, .string F.bs, .int .i64 F.n] 24 (0, 0)) := ⟨_, rfl⟩
  rw [← hw7] at HX5 HN3 HN5 HH5 HH6 ⊢
  clear hw7
  obtain ⟨c0, c1, c2, c3, c4, c5, c6, c7, c8, -⟩ := nine_cells HH5.out
  obtain ⟨d0, d1, d2, d3, d4, d5, d6, d7, d8, -⟩ := nine_cells HH6.out
  have hbb : (b == b) = true := by simp
  go_wp2_with fail
  refine (kitSame_eq F L aj ak cj ck _ HN3.out HN5.out).mono ?_
  rintro e w6 ⟨rfl, hb6⟩
  have HX6 := Lib.hid (HX5.out.below hb6)
  clear hb6
  go_wp2_with fail
  go_ret
  exact ⟨rfl, HX6.out.two⟩
set_option maxRecDepth 100000 in
set_option maxHeartbeats 4000000 in
theorem does_rewind {w0 w : World} {B R : Nat} {S S2 : Nat → Prop} {l : TL} {p : Nat} {v : Value} {xs : List Value} (h : TwoX w0 w B R S S2 l p l p v xs) (K : Int) (hK : K % 6 = 4) (f : Fd) (it : TL) (ai : Option Addr) (ci : Nat) : Calls Try.prog 69 #[.pointer (some ⟨B, 0, none⟩), .pointer (some ⟨R, 0, none⟩), .agg #[.int .i64 K, .int .i64 f.k, .int .i64 f.i, .int .i64 f.g, .string f.nm, .string f.fn, .int .i64 f.ar, .slice ai it.len ci, .string f.bs, .int .i64 f.n]] w fun e w' => e = .returned (.bool true) ∧ Two w0 w' B R (l) (0) := by
  have HP := Lib.hid fun W => (Pick_any K 6 W (by decide) (by decide)).mono fun e w' h => (show e = .returned (.int .i64 4) ∧ W = w' from ⟨h.1.trans (by rw [hK]), h.2⟩)
  have HX := Lib.hid (h.below (below_alloc w (.cells #[.int .i64 K, .int .i64 f.k, .int .i64 f.i, .int .i64 f.g, .string f.nm, .string f.fn, .int .i64 f.ar, .slice ai it.len ci, .string f.bs, .int .i64 f.n] 72 (0, 0))))
  have HB := Lib.hid (below_alloc w (.cells #[.int .i64 K, .int .i64 f.k, .int .i64 f.i, .int .i64 f.g, .string f.nm, .string f.fn, .int .i64 f.ar, .slice ai it.len ci, .string f.bs, .int .i64 f.n] 72 (0, 0)))
  have HHo := Lib.hid (heap_alloc_new w (.cells #[.int .i64 K, .int .i64 f.k, .int .i64 f.i, .int .i64 f.g, .string f.nm, .string f.fn, .int .i64 f.ar, .slice ai it.len ci, .string f.bs, .int .i64 f.n] 72 (0, 0)))
  clear hK h
  go_enter Try.func69, Try.ntmps69
  go_wp2_with fail
  obtain ⟨w1, hw1⟩ : ∃ w1, w1 = w.alloc (.cells #[.int .i64 K, .int .i64 f.k, .int .i64 f.i, .int .i64 f.g, .string f.nm, .string f.fn, .int .i64 f.ar, .slice ai it.len ci, .string f.bs, .int .i64 f.n] 72 (0, 0)) := ⟨_, rfl⟩
  have hz1 : w1.heap.size = w.heap.size + 1 := by rw [hw1]; simp
  rw [← hw1] at HX HB HHo ⊢
  clear hw1
  refine (HP.out _).mono ?_
  rintro e w2 ⟨rfl, rfl⟩
  go_wp2_with fail
  refine (Rewind_any HX.out.1).mono ?_
  rintro e w3 ⟨rfl, hm3, ho3⟩
  have HX3 := Lib.hid (HX.out.left hm3 (fun b hb => .inl hb) ho3)
  clear hm3 ho3
  obtain ⟨va, vc, hv⟩ := own_slice HX3.out.2.1.own
  subst hv
  have d1 := cells_of HX3.out.2.1.box 1
  simp only [List.getElem?_toArray, List.getElem?_cons_succ, List.getElem?_cons_zero] at d1
  have fr : ∀ k, w3.frozen? ⟨R, k, none⟩ = false := fun k => frees_of HX3.out.2.1.box k
  go_wp2_with fail
  go_ret
  exact ⟨rfl, (HX3.out.right HX3.out.2.1.rewound (fun b hb => .inl hb) ((OutsS.refl _ _).put HX3.out.2.1.inR 1 (.int .i64 0))).two⟩
set_option maxRecDepth 100000 in
set_option maxHeartbeats 4000000 in
theorem does_skipno {w0 w : World} {B R : Nat} {S S2 : Nat → Prop} {l : TL} {p : Nat} {v : Value} {xs : List Value} (h : TwoX w0 w B R S S2 l p l p v xs) (K : Int) (hK : K % 6 = 2) (f : Fd) (it : TL) (ai : Option Addr) (ci : Nat) (hp : p = l.len) : Calls Try.prog 69 #[.pointer (some ⟨B, 0, none⟩), .pointer (some ⟨R, 0, none⟩), .agg #[.int .i64 K, .int .i64 f.k, .int .i64 f.i, .int .i64 f.g, .string f.nm, .string f.fn, .int .i64 f.ar, .slice ai it.len ci, .string f.bs, .int .i64 f.n]] w fun e w' => e = .returned (.bool true) ∧ Two w0 w' B R (l) (p) := by
  have HP := Lib.hid fun W => (Pick_any K 6 W (by decide) (by decide)).mono fun e w' h => (show e = .returned (.int .i64 2) ∧ W = w' from ⟨h.1.trans (by rw [hK]), h.2⟩)
  have HX := Lib.hid (h.below (below_alloc w (.cells #[.int .i64 K, .int .i64 f.k, .int .i64 f.i, .int .i64 f.g, .string f.nm, .string f.fn, .int .i64 f.ar, .slice ai it.len ci, .string f.bs, .int .i64 f.n] 72 (0, 0))))
  have HB := Lib.hid (below_alloc w (.cells #[.int .i64 K, .int .i64 f.k, .int .i64 f.i, .int .i64 f.g, .string f.nm, .string f.fn, .int .i64 f.ar, .slice ai it.len ci, .string f.bs, .int .i64 f.n] 72 (0, 0)))
  have HHo := Lib.hid (heap_alloc_new w (.cells #[.int .i64 K, .int .i64 f.k, .int .i64 f.i, .int .i64 f.g, .string f.nm, .string f.fn, .int .i64 f.ar, .slice ai it.len ci, .string f.bs, .int .i64 f.n] 72 (0, 0)))
  subst hp
  clear hK h
  go_enter Try.func69, Try.ntmps69
  go_wp2_with fail
  obtain ⟨w1, hw1⟩ : ∃ w1, w1 = w.alloc (.cells #[.int .i64 K, .int .i64 f.k, .int .i64 f.i, .int .i64 f.g, .string f.nm, .string f.fn, .int .i64 f.ar, .slice ai it.len ci, .string f.bs, .int .i64 f.n] 72 (0, 0)) := ⟨_, rfl⟩
  have hz1 : w1.heap.size = w.heap.size + 1 := by rw [hw1]; simp
  rw [← hw1] at HX HB HHo ⊢
  clear hw1
  refine (HP.out _).mono ?_
  rintro e w2 ⟨rfl, rfl⟩
  go_wp2_with fail
  refine (Skip_no HX.out.1).mono ?_
  rintro e w3 ⟨rfl, rfl⟩
  go_wp2_with fail
  refine (rSkip_no HX.out.2.1).mono ?_
  rintro e w4 ⟨rfl, hb4⟩
  have HX4 := Lib.hid (HX.out.below hb4)
  clear hb4
  go_wp2_with fail
  go_ret
  exact ⟨rfl, HX4.out.two⟩
set_option maxRecDepth 100000 in
set_option maxHeartbeats 4000000 in
theorem does_skip {w0 w : World} {B R : Nat} {S S2 : Nat → Prop} {l : TL} {p : Nat} {v : Value} {xs : List Value} (h : TwoX w0 w B R S S2 l p l p v xs) (hc : l.cnt ≤ 1000000000) (K : Int) (hK : K % 6 = 2) (f : Fd) (it : TL) (ai : Option Addr) (ci : Nat) (hp : p < l.len) : Calls Try.prog 69 #[.pointer (some ⟨B, 0, none⟩), .pointer (some ⟨R, 0, none⟩), .agg #[.int .i64 K, .int .i64 f.k, .int .i64 f.i, .int .i64 f.g, .string f.nm, .string f.fn, .int .i64 f.ar, .slice ai it.len ci, .string f.bs, .int .i64 f.n]] w fun e w' => e = .returned (.bool true) ∧ Two w0 w' B R (l) (p + 1) := by
  have HP := Lib.hid fun W => (Pick_any K 6 W (by decide) (by decide)).mono fun e w' h => (show e = .returned (.int .i64 2) ∧ W = w' from ⟨h.1.trans (by rw [hK]), h.2⟩)
  have hlc := l.len_le_cnt
  have HX := Lib.hid (h.below (below_alloc w (.cells #[.int .i64 K, .int .i64 f.k, .int .i64 f.i, .int .i64 f.g, .string f.nm, .string f.fn, .int .i64 f.ar, .slice ai it.len ci, .string f.bs, .int .i64 f.n] 72 (0, 0))))
  have HB := Lib.hid (below_alloc w (.cells #[.int .i64 K, .int .i64 f.k, .int .i64 f.i, .int .i64 f.g, .string f.nm, .string f.fn, .int .i64 f.ar, .slice ai it.len ci, .string f.bs, .int .i64 f.n] 72 (0, 0)))
  have HHo := Lib.hid (heap_alloc_new w (.cells #[.int .i64 K, .int .i64 f.k, .int .i64 f.i, .int .i64 f.g, .string f.nm, .string f.fn, .int .i64 f.ar, .slice ai it.len ci, .string f.bs, .int .i64 f.n] 72 (0, 0)))
  have HPl := Lib.hid hp
  clear hp
  clear hK h
  go_enter Try.func69, Try.ntmps69
  go_wp2_with fail
  obtain ⟨w1, hw1⟩ : ∃ w1, w1 = w.alloc (.cells #[.int .i64 K, .int .i64 f.k, .int .i64 f.i, .int .i64 f.g, .string f.nm, .string f.fn, .int .i64 f.ar, .slice ai it.len ci, .string f.bs, .int .i64 f.n] 72 (0, 0)) := ⟨_, rfl⟩
  have hz1 : w1.heap.size = w.heap.size + 1 := by rw [hw1]; simp
  rw [← hw1] at HX HB HHo ⊢
  clear hw1
  refine (HP.out _).mono ?_
  rintro e w2 ⟨rfl, rfl⟩
  go_wp2_with fail
  refine (Skip_yes HX.out.1 HPl.out (by omega)).mono ?_
  rintro e w3 ⟨rfl, hm3, ho3⟩
  have HX3 := Lib.hid (HX.out.left hm3 (fun b hb => .inl hb) ho3)
  clear hm3 ho3
  go_wp2_with fail
  refine (rSkip_yes HX3.out.2.1 HPl.out (by omega)).mono ?_
  rintro e w4 ⟨rfl, hm4, ho4⟩
  have HX4 := Lib.hid (HX3.out.right hm4 (fun b hb => .inl hb) ho4)
  clear hm4 ho4
  go_wp2_with fail
  go_ret
  exact ⟨rfl, HX4.out.two⟩
set_option maxRecDepth 100000 in
set_option maxHeartbeats 4000000 in
theorem does_takeno {w0 w : World} {B R : Nat} {S S2 : Nat → Prop} {l : TL} {p : Nat} {v : Value} {xs : List Value} (h : TwoX w0 w B R S S2 l p l p v xs) (K : Int) (hK : K % 6 = 3) (f : Fd) (it : TL) (ai : Option Addr) (ci : Nat) (hp : p = l.len) : Calls Try.prog 69 #[.pointer (some ⟨B, 0, none⟩), .pointer (some ⟨R, 0, none⟩), .agg #[.int .i64 K, .int .i64 f.k, .int .i64 f.i, .int .i64 f.g, .string f.nm, .string f.fn, .int .i64 f.ar, .slice ai it.len ci, .string f.bs, .int .i64 f.n]] w fun e w' => e = .returned (.bool true) ∧ Two w0 w' B R (l) (p) := by
  have HP := Lib.hid fun W => (Pick_any K 6 W (by decide) (by decide)).mono fun e w' h => (show e = .returned (.int .i64 3) ∧ W = w' from ⟨h.1.trans (by rw [hK]), h.2⟩)
  have HX := Lib.hid (h.below (below_alloc w (.cells #[.int .i64 K, .int .i64 f.k, .int .i64 f.i, .int .i64 f.g, .string f.nm, .string f.fn, .int .i64 f.ar, .slice ai it.len ci, .string f.bs, .int .i64 f.n] 72 (0, 0))))
  have HB := Lib.hid (below_alloc w (.cells #[.int .i64 K, .int .i64 f.k, .int .i64 f.i, .int .i64 f.g, .string f.nm, .string f.fn, .int .i64 f.ar, .slice ai it.len ci, .string f.bs, .int .i64 f.n] 72 (0, 0)))
  have HHo := Lib.hid (heap_alloc_new w (.cells #[.int .i64 K, .int .i64 f.k, .int .i64 f.i, .int .i64 f.g, .string f.nm, .string f.fn, .int .i64 f.ar, .slice ai it.len ci, .string f.bs, .int .i64 f.n] 72 (0, 0)))
  subst hp
  clear hK h
  go_enter Try.func69, Try.ntmps69
  go_wp2_with fail
  obtain ⟨w1, hw1⟩ : ∃ w1, w1 = w.alloc (.cells #[.int .i64 K, .int .i64 f.k, .int .i64 f.i, .int .i64 f.g, .string f.nm, .string f.fn, .int .i64 f.ar, .slice ai it.len ci, .string f.bs, .int .i64 f.n] 72 (0, 0)) := ⟨_, rfl⟩
  have hz1 : w1.heap.size = w.heap.size + 1 := by rw [hw1]; simp
  rw [← hw1] at HX HB HHo ⊢
  clear hw1
  refine (HP.out _).mono ?_
  rintro e w2 ⟨rfl, rfl⟩
  go_wp2_with fail
  refine (Take_no HX.out.1).mono ?_
  rintro e w3 ⟨rfl, hb3⟩
  have HX3 := Lib.hid (HX.out.below hb3)
  clear hb3
  go_wp2_with fail
  refine (rTake_no (HX3.out.2.1.below (below_alloc w3 (.cells #[.int .i64 0, .int .i64 0, .int .i64 0, .string ⟨#[]⟩, .string ⟨#[]⟩, .int .i64 0, .slice none 0 0, .string ⟨#[]⟩, .int .i64 0] 24 (0, 0))))).mono ?_
  rintro e w4 ⟨rfl, hb4⟩
  have HH4 := Lib.hid (keepB hb4 (heap_alloc_new w3 (.cells #[.int .i64 0, .int .i64 0, .int .i64 0, .string ⟨#[]⟩, .string ⟨#[]⟩, .int .i64 0, .slice none 0 0, .string ⟨#[]⟩, .int .i64 0] 24 (0, 0))))
  have HX4 := Lib.hid ((HX3.out.below (below_alloc w3 (.cells #[.int .i64 0, .int .i64 0, .int .i64 0, .string ⟨#[]⟩, .string ⟨#[]⟩, .int .i64 0, .slice none 0 0, .string ⟨#[]⟩, .int .i64 0] 24 (0, 0)))).below hb4)
  clear hb4
  go_upto_region 11 with (fail)
  have HH4 := Lib.hid (heap_after HH4.out (.cells #[.int .i64 0, .int .i64 0, .int .i64 0, .string ⟨#[]⟩, .string ⟨#[]⟩, .int .i64 0, .slice none 0 0, .string ⟨#[]⟩, .int .i64 0] 24 (0, 0)))
  have HH5 := Lib.hid (heap_alloc_new w4 (.cells #[.int .i64 0, .int .i64 0, .int .i64 0, .string ⟨#[]⟩, .string ⟨#[]⟩, .int .i64 0, .slice none 0 0, .string ⟨#[]⟩, .int .i64 0] 24 (0, 0)))
  have HX4 := Lib.hid (HX4.out.below (below_alloc w4 (.cells #[.int .i64 0, .int .i64 0, .int .i64 0, .string ⟨#[]⟩, .string ⟨#[]⟩, .int .i64 0, .slice none 0 0, .string ⟨#[]⟩, .int .i64 0] 24 (0, 0))))
  obtain ⟨w5, hw5⟩ : ∃ w5, w5 = w4.alloc (.cells #[.int .i64 0, .int .i64 0, .int .i64 0, .string ⟨#[]⟩, .string ⟨#[]⟩, .int .i64 0, .slice none 0 0, .string ⟨#[]⟩, .int .i64 0] 24 (0, 0)) := ⟨_, rfl⟩
  rw [← hw5] at HX4 HH4 HH5 ⊢
  clear hw5
  obtain ⟨c0, c1, c2, c3, c4, c5, c6, c7, c8, -⟩ := nine_cells HH4.out
  obtain ⟨d0, d1, d2, d3, d4, d5, d6, d7, d8, -⟩ := nine_cells HH5.out
  go_wp2_with fail
  refine (kitSame_eq Fd.zero .nil none none 0 0 _ (RdS.nil _ _ _) (RdS.nil _ _ _)).mono ?_
  rintro e w6 ⟨rfl, hb6⟩
  have HX6 := Lib.hid (HX4.out.below hb6)
  clear hb6
  go_wp2_with fail
  go_ret
  exact ⟨rfl, HX6.out.two⟩
set_option maxRecDepth 100000 in
set_option maxHeartbeats 4000000 in
theorem does_take {w0 w : World} {B R : Nat} {S S2 : Nat → Prop} {l : TL} {p : Nat} {v : Value} {xs : List Value} (h : TwoX w0 w B R S S2 l p l p v xs) (hc : l.cnt ≤ 1000000000) (K : Int) (hK : K % 6 = 3) (f : Fd) (it : TL) (ai : Option Addr) (ci : Nat) (hp : p < l.len) : Calls Try.prog 69 #[.pointer (some ⟨B, 0, none⟩), .pointer (some ⟨R, 0, none⟩), .agg #[.int .i64 K, .int .i64 f.k, .int .i64 f.i, .int .i64 f.g, .string f.nm, .string f.fn, .int .i64 f.ar, .slice ai it.len ci, .string f.bs, .int .i64 f.n]] w fun e w' => e = .returned (.bool true) ∧ Two w0 w' B R (l.del p) (0) := by
  have HP := Lib.hid fun W => (Pick_any K 6 W (by decide) (by decide)).mono fun e w' h => (show e = .returned (.int .i64 3) ∧ W = w' from ⟨h.1.trans (by rw [hK]), h.2⟩)
  have hlc := l.len_le_cnt
  have HX := Lib.hid (h.below (below_alloc w (.cells #[.int .i64 K, .int .i64 f.k, .int .i64 f.i, .int .i64 f.g, .string f.nm, .string f.fn, .int .i64 f.ar, .slice ai it.len ci, .string f.bs, .int .i64 f.n] 72 (0, 0))))
  have HB := Lib.hid (below_alloc w (.cells #[.int .i64 K, .int .i64 f.k, .int .i64 f.i, .int .i64 f.g, .string f.nm, .string f.fn, .int .i64 f.ar, .slice ai it.len ci, .string f.bs, .int .i64 f.n] 72 (0, 0)))
  have HHo := Lib.hid (heap_alloc_new w (.cells #[.int .i64 K, .int .i64 f.k, .int .i64 f.i, .int .i64 f.g, .string f.nm, .string f.fn, .int .i64 f.ar, .slice ai it.len ci, .string f.bs, .int .i64 f.n] 72 (0, 0)))
  obtain ⟨F, L, hd⟩ := l.drop_at p hp
  have h1 := l.cnt_drop p
  rw [hd] at h1
  simp only [TL.cnt] at h1
  have HL := Lib.hid fun W (hM : MbS W S B l p) => Take_yes hM hd hp (by omega) (by omega)
  have HL2 := Lib.hid fun W (hR : Rb W w0.heap.size (fun b => b < w0.heap.size) S2 R l p v xs) => rTake_yes hR hd hp (by omega)
  clear h1 hd
  clear hK h
  go_enter Try.func69, Try.ntmps69
  go_wp2_with fail
  obtain ⟨w1, hw1⟩ : ∃ w1, w1 = w.alloc (.cells #[.int .i64 K, .int .i64 f.k, .int .i64 f.i, .int .i64 f.g, .string f.nm, .string f.fn, .int .i64 f.ar, .slice ai it.len ci, .string f.bs, .int .i64 f.n] 72 (0, 0)) := ⟨_, rfl⟩
  have hz1 : w1.heap.size = w.heap.size + 1 := by rw [hw1]; simp
  rw [← hw1] at HX HB HHo ⊢
  clear hw1
  refine (HP.out _).mono ?_
  rintro e w2 ⟨rfl, rfl⟩
  go_wp2_with fail
  refine (HL.out _ HX.out.1).mono ?_
  rintro e w3 ⟨aj, cj, rfl, hn, hm3, ho3⟩
  have HX3 := Lib.hid (((HX.out.left hm3 (fun b hb => .inl hb) ho3)).below (below_alloc w3 (.cells #[.int .i64 F.k, .int .i64 F.i, .int .i64 F.g, .string F.nm, .string F.fn, .int .i64 F.ar, .slice aj L.len cj, .string F.bs, .int .i64 F.n] 24 (0, 0))))
  have HN3 := Lib.hid (((hn.rds).below (below_alloc w3 (.cells #[.int .i64 F.k, .int .i64 F.i, .int .i64 F.g, .string F.nm, .string F.fn, .int .i64 F.ar, .slice aj L.len cj, .string F.bs, .int .i64 F.n] 24 (0, 0))) (Nat.le_refl _)))
  have HH3 := Lib.hid (heap_alloc_new w3 (.cells #[.int .i64 F.k, .int .i64 F.i, .int .i64 F.g, .string F.nm, .string F.fn, .int .i64 F.ar, .slice aj L.len cj, .string F.bs, .int .i64 F.n] 24 (0, 0)))
  have hz3 := ho3.size
  have HFar := Lib.hid fun k hk => (HX.out.far (k := k) hk).2
  clear hn hm3 ho3
  go_wp2_with fail
  obtain ⟨w4, hw4⟩ : ∃ w4, w4 = w3.alloc (.cells #[.int .i64 F.k, .int .i64 F.i, .int .i64 F.g, .string F.nm, .string F.fn, .int .i64 F.ar, .slice aj L.len cj, .string F.bs, .int .i64 F.n] 24 (0, 0)) := ⟨_, rfl⟩
  have hz4 : w4.heap.size = w3.heap.size + 1 := by rw [hw4]; simp
  rw [← hw4] at HX3 HN3 HH3 ⊢
  clear hw4
  refine (HL2.out _ HX3.out.2.1).mono ?_
  rintro e w5 ⟨ak, ck, rfl, hn, ⟨v5, xs5, hm5⟩, ho5⟩
  have hz5 := ho5.size
  have HN5 := Lib.hid (show RdS w5 0 w5.heap.size L (.slice ak L.len ck) from hn.rds fun b hb => ⟨Nat.zero_le _, by have := HX3.out.2.2.2.size; omega⟩)
  have HX5 := Lib.hid (HX3.out.right hm5 (fun b hb => hb) ho5)
  have HH5 := Lib.hid ((ho5.block _ (by omega) (HFar.out _ (by omega))).trans HH3.out)
  have HN3 := Lib.hid (show RdS w5 0 w5.heap.size L (.slice aj L.len cj) from ((HN3.out.keepX fun b o h1 h2 => cell_eq (ho5.block b (by omega) (HFar.out b h1)) o).less (Nat.zero_le _)).more (by omega))
  clear hn hm5 ho5 HX3
  go_upto_region 11 with (fail)
  have HN3 := Lib.hid ((HN3.out.below (below_alloc w5 (.cells #[.int .i64 F.k, .int .i64 F.i, .int .i64 F.g, .string F.nm, .string F.fn, .int .i64 F.ar, .slice ak L.len ck, .string F.bs, .int .i64 F.n] 24 (0, 0))) (Nat.le_refl _)).more (B' := (w5.alloc (.cells #[.int .i64 F.k, .int .i64 F.i, .int .i64 F.g, .string F.nm, .string F.fn, .int .i64 F.ar, .slice ak L.len ck, .string F.bs, .int .i64 F.n] 24 (0, 0))).heap.size) (by simp))
  have HN5 := Lib.hid ((HN5.out.below (below_alloc w5 (.cells #[.int .i64 F.k, .int .i64 F.i, .int .i64 F.g, .string F.nm, .string F.fn, .int .i64 F.ar, .slice ak L.len ck, .string F.bs, .int .i64 F.n] 24 (0, 0))) (Nat.le_refl _)).more (B' := (w5.alloc (.cells #[.int .i64 F.k, .int .i64 F.i, .int .i64 F.g, .string F.nm, .string F.fn, .int .i64 F.ar, .slice ak L.len ck, .string F.bs, .int .i64 F.n] 24 (0, 0))).heap.size) (by simp))
  have HX5 := Lib.hid (HX5.out.below (below_alloc w5 (.cells #[.int .i64 F.k, .int .i64 F.i, .int .i64 F.g, .string F.nm, .string F.fn, .int .i64 F.ar, .slice ak L.len ck, .string F.bs, .int .i64 F.n] 24 (0, 0))))
  have HH5 := Lib.hid (heap_after HH5.out (.cells #[.int .i64 F.k, .int .i64 F.i, .int .i64 F.g, .string F.nm, .string F.fn, .int .i64 F.ar, .slice ak L.len ck, .string F.bs, .int .i64 F.n] 24 (0, 0)))
  have HH6 := Lib.hid (heap_alloc_new w5 (.cells #[.int .i64 F.k, .int .i64 F.i, .int .i64 F.g, .string F.nm, .string F.fn, .int .i64 F.ar, .slice ak L.len ck, .string F.bs, .int .i64 F.n] 24 (0, 0)))
  obtain ⟨w7, hw7⟩ : ∃ w7, w7 = w5.alloc (.cells #[.int .i64 F.k, .int .i64 F.i, .int .i64 F.g, .string F.nm, .string F.fn, .int .i64 F.ar, .slice ak L.len ck, .string F.bs, .int .i64 F.n] 24 (0, 0)) := ⟨_, rfl⟩
  rw [← hw7] at HX5 HN3 HN5 HH5 HH6 ⊢
  clear hw7
  obtain ⟨c0, c1, c2, c3, c4, c5, c6, c7, c8, -⟩ := nine_cells HH5.out
  obtain ⟨d0, d1, d2, d3, d4, d5, d6, d7, d8, -⟩ := nine_cells HH6.out
  go_wp2_with fail
  refine (kitSame_eq F L aj ak cj ck _ HN3.out HN5.out).mono ?_
  rintro e w6 ⟨rfl, hb6⟩
  have HX6 := Lib.hid (HX5.out.below hb6)
  clear hb6
  go_wp2_with fail
  go_ret
  exact ⟨rfl, HX6.out.two⟩
set_option maxRecDepth 100000 in
set_option maxHeartbeats 4000000 in
theorem does_put {w0 w : World} {B R : Nat} {S S2 : Nat → Prop} {l : TL} {p : Nat} {v : Value} {xs : List Value} (h : TwoX w0 w B R S S2 l p l p v xs) (hc : l.cnt ≤ 1000000000) (K : Int) (k6 : Int) (hk6 : k6 = 0 ∨ k6 = 5) (hK : K % 6 = k6) (f : Fd) (it : TL) (ai : Option Addr) (ci : Nat) (ht : tame f it) (hv : validF f it = true) (hs : RdXS w0 (fun b => b < w0.heap.size) it (.slice ai it.len ci)) : Calls Try.prog 69 #[.pointer (some ⟨B, 0, none⟩), .pointer (some ⟨R, 0, none⟩), .agg #[.int .i64 K, .int .i64 f.k, .int .i64 f.i, .int .i64 f.g, .string f.nm, .string f.fn, .int .i64 f.ar, .slice ai it.len ci, .string f.bs, .int .i64 f.n]] w fun e w' => e = .returned (.bool true) ∧ Two w0 w' B R (l.app (.cons f it .nil)) (p) := by
  have HP := Lib.hid fun W => (Pick_any K 6 W (by decide) (by decide)).mono fun e w' h => (show e = .returned (.int .i64 k6) ∧ W = w' from ⟨h.1.trans (by rw [hK]), h.2⟩)
  have hlc := l.len_le_cnt
  have HX := Lib.hid (h.below (below_alloc w (.cells #[.int .i64 K, .int .i64 f.k, .int .i64 f.i, .int .i64 f.g, .string f.nm, .string f.fn, .int .i64 f.ar, .slice ai it.len ci, .string f.bs, .int .i64 f.n] 72 (0, 0))))
  have HB := Lib.hid (below_alloc w (.cells #[.int .i64 K, .int .i64 f.k, .int .i64 f.i, .int .i64 f.g, .string f.nm, .string f.fn, .int .i64 f.ar, .slice ai it.len ci, .string f.bs, .int .i64 f.n] 72 (0, 0)))
  have HHo := Lib.hid (heap_alloc_new w (.cells #[.int .i64 K, .int .i64 f.k, .int .i64 f.i, .int .i64 f.g, .string f.nm, .string f.fn, .int .i64 f.ar, .slice ai it.len ci, .string f.bs, .int .i64 f.n] 72 (0, 0)))
  have hzw := h.2.2.2.size
  have HFr := Lib.hid (h.far (Nat.le_refl _))
  have HI := Lib.hid fun W (hb : Below w0.heap.size w0 W) => hs.below hb fun b hb => hb
  have HV := Lib.hid (And.intro ht hv)
  clear hs ht hv
  clear hK h
  go_enter Try.func69, Try.ntmps69
  go_wp2_with fail
  obtain ⟨w1, hw1⟩ : ∃ w1, w1 = w.alloc (.cells #[.int .i64 K, .int .i64 f.k, .int .i64 f.i, .int .i64 f.g, .string f.nm, .string f.fn, .int .i64 f.ar, .slice ai it.len ci, .string f.bs, .int .i64 f.n] 72 (0, 0)) := ⟨_, rfl⟩
  have hz1 : w1.heap.size = w.heap.size + 1 := by rw [hw1]; simp
  rw [← hw1] at HX HB HHo ⊢
  clear hw1
  refine (HP.out _).mono ?_
  rintro e w2 ⟨rfl, rfl⟩
  have c1 := cells_of HHo.out 1
  have c2 := cells_of HHo.out 2
  have c3 := cells_of HHo.out 3
  have c4 := cells_of HHo.out 4
  have c5 := cells_of HHo.out 5
  have c6 := cells_of HHo.out 6
  have c7 := cells_of HHo.out 7
  have c8 := cells_of HHo.out 8
  have c9 := cells_of HHo.out 9
  simp only [List.getElem?_toArray, List.getElem?_cons_succ, List.getElem?_cons_zero] at c1 c2 c3 c4 c5 c6 c7 c8 c9
  have hbr1 := Below.refl w1.heap.size w1
  have hbr2 := hbr1.drew
  have HPt := Lib.hid fun W (hb : Below w1.heap.size w1 W) => (Put_ok (HX.out.below hb).1 (by omega) f it ai ci HV.out.1 HV.out.2 ((HI.out W (HX.out.below hb).2.2.2).rds fun b hb2 => ⟨Nat.zero_le _, by have := hb.size; omega⟩)).mono fun e w3 h => (show e = .returned (.int .i64 0) ∧ (∃ S3, TwoX w0 w3 B R S3 S2 (l.app (.cons f it .nil)) p l p v xs) ∧ OutsS S w1 w3 from ⟨h.1, ⟨_, TwoX.left (HX.out.below hb) h.2.1 (fun b hb => hb) h.2.2⟩, (OutsS.of_below hb).trans h.2.2⟩)
  have HPr := Lib.hid fun W S3 (hX : TwoX w0 W B R S3 S2 (l.app (.cons f it .nil)) p l p v xs) => (rPut_ok hX.2.1 (by omega) f it ai ci HV.out.1 HV.out.2 (HI.out W hX.2.2.2)).mono fun e w4 h => (show e = .returned (.int .i64 0) ∧ Two w0 w4 B R (l.app (.cons f it .nil)) p ∧ OutsS S2 W w4 from ⟨h.1, by obtain ⟨v4, xs4, h4⟩ := h.2.1; exact (hX.right h4 (fun b hb => hb) h.2.2).two, h.2.2⟩)
  have ht1 : (k6 == 1) = false := by rcases hk6 with rfl | rfl <;> rfl
  have ht2 : (k6 == 2) = false := by rcases hk6 with rfl | rfl <;> rfl
  have ht3 : (k6 == 3) = false := by rcases hk6 with rfl | rfl <;> rfl
  have ht4 : (k6 == 4) = false := by rcases hk6 with rfl | rfl <;> rfl
  clear hk6
  go_upto_region 16 with (fail)
  go_region_held3 (fun w' => w'.cell? ⟨w.heap.size, 1, none⟩ = some (.int .i64 f.k) ∧ w'.cell? ⟨w.heap.size, 2, none⟩ = some (.int .i64 f.i) ∧ w'.cell? ⟨w.heap.size, 3, none⟩ = some (.int .i64 f.g) ∧ w'.cell? ⟨w.heap.size, 4, none⟩ = some (.string f.nm) ∧ w'.cell? ⟨w.heap.size, 5, none⟩ = some (.string f.fn) ∧ w'.cell? ⟨w.heap.size, 6, none⟩ = some (.int .i64 f.ar) ∧ w'.cell? ⟨w.heap.size, 7, none⟩ = some (.slice ai it.len ci) ∧ w'.cell? ⟨w.heap.size, 8, none⟩ = some (.string f.bs) ∧ w'.cell? ⟨w.heap.size, 9, none⟩ = some (.int .i64 f.n))
    (first
      | (exact ⟨c1, c2, c3, c4, c5, c6, c7, c8, c9⟩)
      | (go_split_ands; refine ⟨?_, ?_, ?_, ?_, ?_, ?_, ?_, ?_, ?_⟩ <;> first | exact outs_cell HO3.out hqL HFr.out.1 (by assumption) | exact outs_cell ho4 (by omega) HFr.out.2 (by assumption)))
    (first
      | (go_at_call 59; ((with_reducible refine (HPt.out _ (by first | exact hbr1 | exact hbr2)).mono ?_); rintro e w3 ⟨rfl, ⟨S3, hX3⟩, ho3⟩); have HX3 := Lib.hid hX3; have HO3 := Lib.hid ho3; have hqL : w.heap.size < w1.heap.size := (by omega); have hz3 : w1.heap.size ≤ w3.heap.size := HO3.out.size)
      | (go_at_call 60; ((with_reducible refine (HPr.out _ _ HX3.out).mono ?_); rintro e w4 ⟨rfl, hX4, ho4⟩); have HX4 := Lib.hid hX4))
  go_wp2_with fail
  go_ret
  exact ⟨rfl, HX4.out⟩
set_option maxRecDepth 100000 in
set_option maxHeartbeats 4000000 in
theorem does_bad {w0 w : World} {B R : Nat} {S S2 : Nat → Prop} {l : TL} {p : Nat} {v : Value} {xs : List Value} (h : TwoX w0 w B R S S2 l p l p v xs) (K : Int) (k6 : Int) (hk6 : k6 = 0 ∨ k6 = 5) (hK : K % 6 = k6) (f : Fd) (it : TL) (ai : Option Addr) (ci : Nat) (ht : tame f it) (hv : validF f it = false) (hs : RdXS w0 (fun b => b < w0.heap.size) it (.slice ai it.len ci)) : Calls Try.prog 69 #[.pointer (some ⟨B, 0, none⟩), .pointer (some ⟨R, 0, none⟩), .agg #[.int .i64 K, .int .i64 f.k, .int .i64 f.i, .int .i64 f.g, .string f.nm, .string f.fn, .int .i64 f.ar, .slice ai it.len ci, .string f.bs, .int .i64 f.n]] w fun e w' => e = .returned (.bool true) ∧ Two w0 w' B R (l) (p) := by
  have HP := Lib.hid fun W => (Pick_any K 6 W (by decide) (by decide)).mono fun e w' h => (show e = .returned (.int .i64 k6) ∧ W = w' from ⟨h.1.trans (by rw [hK]), h.2⟩)
  have HX := Lib.hid (h.below (below_alloc w (.cells #[.int .i64 K, .int .i64 f.k, .int .i64 f.i, .int .i64 f.g, .string f.nm, .string f.fn, .int .i64 f.ar, .slice ai it.len ci, .string f.bs, .int .i64 f.n] 72 (0, 0))))
  have HB := Lib.hid (below_alloc w (.cells #[.int .i64 K, .int .i64 f.k, .int .i64 f.i, .int .i64 f.g, .string f.nm, .string f.fn, .int .i64 f.ar, .slice ai it.len ci, .string f.bs, .int .i64 f.n] 72 (0, 0)))
  have HHo := Lib.hid (heap_alloc_new w (.cells #[.int .i64 K, .int .i64 f.k, .int .i64 f.i, .int .i64 f.g, .string f.nm, .string f.fn, .int .i64 f.ar, .slice ai it.len ci, .string f.bs, .int .i64 f.n] 72 (0, 0)))
  have hzw := h.2.2.2.size
  have HFr := Lib.hid (h.far (Nat.le_refl _))
  have HI := Lib.hid fun W (hb : Below w0.heap.size w0 W) => hs.below hb fun b hb => hb
  have HV := Lib.hid (And.intro ht hv)
  clear hs ht hv
  clear hK h
  go_enter Try.func69, Try.ntmps69
  go_wp2_with fail
  obtain ⟨w1, hw1⟩ : ∃ w1, w1 = w.alloc (.cells #[.int .i64 K, .int .i64 f.k, .int .i64 f.i, .int .i64 f.g, .string f.nm, .string f.fn, .int .i64 f.ar, .slice ai it.len ci, .string f.bs, .int .i64 f.n] 72 (0, 0)) := ⟨_, rfl⟩
  have hz1 : w1.heap.size = w.heap.size + 1 := by rw [hw1]; simp
  rw [← hw1] at HX HB HHo ⊢
  clear hw1
  refine (HP.out _).mono ?_
  rintro e w2 ⟨rfl, rfl⟩
  have c1 := cells_of HHo.out 1
  have c2 := cells_of HHo.out 2
  have c3 := cells_of HHo.out 3
  have c4 := cells_of HHo.out 4
  have c5 := cells_of HHo.out 5
  have c6 := cells_of HHo.out 6
  have c7 := cells_of HHo.out 7
  have c8 := cells_of HHo.out 8
  have c9 := cells_of HHo.out 9
  simp only [List.getElem?_toArray, List.getElem?_cons_succ, List.getElem?_cons_zero] at c1 c2 c3 c4 c5 c6 c7 c8 c9
  have hbr1 := Below.refl w1.heap.size w1
  have hbr2 := hbr1.drew
  have HPt := Lib.hid fun W (hb : Below w1.heap.size w1 W) => (Put_bad (HX.out.below hb).1 f it ai ci HV.out.1 HV.out.2 ((HI.out W (HX.out.below hb).2.2.2).rds fun b hb2 => ⟨Nat.zero_le _, by have := hb.size; omega⟩)).mono fun e w3 h => (show e = .returned (.int .i64 2) ∧ TwoX w0 w3 B R S S2 l p l p v xs ∧ Below W.heap.size W w3 from ⟨h.1, (HX.out.below hb).below h.2, h.2⟩)
  have HPr := Lib.hid fun W (hX : TwoX w0 W B R S S2 l p l p v xs) => (rPut_bad hX.2.1 f it ai ci HV.out.1 HV.out.2 (HI.out W hX.2.2.2)).mono fun e w4 h => (show e = .returned (.int .i64 2) ∧ Two w0 w4 B R l p ∧ Below W.heap.size W w4 from ⟨h.1, (hX.below h.2).two, h.2⟩)
  have ht1 : (k6 == 1) = false := by rcases hk6 with rfl | rfl <;> rfl
  have ht2 : (k6 == 2) = false := by rcases hk6 with rfl | rfl <;> rfl
  have ht3 : (k6 == 3) = false := by rcases hk6 with rfl | rfl <;> rfl
  have ht4 : (k6 == 4) = false := by rcases hk6 with rfl | rfl <;> rfl
  clear hk6
  go_upto_region 16 with (fail)
  go_region_held3 (fun w' => w'.cell? ⟨w.heap.size, 1, none⟩ = some (.int .i64 f.k) ∧ w'.cell? ⟨w.heap.size, 2, none⟩ = some (.int .i64 f.i) ∧ w'.cell? ⟨w.heap.size, 3, none⟩ = some (.int .i64 f.g) ∧ w'.cell? ⟨w.heap.size, 4, none⟩ = some (.string f.nm) ∧ w'.cell? ⟨w.heap.size, 5, none⟩ = some (.string f.fn) ∧ w'.cell? ⟨w.heap.size, 6, none⟩ = some (.int .i64 f.ar) ∧ w'.cell? ⟨w.heap.size, 7, none⟩ = some (.slice ai it.len ci) ∧ w'.cell? ⟨w.heap.size, 8, none⟩ = some (.string f.bs) ∧ w'.cell? ⟨w.heap.size, 9, none⟩ = some (.int .i64 f.n))
    (first
      | (exact ⟨c1, c2, c3, c4, c5, c6, c7, c8, c9⟩)
      | (go_split_ands; refine ⟨?_, ?_, ?_, ?_, ?_, ?_, ?_, ?_, ?_⟩ <;> first | exact below_keep hb3 (by assumption) | exact below_keep hb4 (by assumption)))
    (first
      | (go_at_call 59; ((with_reducible refine (HPt.out _ (by first | exact hbr1 | exact hbr2)).mono ?_); rintro e w3 ⟨rfl, hX3, hb3⟩); have HX3 := Lib.hid hX3)
      | (go_at_call 60; ((with_reducible refine (HPr.out _ HX3.out).mono ?_); rintro e w4 ⟨rfl, hX4, hb4⟩); have HX4 := Lib.hid hX4))
  go_wp2_with fail
  go_ret
  exact ⟨rfl, HX4.out⟩
end Go.Proofs.Ytgbaelkoblnlhaa
