/-
  Both mailboxes beside each other: what Look answers; the law's own same.
-/
import Derived.Test.YtgbaelkoblnlhaaMail
import Derived.Test.YtgbaelkoblnlhaaRefm
namespace Go.Proofs.Ytgbaelkoblnlhaa
open Go.RowKit
def LookRb (b : Bool) (T : Nat → Prop) (F : Fd) (L : TL) (w : World) (e : Ending) (w' : World) : Prop := ∃ ai ci, e = .returned (.tuple #[.agg #[.int .i64 F.k, .int .i64 F.i, .int .i64 F.g, .string F.nm, .string F.fn, .int .i64 F.ar, .slice ai L.len ci, .string F.bs, .int .i64 F.n], .bool b]) ∧ RdXS w' T L (.slice ai L.len ci) ∧ Below w.heap.size w w'
theorem look_both (l : TL) (p : Nat) (hp : p ≤ l.len) (hc : l.cnt ≤ 1000000000) : ∃ (F : Fd) (L : TL) (b : Bool), b = decide (p < l.len) ∧ L.cnt ≤ l.cnt ∧ (b = true → ∃ r, l.drop p = .cons F L r) ∧ (b = false → F = Fd.zero ∧ L = .nil) ∧
    (∀ w S B, MbS w S B l p → Calls Try.prog 62 #[.pointer (some ⟨B, 0, none⟩)] w (NewP (.bool b) F L w)) ∧
    (∀ w N T S R v xs, Rb w N T S R l p v xs → Calls Try.prog 86 #[.pointer (some ⟨R, 0, none⟩)] w (LookRb b T F L w)) := by
  have hlc := l.len_le_cnt
  by_cases h : p < l.len
  · obtain ⟨f, it, hd⟩ := l.drop_at p h
    have h1 := l.cnt_drop p
    rw [hd] at h1
    simp only [TL.cnt] at h1
    exact ⟨f, it, true, by simp [h], by omega, fun _ => ⟨_, hd⟩, fun e => (by cases e), fun w S B hM => Look_yes hM hd (by omega), fun w N T S R v xs hR => rLook_yes hR hd h (by omega)⟩
  · obtain rfl : p = l.len := by omega
    refine ⟨Fd.zero, .nil, false, by simp, Nat.zero_le _, fun e => (by cases e), fun _ => ⟨rfl, rfl⟩, fun w S B hM => (Look_no hM).mono fun e w' h => ⟨none, 0, h.1, NwS.nil _ _ _, h.2⟩, fun w N T S R v xs hR => (rLook_no hR).mono fun e w' h => ⟨none, 0, h.1, RdXS.nil _ _, h.2⟩⟩
/-- both mailboxes hold the same messages, at the same position -/
def Two (w0 w : World) (B R : Nat) (l : TL) (p : Nat) : Prop := ∃ S S2 v xs, MbS w S B l p ∧ Rb w w0.heap.size (fun b => b < w0.heap.size) S2 R l p v xs ∧ (∀ b, S b → w0.heap.size ≤ b ∧ ¬ S2 b) ∧ Below w0.heap.size w0 w
theorem Two.below {w0 w w' : World} {B R : Nat} {l : TL} {p : Nat} (h : Two w0 w B R l p) (hb : Below w.heap.size w w') : Two w0 w' B R l p := by
  obtain ⟨S, S2, v, xs, h1, h2, h3, h4⟩ := h
  exact ⟨S, S2, v, xs, h1.below hb, h2.below hb, h3, h4.trans (hb.mono h4.size)⟩
theorem Two.size {w0 w : World} {B R : Nat} {l : TL} {p : Nat} (h : Two w0 w B R l p) : w0.heap.size ≤ w.heap.size := by
  obtain ⟨_, _, _, _, _, _, _, h⟩ := h
  exact h.size
theorem Two.base {w0 w : World} {B R : Nat} {l : TL} {p : Nat} (h : Two w0 w B R l p) : Below w0.heap.size w0 w := by
  obtain ⟨_, _, _, _, _, _, _, h⟩ := h
  exact h
theorem Two.pos {w0 w : World} {B R : Nat} {l : TL} {p : Nat} (h : Two w0 w B R l p) : p ≤ l.len := by
  obtain ⟨_, _, _, _, h, _⟩ := h
  exact h.pos
/-- the reference's row, read -/
theorem Rb.rds {w : World} {N : Nat} {T S : Nat → Prop} {R : Nat} {l : TL} {p : Nat} {v : Value} {xs : List Value} (h : Rb w N T S R l p v xs) : RdS w 0 w.heap.size l v := by
  have h2 : RdL w 0 w.heap.size l xs := by
    have key : ∀ (m : TL) (ys : List Value), RdXL w T m ys → RdL w 0 w.heap.size m ys := by
      intro m
      induction m with
      | nil => intro ys h; exact h
      | cons f it r _ ihr =>
        rintro ys ⟨iv, rest, e, hi, hr⟩
        exact ⟨iv, rest, e, hi.rds fun b hb => ⟨Nat.zero_le _, by have := h.ltT b hb; have := h.leN; omega⟩, ihr rest hr⟩
    exact key l xs h.rd
  exact RdS.of_owns h.own rfl (Nat.zero_le _) (Nat.le_refl _) h2
set_option maxRecDepth 100000 in
set_option maxHeartbeats 8000000 in
theorem same_any (w0 w : World) (B R : Nat) (l : TL) (p : Nat) (h : Two w0 w B R l p) (hc : l.cnt ≤ 1000000000) : Calls Try.prog 63 #[.pointer (some ⟨B, 0, none⟩), .pointer (some ⟨R, 0, none⟩)] w fun e w' => e = .returned (.bool true) ∧ Below w.heap.size w w' := by
  obtain ⟨F, L, b, -, -, -, -, hL, hL2⟩ := look_both l p h.pos hc
  obtain ⟨S, S2, v, xs, hM, hR, -, -⟩ := h
  have HM := Lib.hid hM
  have HR := Lib.hid hR
  have HL := Lib.hid hL
  have HL2 := Lib.hid hL2
  have HC := Lib.hid hc
  clear hM hR hL hL2 hc
  go_enter Try.func63, Try.ntmps63
  go_wp2_with fail
  refine (HL.out _ _ _ HM.out).mono ?_
  rintro e w1 ⟨ai, ci, rfl, hn, hb1⟩
  have HB1 := Lib.hid (balloc hb1 (.cells #[.int .i64 F.k, .int .i64 F.i, .int .i64 F.g, .string F.nm, .string F.fn, .int .i64 F.ar, .slice ai L.len ci, .string F.bs, .int .i64 F.n] 24 (0, 0)))
  have HN1 := Lib.hid (((hn.rds.less (Nat.zero_le _)).below (below_alloc w1 (.cells #[.int .i64 F.k, .int .i64 F.i, .int .i64 F.g, .string F.nm, .string F.fn, .int .i64 F.ar, .slice ai L.len ci, .string F.bs, .int .i64 F.n] 24 (0, 0))) (Nat.le_refl _)))
  have HH1 := Lib.hid (heap_alloc_new w1 (.cells #[.int .i64 F.k, .int .i64 F.i, .int .i64 F.g, .string F.nm, .string F.fn, .int .i64 F.ar, .slice ai L.len ci, .string F.bs, .int .i64 F.n] 24 (0, 0)))
  have hz1 : w.heap.size ≤ w1.heap.size := hb1.size
  clear hn hb1
  go_wp2_with fail
  obtain ⟨w2, hw2⟩ : ∃ w2, w2 = (w1.alloc (.cells #[.int .i64 F.k, .int .i64 F.i, .int .i64 F.g, .string F.nm, .string F.fn, .int .i64 F.ar, .slice ai L.len ci, .string F.bs, .int .i64 F.n] 24 (0, 0))) := ⟨_, rfl⟩
  have hz2 : w2.heap.size = w1.heap.size + 1 := by rw [hw2]; simp
  rw [← hw2] at HB1 HN1 HH1 ⊢
  clear hw2
  refine (HL2.out _ _ _ _ _ _ _ (HR.out.below HB1.out)).mono ?_
  rintro e w3 ⟨aj, cj, rfl, hn, hb3⟩
  have HB3 := Lib.hid (balloc (bstep HB1.out hb3) (.cells #[.int .i64 F.k, .int .i64 F.i, .int .i64 F.g, .string F.nm, .string F.fn, .int .i64 F.ar, .slice aj L.len cj, .string F.bs, .int .i64 F.n] 24 (0, 0)))
  have HB3' := Lib.hid (balloc hb3 (.cells #[.int .i64 F.k, .int .i64 F.i, .int .i64 F.g, .string F.nm, .string F.fn, .int .i64 F.ar, .slice aj L.len cj, .string F.bs, .int .i64 F.n] 24 (0, 0)))
  have HH3 := Lib.hid (heap_alloc_new w3 (.cells #[.int .i64 F.k, .int .i64 F.i, .int .i64 F.g, .string F.nm, .string F.fn, .int .i64 F.ar, .slice aj L.len cj, .string F.bs, .int .i64 F.n] 24 (0, 0)))
  have HN3 := Lib.hid ((hn.rds (A := 0) (B := w.heap.size) fun b hb => ⟨Nat.zero_le _, Nat.lt_of_lt_of_le hb HR.out.leN⟩).below (below_alloc w3 (.cells #[.int .i64 F.k, .int .i64 F.i, .int .i64 F.g, .string F.nm, .string F.fn, .int .i64 F.ar, .slice aj L.len cj, .string F.bs, .int .i64 F.n] 24 (0, 0))) (by have := hb3.size; omega))
  have hz3 : w2.heap.size ≤ w3.heap.size := hb3.size
  clear hn hb3
  go_upto_region 3 with (fail)
  obtain ⟨w4, hw4⟩ : ∃ w4, w4 = (w3.alloc (.cells #[.int .i64 F.k, .int .i64 F.i, .int .i64 F.g, .string F.nm, .string F.fn, .int .i64 F.ar, .slice aj L.len cj, .string F.bs, .int .i64 F.n] 24 (0, 0))) := ⟨_, rfl⟩
  have hz4 : w4.heap.size = w3.heap.size + 1 := by rw [hw4]; simp
  rw [← hw4] at HB3 HB3' HN3 HH3 ⊢
  clear hw4
  have HH1 := Lib.hid (keepB HB3'.out HH1.out)
  have HN1 := Lib.hid (HN1.out.below HB3'.out (by omega))
  have HM4 := Lib.hid (HM.out.below HB3.out)
  have HR4 := Lib.hid (HR.out.below HB3.out)
  obtain ⟨c0, c1, c2, c3, c4, c5, c6, c7, c8, -⟩ := nine_cells HH1.out
  obtain ⟨d0, d1, d2, d3, d4, d5, d6, d7, d8, -⟩ := nine_cells HH3.out
  obtain ⟨va, vc, hv⟩ := own_slice HR4.out.own
  subst hv
  have r0 := cells_of HR4.out.box 0
  have r1 := cells_of HR4.out.box 1
  simp only [List.getElem?_toArray, List.getElem?_cons_succ, List.getElem?_cons_zero] at r0 r1
  have hlen : ((l.len : Int) == (l.len : Int)) = true := by simp
  have HA1 := Lib.hid fun W (hb : Below w4.heap.size w4 W) => (At_any (HM4.out.below hb)).mono fun e w' h => (show e = .returned (.int .i64 p) ∧ Below W.heap.size W w' from ⟨h.1, h.2 ▸ Below.refl _ _⟩)
  have HA2 := Lib.hid fun W (hb : Below w4.heap.size w4 W) => (Len_any (HM4.out.below hb)).mono fun e w' h => (show e = .returned (.int .i64 l.len) ∧ Below W.heap.size W w' from ⟨h.1, h.2 ▸ Below.refl _ _⟩)
  have HA3 := Lib.hid fun W (hb : Below w4.heap.size w4 W) => All_any (HM4.out.below hb) HC.out
  have HA4 := Lib.hid fun W (hb : Below w4.heap.size w4 W) ao c (h : RdS W 0 W.heap.size l (.slice ao l.len c)) => kitList_eq l _ _ W h ((HR4.out.below hb).rds)
  have HA5 := Lib.hid fun W (hb : Below w4.heap.size w4 W) => kitSame_eq F L ai aj ci cj W ((HN1.out.below hb (by omega)).more (by have := hb.size; omega)) ((HN3.out.below hb (by omega)).more (by have := hb.size; omega))
  have HBc := Lib.hid (Below.refl w4.heap.size w4)
  go_region_held3 (fun w' => w'.cell? ⟨w1.heap.size, 0, none⟩ = some (.int .i64 F.k) ∧ w'.cell? ⟨w1.heap.size, 1, none⟩ = some (.int .i64 F.i) ∧ w'.cell? ⟨w1.heap.size, 2, none⟩ = some (.int .i64 F.g) ∧ w'.cell? ⟨w1.heap.size, 3, none⟩ = some (.string F.nm) ∧ w'.cell? ⟨w1.heap.size, 4, none⟩ = some (.string F.fn) ∧ w'.cell? ⟨w1.heap.size, 5, none⟩ = some (.int .i64 F.ar) ∧ w'.cell? ⟨w1.heap.size, 6, none⟩ = some (.slice ai L.len ci) ∧ w'.cell? ⟨w1.heap.size, 7, none⟩ = some (.string F.bs) ∧ w'.cell? ⟨w1.heap.size, 8, none⟩ = some (.int .i64 F.n) ∧ w'.cell? ⟨w3.heap.size, 0, none⟩ = some (.int .i64 F.k) ∧ w'.cell? ⟨w3.heap.size, 1, none⟩ = some (.int .i64 F.i) ∧ w'.cell? ⟨w3.heap.size, 2, none⟩ = some (.int .i64 F.g) ∧ w'.cell? ⟨w3.heap.size, 3, none⟩ = some (.string F.nm) ∧ w'.cell? ⟨w3.heap.size, 4, none⟩ = some (.string F.fn) ∧ w'.cell? ⟨w3.heap.size, 5, none⟩ = some (.int .i64 F.ar) ∧ w'.cell? ⟨w3.heap.size, 6, none⟩ = some (.slice aj L.len cj) ∧ w'.cell? ⟨w3.heap.size, 7, none⟩ = some (.string F.bs) ∧ w'.cell? ⟨w3.heap.size, 8, none⟩ = some (.int .i64 F.n) ∧ w'.cell? ⟨R, 0, none⟩ = some (.slice va l.len vc) ∧ w'.cell? ⟨R, 1, none⟩ = some (.int .i64 p))
    (first
      | (exact ⟨c0, c1, c2, c3, c4, c5, c6, c7, c8, d0, d1, d2, d3, d4, d5, d6, d7, d8, r0, r1⟩)
      | (go_split_ands; refine ⟨?_, ?_, ?_, ?_, ?_, ?_, ?_, ?_, ?_, ?_, ?_, ?_, ?_, ?_, ?_, ?_, ?_, ?_, ?_, ?_⟩ <;> exact below_keep hb5 (by assumption)))
    (first
      | (go_at_call 67; ((with_reducible refine (HA1.out _ (by first | exact HBc.out | exact HBc.out.drew)).mono ?_); rintro e w5 ⟨rfl, hb5⟩); have HBc := Lib.hid (show Below w4.heap.size w4 w5 by first | exact bstep HBc.out hb5 | exact bstep HBc.out.drew hb5))
      | (go_at_call 71; ((with_reducible refine (HA2.out _ (by first | exact HBc.out | exact HBc.out.drew)).mono ?_); rintro e w5 ⟨rfl, hb5⟩); have HBc := Lib.hid (show Below w4.heap.size w4 w5 by first | exact bstep HBc.out hb5 | exact bstep HBc.out.drew hb5))
      | (go_at_call 61; ((with_reducible refine (HA3.out _ (by first | exact HBc.out | exact HBc.out.drew)).mono ?_); rintro e w5 ⟨ao, c5, rfl, hn5, hb5⟩); have HBc := Lib.hid (show Below w4.heap.size w4 w5 by first | exact bstep HBc.out hb5 | exact bstep HBc.out.drew hb5); have HN5 := Lib.hid (show RdS w5 0 w5.heap.size l (.slice ao l.len c5) from hn5.rds.less (Nat.zero_le _)))
      | (go_at_call 55; ((with_reducible refine (HA4.out _ (by first | exact HBc.out | exact HBc.out.drew) _ _ HN5.out).mono ?_); rintro e w5 ⟨rfl, hb5⟩); have HBc := Lib.hid (show Below w4.heap.size w4 w5 by first | exact bstep HBc.out hb5 | exact bstep HBc.out.drew hb5))
      | (go_at_call 30; ((with_reducible refine (HA5.out _ (by first | exact HBc.out | exact HBc.out.drew)).mono ?_); rintro e w5 ⟨rfl, hb5⟩); have HBc := Lib.hid (show Below w4.heap.size w4 w5 by first | exact bstep HBc.out hb5 | exact bstep HBc.out.drew hb5)))
  go_wp2_with fail
  go_ret
  exact ⟨rfl, HB3.out.trans (HBc.out.mono (by omega))⟩
end Go.Proofs.Ytgbaelkoblnlhaa
