/-
  Walks: the law MailboxPicks: after so many Skips, Take removes just the message with that index, and all others stay in their order.
-/
import Derived.Test.YtgbaelkoblnlhaaOne
import Derived.Test.YtgbaelkoblnlhaaRefm
import Derived.Test.YtgbaelkoblnlhaaPick
namespace Go.Proofs.Ytgbaelkoblnlhaa
open Go.RowKit
theorem RdL.x {w : World} {B : Nat} : ∀ {l : TL} {xs : List Value}, RdL w 0 B l xs → RdXL w (fun b => b < B) l xs
  | .nil, _, h => h
  | .cons _ _ _, _, ⟨iv, rest, e, hi, hr⟩ => ⟨iv, rest, e, hi.x fun _ _ h => h, RdL.x hr⟩
theorem RdXL.l {w : World} {S : Nat → Prop} {B : Nat} (hS : ∀ b, S b → b < B) : ∀ {l : TL} {xs : List Value}, RdXL w S l xs → RdL w 0 B l xs
  | .nil, _, h => h
  | .cons _ _ _, _, ⟨iv, rest, e, hi, hr⟩ => ⟨iv, rest, e, hi.rds fun b hb => ⟨Nat.zero_le _, hS b hb⟩, RdXL.l hS hr⟩
theorem suf_cell2 {w : World} {g o n cap p : Nat} {xs : List Value} (hx : xs.length = n * 9) (hc : n ≤ cap) (h : ∀ j u, xs[j]? = some u → w.cell? ((⟨g, o, none⟩ : Addr).add j) = some u) : ∃ ad, (if cap = p + 1 then some (⟨g, o, none⟩ : Addr) else some ⟨g, o + (p + 1) * 9, none⟩) = some ad ∧ ∀ j u, (xs.drop ((p + 1) * 9))[j]? = some u → w.cell? (ad.add j) = some u := by
  by_cases e : cap = p + 1
  · refine ⟨_, if_pos e, fun j u hu => ?_⟩
    have h2 := get_drop hu
    rw [List.getElem?_eq_none (by rw [hx]; omega)] at h2
    cases h2
  · refine ⟨_, if_neg e, fun j u hu => ?_⟩
    have h2 := h _ u (get_drop hu)
    rw [add_off2] at h2 ⊢
    rw [show o + (p + 1) * 9 + j = o + ((p + 1) * 9 + j) by omega]
    exact h2
theorem del_cnt : ∀ (l : TL) (p : Nat), (l.del p).cnt ≤ l.cnt
  | .nil, p => by cases p <;> exact Nat.le_refl _
  | .cons f it r, 0 => by rw [TL.del_zero]; simp only [TL.cnt]; omega
  | .cons f it r, p + 1 => by rw [TL.del_succ]; have := del_cnt r p; simp only [TL.cnt]; omega
theorem step_first {o : Oper} {a : Act} {w w7 : World} {K : Act → World → Prop} {Q : Exit → Act → World → Prop} {b : Bool} (hw : b = true) (s x : Operand)
    (ho : o.op = .call { callee := .builtin .append, args := #[s, x], argTypes := #[22, 22] })
    (hs : a.eval s = .slice (some ⟨w7.heap.size, 0, none⟩) 0 0) (hwd : w = w7.drew.alloc (.cells #[] 24 (0, 0)) ∨ w = (w7.alloc (.cells #[] 24 (0, 0))).drew ∨ w = w7.alloc (.cells #[] 24 (0, 0)))
    (ad : Addr) (m c : Nat) (news : List Value) (hx : a.eval x = .slice (some ad) m c) (hl : news.length = m * 9) (hnews : ∀ j u, news[j]? = some u → w7.cell? (ad.add j) = some u) (h1 : ∀ u ∈ news, u.oneCell' = true) (hn : m ≤ 100000000000)
    (h : ∀ a8 c8 w8, Below w7.heap.size w7 w8 → w8.ownsRow w7.heap.size 24 9 (.slice a8 m c8) m news → K (a.put o.dst (.slice a8 m c8)) w8) :
    if b = true then o.wp Try.prog a w K Q else K (a.put o.dst undef) w := by
  have hb : Below w7.heap.size w7 w ∧ w.ownsRow w7.heap.size 24 9 (.slice (some ⟨w7.heap.size, 0, none⟩) 0 0) 0 [] := by
    rcases hwd with rfl | rfl | rfl
    · exact ⟨balloc (Below.refl _ _).drew _, own_empty w7.drew _ (Nat.le_refl _)⟩
    · exact ⟨(below_alloc _ _).drew, own_empty w7 _ (Nat.le_refl _)⟩
    · exact ⟨below_alloc _ _, own_empty w7 _ (Nat.le_refl _)⟩
  refine step_append_at hw s x ho w7.heap.size _ 0 [] hs hb.2 ad m c news hx hl (fun j u hu => cell_keep hb.1 (hnews j u hu)) h1 (by omega) hb.1.size fun v' w' hown hg _ => ?_
  rw [Nat.zero_add, List.nil_append] at hown
  obtain ⟨a8, c8, hv⟩ := own_slice hown
  subst hv
  exact h a8 c8 w' (hb.1.grown hg hb.1.size fun k e => Nat.le_of_eq (Option.some.inj e)) hown
theorem step_next {o : Oper} {a : Act} {w w7 : World} {K : Act → World → Prop} {Q : Exit → Act → World → Prop} {b : Bool} {v : Value} {n : Nat} {xs : List Value} (hw : b = true) (s x : Operand)
    (ho : o.op = .call { callee := .builtin .append, args := #[s, x], argTypes := #[22, 22] })
    (hs : a.eval s = v) (hb : Below w7.heap.size w7 w) (hown : w.ownsRow w7.heap.size 24 9 v n xs)
    (ad : Addr) (m c : Nat) (news : List Value) (hx : a.eval x = .slice (some ad) m c) (hl : news.length = m * 9) (hnews : ∀ j u, news[j]? = some u → w7.cell? (ad.add j) = some u) (h1 : ∀ u ∈ news, u.oneCell' = true) (hn : n + m ≤ 100000000000)
    (h : ∀ a8 c8 w8, Below w7.heap.size w7 w8 → w8.ownsRow w7.heap.size 24 9 (.slice a8 (n + m) c8) (n + m) (xs ++ news) → K (a.put o.dst (.slice a8 (n + m) c8)) w8) :
    if b = true then o.wp Try.prog a w K Q else K (a.put o.dst undef) w := by
  refine step_append_at hw s x ho w7.heap.size _ n xs hs hown ad m c news hx hl (fun j u hu => cell_keep hb (hnews j u hu)) h1 (by omega) hb.size fun v' w' hown' hg _ => ?_
  obtain ⟨a8, c8, hv⟩ := own_slice hown'
  subst hv
  exact h a8 c8 w' (hb.grown hg hb.size fun k e => (hown.lt k e).1) hown'
theorem tame_at {l : TL} {k : Nat} {f : Fd} {it r : TL} (hc : l.cnt ≤ 1000000) (hs : l.small 1000000) (hd : l.drop k = .cons f it r) : tame f it := by
  have h1 := l.cnt_drop k
  rw [hd] at h1
  simp only [TL.cnt] at h1
  have key : ∀ (l : TL) (k : Nat), l.small 1000000 → (l.drop k).small 1000000 := by
    intro l
    induction l with
    | nil => intro k _; cases k <;> trivial
    | cons f it r _ ih =>
      intro k h
      cases k with
      | zero => exact h
      | succ k => exact ih k h.2.2.2.2
  have h2 := key l k hs
  rw [hd] at h2
  exact ⟨by omega, h2.1, h2.2.1, h2.2.2.1, h2.2.2.2.1⟩
set_option maxRecDepth 100000 in
set_option maxHeartbeats 1000000 in
theorem picks_zero (l : TL) (ao : Option Addr) (c : Nat) (n : Int) (w : World) (h0 : l.len = 0) :
    Calls Try.prog 11 #[.slice ao l.len c, .int .i64 n] w (Yes w) := by
  have hz0 : ((l.len : Int) == 0) = true := by rw [h0]; rfl
  clear h0
  go_enter Try.func11, Try.ntmps11
  go_wp2_with fail
  refine (shown14 _).mono ?_
  rintro e w1 ⟨rfl, hb1⟩
  have HB1 := Lib.hid hb1
  clear hb1
  go_wp2_with fail
  go_ret
  exact ⟨rfl, HB1.out⟩
set_option maxRecDepth 100000 in
set_option maxHeartbeats 1000000 in
theorem picks_many (l : TL) (ao : Option Addr) (c : Nat) (n : Int) (w : World) (h0 : 100 < l.len) :
    Calls Try.prog 11 #[.slice ao l.len c, .int .i64 n] w (Yes w) := by
  have hz0 : ((l.len : Int) == 0) = false := by simp; omega
  have hz1 : decide ((100 : Int) < (l.len : Int)) = true := by simp; omega
  have hz2 : (100 : Int) < (l.len : Int) := by omega
  clear h0
  go_enter Try.func11, Try.ntmps11
  go_wp2_with fail
  refine (shown14 _).mono ?_
  rintro e w1 ⟨rfl, hb1⟩
  have HB1 := Lib.hid hb1
  clear hb1
  go_wp2_with fail
  go_ret
  exact ⟨rfl, HB1.out⟩
set_option maxRecDepth 100000 in
set_option maxHeartbeats 1000000 in
theorem picks_great (l : TL) (ao : Option Addr) (c : Nat) (n : Int) (w : World) (hs : RdS w 0 w.heap.size l (.slice ao l.len c)) (h0 : l.len ≠ 0) (h1 : l.len ≤ 100) (hg : leftF l 6000 < 0) :
    Calls Try.prog 11 #[.slice ao l.len c, .int .i64 n] w (Yes w) := by
  have hz0 : ((l.len : Int) == 0) = false := by simp; omega
  have hz1 : decide ((100 : Int) < (l.len : Int)) = false := by simp; omega
  have hz2 : ¬ (100 : Int) < (l.len : Int) := by omega
  have HS := Lib.hid hs
  have HG := Lib.hid hg
  clear hs h0 hg
  go_enter Try.func11, Try.ntmps11
  go_wp2_with fail
  refine (shown14 _).mono ?_
  rintro e w1 ⟨rfl, hb1⟩
  have HB1 := Lib.hid hb1
  clear hb1
  go_wp2_with fail
  refine (Great_yes l _ w1 0 w.heap.size _ (HS.out.below HB1.out (Nat.le_refl _)) HB1.out.size (by decide) (by decide) HG.out).mono ?_
  rintro e w2 ⟨rfl, hb2⟩
  have HB2 := Lib.hid (bstep HB1.out hb2)
  clear hb2
  go_wp2_with fail
  go_ret
  exact ⟨rfl, HB2.out⟩
set_option maxRecDepth 100000 in
set_option maxHeartbeats 8000000 in
theorem picks_main (l : TL) (ao : Option Addr) (c : Nat) (n : Int) (w : World) (hs : RdS w 0 w.heap.size l (.slice ao l.len c)) (h0 : l.len ≠ 0) (h1 : l.len ≤ 100) (hg : 0 ≤ leftF l 6000) :
    Calls Try.prog 11 #[.slice ao l.len c, .int .i64 n] w (Yes w) := by
  have hz0 : ((l.len : Int) == 0) = false := by simp; omega
  have hz1 : decide ((100 : Int) < (l.len : Int)) = false := by simp; omega
  have hz2 : ¬ (100 : Int) < (l.len : Int) := by omega
  have HS := Lib.hid hs
  have HG := Lib.hid hg
  have hlc := leftF_cnt _ _ hg
  have hlr := (leftF_range l 6000 (by decide)).1
  have HCn := Lib.hid (show l.cnt ≤ 6000 by omega)
  have HSm := Lib.hid (TL.small_mono (m' := 1000000) (by decide) _ hlc.2)
  obtain ⟨b, ob, rfl, hrd⟩ : ∃ b o, ao = some ⟨b, o, none⟩ ∧ Rd w 0 w.heap.size l b o := by
    obtain ⟨ao', c', e, _, _, h⟩ := hs
    injection e with e1 e2 e3
    subst e1
    exact h (fun e => h0 (by rw [e]; rfl))
  have hcap : l.len ≤ c ∧ c ≤ 9223372036854775807 := by
    obtain ⟨ao', c', e, q1, q2, _⟩ := hs
    injection e with e1 e2 e3
    subst e3
    unfold maxLen at q2
    exact ⟨q1, q2⟩
  have HRd := Lib.hid hrd
  obtain ⟨K, hK, hKl⟩ : ∃ K : Nat, n % (l.len : Int) = (K : Int) ∧ K < l.len := by
    have q1 := Int.emod_nonneg n (show (l.len : Int) ≠ 0 by omega)
    have q2 := Int.emod_lt_of_pos n (show 0 < (l.len : Int) by omega)
    exact ⟨(n % l.len).toNat, by omega, by omega⟩
  have HPk := Lib.hid fun W => (Pick_any n l.len W (by omega) (by omega)).mono fun e w' h => (show e = .returned (.int .i64 (K : Int)) ∧ W = w' from ⟨h.1.trans (by rw [hK]), h.2⟩)
  have hl1 : (l.len : Int) ≤ 100 := by omega
  clear hs hg hlc hlr hK hrd
  go_enter Try.func11, Try.ntmps11
  go_wp2_with fail
  refine (shown14 _).mono ?_
  rintro e w1 ⟨rfl, hb1⟩
  have HB1 := Lib.hid hb1
  clear hb1
  go_wp2_with fail
  refine (Great_no l _ w1 0 w.heap.size _ (HS.out.below HB1.out (Nat.le_refl _)) HB1.out.size (by decide) (by decide) HG.out).mono ?_
  rintro e w2 ⟨rfl, hb2⟩
  have HB2 := Lib.hid (bstep HB1.out hb2)
  clear hb2 HG
  go_wp2_with fail
  refine (New1 w w2 HB2.out).mono ?_
  rintro e w3 ⟨rfl, h3, -, -⟩
  have H3 := Lib.hid h3
  clear h3
  go_wp2_with fail
  go_loopw [6] (fun i wr => ∃ (k : Nat) (S : Nat → Prop), k ≤ l.len ∧ i = .int .i64 k ∧ Hid (OneS w wr S w2.heap.size (l.take k) 0)) (fun i _ => l.len - (intOf i).toNat)
  case atStart => exact ⟨0, _, Nat.zero_le _, rfl, Lib.hid (by rw [TL.take_zero]; exact H3.out)⟩
  case round =>
    clear H3
    obtain ⟨k, S, hk, rfl, H⟩ := hrel
    rename_i wr
    by_cases hlt : k < l.len
    · have hlt' : (k : Int) < (l.len : Int) := by omega
      have hlb : decide ((k : Int) < (l.len : Int)) = true := decide_eq_true hlt'
      obtain ⟨f, it, hd⟩ := l.drop_at k hlt
      obtain ⟨hbw, ai, ci, hnine, hit⟩ := Rd.nine HRd.out hd (below_cells H.out.2.2 (Nat.le_refl _))
      obtain ⟨c0, c1, c2, c3, c4, c5, c6, c7, c8⟩ := hnine
      have HT := Lib.hid (tame_at (by have := HCn.out; omega) HSm.out hd)
      have HIt := Lib.hid fun W (hb : Below wr.heap.size wr W) => (hit.below hb H.out.2.2.size).more (B' := W.heap.size) (Nat.le_trans H.out.2.2.size hb.size)
      have HD := Lib.hid hd
      clear hit hd
      by_cases hv : validF f it = true
      · have HV := Lib.hid hv
        have HVr := Lib.hid ((rValid_any f it _ wr 0 wr.heap.size HT.out (HIt.out wr (Below.refl _ _)) (Nat.le_refl _)).mono fun e w' h => (show e = .returned (.bool true) ∧ Below wr.heap.size wr w' from ⟨h.1.trans (by rw [hv]), h.2⟩))
        clear hv
        go_wp2_with fail
        refine HVr.out.mono ?_
        rintro e w4 ⟨rfl, hb4⟩
        have H4 := Lib.hid (H.out.below hb4)
        have HI4 := Lib.hid (HIt.out w4 hb4)
        replace c0 := below_keep hb4 c0
        replace c1 := below_keep hb4 c1
        replace c2 := below_keep hb4 c2
        replace c3 := below_keep hb4 c3
        replace c4 := below_keep hb4 c4
        replace c5 := below_keep hb4 c5
        replace c6 := below_keep hb4 c6
        replace c7 := below_keep hb4 c7
        replace c8 := below_keep hb4 c8
        clear hb4
        go_wp2_with fail
        refine (Put1 H4.out (by rw [take_len _ _ hk]; omega) f it ai ci HT.out HV.out HI4.out).mono ?_
        rintro e w5 ⟨rfl, ⟨S5, h5, -⟩, -⟩
        have H5 := Lib.hid h5
        clear h5
        go_wp2_with fail
        refine ⟨⟨k + 1, S5, by omega, by go_num, Lib.hid ?_⟩, by simp only [intOf]; omega⟩
        rw [take_snoc l k f it _ HD.out]
        exact H5.out
      · have hv := Bool.eq_false_iff.2 hv
        have HVr := Lib.hid ((rValid_any f it _ wr 0 wr.heap.size HT.out (HIt.out wr (Below.refl _ _)) (Nat.le_refl _)).mono fun e w' h => (show e = .returned (.bool false) ∧ Below wr.heap.size wr w' from ⟨h.1.trans (by rw [hv]), h.2⟩))
        clear hv
        go_wp2_with fail
        refine HVr.out.mono ?_
        rintro e w4 ⟨rfl, hb4⟩
        have H4 := Lib.hid (H.out.below hb4)
        clear hb4
        go_wp2_with fail
        go_ret
        exact ⟨rfl, H4.out.2.2⟩
    · have hlt' : ¬ (k : Int) < (l.len : Int) := by omega
      have hlb : decide ((k : Int) < (l.len : Int)) = false := decide_eq_false hlt'
      have HM := Lib.hid (show OneS w wr S w2.heap.size l 0 by have h := H.out; rwa [take_all l k (by omega)] at h)
      clear H hk
      go_wp2_with fail
      refine (HPk.out _).mono ?_
      rintro e wz ⟨rfl, rfl⟩
      clear hlb hlt hlt'
      go_wp2_with fail
      go_loopw [8] (fun i wq => ∃ j : Nat, j ≤ K ∧ i = .int .i64 j ∧ Hid (OneS w wq S w2.heap.size l j)) (fun i _ => K - (intOf i).toNat)
      case atStart => exact ⟨0, Nat.zero_le _, rfl, HM⟩
      case round =>
        clear HM
        obtain ⟨j, hj, rfl, H⟩ := hrel
        rename_i wq
        by_cases hlt : j < K
        · have hlt' : (j : Int) < (K : Int) := by omega
          have hlb : decide ((j : Int) < (K : Int)) = true := decide_eq_true hlt'
          go_wp2_with fail
          refine (Skip1 H.out (by omega) (by omega)).mono ?_
          rintro e w6 ⟨rfl, h6, -⟩
          have H6 := Lib.hid h6
          clear h6
          go_wp2_with fail
          exact ⟨⟨j + 1, by omega, by go_num, H6⟩, by simp only [intOf]; omega⟩
        · have hlt' : ¬ (j : Int) < (K : Int) := by omega
          have hlb : decide ((j : Int) < (K : Int)) = false := decide_eq_false hlt'
          obtain rfl : j = K := by omega
          obtain ⟨f, it, hd⟩ := l.drop_at j hKl
          have HD := Lib.hid hd
          have hcit : it.cnt ≤ 1000000000 := by have q := l.cnt_drop j; rw [hd] at q; simp only [TL.cnt] at q; have := HCn.out; omega
          clear hd
          go_wp2_with fail
          refine (Take1 H.out HD.out hKl (by omega) hcit).mono ?_
          rintro e w6 ⟨⟨ai, ci, rfl, hn⟩, h6, -⟩
          have H6 := Lib.hid (h6.below (below_alloc w6 (.cells #[.int .i64 f.k, .int .i64 f.i, .int .i64 f.g, .string f.nm, .string f.fn, .int .i64 f.ar, .slice ai it.len ci, .string f.bs, .int .i64 f.n] 24 (0, 0))))
          have HN6 := Lib.hid ((hn.rds.less (Nat.zero_le _)).below (below_alloc w6 (.cells #[.int .i64 f.k, .int .i64 f.i, .int .i64 f.g, .string f.nm, .string f.fn, .int .i64 f.ar, .slice ai it.len ci, .string f.bs, .int .i64 f.n] 24 (0, 0))) (Nat.le_refl _))
          have HH6 := Lib.hid (heap_alloc_new w6 (.cells #[.int .i64 f.k, .int .i64 f.i, .int .i64 f.g, .string f.nm, .string f.fn, .int .i64 f.ar, .slice ai it.len ci, .string f.bs, .int .i64 f.n] 24 (0, 0)))
          clear hn h6 hcit
          go_upto_region 22 with (fail)
          obtain ⟨w7, hw7⟩ : ∃ w7, w7 = w6.alloc (.cells #[.int .i64 f.k, .int .i64 f.i, .int .i64 f.g, .string f.nm, .string f.fn, .int .i64 f.ar, .slice ai it.len ci, .string f.bs, .int .i64 f.n] 24 (0, 0)) := ⟨_, rfl⟩
          have hz7 : w7.heap.size = w6.heap.size + 1 := by rw [hw7]; simp
          rw [← hw7] at H6 HN6 HH6 ⊢
          clear hw7
          obtain ⟨xs, hxl, -, hxc⟩ := (HS.out.below H6.out.2.2 (Nat.le_refl _)).list
          have hcs := hxc _ rfl
          have HXL := Lib.hid hxl.x
          have hxn := hxl.len
          have hone := Lib.hid hxl.one
          obtain ⟨ad, had, hac⟩ := suf_cell2 (cap := c) hxn hcap.1 hcs (p := j)
          have HCs := Lib.hid hcs
          have HAc := Lib.hid hac
          have HXn := Lib.hid hxn
          have hwz := H6.out.2.2.size
          have hjc : j ≤ c := by omega
          have hg1 : (0 : Int) ≤ (j : Int) + 1 := by omega
          have hg2 : (j : Int) + 1 ≤ (l.len : Int) := by omega
          have hwr : IntKind.i64.wrap ((j : Int) + 1) = (j : Int) + 1 := by rw [IntKind.wrap_i64]; omega
          have HP1 := Lib.hid (show (xs.take (j * 9)).length = j * 9 by rw [List.length_take, hxn]; omega)
          have HP2 := Lib.hid (show ∀ u ∈ xs.take (j * 9), u.oneCell' = true from fun u hu => hone.out u (List.mem_of_mem_take hu))
          have HP3 := Lib.hid (show (xs.drop ((j + 1) * 9)).length = (l.len - (j + 1)) * 9 by rw [List.length_drop, hxn]; omega)
          have HP4 := Lib.hid (show ∀ u ∈ xs.drop ((j + 1) * 9), u.oneCell' = true from fun u hu => hone.out u (List.mem_of_mem_drop hu))
          have HZ7 := Lib.hid hz7
          clear hxl hxc hcs hac hxn hz7
          go_region_held3 (fun _ => True)
            (exact trivial)
            (first
              | (refine step_first (w7 := w7) (by rfl) (.tmp 65) (.tmp 68) (by rfl) (by rfl) (by first | exact .inl rfl | exact .inr (.inl rfl) | exact .inr (.inr rfl)) ⟨b, ob, none⟩ j c (xs.take (j * 9)) (by rfl) HP1.out (fun i u hu => HCs.out i u (get_take hu)) HP2.out (by omega) ?_; intro a8 c8 w8 hb8 hown8; have HB8 := Lib.hid hb8; have HO8 := Lib.hid hown8)
              | (refine step_next (by rfl) (.tmp 69) (.tmp 73) (by rfl) (by rfl) HB8.out HO8.out ad (l.len - (j + 1)) (c - (j + 1)) (xs.drop ((j + 1) * 9)) (by rfl) HP3.out HAc.out HP4.out (by omega) ?_; intro a9 c9 w9 hb9 hown9; have HB9 := Lib.hid hb9; have HO9 := Lib.hid hown9))
          have hdl : j + (l.len - (j + 1)) = (l.del j).len := by rw [TL.len_del _ _ hKl]; omega
          have H9 := Lib.hid (H6.out.below HB9.out)
          have HN9 := Lib.hid ((HN6.out.below HB9.out (Nat.le_of_lt (by rw [HZ7.out]; exact Nat.lt_succ_self _))).more (B' := w9.heap.size) (by have := HB9.out.size; have := HZ7.out; omega))
          have HL9 := Lib.hid (show RdS w9 0 w9.heap.size (l.del j) (.slice a9 (j + (l.len - (j + 1))) c9) from RdS.of_owns HO9.out hdl (Nat.zero_le _) (Nat.le_refl _) (RdXL.l (S := fun b => b < w.heap.size) (fun b hb => Nat.lt_of_lt_of_le hb H9.out.2.2.size) (RdXL.keep2 (fun _ h => h) (fun b o hb => HB9.out.cell (p := ⟨b, o, none⟩) (Nat.lt_of_lt_of_le hb H6.out.2.2.size)) (HXL.out.del j))))
          obtain ⟨c0, c1, c2, c3, c4, c5, c6, c7, c8, -⟩ := nine_cells (keepB HB9.out HH6.out)
          obtain ⟨hbw, aj, cj, hnine, hit⟩ := Rd.nine HRd.out HD.out (below_cells H9.out.2.2 (Nat.le_refl _))
          obtain ⟨d0, d1, d2, d3, d4, d5, d6, d7, d8⟩ := hnine
          have HIt := Lib.hid (hit.more (B' := w9.heap.size) H9.out.2.2.size)
          have HA1 := Lib.hid fun W (hb : Below w9.heap.size w9 W) => kitSame_eq f it ai aj ci cj W ((HN9.out.below hb (Nat.le_refl _)).more hb.size) ((HIt.out.below hb (Nat.le_refl _)).more hb.size)
          have HA2 := Lib.hid fun W (hb : Below w9.heap.size w9 W) => (At_any (H9.out.below hb).1).mono fun e w' h => (show e = .returned (.int .i64 0) ∧ Below W.heap.size W w' from ⟨h.1, h.2 ▸ Below.refl _ _⟩)
          have HA3 := Lib.hid fun W (hb : Below w9.heap.size w9 W) => All_any (H9.out.below hb).1 (by have := del_cnt l j; have := HCn.out; omega)
          have HA4 := Lib.hid fun W (hb : Below w9.heap.size w9 W) a5 c5 (h : RdS W 0 W.heap.size (l.del j) (.slice a5 (l.del j).len c5)) => kitList_eq (l.del j) _ _ W h ((HL9.out.below hb (Nat.le_refl _)).more hb.size)
          clear hit hdl HD had
          have HBc := Lib.hid (Below.refl w9.heap.size w9)
          go_upto_region 23 with (fail)
          go_region_held3 (fun w' => w'.cell? ⟨w6.heap.size, 0, none⟩ = some (.int .i64 f.k) ∧ w'.cell? ⟨w6.heap.size, 1, none⟩ = some (.int .i64 f.i) ∧ w'.cell? ⟨w6.heap.size, 2, none⟩ = some (.int .i64 f.g) ∧ w'.cell? ⟨w6.heap.size, 3, none⟩ = some (.string f.nm) ∧ w'.cell? ⟨w6.heap.size, 4, none⟩ = some (.string f.fn) ∧ w'.cell? ⟨w6.heap.size, 5, none⟩ = some (.int .i64 f.ar) ∧ w'.cell? ⟨w6.heap.size, 6, none⟩ = some (.slice ai it.len ci) ∧ w'.cell? ⟨w6.heap.size, 7, none⟩ = some (.string f.bs) ∧ w'.cell? ⟨w6.heap.size, 8, none⟩ = some (.int .i64 f.n) ∧ w'.cell? ⟨b, ob + j * 9, none⟩ = some (.int .i64 f.k) ∧ w'.cell? ⟨b, ob + j * 9 + 1, none⟩ = some (.int .i64 f.i) ∧ w'.cell? ⟨b, ob + j * 9 + 2, none⟩ = some (.int .i64 f.g) ∧ w'.cell? ⟨b, ob + j * 9 + 3, none⟩ = some (.string f.nm) ∧ w'.cell? ⟨b, ob + j * 9 + 4, none⟩ = some (.string f.fn) ∧ w'.cell? ⟨b, ob + j * 9 + 5, none⟩ = some (.int .i64 f.ar) ∧ w'.cell? ⟨b, ob + j * 9 + 6, none⟩ = some (.slice aj it.len cj) ∧ w'.cell? ⟨b, ob + j * 9 + 7, none⟩ = some (.string f.bs) ∧ w'.cell? ⟨b, ob + j * 9 + 8, none⟩ = some (.int .i64 f.n))
            (first
              | (exact ⟨c0, c1, c2, c3, c4, c5, c6, c7, c8, d0, d1, d2, d3, d4, d5, d6, d7, d8⟩)
              | (go_split_ands; refine ⟨?_, ?_, ?_, ?_, ?_, ?_, ?_, ?_, ?_, ?_, ?_, ?_, ?_, ?_, ?_, ?_, ?_, ?_⟩ <;> exact below_keep hb5 (by assumption)))
            (first
              | (go_at_call 30; ((with_reducible refine (HA1.out _ (by first | exact HBc.out | exact HBc.out.drew)).mono ?_); rintro e w5 ⟨rfl, hb5⟩); have HBc := Lib.hid (show Below w9.heap.size w9 w5 by first | exact bstep HBc.out hb5 | exact bstep HBc.out.drew hb5))
              | (go_at_call 67; ((with_reducible refine (HA2.out _ (by first | exact HBc.out | exact HBc.out.drew)).mono ?_); rintro e w5 ⟨rfl, hb5⟩); have HBc := Lib.hid (show Below w9.heap.size w9 w5 by first | exact bstep HBc.out hb5 | exact bstep HBc.out.drew hb5))
              | (go_at_call 61; ((with_reducible refine (HA3.out _ (by first | exact HBc.out | exact HBc.out.drew)).mono ?_); rintro e w5 ⟨a5, c5, rfl, hn5, hb5⟩); have HBc := Lib.hid (show Below w9.heap.size w9 w5 by first | exact bstep HBc.out hb5 | exact bstep HBc.out.drew hb5); have HN5 := Lib.hid (show RdS w5 0 w5.heap.size (l.del j) (.slice a5 (l.del j).len c5) from hn5.rds.less (Nat.zero_le _)))
              | (go_at_call 55; ((with_reducible refine (HA4.out _ (by first | exact HBc.out | exact HBc.out.drew) _ _ HN5.out).mono ?_); rintro e w5 ⟨rfl, hb5⟩); have HBc := Lib.hid (show Below w9.heap.size w9 w5 by first | exact bstep HBc.out hb5 | exact bstep HBc.out.drew hb5)))
          go_wp2_with fail
          go_ret
          exact ⟨rfl, H9.out.2.2.trans (HBc.out.mono H9.out.2.2.size)⟩
end Go.Proofs.Ytgbaelkoblnlhaa
