/-
  Walks: the law MailboxOnce: every message that was put is taken once or is still there, in the order in which they were put.
-/
import Derived.Test.YtgbaelkoblnlhaaOnceLaw
import Derived.Test.YtgbaelkoblnlhaaOps
import Derived.Test.YtgbaelkoblnlhaaPick
namespace Go.Proofs.Ytgbaelkoblnlhaa
open Go.RowKit
theorem int_info : (Try.prog.info? 2).map (fun i => (i.zero, i.size, i.bytes)) = some (some (.int .i64 0), 1, 8) := by kernel_rfl
def intsV (l : List Nat) : List Value := l.map fun (n : Nat) => Value.int .i64 (n : Int)
theorem intsV_snoc (l : List Nat) (n : Nat) : intsV l ++ [.int .i64 (n : Int)] = intsV (l ++ [n]) := by simp [intsV]
theorem intsV_at {l : List Nat} {k n : Nat} (h : l[k]? = some n) : (intsV l)[k]? = some (.int .i64 (n : Int)) := by simp [intsV, h]
theorem row_int {w : World} {l : TL} {aq : Option Addr} {cq k n : Nat} {r : TL} (h : RdS w 0 w.heap.size l (.slice aq l.len cq)) (hd : l.drop k = .cons (intF (n : Int)) .nil r) (hk : k < l.len) : ∃ b o, aq = some ⟨b, o, none⟩ ∧ w.cell? ⟨b, o + k * 9 + 1, none⟩ = some (.int .i64 (n : Int)) := by
  obtain ⟨a', c', e, _, _, hh⟩ := h
  injection e with e1 e2 e3
  subst e1
  obtain ⟨b, o, e, hrd⟩ := hh (fun e => by rw [e] at hk; simp [TL.len] at hk)
  obtain ⟨_, a9, q9, hnine, -⟩ := Rd.nine hrd hd (wr := w) (fun _ _ _ => rfl)
  exact ⟨b, o, e, hnine.2.1⟩
theorem add_off14 (b o k : Nat) : (⟨b, o, none⟩ : Addr).add k = ⟨b, o + k, none⟩ := by
  unfold Addr.add; split
  · rename_i h; subst h; rfl
  · rfl
theorem own_keep3 {w w' : World} {base e size : Nat} {v : Value} {n : Nat} {xs : List Value} (h : w.ownsRow base e size v n xs) (hk : ∀ k, v.ownBlock = some k → w'.heap[k]? = w.heap[k]?) : w'.ownsRow base e size v n xs := by
  obtain ⟨h1, h2 | ⟨g, cap, cur, e1, hg, hh, r⟩⟩ := h
  · exact ⟨h1, .inl h2⟩
  · exact ⟨h1, .inr ⟨g, cap, cur, e1, hg, (hk g (by rw [e1]; rfl)).trans hh, r⟩⟩
theorem own_outs {S : Nat → Prop} {w w' : World} {base e size : Nat} {v : Value} {n : Nat} {xs : List Value} (h : w.ownsRow base e size v n xs) (ho : OutsS S w w') (hn : ∀ g, v.ownBlock = some g → ¬ S g) : w'.ownsRow base e size v n xs := own_keep3 h fun k hk => ho.block k (h.lt k hk).2 (hn k hk)
theorem not_after {S S' : Nat → Prop} {w w' : World} {base e size : Nat} {v : Value} {n : Nat} {xs : List Value} (h : w.ownsRow base e size v n xs) (hn : ∀ g, v.ownBlock = some g → ¬ S g) (hS : ∀ b, S' b → S b ∨ (w.heap.size ≤ b ∧ b < w'.heap.size)) : ∀ g, v.ownBlock = some g → ¬ S' g := fun g hg hs => by
  have := (h.lt g hg).2
  rcases hS g hs with h1 | h1
  · exact hn g hg h1
  · omega
set_option maxRecDepth 100000 in
set_option maxHeartbeats 1000000 in
theorem once_many (ks : Nat → Int) (l : TL) (v : Value) (w : World) (hO : RdO w ks l v) (h0 : 300 < l.len) :
    Calls Try.prog 15 #[v] w (Yes w) := by
  obtain ⟨ao, cap, rfl, -, -, -⟩ := hO
  have hz1 : decide ((300 : Int) < (l.len : Int)) = true := by simp; omega
  have hz2 : (300 : Int) < (l.len : Int) := by omega
  clear h0
  go_enter Try.func15, Try.ntmps15
  go_wp2_with fail
  refine (shown14 _).mono ?_
  rintro e w1 ⟨rfl, hb1⟩
  have HB1 := Lib.hid hb1
  clear hb1
  go_wp2_with fail
  go_ret
  exact ⟨rfl, HB1.out⟩
set_option maxRecDepth 100000 in
set_option maxHeartbeats 8000000 in
theorem once_main (ks : Nat → Int) (l : TL) (v : Value) (w : World) (hO : RdO w ks l v) (h0 : l.len ≤ 300) :
    Calls Try.prog 15 #[v] w (Yes w) := by
  obtain ⟨ao, cap, rfl, -, -, hO⟩ := hO
  have HO := Lib.hid hO
  have hz1 : decide ((300 : Int) < (l.len : Int)) = false := by simp; omega
  have hz2 : ¬ (300 : Int) < (l.len : Int) := by omega
  have hl1 : (l.len : Int) ≤ 300 := by omega
  have hl2 : l.len ≤ 300 := h0
  obtain ⟨iI, hiI, hzI, hzI1, hzI2⟩ : ∃ i, Try.prog.info? 2 = some i ∧ i.zero = some (.int .i64 0) ∧ i.size = 1 ∧ i.bytes = 8 := by
    have h := int_info
    cases e : Try.prog.info? 2 with
    | none => rw [e] at h; cases h
    | some j =>
      rw [e] at h
      have h2 := Option.some.inj h
      exact ⟨j, rfl, congrArg (fun x => x.1) h2, congrArg (fun x => x.2.1) h2, congrArg (fun x => x.2.2) h2⟩
  clear hO h0
  go_enter Try.func15, Try.ntmps15
  go_wp2_with fail
  refine (shown14 _).mono ?_
  rintro e w1 ⟨rfl, hb1⟩
  have HB1 := Lib.hid hb1
  clear hb1
  go_wp2_with fail
  refine (New1 w w1 HB1.out).mono ?_
  rintro e w3 ⟨rfl, h3, -, -⟩
  have H3 := Lib.hid h3
  clear h3
  go_wp2_with fail
  go_loopw [4, 5, 6] (fun q v i wr => ∃ (k pn : Nat) (tk ms : List Nat) (p : Nat) (S : Nat → Prop), k ≤ l.len ∧ q = .int .i64 pn ∧ i = .int .i64 k ∧ Hid (wr.ownsRow w.heap.size 2 1 v tk.length (intsV tk)) ∧ Hid (∀ g, v.ownBlock = some g → ¬ S g) ∧ Hid (OneS w wr S w1.heap.size (rowN ms) p) ∧ Hid (OnceI pn tk ms) ∧ pn ≤ k) (fun _ _ i _ => l.len - (intOf i).toNat)
  case atStart => exact ⟨0, 0, [], [], 0, _, Nat.zero_le _, rfl, rfl, Lib.hid (World.ownsRow_nil _ _ _ _), Lib.hid (fun g hg => by cases hg), H3, Lib.hid OnceI.zero, Nat.le_refl _⟩
  case round =>
    clear H3
    rename_i wr
    obtain ⟨k, pn, tk, ms, p, S, hk, rfl, rfl, HW, HN, H, HI, hpk⟩ := hrel
    have hlen := HI.out.len
    have hrl := rowN_len ms
    obtain ⟨va, vc, hva⟩ := own_slice HW.out
    subst hva
    have hpos := H.out.1.pos
    by_cases hlt : k < l.len
    · have hlt' : (k : Int) < (l.len : Int) := by omega
      have hlb : decide ((k : Int) < (l.len : Int)) = true := decide_eq_true hlt'
      have hne : l ≠ .nil := fun e => by rw [e] at hlt; simp [TL.len] at hlt
      obtain ⟨b, o, rfl, hbw, hcell⟩ := HO.out hne
      obtain ⟨f, it, hd⟩ := l.drop_at k hlt
      obtain ⟨ai, ci, hc, -⟩ := hcell k f it _ hd
      have c0 : wr.cell? ⟨b, o + k * 10, none⟩ = some (.int .i64 (ks k)) := (H.out.2.2.cell (p := ⟨b, o + k * 10 + 0, none⟩) hbw).trans (hc 0 _ rfl)
      clear hc hcell hd hne
      generalize hK : ks k = K at *
      have hm : K % 6 = 0 ∨ K % 6 = 1 ∨ K % 6 = 2 ∨ K % 6 = 3 ∨ K % 6 = 4 ∨ K % 6 = 5 := by have := Int.emod_nonneg K (show (6 : Int) ≠ 0 by decide); have := Int.emod_lt_of_pos K (show (0 : Int) < 6 by decide); omega
      have HPk := Lib.hid fun W => Pick_any K 6 W (by decide) (by decide)
      clear hK
      go_wp2_with fail
      refine (HPk.out _).mono ?_
      rintro e w4 ⟨he, rfl⟩
      clear c0
      rcases hm with hm | hm | hm | hm | hm | hm
      · rw [hm] at he
        subst he
        go_wp2_with fail
        refine (rInt_lit pn _).mono ?_
        rintro e w5 ⟨rfl, hb5⟩
        have H5 := Lib.hid (H.out.below hb5)
        have HW5 := Lib.hid (own_below HW.out hb5 (Nat.le_refl _))
        clear hb5
        go_wp2_with fail
        refine (PutI H5.out (by omega) pn).mono ?_
        rintro e w6 ⟨rfl, ⟨S6, h6, hs6⟩, ho6⟩
        have H6 := Lib.hid (show OneS w w6 S6 w1.heap.size (rowN (ms ++ [pn])) p from rowN_app ms pn ▸ h6)
        have HW6 := Lib.hid (own_outs HW5.out ho6 HN.out)
        have HN6 := Lib.hid (not_after HW5.out HN.out hs6)
        have HI6 := Lib.hid HI.out.put
        clear h6 hs6 ho6
        go_wp2_with fail
        exact ⟨⟨k + 1, pn + 1, tk, ms ++ [pn], p, S6, by omega, by go_num, by go_num, HW6, HN6, H6, HI6, by omega⟩, by simp only [intOf]; omega⟩
      · rw [hm] at he
        subst he
        go_wp2_with fail
        refine (Rewind1 H.out).mono ?_
        rintro e w5 ⟨rfl, h5, ho5⟩
        have H5 := Lib.hid h5
        have HW5 := Lib.hid (own_outs HW.out ho5 HN.out)
        clear h5 ho5
        go_wp2_with fail
        exact ⟨⟨k + 1, pn, tk, ms, 0, S, by omega, by go_num, by go_num, HW5, HN, H5, HI, by omega⟩, by simp only [intOf]; omega⟩
      · rw [hm] at he
        subst he
        by_cases hp : p < (rowN ms).len
        · go_wp2_with fail
          refine (Skip1 H.out hp (by omega)).mono ?_
          rintro e w5 ⟨rfl, h5, ho5⟩
          have H5 := Lib.hid h5
          have HW5 := Lib.hid (own_outs HW.out ho5 HN.out)
          clear h5 ho5
          go_wp2_with fail
          exact ⟨⟨k + 1, pn, tk, ms, p + 1, S, by omega, by go_num, by go_num, HW5, HN, H5, HI, by omega⟩, by simp only [intOf]; omega⟩
        · obtain rfl : p = (rowN ms).len := by omega
          go_wp2_with fail
          refine (Skip_no H.out.1).mono ?_
          rintro e w5 ⟨rfl, rfl⟩
          go_wp2_with fail
          exact ⟨⟨k + 1, pn, tk, ms, (rowN ms).len, S, by omega, by go_num, by go_num, HW, HN, H, HI, by omega⟩, by simp only [intOf]; omega⟩
      · rw [hm] at he
        subst he
        by_cases hp : p < (rowN ms).len
        · obtain ⟨n, hn⟩ : ∃ n, ms[p]? = some n := ⟨_, List.getElem?_eq_getElem (by omega)⟩
          obtain ⟨r, hd⟩ := rowN_drop ms p n hn
          have HIn := Lib.hid (HI.out.take hn)
          have hnn := HI.out.lt (.inl (List.mem_of_getElem? hn))
          have HTk := Lib.hid (Take1 H.out hd hp (by omega) (by decide))
          clear hn hd
          go_wp2_with fail
          refine HTk.out.mono ?_
          rintro e w5 ⟨⟨a5, q5, rfl, -⟩, h5, ho5⟩
          have H5 := Lib.hid (show OneS w w5 S w1.heap.size (rowN (ms.eraseIdx p)) 0 from rowN_del ms p ▸ h5)
          have HW5 := Lib.hid (own_outs HW.out ho5 HN.out)
          clear h5 ho5 HTk
          simp only [intF, TL.len]
          go_upto_region 24 with (fail)
          have H6 := Lib.hid (H5.out.below (below_alloc w5 (.cells #[.int .i64 1, .int .i64 (n : Int), .int .i64 0, .string ⟨#[]⟩, .string ⟨#[]⟩, .int .i64 0, .slice a5 0 q5, .string ⟨#[]⟩, .int .i64 0] 24 (0, 0))))
          have HW6 := Lib.hid (own_below HW5.out (below_alloc w5 (.cells #[.int .i64 1, .int .i64 (n : Int), .int .i64 0, .string ⟨#[]⟩, .string ⟨#[]⟩, .int .i64 0, .slice a5 0 q5, .string ⟨#[]⟩, .int .i64 0] 24 (0, 0))) (Nat.le_refl _))
          have HH6 := Lib.hid (heap_alloc_new w5 (.cells #[.int .i64 1, .int .i64 (n : Int), .int .i64 0, .string ⟨#[]⟩, .string ⟨#[]⟩, .int .i64 0, .slice a5 0 q5, .string ⟨#[]⟩, .int .i64 0] 24 (0, 0)))
          obtain ⟨w6, hw6⟩ : ∃ w6, w6 = w5.alloc (.cells #[.int .i64 1, .int .i64 (n : Int), .int .i64 0, .string ⟨#[]⟩, .string ⟨#[]⟩, .int .i64 0, .slice a5 0 q5, .string ⟨#[]⟩, .int .i64 0] 24 (0, 0)) := ⟨_, rfl⟩
          rw [← hw6] at H6 HW6 HH6 ⊢
          clear hw6
          have hwz := H6.out.2.2.size
          obtain ⟨d0, d1, d2, d3, d4, d5, d6, d7, d8, -⟩ := nine_cells HH6.out
          go_wp2_with (at_builtin; refine wpList_append_own_at _ rfl (.tmp 58) (.tmp 61) 81 rfl w.heap.size 2 iI (.int .i64 0) 1 8 Try.underlying81 hiI hzI hzI1 hzI2 rfl (by decide) _ tk.length (intsV tk) rfl (HW6.out.alloc _) ⟨w6.heap.size, 0, none⟩ 1 1 [.int .i64 (n : Int)] rfl rfl (news_one (heap_alloc_new _ _)) (by intro u hu; simp at hu; subst hu; rfl) (by unfold maxLen; omega) (by omega) (by simp; omega) ?_; intro v1 w7 hown7 hgrow7 _ hat7)
          have HO7 := Lib.hid (show OutsS (fun j => (Value.slice va tk.length vc).ownBlock = some j) w6 w7 from ⟨hgrow7.os, hgrow7.tape, hgrow7.output, by have := hgrow7.size; simp at this; omega, fun j hj hn => (hgrow7.block j (by simp; omega) (fun e => hn e.symm)).trans (Below.heap_alloc _ _ _ hj)⟩)
          have H7 := Lib.hid (H6.out.keep _ HO7.out (fun j hj => ⟨(HW6.out.lt j hj).1, HN.out j hj⟩))
          have HN7 := Lib.hid (show ∀ g, v1.ownBlock = some g → ¬ S g from fun g hg => by
            rcases hat7 with e | e
            · exact HN.out g (e ▸ hg)
            · rw [e, World.size_alloc] at hg
              have hg2 := Option.some.inj hg
              exact H6.out.far (by omega))
          have HW7 := Lib.hid (show w7.ownsRow w.heap.size 2 1 v1 (tk ++ [n]).length (intsV (tk ++ [n])) by rw [List.length_append, ← intsV_snoc]; exact hown7)
          clear hown7 hgrow7 hat7
          exact ⟨⟨k + 1, pn, tk ++ [n], ms.eraseIdx p, 0, S, by omega, by go_num, by go_num, HW7, HN7, H7, HIn, by omega⟩, by simp only [intOf]; omega⟩
        · obtain rfl : p = (rowN ms).len := by omega
          go_wp2_with fail
          refine (Take_no H.out.1).mono ?_
          rintro e w5 ⟨rfl, hb5⟩
          have H5 := Lib.hid (H.out.below (balloc hb5 (.cells #[.int .i64 0, .int .i64 0, .int .i64 0, .string ⟨#[]⟩, .string ⟨#[]⟩, .int .i64 0, .slice none 0 0, .string ⟨#[]⟩, .int .i64 0] 24 (0, 0))))
          have HW5 := Lib.hid (own_below HW.out (balloc hb5 (.cells #[.int .i64 0, .int .i64 0, .int .i64 0, .string ⟨#[]⟩, .string ⟨#[]⟩, .int .i64 0, .slice none 0 0, .string ⟨#[]⟩, .int .i64 0] 24 (0, 0))) (Nat.le_refl _))
          clear hb5
          go_wp2_with fail
          exact ⟨⟨k + 1, pn, tk, ms, (rowN ms).len, S, by omega, by go_num, by go_num, HW5, HN, H5, HI, by omega⟩, by simp only [intOf]; omega⟩
      · rw [hm] at he
        subst he
        go_wp2_with fail
        refine (Rewind1 H.out).mono ?_
        rintro e w5 ⟨rfl, h5, ho5⟩
        have H5 := Lib.hid h5
        have HW5 := Lib.hid (own_outs HW.out ho5 HN.out)
        clear h5 ho5
        go_wp2_with fail
        exact ⟨⟨k + 1, pn, tk, ms, 0, S, by omega, by go_num, by go_num, HW5, HN, H5, HI, by omega⟩, by simp only [intOf]; omega⟩
      · rw [hm] at he
        subst he
        go_wp2_with fail
        refine (rInt_lit pn _).mono ?_
        rintro e w5 ⟨rfl, hb5⟩
        have H5 := Lib.hid (H.out.below hb5)
        have HW5 := Lib.hid (own_below HW.out hb5 (Nat.le_refl _))
        clear hb5
        go_wp2_with fail
        refine (PutI H5.out (by omega) pn).mono ?_
        rintro e w6 ⟨rfl, ⟨S6, h6, hs6⟩, ho6⟩
        have H6 := Lib.hid (show OneS w w6 S6 w1.heap.size (rowN (ms ++ [pn])) p from rowN_app ms pn ▸ h6)
        have HW6 := Lib.hid (own_outs HW5.out ho6 HN.out)
        have HN6 := Lib.hid (not_after HW5.out HN.out hs6)
        have HI6 := Lib.hid HI.out.put
        clear h6 hs6 ho6
        go_wp2_with fail
        exact ⟨⟨k + 1, pn + 1, tk, ms ++ [pn], p, S6, by omega, by go_num, by go_num, HW6, HN6, H6, HI6, by omega⟩, by simp only [intOf]; omega⟩
    · have hlt' : ¬ (k : Int) < (l.len : Int) := by omega
      have hlb : decide ((k : Int) < (l.len : Int)) = false := decide_eq_false hlt'
      go_wp2_with fail
      refine (All_any H.out.1 (by rw [rowN_cnt]; omega)).mono ?_
      rintro e w5 ⟨aq, cq, rfl, hn, hb5⟩
      have HW5 := Lib.hid (own_below HW.out hb5 (Nat.le_refl _))
      have H5 := Lib.hid (H.out.below hb5)
      have HL5 := Lib.hid (show RdS w5 0 w5.heap.size (rowN ms) (.slice aq (rowN ms).len cq) from hn.rds.less (Nat.zero_le _))
      clear hn hb5 HW H HN hlb hlt hlt'
      have hs1 : ((rowN ms).len : Int) ≤ 300 := by omega
      have hs2 : (tk.length : Int) ≤ 300 := by omega
      have hs3 : (pn : Int) ≤ 300 := by omega
      have hsum : (((rowN ms).len : Int) + (tk.length : Int) == (pn : Int)) = true := by simp; omega
      go_wp2_with fail
      clear hsum
      go_loopw [10, 11] (fun nx q wq => ∃ j : Nat, j ≤ pn ∧ q = .int .i64 j ∧ nx = .int .i64 (belowN ms j) ∧ w5 = wq) (fun _ q _ => pn - (intOf q).toNat)
      case atStart => exact ⟨0, Nat.zero_le _, rfl, by rw [belowN_zero]; rfl, rfl⟩
      case round =>
        obtain ⟨j, hj, rfl, rfl, rfl⟩ := hrel
        by_cases hlt : j < pn
        · have hlt' : (j : Int) < (pn : Int) := by omega
          have hlb : decide ((j : Int) < (pn : Int)) = true := decide_eq_true hlt'
          have HLw := Lib.hid (HI.out.law hlt)
          have hbl := belowN_le ms j
          go_wp2_with fail
          clear hlb
          go_loopw [12, 13] (fun mn q wq => ∃ i : Nat, i ≤ tk.length ∧ q = .int .i64 i ∧ mn = .int .i64 ((tk.take i).count j) ∧ w5 = wq) (fun _ q _ => tk.length - (intOf q).toNat)
          case atStart => exact ⟨0, Nat.zero_le _, rfl, by simp, rfl⟩
          case round =>
            obtain ⟨i, hi, rfl, rfl, rfl⟩ := hrel
            have hcl : (tk.take i).count j ≤ i := Nat.le_trans List.count_le_length (by rw [List.length_take]; omega)
            by_cases hli : i < tk.length
            · have hli' : (i : Int) < (tk.length : Int) := by omega
              have hlb2 : decide ((i : Int) < (tk.length : Int)) = true := decide_eq_true hli'
              obtain ⟨n, hn⟩ : ∃ n, tk[i]? = some n := ⟨_, List.getElem?_eq_getElem hli⟩
              have hct : (tk.take (i + 1)).count j = (tk.take i).count j + if n = j then 1 else 0 := by
                rw [List.take_add_one, hn, List.count_append]
                simp [List.count_singleton]
              obtain ⟨g, cap2, hvg⟩ : ∃ g cap, Value.slice va tk.length vc = .slice (some ⟨g, 0, none⟩) tk.length cap := by
                obtain ⟨_, ⟨e, h0⟩ | ⟨g, cap, cur, e, _⟩⟩ := HW5.out
                · omega
                · exact ⟨g, cap, e⟩
              injection hvg with e1 _ e3
              subst e1 e3
              have cg : w5.cell? ⟨g, i, none⟩ = some (.int .i64 (n : Int)) := by
                have h := HW5.out.cells rfl i _ (intsV_at hn)
                rw [add_off14] at h
                simpa using h
              have hnb := HI.out.lt (.inr (List.mem_of_getElem? hn))
              have HCt := Lib.hid hct
              clear hn hct
              generalize hcc : (tk.take i).count j = cc at *
              by_cases hnj : n = j
              · subst hnj
                have hee : ((n : Int) == (n : Int)) = true := by simp
                go_wp2_with fail
                exact ⟨⟨i + 1, by omega, by go_num, by rw [HCt.out, if_pos rfl]; go_num, trivial⟩, by simp only [intOf]; omega⟩
              · have hee : ((n : Int) == (j : Int)) = false := by simp; omega
                go_wp2_with fail
                exact ⟨⟨i + 1, by omega, by go_num, by rw [HCt.out, if_neg hnj]; rfl, trivial⟩, by simp only [intOf]; omega⟩
            · have hli' : ¬ (i : Int) < (tk.length : Int) := by omega
              have hlb2 : decide ((i : Int) < (tk.length : Int)) = false := decide_eq_false hli'
              obtain rfl : i = tk.length := by omega
              rw [List.take_length] at *
              have hlj : (j : Int) ≤ 300 := by omega
              have hxl : (belowN ms j : Int) ≤ 300 := by omega
              rcases HLw.out with ⟨h1, h2, h3⟩ | ⟨h1, h2, h3⟩
              · rw [h2] at *
                clear h2 HLw hlb2 hli hli' hi hcl
                generalize hX : belowN ms j = Xn at *
                have hxm : Xn < ms.length := (List.getElem?_eq_some_iff.1 h1).1
                have hxi : (Xn : Int) < ((rowN ms).len : Int) := by omega
                have hxb : decide ((Xn : Int) < ((rowN ms).len : Int)) = true := decide_eq_true hxi
                obtain ⟨r, hd⟩ := rowN_drop ms Xn j h1
                obtain ⟨b2, o2, rfl, c1⟩ := row_int HL5.out hd (by omega)
                have hee : ((j : Int) == (j : Int)) = true := by simp
                have H3 := Lib.hid h3
                clear h1 h3 hd hX
                go_wp2_with fail
                exact ⟨⟨j + 1, by omega, by go_num, by rw [H3.out]; go_num, trivial⟩, by simp only [intOf]; omega⟩
              · rw [h2] at *
                clear h2 HLw hlb2 hli hli' hi hcl
                generalize hX : belowN ms j = Xn at *
                have H3 := Lib.hid h3
                by_cases hx : Xn < ms.length
                · have hxi : (Xn : Int) < ((rowN ms).len : Int) := by omega
                  have hxb : decide ((Xn : Int) < ((rowN ms).len : Int)) = true := decide_eq_true hxi
                  obtain ⟨m, hm⟩ : ∃ m, ms[Xn]? = some m := ⟨_, List.getElem?_eq_getElem hx⟩
                  have hmj : m ≠ j := fun e => h1 (e ▸ hm)
                  obtain ⟨r, hd⟩ := rowN_drop ms Xn m hm
                  obtain ⟨b2, o2, rfl, c1⟩ := row_int HL5.out hd (by omega)
                  have hmb := HI.out.lt (.inl (List.mem_of_getElem? hm))
                  have hee : ((m : Int) == (j : Int)) = false := by simp; omega
                  clear h1 h3 hd hX hm
                  go_wp2_with fail
                  exact ⟨⟨j + 1, by omega, by go_num, by rw [H3.out], trivial⟩, by simp only [intOf]; omega⟩
                · have hxi : ¬ (Xn : Int) < ((rowN ms).len : Int) := by omega
                  have hxb : decide ((Xn : Int) < ((rowN ms).len : Int)) = false := decide_eq_false hxi
                  clear h1 h3 hX
                  go_wp2_with fail
                  exact ⟨⟨j + 1, by omega, by go_num, by rw [H3.out], trivial⟩, by simp only [intOf]; omega⟩
        · have hlt' : ¬ (j : Int) < (pn : Int) := by omega
          have hlb : decide ((j : Int) < (pn : Int)) = false := decide_eq_false hlt'
          go_wp2_with fail
          go_ret
          exact ⟨rfl, H5.out.2.2⟩
end Go.Proofs.Ytgbaelkoblnlhaa
