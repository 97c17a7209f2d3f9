/-
  Walks: the reference's reader of show: term, branch by branch. Walks: the reference's reader of show: term, the plain branch.
-/
import Derived.Test.YtgfodedmcjkmaaaGreatDoorRrB
import Derived.Test.YtgfodedmcjkmaaaGreatDoorRTiny
namespace Go.Proofs.YtgfodedmcjkmaaaGreatDoor
open Go.RowKit Go.Proofs.BitsM
theorem eat_not (R : Nat) (l : List UInt8) (p : ByteArray) (bad : Bool) (w : World) (hr : Rr R l bad w) (h : (!bad && hp l (bl p)) = false) :
    Calls Tryz.prog 52 #[.pointer (some ⟨R, 0, none⟩), .string p] w fun e w' => e = .returned (.bool false) ∧ Rr R l bad w' ∧ Ch (fun b => b = R) w w' := by
  have := eat_m R l p bad w hr
  rw [h] at this; exact this
theorem eat_yes2 (R : Nat) (l : List UInt8) (p : ByteArray) (w : World) (hr : Rr R l false w) (h : hp l (bl p) = true) :
    Calls Tryz.prog 52 #[.pointer (some ⟨R, 0, none⟩), .string p] w fun e w' => e = .returned (.bool true) ∧ Rr R (l.drop (bl p).length) false w' ∧ Ch (fun b => b = R) w w' := by
  have := eat_m R l p false w hr
  rw [show (!false && hp l (bl p)) = true from h] at this; exact this
theorem pid_law {k : Int} {s l1 : List UInt8} {f : Fd} {b1 : Bool} (h : pMarked k s = if b1 then none else some (f, l1)) : pPid k s = if mB b1 l1 [62] then none else some (f, .nil, mL b1 l1 [62]) := by
  unfold pPid
  rw [h]
  cases b1 with
  | true => rfl
  | false =>
    simp only [Bool.false_eq_true, if_false, Option.bind_some]
    rw [m_false]
    cases mB false l1 [62] <;> rfl
theorem tuple_law {rd : Rdr} {j : Nat} {s l1 : List UInt8} {z : TL} {b1 : Bool} (h : pList rd j [[125]] s = if b1 then none else some (z, l1)) : pTuple rd j s = if mB b1 l1 [125] then none else some (kF 7, z, mL b1 l1 [125]) := by
  unfold pTuple
  rw [h]
  cases b1 with
  | true => rfl
  | false =>
    simp only [Bool.false_eq_true, if_false, Option.bind_some]
    rw [m_false]
    cases mB false l1 [125] <;> rfl
theorem exp_law (s : List UInt8) (n : Int) (x : Bool) (h : readN ((mL (mB false (s.dropWhile letC) [58]) ((mL false (s.dropWhile letC) [58]).dropWhile letC) [47]).takeWhile digC) = if x then none else some n) :
    pExp s = if (mB (mB false (s.dropWhile letC) [58]) ((mL false (s.dropWhile letC) [58]).dropWhile letC) [47] || x) then none else some (⟨5, 0, 0, ba (s.takeWhile letC), ba ((mL false (s.dropWhile letC) [58]).takeWhile letC), n, ⟨#[]⟩, 0⟩, .nil, (mL (mB false (s.dropWhile letC) [58]) ((mL false (s.dropWhile letC) [58]).dropWhile letC) [47]).dropWhile digC) := by
  unfold pExp
  rw [m_false]
  cases hb : mB false (s.dropWhile letC) [58] with
  | true => simp [mB_true]
  | false =>
    rw [hb] at h
    simp only [Bool.false_eq_true, if_false, Option.bind_some]
    rw [m_false]
    cases hc : mB false ((mL false (s.dropWhile letC) [58]).dropWhile letC) [47] with
    | true => simp
    | false =>
      simp only [Bool.false_eq_true, if_false, Option.bind_some, Bool.false_or]
      rw [pInt_of h]
      cases x <;> rfl
theorem fun_law {rd : Rdr} {j : Nat} {s l1 l5 : List UInt8} {f : Fd} {b1 b5 x : Bool} {n : Int} {z : TL} (h : pMarked 4 s = if b1 then none else some (f, l1)) (h2 : readN ((mL b1 l1 [47]).takeWhile digC) = if x then none else some n)
    (hb : mB (mB b1 l1 [47] || x) ((mL b1 l1 [47]).dropWhile digC) [62, 123] = true → b5 = true) (h3 : mB (mB b1 l1 [47] || x) ((mL b1 l1 [47]).dropWhile digC) [62, 123] = false → pList rd j [[125]] (mL (mB b1 l1 [47] || x) ((mL b1 l1 [47]).dropWhile digC) [62, 123]) = if b5 then none else some (z, l5)) :
    pFun rd j s = if mB b5 l5 [125] then none else some ({f with ar := n}, z, mL b5 l5 [125]) := by
  unfold pFun
  rw [h]
  cases b1 with
  | true =>
    have := hb (by simp [mB_true])
    subst this; rfl
  | false =>
    simp only [Bool.false_eq_true, if_false, Option.bind_some]
    rw [m_false]
    cases hc : mB false l1 [47] with
    | true =>
      have := hb (by rw [hc]; simp [mB_true])
      subst this; rfl
    | false =>
      rw [hc] at hb h3
      simp only [Bool.false_eq_true, if_false, Option.bind_some]
      rw [pInt_of h2]
      cases x with
      | true =>
        have := hb (by simp [mB_true])
        subst this; rfl
      | false =>
        simp only [Bool.false_eq_true, if_false, Option.bind_some, Bool.false_or] at hb h3 ⊢
        rw [m_false]
        cases hd : mB false ((mL false l1 [47]).dropWhile digC) [62, 123] with
        | true =>
          have := hb hd
          subst this; rfl
        | false =>
          simp only [Bool.false_eq_true, if_false, Option.bind_some]
          rw [h3 hd]
          cases b5 with
          | true => rfl
          | false =>
            simp only [Bool.false_eq_true, if_false, Option.bind_some]
            rw [m_false]
            cases mB false l5 [125] <;> rfl
set_option maxRecDepth 100000 in
set_option maxHeartbeats 8000000 in
theorem s_nil (R : Nat) (l : List UInt8) (w : World) (hr : Rr R l false w) (hl : l.length ≤ 1000000)  (hy : hp l [91, 93] = true) (rd : Rdr) (j : Nat) :
    Calls Tryz.prog 30 #[.pointer (some ⟨R, 0, none⟩)] w (TQ (pSign false rd j l) R l false w) := by
  have hRw : R < w.heap.size := lt_of_block hr
  have HY := Lib.hid hy
  clear hy
  have HF0 := Lib.hid (show Bq w [.blk R #[.string (ba (l)), .bool (false)] 60, .base (fun b => b = R) w] from ⟨hr, Ch.refl _ _, trivial⟩)
  clear hr
  go_enter Tryz.func30, Tryz.ntmps30
  go_wp2_with fail
  have HF1 := Lib.hid (HF0.out.box #[.int .i64 0, .int .i64 0, .int .i64 0, .string ⟨#[]⟩, .string ⟨#[]⟩, .int .i64 0, .slice none 0 0, .string ⟨#[]⟩, .int .i64 0] 24 (n := w.heap.size) (by rfl))
  clear HF0
  have HF2 := Lib.hid (HF1.out.box #[.int .i64 0, .int .i64 0, .int .i64 0, .string ⟨#[]⟩, .string ⟨#[]⟩, .int .i64 0, .slice none 0 0, .string ⟨#[]⟩, .int .i64 0] 24 (n := w.heap.size + 1) (by simp))
  clear HF1
  refine (eat_yes2 R l ⟨#[91, 93]⟩ _ (HF2.out.blk 2 rfl) HY.out).mono ?_
  rintro e w1 ⟨rfl, hr, ho⟩
  have HF3 := Lib.hid (HF2.out.call 2 ho hr (by refine ⟨?_, ?_, ?_, trivial⟩ <;> (simp only [Fq.apart]; first | omega | (intro b h1 h2; omega) | (intro b h1 h2 h3; omega))))
  have hz1 : w.heap.size + 2 ≤ w1.heap.size := by have := ho.size; first | omega | (simp at this; omega)
  clear HF2 ho hr
  obtain ⟨c0, c1, c2, c3, c4, c5, c6, c7, c8, fr⟩ := nine_cells (HF3.out.blk 1 rfl)
  obtain ⟨d0, d1, d2, d3, d4, d5, d6, d7, d8, fs⟩ := nine_cells (HF3.out.blk 2 rfl)
  have hb0 := lt_of_block (HF3.out.blk 1 rfl)
  have hb1 := lt_of_block (HF3.out.blk 2 rfl)
  go_wp2_with fail
  have HF4 := Lib.hid (HF3.out.set (c := [.int .i64 0, .int .i64 0, .int .i64 0, .string ⟨#[]⟩, .string ⟨#[]⟩, .int .i64 0, .slice none 0 0, .string ⟨#[]⟩, .int .i64 0]) 1 rfl 0 (.int .i64 8) (by refine ⟨?_, ?_, ?_, trivial⟩ <;> (simp only [Fq.apart]; first | omega | (intro b h1 h2; omega) | (intro b h1 h2 h3; omega))))
  clear HF3
  have HF5 := Lib.hid (HF4.out.put 2 rfl (by refine ⟨?_, ?_, ?_, trivial⟩ <;> (simp only [Fq.apart]; first | omega | (intro b h1 h2; omega) | (intro b h1 h2 h3; omega))) (.int .i64 8) (.int .i64 0) (.int .i64 0) (.string ⟨#[]⟩) (.string ⟨#[]⟩) (.int .i64 0) (.slice none 0 0) (.string ⟨#[]⟩) (.int .i64 0))
  clear HF4
  refine bodyPost_ret (results_one rfl _ _ _ _ _ _ _ _ _ _ _ _ rfl (HF5.out.blk 0 rfl)) rfl ?_
  exact ⟨kF 8, .nil, none, 0, l.drop 2, false, rfl, RdS.nil _ _ _, (HF5.out.blk 2 rfl), (HF5.out.base 3 rfl), by rw [List.length_drop]; omega, (fun h => by cases h), (fun _ => by unfold pSign; rw [if_pos HY.out]; rfl)⟩
set_option maxRecDepth 100000 in
set_option maxHeartbeats 8000000 in
theorem s_list (R : Nat) (l : List UInt8) (w : World) (hr : Rr R l false w) (hl : l.length ≤ 1000000) (n0 : (!false && hp l [91, 93]) = false) (hy : hp l [91] = true) (j d : Nat) (hT : TermCr j d) (hj : j ≤ 1000000) (hlj : l.length ≤ j) :
    Calls Tryz.prog 30 #[.pointer (some ⟨R, 0, none⟩)] w (TQ (pSign false (pTerm false j d) j l) R l false w) := by
  have hRw : R < w.heap.size := lt_of_block hr
  have N0 := Lib.hid n0
  clear n0
  have hl1 : 1 ≤ l.length := by have h1 := hp_len hy; simp only [List.length_cons, List.length_nil] at h1; omega
  have HY := Lib.hid hy
  clear hy
  have HT := Lib.hid hT
  clear hT
  have HJ := Lib.hid hj
  clear hj
  have HF0 := Lib.hid (show Bq w [.blk R #[.string (ba (l)), .bool (false)] 60, .base (fun b => b = R) w] from ⟨hr, Ch.refl _ _, trivial⟩)
  clear hr
  go_enter Tryz.func30, Tryz.ntmps30
  go_wp2_with fail
  have HF1 := Lib.hid (HF0.out.box #[.int .i64 0, .int .i64 0, .int .i64 0, .string ⟨#[]⟩, .string ⟨#[]⟩, .int .i64 0, .slice none 0 0, .string ⟨#[]⟩, .int .i64 0] 24 (n := w.heap.size) (by rfl))
  clear HF0
  have HF2 := Lib.hid (HF1.out.box #[.int .i64 0, .int .i64 0, .int .i64 0, .string ⟨#[]⟩, .string ⟨#[]⟩, .int .i64 0, .slice none 0 0, .string ⟨#[]⟩, .int .i64 0] 24 (n := w.heap.size + 1) (by simp))
  clear HF1
  refine (eat_not R l ⟨#[91, 93]⟩ false _ (HF2.out.blk 2 rfl) N0.out).mono ?_
  rintro e w1 ⟨rfl, hr, ho⟩
  have HF3 := Lib.hid (HF2.out.call 2 ho hr (by refine ⟨?_, ?_, ?_, trivial⟩ <;> (simp only [Fq.apart]; first | omega | (intro b h1 h2; omega) | (intro b h1 h2 h3; omega))))
  have hz1 : w.heap.size + 2 ≤ w1.heap.size := by have := ho.size; first | omega | (simp at this; omega)
  clear HF2 ho hr
  go_wp2_with fail
  refine (eat_yes2 R l ⟨#[91]⟩ _ (HF3.out.blk 0 rfl) HY.out).mono ?_
  rintro e w2 ⟨rfl, hr, ho⟩
  have HF4 := Lib.hid (HF3.out.call 0 ho hr (by refine ⟨?_, ?_, ?_, trivial⟩ <;> (simp only [Fq.apart]; first | omega | (intro b h1 h2; omega) | (intro b h1 h2 h3; omega))))
  have hz2 : w1.heap.size ≤ w2.heap.size := by have := ho.size; first | omega | (simp at this; omega)
  clear HF3 ho hr
  go_wp2_with fail
  refine (rPair_any j d HT.out R _ false _ (HF4.out.blk 0 rfl) (show (l.drop 1).length < j by rw [List.length_drop]; omega) HJ.out).mono ?_
  rintro e w3 ⟨f, it, ai, ci, s2, b2, rfl, hrd, hr, ho, hsl, -, hres⟩
  have HRD := Lib.hid hrd
  have HRes := Lib.hid (hres rfl)
  clear hrd hres
  rw [List.length_drop] at hsl
  have HF5 := Lib.hid (HF4.out.call 0 ho hr (by refine ⟨?_, ?_, ?_, trivial⟩ <;> (simp only [Fq.apart]; first | omega | (intro b h1 h2; omega) | (intro b h1 h2 h3; omega))))
  have hz3 : w2.heap.size ≤ w3.heap.size := by have := ho.size; first | omega | (simp at this; omega)
  clear HF4 ho hr
  have HF6 := Lib.hid (HF5.out.add (f := .rd w2.heap.size w3.heap.size it (.slice ai it.len ci)) ⟨HRD.out, Nat.le_refl _⟩)
  clear HF5
  clear HRD
  obtain ⟨c0, c1, c2, c3, c4, c5, c6, c7, c8, fr⟩ := nine_cells (HF6.out.blk 2 rfl)
  obtain ⟨d0, d1, d2, d3, d4, d5, d6, d7, d8, fs⟩ := nine_cells (HF6.out.blk 3 rfl)
  have hb0 := lt_of_block (HF6.out.blk 2 rfl)
  have hb1 := lt_of_block (HF6.out.blk 3 rfl)
  go_wp2_with fail
  have HF7 := Lib.hid (HF6.out.put 2 rfl (by refine ⟨?_, ?_, ?_, ?_, trivial⟩ <;> (simp only [Fq.apart]; first | omega | (intro b h1 h2; omega) | (intro b h1 h2 h3; omega))) (.int .i64 f.k) (.int .i64 f.i) (.int .i64 f.g) (.string f.nm) (.string f.fn) (.int .i64 f.ar) (.slice ai it.len ci) (.string f.bs) (.int .i64 f.n))
  clear HF6
  have HF8 := Lib.hid (HF7.out.put 3 rfl (by refine ⟨?_, ?_, ?_, ?_, trivial⟩ <;> (simp only [Fq.apart]; first | omega | (intro b h1 h2; omega) | (intro b h1 h2 h3; omega))) (.int .i64 f.k) (.int .i64 f.i) (.int .i64 f.g) (.string f.nm) (.string f.fn) (.int .i64 f.ar) (.slice ai it.len ci) (.string f.bs) (.int .i64 f.n))
  clear HF7
  refine bodyPost_ret (results_one rfl _ _ _ _ _ _ _ _ _ _ _ _ rfl (HF8.out.blk 0 rfl)) rfl ?_
  exact ⟨f, it, ai, ci, s2, b2, rfl, ((HF8.out.rd 2 rfl).1.less (by omega)).more (HF8.out.rd 2 rfl).2, (HF8.out.blk 3 rfl), (HF8.out.base 4 rfl), by omega, (fun h => by cases h), (fun _ => by unfold pSign; rw [if_neg (by simpa using N0.out), if_pos HY.out]; exact HRes.out)⟩
set_option maxRecDepth 100000 in
set_option maxHeartbeats 8000000 in
theorem s_pid (R : Nat) (l : List UInt8) (w : World) (hr : Rr R l false w) (hl : l.length ≤ 1000000) (n0 : (!false && hp l [91, 93]) = false) (n1 : (!false && hp l [91]) = false) (n2 : (!false && hp l [123]) = false) (n3 : (!false && hp l [60, 60]) = false) (hy : hp l [60] = true) (rd : Rdr) (j : Nat) :
    Calls Tryz.prog 30 #[.pointer (some ⟨R, 0, none⟩)] w (TQ (pSign false rd j l) R l false w) := by
  have hRw : R < w.heap.size := lt_of_block hr
  have N0 := Lib.hid n0
  clear n0
  have N1 := Lib.hid n1
  clear n1
  have N2 := Lib.hid n2
  clear n2
  have N3 := Lib.hid n3
  clear n3
  have HY := Lib.hid hy
  clear hy
  have HF0 := Lib.hid (show Bq w [.blk R #[.string (ba (l)), .bool (false)] 60, .base (fun b => b = R) w] from ⟨hr, Ch.refl _ _, trivial⟩)
  clear hr
  go_enter Tryz.func30, Tryz.ntmps30
  go_wp2_with fail
  have HF1 := Lib.hid (HF0.out.box #[.int .i64 0, .int .i64 0, .int .i64 0, .string ⟨#[]⟩, .string ⟨#[]⟩, .int .i64 0, .slice none 0 0, .string ⟨#[]⟩, .int .i64 0] 24 (n := w.heap.size) (by rfl))
  clear HF0
  have HF2 := Lib.hid (HF1.out.box #[.int .i64 0, .int .i64 0, .int .i64 0, .string ⟨#[]⟩, .string ⟨#[]⟩, .int .i64 0, .slice none 0 0, .string ⟨#[]⟩, .int .i64 0] 24 (n := w.heap.size + 1) (by simp))
  clear HF1
  refine (eat_not R l ⟨#[91, 93]⟩ false _ (HF2.out.blk 2 rfl) N0.out).mono ?_
  rintro e w1 ⟨rfl, hr, ho⟩
  have HF3 := Lib.hid (HF2.out.call 2 ho hr (by refine ⟨?_, ?_, ?_, trivial⟩ <;> (simp only [Fq.apart]; first | omega | (intro b h1 h2; omega) | (intro b h1 h2 h3; omega))))
  have hz1 : w.heap.size + 2 ≤ w1.heap.size := by have := ho.size; first | omega | (simp at this; omega)
  clear HF2 ho hr
  go_wp2_with fail
  refine (eat_not R l ⟨#[91]⟩ false _ (HF3.out.blk 0 rfl) N1.out).mono ?_
  rintro e w2 ⟨rfl, hr, ho⟩
  have HF4 := Lib.hid (HF3.out.call 0 ho hr (by refine ⟨?_, ?_, ?_, trivial⟩ <;> (simp only [Fq.apart]; first | omega | (intro b h1 h2; omega) | (intro b h1 h2 h3; omega))))
  have hz2 : w1.heap.size ≤ w2.heap.size := by have := ho.size; first | omega | (simp at this; omega)
  clear HF3 ho hr
  go_wp2_with fail
  refine (eat_not R l ⟨#[123]⟩ false _ (HF4.out.blk 0 rfl) N2.out).mono ?_
  rintro e w3 ⟨rfl, hr, ho⟩
  have HF5 := Lib.hid (HF4.out.call 0 ho hr (by refine ⟨?_, ?_, ?_, trivial⟩ <;> (simp only [Fq.apart]; first | omega | (intro b h1 h2; omega) | (intro b h1 h2 h3; omega))))
  have hz3 : w2.heap.size ≤ w3.heap.size := by have := ho.size; first | omega | (simp at this; omega)
  clear HF4 ho hr
  go_wp2_with fail
  refine (eat_not R l ⟨#[60, 60]⟩ false _ (HF5.out.blk 0 rfl) N3.out).mono ?_
  rintro e w4 ⟨rfl, hr, ho⟩
  have HF6 := Lib.hid (HF5.out.call 0 ho hr (by refine ⟨?_, ?_, ?_, trivial⟩ <;> (simp only [Fq.apart]; first | omega | (intro b h1 h2; omega) | (intro b h1 h2 h3; omega))))
  have hz4 : w3.heap.size ≤ w4.heap.size := by have := ho.size; first | omega | (simp at this; omega)
  clear HF5 ho hr
  go_wp2_with fail
  refine (eat_yes2 R l ⟨#[60]⟩ _ (HF6.out.blk 0 rfl) HY.out).mono ?_
  rintro e w5 ⟨rfl, hr, ho⟩
  have HF7 := Lib.hid (HF6.out.call 0 ho hr (by refine ⟨?_, ?_, ?_, trivial⟩ <;> (simp only [Fq.apart]; first | omega | (intro b h1 h2; omega) | (intro b h1 h2 h3; omega))))
  have hz5 : w4.heap.size ≤ w5.heap.size := by have := ho.size; first | omega | (simp at this; omega)
  clear HF6 ho hr
  go_wp2_with fail
  refine (rMarked_any 6 R _ false _ (HF7.out.blk 0 rfl) (by rw [List.length_drop]; omega)).mono ?_
  rintro e w6 ⟨nm, g, i, l1, b1, rfl, hr, ho, hsl, -, hres⟩
  have HRes := Lib.hid (hres rfl)
  clear hres
  rw [List.length_drop] at hsl
  have HF8 := Lib.hid (HF7.out.call 0 ho hr (by refine ⟨?_, ?_, ?_, trivial⟩ <;> (simp only [Fq.apart]; first | omega | (intro b h1 h2; omega) | (intro b h1 h2 h3; omega))))
  have hz6 : w5.heap.size ≤ w6.heap.size := by have := ho.size; first | omega | (simp at this; omega)
  clear HF7 ho hr
  obtain ⟨c0, c1, c2, c3, c4, c5, c6, c7, c8, fr⟩ := nine_cells (HF8.out.blk 1 rfl)
  have hb0 := lt_of_block (HF8.out.blk 1 rfl)
  go_wp2_with fail
  clear c0 c1 c2 c3 c4 c5 c6 c7 c8 fr hb0
  have HF9 := Lib.hid (HF8.out.put 1 rfl (by refine ⟨?_, ?_, ?_, trivial⟩ <;> (simp only [Fq.apart]; first | omega | (intro b h1 h2; omega) | (intro b h1 h2 h3; omega))) (.int .i64 6) (.int .i64 i) (.int .i64 g) (.string nm) (.string ⟨#[]⟩) (.int .i64 0) (.slice none 0 0) (.string ⟨#[]⟩) (.int .i64 0))
  clear HF8
  refine (rMust_m R l1 ⟨#[62]⟩ b1 _ (HF9.out.blk 1 rfl)).mono ?_
  rintro e w7 ⟨rfl, hr, ho⟩
  have HF10 := Lib.hid (HF9.out.call 1 ho hr (by refine ⟨?_, ?_, ?_, trivial⟩ <;> (simp only [Fq.apart]; first | omega | (intro b h1 h2; omega) | (intro b h1 h2 h3; omega))))
  have hz7 : w6.heap.size ≤ w7.heap.size := by have := ho.size; first | omega | (simp at this; omega)
  clear HF9 ho hr
  obtain ⟨c0, c1, c2, c3, c4, c5, c6, c7, c8, -⟩ := nine_cells (HF10.out.blk 1 rfl)
  obtain ⟨d0, d1, d2, d3, d4, d5, d6, d7, d8, fs⟩ := nine_cells (HF10.out.blk 2 rfl)
  have hb1 := lt_of_block (HF10.out.blk 2 rfl)
  go_wp2_with fail
  have HF11 := Lib.hid (HF10.out.put 2 rfl (by refine ⟨?_, ?_, ?_, trivial⟩ <;> (simp only [Fq.apart]; first | omega | (intro b h1 h2; omega) | (intro b h1 h2 h3; omega))) (.int .i64 6) (.int .i64 i) (.int .i64 g) (.string nm) (.string ⟨#[]⟩) (.int .i64 0) (.slice none 0 0) (.string ⟨#[]⟩) (.int .i64 0))
  clear HF10
  refine bodyPost_ret (results_one rfl _ _ _ _ _ _ _ _ _ _ _ _ rfl (HF11.out.blk 0 rfl)) rfl ?_
  exact ⟨⟨6, i, g, nm, ⟨#[]⟩, 0, ⟨#[]⟩, 0⟩, .nil, none, 0, mL b1 l1 [62], mB b1 l1 [62], rfl, RdS.nil _ _ _, (HF11.out.blk 1 rfl), (HF11.out.base 3 rfl), Nat.le_trans (mL_len _ _ _) (by omega), (fun h => by cases h), (fun _ => by unfold pSign; rw [if_neg (by simpa using N0.out), if_neg (by simpa using N1.out), if_neg (by simpa using N2.out), if_neg (by simpa using N3.out), if_pos HY.out]; exact pid_law HRes.out)⟩
set_option maxRecDepth 100000 in
set_option maxHeartbeats 8000000 in
theorem s_ref (R : Nat) (l : List UInt8) (w : World) (hr : Rr R l false w) (hl : l.length ≤ 1000000) (n0 : (!false && hp l [91, 93]) = false) (n1 : (!false && hp l [91]) = false) (n2 : (!false && hp l [123]) = false) (n3 : (!false && hp l [60, 60]) = false) (n4 : (!false && hp l [60]) = false) (hy : hp l [35, 82, 101, 102, 60] = true) (rd : Rdr) (j : Nat) :
    Calls Tryz.prog 30 #[.pointer (some ⟨R, 0, none⟩)] w (TQ (pSign false rd j l) R l false w) := by
  have hRw : R < w.heap.size := lt_of_block hr
  have N0 := Lib.hid n0
  clear n0
  have N1 := Lib.hid n1
  clear n1
  have N2 := Lib.hid n2
  clear n2
  have N3 := Lib.hid n3
  clear n3
  have N4 := Lib.hid n4
  clear n4
  have HY := Lib.hid hy
  clear hy
  have HF0 := Lib.hid (show Bq w [.blk R #[.string (ba (l)), .bool (false)] 60, .base (fun b => b = R) w] from ⟨hr, Ch.refl _ _, trivial⟩)
  clear hr
  go_enter Tryz.func30, Tryz.ntmps30
  go_wp2_with fail
  have HF1 := Lib.hid (HF0.out.box #[.int .i64 0, .int .i64 0, .int .i64 0, .string ⟨#[]⟩, .string ⟨#[]⟩, .int .i64 0, .slice none 0 0, .string ⟨#[]⟩, .int .i64 0] 24 (n := w.heap.size) (by rfl))
  clear HF0
  have HF2 := Lib.hid (HF1.out.box #[.int .i64 0, .int .i64 0, .int .i64 0, .string ⟨#[]⟩, .string ⟨#[]⟩, .int .i64 0, .slice none 0 0, .string ⟨#[]⟩, .int .i64 0] 24 (n := w.heap.size + 1) (by simp))
  clear HF1
  refine (eat_not R l ⟨#[91, 93]⟩ false _ (HF2.out.blk 2 rfl) N0.out).mono ?_
  rintro e w1 ⟨rfl, hr, ho⟩
  have HF3 := Lib.hid (HF2.out.call 2 ho hr (by refine ⟨?_, ?_, ?_, trivial⟩ <;> (simp only [Fq.apart]; first | omega | (intro b h1 h2; omega) | (intro b h1 h2 h3; omega))))
  have hz1 : w.heap.size + 2 ≤ w1.heap.size := by have := ho.size; first | omega | (simp at this; omega)
  clear HF2 ho hr
  go_wp2_with fail
  refine (eat_not R l ⟨#[91]⟩ false _ (HF3.out.blk 0 rfl) N1.out).mono ?_
  rintro e w2 ⟨rfl, hr, ho⟩
  have HF4 := Lib.hid (HF3.out.call 0 ho hr (by refine ⟨?_, ?_, ?_, trivial⟩ <;> (simp only [Fq.apart]; first | omega | (intro b h1 h2; omega) | (intro b h1 h2 h3; omega))))
  have hz2 : w1.heap.size ≤ w2.heap.size := by have := ho.size; first | omega | (simp at this; omega)
  clear HF3 ho hr
  go_wp2_with fail
  refine (eat_not R l ⟨#[123]⟩ false _ (HF4.out.blk 0 rfl) N2.out).mono ?_
  rintro e w3 ⟨rfl, hr, ho⟩
  have HF5 := Lib.hid (HF4.out.call 0 ho hr (by refine ⟨?_, ?_, ?_, trivial⟩ <;> (simp only [Fq.apart]; first | omega | (intro b h1 h2; omega) | (intro b h1 h2 h3; omega))))
  have hz3 : w2.heap.size ≤ w3.heap.size := by have := ho.size; first | omega | (simp at this; omega)
  clear HF4 ho hr
  go_wp2_with fail
  refine (eat_not R l ⟨#[60, 60]⟩ false _ (HF5.out.blk 0 rfl) N3.out).mono ?_
  rintro e w4 ⟨rfl, hr, ho⟩
  have HF6 := Lib.hid (HF5.out.call 0 ho hr (by refine ⟨?_, ?_, ?_, trivial⟩ <;> (simp only [Fq.apart]; first | omega | (intro b h1 h2; omega) | (intro b h1 h2 h3; omega))))
  have hz4 : w3.heap.size ≤ w4.heap.size := by have := ho.size; first | omega | (simp at this; omega)
  clear HF5 ho hr
  go_wp2_with fail
  refine (eat_not R l ⟨#[60]⟩ false _ (HF6.out.blk 0 rfl) N4.out).mono ?_
  rintro e w5 ⟨rfl, hr, ho⟩
  have HF7 := Lib.hid (HF6.out.call 0 ho hr (by refine ⟨?_, ?_, ?_, trivial⟩ <;> (simp only [Fq.apart]; first | omega | (intro b h1 h2; omega) | (intro b h1 h2 h3; omega))))
  have hz5 : w4.heap.size ≤ w5.heap.size := by have := ho.size; first | omega | (simp at this; omega)
  clear HF6 ho hr
  go_wp2_with fail
  refine (eat_yes2 R l ⟨#[35, 82, 101, 102, 60]⟩ _ (HF7.out.blk 0 rfl) HY.out).mono ?_
  rintro e w6 ⟨rfl, hr, ho⟩
  have HF8 := Lib.hid (HF7.out.call 0 ho hr (by refine ⟨?_, ?_, ?_, trivial⟩ <;> (simp only [Fq.apart]; first | omega | (intro b h1 h2; omega) | (intro b h1 h2 h3; omega))))
  have hz6 : w5.heap.size ≤ w6.heap.size := by have := ho.size; first | omega | (simp at this; omega)
  clear HF7 ho hr
  go_wp2_with fail
  refine (rMarked_any 3 R _ false _ (HF8.out.blk 0 rfl) (by rw [List.length_drop]; omega)).mono ?_
  rintro e w7 ⟨nm, g, i, l1, b1, rfl, hr, ho, hsl, -, hres⟩
  have HRes := Lib.hid (hres rfl)
  clear hres
  rw [List.length_drop] at hsl
  have HF9 := Lib.hid (HF8.out.call 0 ho hr (by refine ⟨?_, ?_, ?_, trivial⟩ <;> (simp only [Fq.apart]; first | omega | (intro b h1 h2; omega) | (intro b h1 h2 h3; omega))))
  have hz7 : w6.heap.size ≤ w7.heap.size := by have := ho.size; first | omega | (simp at this; omega)
  clear HF8 ho hr
  obtain ⟨c0, c1, c2, c3, c4, c5, c6, c7, c8, fr⟩ := nine_cells (HF9.out.blk 1 rfl)
  have hb0 := lt_of_block (HF9.out.blk 1 rfl)
  go_wp2_with fail
  clear c0 c1 c2 c3 c4 c5 c6 c7 c8 fr hb0
  have HF10 := Lib.hid (HF9.out.put 1 rfl (by refine ⟨?_, ?_, ?_, trivial⟩ <;> (simp only [Fq.apart]; first | omega | (intro b h1 h2; omega) | (intro b h1 h2 h3; omega))) (.int .i64 3) (.int .i64 i) (.int .i64 g) (.string nm) (.string ⟨#[]⟩) (.int .i64 0) (.slice none 0 0) (.string ⟨#[]⟩) (.int .i64 0))
  clear HF9
  refine (rMust_m R l1 ⟨#[62]⟩ b1 _ (HF10.out.blk 1 rfl)).mono ?_
  rintro e w8 ⟨rfl, hr, ho⟩
  have HF11 := Lib.hid (HF10.out.call 1 ho hr (by refine ⟨?_, ?_, ?_, trivial⟩ <;> (simp only [Fq.apart]; first | omega | (intro b h1 h2; omega) | (intro b h1 h2 h3; omega))))
  have hz8 : w7.heap.size ≤ w8.heap.size := by have := ho.size; first | omega | (simp at this; omega)
  clear HF10 ho hr
  obtain ⟨c0, c1, c2, c3, c4, c5, c6, c7, c8, -⟩ := nine_cells (HF11.out.blk 1 rfl)
  obtain ⟨d0, d1, d2, d3, d4, d5, d6, d7, d8, fs⟩ := nine_cells (HF11.out.blk 2 rfl)
  have hb1 := lt_of_block (HF11.out.blk 2 rfl)
  go_wp2_with fail
  have HF12 := Lib.hid (HF11.out.put 2 rfl (by refine ⟨?_, ?_, ?_, trivial⟩ <;> (simp only [Fq.apart]; first | omega | (intro b h1 h2; omega) | (intro b h1 h2 h3; omega))) (.int .i64 3) (.int .i64 i) (.int .i64 g) (.string nm) (.string ⟨#[]⟩) (.int .i64 0) (.slice none 0 0) (.string ⟨#[]⟩) (.int .i64 0))
  clear HF11
  refine bodyPost_ret (results_one rfl _ _ _ _ _ _ _ _ _ _ _ _ rfl (HF12.out.blk 0 rfl)) rfl ?_
  exact ⟨⟨3, i, g, nm, ⟨#[]⟩, 0, ⟨#[]⟩, 0⟩, .nil, none, 0, mL b1 l1 [62], mB b1 l1 [62], rfl, RdS.nil _ _ _, (HF12.out.blk 1 rfl), (HF12.out.base 3 rfl), Nat.le_trans (mL_len _ _ _) (by omega), (fun h => by cases h), (fun _ => by unfold pSign; rw [if_neg (by simpa using N0.out), if_neg (by simpa using N1.out), if_neg (by simpa using N2.out), if_neg (by simpa using N3.out), if_neg (by simpa using N4.out), if_pos HY.out]; exact pid_law HRes.out)⟩
set_option maxRecDepth 100000 in
set_option maxHeartbeats 8000000 in
theorem s_tuple (R : Nat) (l : List UInt8) (w : World) (hr : Rr R l false w) (hl : l.length ≤ 1000000) (n0 : (!false && hp l [91, 93]) = false) (n1 : (!false && hp l [91]) = false) (hy : hp l [123] = true) (j d : Nat) (hT : TermCr j d) (hj : j ≤ 1000000) (hlj : l.length ≤ j) :
    Calls Tryz.prog 30 #[.pointer (some ⟨R, 0, none⟩)] w (TQ (pSign false (pTerm false j d) j l) R l false w) := by
  have hRw : R < w.heap.size := lt_of_block hr
  have N0 := Lib.hid n0
  clear n0
  have N1 := Lib.hid n1
  clear n1
  have hl1 : 1 ≤ l.length := by have h1 := hp_len hy; simp only [List.length_cons, List.length_nil] at h1; omega
  have HY := Lib.hid hy
  clear hy
  have HT := Lib.hid hT
  clear hT
  have HJ := Lib.hid hj
  clear hj
  have HF0 := Lib.hid (show Bq w [.blk R #[.string (ba (l)), .bool (false)] 60, .base (fun b => b = R) w] from ⟨hr, Ch.refl _ _, trivial⟩)
  clear hr
  go_enter Tryz.func30, Tryz.ntmps30
  go_wp2_with fail
  have HF1 := Lib.hid (HF0.out.box #[.int .i64 0, .int .i64 0, .int .i64 0, .string ⟨#[]⟩, .string ⟨#[]⟩, .int .i64 0, .slice none 0 0, .string ⟨#[]⟩, .int .i64 0] 24 (n := w.heap.size) (by rfl))
  clear HF0
  have HF2 := Lib.hid (HF1.out.box #[.int .i64 0, .int .i64 0, .int .i64 0, .string ⟨#[]⟩, .string ⟨#[]⟩, .int .i64 0, .slice none 0 0, .string ⟨#[]⟩, .int .i64 0] 24 (n := w.heap.size + 1) (by simp))
  clear HF1
  refine (eat_not R l ⟨#[91, 93]⟩ false _ (HF2.out.blk 2 rfl) N0.out).mono ?_
  rintro e w1 ⟨rfl, hr, ho⟩
  have HF3 := Lib.hid (HF2.out.call 2 ho hr (by refine ⟨?_, ?_, ?_, trivial⟩ <;> (simp only [Fq.apart]; first | omega | (intro b h1 h2; omega) | (intro b h1 h2 h3; omega))))
  have hz1 : w.heap.size + 2 ≤ w1.heap.size := by have := ho.size; first | omega | (simp at this; omega)
  clear HF2 ho hr
  go_wp2_with fail
  refine (eat_not R l ⟨#[91]⟩ false _ (HF3.out.blk 0 rfl) N1.out).mono ?_
  rintro e w2 ⟨rfl, hr, ho⟩
  have HF4 := Lib.hid (HF3.out.call 0 ho hr (by refine ⟨?_, ?_, ?_, trivial⟩ <;> (simp only [Fq.apart]; first | omega | (intro b h1 h2; omega) | (intro b h1 h2 h3; omega))))
  have hz2 : w1.heap.size ≤ w2.heap.size := by have := ho.size; first | omega | (simp at this; omega)
  clear HF3 ho hr
  go_wp2_with fail
  refine (eat_yes2 R l ⟨#[123]⟩ _ (HF4.out.blk 0 rfl) HY.out).mono ?_
  rintro e w3 ⟨rfl, hr, ho⟩
  have HF5 := Lib.hid (HF4.out.call 0 ho hr (by refine ⟨?_, ?_, ?_, trivial⟩ <;> (simp only [Fq.apart]; first | omega | (intro b h1 h2; omega) | (intro b h1 h2 h3; omega))))
  have hz3 : w2.heap.size ≤ w3.heap.size := by have := ho.size; first | omega | (simp at this; omega)
  clear HF4 ho hr
  obtain ⟨c0, c1, c2, c3, c4, c5, c6, c7, c8, fr⟩ := nine_cells (HF5.out.blk 1 rfl)
  have hb0 := lt_of_block (HF5.out.blk 1 rfl)
  go_wp2_with fail
  clear c0 c1 c2 c3 c4 c5 c6 c7 c8 fr hb0
  have HF6 := Lib.hid (HF5.out.set (c := [.int .i64 0, .int .i64 0, .int .i64 0, .string ⟨#[]⟩, .string ⟨#[]⟩, .int .i64 0, .slice none 0 0, .string ⟨#[]⟩, .int .i64 0]) 1 rfl 0 (.int .i64 7) (by refine ⟨?_, ?_, ?_, trivial⟩ <;> (simp only [Fq.apart]; first | omega | (intro b h1 h2; omega) | (intro b h1 h2 h3; omega))))
  clear HF5
  refine (rTerms_any j d HT.out R _ ⟨#[125]⟩ false _ (HF6.out.blk 1 rfl) (show (l.drop 1).length < j by rw [List.length_drop]; omega) HJ.out (by decide)).mono ?_
  rintro e w4 ⟨z, v, l1, b1, rfl, hot, -, hr, ho, hsl, -, hres⟩
  have HRes := Lib.hid (show pList (pTerm false j d) j [[125]] (l.drop 1) = if b1 then none else some (z, l1) from hres rfl)
  clear hres
  rw [List.length_drop] at hsl
  have HT1 := Lib.hid (show OwnT (w.heap.size + 2) v z w4 from by
    obtain ⟨xs, h1, h2⟩ := hot
    have hle : w.heap.size + 2 ≤ w3.heap.size := by omega
    refine ⟨xs, ⟨h1.1, h1.2.imp id fun ⟨g, cap, cur, e1, hg, rest⟩ => ⟨g, cap, cur, e1, by simp at hg; omega, rest⟩⟩, h2.keep2 (fun b hb => ⟨by have := hb.1; simp at this; omega, hb.2⟩) fun _ _ _ => rfl⟩)
  clear hot
  have HF7 := Lib.hid (HF6.out.call 1 ho hr (by refine ⟨?_, ?_, ?_, trivial⟩ <;> (simp only [Fq.apart]; first | omega | (intro b h1 h2; omega) | (intro b h1 h2 h3; omega))))
  have hz4 : w3.heap.size ≤ w4.heap.size := by have := ho.size; first | omega | (simp at this; omega)
  clear HF6 ho hr
  obtain ⟨ao, ca, rfl⟩ := HT1.out.rds.slice
  obtain ⟨c0, c1, c2, c3, c4, c5, c6, c7, c8, fr⟩ := nine_cells (HF7.out.blk 1 rfl)
  have hb0 := lt_of_block (HF7.out.blk 1 rfl)
  go_wp2_with fail
  clear c0 c1 c2 c3 c4 c5 c6 c7 c8 fr hb0
  have HT2 := Lib.hid (HT1.out.ch (Ch.of_set w4 (w.heap.size + 1) 6 (.slice ao z.len ca)) fun b h1 h2 => by omega)
  clear HT1
  have HF8 := Lib.hid (HF7.out.set (c := [.int .i64 7, .int .i64 0, .int .i64 0, .string ⟨#[]⟩, .string ⟨#[]⟩, .int .i64 0, .slice none 0 0, .string ⟨#[]⟩, .int .i64 0]) 1 rfl 6 (.slice ao z.len ca) (by refine ⟨?_, ?_, ?_, trivial⟩ <;> (simp only [Fq.apart]; first | omega | (intro b h1 h2; omega) | (intro b h1 h2 h3; omega))))
  clear HF7
  refine (rMust_m R l1 ⟨#[125]⟩ b1 _ (HF8.out.blk 1 rfl)).mono ?_
  rintro e w5 ⟨rfl, hr, ho⟩
  have HT3 := Lib.hid (HT2.out.ch ho fun b h1 h2 => by omega)
  clear HT2
  have HF9 := Lib.hid (HF8.out.call 1 ho hr (by refine ⟨?_, ?_, ?_, trivial⟩ <;> (simp only [Fq.apart]; first | omega | (intro b h1 h2; omega) | (intro b h1 h2 h3; omega))))
  have hz5 : w4.heap.size ≤ w5.heap.size := by have := ho.size; first | omega | (simp at this; omega)
  clear HF8 ho hr
  obtain ⟨c0, c1, c2, c3, c4, c5, c6, c7, c8, -⟩ := nine_cells (HF9.out.blk 1 rfl)
  obtain ⟨d0, d1, d2, d3, d4, d5, d6, d7, d8, fs⟩ := nine_cells (HF9.out.blk 2 rfl)
  have hb1 := lt_of_block (HF9.out.blk 2 rfl)
  go_wp2_with fail
  have ho9 := outs_nine w5 w.heap.size (.int .i64 7) (.int .i64 0) (.int .i64 0) (.string ⟨#[]⟩) (.string ⟨#[]⟩) (.int .i64 0) (.slice ao z.len ca) (.string ⟨#[]⟩) (.int .i64 0)
  have HT9 := Lib.hid (HT3.out.ch (C := fun b => b = w.heap.size) ⟨ho9.os, ho9.tape, ho9.output, ho9.size, fun j hj hc => ho9.block j hj (by omega)⟩ fun b h1 h2 => by omega)
  clear ho9
  have HF10 := Lib.hid (HF9.out.put 2 rfl (by refine ⟨?_, ?_, ?_, trivial⟩ <;> (simp only [Fq.apart]; first | omega | (intro b h1 h2; omega) | (intro b h1 h2 h3; omega))) (.int .i64 7) (.int .i64 0) (.int .i64 0) (.string ⟨#[]⟩) (.string ⟨#[]⟩) (.int .i64 0) (.slice ao z.len ca) (.string ⟨#[]⟩) (.int .i64 0))
  clear HF9
  refine bodyPost_ret (results_one rfl _ _ _ _ _ _ _ _ _ _ _ _ rfl (HF10.out.blk 0 rfl)) rfl ?_
  exact ⟨kF 7, z, ao, ca, mL b1 l1 [125], mB b1 l1 [125], rfl, HT9.out.rds.less (by omega), (HF10.out.blk 1 rfl), (HF10.out.base 3 rfl), Nat.le_trans (mL_len _ _ _) (by omega), (fun h => by cases h), (fun _ => by unfold pSign; rw [if_neg (by simpa using N0.out), if_neg (by simpa using N1.out), if_pos HY.out]; exact tuple_law HRes.out)⟩
set_option maxRecDepth 100000 in
set_option maxHeartbeats 8000000 in
theorem s_exp (R : Nat) (l : List UInt8) (w : World) (hr : Rr R l false w) (hl : l.length ≤ 1000000) (n0 : (!false && hp l [91, 93]) = false) (n1 : (!false && hp l [91]) = false) (n2 : (!false && hp l [123]) = false) (n3 : (!false && hp l [60, 60]) = false) (n4 : (!false && hp l [60]) = false) (n5 : (!false && hp l [35, 82, 101, 102, 60]) = false) (n6 : (!false && hp l [35, 70, 117, 110, 60]) = false) (hy : hp l [102, 117, 110, 32] = true) (rd : Rdr) (j : Nat) :
    Calls Tryz.prog 30 #[.pointer (some ⟨R, 0, none⟩)] w (TQ (pSign false rd j l) R l false w) := by
  have hRw : R < w.heap.size := lt_of_block hr
  have N0 := Lib.hid n0
  clear n0
  have N1 := Lib.hid n1
  clear n1
  have N2 := Lib.hid n2
  clear n2
  have N3 := Lib.hid n3
  clear n3
  have N4 := Lib.hid n4
  clear n4
  have N5 := Lib.hid n5
  clear n5
  have N6 := Lib.hid n6
  clear n6
  have HY := Lib.hid hy
  clear hy
  have HF0 := Lib.hid (show Bq w [.blk R #[.string (ba (l)), .bool (false)] 60, .base (fun b => b = R) w] from ⟨hr, Ch.refl _ _, trivial⟩)
  clear hr
  go_enter Tryz.func30, Tryz.ntmps30
  go_wp2_with fail
  have HF1 := Lib.hid (HF0.out.box #[.int .i64 0, .int .i64 0, .int .i64 0, .string ⟨#[]⟩, .string ⟨#[]⟩, .int .i64 0, .slice none 0 0, .string ⟨#[]⟩, .int .i64 0] 24 (n := w.heap.size) (by rfl))
  clear HF0
  have HF2 := Lib.hid (HF1.out.box #[.int .i64 0, .int .i64 0, .int .i64 0, .string ⟨#[]⟩, .string ⟨#[]⟩, .int .i64 0, .slice none 0 0, .string ⟨#[]⟩, .int .i64 0] 24 (n := w.heap.size + 1) (by simp))
  clear HF1
  refine (eat_not R l ⟨#[91, 93]⟩ false _ (HF2.out.blk 2 rfl) N0.out).mono ?_
  rintro e w1 ⟨rfl, hr, ho⟩
  have HF3 := Lib.hid (HF2.out.call 2 ho hr (by refine ⟨?_, ?_, ?_, trivial⟩ <;> (simp only [Fq.apart]; first | omega | (intro b h1 h2; omega) | (intro b h1 h2 h3; omega))))
  have hz1 : w.heap.size + 2 ≤ w1.heap.size := by have := ho.size; first | omega | (simp at this; omega)
  clear HF2 ho hr
  go_wp2_with fail
  refine (eat_not R l ⟨#[91]⟩ false _ (HF3.out.blk 0 rfl) N1.out).mono ?_
  rintro e w2 ⟨rfl, hr, ho⟩
  have HF4 := Lib.hid (HF3.out.call 0 ho hr (by refine ⟨?_, ?_, ?_, trivial⟩ <;> (simp only [Fq.apart]; first | omega | (intro b h1 h2; omega) | (intro b h1 h2 h3; omega))))
  have hz2 : w1.heap.size ≤ w2.heap.size := by have := ho.size; first | omega | (simp at this; omega)
  clear HF3 ho hr
  go_wp2_with fail
  refine (eat_not R l ⟨#[123]⟩ false _ (HF4.out.blk 0 rfl) N2.out).mono ?_
  rintro e w3 ⟨rfl, hr, ho⟩
  have HF5 := Lib.hid (HF4.out.call 0 ho hr (by refine ⟨?_, ?_, ?_, trivial⟩ <;> (simp only [Fq.apart]; first | omega | (intro b h1 h2; omega) | (intro b h1 h2 h3; omega))))
  have hz3 : w2.heap.size ≤ w3.heap.size := by have := ho.size; first | omega | (simp at this; omega)
  clear HF4 ho hr
  go_wp2_with fail
  refine (eat_not R l ⟨#[60, 60]⟩ false _ (HF5.out.blk 0 rfl) N3.out).mono ?_
  rintro e w4 ⟨rfl, hr, ho⟩
  have HF6 := Lib.hid (HF5.out.call 0 ho hr (by refine ⟨?_, ?_, ?_, trivial⟩ <;> (simp only [Fq.apart]; first | omega | (intro b h1 h2; omega) | (intro b h1 h2 h3; omega))))
  have hz4 : w3.heap.size ≤ w4.heap.size := by have := ho.size; first | omega | (simp at this; omega)
  clear HF5 ho hr
  go_wp2_with fail
  refine (eat_not R l ⟨#[60]⟩ false _ (HF6.out.blk 0 rfl) N4.out).mono ?_
  rintro e w5 ⟨rfl, hr, ho⟩
  have HF7 := Lib.hid (HF6.out.call 0 ho hr (by refine ⟨?_, ?_, ?_, trivial⟩ <;> (simp only [Fq.apart]; first | omega | (intro b h1 h2; omega) | (intro b h1 h2 h3; omega))))
  have hz5 : w4.heap.size ≤ w5.heap.size := by have := ho.size; first | omega | (simp at this; omega)
  clear HF6 ho hr
  go_wp2_with fail
  refine (eat_not R l ⟨#[35, 82, 101, 102, 60]⟩ false _ (HF7.out.blk 0 rfl) N5.out).mono ?_
  rintro e w6 ⟨rfl, hr, ho⟩
  have HF8 := Lib.hid (HF7.out.call 0 ho hr (by refine ⟨?_, ?_, ?_, trivial⟩ <;> (simp only [Fq.apart]; first | omega | (intro b h1 h2; omega) | (intro b h1 h2 h3; omega))))
  have hz6 : w5.heap.size ≤ w6.heap.size := by have := ho.size; first | omega | (simp at this; omega)
  clear HF7 ho hr
  go_wp2_with fail
  refine (eat_not R l ⟨#[35, 70, 117, 110, 60]⟩ false _ (HF8.out.blk 0 rfl) N6.out).mono ?_
  rintro e w7 ⟨rfl, hr, ho⟩
  have HF9 := Lib.hid (HF8.out.call 0 ho hr (by refine ⟨?_, ?_, ?_, trivial⟩ <;> (simp only [Fq.apart]; first | omega | (intro b h1 h2; omega) | (intro b h1 h2 h3; omega))))
  have hz7 : w6.heap.size ≤ w7.heap.size := by have := ho.size; first | omega | (simp at this; omega)
  clear HF8 ho hr
  go_wp2_with fail
  refine (eat_yes2 R l ⟨#[102, 117, 110, 32]⟩ _ (HF9.out.blk 0 rfl) HY.out).mono ?_
  rintro e w8 ⟨rfl, hr, ho⟩
  have HF10 := Lib.hid (HF9.out.call 0 ho hr (by refine ⟨?_, ?_, ?_, trivial⟩ <;> (simp only [Fq.apart]; first | omega | (intro b h1 h2; omega) | (intro b h1 h2 h3; omega))))
  have hz8 : w7.heap.size ≤ w8.heap.size := by have := ho.size; first | omega | (simp at this; omega)
  clear HF9 ho hr
  have HK1 := Lib.hid (show ((l.drop 4)).length ≤ l.length from by rw [List.length_drop]; omega)
  have HK2 := Lib.hid (show (mL false ((l.drop 4).dropWhile letC) [58]).length ≤ l.length from Nat.le_trans (mL_len _ _ _) (Nat.le_trans (dropW_len _ _) HK1.out))
  have HK4 := Lib.hid (show (mL (mB false ((l.drop 4).dropWhile letC) [58]) ((mL false ((l.drop 4).dropWhile letC) [58]).dropWhile letC) [47]).length ≤ l.length from Nat.le_trans (mL_len _ _ _) (Nat.le_trans (dropW_len _ _) HK2.out))
  go_wp2_with fail
  refine (rName_any R (l.drop 4) _ _ (HF10.out.blk 0 rfl) (Nat.le_trans HK1.out (Nat.le_trans hl (by decide)))).mono ?_
  rintro e w9 ⟨rfl, hr, ho⟩
  have HF11 := Lib.hid (HF10.out.call 0 ho hr (by refine ⟨?_, ?_, ?_, trivial⟩ <;> (simp only [Fq.apart]; first | omega | (intro b h1 h2; omega) | (intro b h1 h2 h3; omega))))
  have hz9 : w8.heap.size ≤ w9.heap.size := by have := ho.size; first | omega | (simp at this; omega)
  clear HF10 ho hr
  obtain ⟨c0, c1, c2, c3, c4, c5, c6, c7, c8, fr⟩ := nine_cells (HF11.out.blk 1 rfl)
  have hb0 := lt_of_block (HF11.out.blk 1 rfl)
  go_wp2_with fail
  clear c0 c1 c2 c3 c4 c5 c6 c7 c8 fr hb0
  have HF12 := Lib.hid (HF11.out.put 1 rfl (by refine ⟨?_, ?_, ?_, trivial⟩ <;> (simp only [Fq.apart]; first | omega | (intro b h1 h2; omega) | (intro b h1 h2 h3; omega))) (.int .i64 5) (.int .i64 0) (.int .i64 0) (.string (ba ((l.drop 4).takeWhile letC))) (.string ⟨#[]⟩) (.int .i64 0) (.slice none 0 0) (.string ⟨#[]⟩) (.int .i64 0))
  clear HF11
  refine (rMust_m R _ _ _ _ (HF12.out.blk 1 rfl)).mono ?_
  rintro e w10 ⟨rfl, hr, ho⟩
  have HF13 := Lib.hid (HF12.out.call 1 ho hr (by refine ⟨?_, ?_, ?_, trivial⟩ <;> (simp only [Fq.apart]; first | omega | (intro b h1 h2; omega) | (intro b h1 h2 h3; omega))))
  have hz10 : w9.heap.size ≤ w10.heap.size := by have := ho.size; first | omega | (simp at this; omega)
  clear HF12 ho hr
  go_wp2_with fail
  refine (rName_any R (mL false ((l.drop 4).dropWhile letC) [58]) _ _ (HF13.out.blk 0 rfl) (Nat.le_trans HK2.out (Nat.le_trans hl (by decide)))).mono ?_
  rintro e w11 ⟨rfl, hr, ho⟩
  have HF14 := Lib.hid (HF13.out.call 0 ho hr (by refine ⟨?_, ?_, ?_, trivial⟩ <;> (simp only [Fq.apart]; first | omega | (intro b h1 h2; omega) | (intro b h1 h2 h3; omega))))
  have hz11 : w10.heap.size ≤ w11.heap.size := by have := ho.size; first | omega | (simp at this; omega)
  clear HF13 ho hr
  obtain ⟨c0, c1, c2, c3, c4, c5, c6, c7, c8, fr⟩ := nine_cells (HF14.out.blk 1 rfl)
  have hb0 := lt_of_block (HF14.out.blk 1 rfl)
  go_wp2_with fail
  clear c0 c1 c2 c3 c4 c5 c6 c7 c8 fr hb0
  have HF15 := Lib.hid (HF14.out.set (c := [.int .i64 5, .int .i64 0, .int .i64 0, .string (ba ((l.drop 4).takeWhile letC)), .string ⟨#[]⟩, .int .i64 0, .slice none 0 0, .string ⟨#[]⟩, .int .i64 0]) 1 rfl 4 (.string (ba ((mL false ((l.drop 4).dropWhile letC) [58]).takeWhile letC))) (by refine ⟨?_, ?_, ?_, trivial⟩ <;> (simp only [Fq.apart]; first | omega | (intro b h1 h2; omega) | (intro b h1 h2 h3; omega))))
  clear HF14
  refine (rMust_m R _ _ _ _ (HF15.out.blk 1 rfl)).mono ?_
  rintro e w12 ⟨rfl, hr, ho⟩
  have HF16 := Lib.hid (HF15.out.call 1 ho hr (by refine ⟨?_, ?_, ?_, trivial⟩ <;> (simp only [Fq.apart]; first | omega | (intro b h1 h2; omega) | (intro b h1 h2 h3; omega))))
  have hz12 : w11.heap.size ≤ w12.heap.size := by have := ho.size; first | omega | (simp at this; omega)
  clear HF15 ho hr
  go_wp2_with fail
  refine (rNumber_any R (mL (mB false ((l.drop 4).dropWhile letC) [58]) ((mL false ((l.drop 4).dropWhile letC) [58]).dropWhile letC) [47]) _ _ (HF16.out.blk 0 rfl) (Nat.le_trans HK4.out (Nat.le_trans hl (by decide)))).mono ?_
  rintro e w13 ⟨g, x, rfl, hg, hn, hr, ho⟩
  have HF17 := Lib.hid (HF16.out.call 0 ho hr (by refine ⟨?_, ?_, ?_, trivial⟩ <;> (simp only [Fq.apart]; first | omega | (intro b h1 h2; omega) | (intro b h1 h2 h3; omega))))
  have hz13 : w12.heap.size ≤ w13.heap.size := by have := ho.size; first | omega | (simp at this; omega)
  clear HF16 ho hr
  have HN1 := Lib.hid hn
  clear hn hg
  obtain ⟨c0, c1, c2, c3, c4, c5, c6, c7, c8, fr⟩ := nine_cells (HF17.out.blk 1 rfl)
  have hb0 := lt_of_block (HF17.out.blk 1 rfl)
  obtain ⟨d0, d1, d2, d3, d4, d5, d6, d7, d8, fs⟩ := nine_cells (HF17.out.blk 2 rfl)
  have hb1 := lt_of_block (HF17.out.blk 2 rfl)
  go_wp2_with fail
  have HF18 := Lib.hid (HF17.out.set (c := [.int .i64 5, .int .i64 0, .int .i64 0, .string (ba ((l.drop 4).takeWhile letC)), .string (ba ((mL false ((l.drop 4).dropWhile letC) [58]).takeWhile letC)), .int .i64 0, .slice none 0 0, .string ⟨#[]⟩, .int .i64 0]) 1 rfl 5 (.int .i64 g) (by refine ⟨?_, ?_, ?_, trivial⟩ <;> (simp only [Fq.apart]; first | omega | (intro b h1 h2; omega) | (intro b h1 h2 h3; omega))))
  clear HF17
  have HF19 := Lib.hid (HF18.out.put 2 rfl (by refine ⟨?_, ?_, ?_, trivial⟩ <;> (simp only [Fq.apart]; first | omega | (intro b h1 h2; omega) | (intro b h1 h2 h3; omega))) (.int .i64 5) (.int .i64 0) (.int .i64 0) (.string (ba ((l.drop 4).takeWhile letC))) (.string (ba ((mL false ((l.drop 4).dropWhile letC) [58]).takeWhile letC))) (.int .i64 g) (.slice none 0 0) (.string ⟨#[]⟩) (.int .i64 0))
  clear HF18
  refine bodyPost_ret (results_one rfl _ _ _ _ _ _ _ _ _ _ _ _ rfl (HF19.out.blk 0 rfl)) rfl ?_
  exact ⟨⟨5, 0, 0, ba ((l.drop 4).takeWhile letC), ba ((mL false ((l.drop 4).dropWhile letC) [58]).takeWhile letC), g, ⟨#[]⟩, 0⟩, .nil, none, 0, (mL (mB false ((l.drop 4).dropWhile letC) [58]) ((mL false ((l.drop 4).dropWhile letC) [58]).dropWhile letC) [47]).dropWhile digC, (mB (mB false ((l.drop 4).dropWhile letC) [58]) ((mL false ((l.drop 4).dropWhile letC) [58]).dropWhile letC) [47] || x), rfl, RdS.nil _ _ _, (HF19.out.blk 2 rfl), (HF19.out.base 3 rfl), Nat.le_trans (dropW_len _ _) HK4.out, (fun h => by cases h), (fun _ => by unfold pSign; rw [if_neg (by simpa using N0.out), if_neg (by simpa using N1.out), if_neg (by simpa using N2.out), if_neg (by simpa using N3.out), if_neg (by simpa using N4.out), if_neg (by simpa using N5.out), if_neg (by simpa using N6.out), if_pos HY.out]; exact exp_law _ g x HN1.out)⟩
set_option maxRecDepth 100000 in
set_option maxHeartbeats 8000000 in
theorem s_fun (R : Nat) (l : List UInt8) (w : World) (hr : Rr R l false w) (hl : l.length ≤ 1000000) (n0 : (!false && hp l [91, 93]) = false) (n1 : (!false && hp l [91]) = false) (n2 : (!false && hp l [123]) = false) (n3 : (!false && hp l [60, 60]) = false) (n4 : (!false && hp l [60]) = false) (n5 : (!false && hp l [35, 82, 101, 102, 60]) = false) (hy : hp l [35, 70, 117, 110, 60] = true) (j d : Nat) (hT : TermCr j d) (hj : j ≤ 1000000) (hlj : l.length ≤ j) :
    Calls Tryz.prog 30 #[.pointer (some ⟨R, 0, none⟩)] w (TQ (pSign false (pTerm false j d) j l) R l false w) := by
  have hRw : R < w.heap.size := lt_of_block hr
  have N0 := Lib.hid n0
  clear n0
  have N1 := Lib.hid n1
  clear n1
  have N2 := Lib.hid n2
  clear n2
  have N3 := Lib.hid n3
  clear n3
  have N4 := Lib.hid n4
  clear n4
  have N5 := Lib.hid n5
  clear n5
  have hl1 : 1 ≤ l.length := by have h1 := hp_len hy; simp only [List.length_cons, List.length_nil] at h1; omega
  have HY := Lib.hid hy
  clear hy
  have HT := Lib.hid hT
  clear hT
  have HJ := Lib.hid hj
  clear hj
  have HF0 := Lib.hid (show Bq w [.blk R #[.string (ba (l)), .bool (false)] 60, .base (fun b => b = R) w] from ⟨hr, Ch.refl _ _, trivial⟩)
  clear hr
  go_enter Tryz.func30, Tryz.ntmps30
  go_wp2_with fail
  have HF1 := Lib.hid (HF0.out.box #[.int .i64 0, .int .i64 0, .int .i64 0, .string ⟨#[]⟩, .string ⟨#[]⟩, .int .i64 0, .slice none 0 0, .string ⟨#[]⟩, .int .i64 0] 24 (n := w.heap.size) (by rfl))
  clear HF0
  have HF2 := Lib.hid (HF1.out.box #[.int .i64 0, .int .i64 0, .int .i64 0, .string ⟨#[]⟩, .string ⟨#[]⟩, .int .i64 0, .slice none 0 0, .string ⟨#[]⟩, .int .i64 0] 24 (n := w.heap.size + 1) (by simp))
  clear HF1
  refine (eat_not R l ⟨#[91, 93]⟩ false _ (HF2.out.blk 2 rfl) N0.out).mono ?_
  rintro e w1 ⟨rfl, hr, ho⟩
  have HF3 := Lib.hid (HF2.out.call 2 ho hr (by refine ⟨?_, ?_, ?_, trivial⟩ <;> (simp only [Fq.apart]; first | omega | (intro b h1 h2; omega) | (intro b h1 h2 h3; omega))))
  have hz1 : w.heap.size + 2 ≤ w1.heap.size := by have := ho.size; first | omega | (simp at this; omega)
  clear HF2 ho hr
  go_wp2_with fail
  refine (eat_not R l ⟨#[91]⟩ false _ (HF3.out.blk 0 rfl) N1.out).mono ?_
  rintro e w2 ⟨rfl, hr, ho⟩
  have HF4 := Lib.hid (HF3.out.call 0 ho hr (by refine ⟨?_, ?_, ?_, trivial⟩ <;> (simp only [Fq.apart]; first | omega | (intro b h1 h2; omega) | (intro b h1 h2 h3; omega))))
  have hz2 : w1.heap.size ≤ w2.heap.size := by have := ho.size; first | omega | (simp at this; omega)
  clear HF3 ho hr
  go_wp2_with fail
  refine (eat_not R l ⟨#[123]⟩ false _ (HF4.out.blk 0 rfl) N2.out).mono ?_
  rintro e w3 ⟨rfl, hr, ho⟩
  have HF5 := Lib.hid (HF4.out.call 0 ho hr (by refine ⟨?_, ?_, ?_, trivial⟩ <;> (simp only [Fq.apart]; first | omega | (intro b h1 h2; omega) | (intro b h1 h2 h3; omega))))
  have hz3 : w2.heap.size ≤ w3.heap.size := by have := ho.size; first | omega | (simp at this; omega)
  clear HF4 ho hr
  go_wp2_with fail
  refine (eat_not R l ⟨#[60, 60]⟩ false _ (HF5.out.blk 0 rfl) N3.out).mono ?_
  rintro e w4 ⟨rfl, hr, ho⟩
  have HF6 := Lib.hid (HF5.out.call 0 ho hr (by refine ⟨?_, ?_, ?_, trivial⟩ <;> (simp only [Fq.apart]; first | omega | (intro b h1 h2; omega) | (intro b h1 h2 h3; omega))))
  have hz4 : w3.heap.size ≤ w4.heap.size := by have := ho.size; first | omega | (simp at this; omega)
  clear HF5 ho hr
  go_wp2_with fail
  refine (eat_not R l ⟨#[60]⟩ false _ (HF6.out.blk 0 rfl) N4.out).mono ?_
  rintro e w5 ⟨rfl, hr, ho⟩
  have HF7 := Lib.hid (HF6.out.call 0 ho hr (by refine ⟨?_, ?_, ?_, trivial⟩ <;> (simp only [Fq.apart]; first | omega | (intro b h1 h2; omega) | (intro b h1 h2 h3; omega))))
  have hz5 : w4.heap.size ≤ w5.heap.size := by have := ho.size; first | omega | (simp at this; omega)
  clear HF6 ho hr
  go_wp2_with fail
  refine (eat_not R l ⟨#[35, 82, 101, 102, 60]⟩ false _ (HF7.out.blk 0 rfl) N5.out).mono ?_
  rintro e w6 ⟨rfl, hr, ho⟩
  have HF8 := Lib.hid (HF7.out.call 0 ho hr (by refine ⟨?_, ?_, ?_, trivial⟩ <;> (simp only [Fq.apart]; first | omega | (intro b h1 h2; omega) | (intro b h1 h2 h3; omega))))
  have hz6 : w5.heap.size ≤ w6.heap.size := by have := ho.size; first | omega | (simp at this; omega)
  clear HF7 ho hr
  go_wp2_with fail
  refine (eat_yes2 R l ⟨#[35, 70, 117, 110, 60]⟩ _ (HF8.out.blk 0 rfl) HY.out).mono ?_
  rintro e w7 ⟨rfl, hr, ho⟩
  have HF9 := Lib.hid (HF8.out.call 0 ho hr (by refine ⟨?_, ?_, ?_, trivial⟩ <;> (simp only [Fq.apart]; first | omega | (intro b h1 h2; omega) | (intro b h1 h2 h3; omega))))
  have hz7 : w6.heap.size ≤ w7.heap.size := by have := ho.size; first | omega | (simp at this; omega)
  clear HF8 ho hr
  go_wp2_with fail
  refine (rMarked_any 4 R _ false _ (HF9.out.blk 0 rfl) (by rw [List.length_drop]; omega)).mono ?_
  rintro e w8 ⟨nm, g, i, l1, b1, rfl, hr, ho, hsl, -, hres⟩
  have HRes := Lib.hid (hres rfl)
  clear hres
  rw [List.length_drop] at hsl
  have HF10 := Lib.hid (HF9.out.call 0 ho hr (by refine ⟨?_, ?_, ?_, trivial⟩ <;> (simp only [Fq.apart]; first | omega | (intro b h1 h2; omega) | (intro b h1 h2 h3; omega))))
  have hz8 : w7.heap.size ≤ w8.heap.size := by have := ho.size; first | omega | (simp at this; omega)
  clear HF9 ho hr
  obtain ⟨c0, c1, c2, c3, c4, c5, c6, c7, c8, fr⟩ := nine_cells (HF10.out.blk 1 rfl)
  have hb0 := lt_of_block (HF10.out.blk 1 rfl)
  go_wp2_with fail
  clear c0 c1 c2 c3 c4 c5 c6 c7 c8 fr hb0
  have HF11 := Lib.hid (HF10.out.put 1 rfl (by refine ⟨?_, ?_, ?_, trivial⟩ <;> (simp only [Fq.apart]; first | omega | (intro b h1 h2; omega) | (intro b h1 h2 h3; omega))) (.int .i64 4) (.int .i64 i) (.int .i64 g) (.string nm) (.string ⟨#[]⟩) (.int .i64 0) (.slice none 0 0) (.string ⟨#[]⟩) (.int .i64 0))
  clear HF10
  have HK2 := Lib.hid (show (mL b1 l1 [47]).length ≤ l.length - 5 from Nat.le_trans (mL_len _ _ _) hsl)
  refine (rMust_m R _ _ _ _ (HF11.out.blk 1 rfl)).mono ?_
  rintro e w9 ⟨rfl, hr, ho⟩
  have HF12 := Lib.hid (HF11.out.call 1 ho hr (by refine ⟨?_, ?_, ?_, trivial⟩ <;> (simp only [Fq.apart]; first | omega | (intro b h1 h2; omega) | (intro b h1 h2 h3; omega))))
  have hz9 : w8.heap.size ≤ w9.heap.size := by have := ho.size; first | omega | (simp at this; omega)
  clear HF11 ho hr
  go_wp2_with fail
  refine (rNumber_any R (mL b1 l1 [47]) _ _ (HF12.out.blk 0 rfl) (Nat.le_trans HK2.out (by omega))).mono ?_
  rintro e w10 ⟨n, x, rfl, hg, hn, hr, ho⟩
  have HF13 := Lib.hid (HF12.out.call 0 ho hr (by refine ⟨?_, ?_, ?_, trivial⟩ <;> (simp only [Fq.apart]; first | omega | (intro b h1 h2; omega) | (intro b h1 h2 h3; omega))))
  have hz10 : w9.heap.size ≤ w10.heap.size := by have := ho.size; first | omega | (simp at this; omega)
  clear HF12 ho hr
  have HN1 := Lib.hid hn
  clear hn hg
  obtain ⟨c0, c1, c2, c3, c4, c5, c6, c7, c8, fr⟩ := nine_cells (HF13.out.blk 1 rfl)
  have hb0 := lt_of_block (HF13.out.blk 1 rfl)
  go_wp2_with fail
  clear c0 c1 c2 c3 c4 c5 c6 c7 c8 fr hb0
  have HF14 := Lib.hid (HF13.out.set (c := [.int .i64 4, .int .i64 i, .int .i64 g, .string nm, .string ⟨#[]⟩, .int .i64 0, .slice none 0 0, .string ⟨#[]⟩, .int .i64 0]) 1 rfl 5 (.int .i64 n) (by refine ⟨?_, ?_, ?_, trivial⟩ <;> (simp only [Fq.apart]; first | omega | (intro b h1 h2; omega) | (intro b h1 h2 h3; omega))))
  clear HF13
  have HK4 := Lib.hid (show (mL (mB b1 l1 [47] || x) ((mL b1 l1 [47]).dropWhile digC) [62, 123]).length ≤ l.length - 5 from Nat.le_trans (mL_len _ _ _) (Nat.le_trans (dropW_len _ _) HK2.out))
  refine (rMust_m R _ _ _ _ (HF14.out.blk 1 rfl)).mono ?_
  rintro e w11 ⟨rfl, hr, ho⟩
  have HF15 := Lib.hid (HF14.out.call 1 ho hr (by refine ⟨?_, ?_, ?_, trivial⟩ <;> (simp only [Fq.apart]; first | omega | (intro b h1 h2; omega) | (intro b h1 h2 h3; omega))))
  have hz11 : w10.heap.size ≤ w11.heap.size := by have := ho.size; first | omega | (simp at this; omega)
  clear HF14 ho hr
  go_wp2_with fail
  refine (rTerms_any j d HT.out R (mL (mB b1 l1 [47] || x) ((mL b1 l1 [47]).dropWhile digC) [62, 123]) ⟨#[125]⟩ _ _ (HF15.out.blk 0 rfl) (Nat.lt_of_le_of_lt HK4.out (by omega)) HJ.out (by decide)).mono ?_
  rintro e w12 ⟨z, v, l5, b5, rfl, hot, -, hr, ho, hsl5, hbb, hres⟩
  have HR5 := Lib.hid (show mB (mB b1 l1 [47] || x) ((mL b1 l1 [47]).dropWhile digC) [62, 123] = false → pList (pTerm false j d) j [[125]] (mL (mB b1 l1 [47] || x) ((mL b1 l1 [47]).dropWhile digC) [62, 123]) = if b5 then none else some (z, l5) from hres)
  have HBB := Lib.hid hbb
  have HK5 := Lib.hid (Nat.le_trans hsl5 HK4.out)
  clear hres hbb hsl5
  have HT1 := Lib.hid (show OwnT (w.heap.size + 2) v z w12 from by
    obtain ⟨xs, h1, h2⟩ := hot
    have hle : w.heap.size + 2 ≤ w11.heap.size := by omega
    exact ⟨xs, ⟨h1.1, h1.2.imp id fun ⟨g, cap, cur, e1, hg, rest⟩ => ⟨g, cap, cur, e1, by omega, rest⟩⟩, h2.keep2 (fun b hb => ⟨by have := hb.1; omega, hb.2⟩) fun _ _ _ => rfl⟩)
  clear hot
  have HF16 := Lib.hid (HF15.out.call 0 ho hr (by refine ⟨?_, ?_, ?_, trivial⟩ <;> (simp only [Fq.apart]; first | omega | (intro b h1 h2; omega) | (intro b h1 h2 h3; omega))))
  have hz12 : w11.heap.size ≤ w12.heap.size := by have := ho.size; first | omega | (simp at this; omega)
  clear HF15 ho hr
  obtain ⟨ao, ca, rfl⟩ := HT1.out.rds.slice
  obtain ⟨c0, c1, c2, c3, c4, c5, c6, c7, c8, fr⟩ := nine_cells (HF16.out.blk 1 rfl)
  have hb0 := lt_of_block (HF16.out.blk 1 rfl)
  go_wp2_with fail
  clear c0 c1 c2 c3 c4 c5 c6 c7 c8 fr hb0
  have HT2 := Lib.hid (HT1.out.ch (Ch.of_set w12 (w.heap.size + 1) 6 (.slice ao z.len ca)) fun b h1 h2 => by omega)
  clear HT1
  have HF17 := Lib.hid (HF16.out.set (c := [.int .i64 4, .int .i64 i, .int .i64 g, .string nm, .string ⟨#[]⟩, .int .i64 n, .slice none 0 0, .string ⟨#[]⟩, .int .i64 0]) 1 rfl 6 (.slice ao z.len ca) (by refine ⟨?_, ?_, ?_, trivial⟩ <;> (simp only [Fq.apart]; first | omega | (intro b h1 h2; omega) | (intro b h1 h2 h3; omega))))
  clear HF16
  refine (rMust_m R l5 ⟨#[125]⟩ b5 _ (HF17.out.blk 1 rfl)).mono ?_
  rintro e w13 ⟨rfl, hr, ho⟩
  have HT3 := Lib.hid (HT2.out.ch ho fun b h1 h2 => by omega)
  clear HT2
  have HF18 := Lib.hid (HF17.out.call 1 ho hr (by refine ⟨?_, ?_, ?_, trivial⟩ <;> (simp only [Fq.apart]; first | omega | (intro b h1 h2; omega) | (intro b h1 h2 h3; omega))))
  have hz13 : w12.heap.size ≤ w13.heap.size := by have := ho.size; first | omega | (simp at this; omega)
  clear HF17 ho hr
  obtain ⟨c0, c1, c2, c3, c4, c5, c6, c7, c8, -⟩ := nine_cells (HF18.out.blk 1 rfl)
  obtain ⟨d0, d1, d2, d3, d4, d5, d6, d7, d8, fs⟩ := nine_cells (HF18.out.blk 2 rfl)
  have hb1 := lt_of_block (HF18.out.blk 2 rfl)
  go_wp2_with fail
  have ho9 := outs_nine w13 w.heap.size (.int .i64 4) (.int .i64 i) (.int .i64 g) (.string nm) (.string ⟨#[]⟩) (.int .i64 n) (.slice ao z.len ca) (.string ⟨#[]⟩) (.int .i64 0)
  have HT9 := Lib.hid (HT3.out.ch (C := fun b => b = w.heap.size) ⟨ho9.os, ho9.tape, ho9.output, ho9.size, fun j hj hc => ho9.block j hj (by omega)⟩ fun b h1 h2 => by omega)
  clear ho9
  have HF19 := Lib.hid (HF18.out.put 2 rfl (by refine ⟨?_, ?_, ?_, trivial⟩ <;> (simp only [Fq.apart]; first | omega | (intro b h1 h2; omega) | (intro b h1 h2 h3; omega))) (.int .i64 4) (.int .i64 i) (.int .i64 g) (.string nm) (.string ⟨#[]⟩) (.int .i64 n) (.slice ao z.len ca) (.string ⟨#[]⟩) (.int .i64 0))
  clear HF18
  refine bodyPost_ret (results_one rfl _ _ _ _ _ _ _ _ _ _ _ _ rfl (HF19.out.blk 0 rfl)) rfl ?_
  exact ⟨⟨4, i, g, nm, ⟨#[]⟩, n, ⟨#[]⟩, 0⟩, z, ao, ca, mL b5 l5 [125], mB b5 l5 [125], rfl, HT9.out.rds.less (by omega), (HF19.out.blk 1 rfl), (HF19.out.base 3 rfl), Nat.le_trans (mL_len _ _ _) (Nat.le_trans HK5.out (by omega)), (fun h => by cases h), (fun _ => by unfold pSign; rw [if_neg (by simpa using N0.out), if_neg (by simpa using N1.out), if_neg (by simpa using N2.out), if_neg (by simpa using N3.out), if_neg (by simpa using N4.out), if_neg (by simpa using N5.out), if_pos HY.out]; exact fun_law HRes.out HN1.out HBB.out HR5.out)⟩
end Go.Proofs.YtgfodedmcjkmaaaGreatDoor
namespace Go.Proofs.YtgfodedmcjkmaaaGreatDoor
open Go.RowKit Go.Proofs.BitsM
set_option maxRecDepth 100000 in
set_option maxHeartbeats 8000000 in
theorem s_int (R : Nat) (a : UInt8) (t : List UInt8) (bad : Bool) (w : World) (hr : Rr R (a :: t) bad w) (hl : (a :: t).length ≤ 1000000) (n0 : (!bad && hp (a :: t) [91, 93]) = false) (n1 : (!bad && hp (a :: t) [91]) = false) (n2 : (!bad && hp (a :: t) [123]) = false) (n3 : (!bad && hp (a :: t) [60, 60]) = false) (n4 : (!bad && hp (a :: t) [60]) = false) (n5 : (!bad && hp (a :: t) [35, 82, 101, 102, 60]) = false) (n6 : (!bad && hp (a :: t) [35, 70, 117, 110, 60]) = false) (n7 : (!bad && hp (a :: t) [102, 117, 110, 32]) = false) (hd : digC a = true) :
    Calls Tryz.prog 30 #[.pointer (some ⟨R, 0, none⟩)] w (TQ (pPlain false (a :: t)) R (a :: t) bad w) := by
  have hRw : R < w.heap.size := lt_of_block hr
  have N0 := Lib.hid n0
  clear n0
  have N1 := Lib.hid n1
  clear n1
  have N2 := Lib.hid n2
  clear n2
  have N3 := Lib.hid n3
  clear n3
  have N4 := Lib.hid n4
  clear n4
  have N5 := Lib.hid n5
  clear n5
  have N6 := Lib.hid n6
  clear n6
  have N7 := Lib.hid n7
  clear n7
  have HD := Lib.hid hd
  clear hd
  have HF0 := Lib.hid (show Bq w [.blk R #[.string (ba (a :: t)), .bool (bad)] 60, .base (fun b => b = R) w] from ⟨hr, Ch.refl _ _, trivial⟩)
  clear hr
  go_enter Tryz.func30, Tryz.ntmps30
  go_wp2_with fail
  have HF1 := Lib.hid (HF0.out.box #[.int .i64 0, .int .i64 0, .int .i64 0, .string ⟨#[]⟩, .string ⟨#[]⟩, .int .i64 0, .slice none 0 0, .string ⟨#[]⟩, .int .i64 0] 24 (n := w.heap.size) (by rfl))
  clear HF0
  have HF2 := Lib.hid (HF1.out.box #[.int .i64 0, .int .i64 0, .int .i64 0, .string ⟨#[]⟩, .string ⟨#[]⟩, .int .i64 0, .slice none 0 0, .string ⟨#[]⟩, .int .i64 0] 24 (n := w.heap.size + 1) (by simp))
  clear HF1
  refine (eat_not R (a :: t) ⟨#[91, 93]⟩ bad _ (HF2.out.blk 2 rfl) N0.out).mono ?_
  rintro e w1 ⟨rfl, hr, ho⟩
  have HF3 := Lib.hid (HF2.out.call 2 ho hr (by refine ⟨?_, ?_, ?_, trivial⟩ <;> (simp only [Fq.apart]; first | omega | (intro b h1 h2; omega) | (intro b h1 h2 h3; omega))))
  have hz1 : w.heap.size + 2 ≤ w1.heap.size := by have := ho.size; first | omega | (simp at this; omega)
  clear HF2 ho hr
  go_wp2_with fail
  refine (eat_not R (a :: t) ⟨#[91]⟩ bad _ (HF3.out.blk 0 rfl) N1.out).mono ?_
  rintro e w2 ⟨rfl, hr, ho⟩
  have HF4 := Lib.hid (HF3.out.call 0 ho hr (by refine ⟨?_, ?_, ?_, trivial⟩ <;> (simp only [Fq.apart]; first | omega | (intro b h1 h2; omega) | (intro b h1 h2 h3; omega))))
  have hz2 : w1.heap.size ≤ w2.heap.size := by have := ho.size; first | omega | (simp at this; omega)
  clear HF3 ho hr
  go_wp2_with fail
  refine (eat_not R (a :: t) ⟨#[123]⟩ bad _ (HF4.out.blk 0 rfl) N2.out).mono ?_
  rintro e w3 ⟨rfl, hr, ho⟩
  have HF5 := Lib.hid (HF4.out.call 0 ho hr (by refine ⟨?_, ?_, ?_, trivial⟩ <;> (simp only [Fq.apart]; first | omega | (intro b h1 h2; omega) | (intro b h1 h2 h3; omega))))
  have hz3 : w2.heap.size ≤ w3.heap.size := by have := ho.size; first | omega | (simp at this; omega)
  clear HF4 ho hr
  go_wp2_with fail
  refine (eat_not R (a :: t) ⟨#[60, 60]⟩ bad _ (HF5.out.blk 0 rfl) N3.out).mono ?_
  rintro e w4 ⟨rfl, hr, ho⟩
  have HF6 := Lib.hid (HF5.out.call 0 ho hr (by refine ⟨?_, ?_, ?_, trivial⟩ <;> (simp only [Fq.apart]; first | omega | (intro b h1 h2; omega) | (intro b h1 h2 h3; omega))))
  have hz4 : w3.heap.size ≤ w4.heap.size := by have := ho.size; first | omega | (simp at this; omega)
  clear HF5 ho hr
  go_wp2_with fail
  refine (eat_not R (a :: t) ⟨#[60]⟩ bad _ (HF6.out.blk 0 rfl) N4.out).mono ?_
  rintro e w5 ⟨rfl, hr, ho⟩
  have HF7 := Lib.hid (HF6.out.call 0 ho hr (by refine ⟨?_, ?_, ?_, trivial⟩ <;> (simp only [Fq.apart]; first | omega | (intro b h1 h2; omega) | (intro b h1 h2 h3; omega))))
  have hz5 : w4.heap.size ≤ w5.heap.size := by have := ho.size; first | omega | (simp at this; omega)
  clear HF6 ho hr
  go_wp2_with fail
  refine (eat_not R (a :: t) ⟨#[35, 82, 101, 102, 60]⟩ bad _ (HF7.out.blk 0 rfl) N5.out).mono ?_
  rintro e w6 ⟨rfl, hr, ho⟩
  have HF8 := Lib.hid (HF7.out.call 0 ho hr (by refine ⟨?_, ?_, ?_, trivial⟩ <;> (simp only [Fq.apart]; first | omega | (intro b h1 h2; omega) | (intro b h1 h2 h3; omega))))
  have hz6 : w5.heap.size ≤ w6.heap.size := by have := ho.size; first | omega | (simp at this; omega)
  clear HF7 ho hr
  go_wp2_with fail
  refine (eat_not R (a :: t) ⟨#[35, 70, 117, 110, 60]⟩ bad _ (HF8.out.blk 0 rfl) N6.out).mono ?_
  rintro e w7 ⟨rfl, hr, ho⟩
  have HF9 := Lib.hid (HF8.out.call 0 ho hr (by refine ⟨?_, ?_, ?_, trivial⟩ <;> (simp only [Fq.apart]; first | omega | (intro b h1 h2; omega) | (intro b h1 h2 h3; omega))))
  have hz7 : w6.heap.size ≤ w7.heap.size := by have := ho.size; first | omega | (simp at this; omega)
  clear HF8 ho hr
  go_wp2_with fail
  refine (eat_not R (a :: t) ⟨#[102, 117, 110, 32]⟩ bad _ (HF9.out.blk 0 rfl) N7.out).mono ?_
  rintro e w8 ⟨rfl, hr, ho⟩
  have HF10 := Lib.hid (HF9.out.call 0 ho hr (by refine ⟨?_, ?_, ?_, trivial⟩ <;> (simp only [Fq.apart]; first | omega | (intro b h1 h2; omega) | (intro b h1 h2 h3; omega))))
  have hz8 : w7.heap.size ≤ w8.heap.size := by have := ho.size; first | omega | (simp at this; omega)
  clear HF9 ho hr
  have hin := Lib.hid fun W => (in_any a digL (by decide) W).mono fun e w' h => (show e = .returned (.bool true) ∧ w' = W by rw [digL_is a, HD.out] at h; exact h)
  have s1 : (ba (a :: t)).size = t.length + 1 := by rw [ba_size]; rfl
  have h00 : 0 < (ba (a :: t)).size := by omega
  have hX : (ba (a :: t))[0]'h00 = a := rfl
  have k0 := cells_of (HF10.out.blk 0 rfl) 0
  have k0 : w8.cell? ⟨R, 0, none⟩ = some (.string (ba (a :: t))) := k0
  go_wp2_with fail
  refine (hin.out _).mono ?_
  rintro e W0 ⟨rfl, hw0⟩
  rw [hw0]
  clear hw0
  go_wp2_with fail
  clear k0
  refine (rNumber_any R (a :: t) bad _ (HF10.out.blk 0 rfl) (Nat.le_trans hl (by decide))).mono ?_
  rintro e w9 ⟨n, x, rfl, hg, hn, hr, ho⟩
  have HF11 := Lib.hid (HF10.out.call 0 ho hr (by refine ⟨?_, ?_, ?_, trivial⟩ <;> (simp only [Fq.apart]; first | omega | (intro b h1 h2; omega) | (intro b h1 h2 h3; omega))))
  have hz9 : w8.heap.size ≤ w9.heap.size := by have := ho.size; first | omega | (simp at this; omega)
  clear HF10 ho hr
  have HN1 := Lib.hid hn
  clear hn hg
  go_wp2_with fail
  refine (rInt_any n _).mono ?_
  rintro e w10 ⟨rfl, hb⟩
  have HF12 := Lib.hid (HF11.out.below hb)
  clear HF11
  have hz10 : w9.heap.size ≤ w10.heap.size := by have := hb.size; first | omega | (simp at this; omega)
  clear hb
  obtain ⟨c0, c1, c2, c3, c4, c5, c6, c7, c8, fr⟩ := nine_cells (HF12.out.blk 1 rfl)
  obtain ⟨d0, d1, d2, d3, d4, d5, d6, d7, d8, fs⟩ := nine_cells (HF12.out.blk 2 rfl)
  have hb0 := lt_of_block (HF12.out.blk 1 rfl)
  have hb1 := lt_of_block (HF12.out.blk 2 rfl)
  go_wp2_with fail
  have HF13 := Lib.hid (HF12.out.put 1 rfl (by refine ⟨?_, ?_, ?_, trivial⟩ <;> (simp only [Fq.apart]; first | omega | (intro b h1 h2; omega) | (intro b h1 h2 h3; omega))) (.int .i64 (intF n).k) (.int .i64 (intF n).i) (.int .i64 (intF n).g) (.string (intF n).nm) (.string (intF n).fn) (.int .i64 (intF n).ar) (.slice none 0 0) (.string (intF n).bs) (.int .i64 (intF n).n))
  clear HF12
  have HF14 := Lib.hid (HF13.out.put 2 rfl (by refine ⟨?_, ?_, ?_, trivial⟩ <;> (simp only [Fq.apart]; first | omega | (intro b h1 h2; omega) | (intro b h1 h2 h3; omega))) (.int .i64 (intF n).k) (.int .i64 (intF n).i) (.int .i64 (intF n).g) (.string (intF n).nm) (.string (intF n).fn) (.int .i64 (intF n).ar) (.slice none 0 0) (.string (intF n).bs) (.int .i64 (intF n).n))
  clear HF13
  refine bodyPost_ret (results_one rfl _ _ _ _ _ _ _ _ _ _ _ _ rfl (HF14.out.blk 0 rfl)) rfl ?_
  exact ⟨intF n, .nil, none, 0, (a :: t).dropWhile digC, (bad || x), rfl, RdS.nil _ _ _, (HF14.out.blk 2 rfl), (HF14.out.base 3 rfl), dropW_len _ _, (fun h => by rw [h]; rfl), (fun h => by subst h; unfold pPlain; rw [show digH (a :: t) = true from HD.out, if_pos rfl, pInt_of HN1.out, Bool.false_or]; cases x <;> rfl)⟩
end Go.Proofs.YtgfodedmcjkmaaaGreatDoor
