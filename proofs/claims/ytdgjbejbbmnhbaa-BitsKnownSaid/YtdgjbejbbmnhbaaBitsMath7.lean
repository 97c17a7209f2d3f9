/-
  Plain mathematics: bit strings in the order of their bits, and of their bytes.
-/
import Derived.Test.YtdgjbejbbmnhbaaBitsMath4
import Derived.Lib.Bytealg
namespace Go.Proofs.Ytdgjbejbbmnhbaa
open Go.RowKit Go.Proofs.BitsM
/-- bit by bit, a proper prefix first -/
def cmpL : List Bool → List Bool → Int
  | [], [] => 0
  | [], _ :: _ => -1
  | _ :: _, [] => 1
  | a :: x, b :: y => if a = b then cmpL x y else ((a.toNat : Nat) : Int) - ((b.toNat : Nat) : Int)
def hv : List Bool → Nat
  | [] => 0
  | b :: x => b.toNat * 2 ^ x.length + hv x
theorem hv_lt : ∀ X : List Bool, hv X < 2 ^ X.length
  | [] => by simp [hv]
  | b :: x => by
    have := hv_lt x
    rw [hv, List.length_cons, Nat.pow_succ]
    cases b <;> simp <;> omega
theorem hv_eq : ∀ A B : List Bool, A.length = B.length → hv A = hv B → A = B
  | [], [], _, _ => rfl
  | [], _ :: _, h, _ => by simp at h
  | _ :: _, [], h, _ => by simp at h
  | a :: x, b :: y, h, e => by
    have hl : x.length = y.length := by simpa using h
    have h1 := hv_lt x
    have h2 := hv_lt y
    rw [hv, hv, hl] at e
    rw [hl] at h1
    have hab : a = b := by
      cases a <;> cases b <;> simp at e ⊢ <;> omega
    subst hab
    rw [hv_eq x y hl (by omega)]
theorem cmpL_hv : ∀ A B : List Bool, A.length = B.length → hv A < hv B → ∀ x y, cmpL (A ++ x) (B ++ y) = -1 ∧ cmpL (B ++ y) (A ++ x) = 1
  | [], [], _, h => by simp at h
  | [], _ :: _, h, _ => by simp at h
  | _ :: _, [], h, _ => by simp at h
  | a :: A, b :: B, h, e => by
    intro x y
    have hl : A.length = B.length := by simpa using h
    have h1 := hv_lt A
    have h2 := hv_lt B
    rw [hv, hv, hl] at e
    rw [hl] at h1
    rw [List.cons_append, List.cons_append, cmpL, cmpL]
    cases a <;> cases b
    · simp only [if_true]
      exact cmpL_hv A B hl (by simpa using e) x y
    · exact ⟨rfl, rfl⟩
    · simp at e; omega
    · simp only [if_true]
      exact cmpL_hv A B hl (by simpa using e) x y
theorem cmpL_same : ∀ (A x y : List Bool), cmpL (A ++ x) (A ++ y) = cmpL x y
  | [], _, _ => rfl
  | a :: A, x, y => by rw [List.cons_append, List.cons_append, cmpL, if_pos rfl, cmpL_same A x y]
theorem cmpL_self (A : List Bool) : cmpL A A = 0 := by
  have := cmpL_same A [] []
  simpa [cmpL] using this
/-- numbers in order, a proper prefix first -/
def cmpN : List Nat → List Nat → Int
  | [], [] => 0
  | [], _ :: _ => -1
  | _ :: _, [] => 1
  | a :: x, b :: y => if a < b then -1 else if b < a then 1 else cmpN x y
theorem compareBytes_cmpN : ∀ a b : List Nat, (∀ x ∈ a, x < 256) → (∀ x ∈ b, x < 256) → Go.Lib.compareBytes (a.map UInt8.ofNat) (b.map UInt8.ofNat) = cmpN a b
  | [], [], _, _ => rfl
  | [], _ :: _, _, _ => rfl
  | _ :: _, [], _, _ => rfl
  | a :: x, b :: y, ha, hb => by
    have h1 := ha a (by simp)
    have h2 := hb b (by simp)
    have ih := compareBytes_cmpN x y (fun z hz => ha z (by simp [hz])) (fun z hz => hb z (by simp [hz]))
    have l1 : UInt8.ofNat a < UInt8.ofNat b ↔ a < b := by
      rw [UInt8.lt_iff_toNat_lt, UInt8.toNat_ofNat', UInt8.toNat_ofNat', Nat.mod_eq_of_lt h1, Nat.mod_eq_of_lt h2]
    have l2 : UInt8.ofNat b < UInt8.ofNat a ↔ b < a := by
      rw [UInt8.lt_iff_toNat_lt, UInt8.toNat_ofNat', UInt8.toNat_ofNat', Nat.mod_eq_of_lt h1, Nat.mod_eq_of_lt h2]
    rw [List.map_cons, List.map_cons, Go.Lib.compareBytes, cmpN, ih]
    simp only [l1, l2]
theorem byteN_hv (X : List Bool) (h : 8 ≤ X.length) : (byteN fun k => X.getD k false) = hv (X.take 8) := by
  match X, h with
  | a :: b :: c :: d :: e :: f :: g :: i :: r, _ =>
    simp [byteN, hv, List.getD]
    omega
theorem packN_cons (X : List Bool) (h : 8 ≤ X.length) : packN X = hv (X.take 8) :: packN (X.drop 8) := by
  unfold packN
  rw [List.length_drop, show (X.length + 7) / 8 = (X.length - 8 + 7) / 8 + 1 by omega, List.range_succ_eq_map, List.map_cons, List.map_map]
  congr 1
  · rw [← byteN_hv X h]
    congr 1; funext k; congr 1; omega
  · apply List.map_congr_left
    intro j _
    simp only [Function.comp]
    congr 1; funext k
    simp only [List.getD, List.getElem?_drop]
    congr 2; omega
theorem cmp_bytes : ∀ (q : Nat) (X Y : List Bool), 8 * q ≤ X.length → 8 * q ≤ Y.length →
    (cmpN ((packN X).take q) ((packN Y).take q) = 0 ∧ X.take (8 * q) = Y.take (8 * q)) ∨ (cmpN ((packN X).take q) ((packN Y).take q) ≠ 0 ∧ cmpN ((packN X).take q) ((packN Y).take q) = cmpL X Y)
  | 0, X, Y, _, _ => .inl ⟨rfl, by simp⟩
  | q + 1, X, Y, hx, hy => by
    rw [packN_cons X (by omega), packN_cons Y (by omega), List.take_succ_cons, List.take_succ_cons, cmpN]
    have eX : X = X.take 8 ++ X.drop 8 := (List.take_append_drop 8 X).symm
    have eY : Y = Y.take 8 ++ Y.drop 8 := (List.take_append_drop 8 Y).symm
    have lX : (X.take 8).length = 8 := by rw [List.length_take]; omega
    have lY : (Y.take 8).length = 8 := by rw [List.length_take]; omega
    by_cases h1 : hv (X.take 8) < hv (Y.take 8)
    · right
      rw [if_pos h1]
      have := (cmpL_hv _ _ (lX.trans lY.symm) h1 (X.drop 8) (Y.drop 8)).1
      rw [← eX, ← eY] at this
      exact ⟨by decide, this.symm⟩
    · rw [if_neg h1]
      by_cases h2 : hv (Y.take 8) < hv (X.take 8)
      · right
        rw [if_pos h2]
        have := (cmpL_hv _ _ (lY.trans lX.symm) h2 (Y.drop 8) (X.drop 8)).2
        rw [← eX, ← eY] at this
        exact ⟨by decide, this.symm⟩
      · rw [if_neg h2]
        have he : X.take 8 = Y.take 8 := hv_eq _ _ (lX.trans lY.symm) (by omega)
        have hc : cmpL X Y = cmpL (X.drop 8) (Y.drop 8) := by
          have := cmpL_same (X.take 8) (X.drop 8) (Y.drop 8)
          rw [← eX, he, ← eY] at this
          exact this
        rcases cmp_bytes q (X.drop 8) (Y.drop 8) (by rw [List.length_drop]; omega) (by rw [List.length_drop]; omega) with ⟨a, b⟩ | ⟨a, b⟩
        · left
          refine ⟨a, ?_⟩
          rw [show 8 * (q + 1) = 8 + 8 * q by omega, List.take_add, List.take_add, he, b]
        · right
          exact ⟨a, by rw [b, hc]⟩
theorem cmpL_at {X Y : List Bool} {k : Nat} (h : X.take k = Y.take k) (hx : k < X.length) (hy : k < Y.length) (hne : X.getD k false ≠ Y.getD k false) :
    cmpL X Y = (((X.getD k false).toNat : Nat) : Int) - (((Y.getD k false).toNat : Nat) : Int) := by
  have eX : X = X.take k ++ X.drop k := (List.take_append_drop k X).symm
  have eY : Y = Y.take k ++ Y.drop k := (List.take_append_drop k Y).symm
  have hc : cmpL X Y = cmpL (X.drop k) (Y.drop k) := by
    have := cmpL_same (X.take k) (X.drop k) (Y.drop k)
    rw [← eX, h, ← eY] at this
    exact this
  rw [hc, List.drop_eq_getElem_cons hx, List.drop_eq_getElem_cons hy, cmpL]
  simp only [List.getD, List.getElem?_eq_getElem hx, List.getElem?_eq_getElem hy, Option.getD_some] at hne ⊢
  rw [if_neg hne]
theorem cmpL_end {X Y : List Bool} {n : Nat} (h : X.take n = Y.take n) (hn : n = min X.length Y.length) : cmpL X Y = if X.length < Y.length then -1 else if Y.length < X.length then 1 else 0 := by
  have eX : X = X.take n ++ X.drop n := (List.take_append_drop n X).symm
  have eY : Y = Y.take n ++ Y.drop n := (List.take_append_drop n Y).symm
  have hc : cmpL X Y = cmpL (X.drop n) (Y.drop n) := by
    have := cmpL_same (X.take n) (X.drop n) (Y.drop n)
    rw [← eX, h, ← eY] at this
    exact this
  rw [hc]
  by_cases h1 : X.length < Y.length
  · rw [if_pos h1, show n = X.length by omega, List.drop_length, List.drop_eq_getElem_cons (by omega), cmpL]
  · rw [if_neg h1]
    by_cases h2 : Y.length < X.length
    · rw [if_pos h2, show n = Y.length by omega, List.drop_length, List.drop_eq_getElem_cons (by omega), cmpL]
    · rw [if_neg h2, show n = X.length by omega, List.drop_length, show X.length = Y.length by omega, List.drop_length, cmpL]
theorem take_step {X Y : List Bool} {k : Nat} (h : X.take k = Y.take k) (hx : k < X.length) (hy : k < Y.length) (he : X.getD k false = Y.getD k false) : X.take (k + 1) = Y.take (k + 1) := by
  simp only [List.getD, List.getElem?_eq_getElem hx, List.getElem?_eq_getElem hy, Option.getD_some] at he
  rw [List.take_succ_eq_append_getElem hx, List.take_succ_eq_append_getElem hy, h, he]
theorem toNat_ne {a b : Bool} : (((a.toNat : Nat) : Int) - ((b.toNat : Nat) : Int) != 0) = decide (a ≠ b) := by cases a <;> cases b <;> rfl
/-- what Cmp takes for a bit string: the bits if it is valid, none if not -/
def bitsOf (s : ByteArray) (n : Int) : List Bool := if validB s n = true then bitsB s 0 n.toNat else []
def cmpR (s : ByteArray) (n : Int) (t : ByteArray) (m : Int) : Int := cmpL (bitsOf s n) (bitsOf t m)
theorem cmpL_swap : ∀ X Y : List Bool, cmpL X Y = -cmpL Y X
  | [], [] => rfl
  | [], _ :: _ => rfl
  | _ :: _, [] => rfl
  | a :: x, b :: y => by
    rw [cmpL, cmpL]
    by_cases h : a = b
    · subst h; rw [if_pos rfl, if_pos rfl]; exact cmpL_swap x y
    · rw [if_neg h, if_neg (fun e => h e.symm)]; omega
theorem cmpL_zero : ∀ X Y : List Bool, cmpL X Y = 0 ↔ X = Y
  | [], [] => by simp [cmpL]
  | [], _ :: _ => by simp [cmpL]
  | _ :: _, [] => by simp [cmpL]
  | a :: x, b :: y => by
    rw [cmpL]
    by_cases h : a = b
    · subst h; rw [if_pos rfl, cmpL_zero x y]; simp
    · rw [if_neg h]
      cases a <;> cases b <;> simp_all
theorem cmpL_trans : ∀ X Y Z : List Bool, cmpL X Y ≤ 0 → cmpL Y Z ≤ 0 → cmpL X Z ≤ 0
  | [], _, [] => by simp [cmpL]
  | [], _, _ :: _ => by simp [cmpL]
  | _ :: _, [], _ => by simp [cmpL]
  | _ :: _, _ :: _, [] => by simp [cmpL]
  | a :: x, b :: y, c :: z => by
    have ih := cmpL_trans x y z
    rw [cmpL, cmpL, cmpL]
    cases a <;> cases b <;> cases c <;> simp <;> exact ih
def textB (X : List Bool) : List UInt8 := X.map fun b => UInt8.ofNat (48 + b.toNat)
theorem textB_less : ∀ X Y : List Bool, Op.bytesLess (textB X) (textB Y) = decide (cmpL X Y < 0)
  | [], [] => rfl
  | [], _ :: _ => rfl
  | _ :: _, [] => rfl
  | a :: x, b :: y => by
    have ih := textB_less x y
    unfold textB at ih ⊢
    rw [List.map_cons, List.map_cons, Op.bytesLess, ih, cmpL]
    cases a <;> cases b <;> simp <;> decide
theorem textB_inj (X Y : List Bool) : textB X = textB Y ↔ X = Y := by
  refine ⟨fun h => ?_, fun h => by rw [h]⟩
  unfold textB at h
  refine List.map_inj_right ?_ |>.1 h
  intro a b e
  cases a <;> cases b <;> first | rfl | (revert e; decide)
end Go.Proofs.Ytdgjbejbbmnhbaa
