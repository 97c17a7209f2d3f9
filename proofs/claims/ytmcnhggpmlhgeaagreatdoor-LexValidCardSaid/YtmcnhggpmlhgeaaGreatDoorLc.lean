/-
  Decimal numerals: their value, and that each is the text of its value. No program in sight. Tokens: the text of a valid token is scanned as that token, and what is scanned is valid and was its text. No program in sight. Tokens: a valid token and its text, both ways. No program in sight. Tokens: what is joined is scanned as the same tokens; lengths; two texts in a row. No program in sight.
-/
import Derived.Test.YtmcnhggpmlhgeaaGreatDoorName
import Derived.Test.YtmcnhggpmlhgeaaGreatDoorBytes
import Derived.Test.YtmcnhggpmlhgeaaGreatDoorLa
import Derived.Lib.ItoaNum
namespace Go.Proofs.YtmcnhggpmlhgeaaGreatDoor
/-- the number that digits write -/
def valD (l : List UInt8) : Nat := l.foldl (fun a c => 10 * a + (c.toNat - 48)) 0
theorem valD_nil : valD [] = 0 := rfl
theorem valD_snoc (l : List UInt8) (c : UInt8) : valD (l ++ [c]) = 10 * valD l + (c.toNat - 48) := by
  unfold valD; rw [List.foldl_append]; rfl
def isD (c : UInt8) : Bool := decide (48 ≤ c.toNat) && decide (c.toNat ≤ 57)
theorem isD_iff (c : UInt8) : isD c = true ↔ 48 ≤ c.toNat ∧ c.toNat ≤ 57 := by unfold isD; simp
/-- the form of a number that is not negative -/
def formD (l : List UInt8) : Bool := !l.isEmpty && l.all isD && (l.head? != some 48 || l.length == 1)
theorem formD_iff (l : List UInt8) : formD l = true ↔ l ≠ [] ∧ (∀ c ∈ l, isD c = true) ∧ (l.head? = some 48 → l.length = 1) := by
  unfold formD
  simp only [Bool.and_eq_true, Bool.not_eq_true', List.isEmpty_eq_false_iff, List.all_eq_true, Bool.or_eq_true, bne_iff_ne, ne_eq, beq_iff_eq, and_assoc]
  constructor
  · rintro ⟨h1, h2, h3⟩; exact ⟨h1, h2, fun h => h3.resolve_left (fun h4 => h4 h)⟩
  · rintro ⟨h1, h2, h3⟩; exact ⟨h1, h2, Classical.or_iff_not_imp_left.2 fun h => h3 (Classical.not_not.1 h)⟩
theorem isD_dig {d : Nat} (h : d < 10) : isD (UInt8.ofNat (48 + d)) = true := by
  rw [isD_iff, UInt8.toNat_ofNat', Nat.mod_eq_of_lt (by omega)]; omega
theorem dig_toNat {d : Nat} (h : d < 10) : (UInt8.ofNat (48 + d)).toNat = 48 + d := by
  rw [UInt8.toNat_ofNat', Nat.mod_eq_of_lt (by omega)]
theorem dec_ne (u : Nat) : Lib.decDigits u ≠ [] := by
  rw [Lib.decDigits]; split
  · simp
  · simp
theorem dec_val (u : Nat) : valD (Lib.decDigits u) = u := by
  induction u using Nat.strongRecOn with
  | _ u ih =>
    by_cases h : u < 10
    · rw [Lib.decDigits, dif_pos h]
      show 10 * 0 + ((UInt8.ofNat (48 + u)).toNat - 48) = u
      rw [dig_toNat h]; omega
    · rw [Lib.decDigits, dif_neg h, valD_snoc, ih (u / 10) (by omega), dig_toNat (by omega)]; omega
theorem dec_all (u : Nat) : ∀ c ∈ Lib.decDigits u, isD c = true := by
  induction u using Nat.strongRecOn with
  | _ u ih =>
    by_cases h : u < 10
    · rw [Lib.decDigits, dif_pos h]
      intro c hc
      rw [List.mem_singleton.1 hc]; exact isD_dig h
    · rw [Lib.decDigits, dif_neg h]
      intro c hc
      rcases List.mem_append.1 hc with hc | hc
      · exact ih (u / 10) (by omega) c hc
      · rw [List.mem_singleton.1 hc]; exact isD_dig (by omega)
theorem dec_head (u : Nat) (h : 1 ≤ u) : (Lib.decDigits u).head? ≠ some 48 := by
  induction u using Nat.strongRecOn with
  | _ u ih =>
    by_cases h10 : u < 10
    · rw [Lib.decDigits, dif_pos h10]
      intro e
      have e2 : UInt8.ofNat (48 + u) = 48 := by simpa using e
      have := dig_toNat h10
      rw [e2] at this
      have h48 : (48 : UInt8).toNat = 48 := rfl
      omega
    · rw [Lib.decDigits, dif_neg h10, List.head?_append]
      have := ih (u / 10) (by omega) (by omega)
      cases hd : (Lib.decDigits (u / 10)).head? with
      | none => exact absurd (List.head?_eq_none_iff.1 hd) (dec_ne _)
      | some x => rw [hd] at this; simpa using this
theorem dec_form (u : Nat) : formD (Lib.decDigits u) = true := by
  refine (formD_iff _).2 ⟨dec_ne u, dec_all u, fun h => ?_⟩
  rcases Nat.eq_zero_or_pos u with rfl | h1
  · rw [Lib.decDigits, dif_pos (by decide)]; rfl
  · exact absurd h (dec_head u h1)
theorem digit_eq {c : UInt8} (h : isD c = true) : UInt8.ofNat (48 + (c.toNat - 48)) = c := by
  rw [isD_iff] at h
  apply UInt8.toNat_inj.1
  rw [UInt8.toNat_ofNat', Nat.mod_eq_of_lt (by omega)]; omega
theorem val_pos : ∀ (n : Nat) (l : List UInt8), l.length = n → formD l = true → l.head? ≠ some 48 → 1 ≤ valD l
  | 0, l, hn, hf, _ => absurd (List.length_eq_zero_iff.1 hn) ((formD_iff l).1 hf).1
  | n + 1, l, hn, hf, h0 => by
    obtain ⟨hne, hall, _⟩ := (formD_iff l).1 hf
    rcases List.eq_nil_or_concat l with rfl | ⟨l', c, rfl⟩
    · exact absurd rfl hne
    · rw [List.concat_eq_append] at *
      rw [valD_snoc]
      have hc := (isD_iff c).1 (hall c (by simp))
      rcases Nat.eq_zero_or_pos l'.length with h | h
      · have := List.length_eq_zero_iff.1 h
        subst this
        have hcn : c ≠ 48 := by simpa using h0
        have : c.toNat ≠ 48 := fun e => hcn (UInt8.toNat_inj.1 e)
        omega
      · have hh : (l' ++ [c]).head? = l'.head? := by
          rw [List.head?_append]
          cases hd : l'.head? with
          | none => rw [List.head?_eq_none_iff.1 hd] at h; simp at h
          | some x => rfl
        have h1 : l'.head? ≠ some 48 := hh ▸ h0
        have := val_pos n l' (by simp at hn; omega) ((formD_iff l').2 ⟨by intro e; rw [e] at h; simp at h, fun x hx => hall x (by simp [hx]), fun e => absurd e h1⟩) h1
        omega
theorem val_dec : ∀ (n : Nat) (l : List UInt8), l.length = n → formD l = true → Lib.decDigits (valD l) = l
  | 0, l, hn, hf => absurd (List.length_eq_zero_iff.1 hn) ((formD_iff l).1 hf).1
  | n + 1, l, hn, hf => by
    obtain ⟨hne, hall, hhd⟩ := (formD_iff l).1 hf
    rcases List.eq_nil_or_concat l with rfl | ⟨l', c, rfl⟩
    · exact absurd rfl hne
    · rw [List.concat_eq_append] at *
      have hc := (isD_iff c).1 (hall c (by simp))
      rcases Nat.eq_zero_or_pos l'.length with h | h
      · have := List.length_eq_zero_iff.1 h
        subst this
        rw [valD_snoc, valD_nil, Lib.decDigits, dif_pos (by omega)]
        show [UInt8.ofNat (48 + (10 * 0 + (c.toNat - 48)))] = [c]
        rw [show 10 * 0 + (c.toNat - 48) = c.toNat - 48 by omega, digit_eq (hall c (by simp))]
      · have hh : (l' ++ [c]).head? = l'.head? := by
          rw [List.head?_append]
          cases hd : l'.head? with
          | none => rw [List.head?_eq_none_iff.1 hd] at h; simp at h
          | some x => rfl
        have h1 : l'.head? ≠ some 48 := fun e => by have := hhd (hh.trans e); rw [List.length_append, List.length_singleton] at this; omega
        have hf' : formD l' = true := (formD_iff l').2 ⟨by intro e; rw [e] at h; simp at h, fun x hx => hall x (by simp [hx]), fun e => absurd e h1⟩
        have hl : l'.length = n := by simp at hn; omega
        have hv := val_pos n l' hl hf' h1
        rw [valD_snoc, Lib.decDigits, dif_neg (by omega), show (10 * valD l' + (c.toNat - 48)) / 10 = valD l' by omega, show (10 * valD l' + (c.toNat - 48)) % 10 = c.toNat - 48 by omega, val_dec n l' hl hf', digit_eq (hall c (by simp))]
/-- a byte that ends a run -/
def stops (q : UInt8 → Bool) (r : List UInt8) : Prop := ∀ c t, r = c :: t → q c = false
theorem span_stop {q : UInt8 → Bool} {p r : List UInt8} (hp : ∀ c ∈ p, q c = true) (hr : stops q r) : (p ++ r).takeWhile q = p ∧ (p ++ r).dropWhile q = r := by
  induction p with
  | nil =>
    cases r with
    | nil => exact ⟨rfl, rfl⟩
    | cons c t =>
      have := hr c t rfl
      exact ⟨by simp [this], by simp [this]⟩
  | cons a p ih =>
    have ha := hp a (by simp)
    have := ih fun c hc => hp c (by simp [hc])
    simp [ha, this.1, this.2]
end Go.Proofs.YtmcnhggpmlhgeaaGreatDoor
namespace Go.Proofs.YtmcnhggpmlhgeaaGreatDoor
open Go.RowKit Go.Proofs.BitsM
/-- may this stand behind a token as it is? -/
def fits (t : Tok) (r : List UInt8) : Prop := (∀ c, (textTk t).getLast? = some c → namC c = true → stops namC r) ∧ (t.k = 6 → signN (textTk t ++ r) = (textTk t).length)
theorem num_nam {c : UInt8} (h : numC c = true) : namC c = true := by rw [namC_iff]; rw [numC_iff] at h; omega
theorem head_nam {c : UInt8} (h : headC c = true) : namC c = true := by rw [namC_iff]; rw [headC_iff] at h; omega
theorem small_head {c : UInt8} (h : smallC c = true) : headC c = true := by rw [headC_iff]; rw [smallC_iff] at h; omega
theorem num_not_head {c : UInt8} (h : numC c = true) : headC c = false := by
  rw [← Bool.not_eq_true, headC_iff]; rw [numC_iff] at h; omega
theorem mem_of_contains {l : List (List UInt8)} {x : List UInt8} (h : l.contains x = true) : x ∈ l := by simpa using h
def wordOk (s : List UInt8) : Bool := decide (s.length ≤ 32) && s.all namC && (match s with | c :: _ => smallC c | [] => false)
theorem words_ok : wordL.all wordOk = true := by decide +kernel
theorem word_ok {s : List UInt8} (h : resB s = true) : s.length ≤ 32 ∧ (∀ c ∈ s, namC c = true) ∧ ∃ c r, s = c :: r ∧ smallC c = true := by
  have h1 := List.all_eq_true.1 words_ok s (mem_of_contains h)
  unfold wordOk at h1
  rw [Bool.and_eq_true, Bool.and_eq_true, decide_eq_true_eq, List.all_eq_true] at h1
  refine ⟨h1.1.1, h1.1.2, ?_⟩
  cases s with
  | nil => exact absurd h1.2 Bool.false_ne_true
  | cons c r => exact ⟨c, r, rfl, h1.2⟩
theorem byteAt_list (l : List UInt8) (k : Nat) (h : k < l.length) : byteAt ⟨l.toArray⟩ k = (l[k]'h).toNat := by
  have hk : k < (ByteArray.mk l.toArray).size := by show k < l.toArray.size; simpa using h
  rw [← byteAt_eq hk]; rfl
theorem nameTo_iff (s : ByteArray) : ∀ k : Nat, nameTo s k = true ↔ ∀ j, j < k → (j = 0 ∨ okC (byteAt s j) = true)
  | 0 => by simp [nameTo]
  | k + 1 => by
    rw [nameTo, Bool.and_eq_true, nameTo_iff s k, Bool.or_eq_true, decide_eq_true_eq]
    constructor
    · rintro ⟨h1, h2⟩ j hj
      rcases Nat.lt_or_ge j k with h | h
      · exact h1 j h
      · obtain rfl : j = k := by omega
        exact h2
    · intro h
      exact ⟨fun j hj => h j (by omega), h k (by omega)⟩
theorem nameB_iff (s : List UInt8) : nameB ⟨s.toArray⟩ = true ↔ s.length ≤ 32 ∧ (∀ c ∈ s, namC c = true) ∧ ∃ c r, s = c :: r ∧ smallC c = true := by
  have hz : (ByteArray.mk s.toArray).size = s.length := by show s.toArray.size = s.length; simp
  unfold nameB
  rw [Bool.and_eq_true, Bool.and_eq_true, Bool.and_eq_true, decide_eq_true_eq, decide_eq_true_eq, nameTo_iff, hz]
  cases s with
  | nil => simp
  | cons c r =>
    have h0 : lowC (byteAt ⟨(c :: r).toArray⟩ 0) = smallC c := by rw [byteAt_list _ 0 (by simp)]; rfl
    rw [h0]
    constructor
    · rintro ⟨⟨⟨_, h2⟩, h3⟩, h4⟩
      refine ⟨h2, ?_, c, r, rfl, h3⟩
      intro x hx
      obtain ⟨j, hj, rfl⟩ := List.getElem_of_mem hx
      rcases h4 j hj with rfl | h5
      · exact head_nam (small_head h3)
      · rw [byteAt_list _ j hj] at h5; exact h5
    · rintro ⟨h2, h3, c', r', e, h4⟩
      injection e with e1 e2
      subst e1
      refine ⟨⟨⟨by simp, h2⟩, h4⟩, fun j hj => .inr ?_⟩
      rw [byteAt_list _ j hj]
      exact h3 _ (List.getElem_mem hj)
/-! signs -/
theorem sign_one_of {c : UInt8} (h : sign1.contains c = true) : signN [c] = 1 ∧ namC c = false ∧ wsC c = false ∧ c.toNat ≠ 37 ∧ c.toNat ≠ 34 := by
  have h1 : sign1.all (fun c => decide (signN [c] = 1) && !namC c && !wsC c && decide (c.toNat ≠ 37) && decide (c.toNat ≠ 34)) = true := by decide +kernel
  have h2 := List.all_eq_true.1 h1 c (by simpa using h)
  simp only [Bool.and_eq_true, Bool.not_eq_true', decide_eq_true_eq] at h2
  exact ⟨h2.1.1.1.1, h2.1.1.1.2, h2.1.1.2, h2.1.2, h2.2⟩
def sgOk (s : List UInt8) : Bool := decide (signN s = s.length) && s.all (fun c => sign1.contains c) && !s.isEmpty
theorem signs3 : (sign3.all fun s => sgOk s && decide (s.length = 3)) = true := by decide +kernel
theorem signs2 : (sign2.all fun s => sgOk s && decide (s.length = 2)) = true := by decide +kernel
theorem sgOk_iff {s : List UInt8} : sgOk s = true ↔ signN s = s.length ∧ (∀ c ∈ s, sign1.contains c = true) ∧ s ≠ [] := by
  unfold sgOk; simp [and_assoc]
theorem sign3_ok {s : List UInt8} (h : sign3.contains s = true) : (signN s = s.length ∧ (∀ c ∈ s, sign1.contains c = true) ∧ s ≠ []) ∧ s.length = 3 := by
  have := List.all_eq_true.1 signs3 s (mem_of_contains h)
  rw [Bool.and_eq_true, decide_eq_true_eq, sgOk_iff] at this
  exact this
theorem sign2_ok {s : List UInt8} (h : sign2.contains s = true) : (signN s = s.length ∧ (∀ c ∈ s, sign1.contains c = true) ∧ s ≠ []) ∧ s.length = 2 := by
  have := List.all_eq_true.1 signs2 s (mem_of_contains h)
  rw [Bool.and_eq_true, decide_eq_true_eq, sgOk_iff] at this
  exact this
theorem signB_cases {s : List UInt8} (h : signB s = true) : sign3.contains s = true ∨ sign2.contains s = true ∨ ∃ c, s = [c] ∧ sign1.contains c = true := by
  unfold signB at h
  rw [Bool.or_eq_true, Bool.or_eq_true] at h
  rcases h with (h | h) | h
  · exact .inl h
  · exact .inr (.inl h)
  · refine .inr (.inr ?_)
    match s, h with
    | [c], h => exact ⟨c, rfl, h⟩
theorem signB_ok {s : List UInt8} (h : signB s = true) : signN s = s.length ∧ (∀ c ∈ s, sign1.contains c = true) ∧ s ≠ [] := by
  rcases signB_cases h with q | q | ⟨c, rfl, q⟩
  · exact (sign3_ok q).1
  · exact (sign2_ok q).1
  · refine ⟨(sign_one_of q).1, ?_, by simp⟩
    intro x hx; rw [List.mem_singleton.1 hx]; exact q
theorem signN_cases (s : List UInt8) : (sign3.contains (s.take 3) = true ∧ signN s = 3) ∨ (sign3.contains (s.take 3) = false ∧ sign2.contains (s.take 2) = true ∧ signN s = 2) ∨ (sign3.contains (s.take 3) = false ∧ sign2.contains (s.take 2) = false ∧ ((∃ c r, s = c :: r ∧ sign1.contains c = true ∧ signN s = 1) ∨ ((∀ c r, s = c :: r → sign1.contains c = false) ∧ signN s = 0))) := by
  cases h3 : sign3.contains (s.take 3) with
  | true => exact .inl ⟨rfl, by unfold signN; rw [h3, if_pos rfl]⟩
  | false =>
    cases h2 : sign2.contains (s.take 2) with
    | true => exact .inr (.inl ⟨rfl, rfl, by unfold signN; rw [h3, h2, if_neg Bool.false_ne_true, if_pos rfl]⟩)
    | false =>
      refine .inr (.inr ⟨rfl, rfl, ?_⟩)
      cases s with
      | nil => exact .inr ⟨fun c r e => by simp at e, rfl⟩
      | cons c r =>
        cases h1 : sign1.contains c with
        | true => exact .inl ⟨c, r, rfl, h1, by unfold signN; rw [h3, h2, if_neg Bool.false_ne_true, if_neg Bool.false_ne_true]; simp only [h1, if_true]⟩
        | false => exact .inr ⟨fun c' r' e => by injection e with e1 e2; rw [← e1]; exact h1, by unfold signN; rw [h3, h2, if_neg Bool.false_ne_true, if_neg Bool.false_ne_true]; simp only [h1, Bool.false_eq_true, if_false]⟩
theorem signN_take {s : List UInt8} (h : signN s ≠ 0) : signB (s.take (signN s)) = true ∧ (s.take (signN s)).length = signN s := by
  rcases signN_cases s with ⟨h3, e⟩ | ⟨_, h2, e⟩ | ⟨_, _, ⟨c, r, rfl, h1, e⟩ | ⟨_, e⟩⟩
  · rw [e]; exact ⟨by unfold signB; rw [h3]; rfl, (sign3_ok h3).2⟩
  · rw [e]; exact ⟨by unfold signB; rw [h2, Bool.or_true]; rfl, (sign2_ok h2).2⟩
  · rw [e]; exact ⟨by unfold signB; show (_ || _ || sign1.contains c) = true; rw [h1, Bool.or_true], rfl⟩
  · exact absurd e h
/-- a byte that is in no sign ends it -/
theorem signN_app (s : List UInt8) {d : UInt8} (r : List UInt8) (hd : sign1.contains d = false) : signN (s ++ d :: r) = signN s := by
  have hd2 : ∀ x : List UInt8, d ∈ x → sign3.contains x = false ∧ sign2.contains x = false := by
    intro x hx
    constructor
    · rw [← Bool.not_eq_true]; intro h
      rw [(sign3_ok h).1.2.1 d hx] at hd; exact Bool.noConfusion hd
    · rw [← Bool.not_eq_true]; intro h
      rw [(sign2_ok h).1.2.1 d hx] at hd; exact Bool.noConfusion hd
  have n1 : ∀ a : UInt8, sign2.contains [a] = false ∧ sign3.contains [a] = false := fun a => ⟨by rw [← Bool.not_eq_true]; intro h; have := (sign2_ok h).2; simp at this, by rw [← Bool.not_eq_true]; intro h; have := (sign3_ok h).2; simp at this⟩
  have n2 : ∀ a b : UInt8, sign3.contains [a, b] = false := fun a b => by rw [← Bool.not_eq_true]; intro h; have := (sign3_ok h).2; simp at this
  have n0 : sign3.contains ([] : List UInt8) = false ∧ sign2.contains ([] : List UInt8) = false := by decide
  match s with
  | [] =>
    have q := (hd2 ((d :: r).take 3) (by simp)).1
    have q2 := (hd2 ((d :: r).take 2) (by simp)).2
    show signN (d :: r) = signN []
    unfold signN
    rw [q, q2]
    show (if sign1.contains d = true then 1 else 0) = 0
    rw [hd]; rfl
  | [a] =>
    have q := (hd2 ((a :: d :: r).take 3) (by simp)).1
    have q2 := (hd2 ((a :: d :: r).take 2) (by simp)).2
    have e1 : [a].take 3 = [a] := rfl
    have e2 : [a].take 2 = [a] := rfl
    show signN (a :: d :: r) = signN [a]
    unfold signN
    rw [e1, e2, q, q2, (n1 a).1, (n1 a).2]
  | [a, b] =>
    have q := (hd2 ((a :: b :: d :: r).take 3) (by simp)).1
    have e1 : [a, b].take 3 = [a, b] := rfl
    have e2 : [a, b].take 2 = [a, b] := rfl
    have e3 : (a :: b :: d :: r).take 2 = [a, b] := rfl
    show signN (a :: b :: d :: r) = signN [a, b]
    unfold signN
    rw [e1, e2, e3, q, n2]
  | a :: b :: c :: t => rfl
theorem sign_long {x : List UInt8} (r : List UInt8) (h : signB x = true) (h2 : 2 ≤ x.length) : signN (x ++ r) = x.length := by
  rcases signB_cases h with q | q | ⟨c, rfl, q⟩
  · have hl := (sign3_ok q).2
    have e : (x ++ r).take 3 = x := by rw [← hl, List.take_left']; rfl
    unfold signN; rw [e, q, hl]; rfl
  · have hl := (sign2_ok q).2
    have e : (x ++ r).take 2 = x := by rw [← hl, List.take_left']; rfl
    have h3 : sign3.contains ((x ++ r).take 3) = false := by
      rw [← Bool.not_eq_true]; intro h3
      match x, hl with
      | [a, b], _ =>
        have m2 := mem_of_contains q
        have m3 := mem_of_contains h3
        cases r with
        | nil => have := (sign3_ok h3).2; simp at this
        | cons d r =>
          simp only [List.cons_append, List.nil_append, List.take_succ_cons, List.take_zero, sign3, sign2, List.mem_cons, List.cons.injEq, and_true, List.not_mem_nil, or_false] at m2 m3
          rcases m3 with ⟨rfl, rfl, _⟩ | ⟨rfl, rfl, _⟩ <;> simp at m2
    unfold signN; rw [h3, e, q, hl]; rfl
  · simp at h2
/-- what makes a longer sign of "=" -/
def spec (a b : Tok) : Bool := decide (a.k = 6) && decide (a.tx = [61]) && decide (b.k = 6) && (decide (b.tx = [58]) || decide (b.tx = [47]))
theorem sign_less {x y z : List UInt8} (hx : signB x = true) (h : signN (x ++ (y ++ z)) = x.length) : signN (x ++ y) = x.length := by
  by_cases h2 : 2 ≤ x.length
  · exact sign_long y hx h2
  · rcases signB_cases hx with q | q | ⟨c, rfl, q⟩
    · have := (sign3_ok q).2; omega
    · have := (sign2_ok q).2; omega
    · match y with
      | [] => exact (sign_one_of q).1
      | [d] =>
        rcases signN_cases ([c] ++ ([d] ++ z)) with ⟨_, e⟩ | ⟨_, _, e⟩ | ⟨_, q2, _⟩
        · rw [e] at h; simp at h
        · rw [e] at h; simp at h
        · have q2' : sign2.contains [c, d] = false := q2
          have q3 : sign3.contains [c, d] = false := by rw [← Bool.not_eq_true]; intro h; have := (sign3_ok h).2; simp at this
          show signN [c, d] = 1
          unfold signN
          have e1 : [c, d].take 3 = [c, d] := rfl
          have e2 : [c, d].take 2 = [c, d] := rfl
          rw [e1, e2, q2', q3]
          simp only [Bool.false_eq_true, if_false, q, if_true]
      | d :: e :: t => exact h
theorem sign_more {x y z : List UInt8} (hx : signB x = true) (hy : y ≠ []) (hs : ¬ (x = [61] ∧ (y = [58] ∨ y = [47]))) (h : signN (x ++ y) = x.length) : signN (x ++ (y ++ z)) = x.length := by
  by_cases h2 : 2 ≤ x.length
  · exact sign_long _ hx h2
  · rcases signB_cases hx with q | q | ⟨c, rfl, q⟩
    · have := (sign3_ok q).2; omega
    · have := (sign2_ok q).2; omega
    · match y with
      | [] => exact absurd rfl hy
      | [d] =>
        rcases signN_cases ([c] ++ [d]) with ⟨_, e⟩ | ⟨_, _, e⟩ | ⟨_, q2, _⟩
        · rw [e] at h; simp at h
        · rw [e] at h; simp at h
        · have q2' : sign2.contains [c, d] = false := q2
          have q3 : sign3.contains (([c] ++ ([d] ++ z)).take 3) = false := by
            rw [← Bool.not_eq_true]; intro h3
            have m3 := mem_of_contains h3
            cases z with
            | nil => have := (sign3_ok h3).2; simp at this
            | cons g z =>
              simp only [List.cons_append, List.nil_append, List.take_succ_cons, List.take_zero, sign3, List.mem_cons, List.cons.injEq, and_true, List.not_mem_nil, or_false] at m3
              rcases m3 with ⟨rfl, rfl, _⟩ | ⟨rfl, rfl, _⟩ <;> simp at hs
          unfold signN
          have e2 : ([c] ++ ([d] ++ z)).take 2 = [c, d] := rfl
          rw [q3, e2, q2']
          simp only [Bool.false_eq_true, if_false, List.cons_append, q, if_true, List.length_singleton]
      | d :: e :: t => exact h
theorem not_sign_of_nam {d : UInt8} (h : namC d = true) : sign1.contains d = false := by
  rw [← Bool.not_eq_true]; intro q
  rw [(sign_one_of q).2.1] at h; exact Bool.noConfusion h
/-! texts of strings -/
theorem quoT_esc (r : List UInt8) : ∀ tx : List UInt8, plainB tx = true → quoT (escT tx ++ 34 :: r) = some (tx, r)
  | [], _ => by rw [show escT [] = [] from rfl, List.nil_append, quoT.eq_def]; simp
  | c :: tx, h => by
    have hc : (c.toNat = 10 ∨ (32 ≤ c.toNat ∧ c.toNat ≤ 126)) ∧ plainB tx = true := by
      unfold plainB at *; rw [List.all_cons, Bool.and_eq_true] at h; simpa using h
    have ih := quoT_esc r tx hc.2
    rw [escT]
    split
    · rename_i h1
      rw [List.cons_append, List.cons_append, quoT.eq_def]
      have a1 : (92 : UInt8).toNat = 92 := rfl
      simp [a1, ih, h1]
    · rename_i h1
      split
      · rename_i h2
        rw [List.cons_append, List.cons_append, quoT.eq_def]
        have a1 : (92 : UInt8).toNat = 92 := rfl
        have a2 : (110 : UInt8).toNat = 110 := rfl
        have e10 : c = 10 := UInt8.toNat_inj.1 h2
        simp [a1, a2, ih, e10]
      · rename_i h2
        rw [List.cons_append, quoT.eq_def]
        have b1 : ¬ c.toNat = 34 := fun e => h1 (.inr e)
        have b2 : ¬ c.toNat = 92 := fun e => h1 (.inl e)
        have b3 : ¬ (c.toNat < 32 ∨ 126 < c.toNat) := by omega
        simp [b1, b2, b3, ih]
theorem quoT_src : ∀ (n : Nat) (s tx r : List UInt8), s.length = n → quoT s = some (tx, r) → s = escT tx ++ 34 :: r ∧ plainB tx = true := by
  intro n
  induction n using Nat.strongRecOn with
  | _ n ih =>
    intro s tx r hn h
    cases s with
    | nil => rw [quoT.eq_def] at h; exact absurd h (by simp)
    | cons c s =>
      rw [quoT.eq_def] at h
      simp only at h
      split at h
      · rename_i h1
        injection h with h; injection h with h2 h3
        subst h2; subst h3
        have : c = 34 := UInt8.toNat_inj.1 h1
        subst this
        exact ⟨rfl, rfl⟩
      · rename_i h1
        split at h
        · exact absurd h (by simp)
        · rename_i h2
          split at h
          · rename_i h3
            have e92 : c = 92 := UInt8.toNat_inj.1 h3
            subst e92
            cases s with
            | nil => exact absurd h (by simp)
            | cons d s =>
              simp only at h
              split at h
              · rename_i h4
                obtain ⟨⟨tx', r'⟩, hq, he⟩ := Option.map_eq_some_iff.1 h
                injection he with he1 he2
                subst he1; subst he2
                obtain ⟨e, hp⟩ := ih s.length (by rw [← hn]; simp only [List.length_cons]; omega) s tx' r' rfl hq
                refine ⟨by rw [escT, if_pos (by omega), e]; rfl, ?_⟩
                unfold plainB at *; rw [List.all_cons, hp]
                have : (decide (d.toNat = 10) || (decide (32 ≤ d.toNat) && decide (d.toNat ≤ 126))) = true := by simp; omega
                rw [this]; rfl
              · rename_i h4
                split at h
                · rename_i h5
                  obtain ⟨⟨tx', r'⟩, hq, he⟩ := Option.map_eq_some_iff.1 h
                  injection he with he1 he2
                  subst he1; subst he2
                  obtain ⟨e, hp⟩ := ih s.length (by rw [← hn]; simp only [List.length_cons]; omega) s tx' r' rfl hq
                  have e110 : d = 110 := UInt8.toNat_inj.1 h5
                  subst e110
                  refine ⟨by rw [escT, if_neg (by decide), if_pos (by decide), e]; rfl, ?_⟩
                  unfold plainB at *; rw [List.all_cons, hp]; rfl
                · exact absurd h (by simp)
          · rename_i h3
            obtain ⟨⟨tx', r'⟩, hq, he⟩ := Option.map_eq_some_iff.1 h
            injection he with he1 he2
            subst he1; subst he2
            obtain ⟨e, hp⟩ := ih s.length (by rw [← hn]; simp only [List.length_cons]; omega) s tx' r' rfl hq
            refine ⟨by rw [escT, if_neg (by omega), if_neg (by omega), e]; rfl, ?_⟩
            unfold plainB at *; rw [List.all_cons, hp]
            have : (decide (c.toNat = 10) || (decide (32 ≤ c.toNat) && decide (c.toNat ≤ 126))) = true := by simp; omega
            rw [this]; rfl
end Go.Proofs.YtmcnhggpmlhgeaaGreatDoor
namespace Go.Proofs.YtmcnhggpmlhgeaaGreatDoor
open Go.RowKit Go.Proofs.BitsM
theorem tk_all (q : UInt8 → Bool) (l : List UInt8) (c : UInt8) (h : c ∈ l.takeWhile q) : q c = true := by
  induction l with
  | nil => simp at h
  | cons a l ih =>
    rw [List.takeWhile_cons] at h
    split at h
    · rename_i ha
      rcases List.mem_cons.1 h with rfl | h
      · exact ha
      · exact ih h
    · simp at h
theorem tokT_head {c : UInt8} (s : List UInt8) (h : headC c = true) : tokT (c :: s) = nameT c (c :: s) := by rw [tokT, if_pos h]
theorem tokT_num {c : UInt8} (s : List UInt8) (h : numC c = true) : tokT (c :: s) = numT (c :: s) := by
  rw [tokT, if_neg (by rw [num_not_head h]; exact Bool.false_ne_true), if_pos h]
theorem tokT_quo {c : UInt8} (s : List UInt8) (h : c.toNat = 34) : tokT (c :: s) = match quoT s with | none => .bad 93 | some z => .tok 4 z.1 0 z.2 := by
  have h1 : headC c = false := by rw [← Bool.not_eq_true, headC_iff]; omega
  have h2 : numC c = false := by rw [← Bool.not_eq_true, numC_iff]; omega
  rw [tokT, h1, h2, if_pos h]; rfl
theorem tokT_else {c : UInt8} (s : List UInt8) (h1 : headC c = false) (h2 : numC c = false) (h3 : ¬ c.toNat = 34) : tokT (c :: s) = if signN (c :: s) = 0 then .bad 90 else .tok 6 ((c :: s).take (signN (c :: s))) 0 ((c :: s).drop (signN (c :: s))) := by
  rw [tokT, h1, h2, if_neg h3]; rfl
theorem name_text {c : UInt8} {x r : List UInt8} (hc : headC c = true) (hall : ∀ d ∈ c :: x, namC d = true) (hl : (c :: x).length ≤ 32) (hr : stops namC r) : tokT ((c :: x) ++ r) = .tok (if resB (c :: x) then 5 else if smallC c then 1 else 2) (c :: x) 0 r := by
  rw [List.cons_append, tokT_head _ hc, ← List.cons_append, nameT]
  have h := span_stop hall hr
  simp only [h.1, h.2, if_neg (Nat.not_lt.2 hl)]
theorem small_not_word {c : UInt8} {x : List UInt8} (h : smallC c = false) : resB (c :: x) = false := by
  rw [← Bool.not_eq_true]; intro h2
  obtain ⟨_, _, c', r, e, h3⟩ := word_ok h2
  injection e with e1 _
  rw [← e1, h] at h3; exact Bool.noConfusion h3
theorem last_nam {x : List UInt8} {c : UInt8} (h : ∀ d ∈ x, namC d = true) (hc : x.getLast? = some c) : namC c = true := h c (List.mem_of_getLast? hc)
theorem varB_iff (s : List UInt8) : varB s = true ↔ s.length ≤ 32 ∧ (∀ c ∈ s, namC c = true) ∧ ∃ c r, s = c :: r ∧ headC c = true ∧ smallC c = false := by
  unfold varB
  rw [Bool.and_eq_true, Bool.and_eq_true, Bool.and_eq_true, decide_eq_true_eq, decide_eq_true_eq, List.all_eq_true]
  cases s with
  | nil => simp
  | cons c r =>
    have e : (capC c || decide (c.toNat = 95)) = true ↔ headC c = true ∧ smallC c = false := by
      rw [Bool.or_eq_true, decide_eq_true_eq, capC_iff, headC_iff, ← Bool.not_eq_true (smallC c), smallC_iff]; omega
    constructor
    · rintro ⟨⟨⟨_, h2⟩, h3⟩, h4⟩
      exact ⟨h2, h3, c, r, rfl, e.1 h4⟩
    · rintro ⟨h2, h3, c', r', h4, h5⟩
      injection h4 with h4 _
      subst h4
      exact ⟨⟨⟨by simp, h2⟩, h3⟩, e.2 h5⟩
/-- the kinds of a valid token -/
theorem valid_cases {t : Tok} (h : validTk t = true) : (t.k = 3 ∧ t.tx = [] ∧ t.n ≤ 9223372036854775808) ∨ (t.n = 0 ∧ ((t.k = 1 ∧ nameB ⟨t.tx.toArray⟩ = true ∧ resB t.tx = false) ∨ (t.k = 2 ∧ varB t.tx = true) ∨ (t.k = 4 ∧ plainB t.tx = true) ∨ (t.k = 5 ∧ resB t.tx = true) ∨ (t.k = 6 ∧ signB t.tx = true))) := by
  unfold validTk at h
  split at h
  · rename_i h3
    rw [Bool.and_eq_true, List.isEmpty_iff, decide_eq_true_eq] at h
    exact .inl ⟨h3, h.1, h.2⟩
  · split at h
    · exact absurd h Bool.false_ne_true
    · rename_i h0
      refine .inr ⟨Classical.not_not.1 h0, ?_⟩
      split at h
      · rename_i h1
        rw [Bool.and_eq_true, Bool.not_eq_true'] at h
        exact .inl ⟨h1, h.1, h.2⟩
      · split at h
        · rename_i h1; exact .inr (.inl ⟨h1, h⟩)
        · split at h
          · rename_i h1; exact .inr (.inr (.inl ⟨h1, h⟩))
          · split at h
            · rename_i h1; exact .inr (.inr (.inr (.inl ⟨h1, h⟩)))
            · split at h
              · rename_i h1; exact .inr (.inr (.inr (.inr ⟨h1, h⟩)))
              · exact absurd h Bool.false_ne_true
theorem text_plain {t : Tok} (h3 : t.k ≠ 3) (h4 : t.k ≠ 4) : textTk t = t.tx := by unfold textTk; rw [if_neg h3, if_neg h4]
theorem text_int {t : Tok} (h3 : t.k = 3) : textTk t = Lib.decDigits t.n := by unfold textTk; rw [if_pos h3]
theorem text_str {t : Tok} (h4 : t.k = 4) : textTk t = 34 :: (escT t.tx ++ [34]) := by unfold textTk; rw [h4]; rfl
/-- the text of a valid token is not empty, and begins with none of the bytes that are passed -/
theorem text_head {t : Tok} (h : validTk t = true) : ∃ c s, textTk t = c :: s ∧ wsC c = false ∧ c.toNat ≠ 37 := by
  rcases valid_cases h with ⟨hk, _, _⟩ | ⟨_, ⟨hk, hn, _⟩ | ⟨hk, hv⟩ | ⟨hk, _⟩ | ⟨hk, hw⟩ | ⟨hk, hs⟩⟩
  · rw [text_int hk]
    cases hd : Lib.decDigits t.n with
    | nil => exact absurd hd (dec_ne _)
    | cons c s =>
      have := (isD_iff c).1 (dec_all t.n c (by rw [hd]; simp))
      exact ⟨c, s, rfl, by rw [← Bool.not_eq_true, wsC_iff]; omega, by omega⟩
  · obtain ⟨_, _, c, r, e, hc⟩ := (nameB_iff _).1 hn
    rw [text_plain (by omega) (by omega), e]
    rw [smallC_iff] at hc
    exact ⟨c, r, rfl, by rw [← Bool.not_eq_true, wsC_iff]; omega, by omega⟩
  · obtain ⟨_, _, c, r, e, hc, _⟩ := (varB_iff _).1 hv
    rw [text_plain (by omega) (by omega), e]
    rw [headC_iff] at hc
    exact ⟨c, r, rfl, by rw [← Bool.not_eq_true, wsC_iff]; omega, by omega⟩
  · rw [text_str hk]
    exact ⟨34, _, rfl, by decide, by decide⟩
  · obtain ⟨_, _, c, r, e, hc⟩ := word_ok hw
    rw [text_plain (by omega) (by omega), e]
    rw [smallC_iff] at hc
    exact ⟨c, r, rfl, by rw [← Bool.not_eq_true, wsC_iff]; omega, by omega⟩
  · rw [text_plain (by omega) (by omega)]
    obtain ⟨_, hall, hne⟩ := signB_ok hs
    cases e : t.tx with
    | nil => exact absurd e hne
    | cons c r =>
      have := sign_one_of (hall c (by rw [e]; simp))
      exact ⟨c, r, rfl, this.2.2.1, this.2.2.2.1⟩
theorem numV_dec (u : Nat) : numV (Lib.decDigits u) = u := dec_val u
/-- the text of a valid token is scanned as it -/
theorem tok_text {t : Tok} (h : validTk t = true) {r : List UInt8} (hf : fits t r) : tokT (textTk t ++ r) = .tok t.k t.tx t.n r := by
  rcases valid_cases h with ⟨hk, htx, hn⟩ | ⟨h0, ⟨hk, hn, hw⟩ | ⟨hk, hv⟩ | ⟨hk, hp⟩ | ⟨hk, hw⟩ | ⟨hk, hs⟩⟩
  · have hall : ∀ c ∈ Lib.decDigits t.n, numC c = true := dec_all t.n
    rw [text_int hk]
    have hst : stops namC r := by
      have hf1 := hf.1; rw [text_int hk] at hf1
      cases hl : (Lib.decDigits t.n).getLast? with
      | none => exact absurd (List.getLast?_eq_none_iff.1 hl) (dec_ne _)
      | some c => exact hf1 c hl (num_nam (hall c (List.mem_of_getLast? hl)))
    have hst2 : stops numC r := fun c t e => by
      have := hst c t e
      rw [← Bool.not_eq_true]; intro q; rw [num_nam q] at this; exact Bool.noConfusion this
    cases hd : Lib.decDigits t.n with
    | nil => exact absurd hd (dec_ne _)
    | cons c s =>
      rw [List.cons_append, tokT_num _ (hall c (by rw [hd]; simp)), ← List.cons_append, ← hd, numT]
      have hsp := span_stop hall hst2
      have hok : numOk (Lib.decDigits t.n) r = true := by
        unfold numOk
        rw [numV_dec, decide_eq_true hn]
        have h1 : (decide (1 < (Lib.decDigits t.n).length) && decide ((Lib.decDigits t.n).head? = some 48)) = false := by
          rw [← Bool.decide_and, decide_eq_false_iff_not]
          rintro ⟨h1, h2⟩
          have := ((formD_iff _).1 (dec_form t.n)).2.2 h2
          omega
        rw [h1]
        cases r with
        | nil => rfl
        | cons d r => simp [hst d r rfl]
      simp only [hsp.1, hsp.2, hok, if_true, numV_dec]
      rw [hk, htx]
  · obtain ⟨hl, hall, c, x, e, hc⟩ := (nameB_iff _).1 hn
    rw [text_plain (by omega) (by omega), e]
    have hst : stops namC r := by
      have hf1 := hf.1; rw [text_plain (by omega) (by omega), e] at hf1
      cases hg : (c :: x).getLast? with
      | none => simp at hg
      | some d => exact hf1 d hg (hall d (e ▸ List.mem_of_getLast? hg))
    rw [name_text (small_head hc) (e ▸ hall) (e ▸ hl) hst, ← e, hw, hc, hk, h0]; rfl
  · obtain ⟨hl, hall, c, x, e, hc, hs⟩ := (varB_iff _).1 hv
    rw [text_plain (by omega) (by omega), e]
    have hst : stops namC r := by
      have hf1 := hf.1; rw [text_plain (by omega) (by omega), e] at hf1
      cases hg : (c :: x).getLast? with
      | none => simp at hg
      | some d => exact hf1 d hg (hall d (e ▸ List.mem_of_getLast? hg))
    rw [name_text hc (e ▸ hall) (e ▸ hl) hst, small_not_word hs, hs, hk, h0]; rfl
  · rw [text_str hk, List.cons_append, tokT_quo _ rfl, List.append_assoc, List.singleton_append, quoT_esc r t.tx hp, hk, h0]
  · obtain ⟨hl, hall, c, x, e, hc⟩ := word_ok hw
    rw [text_plain (by omega) (by omega), e]
    have hst : stops namC r := by
      have hf1 := hf.1; rw [text_plain (by omega) (by omega), e] at hf1
      cases hg : (c :: x).getLast? with
      | none => simp at hg
      | some d => exact hf1 d hg (hall d (e ▸ List.mem_of_getLast? hg))
    rw [name_text (small_head hc) (e ▸ hall) (e ▸ hl) hst, ← e, hw, hk, h0]; rfl
  · have hf2 := hf.2 hk
    rw [text_plain (by omega) (by omega)] at hf2 ⊢
    obtain ⟨_, hall, hne⟩ := signB_ok hs
    cases e : t.tx with
    | nil => exact absurd e hne
    | cons c x =>
      have hc := sign_one_of (hall c (by rw [e]; simp))
      have h1 : headC c = false := by rw [← Bool.not_eq_true]; intro q; rw [head_nam q] at hc; exact Bool.noConfusion hc.2.1
      have h2 : numC c = false := by rw [← Bool.not_eq_true]; intro q; rw [num_nam q] at hc; exact Bool.noConfusion hc.2.1
      rw [e] at hf2
      rw [List.cons_append, tokT_else _ h1 h2 hc.2.2.2.2, ← List.cons_append, hf2, if_neg (by simp), List.take_left', List.drop_left', hk, h0] <;> rfl
/-- what is scanned is valid, and was its text -/
theorem tok_src {s : List UInt8} {k : Int} {tx : List UInt8} {n : Nat} {r : List UInt8} (h : tokT s = .tok k tx n r) (pos : Int) : validTk ⟨k, tx, n, pos⟩ = true ∧ s = textTk ⟨k, tx, n, pos⟩ ++ r ∧ fits ⟨k, tx, n, pos⟩ r := by
  cases s with
  | nil => exact absurd h (by simp [tokT])
  | cons c s =>
    by_cases h1 : headC c = true
    · rw [tokT_head _ h1, nameT] at h
      split at h
      · exact absurd h (by simp)
      · rename_i hl
        injection h with hk htx hn hr
        have hst : stops namC r := by
          intro d t e
          rw [← hr] at e
          have := List.head?_dropWhile_not namC (c :: s)
          rw [e] at this; simpa using this
        have hall : ∀ d ∈ tx, namC d = true := by rw [← htx]; exact fun d hd => tk_all namC _ d hd
        have hcat : c :: s = tx ++ r := by rw [← htx, ← hr]; exact (List.takeWhile_append_dropWhile).symm
        obtain ⟨x, hx⟩ : ∃ x, tx = c :: x := ⟨s.takeWhile namC, by rw [← htx, List.takeWhile_cons, if_pos (head_nam h1)]⟩
        have hlen : tx.length ≤ 32 := by rw [← htx]; omega
        subst hn
        rw [htx] at hk
        have hkn : k ≠ 3 ∧ k ≠ 4 ∧ k ≠ 6 := by
          rw [← hk]; split
          · decide
          · split <;> decide
        refine ⟨?_, by rw [text_plain (t := ⟨k, tx, 0, pos⟩) hkn.1 hkn.2.1]; exact hcat, fun d _ _ => hst, fun e => absurd e hkn.2.2⟩
        unfold validTk
        simp only [if_neg hkn.1, ne_eq, not_true_eq_false, if_false]
        cases hw : resB tx with
        | true => rw [hw] at hk; simp only [if_true] at hk; subst hk; rfl
        | false =>
          rw [hw] at hk; simp only [Bool.false_eq_true, if_false] at hk
          cases hsm : smallC c with
          | true =>
            rw [hsm] at hk; simp only [if_true] at hk; subst hk
            simp only [if_true, Bool.not_false, Bool.and_true]
            exact (nameB_iff _).2 ⟨hlen, hall, c, x, hx, hsm⟩
          | false =>
            rw [hsm] at hk; simp only [Bool.false_eq_true, if_false] at hk; subst hk
            exact (varB_iff _).2 ⟨hlen, hall, c, x, hx, h1, hsm⟩
    · by_cases h2 : numC c = true
      · rw [tokT_num _ h2, numT] at h
        split at h
        · rename_i hok
          injection h with hk htx hn hr
          subst hk; subst htx; subst hn
          unfold numOk at hok
          rw [Bool.and_eq_true, Bool.and_eq_true, decide_eq_true_eq] at hok
          obtain ⟨⟨hv, hlead⟩, hrest⟩ := hok
          have hform : formD ((c :: s).takeWhile numC) = true := by
            refine (formD_iff _).2 ⟨by rw [List.takeWhile_cons, if_pos h2]; simp, fun d hd => tk_all numC _ d hd, fun e => ?_⟩
            rw [e] at hlead
            have : ¬ 1 < ((c :: s).takeWhile numC).length := by simpa using hlead
            have h3 : 0 < ((c :: s).takeWhile numC).length := by rw [List.takeWhile_cons, if_pos h2]; simp
            omega
          have hdec : Lib.decDigits (numV ((c :: s).takeWhile numC)) = (c :: s).takeWhile numC := val_dec _ _ rfl hform
          have hst : stops namC r := by
            intro d t e
            rw [hr, e] at hrest
            simpa using hrest
          refine ⟨?_, ?_, fun d _ _ => hst, fun e => absurd (show (3 : Int) = 6 from e) (by decide)⟩
          · unfold validTk; simp [hv]
          · rw [text_int (t := ⟨3, [], _, pos⟩) rfl, hdec, ← hr]; exact (List.takeWhile_append_dropWhile).symm
        · exact absurd h (by simp)
      · by_cases h3 : c.toNat = 34
        · rw [tokT_quo _ h3] at h
          cases hq : quoT s with
          | none => rw [hq] at h; exact absurd h (by simp)
          | some z =>
            rw [hq] at h
            obtain ⟨z1, z2⟩ := z
            injection h with hk htx hn hr
            subst hk; subst htx; subst hn; subst hr
            obtain ⟨e, hp⟩ := quoT_src s.length s _ _ rfl hq
            have hc : c = 34 := UInt8.toNat_inj.1 h3
            refine ⟨hp, by rw [text_str (t := ⟨4, z1, 0, pos⟩) rfl, hc, e]; simp, ?_, fun e => absurd (show (4 : Int) = 6 from e) (by decide)⟩
            intro d hd hd2
            rw [text_str (t := ⟨4, z1, 0, pos⟩) rfl, ← List.cons_append, List.getLast?_concat] at hd
            injection hd with hd
            subst hd
            exact absurd hd2 (by decide)
        · rw [Bool.not_eq_true] at h1 h2
          rw [tokT_else _ h1 h2 h3] at h
          split at h
          · exact absurd h (by simp)
          · rename_i h0
            injection h with hk htx hn hr
            subst hk; subst hn
            obtain ⟨hB, hlen⟩ := signN_take h0
            rw [htx] at hB hlen
            have hcat : c :: s = tx ++ r := by rw [← htx, ← hr]; exact (List.take_append_drop _ _).symm
            have htt : textTk ⟨6, tx, 0, pos⟩ = tx := text_plain (show (6 : Int) ≠ 3 by decide) (show (6 : Int) ≠ 4 by decide)
            refine ⟨hB, by rw [htt]; exact hcat, ?_, fun _ => ?_⟩
            · intro d hd hd2
              rw [htt] at hd
              have := sign_one_of ((signB_ok hB).2.1 d (List.mem_of_getLast? hd))
              rw [this.2.1] at hd2; exact Bool.noConfusion hd2
            · rw [htt, ← hcat, hlen]
end Go.Proofs.YtmcnhggpmlhgeaaGreatDoor
namespace Go.Proofs.YtmcnhggpmlhgeaaGreatDoor
open Go.RowKit Go.Proofs.BitsM
theorem nam32 : namC 32 = false := by decide
theorem stops_nil (q : UInt8 → Bool) : stops q [] := fun _ _ e => by simp at e
theorem stops_cons {q : UInt8 → Bool} {c : UInt8} (r : List UInt8) (h : q c = false) : stops q (c :: r) := fun d t e => by injection e with e1 _; rw [← e1]; exact h
theorem valid_sign {t : Tok} (h : validTk t = true) (hk : t.k = 6) : signB t.tx = true := by
  rcases valid_cases h with ⟨h3, _, _⟩ | ⟨_, ⟨h1, _⟩ | ⟨h1, _⟩ | ⟨h1, _⟩ | ⟨h1, _⟩ | ⟨_, hs⟩⟩
  · omega
  · omega
  · omega
  · omega
  · omega
  · exact hs
theorem sign_text_last {t : Tok} (h : validTk t = true) (hk : t.k = 6) {c : UInt8} (hc : (textTk t).getLast? = some c) : namC c = false := by
  rw [text_plain (by omega) (by omega)] at hc
  exact (sign_one_of ((signB_ok (valid_sign h hk)).2.1 c (List.mem_of_getLast? hc))).2.1
/-- what does not begin with a sign begins with no byte of a sign -/
theorem no_sign_head {t : Tok} (h : validTk t = true) (hk : t.k ≠ 6) : ∃ c s, textTk t = c :: s ∧ sign1.contains c = false := by
  rcases valid_cases h with ⟨hk3, _, _⟩ | ⟨_, ⟨hk1, hn, _⟩ | ⟨hk2, hv⟩ | ⟨hk4, _⟩ | ⟨hk5, hw⟩ | ⟨h6, _⟩⟩
  · rw [text_int hk3]
    cases hd : Lib.decDigits t.n with
    | nil => exact absurd hd (dec_ne _)
    | cons c s => exact ⟨c, s, rfl, not_sign_of_nam (num_nam (dec_all t.n c (by rw [hd]; simp)))⟩
  · obtain ⟨_, ha, c, r, e, _⟩ := (nameB_iff _).1 hn
    rw [text_plain (by omega) (by omega), e]
    exact ⟨c, r, rfl, not_sign_of_nam (ha c (by rw [e]; simp))⟩
  · obtain ⟨_, ha, c, r, e, _⟩ := (varB_iff _).1 hv
    rw [text_plain (by omega) (by omega), e]
    exact ⟨c, r, rfl, not_sign_of_nam (ha c (by rw [e]; simp))⟩
  · rw [text_str hk4]; exact ⟨34, _, rfl, by decide⟩
  · obtain ⟨_, ha, c, r, e, _⟩ := word_ok hw
    rw [text_plain (by omega) (by omega), e]
    exact ⟨c, r, rfl, not_sign_of_nam (ha c (by rw [e]; simp))⟩
  · exact absurd h6 hk
theorem fits_nil {t : Tok} (h : validTk t = true) : fits t [] := by
  refine ⟨fun _ _ _ => stops_nil _, fun hk => ?_⟩
  rw [List.append_nil, text_plain (by omega) (by omega)]
  exact (signB_ok (valid_sign h hk)).1
theorem fits_blank {t : Tok} (h : validTk t = true) (r : List UInt8) : fits t (32 :: r) := by
  refine ⟨fun _ _ _ => stops_cons _ nam32, fun hk => ?_⟩
  rw [signN_app _ _ (by decide), text_plain (by omega) (by omega)]
  exact (signB_ok (valid_sign h hk)).1
theorem spec_iff (a b : Tok) : spec a b = true ↔ a.k = 6 ∧ a.tx = [61] ∧ b.k = 6 ∧ (b.tx = [58] ∨ b.tx = [47]) := by unfold spec; simp [and_assoc]
theorem joinB_eq {a b : Tok} {c d : UInt8} {s : List UInt8} (hx : (textTk a).getLast? = some c) (hy : textTk b = d :: s) : joinB a b = if namC c then namC d else if a.k ≠ 6 ∨ b.k ≠ 6 then false else if textTk a = [61] ∧ (textTk b = [58] ∨ textTk b = [47]) then true else decide (signN (textTk a ++ textTk b) ≠ (textTk a).length) := by
  unfold joinB
  simp only [hx, hy]
theorem text_last {t : Tok} (h : validTk t = true) : ∃ c, (textTk t).getLast? = some c := by
  obtain ⟨c, s, e, _⟩ := text_head h
  rw [e]; exact ⟨_, List.getLast?_eq_some_getLast (by simp)⟩
/-- what is joined without a blank is scanned apart -/
theorem fits_join {a b : Tok} (ha : validTk a = true) (hb : validTk b = true) (h : joinB a b = false) (z : List UInt8) : fits a (textTk b ++ z) := by
  obtain ⟨c, hc⟩ := text_last ha
  obtain ⟨d, s, hd, _⟩ := text_head hb
  rw [joinB_eq hc hd] at h
  refine ⟨?_, ?_⟩
  · intro c' hc' hn
    rw [hc] at hc'; injection hc' with hc'; subst hc'
    rw [if_pos hn] at h
    rw [hd]; exact stops_cons _ h
  · intro hk
    have hn := sign_text_last ha hk hc
    rw [hn, if_neg Bool.false_ne_true] at h
    by_cases hk2 : b.k = 6
    · rw [if_neg (by simp [hk, hk2])] at h
      split at h
      · exact absurd h (by simp)
      · rename_i hs
        have h2 : signN (textTk a ++ textTk b) = (textTk a).length := by simpa using h
        rw [text_plain (t := a) (by omega) (by omega)] at *
        exact sign_more (valid_sign ha hk) (by rw [hd]; simp) hs h2
    · obtain ⟨d', s', hd', hsg⟩ := no_sign_head hb hk2
      rw [hd', List.cons_append, signN_app _ _ hsg, text_plain (by omega) (by omega)]
      exact (signB_ok (valid_sign ha hk)).1
theorem join_fits {a b : Tok} (ha : validTk a = true) (hb : validTk b = true) {z : List UInt8} (h : fits a (textTk b ++ z)) : joinB a b = spec a b := by
  obtain ⟨c, hc⟩ := text_last ha
  obtain ⟨d, s, hd, _⟩ := text_head hb
  rw [joinB_eq hc hd]
  cases hn : namC c with
  | true =>
    have hk : a.k ≠ 6 := fun hk => by rw [sign_text_last ha hk hc] at hn; exact Bool.noConfusion hn
    have := h.1 c hc hn d (s ++ z) (by rw [hd]; rfl)
    rw [if_pos rfl, this]
    exact ((Bool.not_eq_true _).mp fun q => hk ((spec_iff a b).1 q).1).symm
  | false =>
    rw [if_neg Bool.false_ne_true]
    by_cases hk : a.k ≠ 6 ∨ b.k ≠ 6
    · rw [if_pos hk]
      exact ((Bool.not_eq_true _).mp fun q => by have := (spec_iff a b).1 q; rcases hk with h | h <;> omega).symm
    · rw [if_neg hk]
      have hk1 : a.k = 6 := Classical.not_not.1 fun q => hk (.inl q)
      have hk2 : b.k = 6 := Classical.not_not.1 fun q => hk (.inr q)
      have ea : textTk a = a.tx := text_plain (by omega) (by omega)
      have eb : textTk b = b.tx := text_plain (by omega) (by omega)
      have h2 := h.2 hk1
      rw [ea] at h2 ⊢
      have h3 := sign_less (valid_sign ha hk1) h2
      rw [eb] at h3 ⊢
      by_cases hs : a.tx = [61] ∧ (b.tx = [58] ∨ b.tx = [47])
      · rw [if_pos hs]; exact ((spec_iff a b).2 ⟨hk1, hs.1, hk2, hs.2⟩).symm
      · rw [if_neg hs, h3]
        have : spec a b = false := by rw [← Bool.not_eq_true, spec_iff]; exact fun q => hs ⟨q.2.1, q.2.2.2⟩
        rw [this]; simp
/-! scanning -/
theorem skip_len : ∀ (i : Bool) (s : List UInt8), (skipT i s).length ≤ s.length
  | _, [] => by simp [skipT]
  | i, c :: r => by
    rw [skipT]; split
    · exact Nat.le_succ_of_le (skip_len _ r)
    · exact Nat.le_refl _
theorem skip_self {i : Bool} {s : List UInt8} (h : s.length ≤ (skipT i s).length) : skipT i s = s := by
  cases s with
  | nil => rfl
  | cons c r =>
    rw [skipT] at h ⊢
    split
    · rename_i q
      rw [if_pos q] at h
      have := skip_len ((i && decide (c.toNat ≠ 10)) || decide (c.toNat = 37)) r
      simp only [List.length_cons] at h; omega
    · rfl
theorem skip_head {c : UInt8} (s : List UInt8) (h : wsC c = false) (h2 : c.toNat ≠ 37) : skipT false (c :: s) = c :: s := by
  rw [skipT, if_neg]
  simp [h, h2]
theorem skip_blank (s : List UInt8) : skipT false (32 :: s) = skipT false s := by
  rw [skipT, if_pos (by decide)]; rfl
theorem tok_len {s : List UInt8} {k : Int} {tx : List UInt8} {n : Nat} {r : List UInt8} (h : tokT s = .tok k tx n r) : r.length < s.length := by
  obtain ⟨hv, hs, _⟩ := tok_src h 0
  obtain ⟨c, x, e, _⟩ := text_head hv
  rw [hs, e]; simp; omega
theorem scan_fuel (len : Nat) : ∀ (j j' : Nat) (s : List UInt8), s.length < j → s.length < j' → scanT len j s = scanT len j' s
  | 0, _, s, h, _ => absurd h (Nat.not_lt_zero _)
  | _ + 1, 0, s, _, h => absurd h (Nat.not_lt_zero _)
  | j + 1, j' + 1, s, h, h' => by
    rw [scanT, scanT]
    have hl := skip_len false s
    cases hs : skipT false s with
    | nil => rfl
    | cons c r =>
      rw [hs] at hl
      simp only
      cases ht : tokT (c :: r) with
      | bad e => rfl
      | tok k tx n rest =>
        have := tok_len ht
        simp only
        rw [scan_fuel len j j' rest (by omega) (by omega)]
/-- all of a text scanned -/
def scanF (len : Nat) (s : List UInt8) : SR := scanT len (s.length + 1) s
theorem scanF_nil {len : Nat} {s : List UInt8} (h : skipT false s = []) : scanF len s = .ok [] := by
  unfold scanF; rw [scanT, h]
theorem scanF_bad {len : Nat} {s s' : List UInt8} {e : Int} (h : skipT false s = s') (h0 : s' ≠ []) (ht : tokT s' = .bad e) : scanF len s = .bad (len - s'.length) e := by
  unfold scanF; rw [scanT, h]
  cases s' with
  | nil => exact absurd rfl h0
  | cons c r => simp only [ht]
theorem scanF_tok {len : Nat} {s s' : List UInt8} {k : Int} {tx : List UInt8} {n : Nat} {r : List UInt8} (h : skipT false s = s') (ht : tokT s' = .tok k tx n r) : scanF len s = match scanF len r with | .bad p e => .bad p e | .ok l => .ok (⟨k, tx, n, ((len - s'.length : Nat) : Int)⟩ :: l) := by
  have h1 := tok_len ht
  have h2 := skip_len false s
  rw [h] at h2
  unfold scanF
  rw [scan_fuel len (r.length + 1) s.length r (by omega) (by omega), scanT, h]
  cases s' with
  | nil => exact absurd ht (by simp [tokT])
  | cons c x =>
    simp only [ht]
    cases scanT len s.length r <;> rfl
theorem scanL_eq {s : List UInt8} (h : s.length ≤ 65536) : scanL s = scanF s.length s := by unfold scanL scanF; rw [if_neg (by omega)]
theorem scanL_long {s : List UInt8} (h : 65536 < s.length) : scanL s = .bad 0 3 := by unfold scanL; rw [if_pos h]
def sameL : List Tok → List Tok → Bool
  | [], [] => true
  | a :: l, b :: m => sameTk a b && sameL l m
  | _, _ => false
theorem sameTk_iff (a b : Tok) : sameTk a b = true ↔ a.k = b.k ∧ a.tx = b.tx ∧ a.n = b.n := by unfold sameTk; simp [and_assoc]
theorem sameL_refl : ∀ l, sameL l l = true
  | [] => rfl
  | a :: l => by rw [sameL, sameL_refl l, (sameTk_iff a a).2 ⟨rfl, rfl, rfl⟩]; rfl
theorem same_text {a b : Tok} (h : sameTk a b = true) : textTk a = textTk b := by
  obtain ⟨h1, h2, h3⟩ := (sameTk_iff a b).1 h
  unfold textTk; rw [h1, h2, h3]
theorem same_join {a b a' b' : Tok} (h : sameTk a a' = true) (h2 : sameTk b b' = true) : joinB a b = joinB a' b' := by
  unfold joinB; rw [same_text h, same_text h2, ((sameTk_iff _ _).1 h).1, ((sameTk_iff _ _).1 h2).1]
/-- what stands behind the first token -/
def sepJ (a : Tok) : List Tok → List UInt8
  | [] => []
  | b :: r => if joinB a b then 32 :: joinTk (b :: r) else joinTk (b :: r)
theorem joinTk_cons (a : Tok) (r : List Tok) : joinTk (a :: r) = textTk a ++ sepJ a r := by rw [joinTk.eq_def]; cases r <;> rfl
theorem sepJ_cons (a b : Tok) (r : List Tok) : sepJ a (b :: r) = if joinB a b then 32 :: joinTk (b :: r) else joinTk (b :: r) := rfl
theorem joinTk_same : ∀ {l m : List Tok}, sameL l m = true → joinTk l = joinTk m
  | [], [], _ => rfl
  | [], _ :: _, h => absurd h Bool.false_ne_true
  | _ :: _, [], h => absurd h Bool.false_ne_true
  | a :: l, b :: m, h => by
    rw [sameL, Bool.and_eq_true] at h
    have ih := joinTk_same h.2
    rw [joinTk_cons, joinTk_cons, same_text h.1]
    match l, m, h.2 with
    | [], [], _ => rfl
    | [], _ :: _, h => exact absurd h Bool.false_ne_true
    | _ :: _, [], h => exact absurd h Bool.false_ne_true
    | a' :: l, b' :: m, h' =>
      rw [sameL, Bool.and_eq_true] at h'
      rw [sepJ_cons, sepJ_cons, same_join h.1 h'.1, ih]
theorem fits_sep {a : Tok} {r : List Tok} (ha : validTk a = true) (hr : ∀ t ∈ r, validTk t = true) : fits a (sepJ a r) := by
  cases r with
  | nil => exact fits_nil ha
  | cons b r =>
    rw [sepJ_cons]
    cases h : joinB a b with
    | true => exact fits_blank ha _
    | false =>
      rw [if_neg Bool.false_ne_true, joinTk_cons]
      exact fits_join ha (hr b (by simp)) h _
/-- what is joined is scanned as the same tokens -/
theorem scan_join (len : Nat) : ∀ l : List Tok, (∀ t ∈ l, validTk t = true) → ∃ m, scanF len (joinTk l) = .ok m ∧ sameL l m = true
  | [], _ => ⟨[], scanF_nil rfl, rfl⟩
  | a :: r, h => by
    have ha := h a (by simp)
    have hr : ∀ t ∈ r, validTk t = true := fun t ht => h t (by simp [ht])
    obtain ⟨m, hm, hs⟩ := scan_join len r hr
    obtain ⟨c, x, e, h1, h2⟩ := text_head ha
    have hsk : skipT false (joinTk (a :: r)) = textTk a ++ sepJ a r := by rw [joinTk_cons, e]; exact skip_head _ h1 h2
    have hrest : scanF len (sepJ a r) = scanF len (joinTk r) := by
      cases r with
      | nil => rfl
      | cons b r =>
        rw [sepJ_cons]
        split
        · unfold scanF
          rw [scan_fuel len _ ((32 :: joinTk (b :: r)).length + 1) (joinTk (b :: r)) (by omega) (by rw [List.length_cons]; omega), scanT, scanT, skip_blank]
        · rfl
    rw [scanF_tok hsk (tok_text ha (fits_sep ha hr)), hrest, hm]
    exact ⟨_, rfl, by rw [sameL, hs, Bool.and_true]; exact (sameTk_iff _ _).2 ⟨rfl, rfl, rfl⟩⟩
theorem joinTk_two (a b : Tok) : joinTk [a, b] = if joinB a b then textTk a ++ 32 :: textTk b else textTk a ++ textTk b := by
  rw [joinTk_cons, sepJ_cons, joinTk_cons, show sepJ b [] = [] from rfl, List.append_nil]
  split <;> rfl
/-- the document's test: are two tokens, side by side, scanned as something else? -/
theorem scan_pair {a b : Tok} (ha : validTk a = true) (hb : validTk b = true) (len : Nat) : (∃ m, scanF len (textTk a ++ textTk b) = .ok m ∧ sameL [a, b] m = true) ↔ (joinB a b = false ∨ spec a b = true) := by
  constructor
  · rintro ⟨m, hm, hs⟩
    obtain ⟨c, x, e, h1, h2⟩ := text_head ha
    have hsk : skipT false (textTk a ++ textTk b) = textTk a ++ textTk b := by rw [e]; exact skip_head _ h1 h2
    have hne : textTk a ++ textTk b ≠ [] := by rw [e]; simp
    cases ht : tokT (textTk a ++ textTk b) with
    | bad q => rw [scanF_bad hsk hne ht] at hm; exact absurd hm (by simp)
    | tok k tx n r =>
      rw [scanF_tok hsk ht] at hm
      cases hr : scanF len r with
      | bad p q => rw [hr] at hm; exact absurd hm (by simp)
      | ok l =>
        rw [hr] at hm; injection hm with hm
        rw [← hm, sameL, Bool.and_eq_true] at hs
        obtain ⟨q1, q2, q3⟩ := (sameTk_iff _ _).1 hs.1
        simp only at q1 q2 q3
        obtain ⟨hv, hsrc, hf⟩ := tok_src ht a.pos
        have hae : (⟨k, tx, n, a.pos⟩ : Tok) = a := by rw [← q1, ← q2, ← q3]
        rw [hae] at hsrc hf
        have hr2 := List.append_cancel_left hsrc
        rw [← hr2] at hf
        have := join_fits ha hb (z := []) (by rw [List.append_nil]; exact hf)
        rw [this]
        cases spec a b <;> simp
  · intro h
    have hf : fits a (textTk b) := by
      rcases h with h | h
      · have := fits_join ha hb h []
        rwa [List.append_nil] at this
      · obtain ⟨k1, t1, k2, t2⟩ := (spec_iff a b).1 h
        refine ⟨fun c hc hn => ?_, fun _ => ?_⟩
        · rw [sign_text_last ha k1 hc] at hn; exact Bool.noConfusion hn
        · rw [text_plain (t := a) (by omega) (by omega), text_plain (t := b) (by omega) (by omega), t1]
          rcases t2 with t2 | t2 <;> rw [t2] <;> decide
    obtain ⟨c, x, e, h1, h2⟩ := text_head ha
    have hsk : skipT false (textTk a ++ textTk b) = textTk a ++ textTk b := by rw [e]; exact skip_head _ h1 h2
    obtain ⟨m, hm, hs⟩ := scan_join len [b] (by simpa using hb)
    have hj : joinTk [b] = textTk b := by rw [joinTk_cons]; exact List.append_nil _
    rw [hj] at hm
    rw [scanF_tok hsk (tok_text ha hf), hm]
    exact ⟨_, rfl, by rw [sameL, hs, Bool.and_true]; exact (sameTk_iff _ _).2 ⟨rfl, rfl, rfl⟩⟩
/-! lengths -/
def moreL : List Tok → Nat
  | a :: b :: r => (if spec a b then 1 else 0) + moreL (b :: r)
  | _ => 0
theorem scan_valid (len : Nat) : ∀ (n : Nat) (s : List UInt8) (l : List Tok), s.length = n → scanF len s = .ok l → (∀ t ∈ l, validTk t = true) ∧ (joinTk l).length ≤ (skipT false s).length + moreL l ∧ ∀ b r, l = b :: r → ∃ z, skipT false s = textTk b ++ z := by
  intro n
  induction n using Nat.strongRecOn with
  | _ n ih =>
    intro s l hn h
    have hl := skip_len false s
    cases hs : skipT false s with
    | nil =>
      rw [scanF_nil hs] at h; injection h with h; subst h
      exact ⟨fun t ht => by simp at ht, by simp [joinTk], fun b r e => by simp at e⟩
    | cons c x =>
      rw [hs] at hl
      cases ht : tokT (c :: x) with
      | bad e => rw [scanF_bad hs (by simp) ht] at h; exact absurd h (by simp)
      | tok k tx m r =>
        rw [scanF_tok hs ht] at h
        have hlr := tok_len ht
        cases hr : scanF len r with
        | bad p e => rw [hr] at h; exact absurd h (by simp)
        | ok l' =>
          rw [hr] at h; injection h with h; subst h
          obtain ⟨hv, hsrc, hf⟩ := tok_src ht ((len - (c :: x).length : Nat) : Int)
          generalize ((len - (c :: x).length : Nat) : Int) = pos at *
          obtain ⟨i1, i2, i3⟩ := ih r.length (by omega) r l' rfl hr
          refine ⟨fun t ht => ?_, ?_, fun b q e => ?_⟩
          · rcases List.mem_cons.1 ht with rfl | ht
            · exact hv
            · exact i1 t ht
          · rw [hsrc, joinTk_cons, List.length_append, List.length_append]
            cases l' with
            | nil => rw [show sepJ (⟨k, tx, m, pos⟩ : Tok) [] = [] from rfl, List.length_nil]; omega
            | cons b l'' =>
              obtain ⟨z, hz⟩ := i3 b l'' rfl
              have hlk := skip_len false r
              rw [sepJ_cons, show ∀ q, moreL (q :: b :: l'') = (if spec q b then 1 else 0) + moreL (b :: l'') from fun _ => rfl]
              cases hj : joinB ⟨k, tx, m, pos⟩ b with
              | false => simp only [Bool.false_eq_true, if_false]; omega
              | true =>
                simp only [if_true, List.length_cons]
                by_cases hq : r.length ≤ (skipT false r).length
                · have e := skip_self hq
                  rw [e] at hz
                  rw [hz] at hf
                  have := join_fits hv (i1 b (by simp)) hf
                  rw [hj] at this
                  rw [← this, if_pos rfl]; omega
                · omega
          · injection e with e1 e2
            exact ⟨r, by rw [← e1]; exact hsrc⟩
/-! two texts in a row -/
theorem skip_line (b : List UInt8) : ∀ (i : Bool) (s : List UInt8), skipT i (s ++ 10 :: b) = match skipT i s with | [] => skipT false b | c :: r => (c :: r) ++ 10 :: b
  | i, [] => by
    show skipT i (10 :: b) = skipT false b
    rw [skipT, if_pos (by simp [wsC]), show ((i && decide ((10 : UInt8).toNat ≠ 10)) || decide ((10 : UInt8).toNat = 37)) = false from by simp]
  | i, c :: r => by
    rw [List.cons_append, skipT, skipT]
    split
    · exact skip_line b _ r
    · rfl
theorem tw_line (q : UInt8 → Bool) (h10 : q 10 = false) (b : List UInt8) : ∀ s : List UInt8, (s ++ 10 :: b).takeWhile q = s.takeWhile q ∧ (s ++ 10 :: b).dropWhile q = s.dropWhile q ++ 10 :: b
  | [] => by simp [h10]
  | c :: s => by
    have ih := tw_line q h10 b s
    cases h : q c with
    | true => simp [h, ih.1, ih.2]
    | false => simp [h]
theorem quo_line (b : List UInt8) : ∀ (n : Nat) (s : List UInt8), s.length = n → quoT (s ++ 10 :: b) = (quoT s).map fun z => (z.1, z.2 ++ 10 :: b) := by
  intro n
  induction n using Nat.strongRecOn with
  | _ n ih =>
    intro s hn
    cases s with
    | nil => rw [List.nil_append, quoT.eq_def, quoT.eq_def []]; simp
    | cons c s =>
      rw [List.cons_append, quoT.eq_def, quoT.eq_def (c :: s)]
      simp only
      split
      · rfl
      · split
        · rfl
        · split
          · cases s with
            | nil => simp
            | cons d s =>
              have := ih s.length (by rw [← hn]; simp only [List.length_cons]; omega) s rfl
              simp only [List.cons_append, this]
              split
              · cases quoT s <;> rfl
              · split
                · cases quoT s <;> rfl
                · rfl
          · rw [ih s.length (by rw [← hn]; simp) s rfl]
            cases quoT s <;> rfl
theorem tok_line (b : List UInt8) (s : List UInt8) (h0 : s ≠ []) : tokT (s ++ 10 :: b) = match tokT s with | .bad e => .bad e | .tok k tx n r => .tok k tx n (r ++ 10 :: b) := by
  cases s with
  | nil => exact absurd rfl h0
  | cons c s =>
    by_cases h1 : headC c = true
    · have h := tw_line namC (by decide) b (c :: s)
      rw [List.cons_append, tokT_head _ h1, tokT_head _ h1, ← List.cons_append, nameT, nameT]
      simp only [h.1, h.2]
      split <;> rfl
    · by_cases h2 : numC c = true
      · have h := tw_line numC (by decide) b (c :: s)
        rw [List.cons_append, tokT_num _ h2, tokT_num _ h2, ← List.cons_append, numT, numT]
        simp only [h.1, h.2]
        have e : numOk ((c :: s).takeWhile numC) ((c :: s).dropWhile numC ++ 10 :: b) = numOk ((c :: s).takeWhile numC) ((c :: s).dropWhile numC) := by
          unfold numOk
          cases (c :: s).dropWhile numC with
          | nil => simp [show namC 10 = false from by decide]
          | cons d t => rfl
        rw [e]
        split <;> rfl
      · by_cases h3 : c.toNat = 34
        · rw [List.cons_append, tokT_quo _ h3, tokT_quo _ h3, quo_line b _ s rfl]
          cases quoT s <;> rfl
        · rw [Bool.not_eq_true] at h1 h2
          rw [List.cons_append, tokT_else _ h1 h2 h3, tokT_else _ h1 h2 h3, ← List.cons_append, signN_app _ _ (by decide)]
          split
          · rfl
          · have hle : signN (c :: s) ≤ (c :: s).length := by
              have := (signN_take ‹_›).2
              rw [List.length_take] at this; omega
            rw [List.take_append_of_le_length hle, List.drop_append_of_le_length hle]
def shiftT (d : Int) (t : Tok) : Tok := ⟨t.k, t.tx, t.n, t.pos + d⟩
theorem scan_shift (d len : Nat) : ∀ (n : Nat) (s : List UInt8), s.length = n → s.length ≤ len → scanF (d + len) s = match scanF len s with | .bad p e => .bad (d + p) e | .ok l => .ok (l.map (shiftT (d : Int))) := by
  intro n
  induction n using Nat.strongRecOn with
  | _ n ih =>
    intro s hn hlen
    have hl := skip_len false s
    cases hs : skipT false s with
    | nil => rw [scanF_nil hs, scanF_nil hs]; rfl
    | cons c x =>
      rw [hs] at hl
      cases ht : tokT (c :: x) with
      | bad e =>
        rw [scanF_bad hs (by simp) ht, scanF_bad hs (by simp) ht]
        simp only [SR.bad.injEq, and_true]; omega
      | tok k tx m r =>
        have hlr := tok_len ht
        rw [scanF_tok hs ht, scanF_tok hs ht, ih r.length (by omega) r rfl (by omega)]
        cases scanF len r with
        | bad p e => rfl
        | ok l =>
          simp only [List.map_cons, SR.ok.injEq, List.cons.injEq, and_true]
          unfold shiftT
          simp only [Tok.mk.injEq, true_and]; omega
/-- a line feed between two texts -/
theorem scan_line (la : Nat) (b : List UInt8) : ∀ (n : Nat) (s : List UInt8), s.length = n → scanF (la + 1 + b.length) (s ++ 10 :: b) = match scanF la s with | .bad p e => .bad p e | .ok l => match scanF b.length b with | .bad p e => .bad (la + 1 + p) e | .ok m => .ok (l ++ m.map (shiftT ((la + 1 : Nat) : Int))) := by
  intro n
  induction n using Nat.strongRecOn with
  | _ n ih =>
    intro s hn
    have hl := skip_len false s
    have hsk := skip_line b false s
    cases hs : skipT false s with
    | nil =>
      rw [hs] at hsk
      simp only at hsk
      rw [scanF_nil hs]
      have h1 : scanF (la + 1 + b.length) (s ++ 10 :: b) = scanF (la + 1 + b.length) b := by
        unfold scanF
        rw [scan_fuel _ (b.length + 1) ((s ++ 10 :: b).length + 1) b (by omega) (by simp; omega), scanT, scanT, hsk]
      rw [h1, scan_shift (la + 1) b.length b.length b rfl (Nat.le_refl _)]
      simp only
      cases scanF b.length b <;> rfl
    | cons c x =>
      rw [hs] at hsk hl
      simp only at hsk
      have htl := tok_line b (c :: x) (by simp)
      cases ht : tokT (c :: x) with
      | bad e =>
        rw [ht] at htl
        rw [scanF_bad hs (by simp) ht, scanF_bad hsk (by simp) htl]
        simp only [SR.bad.injEq, and_true, List.length_append, List.length_cons]; omega
      | tok k tx m r =>
        rw [ht] at htl
        have hlr := tok_len ht
        rw [scanF_tok hs ht, scanF_tok hsk htl, ih r.length (by omega) r rfl]
        have hp : la + 1 + b.length - ((c :: x) ++ 10 :: b).length = la - (c :: x).length := by simp only [List.length_append, List.length_cons]; omega
        rw [hp]
        cases scanF la r with
        | bad p e => rfl
        | ok l =>
          simp only
          cases scanF b.length b with
          | bad p e => rfl
          | ok m => rfl
end Go.Proofs.YtmcnhggpmlhgeaaGreatDoor
