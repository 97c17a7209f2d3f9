/-
  Numerals: what reads as an integer of 64 bits, and that it is its own decimal text. No program in sight. The text of a term, as bytes; what both readers make of bytes. No program in sight. What the program's reader takes is the text of the term that it makes, if that is well-formed. No program in sight. The text of a valid term is read as that term, by both readers. No program in sight. The text of a valid term is read as that term: whole terms; lengths and bytes of texts. No program in sight. Reading a whole text: both readers agree; lengths and bytes of texts. No program in sight.
-/
import Derived.Test.YtgfodedmcjkmaaaDoorPure
import Derived.Lib.ItoaNum
import Derived.Lib.Strings
namespace Go.Proofs.YtgfodedmcjkmaaaDoor
/-- the number that digits write -/
def valD (l : List UInt8) : Nat := l.foldl (fun a c => 10 * a + (c.toNat - 48)) 0
theorem valD_nil : valD [] = 0 := rfl
theorem valD_snoc (l : List UInt8) (c : UInt8) : valD (l ++ [c]) = 10 * valD l + (c.toNat - 48) := by
  unfold valD; rw [List.foldl_append]; rfl
def isD (c : UInt8) : Bool := decide (48 ≤ c.toNat) && decide (c.toNat ≤ 57)
theorem isD_iff (c : UInt8) : isD c = true ↔ 48 ≤ c.toNat ∧ c.toNat ≤ 57 := by unfold isD; simp
/-- the form of a number that is not negative -/
def formD (l : List UInt8) : Bool := !l.isEmpty && l.all isD && (l.head? != some 48 || l.length == 1)
theorem formD_iff (l : List UInt8) : formD l = true ↔ l ≠ [] ∧ (∀ c ∈ l, isD c = true) ∧ (l.head? = some 48 → l.length = 1) := by
  unfold formD
  simp only [Bool.and_eq_true, Bool.not_eq_true', List.isEmpty_eq_false_iff, List.all_eq_true, Bool.or_eq_true, bne_iff_ne, ne_eq, beq_iff_eq, and_assoc]
  constructor
  · rintro ⟨h1, h2, h3⟩; exact ⟨h1, h2, fun h => h3.resolve_left (fun h4 => h4 h)⟩
  · rintro ⟨h1, h2, h3⟩; exact ⟨h1, h2, Classical.or_iff_not_imp_left.2 fun h => h3 (Classical.not_not.1 h)⟩
/-- the integer of 64 bits whose decimal text this is -/
def readN (s : List UInt8) : Option Int :=
  if s.head? = some 45 then (if formD s.tail && s.tail.head? != some 48 && decide (valD s.tail ≤ 9223372036854775808) then some (-(valD s.tail : Int)) else none)
  else (if formD s && decide (valD s ≤ 9223372036854775807) then some (valD s : Int) else none)
theorem readN_neg (d : List UInt8) : readN (45 :: d) = if formD d && d.head? != some 48 && decide (valD d ≤ 9223372036854775808) then some (-(valD d : Int)) else none := rfl
theorem readN_pos (s : List UInt8) (h : s.head? ≠ some 45) : readN s = if formD s && decide (valD s ≤ 9223372036854775807) then some (valD s : Int) else none := by
  unfold readN; rw [if_neg h]
theorem isD_dig {d : Nat} (h : d < 10) : isD (UInt8.ofNat (48 + d)) = true := by
  rw [isD_iff, UInt8.toNat_ofNat', Nat.mod_eq_of_lt (by omega)]; omega
theorem dig_toNat {d : Nat} (h : d < 10) : (UInt8.ofNat (48 + d)).toNat = 48 + d := by
  rw [UInt8.toNat_ofNat', Nat.mod_eq_of_lt (by omega)]
theorem dec_ne (u : Nat) : Lib.decDigits u ≠ [] := by
  rw [Lib.decDigits]; split
  · simp
  · simp
theorem dec_val (u : Nat) : valD (Lib.decDigits u) = u := by
  induction u using Nat.strongRecOn with
  | _ u ih =>
    by_cases h : u < 10
    · rw [Lib.decDigits, dif_pos h]
      show 10 * 0 + ((UInt8.ofNat (48 + u)).toNat - 48) = u
      rw [dig_toNat h]; omega
    · rw [Lib.decDigits, dif_neg h, valD_snoc, ih (u / 10) (by omega), dig_toNat (by omega)]; omega
theorem dec_all (u : Nat) : ∀ c ∈ Lib.decDigits u, isD c = true := by
  induction u using Nat.strongRecOn with
  | _ u ih =>
    by_cases h : u < 10
    · rw [Lib.decDigits, dif_pos h]
      intro c hc
      rw [List.mem_singleton.1 hc]; exact isD_dig h
    · rw [Lib.decDigits, dif_neg h]
      intro c hc
      rcases List.mem_append.1 hc with hc | hc
      · exact ih (u / 10) (by omega) c hc
      · rw [List.mem_singleton.1 hc]; exact isD_dig (by omega)
theorem dec_head (u : Nat) (h : 1 ≤ u) : (Lib.decDigits u).head? ≠ some 48 := by
  induction u using Nat.strongRecOn with
  | _ u ih =>
    by_cases h10 : u < 10
    · rw [Lib.decDigits, dif_pos h10]
      intro e
      have e2 : UInt8.ofNat (48 + u) = 48 := by simpa using e
      have := dig_toNat h10
      rw [e2] at this
      have h48 : (48 : UInt8).toNat = 48 := rfl
      omega
    · rw [Lib.decDigits, dif_neg h10, List.head?_append]
      have := ih (u / 10) (by omega) (by omega)
      cases hd : (Lib.decDigits (u / 10)).head? with
      | none => exact absurd (List.head?_eq_none_iff.1 hd) (dec_ne _)
      | some x => rw [hd] at this; simpa using this
theorem dec_form (u : Nat) : formD (Lib.decDigits u) = true := by
  refine (formD_iff _).2 ⟨dec_ne u, dec_all u, fun h => ?_⟩
  rcases Nat.eq_zero_or_pos u with rfl | h1
  · rw [Lib.decDigits, dif_pos (by decide)]; rfl
  · exact absurd h (dec_head u h1)
theorem digit_eq {c : UInt8} (h : isD c = true) : UInt8.ofNat (48 + (c.toNat - 48)) = c := by
  rw [isD_iff] at h
  apply UInt8.toNat_inj.1
  rw [UInt8.toNat_ofNat', Nat.mod_eq_of_lt (by omega)]; omega
theorem val_pos : ∀ (n : Nat) (l : List UInt8), l.length = n → formD l = true → l.head? ≠ some 48 → 1 ≤ valD l
  | 0, l, hn, hf, _ => absurd (List.length_eq_zero_iff.1 hn) ((formD_iff l).1 hf).1
  | n + 1, l, hn, hf, h0 => by
    obtain ⟨hne, hall, _⟩ := (formD_iff l).1 hf
    rcases List.eq_nil_or_concat l with rfl | ⟨l', c, rfl⟩
    · exact absurd rfl hne
    · rw [List.concat_eq_append] at *
      rw [valD_snoc]
      have hc := (isD_iff c).1 (hall c (by simp))
      rcases Nat.eq_zero_or_pos l'.length with h | h
      · have := List.length_eq_zero_iff.1 h
        subst this
        have hcn : c ≠ 48 := by simpa using h0
        have : c.toNat ≠ 48 := fun e => hcn (UInt8.toNat_inj.1 e)
        omega
      · have hh : (l' ++ [c]).head? = l'.head? := by
          rw [List.head?_append]
          cases hd : l'.head? with
          | none => rw [List.head?_eq_none_iff.1 hd] at h; simp at h
          | some x => rfl
        have h1 : l'.head? ≠ some 48 := hh ▸ h0
        have := val_pos n l' (by simp at hn; omega) ((formD_iff l').2 ⟨by intro e; rw [e] at h; simp at h, fun x hx => hall x (by simp [hx]), fun e => absurd e h1⟩) h1
        omega
theorem val_dec : ∀ (n : Nat) (l : List UInt8), l.length = n → formD l = true → Lib.decDigits (valD l) = l
  | 0, l, hn, hf => absurd (List.length_eq_zero_iff.1 hn) ((formD_iff l).1 hf).1
  | n + 1, l, hn, hf => by
    obtain ⟨hne, hall, hhd⟩ := (formD_iff l).1 hf
    rcases List.eq_nil_or_concat l with rfl | ⟨l', c, rfl⟩
    · exact absurd rfl hne
    · rw [List.concat_eq_append] at *
      have hc := (isD_iff c).1 (hall c (by simp))
      rcases Nat.eq_zero_or_pos l'.length with h | h
      · have := List.length_eq_zero_iff.1 h
        subst this
        rw [valD_snoc, valD_nil, Lib.decDigits, dif_pos (by omega)]
        show [UInt8.ofNat (48 + (10 * 0 + (c.toNat - 48)))] = [c]
        rw [show 10 * 0 + (c.toNat - 48) = c.toNat - 48 by omega, digit_eq (hall c (by simp))]
      · have hh : (l' ++ [c]).head? = l'.head? := by
          rw [List.head?_append]
          cases hd : l'.head? with
          | none => rw [List.head?_eq_none_iff.1 hd] at h; simp at h
          | some x => rfl
        have h1 : l'.head? ≠ some 48 := fun e => by have := hhd (hh.trans e); rw [List.length_append, List.length_singleton] at this; omega
        have hf' : formD l' = true := (formD_iff l').2 ⟨by intro e; rw [e] at h; simp at h, fun x hx => hall x (by simp [hx]), fun e => absurd e h1⟩
        have hl : l'.length = n := by simp at hn; omega
        have hv := val_pos n l' hl hf' h1
        rw [valD_snoc, Lib.decDigits, dif_neg (by omega), show (10 * valD l' + (c.toNat - 48)) / 10 = valD l' by omega, show (10 * valD l' + (c.toNat - 48)) % 10 = c.toNat - 48 by omega, val_dec n l' hl hf', digit_eq (hall c (by simp))]
theorem isD_ne {c : UInt8} (h : isD c = true) : c ≠ 45 := by
  rintro rfl; exact absurd h (by decide)
theorem dec_head_ne (u : Nat) : (Lib.decDigits u).head? ≠ some 45 := by
  intro e
  have : (45 : UInt8) ∈ Lib.decDigits u := List.mem_of_mem_head? e
  exact isD_ne (dec_all u 45 this) rfl
theorem readN_itoa (n : Int) (h0 : -9223372036854775808 ≤ n) (h1 : n ≤ 9223372036854775807) : readN (Lib.itoa n) = some n := by
  unfold Lib.itoa
  by_cases hn : n < 0
  · rw [if_pos hn, readN_neg, dec_form, dec_val, if_pos]
    · congr 1; omega
    · simp only [Bool.true_and, Bool.and_eq_true, bne_iff_ne, ne_eq, decide_eq_true_eq]
      exact ⟨dec_head _ (by omega), by omega⟩
  · rw [if_neg hn, readN_pos _ (dec_head_ne _), dec_form, dec_val, if_pos]
    · congr 1; omega
    · simp only [Bool.true_and, decide_eq_true_eq]; omega
theorem itoa_readN {s : List UInt8} {n : Int} (h : readN s = some n) : Lib.itoa n = s ∧ -9223372036854775808 ≤ n ∧ n ≤ 9223372036854775807 := by
  unfold readN at h
  by_cases h45 : s.head? = some 45
  · rw [if_pos h45] at h
    split at h
    · rename_i hc
      simp only [Bool.and_eq_true, bne_iff_ne, ne_eq, decide_eq_true_eq] at hc
      obtain ⟨⟨hf, hz⟩, hv⟩ := hc
      injection h with h
      have hp := val_pos _ _ rfl hf hz
      refine ⟨?_, by omega, by omega⟩
      unfold Lib.itoa
      rw [if_pos (by omega), show n.natAbs = valD s.tail by omega, val_dec _ _ rfl hf]
      cases s with
      | nil => simp at h45
      | cons a r => simp at h45; subst h45; rfl
    · cases h
  · rw [if_neg h45] at h
    split at h
    · rename_i hc
      simp only [Bool.and_eq_true, decide_eq_true_eq] at hc
      obtain ⟨hf, hv⟩ := hc
      injection h with h
      refine ⟨?_, by omega, by omega⟩
      unfold Lib.itoa
      rw [if_neg (by omega), show n.toNat = valD s by omega, val_dec _ _ rfl hf]
    · cases h
/-- the bytes of a numeral -/
def digC (c : UInt8) : Bool := c == 45 || isD c
theorem itoa_all (n : Int) : ∀ c ∈ Lib.itoa n, digC c = true := by
  intro c hc
  unfold Lib.itoa at hc
  unfold digC
  split at hc
  · rcases List.mem_cons.1 hc with rfl | hc
    · rfl
    · rw [dec_all _ c hc]; simp
  · rw [dec_all _ c hc]; simp
theorem itoa_cons (n : Int) : ∃ c r, Lib.itoa n = c :: r ∧ digC c = true := by
  have h := itoa_all n
  cases e : Lib.itoa n with
  | nil =>
    unfold Lib.itoa at e
    split at e
    · cases e
    · exact absurd e (dec_ne _)
  | cons c r => exact ⟨c, r, rfl, h c (by rw [e]; simp)⟩
theorem dec_len : ∀ (k u : Nat), u < 10 ^ (k + 1) → (Lib.decDigits u).length ≤ k + 1
  | 0, u, h => by rw [Lib.decDigits, dif_pos (by simpa using h)]; simp
  | k + 1, u, h => by
    rw [Lib.decDigits]
    split
    · simp
    · rw [List.length_append]
      have := dec_len k (u / 10) (by rw [Nat.pow_succ] at h; omega)
      simp; omega
theorem itoa_len (n : Int) (h0 : -9223372036854775808 ≤ n) (h1 : n ≤ 9223372036854775807) : (Lib.itoa n).length ≤ 20 := by
  have h19 : (Lib.decDigits n.natAbs).length ≤ 19 := dec_len 18 _ (by
    have : (10 : Nat) ^ (18 + 1) = 10000000000000000000 := by decide
    omega)
  unfold Lib.itoa
  split
  · rw [List.length_cons]; omega
  · rw [show n.toNat = n.natAbs by omega]; omega
end Go.Proofs.YtgfodedmcjkmaaaDoor
namespace Go.Proofs.YtgfodedmcjkmaaaDoor
open Go.RowKit Go.Proofs.BitsM
def bl (s : ByteArray) : List UInt8 := s.data.toList
/-- texts with a comma between two of them -/
def joinC : List (List UInt8) → List UInt8
  | [] => []
  | x :: r => x ++ (match r with | [] => [] | _ :: _ => 44 :: joinC r)
/-- the segments of a bit string -/
def segs : List UInt8 → Int → List (List UInt8)
  | [], _ => []
  | b :: r, n => (if n < 8 then Lib.itoa ((b.toNat / 2 ^ (8 - n.toNat) : Nat) : Int) ++ 58 :: Lib.itoa n else Lib.itoa (b.toNat : Int)) :: segs r (n - 8)
/-- Name, Gen, Int -/
def markT (f : Fd) : List UInt8 := bl f.nm ++ 46 :: (Lib.itoa f.g ++ 46 :: Lib.itoa f.i)
def expT (f : Fd) : List UInt8 := bl f.nm ++ 58 :: (bl f.fn ++ 47 :: Lib.itoa f.ar)
def cloT (f : Fd) (j : List UInt8) : List UInt8 := markT f ++ 47 :: (Lib.itoa f.ar ++ 62 :: 123 :: (j ++ [125]))
/-- what stands behind the bracket of a list -/
def lisT (ts : List (List UInt8)) (lk : Int) : List UInt8 := joinC ts.dropLast ++ ((if lk = 8 then [] else 124 :: ts.getLastD []) ++ [93])
/-- the text of a term, from the texts of its items and the kind of the last one -/
def textF (f : Fd) (ts : List (List UInt8)) (lk : Int) : List UInt8 :=
  if f.k = 1 then Lib.itoa f.i
  else if f.k = 2 then bl f.nm
  else if f.k = 3 then [35, 82, 101, 102, 60] ++ (markT f ++ [62])
  else if f.k = 4 then [35, 70, 117, 110, 60] ++ cloT f (joinC ts)
  else if f.k = 5 then [102, 117, 110, 32] ++ expT f
  else if f.k = 6 then [60] ++ (markT f ++ [62])
  else if f.k = 7 then [123] ++ (joinC ts ++ [125])
  else if f.k = 8 then [91, 93]
  else if f.k = 9 then [91] ++ lisT ts lk
  else if f.k = 10 then [60, 60] ++ (joinC (segs (bl f.bs) f.n) ++ [62, 62])
  else []
def TL.texts : TL → List (List UInt8)
  | .nil => []
  | .cons f it r => textF f it.texts it.lastK :: r.texts
def textT (f : Fd) (it : TL) : List UInt8 := textF f it.texts it.lastK
theorem texts_cons (f : Fd) (it r : TL) : (TL.cons f it r).texts = textT f it :: r.texts := rfl
theorem texts_app : ∀ l m : TL, (l.app m).texts = l.texts ++ m.texts
  | .nil, _ => rfl
  | .cons f it r, m => by rw [TL.app, texts_cons, texts_cons, texts_app r m]; rfl
theorem texts_len : ∀ l : TL, l.texts.length = l.len
  | .nil => rfl
  | .cons f it r => by rw [texts_cons, List.length_cons, texts_len r]; rfl
theorem joinC_one (x : List UInt8) : joinC [x] = x := List.append_nil x
theorem joinC_eq (x : List UInt8) (r : List (List UInt8)) : joinC (x :: r) = x ++ (match r with | [] => [] | _ :: _ => 44 :: joinC r) := by cases r <;> rfl
theorem joinC_cons (x y : List UInt8) (r : List (List UInt8)) : joinC (x :: y :: r) = x ++ 44 :: joinC (y :: r) := rfl
theorem joinC_cons' (x : List UInt8) {r : List (List UInt8)} (h : r ≠ []) : joinC (x :: r) = x ++ 44 :: joinC r := by
  cases r with
  | nil => exact absurd rfl h
  | cons y r => rfl
/-! what the readers make of bytes -/
def hp (s p : List UInt8) : Bool := Lib.hasPrefix s p
theorem hp_iff {s p : List UInt8} : hp s p = true ↔ ∃ r, s = p ++ r := by
  unfold hp Lib.hasPrefix
  rw [List.isPrefixOf_iff_prefix]
  exact ⟨fun ⟨r, h⟩ => ⟨r, h.symm⟩, fun ⟨r, h⟩ => ⟨r, h.symm⟩⟩
theorem hp_app (p r : List UInt8) : hp (p ++ r) p = true := hp_iff.2 ⟨r, rfl⟩
theorem hp_drop {s p : List UInt8} (h : hp s p = true) : s = p ++ s.drop p.length := by
  obtain ⟨r, rfl⟩ := hp_iff.1 h
  rw [List.drop_left]
theorem hp_len {s p : List UInt8} (h : hp s p = true) : p.length ≤ s.length := by
  obtain ⟨r, rfl⟩ := hp_iff.1 h
  rw [List.length_append]; omega
def letC (c : UInt8) : Bool := okC c.toNat
def spanN (s : List UInt8) : ByteArray := ⟨(s.takeWhile letC).toArray⟩
def pInt (s : List UInt8) : Option (Int × List UInt8) := (readN (s.takeWhile digC)).map fun n => (n, s.dropWhile digC)
def pMust (p s : List UInt8) : Option (List UInt8) := if hp s p then some (s.drop p.length) else none
def pMarked (k : Int) (s : List UInt8) : Option (Fd × List UInt8) :=
  (pMust [46] (s.dropWhile letC)).bind fun s1 => (pInt s1).bind fun g => (pMust [46] g.2).bind fun s3 => (pInt s3).bind fun i => some (⟨k, i.1, g.1, spanN s, ⟨#[]⟩, 0, ⟨#[]⟩, 0⟩, i.2)
/-- the number of bits of a segment, where it is told -/
def pMany (m : Bool) (s : List UInt8) : Option (Int × List UInt8) :=
  if hp s [58] then (pInt (s.drop 1)).bind fun y => if m && (decide (y.1 < 1) || decide (7 < y.1) || hp y.2 [44]) then none else some y else some (8, s)
def okSeg (m : Bool) (v n : Int) : Bool := decide (0 ≤ v) && (if m then decide (v < 2 ^ n.toNat) else decide (v ≤ 255) && decide (1 ≤ n) && decide (n ≤ 8))
def segB (v n : Int) : UInt8 := UInt8.ofNat (v.toNat * 2 ^ (8 - n.toNat))
def pSegs (m : Bool) : Nat → List UInt8 → Option (List UInt8 × Int × List UInt8)
  | 0, _ => none
  | j + 1, s => (pInt s).bind fun x => (pMany m x.2).bind fun y =>
    if okSeg m x.1 y.1 then
      (if hp y.2 [44] then (pSegs m j (y.2.drop 1)).map fun z => (segB x.1 y.1 :: z.1, y.1 + z.2.1, z.2.2) else some ([segB x.1 y.1], y.1, y.2))
    else none
def bitF (bs : List UInt8) (n : Int) : Fd := ⟨10, 0, 0, ⟨#[]⟩, ⟨#[]⟩, 0, ⟨bs.toArray⟩, n⟩
def pBits (m : Bool) (j : Nat) (s : List UInt8) : Option (Fd × List UInt8) :=
  (if hp s [62, 62] then some ([], 0, s) else pSegs m j s).bind fun z => (pMust [62, 62] z.2.2).bind fun s' => some (bitF z.1 z.2.1, s')
abbrev Rdr := List UInt8 → Option (Fd × TL × List UInt8)
def pItems (rd : Rdr) : Nat → List UInt8 → Option (TL × List UInt8)
  | 0, _ => none
  | j + 1, s => (rd s).bind fun x => if hp x.2.2 [44] then (pItems rd j (x.2.2.drop 1)).map fun z => (.cons x.1 x.2.1 z.1, z.2) else some (.cons x.1 x.2.1 .nil, x.2.2)
def pList (rd : Rdr) (j : Nat) (ends : List (List UInt8)) (s : List UInt8) : Option (TL × List UInt8) :=
  if ends.any (fun e => hp s e) then some (.nil, s) else pItems rd j s
/-- the tail of a list, where it is told -/
def pTail (m : Bool) (rd : Rdr) (s : List UInt8) : Option (Fd × TL × List UInt8) :=
  if hp s [124] then (rd (s.drop 1)).bind fun x => if m && decide (x.1.k = 8) then none else some x else some (kF 8, .nil, s)
def pPair (m : Bool) (rd : Rdr) (j : Nat) (s : List UInt8) : Option (Fd × TL × List UInt8) :=
  (pList rd j [[93], [124]] s).bind fun l => (pTail m rd l.2).bind fun x => (pMust [93] x.2.2).bind fun s' => some (kF 9, l.1.app (.cons x.1 x.2.1 .nil), s')
def pTuple (rd : Rdr) (j : Nat) (s : List UInt8) : Option (Fd × TL × List UInt8) :=
  (pList rd j [[125]] s).bind fun l => (pMust [125] l.2).bind fun s' => some (kF 7, l.1, s')
def pPid (k : Int) (s : List UInt8) : Option (Fd × TL × List UInt8) :=
  (pMarked k s).bind fun x => (pMust [62] x.2).bind fun s' => some (x.1, .nil, s')
def pFun (rd : Rdr) (j : Nat) (s : List UInt8) : Option (Fd × TL × List UInt8) :=
  (pMarked 4 s).bind fun x => (pMust [47] x.2).bind fun s1 => (pInt s1).bind fun y => (pMust [62, 123] y.2).bind fun s2 => (pList rd j [[125]] s2).bind fun l => (pMust [125] l.2).bind fun s' => some ({x.1 with ar := y.1}, l.1, s')
def pExp (s : List UInt8) : Option (Fd × TL × List UInt8) :=
  (pMust [58] (s.dropWhile letC)).bind fun s1 => (pMust [47] (s1.dropWhile letC)).bind fun s2 => (pInt s2).bind fun y => some (⟨5, 0, 0, spanN s, spanN s1, y.1, ⟨#[]⟩, 0⟩, .nil, y.2)
def digH (s : List UInt8) : Bool := match s with | c :: _ => digC c | [] => false
def pPlain (m : Bool) (s : List UInt8) : Option (Fd × TL × List UInt8) :=
  if digH s then (pInt s).bind fun x => some (intF x.1, .nil, x.2)
  else if !m && (s.takeWhile letC).isEmpty then none else some (atomF (spanN s), .nil, s.dropWhile letC)
def pSign (m : Bool) (rd : Rdr) (j : Nat) (s : List UInt8) : Option (Fd × TL × List UInt8) :=
  if hp s [91, 93] then some (kF 8, .nil, s.drop 2)
  else if hp s [91] then pPair m rd j (s.drop 1)
  else if hp s [123] then pTuple rd j (s.drop 1)
  else if hp s [60, 60] then (pBits m j (s.drop 2)).bind fun x => some (x.1, .nil, x.2)
  else if hp s [60] then pPid 6 (s.drop 1)
  else if hp s [35, 82, 101, 102, 60] then pPid 3 (s.drop 5)
  else if hp s [35, 70, 117, 110, 60] then pFun rd j (s.drop 5)
  else if hp s [102, 117, 110, 32] then pExp (s.drop 4)
  else pPlain m s
/-- a term; m: the program's reader (else the reference's); j: more than the bytes that are left; d: how deep -/
def pTerm (m : Bool) : Nat → Nat → Rdr
  | 0, _, _ => none
  | j + 1, d, s => if m && decide (2000 < d + 1) then none else pSign m (pTerm m j (d + 1)) j s
/-! the rest is no longer -/
theorem must_len {p s s' : List UInt8} (h : pMust p s = some s') : s = p ++ s' ∧ s'.length + p.length = s.length := by
  unfold pMust at h
  split at h
  · rename_i hpr
    injection h with h
    subst h
    refine ⟨hp_drop hpr, ?_⟩
    have := hp_len hpr
    rw [List.length_drop]; omega
  · cases h
theorem int_rest {s : List UInt8} {x : Int × List UInt8} (h : pInt s = some x) : s = Lib.itoa x.1 ++ x.2 ∧ -9223372036854775808 ≤ x.1 ∧ x.1 ≤ 9223372036854775807 := by
  unfold pInt at h
  cases hr : readN (s.takeWhile digC) with
  | none => rw [hr] at h; cases h
  | some n =>
    rw [hr] at h
    injection h with h
    subst h
    obtain ⟨h1, h2, h3⟩ := itoa_readN hr
    exact ⟨by rw [h1, List.takeWhile_append_dropWhile], h2, h3⟩
theorem int_len {s : List UInt8} {x : Int × List UInt8} (h : pInt s = some x) : x.2.length < s.length := by
  have h1 := (int_rest h).1
  obtain ⟨c, r, e, _⟩ := itoa_cons x.1
  rw [h1, e, List.length_append, List.length_cons]; omega
theorem dropW_len (p : UInt8 → Bool) (s : List UInt8) : (s.dropWhile p).length ≤ s.length := by
  have := congrArg List.length (List.takeWhile_append_dropWhile (p := p) (l := s))
  rw [List.length_append] at this; omega
theorem marked_len {k : Int} {s : List UInt8} {x : Fd × List UInt8} (h : pMarked k s = some x) : x.2.length ≤ s.length := by
  unfold pMarked at h
  simp only [Option.bind_eq_some_iff] at h
  obtain ⟨s1, h1, g, h2, s3, h3, i, h4, h5⟩ := h
  injection h5 with h5
  subst h5
  have := (must_len h1).2
  have := int_len h2
  have := (must_len h3).2
  have := int_len h4
  have := dropW_len letC s
  simp only; omega
theorem many_len {m : Bool} {s : List UInt8} {x : Int × List UInt8} (h : pMany m s = some x) : x.2.length ≤ s.length := by
  unfold pMany at h
  split at h
  · simp only [Option.bind_eq_some_iff] at h
    obtain ⟨y, h1, h2⟩ := h
    split at h2
    · cases h2
    · injection h2 with h2
      subst h2
      have := int_len h1
      rw [List.length_drop] at this; omega
  · injection h with h
    subst h; exact Nat.le_refl _
theorem segs_len {m : Bool} : ∀ {j : Nat} {s : List UInt8} {z : List UInt8 × Int × List UInt8}, pSegs m j s = some z → z.2.2.length ≤ s.length
  | 0, _, _, h => by cases h
  | j + 1, s, z, h => by
    rw [pSegs] at h
    simp only [Option.bind_eq_some_iff] at h
    obtain ⟨x, h1, y, h2, h3⟩ := h
    have a := int_len h1
    have b := many_len h2
    split at h3
    · split at h3
      · simp only [Option.map_eq_some_iff] at h3
        obtain ⟨z', h4, h5⟩ := h3
        have c := segs_len h4
        subst h5
        rw [List.length_drop] at c
        simp only; omega
      · injection h3 with h3
        subst h3; simp only; omega
    · cases h3
theorem bits_len {m : Bool} {j : Nat} {s : List UInt8} {x : Fd × List UInt8} (h : pBits m j s = some x) : x.2.length ≤ s.length := by
  unfold pBits at h
  simp only [Option.bind_eq_some_iff] at h
  obtain ⟨z, h1, s', h2, h3⟩ := h
  injection h3 with h3
  subst h3
  have := (must_len h2).2
  split at h1
  · injection h1 with h1
    subst h1; simp only at this ⊢; omega
  · have := segs_len h1; simp only; omega
theorem items_len {rd : Rdr} (hrd : ∀ s x, rd s = some x → x.2.2.length ≤ s.length) : ∀ {j : Nat} {s : List UInt8} {z : TL × List UInt8}, pItems rd j s = some z → z.2.length ≤ s.length
  | 0, _, _, h => by cases h
  | j + 1, s, z, h => by
    rw [pItems] at h
    simp only [Option.bind_eq_some_iff] at h
    obtain ⟨x, h1, h3⟩ := h
    have a := hrd s x h1
    split at h3
    · simp only [Option.map_eq_some_iff] at h3
      obtain ⟨z', h4, h5⟩ := h3
      have c := items_len hrd h4
      subst h5
      rw [List.length_drop] at c
      simp only; omega
    · injection h3 with h3
      subst h3; simp only; omega
theorem list_len {rd : Rdr} (hrd : ∀ s x, rd s = some x → x.2.2.length ≤ s.length) {j : Nat} {ends : List (List UInt8)} {s : List UInt8} {z : TL × List UInt8} (h : pList rd j ends s = some z) : z.2.length ≤ s.length := by
  unfold pList at h
  split at h
  · injection h with h
    subst h; exact Nat.le_refl _
  · exact items_len hrd h
theorem tail_len {m : Bool} {rd : Rdr} (hrd : ∀ s x, rd s = some x → x.2.2.length ≤ s.length) {s : List UInt8} {x : Fd × TL × List UInt8} (h : pTail m rd s = some x) : x.2.2.length ≤ s.length := by
  unfold pTail at h
  split at h
  · simp only [Option.bind_eq_some_iff] at h
    obtain ⟨y, h1, h2⟩ := h
    split at h2
    · cases h2
    · injection h2 with h2
      subst h2
      have := hrd _ _ h1
      rw [List.length_drop] at this; omega
  · injection h with h
    subst h; exact Nat.le_refl _
theorem sign_len {m : Bool} {rd : Rdr} (hrd : ∀ s x, rd s = some x → x.2.2.length ≤ s.length) {j : Nat} {s : List UInt8} {x : Fd × TL × List UInt8} (h : pSign m rd j s = some x) : x.2.2.length ≤ s.length := by
  unfold pSign at h
  split at h
  · injection h with h
    subst h; simp only [List.length_drop]; omega
  split at h
  · unfold pPair at h
    simp only [Option.bind_eq_some_iff] at h
    obtain ⟨l, h1, y, h2, s', h3, h4⟩ := h
    injection h4 with h4
    subst h4
    have a := list_len hrd h1
    have b := tail_len hrd h2
    have c := (must_len h3).2
    rw [List.length_drop] at a; simp only; omega
  split at h
  · unfold pTuple at h
    simp only [Option.bind_eq_some_iff] at h
    obtain ⟨l, h1, s', h3, h4⟩ := h
    injection h4 with h4
    subst h4
    have a := list_len hrd h1
    have c := (must_len h3).2
    rw [List.length_drop] at a; simp only; omega
  split at h
  · simp only [Option.bind_eq_some_iff] at h
    obtain ⟨y, h1, h2⟩ := h
    injection h2 with h2
    subst h2
    have a := bits_len h1
    rw [List.length_drop] at a; simp only; omega
  have hpid : ∀ {k : Int} {n : Nat} {x : Fd × TL × List UInt8}, pPid k (s.drop n) = some x → x.2.2.length ≤ s.length := by
    intro k n x h
    unfold pPid at h
    simp only [Option.bind_eq_some_iff] at h
    obtain ⟨y, h1, s', h3, h4⟩ := h
    injection h4 with h4
    subst h4
    have a := marked_len h1
    have c := (must_len h3).2
    rw [List.length_drop] at a; simp only; omega
  split at h
  · exact hpid h
  split at h
  · exact hpid h
  split at h
  · unfold pFun at h
    simp only [Option.bind_eq_some_iff] at h
    obtain ⟨y, h1, s1, h2, n, h3, s2, h4, l, h5, s', h6, h7⟩ := h
    injection h7 with h7
    subst h7
    have a := marked_len h1
    have b := (must_len h2).2
    have c := int_len h3
    have d := (must_len h4).2
    have e := list_len hrd h5
    have f := (must_len h6).2
    rw [List.length_drop] at a; simp only; omega
  split at h
  · unfold pExp at h
    simp only [Option.bind_eq_some_iff] at h
    obtain ⟨s1, h1, s2, h2, y, h3, h4⟩ := h
    injection h4 with h4
    subst h4
    have a := (must_len h1).2
    have b := (must_len h2).2
    have c := int_len h3
    have d := dropW_len letC (s.drop 4)
    have e := dropW_len letC s1
    rw [List.length_drop] at d; simp only; omega
  · unfold pPlain at h
    split at h
    · simp only [Option.bind_eq_some_iff] at h
      obtain ⟨y, h1, h2⟩ := h
      injection h2 with h2
      subst h2
      have := int_len h1
      simp only; omega
    · split at h
      · cases h
      · injection h with h
        subst h
        exact dropW_len _ _
theorem term_len {m : Bool} : ∀ (j d : Nat) (s : List UInt8) (x : Fd × TL × List UInt8), pTerm m j d s = some x → x.2.2.length ≤ s.length
  | 0, _, _, _, h => by cases h
  | j + 1, d, s, x, h => by
    rw [pTerm] at h
    split at h
    · cases h
    · exact sign_len (fun s x h => term_len j (d + 1) s x h) h
end Go.Proofs.YtgfodedmcjkmaaaDoor
namespace Go.Proofs.YtgfodedmcjkmaaaDoor
open Go.RowKit Go.Proofs.BitsM
theorem span_app (s : List UInt8) : s = bl (spanN s) ++ s.dropWhile letC := (List.takeWhile_append_dropWhile).symm
theorem marked_text {k : Int} {s : List UInt8} {x : Fd × List UInt8} (h : pMarked k s = some x) : s = markT x.1 ++ x.2 ∧ x.1.k = k := by
  unfold pMarked at h
  simp only [Option.bind_eq_some_iff] at h
  obtain ⟨s1, h1, g, h2, s3, h3, i, h4, h5⟩ := h
  injection h5 with h5
  subst h5
  refine ⟨?_, rfl⟩
  have a := (must_len h1).1
  have b := (int_rest h2).1
  have c := (must_len h3).1
  have d := (int_rest h4).1
  show s = (bl (spanN s) ++ 46 :: (Lib.itoa g.1 ++ 46 :: Lib.itoa i.1)) ++ i.2
  rw [List.append_assoc, List.cons_append, List.append_assoc, List.cons_append, ← d]
  show s = bl (spanN s) ++ 46 :: (Lib.itoa g.1 ++ ([46] ++ s3))
  rw [← c, ← b]
  show s = bl (spanN s) ++ ([46] ++ s1)
  rw [← a]
  exact span_app s
theorem segB_full {v : Int} (h0 : 0 ≤ v) (h1 : v < 256) : ((segB v 8).toNat : Int) = v := by
  show ((UInt8.ofNat (v.toNat * 1)).toNat : Int) = v
  rw [UInt8.toNat_ofNat', Nat.mod_eq_of_lt (by omega)]; omega
theorem segB_part {v n : Int} (h0 : 0 ≤ v) (n0 : 1 ≤ n) (n1 : n ≤ 8) (h1 : v < 2 ^ n.toNat) : (((segB v n).toNat / 2 ^ (8 - n.toNat) : Nat) : Int) = v := by
  obtain ⟨k, rfl⟩ : ∃ k : Nat, n = (k : Int) := ⟨n.toNat, by omega⟩
  obtain ⟨u, rfl⟩ : ∃ u : Nat, v = (u : Int) := ⟨v.toNat, by omega⟩
  have hu : u < 2 ^ k := by
    have : (u : Int) < ((2 ^ k : Nat) : Int) := by rw [Int.natCast_pow]; exact h1
    omega
  have hp : 2 ^ k * 2 ^ (8 - k) = 256 := by rw [← Nat.pow_add, show k + (8 - k) = 8 by omega]
  have hlt : u * 2 ^ (8 - k) < 256 := by rw [← hp]; exact Nat.mul_lt_mul_of_pos_right hu (Nat.two_pow_pos _)
  unfold segB
  simp only [Int.toNat_natCast]
  rw [UInt8.toNat_ofNat', Nat.mod_eq_of_lt hlt, Nat.mul_div_cancel _ (Nat.two_pow_pos _)]
theorem segs_text : ∀ {j : Nat} {s : List UInt8} {z : List UInt8 × Int × List UInt8}, pSegs true j s = some z → s = joinC (segs z.1 z.2.1) ++ z.2.2 ∧ 1 ≤ z.2.1 ∧ z.1 ≠ []
  | 0, _, _, h => by cases h
  | j + 1, s, z, h => by
    rw [pSegs] at h
    simp only [Option.bind_eq_some_iff] at h
    obtain ⟨x, h1, y, h2, h3⟩ := h
    have a := (int_rest h1).1
    split at h3
    case isFalse => cases h3
    rename_i hok
    unfold okSeg at hok
    simp only [if_true, Bool.and_eq_true, decide_eq_true_eq] at hok
    unfold pMany at h2
    split at h2
    · rename_i h58
      simp only [Option.bind_eq_some_iff] at h2
      obtain ⟨y', b1, b2⟩ := h2
      split at b2
      case isTrue => cases b2
      rename_i hc
      injection b2 with b2
      subst b2
      simp only [Bool.true_and, Bool.or_eq_true, decide_eq_true_eq, not_or, Bool.not_eq_true] at hc
      rw [if_neg (by rw [hc.2]; decide)] at h3
      injection h3 with h3
      subst h3
      refine ⟨?_, by simp only; omega, by simp⟩
      have b := (int_rest b1).1
      have c := hp_drop h58
      simp only [segs, joinC]
      rw [if_pos (by omega), segB_part hok.1 (by omega) (by omega) hok.2, List.append_nil, List.append_assoc, List.cons_append, ← b]
      show s = Lib.itoa x.1 ++ ([58] ++ _)
      rw [← show x.2 = [58] ++ x.2.drop 1 from c]
      exact a
    · injection h2 with h2
      subst h2
      simp only at h3 hok
      have h256 : x.1 < 256 := hok.2
      split at h3
      · rename_i h44
        simp only [Option.map_eq_some_iff] at h3
        obtain ⟨z', h4, h5⟩ := h3
        obtain ⟨t1, t2, t3⟩ := segs_text h4
        subst h5
        refine ⟨?_, by simp only; omega, by simp⟩
        have c := hp_drop h44
        have hne : segs z'.1 z'.2.1 ≠ [] := by
          cases e : z'.1 with
          | nil => exact absurd e t3
          | cons => simp [segs]
        simp only [segs]
        rw [if_neg (by omega), segB_full hok.1 h256, show 8 + z'.2.1 - 8 = z'.2.1 by omega, joinC_cons' _ hne, List.append_assoc, List.cons_append, ← t1]
        show s = Lib.itoa x.1 ++ ([44] ++ _)
        rw [← show x.2 = [44] ++ x.2.drop 1 from c]
        exact a
      · injection h3 with h3
        subst h3
        refine ⟨?_, by simp only; omega, by simp⟩
        simp only [segs, joinC]
        rw [if_neg (by omega), segB_full hok.1 h256, List.append_nil]
        exact a
theorem bits_text {j : Nat} {s : List UInt8} {x : Fd × List UInt8} (h : pBits true j s = some x) : [60, 60] ++ s = textT x.1 .nil ++ x.2 := by
  unfold pBits at h
  simp only [Option.bind_eq_some_iff] at h
  obtain ⟨z, h1, s', h2, h3⟩ := h
  injection h3 with h3
  subst h3
  have c := (must_len h2).1
  have hs : s = joinC (segs z.1 z.2.1) ++ z.2.2 := by
    split at h1
    · injection h1 with h1
      subst h1; rfl
    · exact (segs_text h1).1
  show [60, 60] ++ s = ([60, 60] ++ (joinC (segs z.1 z.2.1) ++ [62, 62])) ++ s'
  rw [List.append_assoc, List.append_assoc, ← c, ← hs]
def RdrOk (rd : Rdr) : Prop := ∀ s x, rd s = some x → formT x.1 x.2.1 = true → s = textT x.1 x.2.1 ++ x.2.2
theorem items_text {rd : Rdr} (hrd : RdrOk rd) : ∀ {j : Nat} {s : List UInt8} {z : TL × List UInt8}, pItems rd j s = some z → formL z.1 = true → s = joinC z.1.texts ++ z.2 ∧ z.1 ≠ .nil
  | 0, _, _, h, _ => by cases h
  | j + 1, s, z, h, hf => by
    rw [pItems] at h
    simp only [Option.bind_eq_some_iff] at h
    obtain ⟨x, h1, h3⟩ := h
    split at h3
    · rename_i h44
      simp only [Option.map_eq_some_iff] at h3
      obtain ⟨z', h4, h5⟩ := h3
      subst h5
      simp only [formL_cons, Bool.and_eq_true] at hf
      have a := hrd s x h1 hf.1
      obtain ⟨b1, b2⟩ := items_text hrd h4 hf.2
      have c := hp_drop h44
      refine ⟨?_, by simp⟩
      have hne : z'.1.texts ≠ [] := by
        cases e : z'.1 with
        | nil => exact absurd e b2
        | cons => simp [texts_cons]
      simp only [texts_cons]
      rw [joinC_cons' _ hne, List.append_assoc, List.cons_append, ← b1]
      show s = textT x.1 x.2.1 ++ ([44] ++ _)
      rw [← show x.2.2 = [44] ++ x.2.2.drop 1 from c]
      exact a
    · injection h3 with h3
      subst h3
      simp only [formL_cons, Bool.and_eq_true] at hf
      refine ⟨?_, by simp⟩
      simp only [texts_cons]
      show s = joinC [textT x.1 x.2.1] ++ _
      rw [joinC_one]
      exact hrd s x h1 hf.1
theorem list_text {rd : Rdr} (hrd : RdrOk rd) {j : Nat} {ends : List (List UInt8)} {s : List UInt8} {z : TL × List UInt8} (h : pList rd j ends s = some z) (hf : formL z.1 = true) : s = joinC z.1.texts ++ z.2 := by
  unfold pList at h
  split at h
  · injection h with h
    subst h; rfl
  · exact (items_text hrd h hf).1
theorem tail_text {rd : Rdr} (hrd : RdrOk rd) {s : List UInt8} {x : Fd × TL × List UInt8} (h : pTail true rd s = some x) (hf : formT x.1 x.2.1 = true) : s = (if x.1.k = 8 then [] else 124 :: textT x.1 x.2.1) ++ x.2.2 := by
  unfold pTail at h
  split at h
  · rename_i h124
    simp only [Option.bind_eq_some_iff] at h
    obtain ⟨y, h1, h2⟩ := h
    split at h2
    · cases h2
    · rename_i hk
      injection h2 with h2
      subst h2
      rw [if_neg (by simpa using hk), List.cons_append, ← hrd _ _ h1 hf]
      exact hp_drop h124
  · injection h with h
    subst h; rfl
theorem pair_text {rd : Rdr} (hrd : RdrOk rd) {j : Nat} {s : List UInt8} {x : Fd × TL × List UInt8} (h : pPair true rd j s = some x) (hf : formT x.1 x.2.1 = true) : [91] ++ s = textT x.1 x.2.1 ++ x.2.2 := by
  unfold pPair at h
  simp only [Option.bind_eq_some_iff] at h
  obtain ⟨l, h1, y, h2, s', h3, h4⟩ := h
  injection h4 with h4
  subst h4
  simp only at hf ⊢
  have hl := (form_node hf).2
  rw [formL_app, formL_cons, Bool.and_eq_true, Bool.and_eq_true] at hl
  have a := list_text hrd h1 hl.1
  have b := tail_text hrd h2 hl.2.1
  have c := (must_len h3).1
  show _ = ([91] ++ lisT (l.1.app (.cons y.1 y.2.1 .nil)).texts (l.1.app (.cons y.1 y.2.1 .nil)).lastK) ++ s'
  rw [lastK_snoc, texts_app, texts_cons]
  unfold lisT
  rw [show (TL.nil).texts = [] from rfl, List.dropLast_concat]
  rw [show (l.1.texts ++ [textT y.1 y.2.1]).getLastD [] = textT y.1 y.2.1 by simp]
  simp only [List.append_assoc]
  rw [← c, ← b, ← a]
theorem pid_text {k : Int} {s : List UInt8} {x : Fd × TL × List UInt8} (h : pPid k s = some x) : s = (markT x.1 ++ [62]) ++ x.2.2 ∧ x.1.k = k ∧ x.2.1 = .nil := by
  unfold pPid at h
  simp only [Option.bind_eq_some_iff] at h
  obtain ⟨y, h1, s', h3, h4⟩ := h
  injection h4 with h4
  subst h4
  obtain ⟨a, b⟩ := marked_text h1
  have c := (must_len h3).1
  refine ⟨?_, b, rfl⟩
  simp only
  rw [List.append_assoc, ← c]; exact a
theorem textT_k3 {f : Fd} {it : TL} (h : f.k = 3) : textT f it = [35, 82, 101, 102, 60] ++ (markT f ++ [62]) := by unfold textT textF; rw [h]; rfl
theorem textT_k4 {f : Fd} {it : TL} (h : f.k = 4) : textT f it = [35, 70, 117, 110, 60] ++ cloT f (joinC it.texts) := by unfold textT textF; rw [h]; rfl
theorem textT_k6 {f : Fd} {it : TL} (h : f.k = 6) : textT f it = [60] ++ (markT f ++ [62]) := by unfold textT textF; rw [h]; rfl
theorem sign_text {rd : Rdr} (hrd : RdrOk rd) {j : Nat} {s : List UInt8} {x : Fd × TL × List UInt8} (h : pSign true rd j s = some x) (hf : formT x.1 x.2.1 = true) : s = textT x.1 x.2.1 ++ x.2.2 := by
  unfold pSign at h
  split at h
  · rename_i hh
    injection h with h
    subst h
    exact hp_drop hh
  split at h
  · rename_i hh
    rw [← pair_text hrd h hf]
    exact hp_drop hh
  split at h
  · rename_i hh
    unfold pTuple at h
    simp only [Option.bind_eq_some_iff] at h
    obtain ⟨l, h1, s', h3, h4⟩ := h
    injection h4 with h4
    subst h4
    have a := list_text hrd h1 (form_node hf).2
    have c := (must_len h3).1
    show s = ([123] ++ (joinC l.1.texts ++ [125])) ++ s'
    rw [List.append_assoc, List.append_assoc, ← c, ← a]
    exact hp_drop hh
  split at h
  · rename_i hh
    simp only [Option.bind_eq_some_iff] at h
    obtain ⟨y, h1, h2⟩ := h
    injection h2 with h2
    subst h2
    rw [← bits_text h1]
    exact hp_drop hh
  split at h
  · rename_i hh
    obtain ⟨a, b, c⟩ := pid_text h
    rw [textT_k6 b, List.append_assoc, ← a]
    exact hp_drop hh
  split at h
  · rename_i hh
    obtain ⟨a, b, c⟩ := pid_text h
    rw [textT_k3 b, List.append_assoc, ← a]
    exact hp_drop hh
  split at h
  · rename_i hh
    unfold pFun at h
    simp only [Option.bind_eq_some_iff] at h
    obtain ⟨y, h1, s1, h2, n, h3, s2, h4, l, h5, s', h6, h7⟩ := h
    injection h7 with h7
    subst h7
    obtain ⟨a, hk⟩ := marked_text h1
    have b := (must_len h2).1
    have c := (int_rest h3).1
    have d := (must_len h4).1
    have e := list_text hrd h5 (form_node hf).2
    have g := (must_len h6).1
    rw [textT_k4 (by exact hk)]
    simp only
    unfold cloT
    rw [show markT {y.1 with ar := n.1} = markT y.1 from rfl]
    simp only [List.append_assoc, List.cons_append, List.nil_append]
    rw [show (125 :: s') = l.2 from g.symm, ← e]
    rw [show (62 :: 123 :: s2) = n.2 from d.symm, ← c]
    rw [show (47 :: s1) = y.2 from b.symm, ← a]
    exact hp_drop hh
  split at h
  · rename_i hh
    unfold pExp at h
    simp only [Option.bind_eq_some_iff] at h
    obtain ⟨s1, h1, s2, h2, y, h3, h4⟩ := h
    injection h4 with h4
    subst h4
    have a := (must_len h1).1
    have b := (must_len h2).1
    have c := (int_rest h3).1
    show s = ([102, 117, 110, 32] ++ (bl (spanN (s.drop 4)) ++ 58 :: (bl (spanN s1) ++ 47 :: Lib.itoa y.1))) ++ y.2
    simp only [List.append_assoc, List.cons_append, List.nil_append]
    rw [← c, show (47 :: s2) = s1.dropWhile letC from b.symm, ← span_app s1, show (58 :: s1) = (s.drop 4).dropWhile letC from a.symm, ← span_app]
    exact hp_drop hh
  · unfold pPlain at h
    split at h
    · simp only [Option.bind_eq_some_iff] at h
      obtain ⟨y, h1, h2⟩ := h
      injection h2 with h2
      subst h2
      exact (int_rest h1).1
    · rw [if_neg (by simp)] at h
      injection h with h
      subst h
      exact span_app s
theorem term_text : ∀ (j d : Nat), RdrOk (pTerm true j d)
  | 0, _ => fun _ _ h _ => by cases h
  | j + 1, d => fun s x h hf => by
    rw [pTerm] at h
    split at h
    · cases h
    · exact sign_text (term_text j (d + 1)) h hf
end Go.Proofs.YtgfodedmcjkmaaaDoor
namespace Go.Proofs.YtgfodedmcjkmaaaDoor
open Go.RowKit Go.Proofs.BitsM
/-- what may stand behind a term -/
def folC (c : UInt8) : Bool := c == 44 || c == 125 || c == 93 || c == 124
def fol (r : List UInt8) : Bool := match r with | [] => true | c :: _ => folC c
/-- a byte that ends a run -/
def stops (q : UInt8 → Bool) (r : List UInt8) : Prop := ∀ c t, r = c :: t → q c = false
theorem span_stop {q : UInt8 → Bool} {p r : List UInt8} (hp : ∀ c ∈ p, q c = true) (hr : stops q r) : (p ++ r).takeWhile q = p ∧ (p ++ r).dropWhile q = r := by
  induction p with
  | nil =>
    cases r with
    | nil => exact ⟨rfl, rfl⟩
    | cons c t =>
      have := hr c t rfl
      exact ⟨by simp [this], by simp [this]⟩
  | cons a p ih =>
    have ha := hp a (by simp)
    have := ih fun c hc => hp c (by simp [hc])
    simp [ha, this.1, this.2]
theorem stops_cons {q : UInt8 → Bool} {c : UInt8} (t : List UInt8) (h : q c = false) : stops q (c :: t) := by
  intro c' t' e; injection e with e1 e2; subst e1; exact h
theorem folC_iff (c : UInt8) : folC c = true ↔ c = 44 ∨ c = 125 ∨ c = 93 ∨ c = 124 := by unfold folC; simp [or_assoc]
theorem fol_stops {q : UInt8 → Bool} {r : List UInt8} (h : fol r = true) (h1 : q 44 = false) (h2 : q 125 = false) (h3 : q 93 = false) (h4 : q 124 = false) : stops q r := by
  intro c t e
  subst e
  rcases (folC_iff c).1 h with rfl | rfl | rfl | rfl <;> assumption
theorem int_full {n : Int} {r : List UInt8} (h0 : -9223372036854775808 ≤ n) (h1 : n ≤ 9223372036854775807) (hr : stops digC r) : pInt (Lib.itoa n ++ r) = some (n, r) := by
  obtain ⟨a, b⟩ := span_stop (itoa_all n) hr
  unfold pInt
  rw [a, b, readN_itoa n h0 h1]; rfl
theorem must_full (p r : List UInt8) : pMust p (p ++ r) = some r := by
  unfold pMust; rw [if_pos (hp_app p r), List.drop_left]
theorem must_one (a : UInt8) (r : List UInt8) : pMust [a] (a :: r) = some r := must_full [a] r
theorem must_two (a b : UInt8) (r : List UInt8) : pMust [a, b] (a :: b :: r) = some r := must_full [a, b] r
theorem hp_cons (c a : UInt8) (s p : List UInt8) : hp (c :: s) (a :: p) = (a == c && hp s p) := rfl
theorem hp_nil (s : List UInt8) : hp s [] = true := by cases s <;> rfl
theorem hp_empty (a : UInt8) (p : List UInt8) : hp [] (a :: p) = false := rfl
theorem hp_one (c a : UInt8) (s : List UInt8) : hp (c :: s) [a] = (a == c) := by rw [hp_cons, hp_nil, Bool.and_true]
theorem byteAt_bl (s : ByteArray) (k : Nat) (h : k < s.size) : ∃ c, (bl s)[k]? = some c ∧ byteAt s k = c.toNat := by
  have hb := byteAt_eq (s := s) (k := k) h
  have hl : k < s.data.toList.length := by rw [Array.length_toList]; exact h
  refine ⟨s.data.toList[k]'hl, List.getElem?_eq_getElem hl, ?_⟩
  rw [← hb]; rfl
theorem nameTo_all {s : ByteArray} : ∀ (n : Nat), nameTo s n = true → ∀ k, 0 < k → k < n → okC (byteAt s k) = true
  | 0, _, _, _, hk => absurd hk (Nat.not_lt_zero _)
  | n + 1, h, k, h0, hk => by
    rw [nameTo, Bool.and_eq_true, Bool.or_eq_true, decide_eq_true_eq] at h
    rcases Nat.lt_or_ge k n with h1 | h1
    · exact nameTo_all n h.1 k h0 h1
    · obtain rfl : k = n := by omega
      exact h.2.resolve_left (by omega)
/-- a valid name: letters, the first one a small one -/
theorem name_bl {s : ByteArray} (h : nameB s = true) : (∀ c ∈ bl s, letC c = true) ∧ (∃ c r, bl s = c :: r ∧ lowC c.toNat = true) ∧ (bl s).length ≤ 32 := by
  unfold nameB at h
  simp only [Bool.and_eq_true, decide_eq_true_eq] at h
  obtain ⟨⟨⟨h1, h2⟩, h3⟩, h4⟩ := h
  have hl : (bl s).length = s.size := Array.length_toList
  obtain ⟨c0, e0, b0⟩ := byteAt_bl s 0 (by omega)
  refine ⟨fun c hc => ?_, ?_, by omega⟩
  · obtain ⟨k, hk⟩ := List.getElem?_of_mem hc
    have hkl : k < s.size := by
      rcases Nat.lt_or_ge k (bl s).length with h' | h'
      · omega
      · rw [List.getElem?_eq_none h'] at hk; cases hk
    obtain ⟨c', e', b'⟩ := byteAt_bl s k hkl
    rw [hk] at e'
    injection e' with e'
    subst e'
    unfold letC
    rw [← b']
    rcases Nat.eq_zero_or_pos k with rfl | h0
    · unfold okC; rw [h3]; rfl
    · exact nameTo_all _ h4 k h0 hkl
  · cases e : bl s with
    | nil => rw [e] at hl; simp at hl; omega
    | cons c r =>
      rw [e] at e0
      injection e0 with e0
      exact ⟨c, r, rfl, by rw [e0, ← b0]; exact h3⟩
theorem spanN_full {s : ByteArray} {r : List UInt8} (h : nameB s = true) (hr : stops letC r) : spanN (bl s ++ r) = s ∧ (bl s ++ r).dropWhile letC = r := by
  obtain ⟨a, b⟩ := span_stop (name_bl h).1 hr
  exact ⟨by unfold spanN; rw [a]; rfl, b⟩
theorem marked_full {f : Fd} {k : Int} {r : List UInt8} (hn : nameB f.nm = true) (g0 : -9223372036854775808 ≤ f.g) (g1 : f.g ≤ 9223372036854775807) (i0 : -9223372036854775808 ≤ f.i) (i1 : f.i ≤ 9223372036854775807) (hr : stops digC r) :
    pMarked k (markT f ++ r) = some (⟨k, f.i, f.g, f.nm, ⟨#[]⟩, 0, ⟨#[]⟩, 0⟩, r) := by
  unfold markT
  simp only [List.append_assoc, List.cons_append]
  obtain ⟨a, b⟩ := spanN_full (r := 46 :: (Lib.itoa f.g ++ 46 :: (Lib.itoa f.i ++ r))) hn (stops_cons _ (by decide))
  unfold pMarked
  rw [a, b, must_one, Option.bind_some, int_full g0 g1 (stops_cons _ (by decide)), Option.bind_some, must_one, Option.bind_some, int_full i0 i1 hr, Option.bind_some]
/-- valid bits, byte by byte -/
def vbits : List UInt8 → Int → Prop
  | [], n => n = 0
  | b :: r, n => match r with | [] => 1 ≤ n ∧ n ≤ 8 ∧ b.toNat % 2 ^ (8 - n.toNat) = 0 | _ :: _ => 8 < n ∧ vbits r (n - 8)
theorem vbits_of : ∀ (l : List UInt8) (n : Int), 0 ≤ n → (l.length : Int) = (n + 7) / 8 → (n % 8 = 0 ∨ ∀ b, l.getLast? = some b → b.toNat % 2 ^ (8 - (n % 8).toNat) = 0) → vbits l n
  | [], n, h0, hl, _ => by
    simp only [List.length_nil] at hl
    show n = 0
    omega
  | [b], n, h0, hl, hb => by
    simp only [List.length_cons, List.length_nil] at hl
    refine ⟨by omega, by omega, ?_⟩
    rcases Int.lt_or_le n 8 with h8 | h8
    · have := hb.resolve_left (by omega) b rfl
      rw [show n % 8 = n by omega] at this
      exact this
    · rw [show n = 8 by omega]
      exact Nat.mod_one _
  | b :: b' :: r, n, h0, hl, hb => by
    simp only [List.length_cons] at hl
    refine ⟨by omega, vbits_of (b' :: r) (n - 8) (by omega) (by simp only [List.length_cons]; omega) ?_⟩
    rw [show (n - 8) % 8 = n % 8 by omega]
    exact hb.imp_right fun h x hx => h x (by rw [List.getLast?_cons_cons]; exact hx)
theorem validB_vbits {s : ByteArray} {n : Int} (h : validB s n = true) : vbits (bl s) n := by
  unfold validB at h
  simp only [Bool.and_eq_true, Bool.or_eq_true, decide_eq_true_eq] at h
  obtain ⟨⟨h1, h2⟩, h3⟩ := h
  have hl : (bl s).length = s.size := Array.length_toList
  refine vbits_of _ _ h1 (by rw [hl]; exact h2) (h3.imp_right fun h4 b hb => ?_)
  rw [List.getLast?_eq_getElem?] at hb
  have hs : s.size - 1 < s.size := by
    rcases Nat.eq_zero_or_pos s.size with h0 | h0
    · rw [hl, h0] at hb
      have : bl s = [] := List.length_eq_zero_iff.1 (by omega)
      rw [this] at hb; simp at hb
    · omega
  obtain ⟨c, e, e2⟩ := byteAt_bl s (s.size - 1) hs
  rw [hl, e] at hb
  injection hb with hb
  subst hb
  rw [← e2]; exact h4
theorem vbits_pos {l : List UInt8} {n : Int} (h : vbits l n) (hl : l ≠ []) : 1 ≤ n := by
  match l, h with
  | [b], h => exact h.1
  | b :: b' :: r, h => have := h.1; omega
theorem seg_full {m : Bool} {j : Nat} {b : UInt8} {n : Int} {r : List UInt8} (h1 : 1 ≤ n) (h8 : n ≤ 8) (hb : b.toNat % 2 ^ (8 - n.toNat) = 0) (hd : stops digC r) (h44 : hp r [44] = false) (h58 : hp r [58] = false) :
    pSegs m (j + 1) ((if n < 8 then Lib.itoa ((b.toNat / 2 ^ (8 - n.toNat) : Nat) : Int) ++ 58 :: Lib.itoa n else Lib.itoa (b.toNat : Int)) ++ r) = some ([b], n, r) := by
  have hb256 := b.toNat_lt
  obtain ⟨k, rfl⟩ : ∃ k : Nat, n = (k : Int) := ⟨n.toNat, by omega⟩
  simp only [Int.toNat_natCast] at hb ⊢
  have hp2 : 2 ^ k * 2 ^ (8 - k) = 256 := by rw [← Nat.pow_add, show k + (8 - k) = 8 by omega]
  by_cases hk : k < 8
  · rw [if_pos (by omega)]
    have hq : b.toNat / 2 ^ (8 - k) < 2 ^ k := Nat.div_lt_of_lt_mul (by rw [Nat.mul_comm, hp2]; omega)
    have hk2 : 2 ^ k ≤ 256 := by rw [← hp2]; exact Nat.le_mul_of_pos_right _ (Nat.two_pow_pos _)
    have hseg : segB ((b.toNat / 2 ^ (8 - k) : Nat) : Int) (k : Int) = b := by
      unfold segB
      simp only [Int.toNat_natCast]
      have e : b.toNat / 2 ^ (8 - k) * 2 ^ (8 - k) = b.toNat := Nat.div_mul_cancel (Nat.dvd_of_mod_eq_zero hb)
      rw [e]; simp
    have hle : b.toNat / 2 ^ (8 - k) ≤ b.toNat := Nat.div_le_self _ _
    generalize b.toNat / 2 ^ (8 - k) = q at hq hle hseg ⊢
    have hok : okSeg m (q : Int) (k : Int) = true := by
      unfold okSeg
      rw [Bool.and_eq_true]
      refine ⟨by simp only [decide_eq_true_eq]; omega, ?_⟩
      cases m
      · simp only [Bool.false_eq_true, if_false, Bool.and_eq_true, decide_eq_true_eq]; omega
      · simp only [if_true, decide_eq_true_eq, Int.toNat_natCast]
        have := Int.ofNat_lt.2 hq
        rwa [Int.natCast_pow] at this
    rw [pSegs, List.append_assoc, List.cons_append, int_full (by omega) (by omega) (stops_cons _ (by decide)), Option.bind_some]
    simp only
    have hmany : pMany m (58 :: (Lib.itoa (k : Int) ++ r)) = some ((k : Int), r) := by
      unfold pMany
      rw [hp_one, if_pos (by decide)]
      show (pInt (Lib.itoa (k : Int) ++ r)).bind _ = _
      rw [int_full (by omega) (by omega) hd, Option.bind_some, if_neg]
      simp only [h44, Bool.or_false, Bool.and_eq_true, Bool.or_eq_true, decide_eq_true_eq]
      omega
    rw [hmany, Option.bind_some]
    simp only
    rw [hok, if_pos rfl, if_neg (by rw [h44]; decide), hseg]
  · obtain rfl : k = 8 := by omega
    rw [if_neg (by omega)]
    have hseg : segB (b.toNat : Int) ((8 : Nat) : Int) = b := by
      show UInt8.ofNat (b.toNat * 1) = b
      simp
    have hok : okSeg m (b.toNat : Int) ((8 : Nat) : Int) = true := by
      unfold okSeg
      rw [Bool.and_eq_true]
      refine ⟨by simp only [decide_eq_true_eq]; omega, ?_⟩
      cases m
      · simp only [Bool.false_eq_true, if_false, Bool.and_eq_true, decide_eq_true_eq]; omega
      · simp only [if_true, decide_eq_true_eq]
        show (b.toNat : Int) < 256
        omega
    rw [pSegs, int_full (by omega) (by omega) hd, Option.bind_some]
    have hmany : pMany m r = some (((8 : Nat) : Int), r) := by
      unfold pMany
      rw [if_neg (by rw [h58]; decide)]; rfl
    simp only
    rw [hmany, Option.bind_some]
    simp only
    rw [hok, if_pos rfl, if_neg (by rw [h44]; decide), hseg]
theorem segs_full {m : Bool} : ∀ {l : List UInt8} {n : Int} {j : Nat} {r : List UInt8}, vbits l n → l ≠ [] → l.length ≤ j → stops digC r → hp r [44] = false → hp r [58] = false → pSegs m j (joinC (segs l n) ++ r) = some (l, n, r)
  | [], _, _, _, _, h, _, _, _, _ => absurd rfl h
  | _ :: _, _, 0, _, _, _, h, _, _, _ => by simp at h
  | [b], n, j + 1, r, hv, _, _, hd, h44, h58 => by
    simp only [segs, joinC, List.append_nil]
    exact seg_full hv.1 hv.2.1 hv.2.2 hd h44 h58
  | b :: b' :: t, n, j + 1, r, hv, _, hj, hd, h44, h58 => by
    have hb256 := b.toNat_lt
    have ih := segs_full (m := m) (j := j) hv.2 (by simp) (by simp only [List.length_cons] at hj ⊢; omega) hd h44 h58
    have hn := hv.1
    have e : joinC (segs (b :: b' :: t) n) ++ r = Lib.itoa (b.toNat : Int) ++ 44 :: (joinC (segs (b' :: t) (n - 8)) ++ r) := by
      rw [segs, if_neg (by omega), joinC_cons' _ (by simp [segs]), List.append_assoc, List.cons_append]
    have hok : okSeg m (b.toNat : Int) 8 = true := by
      unfold okSeg
      rw [Bool.and_eq_true]
      refine ⟨by simp only [decide_eq_true_eq]; omega, ?_⟩
      cases m
      · simp only [Bool.false_eq_true, if_false, Bool.and_eq_true, decide_eq_true_eq]; omega
      · simp only [if_true, decide_eq_true_eq]
        show (b.toNat : Int) < 256
        omega
    have hmany : pMany m (44 :: (joinC (segs (b' :: t) (n - 8)) ++ r)) = some (8, 44 :: (joinC (segs (b' :: t) (n - 8)) ++ r)) := by
      unfold pMany
      rw [hp_one, if_neg (by decide)]
    have hseg : segB (b.toNat : Int) 8 = b := by
      show UInt8.ofNat (b.toNat * 1) = b
      simp
    rw [e, pSegs, int_full (by omega) (by omega) (stops_cons _ (by decide)), Option.bind_some]
    simp only
    rw [hmany, Option.bind_some]
    simp only
    rw [hok, if_pos rfl, hp_one, if_pos (by decide)]
    show (pSegs m j (joinC (segs (b' :: t) (n - 8)) ++ r)).map _ = _
    rw [ih]
    simp only [Option.map_some, hseg]
    rw [show 8 + (n - 8) = n by omega]
theorem segs_head : ∀ {l : List UInt8} {n : Int}, l ≠ [] → ∃ c r, joinC (segs l n) = c :: r ∧ digC c = true
  | [], _, h => absurd rfl h
  | b :: t, n, _ => by
    obtain ⟨c, r, e, h⟩ := itoa_cons ((b.toNat / 2 ^ (8 - n.toNat) : Nat) : Int)
    obtain ⟨c', r', e', h'⟩ := itoa_cons (b.toNat : Int)
    rw [segs, joinC_eq]
    split
    · rw [e]; exact ⟨c, _, rfl, h⟩
    · rw [e']; exact ⟨c', _, rfl, h'⟩
theorem segs_long : ∀ (l : List UInt8) (n : Int), l.length ≤ (joinC (segs l n)).length
  | [], _ => Nat.zero_le _
  | b :: t, n => by
    obtain ⟨c, r, e, h⟩ := itoa_cons ((b.toNat / 2 ^ (8 - n.toNat) : Nat) : Int)
    obtain ⟨c', r', e', h'⟩ := itoa_cons (b.toNat : Int)
    have ih := segs_long t (n - 8)
    have h1 : 1 ≤ (if n < 8 then Lib.itoa ((b.toNat / 2 ^ (8 - n.toNat) : Nat) : Int) ++ 58 :: Lib.itoa n else Lib.itoa (b.toNat : Int)).length := by
      split
      · rw [List.length_append, List.length_cons]; omega
      · rw [e', List.length_cons]; omega
    rw [segs]
    generalize (if n < 8 then Lib.itoa ((b.toNat / 2 ^ (8 - n.toNat) : Nat) : Int) ++ 58 :: Lib.itoa n else Lib.itoa (b.toNat : Int)) = x at h1
    rw [joinC_eq, List.length_append, List.length_cons]
    cases hr : segs t (n - 8) with
    | nil =>
      cases t with
      | nil => simp only [List.length_nil]; omega
      | cons => simp [segs] at hr
    | cons y q => rw [hr] at ih; simp only [List.length_cons]; omega
theorem bits_full {m : Bool} {j : Nat} {bs : ByteArray} {n : Int} {r : List UInt8} (hv : validB bs n = true) (hj : (bl bs).length ≤ j) : pBits m j (joinC (segs (bl bs) n) ++ ([62, 62] ++ r)) = some (⟨10, 0, 0, ⟨#[]⟩, ⟨#[]⟩, 0, bs, n⟩, r) := by
  have hvb := validB_vbits hv
  unfold pBits
  have e : ∀ z : List UInt8 × Int × List UInt8, z = (bl bs, n, [62, 62] ++ r) → ((some z).bind fun z => (pMust [62, 62] z.2.2).bind fun s' => some (bitF z.1 z.2.1, s')) = some ((⟨10, 0, 0, ⟨#[]⟩, ⟨#[]⟩, 0, bs, n⟩ : Fd), r) := by
    rintro z rfl
    rw [Option.bind_some]
    simp only
    rw [must_full]; rfl
  by_cases hb : bl bs = []
  · rw [hb] at hvb ⊢
    have h0 : n = 0 := hvb
    subst h0
    rw [if_pos (by show hp ([62, 62] ++ r) [62, 62] = true; exact hp_app _ _)]
    exact e _ (by rw [hb]; rfl)
  · obtain ⟨c, t, ec, hc⟩ := segs_head (n := n) hb
    rw [if_neg]
    · rw [segs_full (r := [62, 62] ++ r) hvb hb hj (stops_cons _ (by decide)) (by rfl) (by rfl)]
      exact e _ rfl
    · rw [ec]
      show ¬ hp (c :: _) [62, 62] = true
      rw [hp_cons]
      intro h
      rw [Bool.and_eq_true] at h
      have : c = 62 := (beq_iff_eq.1 h.1).symm
      subst this
      exact absurd hc (by decide)
end Go.Proofs.YtgfodedmcjkmaaaDoor
namespace Go.Proofs.YtgfodedmcjkmaaaDoor
open Go.RowKit Go.Proofs.BitsM
def Fd.iok (f : Fd) : Prop := -9223372036854775808 ≤ f.i ∧ f.i ≤ 9223372036854775807
def TL.iok : TL → Prop
  | .nil => True
  | .cons f it r => f.iok ∧ it.iok ∧ r.iok
theorem iok_app : ∀ {l m : TL}, (l.app m).iok ↔ l.iok ∧ m.iok
  | .nil, m => by simp [TL.app, TL.iok]
  | .cons f it r, m => by simp only [TL.app, TL.iok, iok_app (l := r), and_assoc]
theorem node_bare {f : Fd} {it : TL} (h : nodeB f it = true) : bareF f = Fd.zero ∧ bareN f it.len = 0 ∧ okK f it = true := by
  unfold nodeB zeroB at h
  simp only [Bool.and_eq_true, decide_eq_true_eq] at h
  exact ⟨Fd.same_iff.1 h.1.1, h.1.2, h.2⟩
theorem ok_kinds {f : Fd} {it : TL} (h : okK f it = true) : f.k = 1 ∨ f.k = 2 ∨ f.k = 3 ∨ f.k = 4 ∨ f.k = 5 ∨ f.k = 6 ∨ f.k = 7 ∨ f.k = 8 ∨ f.k = 9 ∨ f.k = 10 := by
  unfold okK at h
  repeat (split at h; · omega)
  cases h
theorem bare_nil {f : Fd} {it : TL} (h : bareN f it.len = 0) (h4 : f.k ≠ 4) (h7 : f.k ≠ 7) (h9 : f.k ≠ 9) : it = .nil := by
  unfold bareN dropsK at h
  rw [if_neg (by simp [h4, h7, h9])] at h
  exact TL.len_zero h
/-- the shapes of well-formed terms -/
theorem shape1 {f : Fd} {it : TL} (h : formT f it = true) (hk : f.k = 1) : f = intF f.i ∧ it = .nil := by
  obtain ⟨hb, hn, _⟩ := node_bare (form_node h).1
  refine ⟨?_, bare_nil hn (by omega) (by omega) (by omega)⟩
  obtain ⟨k, i, g, nm, fn, ar, bs, n⟩ := f
  simp only at hk; subst hk
  have hb' : (⟨0, 0, g, nm, fn, ar, bs, n⟩ : Fd) = ⟨0, 0, 0, ⟨#[]⟩, ⟨#[]⟩, 0, ⟨#[]⟩, 0⟩ := hb
  simp only [Fd.mk.injEq] at hb'
  obtain ⟨-, -, rfl, rfl, rfl, rfl, rfl, rfl⟩ := hb'
  rfl
theorem shape2 {f : Fd} {it : TL} (h : formT f it = true) (hk : f.k = 2) : f = atomF f.nm ∧ it = .nil ∧ nameB f.nm = true := by
  obtain ⟨hb, hn, ho⟩ := node_bare (form_node h).1
  refine ⟨?_, bare_nil hn (by omega) (by omega) (by omega), by unfold okK at ho; rw [hk] at ho; exact ho⟩
  obtain ⟨k, i, g, nm, fn, ar, bs, n⟩ := f
  simp only at hk; subst hk
  have hb' : (⟨0, i, g, ⟨#[]⟩, fn, ar, bs, n⟩ : Fd) = ⟨0, 0, 0, ⟨#[]⟩, ⟨#[]⟩, 0, ⟨#[]⟩, 0⟩ := hb
  simp only [Fd.mk.injEq] at hb'
  obtain ⟨-, rfl, rfl, -, rfl, rfl, rfl, rfl⟩ := hb'
  rfl
theorem within_iff {n a b : Int} : withinB n a b = true ↔ a ≤ n ∧ n ≤ b := by unfold withinB; simp
theorem shape36 {f : Fd} {it : TL} (h : formT f it = true) (hk : f.k = 3 ∨ f.k = 6) : f = ⟨f.k, f.i, f.g, f.nm, ⟨#[]⟩, 0, ⟨#[]⟩, 0⟩ ∧ it = .nil ∧ nameB f.nm = true ∧ (1 ≤ f.i ∧ f.i ≤ 2147483647) ∧ (1 ≤ f.g ∧ f.g ≤ 2147483647) := by
  obtain ⟨hb, hn, ho⟩ := node_bare (form_node h).1
  refine ⟨?_, bare_nil hn (by omega) (by omega) (by omega), ?_⟩
  · obtain ⟨k, i, g, nm, fn, ar, bs, n⟩ := f
    simp only at hk
    have hb' : (⟨0, 0, 0, ⟨#[]⟩, fn, ar, bs, n⟩ : Fd) = ⟨0, 0, 0, ⟨#[]⟩, ⟨#[]⟩, 0, ⟨#[]⟩, 0⟩ := by rcases hk with rfl | rfl <;> exact hb
    simp only [Fd.mk.injEq] at hb'
    obtain ⟨-, -, -, -, rfl, rfl, rfl, rfl⟩ := hb'
    rfl
  · have ho' : (withinB f.i 1 2147483647 && withinB f.g 1 2147483647 && nameB f.nm) = true := by
      unfold okK at ho
      rcases hk with hk | hk <;> (rw [hk] at ho; exact ho)
    simp only [Bool.and_eq_true, within_iff] at ho'
    exact ⟨ho'.2, ho'.1.1, ho'.1.2⟩
theorem shape4 {f : Fd} {it : TL} (h : formT f it = true) (hk : f.k = 4) : f = ⟨4, f.i, f.g, f.nm, ⟨#[]⟩, f.ar, ⟨#[]⟩, 0⟩ ∧ nameB f.nm = true ∧ (0 ≤ f.i ∧ f.i ≤ 999) ∧ (1 ≤ f.g ∧ f.g ≤ 2147483647) ∧ (0 ≤ f.ar ∧ f.ar ≤ 16) := by
  obtain ⟨hb, hn, ho⟩ := node_bare (form_node h).1
  refine ⟨?_, ?_⟩
  · obtain ⟨k, i, g, nm, fn, ar, bs, n⟩ := f
    simp only at hk; subst hk
    have hb' : (⟨0, 0, 0, ⟨#[]⟩, fn, 0, bs, n⟩ : Fd) = ⟨0, 0, 0, ⟨#[]⟩, ⟨#[]⟩, 0, ⟨#[]⟩, 0⟩ := hb
    simp only [Fd.mk.injEq] at hb'
    obtain ⟨-, -, -, -, rfl, -, rfl, rfl⟩ := hb'
    rfl
  · have ho' : (withinB f.i 0 999 && withinB f.g 1 2147483647 && nameB f.nm && withinB f.ar 0 16 && decide ((it.len : Int) ≤ 200)) = true := by
      unfold okK at ho
      rw [hk] at ho; exact ho
    simp only [Bool.and_eq_true, within_iff] at ho'
    exact ⟨ho'.1.1.2, ho'.1.1.1.1, ho'.1.1.1.2, ho'.1.2⟩
theorem shape5 {f : Fd} {it : TL} (h : formT f it = true) (hk : f.k = 5) : f = ⟨5, 0, 0, f.nm, f.fn, f.ar, ⟨#[]⟩, 0⟩ ∧ it = .nil ∧ nameB f.nm = true ∧ nameB f.fn = true ∧ (0 ≤ f.ar ∧ f.ar ≤ 16) := by
  obtain ⟨hb, hn, ho⟩ := node_bare (form_node h).1
  refine ⟨?_, bare_nil hn (by omega) (by omega) (by omega), ?_⟩
  · obtain ⟨k, i, g, nm, fn, ar, bs, n⟩ := f
    simp only at hk; subst hk
    have hb' : (⟨0, i, g, ⟨#[]⟩, ⟨#[]⟩, 0, bs, n⟩ : Fd) = ⟨0, 0, 0, ⟨#[]⟩, ⟨#[]⟩, 0, ⟨#[]⟩, 0⟩ := hb
    simp only [Fd.mk.injEq] at hb'
    obtain ⟨-, rfl, rfl, -, -, -, rfl, rfl⟩ := hb'
    rfl
  · have ho' : (nameB f.nm && nameB f.fn && withinB f.ar 0 16) = true := by
      unfold okK at ho
      rw [hk] at ho; exact ho
    simp only [Bool.and_eq_true, within_iff] at ho'
    exact ⟨ho'.1.1, ho'.1.2, ho'.2⟩
theorem shapeK {f : Fd} {it : TL} (h : formT f it = true) (hk : f.k = 7 ∨ f.k = 8 ∨ f.k = 9) : f = kF f.k := by
  obtain ⟨hb, _, _⟩ := node_bare (form_node h).1
  obtain ⟨k, i, g, nm, fn, ar, bs, n⟩ := f
  simp only at hk
  have hb' : (⟨0, i, g, nm, fn, ar, bs, n⟩ : Fd) = ⟨0, 0, 0, ⟨#[]⟩, ⟨#[]⟩, 0, ⟨#[]⟩, 0⟩ := by rcases hk with rfl | rfl | rfl <;> exact hb
  simp only [Fd.mk.injEq] at hb'
  obtain ⟨-, rfl, rfl, rfl, rfl, rfl, rfl, rfl⟩ := hb'
  rfl
theorem shape8 {f : Fd} {it : TL} (h : formT f it = true) (hk : f.k = 8) : f = kF 8 ∧ it = .nil := by
  obtain ⟨_, hn, _⟩ := node_bare (form_node h).1
  refine ⟨?_, bare_nil hn (by omega) (by omega) (by omega)⟩
  have := shapeK h (.inr (.inl hk))
  rw [hk] at this; exact this
theorem shape10 {f : Fd} {it : TL} (h : formT f it = true) (hk : f.k = 10) : f = ⟨10, 0, 0, ⟨#[]⟩, ⟨#[]⟩, 0, f.bs, f.n⟩ ∧ it = .nil ∧ validB f.bs f.n = true := by
  obtain ⟨hb, hn, ho⟩ := node_bare (form_node h).1
  refine ⟨?_, bare_nil hn (by omega) (by omega) (by omega), (ok_bits ho hk).2.2⟩
  obtain ⟨k, i, g, nm, fn, ar, bs, n⟩ := f
  simp only at hk; subst hk
  have hb' : (⟨0, i, g, nm, fn, ar, ⟨#[]⟩, 0⟩ : Fd) = ⟨0, 0, 0, ⟨#[]⟩, ⟨#[]⟩, 0, ⟨#[]⟩, 0⟩ := hb
  simp only [Fd.mk.injEq] at hb'
  obtain ⟨-, rfl, rfl, rfl, rfl, rfl, -, -⟩ := hb'
  rfl
theorem snoc_of : ∀ {l : TL}, l ≠ .nil → ∃ (l0 : TL) (f : Fd) (it : TL), l = l0.app (.cons f it .nil) ∧ l.len = l0.len + 1
  | .nil, h => absurd rfl h
  | .cons f it .nil, _ => ⟨.nil, f, it, rfl, rfl⟩
  | .cons f it (.cons f2 it2 r), _ => by
    obtain ⟨l0, f', it', e, hl⟩ := snoc_of (l := .cons f2 it2 r) (by simp)
    exact ⟨.cons f it l0, f', it', by rw [TL.app, ← e], by rw [TL.len, hl]; rfl⟩
theorem lisT_snoc (l0 : TL) (f : Fd) (it : TL) : lisT (l0.app (.cons f it .nil)).texts (l0.app (.cons f it .nil)).lastK = joinC l0.texts ++ ((if f.k = 8 then [] else 124 :: textT f it) ++ [93]) := by
  unfold lisT
  rw [lastK_snoc, texts_app, texts_cons, show (TL.nil).texts = [] from rfl, List.dropLast_concat]
  rw [show (l0.texts ++ [textT f it]).getLastD [] = textT f it by simp]
theorem textT_k1 {f : Fd} {it : TL} (h : f.k = 1) : textT f it = Lib.itoa f.i := by unfold textT textF; rw [h]; rfl
theorem textT_k2 {f : Fd} {it : TL} (h : f.k = 2) : textT f it = bl f.nm := by unfold textT textF; rw [h]; rfl
theorem textT_k5 {f : Fd} {it : TL} (h : f.k = 5) : textT f it = [102, 117, 110, 32] ++ expT f := by unfold textT textF; rw [h]; rfl
theorem textT_k7 {f : Fd} {it : TL} (h : f.k = 7) : textT f it = [123] ++ (joinC it.texts ++ [125]) := by unfold textT textF; rw [h]; rfl
theorem textT_k8 {f : Fd} {it : TL} (h : f.k = 8) : textT f it = [91, 93] := by unfold textT textF; rw [h]; rfl
theorem textT_k9 {f : Fd} {it : TL} (h : f.k = 9) : textT f it = [91] ++ lisT it.texts it.lastK := by unfold textT textF; rw [h]; rfl
theorem textT_k10 {f : Fd} {it : TL} (h : f.k = 10) : textT f it = [60, 60] ++ (joinC (segs (bl f.bs) f.n) ++ [62, 62]) := by unfold textT textF; rw [h]; rfl
/-- a text begins with no end of a row -/
def heads (c : UInt8) : Prop := c ≠ 93 ∧ c ≠ 124 ∧ c ≠ 125
theorem low_ne {c x : UInt8} (h : lowC c.toNat = true) (hx : lowC x.toNat = false) : c ≠ x := by
  rintro rfl; rw [h] at hx; cases hx
theorem dig_ne {c x : UInt8} (h : digC c = true) (hx : digC x = false) : c ≠ x := by
  rintro rfl; rw [h] at hx; cases hx
theorem text_head {f : Fd} {it : TL} (h : formT f it = true) : ∃ c t, textT f it = c :: t ∧ heads c := by
  rcases ok_kinds (node_ok (form_node h).1) with hk | hk | hk | hk | hk | hk | hk | hk | hk | hk
  · rw [textT_k1 hk]
    obtain ⟨c, r, e, hc⟩ := itoa_cons f.i
    exact ⟨c, r, e, dig_ne hc (by decide), dig_ne hc (by decide), dig_ne hc (by decide)⟩
  · rw [textT_k2 hk]
    obtain ⟨c, r, e, hc⟩ := (name_bl (shape2 h hk).2.2).2.1
    exact ⟨c, r, e, low_ne hc (by decide), low_ne hc (by decide), low_ne hc (by decide)⟩
  · rw [textT_k3 hk]; exact ⟨_, _, rfl, by unfold heads; decide⟩
  · rw [textT_k4 hk]; exact ⟨_, _, rfl, by unfold heads; decide⟩
  · rw [textT_k5 hk]; exact ⟨_, _, rfl, by unfold heads; decide⟩
  · rw [textT_k6 hk]; exact ⟨_, _, rfl, by unfold heads; decide⟩
  · rw [textT_k7 hk]; exact ⟨_, _, rfl, by unfold heads; decide⟩
  · rw [textT_k8 hk]; exact ⟨_, _, rfl, by unfold heads; decide⟩
  · rw [textT_k9 hk]; exact ⟨_, _, rfl, by unfold heads; decide⟩
  · rw [textT_k10 hk]; exact ⟨_, _, rfl, by unfold heads; decide⟩
theorem text_pos {f : Fd} {it : TL} (h : formT f it = true) : 1 ≤ (textT f it).length := by
  obtain ⟨c, t, e, _⟩ := text_head h
  rw [e, List.length_cons]; omega
theorem join_head {l : TL} (h : formL l = true) (hl : l ≠ .nil) : ∃ c t, joinC l.texts = c :: t ∧ heads c := by
  cases l with
  | nil => exact absurd rfl hl
  | cons f it r =>
    rw [formL_cons, Bool.and_eq_true] at h
    obtain ⟨c, t, e, hc⟩ := text_head h.1
    rw [texts_cons, joinC_eq, e]
    exact ⟨c, _, rfl, hc⟩
def RdrFull (m : Bool) (j d : Nat) (rd : Rdr) : Prop := ∀ f it r, formT f it = true → (m = true → d + wholeT f it ≤ 2000) → f.iok → it.iok → fol r = true → (textT f it).length + r.length < j → rd (textT f it ++ r) = some (f, it, r)
theorem items_full {m : Bool} {j d : Nat} {rd : Rdr} (hrd : RdrFull m j d rd) : ∀ {l : TL} {n : Nat} {r : List UInt8}, formL l = true → l ≠ .nil → (m = true → d + wholeL l ≤ 2000) → l.iok → fol r = true → hp r [44] = false →
    (joinC l.texts).length + r.length < n → (joinC l.texts).length + r.length < j → pItems rd n (joinC l.texts ++ r) = some (l, r)
  | .nil, _, _, _, h, _, _, _, _, _, _ => absurd rfl h
  | .cons _ _ _, 0, _, _, _, _, _, _, _, h, _ => absurd h (Nat.not_lt_zero _)
  | .cons f it .nil, n + 1, r, hf, _, hd, hi, hr, h44, hn, hj => by
    rw [formL_cons, Bool.and_eq_true] at hf
    rw [texts_cons, show (TL.nil).texts = [] from rfl, joinC_one] at hn hj ⊢
    rw [pItems, hrd f it r hf.1 (fun h => by have := hd h; rw [wholeL_cons] at this; omega) hi.1 hi.2.1 hr hj, Option.bind_some]
    simp only
    rw [if_neg (by rw [h44]; decide)]
  | .cons f it (.cons f2 it2 q), n + 1, r, hf, _, hd, hi, hr, h44, hn, hj => by
    rw [formL_cons, Bool.and_eq_true] at hf
    have hp1 := text_pos hf.1
    rw [texts_cons, joinC_cons' _ (by simp [texts_cons])] at hn hj ⊢
    rw [List.length_append, List.length_cons] at hn hj
    have hd' : m = true → d + wholeT f it + wholeL (.cons f2 it2 q) ≤ 2000 := fun h => by have := hd h; rw [wholeL_cons] at this; omega
    have ih := items_full hrd (l := .cons f2 it2 q) (n := n) (r := r) hf.2 (by simp) (fun h => by have := hd' h; omega) hi.2.2 hr h44 (by omega) (by omega)
    rw [List.append_assoc, List.cons_append, pItems, hrd f it _ hf.1 (fun h => by have := hd' h; omega) hi.1 hi.2.1 (by rfl) (by rw [List.length_cons, List.length_append]; omega), Option.bind_some]
    simp only
    rw [hp_one, if_pos (by decide)]
    show (pItems rd n (joinC (TL.cons f2 it2 q).texts ++ r)).map _ = _
    rw [ih]; rfl
theorem list_full {m : Bool} {j d : Nat} {rd : Rdr} (hrd : RdrFull m j d rd) {l : TL} {n : Nat} {r : List UInt8} {ends : List (List UInt8)} {e0 : UInt8} (he : ends = [[125]] ∨ ends = [[93], [124]]) (hf : formL l = true) (hr : ∃ t, r = e0 :: t) (he0 : [e0] ∈ ends)
    (hd : m = true → d + wholeL l ≤ 2000) (hi : l.iok) (hn : (joinC l.texts).length + r.length < n) (hj : (joinC l.texts).length + r.length < j) : pList rd n ends (joinC l.texts ++ r) = some (l, r) := by
  obtain ⟨t, rfl⟩ := hr
  unfold pList
  cases l with
  | nil =>
    rw [if_pos]
    · rfl
    · rw [List.any_eq_true]
      exact ⟨[e0], he0, by show hp (e0 :: t) [e0] = true; rw [hp_one]; simp⟩
  | cons f it q =>
    obtain ⟨c, t', e, hc⟩ := join_head hf (by simp)
    rw [if_neg]
    · refine items_full hrd hf (by simp) hd hi ?_ ?_ hn hj
      · rcases he with rfl | rfl
        · have : e0 = 125 := by simpa using he0
          subst this; rfl
        · have : e0 = 93 ∨ e0 = 124 := by simpa using he0
          rcases this with rfl | rfl <;> rfl
      · rcases he with rfl | rfl
        · have : e0 = 125 := by simpa using he0
          subst this; rfl
        · have : e0 = 93 ∨ e0 = 124 := by simpa using he0
          rcases this with rfl | rfl <;> rfl
    · rw [e, List.cons_append]
      unfold heads at hc
      rcases he with rfl | rfl
      · simp only [List.any_cons, List.any_nil, hp_one, Bool.or_false, beq_iff_eq]
        exact fun h => hc.2.2 h.symm
      · simp only [List.any_cons, List.any_nil, hp_one, Bool.or_false, Bool.or_eq_true, beq_iff_eq, not_or]
        exact ⟨fun h => hc.1 h.symm, fun h => hc.2.1 h.symm⟩
/-- texts that begin with a letter or a digit meet none of the words -/
theorem sign_plain {m : Bool} {rd : Rdr} {j : Nat} {c : UInt8} {t : List UInt8} (h1 : c ≠ 91) (h2 : c ≠ 123) (h3 : c ≠ 60) (h4 : c ≠ 35) (h5 : hp (c :: t) [102, 117, 110, 32] = false) : pSign m rd j (c :: t) = pPlain m (c :: t) := by
  have e1 : (91 == c) = false := by simpa using fun h => h1 h.symm
  have e2 : (123 == c) = false := by simpa using fun h => h2 h.symm
  have e3 : (60 == c) = false := by simpa using fun h => h3 h.symm
  have e4 : (35 == c) = false := by simpa using fun h => h4 h.symm
  unfold pSign
  rw [h5]
  simp only [hp_cons, e1, e2, e3, e4, Bool.false_and, Bool.false_eq_true, if_false]
theorem not_fun {nm r : List UInt8} (hn : ∀ c ∈ nm, letC c = true) (hne : nm ≠ []) (hr : fol r = true) : hp (nm ++ r) [102, 117, 110, 32] = false := by
  cases h : hp (nm ++ r) [102, 117, 110, 32] with
  | false => rfl
  | true =>
    exfalso
    obtain ⟨x, hx⟩ := hp_iff.1 h
    have hf : ∀ c t, r = c :: t → folC c = true := fun c t e => by subst e; exact hr
    match nm, hn, hne, hx with
    | [], _, hne, _ => exact hne rfl
    | [a], _, _, hx =>
      have e : r = [117, 110, 32] ++ x := by simpa using (List.cons.inj hx).2
      exact absurd (hf _ _ e) (by decide)
    | [a, b], _, _, hx =>
      have e : r = [110, 32] ++ x := by simpa using (List.cons.inj (List.cons.inj hx).2).2
      exact absurd (hf _ _ e) (by decide)
    | [a, b, c], _, _, hx =>
      have e : r = [32] ++ x := by simpa using (List.cons.inj (List.cons.inj (List.cons.inj hx).2).2).2
      exact absurd (hf _ _ e) (by decide)
    | a :: b :: c :: d :: t, hn, _, hx =>
      have e : d = 32 := (List.cons.inj (List.cons.inj (List.cons.inj (List.cons.inj hx).2).2).2).1
      have := hn d (by simp)
      subst e
      exact absurd this (by decide)
theorem pair_full {m : Bool} {j d : Nat} {rd : Rdr} (hrd : RdrFull m j d rd) {f : Fd} {it : TL} {r : List UInt8} (hf : formT f it = true) (hk : f.k = 9) (hd : m = true → d + wholeL it ≤ 2000) (hi : it.iok) (hj : (lisT it.texts it.lastK).length + r.length < j) :
    pPair m rd j (lisT it.texts it.lastK ++ r) = some (f, it, r) := by
  have hl2 := (ok_list (node_ok (form_node hf).1) hk).1
  have hit : it ≠ .nil := by rintro rfl; simp [TL.len] at hl2
  obtain ⟨l0, f1, it1, rfl, hlen⟩ := snoc_of hit
  have hfl := (form_node hf).2
  rw [formL_app, formL_cons, Bool.and_eq_true, Bool.and_eq_true] at hfl
  obtain ⟨h0, h1, _⟩ := hfl
  obtain ⟨i0, i1, i1', _⟩ := iok_app.1 hi
  have hw : wholeL (l0.app (.cons f1 it1 .nil)) = wholeL l0 + wholeT f1 it1 := by rw [wholeL_app, wholeL_cons]; rfl
  rw [hw] at hd
  rw [lisT_snoc] at hj ⊢
  have hF : f = kF 9 := by have := shapeK hf (.inr (.inr hk)); rw [hk] at this; exact this
  subst hF
  unfold pPair
  rw [List.append_assoc, List.append_assoc]
  by_cases h8 : f1.k = 8
  · obtain ⟨rfl, rfl⟩ := shape8 h1 h8
    rw [if_pos h8] at hj ⊢
    simp only [List.nil_append, List.length_append, List.length_singleton] at hj
    simp only [List.nil_append, List.cons_append]
    rw [list_full hrd (e0 := 93) (.inr rfl) h0 ⟨r, rfl⟩ (by simp) (fun h => by have := hd h; omega) i0 (by rw [List.length_cons]; omega) (by rw [List.length_cons]; omega), Option.bind_some]
    simp only
    rw [show pTail m rd (93 :: r) = some (kF 8, .nil, 93 :: r) by unfold pTail; rw [if_neg (by rw [hp_one]; decide)], Option.bind_some]
    simp only
    rw [must_one]; rfl
  · rw [if_neg h8] at hj ⊢
    simp only [List.length_append, List.length_cons, List.length_nil] at hj
    simp only [List.cons_append]
    rw [list_full hrd (e0 := 124) (.inr rfl) h0 ⟨_, rfl⟩ (by simp) (fun h => by have := hd h; omega) i0 (by simp only [List.length_append, List.length_cons, List.length_nil]; omega) (by simp only [List.length_append, List.length_cons, List.length_nil]; omega), Option.bind_some]
    simp only
    have ht : pTail m rd (124 :: (textT f1 it1 ++ (93 :: ([] ++ r)))) = some (f1, it1, 93 :: ([] ++ r)) := by
      unfold pTail
      rw [hp_one, if_pos (by decide)]
      show (rd (textT f1 it1 ++ (93 :: ([] ++ r)))).bind _ = _
      rw [hrd f1 it1 _ h1 (fun h => by have := hd h; omega) i1 i1' (by rfl) (by simp only [List.nil_append, List.length_cons]; omega), Option.bind_some, if_neg (by simp [h8])]
    rw [ht, Option.bind_some]
    simp only
    rw [must_one]; rfl
theorem term_full {m : Bool} : ∀ (j d : Nat), RdrFull m j d (pTerm m j d)
  | 0, _ => fun _ _ _ _ _ _ _ _ h => absurd h (Nat.not_lt_zero _)
  | j + 1, d => fun f it r hf hd hi hii hr hj => by
    have ih := term_full (m := m) j (d + 1)
    have hw1 := wholeT_pos hf
    rw [pTerm, if_neg (by
      simp only [Bool.and_eq_true, decide_eq_true_eq, not_and]
      intro h; have := hd h; omega)]
    have hb := base_le (node_ok (form_node hf).1)
    have hwT : wholeT f it = baseN f it.len + wholeL it := rfl
    have hd2 : m = true → d + 1 + wholeL it ≤ 2000 := fun h => by have := hd h; omega
    have hr1 : stops digC r := fol_stops hr (by decide) (by decide) (by decide) (by decide)
    have hr2 : stops letC r := fol_stops hr (by decide) (by decide) (by decide) (by decide)
    rcases ok_kinds (node_ok (form_node hf).1) with hk | hk | hk | hk | hk | hk | hk | hk | hk | hk
    · rw [textT_k1 hk] at hj ⊢
      obtain ⟨e1, rfl⟩ := shape1 hf hk
      obtain ⟨c, t, e, hc⟩ := itoa_cons f.i
      have hI := int_full (r := r) hi.1 hi.2 hr1
      rw [e, List.cons_append] at hI ⊢
      have e5 : (102 == c) = false := by simpa using fun h => dig_ne hc (by decide) (Eq.symm h)
      rw [sign_plain (dig_ne hc (by decide)) (dig_ne hc (by decide)) (dig_ne hc (by decide)) (dig_ne hc (by decide)) (by rw [hp_cons, e5, Bool.false_and])]
      unfold pPlain
      rw [if_pos (by exact hc), hI, Option.bind_some]
      simp only
      rw [← e1]
    · rw [textT_k2 hk] at hj ⊢
      obtain ⟨e1, rfl, hn⟩ := shape2 hf hk
      obtain ⟨c, t, e, hc⟩ := (name_bl hn).2.1
      obtain ⟨s1, s2⟩ := spanN_full hn hr2
      have hnf := not_fun (r := r) (name_bl hn).1 (by rw [e]; simp) hr
      have hdig : digC c = false := by
        unfold digC isD
        rw [lowC_iff] at hc
        have : c ≠ 45 := by rintro rfl; exact absurd hc (by decide)
        simp only [Bool.or_eq_false_iff, beq_eq_false_iff_ne, ne_eq, this, not_false_eq_true, Bool.and_eq_false_iff, decide_eq_false_iff_not, true_and]
        omega
      have hemp : ((bl f.nm ++ r).takeWhile letC).isEmpty = false := by
        rw [(span_stop (name_bl hn).1 hr2).1, e]; rfl
      have hne : ∀ x : UInt8, lowC x.toNat = false → c ≠ x := fun x hx => low_ne hc hx
      rw [e, List.cons_append] at s1 s2 hnf hemp ⊢
      rw [sign_plain (hne _ (by decide)) (hne _ (by decide)) (hne _ (by decide)) (hne _ (by decide)) hnf]
      unfold pPlain
      rw [if_neg (by show ¬ digC c = true; rw [hdig]; decide), if_neg (by rw [hemp]; simp), s1, s2, ← e1]
    · rw [textT_k3 hk] at hj ⊢
      obtain ⟨e1, rfl, hn, hi1, hg1⟩ := shape36 hf (.inl hk)
      rw [hk] at e1
      have hp3 : pPid 3 (markT f ++ 62 :: r) = some (f, .nil, r) := by
        unfold pPid
        rw [marked_full hn (by omega) (by omega) (by omega) (by omega) (stops_cons _ (by decide)), Option.bind_some]
        simp only
        rw [must_one, Option.bind_some, ← e1]
      unfold pSign
      simp only [List.append_assoc, List.cons_append, List.nil_append, hp_cons, hp_nil, List.drop] at hp3 ⊢
      simpa using hp3
    · rw [textT_k4 hk] at hj ⊢
      obtain ⟨e1, hn, hi1, hg1, ha1⟩ := shape4 hf hk
      have hp4 : pFun (pTerm m j (d + 1)) j (cloT f (joinC it.texts) ++ r) = some (f, it, r) := by
        unfold cloT at hj ⊢
        simp only [List.length_append, List.length_cons, List.length_nil] at hj
        simp only [List.append_assoc, List.cons_append]
        unfold pFun
        rw [marked_full hn (by omega) (by omega) (by omega) (by omega) (stops_cons _ (by decide)), Option.bind_some]
        simp only
        rw [must_one, Option.bind_some, int_full (by omega) (by omega) (stops_cons _ (by decide)), Option.bind_some]
        simp only
        rw [must_two, Option.bind_some, list_full ih (e0 := 125) (.inl rfl) (form_node hf).2 ⟨_, rfl⟩ (by simp) hd2 hii (by simp only [List.nil_append, List.length_cons]; omega) (by simp only [List.nil_append, List.length_cons]; omega), Option.bind_some]
        simp only
        rw [must_one, Option.bind_some]
        simp only [List.nil_append]
        rw [← e1]
      unfold pSign
      simp only [List.cons_append, List.nil_append, hp_cons, hp_nil, List.drop] at hp4 ⊢
      simpa using hp4
    · rw [textT_k5 hk] at hj ⊢
      obtain ⟨e1, rfl, hn, hn2, ha1⟩ := shape5 hf hk
      have hp5 : pExp (expT f ++ r) = some (f, .nil, r) := by
        unfold expT
        simp only [List.append_assoc, List.cons_append]
        obtain ⟨s1, s2⟩ := spanN_full (r := 58 :: (bl f.fn ++ 47 :: (Lib.itoa f.ar ++ r))) hn (stops_cons _ (by decide))
        obtain ⟨s3, s4⟩ := spanN_full (r := 47 :: (Lib.itoa f.ar ++ r)) hn2 (stops_cons _ (by decide))
        unfold pExp
        rw [s1, s2, must_one, Option.bind_some, s3, s4, must_one, Option.bind_some, int_full (by omega) (by omega) hr1, Option.bind_some]
        simp only
        rw [← e1]
      unfold pSign
      simp only [List.cons_append, List.nil_append, hp_cons, hp_nil, List.drop] at hp5 ⊢
      simpa using hp5
    · rw [textT_k6 hk] at hj ⊢
      obtain ⟨e1, rfl, hn, hi1, hg1⟩ := shape36 hf (.inr hk)
      rw [hk] at e1
      have hp6 : pPid 6 (markT f ++ 62 :: r) = some (f, .nil, r) := by
        unfold pPid
        rw [marked_full hn (by omega) (by omega) (by omega) (by omega) (stops_cons _ (by decide)), Option.bind_some]
        simp only
        rw [must_one, Option.bind_some, ← e1]
      obtain ⟨c, t, e, hc⟩ := (name_bl hn).2.1
      have h60 : (60 == c) = false := by simpa using fun h => low_ne hc (by decide) (Eq.symm h)
      have hm : hp (markT f ++ 62 :: r) [60] = false := by
        unfold markT; rw [e]; show hp (c :: _) [60] = false
        rw [hp_one, h60]
      unfold pSign
      simp only [List.append_assoc, List.cons_append, List.nil_append, hp_cons, hp_nil, List.drop] at hp6 hm ⊢
      rw [hm]
      simpa using hp6
    · rw [textT_k7 hk] at hj ⊢
      have e1 := shapeK hf (.inl hk)
      rw [hk] at e1
      have hp7 : pTuple (pTerm m j (d + 1)) j (joinC it.texts ++ 125 :: r) = some (f, it, r) := by
        simp only [List.length_append, List.length_cons, List.length_nil] at hj
        unfold pTuple
        rw [list_full ih (e0 := 125) (.inl rfl) (form_node hf).2 ⟨_, rfl⟩ (by simp) hd2 hii (by rw [List.length_cons]; omega) (by rw [List.length_cons]; omega), Option.bind_some]
        simp only
        rw [must_one, Option.bind_some, ← e1]
      unfold pSign
      simp only [List.append_assoc, List.cons_append, List.nil_append, hp_cons, hp_nil, List.drop] at hp7 ⊢
      simpa using hp7
    · rw [textT_k8 hk]
      obtain ⟨rfl, rfl⟩ := shape8 hf hk
      unfold pSign
      rw [if_pos (hp_app _ _)]; rfl
    · rw [textT_k9 hk] at hj ⊢
      simp only [List.length_append, List.length_cons, List.length_nil] at hj
      have hp9 := pair_full (r := r) ih hf hk hd2 hii (by omega)
      have hl2 := (ok_list (node_ok (form_node hf).1) hk).1
      have hit : it ≠ .nil := by rintro rfl; simp [TL.len] at hl2
      obtain ⟨l0, f1, it1, rfl, hlen⟩ := snoc_of hit
      have hfl := (form_node hf).2
      rw [formL_app, Bool.and_eq_true] at hfl
      obtain ⟨c, t, e, hc⟩ := join_head hfl.1 (by rintro rfl; simp [TL.len] at hlen; omega)
      have h93 : (93 == c) = false := by simpa using fun h => hc.1 (Eq.symm h)
      have hm : hp (lisT (l0.app (.cons f1 it1 .nil)).texts (l0.app (.cons f1 it1 .nil)).lastK ++ r) [93] = false := by
        rw [lisT_snoc, e]; show hp (c :: _) [93] = false
        rw [hp_one, h93]
      unfold pSign
      simp only [List.cons_append, List.nil_append, hp_cons, hp_nil, List.drop] at hp9 hm ⊢
      rw [hm]
      simpa using hp9
    · rw [textT_k10 hk] at hj ⊢
      obtain ⟨e1, rfl, hv⟩ := shape10 hf hk
      have hlong := segs_long (bl f.bs) f.n
      simp only [List.length_append, List.length_cons, List.length_nil] at hj
      have hp10 := bits_full (m := m) (j := j) (r := r) hv (by omega)
      rw [← e1] at hp10
      unfold pSign
      simp only [List.append_assoc, List.cons_append, List.nil_append, hp_cons, hp_nil, List.drop] at hp10 ⊢
      simp [hp10]
end Go.Proofs.YtgfodedmcjkmaaaDoor
namespace Go.Proofs.YtgfodedmcjkmaaaDoor
open Go.RowKit Go.Proofs.BitsM
theorem zero_iok : -9223372036854775808 ≤ (0 : Int) ∧ (0 : Int) ≤ 9223372036854775807 := by decide
theorem kF_iok (k : Int) : (kF k).iok := zero_iok
/-- what is read fits 64 bits -/
def RdrIok (rd : Rdr) : Prop := ∀ s x, rd s = some x → x.1.iok ∧ x.2.1.iok
theorem items_iok {rd : Rdr} (hrd : RdrIok rd) : ∀ {j : Nat} {s : List UInt8} {z : TL × List UInt8}, pItems rd j s = some z → z.1.iok
  | 0, _, _, h => by cases h
  | j + 1, s, z, h => by
    rw [pItems] at h
    simp only [Option.bind_eq_some_iff] at h
    obtain ⟨x, h1, h3⟩ := h
    obtain ⟨a, b⟩ := hrd s x h1
    split at h3
    · simp only [Option.map_eq_some_iff] at h3
      obtain ⟨z', h4, h5⟩ := h3
      subst h5
      exact ⟨a, b, items_iok hrd h4⟩
    · injection h3 with h3
      subst h3
      exact ⟨a, b, trivial⟩
theorem list_iok {rd : Rdr} (hrd : RdrIok rd) {j : Nat} {ends : List (List UInt8)} {s : List UInt8} {z : TL × List UInt8} (h : pList rd j ends s = some z) : z.1.iok := by
  unfold pList at h
  split at h
  · injection h with h
    subst h; trivial
  · exact items_iok hrd h
theorem marked_iok {k : Int} {s : List UInt8} {x : Fd × List UInt8} (h : pMarked k s = some x) : x.1.iok := by
  unfold pMarked at h
  simp only [Option.bind_eq_some_iff] at h
  obtain ⟨s1, h1, g, h2, s3, h3, i, h4, h5⟩ := h
  injection h5 with h5
  subst h5
  exact (int_rest h4).2
theorem sign_iok {m : Bool} {rd : Rdr} (hrd : RdrIok rd) {j : Nat} {s : List UInt8} {x : Fd × TL × List UInt8} (h : pSign m rd j s = some x) : x.1.iok ∧ x.2.1.iok := by
  unfold pSign at h
  split at h
  · injection h with h
    subst h; exact ⟨kF_iok _, trivial⟩
  split at h
  · unfold pPair at h
    simp only [Option.bind_eq_some_iff] at h
    obtain ⟨l, h1, y, h2, s', h3, h4⟩ := h
    injection h4 with h4
    subst h4
    refine ⟨kF_iok _, iok_app.2 ⟨list_iok hrd h1, ?_⟩⟩
    unfold pTail at h2
    split at h2
    · simp only [Option.bind_eq_some_iff] at h2
      obtain ⟨y', b1, b2⟩ := h2
      split at b2
      · cases b2
      · injection b2 with b2
        subst b2
        exact ⟨(hrd _ _ b1).1, (hrd _ _ b1).2, trivial⟩
    · injection h2 with h2
      subst h2
      exact ⟨kF_iok _, trivial, trivial⟩
  split at h
  · unfold pTuple at h
    simp only [Option.bind_eq_some_iff] at h
    obtain ⟨l, h1, s', h3, h4⟩ := h
    injection h4 with h4
    subst h4
    exact ⟨kF_iok _, list_iok (z := l) hrd h1⟩
  split at h
  · simp only [Option.bind_eq_some_iff] at h
    obtain ⟨y, h1, h2⟩ := h
    injection h2 with h2
    subst h2
    unfold pBits at h1
    simp only [Option.bind_eq_some_iff] at h1
    obtain ⟨z, _, s', _, h4⟩ := h1
    injection h4 with h4
    subst h4
    exact ⟨zero_iok, trivial⟩
  have hpid : ∀ {k : Int} {n : Nat} {x : Fd × TL × List UInt8}, pPid k (s.drop n) = some x → x.1.iok ∧ x.2.1.iok := by
    intro k n x h
    unfold pPid at h
    simp only [Option.bind_eq_some_iff] at h
    obtain ⟨y, h1, s', h3, h4⟩ := h
    injection h4 with h4
    subst h4
    exact ⟨marked_iok h1, trivial⟩
  split at h
  · exact hpid h
  split at h
  · exact hpid h
  split at h
  · unfold pFun at h
    simp only [Option.bind_eq_some_iff] at h
    obtain ⟨y, h1, s1, h2, n, h3, s2, h4, l, h5, s', h6, h7⟩ := h
    injection h7 with h7
    subst h7
    exact ⟨marked_iok h1, list_iok (z := l) hrd h5⟩
  split at h
  · unfold pExp at h
    simp only [Option.bind_eq_some_iff] at h
    obtain ⟨s1, h1, s2, h2, y, h3, h4⟩ := h
    injection h4 with h4
    subst h4
    exact ⟨zero_iok, trivial⟩
  · unfold pPlain at h
    split at h
    · simp only [Option.bind_eq_some_iff] at h
      obtain ⟨y, h1, h2⟩ := h
      injection h2 with h2
      subst h2
      exact ⟨(int_rest h1).2, trivial⟩
    · split at h
      · cases h
      · injection h with h
        subst h
        exact ⟨zero_iok, trivial⟩
theorem term_iok {m : Bool} : ∀ (j d : Nat), RdrIok (pTerm m j d)
  | 0, _ => fun _ _ h => by cases h
  | j + 1, d => fun s x h => by
    rw [pTerm] at h
    split at h
    · cases h
    · exact sign_iok (term_iok j (d + 1)) h
/-- what a whole text is read as, by the program's reader -/
noncomputable def readT (s : List UInt8) : Option (Fd × TL) := (pTerm true (s.length + 1) 0 s).bind fun x => if x.2.2.isEmpty && validF x.1 x.2.1 then some (x.1, x.2.1) else none
open Classical in
/-- .. and by the reference's -/
noncomputable def readRef (s : List UInt8) : Option (Fd × TL) := (pTerm false (s.length + 1) 0 s).bind fun x => if x.2.2.isEmpty && validF x.1 x.2.1 && decide (textT x.1 x.2.1 = s) then some (x.1, x.2.1) else none
theorem valid_form {f : Fd} {it : TL} (h : validF f it = true) : formT f it = true ∧ wholeT f it ≤ 2000 := by
  unfold validF at h
  simpa using h
theorem full_of {m : Bool} {f : Fd} {it : TL} (h : validF f it = true) (hi : f.iok) (hii : it.iok) : pTerm m ((textT f it).length + 1) 0 (textT f it) = some (f, it, []) := by
  have := term_full (m := m) ((textT f it).length + 1) 0 f it [] (valid_form h).1 (fun _ => by have := (valid_form h).2; omega) hi hii rfl (by simp)
  rwa [List.append_nil] at this
/-- the text of a valid term is read as it -/
theorem readT_text {f : Fd} {it : TL} (h : validF f it = true) (hi : f.iok) (hii : it.iok) : readT (textT f it) = some (f, it) := by
  unfold readT
  rw [full_of h hi hii, Option.bind_some]
  simp only
  rw [h]; rfl
theorem readRef_text {f : Fd} {it : TL} (h : validF f it = true) (hi : f.iok) (hii : it.iok) : readRef (textT f it) = some (f, it) := by
  unfold readRef
  rw [full_of h hi hii, Option.bind_some]
  simp only
  rw [h]; simp
/-- what is read is the text of a valid term -/
theorem readT_some {s : List UInt8} {f : Fd} {it : TL} (h : readT s = some (f, it)) : textT f it = s ∧ validF f it = true ∧ f.iok ∧ it.iok := by
  unfold readT at h
  simp only [Option.bind_eq_some_iff] at h
  obtain ⟨x, h1, h2⟩ := h
  split at h2
  · rename_i hc
    injection h2 with h2
    rw [Bool.and_eq_true, List.isEmpty_iff] at hc
    obtain ⟨e1, e2⟩ := Prod.mk.inj h2
    subst e1 e2
    have a := term_text _ _ s x h1 (valid_form hc.2).1
    rw [hc.1, List.append_nil] at a
    exact ⟨a.symm, hc.2, term_iok _ _ s x h1⟩
  · cases h2
theorem readRef_some {s : List UInt8} {f : Fd} {it : TL} (h : readRef s = some (f, it)) : textT f it = s ∧ validF f it = true ∧ f.iok ∧ it.iok := by
  unfold readRef at h
  simp only [Option.bind_eq_some_iff] at h
  obtain ⟨x, h1, h2⟩ := h
  split at h2
  · rename_i hc
    injection h2 with h2
    rw [Bool.and_eq_true, Bool.and_eq_true, List.isEmpty_iff, decide_eq_true_eq] at hc
    obtain ⟨e1, e2⟩ := Prod.mk.inj h2
    subst e1 e2
    exact ⟨hc.2, hc.1.2, term_iok _ _ s x h1⟩
  · cases h2
theorem read_same (s : List UInt8) : readT s = readRef s := by
  cases h : readT s with
  | none =>
    cases h' : readRef s with
    | none => rfl
    | some x =>
      obtain ⟨f, it⟩ := x
      obtain ⟨a, b, c, d⟩ := readRef_some h'
      have := readT_text b c d
      rw [a, h] at this; cases this
  | some x =>
    obtain ⟨f, it⟩ := x
    obtain ⟨a, b, c, d⟩ := readT_some h
    have := readRef_text b c d
    rw [a] at this
    exact this.symm
/-! lengths -/
theorem byte_len (b : UInt8) (q : Nat) (hq : q ≤ b.toNat) : (Lib.itoa (q : Int)).length ≤ 3 := by
  have := b.toNat_lt
  unfold Lib.itoa
  rw [if_neg (by omega)]
  exact dec_len 2 _ (by simp only [Int.toNat_natCast]; omega)
theorem small_len {n : Int} (h0 : 0 ≤ n) (h1 : n < 1000) : (Lib.itoa n).length ≤ 3 := by
  unfold Lib.itoa
  rw [if_neg (by omega)]
  exact dec_len 2 _ (by omega)
theorem segs_le : ∀ (l : List UInt8) (n : Int), vbits l n → (joinC (segs l n)).length ≤ 8 * l.length
  | [], _, _ => Nat.le_refl _
  | [b], n, hv => by
    have a := byte_len b (b.toNat / 2 ^ (8 - n.toNat)) (Nat.div_le_self _ _)
    have c := byte_len b b.toNat (Nat.le_refl _)
    have d := small_len (n := n) (by have := hv.1; omega) (by have := hv.2.1; omega)
    simp only [segs, joinC_one]
    split
    · simp only [List.length_append, List.length_cons, List.length_nil]; omega
    · simp only [List.length_cons, List.length_nil]; omega
  | b :: b' :: t, n, hv => by
    have c := byte_len b b.toNat (Nat.le_refl _)
    have ih := segs_le (b' :: t) (n - 8) hv.2
    have hn := hv.1
    rw [segs, if_neg (by omega), joinC_cons' _ (by simp [segs]), List.length_append, List.length_cons]
    simp only [List.length_cons] at ih ⊢
    omega
theorem text_len : ∀ (l : TL), formL l = true → l.iok → (joinC l.texts).length ≤ 220 * wholeL l ∧ ∀ f it, formT f it = true → f.iok → it = l → (textT f it).length + 1 ≤ 220 * wholeT f it
  | l, hf, hi => by
    have hj : (joinC l.texts).length ≤ 220 * wholeL l := by
      match l, hf, hi with
      | .nil, _, _ => exact Nat.zero_le _
      | .cons f it r, hf, hi =>
        rw [formL_cons, Bool.and_eq_true] at hf
        have a := (text_len it (form_node hf.1).2 hi.2.1).2 f it hf.1 hi.1 rfl
        have b := (text_len r hf.2 hi.2.2).1
        rw [texts_cons, wholeL_cons, joinC_eq, List.length_append]
        cases r with
        | nil => simp only [show (TL.nil).texts = [] from rfl, List.length_nil]; omega
        | cons f2 it2 r2 => simp only [texts_cons, List.length_cons] at b ⊢; omega
    refine ⟨hj, ?_⟩
    rintro f it h hfi rfl
    have hb := base_le (node_ok (form_node h).1)
    have hwT : wholeT f it = baseN f it.len + wholeL it := rfl
    have hmark : ∀ {f : Fd}, nameB f.nm = true → -9223372036854775808 ≤ f.g → f.g ≤ 9223372036854775807 → -9223372036854775808 ≤ f.i → f.i ≤ 9223372036854775807 → (markT f).length ≤ 74 := by
      intro f hn a b c d
      have e1 := (name_bl hn).2.2
      have e2 := itoa_len f.g a b
      have e3 := itoa_len f.i c d
      unfold markT
      simp only [List.length_append, List.length_cons]; omega
    rcases ok_kinds (node_ok (form_node h).1) with hk | hk | hk | hk | hk | hk | hk | hk | hk | hk
    · rw [textT_k1 hk]
      have := itoa_len f.i hfi.1 hfi.2
      omega
    · rw [textT_k2 hk]
      have := (name_bl (shape2 h hk).2.2).2.2
      omega
    · rw [textT_k3 hk]
      obtain ⟨_, _, hn, hi1, hg1⟩ := shape36 h (.inl hk)
      have := hmark hn (by omega) (by omega) (by omega) (by omega)
      simp only [List.length_append, List.length_cons, List.length_nil]; omega
    · rw [textT_k4 hk]
      obtain ⟨_, hn, hi1, hg1, ha1⟩ := shape4 h hk
      have := hmark hn (by omega) (by omega) (by omega) (by omega)
      have e3 := itoa_len f.ar (by omega) (by omega)
      unfold cloT
      simp only [List.length_append, List.length_cons, List.length_nil]; omega
    · rw [textT_k5 hk]
      obtain ⟨_, _, hn, hn2, ha1⟩ := shape5 h hk
      have e1 := (name_bl hn).2.2
      have e2 := (name_bl hn2).2.2
      have e3 := itoa_len f.ar (by omega) (by omega)
      unfold expT
      simp only [List.length_append, List.length_cons, List.length_nil]; omega
    · rw [textT_k6 hk]
      obtain ⟨_, _, hn, hi1, hg1⟩ := shape36 h (.inr hk)
      have := hmark hn (by omega) (by omega) (by omega) (by omega)
      simp only [List.length_append, List.length_cons, List.length_nil]; omega
    · rw [textT_k7 hk]
      simp only [List.length_append, List.length_cons, List.length_nil]; omega
    · rw [textT_k8 hk]
      simp only [List.length_cons, List.length_nil]; omega
    · rw [textT_k9 hk]
      have hl2 := (ok_list (node_ok (form_node h).1) hk).1
      have hit : it ≠ .nil := by rintro rfl; simp [TL.len] at hl2
      obtain ⟨l0, f1, it1, rfl, hlen⟩ := snoc_of hit
      rw [lisT_snoc]
      rw [texts_app, texts_cons, show (TL.nil).texts = [] from rfl] at hj
      have hjl : ∀ (a : List (List UInt8)) (x : List UInt8), (joinC a).length + x.length ≤ (joinC (a ++ [x])).length := by
        intro a x
        induction a with
        | nil => simp [joinC_one, joinC]
        | cons y a ih =>
          rw [List.cons_append, joinC_cons' y (r := a ++ [x]) (by simp), joinC_eq, List.length_append, List.length_append, List.length_cons]
          cases a with
          | nil => simp only [List.length_nil, List.nil_append, joinC_one]; omega
          | cons z a => simp only [List.length_cons] at ih ⊢; omega
      have := hjl l0.texts (textT f1 it1)
      split
      · simp only [List.length_append, List.length_cons, List.length_nil]; omega
      · simp only [List.length_append, List.length_cons, List.length_nil]; omega
    · rw [textT_k10 hk]
      obtain ⟨_, _, hv⟩ := shape10 h hk
      have h10 := ok_bits (node_ok (form_node h).1) hk
      have hvb := segs_le _ _ (validB_vbits hv)
      have hbs : (bl f.bs).length = f.bs.size := Array.length_toList
      have hsz : (f.bs.size : Int) = (f.n + 7) / 8 := by
        unfold validB lenB at hv
        simp only [Bool.and_eq_true, decide_eq_true_eq] at hv
        exact hv.1.2
      have hbase : baseN f it.len = 1 + (f.n.toNat + 63) / 64 := by unfold baseN; rw [if_neg (by omega), if_pos hk]
      simp only [List.length_append, List.length_cons, List.length_nil]
      omega
theorem textT_len {f : Fd} {it : TL} (h : validF f it = true) (hi : f.iok) (hii : it.iok) : (textT f it).length ≤ 440000 := by
  obtain ⟨a, b⟩ := valid_form h
  have := (text_len it (form_node a).2 hii).2 f it a hi rfl
  omega
/-! bytes -/
def okB (c : UInt8) : Prop := 32 ≤ c.toNat ∧ c.toNat ≤ 126
theorem dig_okB {c : UInt8} (h : digC c = true) : okB c := by
  unfold digC at h
  rw [Bool.or_eq_true, beq_iff_eq, isD_iff] at h
  rcases h with rfl | h
  · exact ⟨by decide, by decide⟩
  · exact ⟨by omega, by omega⟩
theorem let_okB {c : UInt8} (h : letC c = true) : okB c := by
  unfold letC at h
  rw [okC_iff] at h
  exact ⟨by omega, by omega⟩
theorem itoa_okB {n : Int} : ∀ c ∈ Lib.itoa n, okB c := fun c hc => dig_okB (itoa_all n c hc)
theorem joinC_okB : ∀ {l : List (List UInt8)}, (∀ x ∈ l, ∀ c ∈ x, okB c) → ∀ c ∈ joinC l, okB c
  | [], _, c, hc => by cases hc
  | x :: r, h, c, hc => by
    rw [joinC_eq, List.mem_append] at hc
    rcases hc with hc | hc
    · exact h x (by simp) c hc
    · cases r with
      | nil => cases hc
      | cons y r =>
        rcases List.mem_cons.1 hc with rfl | hc
        · exact ⟨by decide, by decide⟩
        · exact joinC_okB (fun x hx => h x (by simp [hx])) c hc
theorem segs_okB : ∀ (l : List UInt8) (n : Int), ∀ x ∈ segs l n, ∀ c ∈ x, okB c
  | [], _, _, hx, _, _ => by cases hx
  | b :: r, n, x, hx, c, hc => by
    rw [segs] at hx
    rcases List.mem_cons.1 hx with rfl | hx
    · split at hc
      · rcases List.mem_append.1 hc with hc | hc
        · exact itoa_okB c hc
        · rcases List.mem_cons.1 hc with rfl | hc
          · exact ⟨by decide, by decide⟩
          · exact itoa_okB c hc
      · exact itoa_okB c hc
    · exact segs_okB r (n - 8) x hx c hc
theorem nm_okB {s : ByteArray} (h : nameB s = true) : ∀ c ∈ bl s, okB c := fun c hc => let_okB ((name_bl h).1 c hc)
theorem mark_okB {f : Fd} (h : nameB f.nm = true) : ∀ c ∈ markT f, okB c := by
  intro c hc
  unfold markT at hc
  simp only [List.mem_append, List.mem_cons] at hc
  rcases hc with hc | rfl | hc | rfl | hc
  · exact nm_okB h c hc
  · exact ⟨by decide, by decide⟩
  · exact itoa_okB c hc
  · exact ⟨by decide, by decide⟩
  · exact itoa_okB c hc
theorem lit_okB {p : List UInt8} (h : p.all (fun c => decide (32 ≤ c.toNat) && decide (c.toNat ≤ 126)) = true) : ∀ c ∈ p, okB c := by
  intro c hc
  have := List.all_eq_true.1 h c hc
  rw [Bool.and_eq_true, decide_eq_true_eq, decide_eq_true_eq] at this
  exact this
theorem app_okB {p q : List UInt8} (h1 : ∀ c ∈ p, okB c) (h2 : ∀ c ∈ q, okB c) : ∀ c ∈ p ++ q, okB c := fun c hc => (List.mem_append.1 hc).elim (h1 c) (h2 c)
theorem cons_okB {a : UInt8} {q : List UInt8} (h1 : okB a) (h2 : ∀ c ∈ q, okB c) : ∀ c ∈ a :: q, okB c := fun c hc => (List.mem_cons.1 hc).elim (fun e => e ▸ h1) (h2 c)
theorem text_okB : ∀ (l : TL), formL l = true → (∀ x ∈ l.texts, ∀ c ∈ x, okB c) ∧ ∀ f it, formT f it = true → it = l → ∀ c ∈ textT f it, okB c
  | l, hf => by
    have hj : ∀ x ∈ l.texts, ∀ c ∈ x, okB c := by
      match l, hf with
      | .nil, _ => intro x hx; cases hx
      | .cons f it r, hf =>
        rw [formL_cons, Bool.and_eq_true] at hf
        have a := (text_okB it (form_node hf.1).2).2 f it hf.1 rfl
        have b := (text_okB r hf.2).1
        intro x hx
        rw [texts_cons] at hx
        rcases List.mem_cons.1 hx with rfl | hx
        · exact a
        · exact b x hx
    refine ⟨hj, ?_⟩
    rintro f it h rfl
    rcases ok_kinds (node_ok (form_node h).1) with hk | hk | hk | hk | hk | hk | hk | hk | hk | hk
    · rw [textT_k1 hk]; exact itoa_okB
    · rw [textT_k2 hk]; exact nm_okB (shape2 h hk).2.2
    · rw [textT_k3 hk]
      exact app_okB (lit_okB (by decide)) (app_okB (mark_okB (shape36 h (.inl hk)).2.2.1) (lit_okB (by decide)))
    · rw [textT_k4 hk]
      obtain ⟨_, hn, _⟩ := shape4 h hk
      exact app_okB (lit_okB (by decide)) (app_okB (mark_okB hn) (cons_okB ⟨by decide, by decide⟩ (app_okB itoa_okB (cons_okB ⟨by decide, by decide⟩ (cons_okB ⟨by decide, by decide⟩ (app_okB (joinC_okB hj) (lit_okB (by decide))))))))
    · rw [textT_k5 hk]
      obtain ⟨_, _, hn, hn2, _⟩ := shape5 h hk
      exact app_okB (lit_okB (by decide)) (app_okB (nm_okB hn) (cons_okB ⟨by decide, by decide⟩ (app_okB (nm_okB hn2) (cons_okB ⟨by decide, by decide⟩ itoa_okB))))
    · rw [textT_k6 hk]
      exact app_okB (lit_okB (by decide)) (app_okB (mark_okB (shape36 h (.inr hk)).2.2.1) (lit_okB (by decide)))
    · rw [textT_k7 hk]
      exact app_okB (lit_okB (by decide)) (app_okB (joinC_okB hj) (lit_okB (by decide)))
    · rw [textT_k8 hk]; exact lit_okB (by decide)
    · rw [textT_k9 hk]
      have hl2 := (ok_list (node_ok (form_node h).1) hk).1
      have hit : it ≠ .nil := by rintro rfl; simp [TL.len] at hl2
      obtain ⟨l0, f1, it1, rfl, hlen⟩ := snoc_of hit
      rw [lisT_snoc]
      rw [texts_app, texts_cons] at hj
      refine app_okB (lit_okB (by decide)) (app_okB (joinC_okB fun x hx => hj x (List.mem_append_left _ hx)) (app_okB ?_ (lit_okB (by decide))))
      split
      · exact fun c hc => by cases hc
      · exact cons_okB ⟨by decide, by decide⟩ (hj _ (List.mem_append_right _ (by simp)))
    · rw [textT_k10 hk]
      exact app_okB (lit_okB (by decide)) (app_okB (joinC_okB (segs_okB _ _)) (lit_okB (by decide)))
end Go.Proofs.YtgfodedmcjkmaaaDoor
