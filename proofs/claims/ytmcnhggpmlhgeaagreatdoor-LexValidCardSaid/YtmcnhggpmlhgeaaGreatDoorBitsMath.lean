/-
  Plain mathematics of bit strings: bytes as natural numbers, bits as Bools. No program in sight.
-/
namespace Go.Proofs.BitsM

def byteAt (s : ByteArray) (k : Nat) : Nat := if h : k < s.size then (s[k]).toNat else 0
theorem byteAt_lt (s : ByteArray) (k : Nat) : byteAt s k < 256 := by
  unfold byteAt; split
  · exact (s[k]).toNat_lt
  · omega
theorem byteAt_eq {s : ByteArray} {k : Nat} (h : k < s.size) : (s[k]).toNat = byteAt s k := by simp [byteAt, h]
theorem byteAt_ge {s : ByteArray} {k : Nat} (h : s.size ≤ k) : byteAt s k = 0 := by simp [byteAt]; omega
def bitB (s : ByteArray) (i : Nat) : Bool := (byteAt s (i / 8)).testBit (7 - i % 8)
def bitN (s : ByteArray) (i : Nat) : Nat := (bitB s i).toNat
theorem bitN_eq (s : ByteArray) (i : Nat) : bitN s i = byteAt s (i / 8) / 2 ^ (7 - i % 8) % 2 := by
  simp [bitN, bitB, Nat.toNat_testBit]
theorem bitN_le (s : ByteArray) (i : Nat) : bitN s i ≤ 1 := by unfold bitN; cases bitB s i <;> simp
def bitsB (s : ByteArray) (a n : Nat) : List Bool := (List.range n).map fun k => bitB s (a + k)
@[simp] theorem bitsB_length (s : ByteArray) (a n : Nat) : (bitsB s a n).length = n := by simp [bitsB]
theorem bitsB_zero (s : ByteArray) (a : Nat) : bitsB s a 0 = [] := rfl
theorem bitsB_add (s : ByteArray) (a n m : Nat) : bitsB s a (n + m) = bitsB s a n ++ bitsB s (a + n) m := by
  simp only [bitsB, List.range_add, List.map_append, List.map_map]
  congr 1
  apply List.map_congr_left
  intro k _
  simp [Function.comp, Nat.add_assoc]
theorem bitsB_getD (s : ByteArray) (a n k : Nat) (h : k < n) : (bitsB s a n).getD k false = bitB s (a + k) := by
  simp [bitsB, List.getD, h]

/-- the byte whose bits, from the highest, are f 0 .. f 7 -/
def byteN (f : Nat → Bool) : Nat :=
  128 * (f 0).toNat + 64 * (f 1).toNat + 32 * (f 2).toNat + 16 * (f 3).toNat + 8 * (f 4).toNat + 4 * (f 5).toNat + 2 * (f 6).toNat + (f 7).toNat
theorem byteN_all : ∀ a b c d e f g h : Bool, ∀ k : Fin 8,
    (128 * a.toNat + 64 * b.toNat + 32 * c.toNat + 16 * d.toNat + 8 * e.toNat + 4 * f.toNat + 2 * g.toNat + h.toNat).testBit (7 - k.val) =
      (match k.val with | 0 => a | 1 => b | 2 => c | 3 => d | 4 => e | 5 => f | 6 => g | _ => h) := by decide
theorem byteN_testBit (f : Nat → Bool) (k : Nat) (h : k < 8) : (byteN f).testBit (7 - k) = f k := by
  have := byteN_all (f 0) (f 1) (f 2) (f 3) (f 4) (f 5) (f 6) (f 7) ⟨k, h⟩
  simp only at this
  unfold byteN
  rw [this]
  match k, h with
  | 0, _ => rfl | 1, _ => rfl | 2, _ => rfl | 3, _ => rfl | 4, _ => rfl | 5, _ => rfl | 6, _ => rfl | 7, _ => rfl
theorem byteN_lt (f : Nat → Bool) : byteN f < 256 := by
  have h : ∀ b : Bool, b.toNat ≤ 1 := by decide
  have := h (f 0); have := h (f 1); have := h (f 2); have := h (f 3); have := h (f 4); have := h (f 5); have := h (f 6); have := h (f 7)
  unfold byteN; omega
/-- two bytes with the same bits are equal -/
theorem byte_ext {x y : Nat} (hx : x < 256) (hy : y < 256) (h : ∀ k, k < 8 → x.testBit (7 - k) = y.testBit (7 - k)) : x = y := by
  apply Nat.eq_of_testBit_eq
  intro i
  by_cases hi : i < 8
  · have := h (7 - i) (by omega)
    rwa [show 7 - (7 - i) = i by omega] at this
  · rw [Nat.testBit_lt_two_pow (Nat.lt_of_lt_of_le hx (by exact Nat.pow_le_pow_right (n := 2) (by omega) (show 8 ≤ i by omega))),
      Nat.testBit_lt_two_pow (Nat.lt_of_lt_of_le hy (by exact Nat.pow_le_pow_right (n := 2) (by omega) (show 8 ≤ i by omega)))]

def packN (L : List Bool) : List Nat := (List.range ((L.length + 7) / 8)).map fun j => byteN fun k => L.getD (8 * j + k) false
@[simp] theorem packN_length (L : List Bool) : (packN L).length = (L.length + 7) / 8 := by simp [packN]
theorem packN_nil : packN [] = [] := rfl
def lbit (o : List Nat) (i : Nat) : Bool := (o.getD (i / 8) 0).testBit (7 - i % 8)
theorem packN_lbit (L : List Bool) (i : Nat) : lbit (packN L) i = L.getD i false := by
  unfold lbit
  by_cases h : i / 8 < (L.length + 7) / 8
  · have e : (packN L).getD (i / 8) 0 = byteN fun k => L.getD (8 * (i / 8) + k) false := by simp [packN, List.getD, h]
    rw [e, byteN_testBit _ _ (by omega)]
    congr 1; omega
  · have e : (packN L).getD (i / 8) 0 = 0 := by simp [packN, List.getD, h]
    rw [e]
    have : L.length ≤ i := by omega
    simp [List.getD, this]
theorem packN_lt (L : List Bool) : ∀ x ∈ packN L, x < 256 := by
  intro x hx
  simp only [packN, List.mem_map] at hx
  obtain ⟨j, _, rfl⟩ := hx
  exact byteN_lt _
/-- bytes of the right length and with the right bits are the packed ones -/
theorem packN_unique (o : List Nat) (L : List Bool) (hl : o.length = (L.length + 7) / 8) (hb : ∀ x ∈ o, x < 256) (h : ∀ i, i < 8 * o.length → lbit o i = L.getD i false) : o = packN L := by
  apply List.ext_getElem (by simp [hl])
  intro j h1 h2
  have e1 : o[j] = o.getD j 0 := by simp [List.getD, h1]
  have e2 : (packN L)[j] = (packN L).getD j 0 := by simp only [List.getD, List.getElem?_eq_getElem h2, Option.getD_some]
  apply byte_ext (hb _ (List.getElem_mem h1)) (packN_lt L _ (List.getElem_mem h2))
  intro k hk
  have ha := h (8 * j + k) (by omega)
  have hc := packN_lbit L (8 * j + k)
  unfold lbit at ha hc
  rw [show (8 * j + k) / 8 = j by omega, show (8 * j + k) % 8 = k by omega] at ha hc
  rw [e1, e2, ha, hc]

/-- the eight bits from i on, zeros after the end: as bits.(*writer).add reckons them -/
def eightN (s : ByteArray) (i : Nat) : Nat := byteAt s (i / 8) * 2 ^ (i % 8) % 256 + byteAt s (i / 8 + 1) / 2 ^ (8 - i % 8)
theorem mul_mod_byte (x r : Nat) (hr : r ≤ 8) : x * 2 ^ r % 256 = (x % 2 ^ (8 - r)) * 2 ^ r := by
  have h : (256 : Nat) = 2 ^ (8 - r) * 2 ^ r := by rw [← Nat.pow_add, show 8 - r + r = 8 by omega]
  rw [h]
  exact Nat.mul_mod_mul_right _ _ _
theorem split_byte (r x y : Nat) (hr : r < 8) (hy : y < 256) : (x * 2 ^ r % 256) ||| (y / 2 ^ (8 - r)) = x * 2 ^ r % 256 + y / 2 ^ (8 - r) := by
  have h1 : y / 2 ^ (8 - r) < 2 ^ r := by
    rw [Nat.div_lt_iff_lt_mul (Nat.two_pow_pos _), ← Nat.pow_add, show r + (8 - r) = 8 by omega]
    exact hy
  rw [mul_mod_byte x r (by omega), Nat.mul_comm _ (2 ^ r), Nat.two_pow_add_eq_or_of_lt h1]
theorem eight_testBit (s : ByteArray) (i k : Nat) (hk : k < 8) : (eightN s i).testBit (7 - k) = bitB s (i + k) := by
  have hr : i % 8 < 8 := Nat.mod_lt _ (by omega)
  have e := split_byte (i % 8) (byteAt s (i / 8)) (byteAt s (i / 8 + 1)) hr (byteAt_lt _ _)
  unfold eightN
  rw [← e, Nat.testBit_or, show (256 : Nat) = 2 ^ 8 from rfl, Nat.testBit_mod_two_pow, Nat.testBit_mul_two_pow, Nat.testBit_div_two_pow]
  unfold bitB
  by_cases h : i % 8 + k < 8
  · have e1 : (i + k) / 8 = i / 8 := by omega
    have e2 : (i + k) % 8 = i % 8 + k := by omega
    rw [e1, e2]
    have e3 : decide (7 - k < 8) = true := by simp; omega
    have e4 : decide (i % 8 ≤ 7 - k) = true := by simp; omega
    have e5 : 7 - k - i % 8 = 7 - (i % 8 + k) := by omega
    have e6 : (byteAt s (i / 8 + 1)).testBit (7 - k + (8 - i % 8)) = false := by
      apply Nat.testBit_lt_two_pow
      refine Nat.lt_of_lt_of_le (byteAt_lt _ _) ?_
      exact Nat.pow_le_pow_right (n := 2) (by omega) (show 8 ≤ 7 - k + (8 - i % 8) by omega)
    rw [e3, e5, e6]
    simp; omega
  · have e1 : (i + k) / 8 = i / 8 + 1 := by omega
    have e2 : (i + k) % 8 = i % 8 + k - 8 := by omega
    rw [e1, e2]
    have e4 : decide (7 - k ≥ i % 8) = false := by simp; omega
    rw [e4]
    have e5 : 7 - k + (8 - i % 8) = 7 - (i % 8 + k - 8) := by omega
    rw [e5]
    simp
theorem eightN_lt (s : ByteArray) (i : Nat) : eightN s i < 256 := by
  have hr : i % 8 < 8 := Nat.mod_lt _ (by omega)
  have e := split_byte (i % 8) (byteAt s (i / 8)) (byteAt s (i / 8 + 1)) hr (byteAt_lt _ _)
  unfold eightN
  rw [← e]
  refine Nat.or_lt_two_pow (n := 8) (Nat.mod_lt _ (by omega)) ?_
  exact Nat.lt_of_le_of_lt (Nat.div_le_self _ _) (byteAt_lt _ _)

/-- the m highest bits are kept -/
theorem mask_testBit (c m k : Nat) (hm : m ≤ 8) (hk : k < 8) : (c &&& (255 * 2 ^ (8 - m) % 256)).testBit (7 - k) = (c.testBit (7 - k) && decide (k < m)) := by
  rw [Nat.testBit_and, mul_mod_byte 255 (8 - m) (by omega), Nat.testBit_mul_two_pow, show (255 : Nat) = 2 ^ 8 - 1 from rfl]
  rw [Nat.testBit_mod_two_pow, Nat.testBit_two_pow_sub_one]
  congr 1
  by_cases h : k < m
  · simp only [h, decide_true, Bool.and_eq_true, decide_eq_true_eq]; omega
  · simp only [h, decide_false]
    have : ¬ (8 - m ≤ 7 - k) := by omega
    simp [this]
theorem shift_testBit (c u k : Nat) (hu : u ≤ 8) (hk : k < 8) (hc : c < 256) : (c / 2 ^ u).testBit (7 - k) = (decide (u ≤ k) && c.testBit (7 - (k - u))) := by
  rw [Nat.testBit_div_two_pow]
  by_cases h : u ≤ k
  · simp only [h, decide_true, Bool.true_and]; congr 1; omega
  · simp only [h, decide_false, Bool.false_and]
    apply Nat.testBit_lt_two_pow
    refine Nat.lt_of_lt_of_le hc ?_
    exact Nat.pow_le_pow_right (n := 2) (by omega) (show 8 ≤ 7 - k + u by omega)
theorem shl_testBit (c u k : Nat) (hu : u ≤ 8) (hk : k < 8) : (c * 2 ^ u % 256).testBit (7 - k) = (decide (u + k < 8) && c.testBit (7 - (k + u))) := by
  rw [mul_mod_byte c u hu, Nat.testBit_mul_two_pow, Nat.testBit_mod_two_pow]
  by_cases h : u + k < 8
  · have h1 : u ≤ 7 - k := by omega
    have h2 : 7 - k - u < 8 - u := by omega
    simp only [h, h1, h2, decide_true, Bool.true_and]; congr 1; omega
  · have h1 : ¬ (u ≤ 7 - k) := by omega
    simp [h, h1]

theorem getD_append (L W : List Bool) (i : Nat) : (L ++ W).getD i false = if i < L.length then L.getD i false else W.getD (i - L.length) false := by
  simp only [List.getD]
  split
  · rw [List.getElem?_append_left (by assumption)]
  · rw [List.getElem?_append_right (by omega)]
theorem getD_ge (L : List Bool) (i : Nat) (h : L.length ≤ i) : L.getD i false = false := by simp [List.getD, h]

/-- one step of the writer, by what it does to the bytes -/
def stepO (o : List Nat) (u m c : Nat) : List Nat :=
  if u = 0 then o ++ [c]
  else if 8 - u < m then o.set (o.length - 1) (o.getD (o.length - 1) 0 ||| c / 2 ^ u) ++ [c * 2 ^ (8 - u) % 256]
  else o.set (o.length - 1) (o.getD (o.length - 1) 0 ||| c / 2 ^ u)
theorem lbit_snoc (o : List Nat) (c i : Nat) : lbit (o ++ [c]) i = if i < 8 * o.length then lbit o i else if i < 8 * o.length + 8 then c.testBit (7 - (i - 8 * o.length)) else false := by
  unfold lbit
  by_cases h : i < 8 * o.length
  · rw [if_pos h]; congr 1; simp only [List.getD]; rw [List.getElem?_append_left (by omega)]
  · rw [if_neg h]
    by_cases h2 : i < 8 * o.length + 8
    · rw [if_pos h2]
      have e : i / 8 = o.length := by omega
      simp only [List.getD]
      rw [List.getElem?_append_right (by omega), e]
      simp only [Nat.sub_self, List.getElem?_cons_zero, Option.getD_some]
      congr 1; omega
    · rw [if_neg h2]
      simp only [List.getD]
      rw [List.getElem?_append_right (by omega), List.getElem?_eq_none (by simp; omega)]
      simp
theorem lbit_set_last (o : List Nat) (x i : Nat) (ho : 0 < o.length) : lbit (o.set (o.length - 1) x) i = if 8 * (o.length - 1) ≤ i ∧ i < 8 * o.length then x.testBit (7 - i % 8) else lbit o i := by
  unfold lbit
  simp only [List.getD, List.getElem?_set]
  by_cases h : 8 * (o.length - 1) ≤ i ∧ i < 8 * o.length
  · rw [if_pos h, if_pos (by omega), if_pos (by omega)]; simp
  · rw [if_neg h, if_neg (by omega)]
theorem stepO_pack (L W : List Bool) (c m : Nat) (hm1 : 1 ≤ m) (hm : m ≤ 8) (hW : W.length = m) (hc : c < 256) (hb : ∀ k, k < 8 → c.testBit (7 - k) = W.getD k false) :
    stepO (packN L) (L.length % 8) m c = packN (L ++ W) := by
  have hlast : ∀ x ∈ packN L, x < 256 := packN_lt L
  have hgl : (packN L).getD ((packN L).length - 1) 0 < 256 := by
    simp only [List.getD]
    cases h : (packN L)[(packN L).length - 1]? with
    | none => simp
    | some x => exact hlast x (List.mem_of_getElem? h)
  have hsh : ∀ u, c / 2 ^ u < 256 := fun u => Nat.lt_of_le_of_lt (Nat.div_le_self _ _) hc
  have hor : ∀ u, ((packN L).getD ((packN L).length - 1) 0 ||| c / 2 ^ u) < 256 := fun u => Nat.or_lt_two_pow (n := 8) hgl (hsh u)
  have hset : ∀ u, ∀ x ∈ (packN L).set ((packN L).length - 1) ((packN L).getD ((packN L).length - 1) 0 ||| c / 2 ^ u), x < 256 := by
    intro u x hx
    rcases List.mem_or_eq_of_mem_set hx with h | h
    · exact hlast x h
    · rw [h]; exact hor u
  have hlastbit : ∀ i, 8 * ((packN L).length - 1) ≤ i → i < 8 * (packN L).length → ((packN L).getD ((packN L).length - 1) 0).testBit (7 - i % 8) = L.getD i false := by
    intro i h1 h2
    rw [← packN_lbit]
    unfold lbit
    rw [show i / 8 = (packN L).length - 1 by omega]
  have hlen : (packN L).length = (L.length + 7) / 8 := packN_length L
  unfold stepO
  by_cases hu : L.length % 8 = 0
  · rw [if_pos hu]
    apply packN_unique
    · simp; omega
    · intro x hx; simp at hx; rcases hx with h | rfl
      · exact hlast x h
      · exact hc
    · intro i hi
      rw [lbit_snoc, getD_append, packN_lbit, hlen]
      simp only [List.length_append, List.length_cons, List.length_nil, hlen] at hi
      by_cases h : i < L.length
      · rw [if_pos (by omega), if_pos h]
      · rw [if_neg (by omega), if_neg h, if_pos (by omega), hb _ (by omega)]
        congr 1; omega
  · rw [if_neg hu]
    have hpos : 0 < (packN L).length := by omega
    by_cases hov : 8 - L.length % 8 < m
    · rw [if_pos hov]
      apply packN_unique
      · simp; omega
      · intro x hx
        rcases List.mem_append.1 hx with h | h
        · exact hset _ x h
        · simp at h; rw [h]; exact Nat.mod_lt _ (by omega)
      · intro i hi
        rw [lbit_snoc, getD_append]
        simp only [List.length_append, List.length_cons, List.length_nil, List.length_set] at hi ⊢
        by_cases h1 : i < 8 * (packN L).length
        · rw [if_pos h1, lbit_set_last _ _ _ hpos]
          by_cases h2 : 8 * ((packN L).length - 1) ≤ i ∧ i < 8 * (packN L).length
          · rw [if_pos h2, Nat.testBit_or, hlastbit i h2.1 h2.2, shift_testBit _ _ _ (by omega) (by omega) hc]
            by_cases h3 : i < L.length
            · rw [if_pos h3]
              have : ¬ (L.length % 8 ≤ i % 8) := by omega
              simp [this]
            · rw [if_neg h3, getD_ge L i (by omega), hb _ (by omega)]
              have : L.length % 8 ≤ i % 8 := by omega
              simp only [this, decide_true, Bool.true_and, Bool.false_or]
              congr 1; omega
          · rw [if_neg h2, packN_lbit, if_pos (by omega)]
        · rw [if_neg h1, if_pos (by omega), if_neg (by omega), shl_testBit _ _ _ (by omega) (by omega)]
          by_cases h4 : 8 - L.length % 8 + (i - 8 * (packN L).length) < 8
          · simp only [h4, decide_true, Bool.true_and]
            rw [hb _ (by omega)]
            congr 1; omega
          · simp only [h4, decide_false, Bool.false_and]
            rw [getD_ge W _ (by omega)]
    · rw [if_neg hov]
      apply packN_unique
      · simp; omega
      · exact hset _
      · intro i hi
        rw [getD_append, lbit_set_last _ _ _ hpos]
        simp only [List.length_set] at hi
        by_cases h2 : 8 * ((packN L).length - 1) ≤ i ∧ i < 8 * (packN L).length
        · rw [if_pos h2, Nat.testBit_or, hlastbit i h2.1 h2.2, shift_testBit _ _ _ (by omega) (by omega) hc]
          by_cases h3 : i < L.length
          · rw [if_pos h3]
            have : ¬ (L.length % 8 ≤ i % 8) := by omega
            simp [this]
          · rw [if_neg h3, getD_ge L i (by omega), hb _ (by omega)]
            have : L.length % 8 ≤ i % 8 := by omega
            simp only [this, decide_true, Bool.true_and, Bool.false_or]
            congr 1; omega
        · rw [if_neg h2, packN_lbit, if_pos (by omega)]
/-- the byte that the writer takes next: the m highest of the eight bits from i on -/
def takeN (s : ByteArray) (i m : Nat) : Nat := eightN s i &&& (255 * 2 ^ (8 - m) % 256)
theorem takeN_lt (s : ByteArray) (i m : Nat) : takeN s i m < 256 := Nat.lt_of_le_of_lt Nat.and_le_left (eightN_lt s i)
theorem takeN_testBit (s : ByteArray) (i m k : Nat) (hm : m ≤ 8) (hk : k < 8) : (takeN s i m).testBit (7 - k) = (bitsB s i m).getD k false := by
  unfold takeN
  rw [mask_testBit _ _ _ hm hk, eight_testBit _ _ _ hk]
  by_cases h : k < m
  · rw [bitsB_getD _ _ _ _ h]; simp [h]
  · rw [getD_ge _ _ (by simp; omega)]; simp [h]
theorem stepO_take (s : ByteArray) (L : List Bool) (i m : Nat) (h1 : 1 ≤ m) (h2 : m ≤ 8) : stepO (packN L) (L.length % 8) m (takeN s i m) = packN (L ++ bitsB s i m) :=
  stepO_pack L _ _ m h1 h2 (by simp) (takeN_lt _ _ _) fun k hk => takeN_testBit _ _ _ _ h2 hk
end Go.Proofs.BitsM
