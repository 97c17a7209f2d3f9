/-
  Walks: the program's reader of show: digit, letter, run. Walks: the program's reader of show: eat, must. Walks: ints.Read: the integer whose decimal text this is. Walks: the program's reader of show: int, marked.
-/
import Derived.Test.YtgfodedmcjkmaaaDoorPlain6
import Derived.Test.YtgfodedmcjkmaaaDoorBookQ
import Derived.Test.YtgfodedmcjkmaaaDoorShelf
namespace Go.Proofs.YtgfodedmcjkmaaaDoor
open Go.RowKit Go.Proofs.BitsM
/-- a string of these bytes -/
def ba (l : List UInt8) : ByteArray := ⟨l.toArray⟩
theorem bl_ba (l : List UInt8) : bl (ba l) = l := rfl
theorem ba_bl (s : ByteArray) : ba (bl s) = s := rfl
theorem ba_size (l : List UInt8) : (ba l).size = l.length := List.size_toArray
theorem ba_at (l : List UInt8) (k : Nat) (h : k < (ba l).size) : (ba l)[k]'h = l[k]'(by rw [ba_size] at h; exact h) := rfl
theorem extract_ba (l : List UInt8) (a b : Nat) : (ba l).extract a b = ba ((l.drop a).take (b - a)) := by
  unfold ba; rw [ByteArray.extract_mk]
/-- the program's reader in block R: what is left, and how deep -/
def Rb (R : Nat) (l : List UInt8) (d : Int) (w : World) : Prop := w.heap[R]? = some (.cells #[.string (ba l), .int .i64 d] 56 (0, 0))
theorem Rb.lt {R : Nat} {l : List UInt8} {d : Int} {w : World} (h : Rb R l d w) : R < w.heap.size := lt_of_block h
theorem Rb.c0 {R : Nat} {l : List UInt8} {d : Int} {w : World} (h : Rb R l d w) : w.cell? ⟨R, 0, none⟩ = some (.string (ba l)) := cells_of h 0
theorem Rb.c1 {R : Nat} {l : List UInt8} {d : Int} {w : World} (h : Rb R l d w) : w.cell? ⟨R, 1, none⟩ = some (.int .i64 d) := cells_of h 1
theorem Rb.fr {R : Nat} {l : List UInt8} {d : Int} {w : World} (h : Rb R l d w) (k : Nat) : w.frozen? ⟨R, k, none⟩ = false := frees_of h k
theorem Rb.set {R : Nat} {l l' : List UInt8} {d : Int} {w : World} (h : Rb R l d w) : Rb R l' d (w.setCell ⟨R, 0, none⟩ (.string (ba l'))) := blk_set h 0 _
theorem Rb.deep {R : Nat} {l : List UInt8} {d d' : Int} {w : World} (h : Rb R l d w) : Rb R l d' (w.setCell ⟨R, 1, none⟩ (.int .i64 d')) := blk_set h 1 _
theorem Rb.below {R : Nat} {l : List UInt8} {d : Int} {w w' : World} (h : Rb R l d w) (hb : Below w.heap.size w w') : Rb R l d w' := (hb.block R h.lt).trans h
theorem Rb.alloc {R : Nat} {l : List UInt8} {d : Int} {w : World} (h : Rb R l d w) (o : Obj) : Rb R l d (w.alloc o) := h.below (below_alloc w o)
/-- a predicate on bytes that a function of the program computes -/
def Tells (g : Nat) (q : UInt8 → Bool) : Prop := (∀ (args : Array Value) (w : World), (callFunc g args).run Tryd.prog w = .ok (.enter g args) w) ∧ ∀ (c : UInt8) (w : World), Calls Tryd.prog g #[.int .u8 (c.toNat : Int)] w fun e w' => e = .returned (.bool (q c)) ∧ w' = w
theorem digit_any (c : UInt8) (w : World) : Calls Tryd.prog 40 #[.int .u8 (c.toNat : Int)] w fun e w' => e = .returned (.bool (digC c)) ∧ w' = w := by
  by_cases h1 : c.toNat = 45
  · have x1 : ((c.toNat : Int) == 45) = true := by simp; omega
    have hfin := Lib.hid (show digC c = true by
      have : c = 45 := UInt8.toNat_inj.1 h1
      subst this; rfl)
    clear h1
    go_enter Tryd.func40, Tryd.ntmps40
    go_wp2_with fail
    go_ret
    exact ⟨by rw [hfin.out]; rfl, rfl⟩
  · have x1 : ((c.toNat : Int) == 45) = false := by simp; omega
    have hd : digC c = isD c := by
      unfold digC
      have : (c == 45) = false := by rw [beq_eq_false_iff_ne]; rintro rfl; exact h1 rfl
      rw [this, Bool.false_or]
    have hfin := Lib.hid hd
    clear h1 hd
    by_cases h2 : 48 ≤ c.toNat
    · have x2 : (48 : Int) ≤ (c.toNat : Int) := by omega
      by_cases h3 : c.toNat ≤ 57
      · have x3 : (c.toNat : Int) ≤ 57 := by omega
        have hfin2 := Lib.hid (show isD c = true from (isD_iff c).2 ⟨h2, h3⟩)
        clear h2 h3
        go_enter Tryd.func40, Tryd.ntmps40
        go_wp2_with fail
        go_ret
        exact ⟨by rw [hfin.out, hfin2.out]; rfl, rfl⟩
      · have x3 : ¬ (c.toNat : Int) ≤ 57 := by omega
        have hfin2 := Lib.hid (show isD c = false by rw [Bool.eq_false_iff]; exact fun e => h3 ((isD_iff c).1 e).2)
        clear h2 h3
        go_enter Tryd.func40, Tryd.ntmps40
        go_wp2_with fail
        go_ret
        exact ⟨by rw [hfin.out, hfin2.out]; rfl, rfl⟩
    · have x2 : ¬ (48 : Int) ≤ (c.toNat : Int) := by omega
      have hfin2 := Lib.hid (show isD c = false by rw [Bool.eq_false_iff]; exact fun e => h2 ((isD_iff c).1 e).1)
      clear h2
      go_enter Tryd.func40, Tryd.ntmps40
      go_wp2_with fail
      go_ret
      exact ⟨by rw [hfin.out, hfin2.out]; rfl, rfl⟩
theorem letter_any (c : UInt8) (w : World) : Calls Tryd.prog 44 #[.int .u8 (c.toNat : Int)] w fun e w' => e = .returned (.bool (letC c)) ∧ w' = w := by
  have hlt := c.toNat_lt
  have hcl : (97 ≤ c.toNat ∧ c.toNat ≤ 122) ∨ (123 ≤ c.toNat ∧ c.toNat ≤ 255) ∨ (91 ≤ c.toNat ∧ c.toNat ≤ 94) ∨ (95 ≤ c.toNat ∧ c.toNat ≤ 95) ∨ (96 ≤ c.toNat ∧ c.toNat ≤ 96) ∨ (65 ≤ c.toNat ∧ c.toNat ≤ 90) ∨ (64 ≤ c.toNat ∧ c.toNat ≤ 64) ∨ (58 ≤ c.toNat ∧ c.toNat ≤ 63) ∨ (48 ≤ c.toNat ∧ c.toNat ≤ 57) ∨ (0 ≤ c.toNat ∧ c.toNat ≤ 47) := by omega
  rcases hcl with ⟨h1, h2⟩ | ⟨h1, h2⟩ | ⟨h1, h2⟩ | ⟨h1, h2⟩ | ⟨h1, h2⟩ | ⟨h1, h2⟩ | ⟨h1, h2⟩ | ⟨h1, h2⟩ | ⟨h1, h2⟩ | ⟨h1, h2⟩
  · have hfin := Lib.hid (show letC c = true from (okC_iff _).2 (by omega))
    have x0 : (97 : Int) ≤ (c.toNat : Int) := by omega
    have x1 : (c.toNat : Int) ≤ 122 := by omega
    have x2 : (65 : Int) ≤ (c.toNat : Int) := by omega
    have x3 : ¬ (c.toNat : Int) ≤ 90 := by omega
    have x4 : (48 : Int) ≤ (c.toNat : Int) := by omega
    have x5 : ¬ (c.toNat : Int) ≤ 57 := by omega
    have x6 : ((c.toNat : Int) == 95) = false := by simp; omega
    have x7 : ((c.toNat : Int) == 64) = false := by simp; omega
    clear h1 h2 hlt
    go_enter Tryd.func44, Tryd.ntmps44
    go_wp2_with fail
    go_ret
    exact ⟨by rw [hfin.out]; rfl, rfl⟩
  · have hfin := Lib.hid (show letC c = false from by rw [Bool.eq_false_iff]; intro e; have := (okC_iff _).1 e; omega)
    have x0 : (97 : Int) ≤ (c.toNat : Int) := by omega
    have x1 : ¬ (c.toNat : Int) ≤ 122 := by omega
    have x2 : (65 : Int) ≤ (c.toNat : Int) := by omega
    have x3 : ¬ (c.toNat : Int) ≤ 90 := by omega
    have x4 : (48 : Int) ≤ (c.toNat : Int) := by omega
    have x5 : ¬ (c.toNat : Int) ≤ 57 := by omega
    have x6 : ((c.toNat : Int) == 95) = false := by simp; omega
    have x7 : ((c.toNat : Int) == 64) = false := by simp; omega
    clear h1 h2 hlt
    go_enter Tryd.func44, Tryd.ntmps44
    go_wp2_with fail
    go_ret
    exact ⟨by rw [hfin.out]; rfl, rfl⟩
  · have hfin := Lib.hid (show letC c = false from by rw [Bool.eq_false_iff]; intro e; have := (okC_iff _).1 e; omega)
    have x0 : ¬ (97 : Int) ≤ (c.toNat : Int) := by omega
    have x1 : (c.toNat : Int) ≤ 122 := by omega
    have x2 : (65 : Int) ≤ (c.toNat : Int) := by omega
    have x3 : ¬ (c.toNat : Int) ≤ 90 := by omega
    have x4 : (48 : Int) ≤ (c.toNat : Int) := by omega
    have x5 : ¬ (c.toNat : Int) ≤ 57 := by omega
    have x6 : ((c.toNat : Int) == 95) = false := by simp; omega
    have x7 : ((c.toNat : Int) == 64) = false := by simp; omega
    clear h1 h2 hlt
    go_enter Tryd.func44, Tryd.ntmps44
    go_wp2_with fail
    go_ret
    exact ⟨by rw [hfin.out]; rfl, rfl⟩
  · have hfin := Lib.hid (show letC c = true from (okC_iff _).2 (by omega))
    have x0 : ¬ (97 : Int) ≤ (c.toNat : Int) := by omega
    have x1 : (c.toNat : Int) ≤ 122 := by omega
    have x2 : (65 : Int) ≤ (c.toNat : Int) := by omega
    have x3 : ¬ (c.toNat : Int) ≤ 90 := by omega
    have x4 : (48 : Int) ≤ (c.toNat : Int) := by omega
    have x5 : ¬ (c.toNat : Int) ≤ 57 := by omega
    have x6 : ((c.toNat : Int) == 95) = true := by simp; omega
    have x7 : ((c.toNat : Int) == 64) = false := by simp; omega
    clear h1 h2 hlt
    go_enter Tryd.func44, Tryd.ntmps44
    go_wp2_with fail
    go_ret
    exact ⟨by rw [hfin.out]; rfl, rfl⟩
  · have hfin := Lib.hid (show letC c = false from by rw [Bool.eq_false_iff]; intro e; have := (okC_iff _).1 e; omega)
    have x0 : ¬ (97 : Int) ≤ (c.toNat : Int) := by omega
    have x1 : (c.toNat : Int) ≤ 122 := by omega
    have x2 : (65 : Int) ≤ (c.toNat : Int) := by omega
    have x3 : ¬ (c.toNat : Int) ≤ 90 := by omega
    have x4 : (48 : Int) ≤ (c.toNat : Int) := by omega
    have x5 : ¬ (c.toNat : Int) ≤ 57 := by omega
    have x6 : ((c.toNat : Int) == 95) = false := by simp; omega
    have x7 : ((c.toNat : Int) == 64) = false := by simp; omega
    clear h1 h2 hlt
    go_enter Tryd.func44, Tryd.ntmps44
    go_wp2_with fail
    go_ret
    exact ⟨by rw [hfin.out]; rfl, rfl⟩
  · have hfin := Lib.hid (show letC c = true from (okC_iff _).2 (by omega))
    have x0 : ¬ (97 : Int) ≤ (c.toNat : Int) := by omega
    have x1 : (c.toNat : Int) ≤ 122 := by omega
    have x2 : (65 : Int) ≤ (c.toNat : Int) := by omega
    have x3 : (c.toNat : Int) ≤ 90 := by omega
    have x4 : (48 : Int) ≤ (c.toNat : Int) := by omega
    have x5 : ¬ (c.toNat : Int) ≤ 57 := by omega
    have x6 : ((c.toNat : Int) == 95) = false := by simp; omega
    have x7 : ((c.toNat : Int) == 64) = false := by simp; omega
    clear h1 h2 hlt
    go_enter Tryd.func44, Tryd.ntmps44
    go_wp2_with fail
    go_ret
    exact ⟨by rw [hfin.out]; rfl, rfl⟩
  · have hfin := Lib.hid (show letC c = true from (okC_iff _).2 (by omega))
    have x0 : ¬ (97 : Int) ≤ (c.toNat : Int) := by omega
    have x1 : (c.toNat : Int) ≤ 122 := by omega
    have x2 : ¬ (65 : Int) ≤ (c.toNat : Int) := by omega
    have x3 : (c.toNat : Int) ≤ 90 := by omega
    have x4 : (48 : Int) ≤ (c.toNat : Int) := by omega
    have x5 : ¬ (c.toNat : Int) ≤ 57 := by omega
    have x6 : ((c.toNat : Int) == 95) = false := by simp; omega
    have x7 : ((c.toNat : Int) == 64) = true := by simp; omega
    clear h1 h2 hlt
    go_enter Tryd.func44, Tryd.ntmps44
    go_wp2_with fail
    go_ret
    exact ⟨by rw [hfin.out]; rfl, rfl⟩
  · have hfin := Lib.hid (show letC c = false from by rw [Bool.eq_false_iff]; intro e; have := (okC_iff _).1 e; omega)
    have x0 : ¬ (97 : Int) ≤ (c.toNat : Int) := by omega
    have x1 : (c.toNat : Int) ≤ 122 := by omega
    have x2 : ¬ (65 : Int) ≤ (c.toNat : Int) := by omega
    have x3 : (c.toNat : Int) ≤ 90 := by omega
    have x4 : (48 : Int) ≤ (c.toNat : Int) := by omega
    have x5 : ¬ (c.toNat : Int) ≤ 57 := by omega
    have x6 : ((c.toNat : Int) == 95) = false := by simp; omega
    have x7 : ((c.toNat : Int) == 64) = false := by simp; omega
    clear h1 h2 hlt
    go_enter Tryd.func44, Tryd.ntmps44
    go_wp2_with fail
    go_ret
    exact ⟨by rw [hfin.out]; rfl, rfl⟩
  · have hfin := Lib.hid (show letC c = true from (okC_iff _).2 (by omega))
    have x0 : ¬ (97 : Int) ≤ (c.toNat : Int) := by omega
    have x1 : (c.toNat : Int) ≤ 122 := by omega
    have x2 : ¬ (65 : Int) ≤ (c.toNat : Int) := by omega
    have x3 : (c.toNat : Int) ≤ 90 := by omega
    have x4 : (48 : Int) ≤ (c.toNat : Int) := by omega
    have x5 : (c.toNat : Int) ≤ 57 := by omega
    have x6 : ((c.toNat : Int) == 95) = false := by simp; omega
    have x7 : ((c.toNat : Int) == 64) = false := by simp; omega
    clear h1 h2 hlt
    go_enter Tryd.func44, Tryd.ntmps44
    go_wp2_with fail
    go_ret
    exact ⟨by rw [hfin.out]; rfl, rfl⟩
  · have hfin := Lib.hid (show letC c = false from by rw [Bool.eq_false_iff]; intro e; have := (okC_iff _).1 e; omega)
    have x0 : ¬ (97 : Int) ≤ (c.toNat : Int) := by omega
    have x1 : (c.toNat : Int) ≤ 122 := by omega
    have x2 : ¬ (65 : Int) ≤ (c.toNat : Int) := by omega
    have x3 : (c.toNat : Int) ≤ 90 := by omega
    have x4 : ¬ (48 : Int) ≤ (c.toNat : Int) := by omega
    have x5 : (c.toNat : Int) ≤ 57 := by omega
    have x6 : ((c.toNat : Int) == 95) = false := by simp; omega
    have x7 : ((c.toNat : Int) == 64) = false := by simp; omega
    clear h1 h2 hlt
    go_enter Tryd.func44, Tryd.ntmps44
    go_wp2_with fail
    go_ret
    exact ⟨by rw [hfin.out]; rfl, rfl⟩
theorem tells_digit : Tells 40 digC := ⟨callFunc_enter Tryd.func40 (by kernel_rfl) (by kernel_rfl), digit_any⟩
theorem tells_letter : Tells 44 letC := ⟨callFunc_enter Tryd.func44 (by kernel_rfl) (by kernel_rfl), letter_any⟩
/-! the longest run -/
theorem tw_take (q : UInt8 → Bool) : ∀ l : List UInt8, l.take (l.takeWhile q).length = l.takeWhile q
  | [] => rfl
  | c :: l => by
    rw [List.takeWhile_cons]
    split
    · rw [List.length_cons, List.take_succ_cons, tw_take q l]
    · rfl
theorem tw_drop (q : UInt8 → Bool) : ∀ l : List UInt8, l.drop (l.takeWhile q).length = l.dropWhile q
  | [] => rfl
  | c :: l => by
    rw [List.takeWhile_cons, List.dropWhile_cons]
    split
    · rw [List.length_cons, List.drop_succ_cons, tw_drop q l]
    · rfl
theorem tw_at (q : UInt8 → Bool) : ∀ (l : List UInt8) (k : Nat) (h : k < l.length), k < (l.takeWhile q).length → q (l[k]'h) = true
  | [], _, h, _ => absurd h (Nat.not_lt_zero _)
  | c :: l, 0, _, hk => by
    rw [List.takeWhile_cons] at hk
    split at hk
    · rename_i hc; exact hc
    · exact absurd hk (Nat.not_lt_zero _)
  | c :: l, k + 1, h, hk => by
    rw [List.takeWhile_cons] at hk
    split at hk
    · exact tw_at q l k (by simpa using h) (by simpa using hk)
    · exact absurd hk (Nat.not_lt_zero _)
theorem tw_stop (q : UInt8 → Bool) : ∀ (l : List UInt8) (h : (l.takeWhile q).length < l.length), q (l[(l.takeWhile q).length]'h) = false
  | [], h => absurd h (Nat.not_lt_zero _)
  | c :: l, h => by
    cases hq : q c with
    | false => simp [hq]
    | true =>
      have e : ((c :: l).takeWhile q) = c :: l.takeWhile q := by rw [List.takeWhile_cons, if_pos hq]
      simp only [e, List.length_cons, List.getElem_cons_succ]
      exact tw_stop q l (by rw [e] at h; simpa using h)
theorem tw_le (q : UInt8 → Bool) (l : List UInt8) : (l.takeWhile q).length ≤ l.length := by
  have := congrArg List.length (List.takeWhile_append_dropWhile (p := q) (l := l))
  rw [List.length_append] at this; omega
set_option maxHeartbeats 4000000 in
theorem run_any (g : Nat) (q : UInt8 → Bool) (hg : Tells g q) (R : Nat) (l : List UInt8) (d : Int) (w : World) (hr : Rb R l d w) (hl : l.length ≤ maxLen) :
    Calls Tryd.prog 43 #[.pointer (some ⟨R, 0, none⟩), .func (.func g) #[] #[]] w fun e w' => e = .returned (.string (ba (l.takeWhile q))) ∧ w' = w.setCell ⟨R, 0, none⟩ (.string (ba (l.dropWhile q))) := by
  have HQ := Lib.hid hg.2
  have hcf := hg.1
  clear hg
  have c0 := hr.c0
  have fr := hr.fr 0
  have HR := Lib.hid hr
  clear hr
  unfold maxLen at hl
  have htl := tw_le q l
  have hsz : ((ba l).size : Int) = (l.length : Int) := by rw [ba_size]
  have HF1 := Lib.hid (show ∀ k, k = (l.takeWhile q).length → (ba l).extract 0 k = ba (l.takeWhile q) ∧ (ba l).extract k (ba l).size = ba (l.dropWhile q) from by
    rintro k rfl
    rw [extract_ba, extract_ba, List.drop_zero, Nat.sub_zero, tw_take, tw_drop, ba_size, List.take_of_length_le]
    · exact ⟨rfl, rfl⟩
    · have := congrArg List.length (tw_drop q l)
      rw [List.length_drop] at this; omega)
  generalize hT : (l.takeWhile q).length = T at htl HF1
  have HT := Lib.hid hT
  clear hT
  go_enter Tryd.func43, Tryd.ntmps43
  go_wp2_with fail
  go_loop [5] (fun i => ∃ k : Nat, k ≤ T ∧ i = .int .i64 k) (fun i => T - (intOf i).toNat)
  case atStart => exact ⟨0, Nat.zero_le _, rfl⟩
  case round =>
    obtain ⟨k, hk, rfl⟩ := hrel
    by_cases hkl : k < l.length
    · have x1 : (k : Int) < ((ba l).size : Int) := by omega
      have hks : k < (ba l).size := by rw [ba_size]; exact hkl
      go_wp2_with fail
      refine (HQ.out _ _).mono ?_
      rintro e w1 ⟨rfl, rfl⟩
      by_cases hkt : k < T
      · have hq : q ((ba l)[k]'hks) = true := tw_at q l k hkl (by rw [HT.out]; exact hkt)
        rw [hq]
        go_wp2_with fail
        go_round
        case rel => exact ⟨k + 1, by omega, rfl⟩
        case measure => simp only [intOf, Int.toNat_natCast]; omega
      · obtain rfl : k = T := by omega
        have hq : q ((ba l)[k]'hks) = false := by
          have h2 : (l.takeWhile q).length < l.length := by rw [HT.out]; exact hkl
          have := tw_stop q l h2
          simp only [HT.out] at this
          exact this
        rw [hq]
        obtain ⟨e1, e2⟩ := HF1.out k rfl
        have E1 := Lib.hid e1
        have E2 := Lib.hid e2
        clear e1 e2
        go_wp2_with fail
        go_ret
        exact ⟨by rw [E1.out]; rfl, by rw [E2.out]⟩
    · have x1 : ¬ (k : Int) < ((ba l).size : Int) := by omega
      obtain rfl : k = T := by omega
      obtain ⟨e1, e2⟩ := HF1.out k rfl
      have E1 := Lib.hid e1
      have E2 := Lib.hid e2
      clear e1 e2
      go_wp2_with fail
      go_ret
      exact ⟨by rw [E1.out]; rfl, by rw [E2.out]⟩
end Go.Proofs.YtgfodedmcjkmaaaDoor
namespace Go.Proofs.YtgfodedmcjkmaaaDoor
open Go.RowKit Go.Proofs.BitsM
theorem eat_yes (R : Nat) (l : List UInt8) (d : Int) (p : ByteArray) (w : World) (hr : Rb R l d w) (h : hp l (bl p) = true) :
    Calls Tryd.prog 54 #[.pointer (some ⟨R, 0, none⟩), .string p] w fun e w' => e = .returned (.bool true) ∧ w' = w.setCell ⟨R, 0, none⟩ (.string (ba (l.drop (bl p).length))) := by
  have c0 := hr.c0
  have fr := hr.fr 0
  have HC := Lib.hid (Tryd.strings_CutPrefix (ba l) p)
  have e1 : Lib.hasPrefix (ba l).data.toList p.data.toList = true := h
  have e2 : Lib.trimPrefix (ba l).data.toList p.data.toList = l.drop (bl p).length := by unfold Lib.trimPrefix; rw [e1]; rfl
  rw [e1, e2] at HC
  clear e1 e2 h hr
  go_enter Tryd.func54, Tryd.ntmps54
  go_wp2_with fail
  refine (HC.out _).mono ?_
  rintro e w1 ⟨rfl, rfl⟩
  go_wp2_with fail
  go_ret
  exact ⟨rfl, rfl⟩
theorem eat_no (R : Nat) (l : List UInt8) (d : Int) (p : ByteArray) (w : World) (hr : Rb R l d w) (h : hp l (bl p) = false) :
    Calls Tryd.prog 54 #[.pointer (some ⟨R, 0, none⟩), .string p] w fun e w' => e = .returned (.bool false) ∧ w' = w := by
  have c0 := hr.c0
  have HC := Lib.hid (Tryd.strings_CutPrefix (ba l) p)
  have e1 : Lib.hasPrefix (ba l).data.toList p.data.toList = false := h
  rw [e1] at HC
  clear e1 h hr
  go_enter Tryd.func54, Tryd.ntmps54
  go_wp2_with fail
  refine (HC.out _).mono ?_
  rintro e w1 ⟨rfl, rfl⟩
  go_wp2_with fail
  go_ret
  exact ⟨rfl, rfl⟩
/-- the reader's panic -/
def wrongE : Ending := .panicked [{ v := .iface 53 (.agg #[]), recovered := false }]
theorem must_yes (R : Nat) (l : List UInt8) (d : Int) (p : ByteArray) (w : World) (hr : Rb R l d w) (h : hp l (bl p) = true) :
    Calls Tryd.prog 58 #[.pointer (some ⟨R, 0, none⟩), .string p] w fun e w' => e = .returned (.tuple #[]) ∧ w' = w.setCell ⟨R, 0, none⟩ (.string (ba (l.drop (bl p).length))) := by
  go_enter Tryd.func58, Tryd.ntmps58
  go_wp2_with fail
  refine (eat_yes R l d p _ hr h).mono ?_
  rintro e w1 ⟨rfl, rfl⟩
  go_wp2_with fail
  go_end0
  exact ⟨rfl, rfl⟩
theorem must_no (R : Nat) (l : List UInt8) (d : Int) (p : ByteArray) (w : World) (hr : Rb R l d w) (h : hp l (bl p) = false) :
    Calls Tryd.prog 58 #[.pointer (some ⟨R, 0, none⟩), .string p] w fun e w' => e = wrongE ∧ w' = w := by
  go_enter Tryd.func58, Tryd.ntmps58
  go_wp2_with fail
  refine (eat_no R l d p _ hr h).mono ?_
  rintro e w1 ⟨rfl, rfl⟩
  go_wp2_with fail
  exact ⟨rfl, rfl, rfl⟩
end Go.Proofs.YtgfodedmcjkmaaaDoor
namespace Go.Proofs.YtgfodedmcjkmaaaDoor
open Go.RowKit Go.Proofs.BitsM
theorem byteAt_bl2 (s : ByteArray) (k : Nat) (h : k < s.size) : ∃ h2 : k < (bl s).length, byteAt s k = ((bl s)[k]'h2).toNat := by
  have hl : (bl s).length = s.size := Array.length_toList
  obtain ⟨c, e, b⟩ := byteAt_bl s k h
  refine ⟨by omega, ?_⟩
  rw [List.getElem?_eq_getElem (by omega)] at e
  injection e with e
  rw [e]; exact b
theorem take_snocB (D : List UInt8) (k : Nat) (h : k < D.length) : D.take (k + 1) = D.take k ++ [D[k]'h] := by
  rw [List.take_add_one, List.getElem?_eq_getElem h]; rfl
theorem valD_next (D : List UInt8) (k : Nat) (h : k < D.length) : valD (D.take (k + 1)) = 10 * valD (D.take k) + ((D[k]'h).toNat - 48) := by
  rw [take_snocB D k h, valD_snoc]
theorem u64w {n : Int} (h0 : 0 ≤ n) (h1 : n < 18446744073709551616) : IntKind.u64.wrap n = n := by
  simp [IntKind.wrap, IntKind.bits, IntKind.signed]; omega
theorem i64w {n : Int} (h0 : -9223372036854775808 ≤ n) (h1 : n ≤ 9223372036854775807) : wrap64 n = n := by
  unfold wrap64; omega
theorem neg64 {v : Nat} (h : v ≤ 9223372036854775808) : wrap64 (IntKind.u64.wrap (-(v : Int))) = -(v : Int) := by
  simp [IntKind.wrap, IntKind.bits, IntKind.signed, wrap64]; omega
/-- all bytes so far are digits -/
def digsUp (D : List UInt8) (k : Nat) : Prop := ∀ c ∈ D.take k, isD c = true
theorem digsUp_next {D : List UInt8} {k : Nat} (h : k < D.length) (hd : digsUp D k) (h2 : isD (D[k]'h) = true) : digsUp D (k + 1) := by
  intro c hc
  rw [take_snocB D k h, List.mem_append, List.mem_singleton] at hc
  rcases hc with hc | rfl
  · exact hd c hc
  · exact h2
theorem digsUp_all {D : List UInt8} {k : Nat} (hd : digsUp D k) (h : D.length ≤ k) : ∀ c ∈ D, isD c = true := by
  unfold digsUp at hd; rwa [List.take_of_length_le h] at hd
/-- what Read answers -/
def ReadRet (L : List UInt8) (w : World) (e : Ending) (w' : World) : Prop := (∃ z k : Int, e = .returned (.tuple #[.int .i64 z, .int .i64 k]) ∧ ((k = 0 ∧ readN L = some z) ∨ (k ≠ 0 ∧ readN L = none))) ∧ Below w.heap.size w w'
set_option maxRecDepth 100000 in
set_option maxHeartbeats 4000000 in
theorem read_pos (s : ByteArray) (y0 : s.toList.isEmpty = false) (hs : 0 < s.size) (y1 : (((s[0]'hs).toNat : Int) == 45) = false) (y2 : ¬ ((s[0]'hs).toNat : Int) = 48) (L : List UInt8) (w : World)
    (h1 : (∀ c ∈ bl s, isD c = true) → valD (bl s) ≤ 9223372036854775807 → readN L = some ((valD (bl s) : Int))) (h2 : (∀ c ∈ bl s, isD c = true) → 9223372036854775807 < valD (bl s) → readN L = none)
    (h3 : ∀ k (h : k < (bl s).length), isD ((bl s)[k]'h) = false → readN L = none) :
    Calls Tryd.prog 61 #[.string s] w (ReadRet L w) := by
  have H1 := Lib.hid h1
  have H2 := Lib.hid h2
  have H3 := Lib.hid h3
  clear h1 h2 h3
  have HL := Lib.hid (show (bl s).length = s.size from Array.length_toList)
  go_enter Tryd.func61, Tryd.ntmps61
  go_wp2_with fail
  go_loopw [6, 7] (fun n o wr => ∃ pos : Nat, pos ≤ s.size ∧ wr.heap[w.heap.size]? = some (.stringIter s pos) ∧ Below w.heap.size w wr ∧ Hid (digsUp (bl s) pos) ∧ ((o = .bool false ∧ ∃ v : Nat, n = .int .u64 (v : Int) ∧ v ≤ 9223372036854775807 ∧ Hid (v = valD ((bl s).take pos))) ∨ (o = .bool true ∧ ∃ v : Int, n = .int .u64 v ∧ Hid (9223372036854775807 < valD ((bl s).take pos))))) (fun _ _ wr => s.size - wr.iterPos w.heap.size)
  case atStart => exact ⟨0, Nat.zero_le _, World.iter_heap w s 0, (Below.refl _ _).alloc (Nat.le_refl _) _, Lib.hid (by intro c hc; simp at hc), .inl ⟨rfl, 0, rfl, by omega, Lib.hid (by rw [List.take_zero]; rfl)⟩⟩
  case round =>
    obtain ⟨pos, hps, hit, hbw, HD, HU⟩ := hrel
    have hpos0 := iterPos_of hit
    by_cases hp : pos < s.size
    · obtain ⟨c, q, hnx, hcq⟩ := next_two wr w.heap.size s pos hit hp
      have hit2 := Lib.iterAt_heap wr w.heap.size s pos q hit
      have hbw2 := Lib.below_iterAt hbw (k := w.heap.size) (Nat.le_refl _) s q
      generalize wr.iterAt w.heap.size s q = W1 at hnx hit2 hbw2
      clear hit hbw
      obtain ⟨hpl, hby⟩ := byteAt_bl2 s pos hp
      cases hdig : isD ((bl s)[pos]'hpl) with
      | true =>
        have hr := (isD_iff _).1 hdig
        rw [← hby] at hr
        obtain ⟨hc, rfl⟩ : c = byteAt s pos ∧ q = pos + 1 := by
          rcases hcq with ⟨hc, hq, _⟩ | ⟨_, h128⟩
          · exact ⟨hc, hq⟩
          · omega
        have HD2 := Lib.hid (digsUp_next hpl HD.out hdig)
        have HV2 := Lib.hid (valD_next (bl s) pos hpl)
        rw [← hby, ← hc] at HV2
        rw [← hc] at hr
        clear hby hc hcq hdig
        have x1 : ¬ (c : Int) < 48 := by omega
        have x2 : ¬ 57 < (c : Int) := by omega
        rcases HU with ⟨rfl, v, rfl, hv, HV⟩ | ⟨rfl, v, rfl, HV⟩
        · by_cases ho : (9223372036854775807 - ((c : Int) - 48)) / 10 < (v : Int)
          · go_wp2_with fail
            all_goals (try (exfalso; omega))
            all_goals
              go_roundw
              case rel => exact ⟨pos + 1, by omega, hit2, hbw2, HD2, .inr ⟨rfl, _, rfl, Lib.hid (by rw [HV2.out, ← HV.out]; omega)⟩⟩
              case measure => rw [iterPos_of hit2, hpos0]; omega
          · have e1 : IntKind.u64.wrap (IntKind.u64.wrap (10 * (v : Int)) + ((c : Int) - 48)) = ((10 * v + (c - 48) : Nat) : Int) := by
              rw [u64w (n := 10 * (v : Int)) (by omega) (by omega), u64w (by omega) (by omega)]; omega
            go_wp2_with fail
            all_goals (try (exfalso; omega))
            all_goals
              go_roundw
              case rel => exact ⟨pos + 1, by omega, hit2, hbw2, HD2, .inl ⟨rfl, 10 * v + (c - 48), congrArg (Value.int .u64) (by omega), by omega, Lib.hid (by rw [HV2.out, ← HV.out])⟩⟩
              case measure => rw [iterPos_of hit2, hpos0]; omega
        · go_wp2_with fail
          all_goals
            go_roundw
            case rel => exact ⟨pos + 1, by omega, hit2, hbw2, HD2, .inr ⟨rfl, v, rfl, Lib.hid (by have := HV.out; rw [HV2.out]; omega)⟩⟩
            case measure => rw [iterPos_of hit2, hpos0]; omega
      | false =>
        have HN := Lib.hid (H3.out pos hpl hdig)
        have hr : ¬ (48 ≤ c ∧ c ≤ 57) := by
          intro e
          rcases hcq with ⟨hc, _, _⟩ | ⟨h128, _⟩
          · rw [hc, hby] at e
            rw [(isD_iff _).2 e] at hdig; cases hdig
          · omega
        clear hdig hby hcq
        by_cases x1 : (c : Int) < 48
        · rcases HU with ⟨rfl, v, rfl, hv, HV⟩ | ⟨rfl, v, rfl, HV⟩
          all_goals
            go_wp2_with fail
            go_ret2
            exact ⟨⟨_, _, rfl, .inr ⟨by decide, HN.out⟩⟩, hbw2⟩
        · have x2 : 57 < (c : Int) := by omega
          rcases HU with ⟨rfl, v, rfl, hv, HV⟩ | ⟨rfl, v, rfl, HV⟩
          all_goals
            go_wp2_with fail
            go_ret2
            exact ⟨⟨_, _, rfl, .inr ⟨by decide, HN.out⟩⟩, hbw2⟩
    · have hnx : ∀ ty, (Instr.next (.pointer (some ⟨w.heap.size, 0, none⟩)) true ty).run Tryd.prog wr = _ := fun ty => Lib.run_next_end_at wr w.heap.size s pos ty hit hp
      have HA := Lib.hid (digsUp_all HD.out (by have := HL.out; omega))
      have HT := Lib.hid (show (bl s).take pos = bl s from List.take_of_length_le (by have := HL.out; omega))
      rcases HU with ⟨rfl, v, rfl, hv, HV⟩ | ⟨rfl, v, rfl, HV⟩
      · have e0 : wrap64 (v : Int) = (v : Int) := i64w (by omega) (by omega)
        go_wp2_with fail
        go_ret2
        refine ⟨⟨_, 0, rfl, .inl ⟨rfl, ?_⟩⟩, hbw⟩
        have a := HV.out
        rw [HT.out] at a
        rw [H1.out HA.out (by omega), ← a]
      · go_wp2_with fail
        go_ret2
        have a := HV.out
        rw [HT.out] at a
        exact ⟨⟨_, _, rfl, .inr ⟨by decide, H2.out HA.out a⟩⟩, hbw⟩
set_option maxRecDepth 100000 in
set_option maxHeartbeats 4000000 in
theorem read_zero (s : ByteArray) (y0 : s.toList.isEmpty = false) (hs : 0 < s.size) (_y1 : (((s[0]'hs).toNat : Int) == 45) = false) (y2 : ((s[0]'hs).toNat : Int) = 48) (y3 : (!s.toList == [48]) = false) (L : List UInt8) (w : World)
    (h1 : (∀ c ∈ bl s, isD c = true) → valD (bl s) ≤ 9223372036854775807 → readN L = some ((valD (bl s) : Int))) (h2 : (∀ c ∈ bl s, isD c = true) → 9223372036854775807 < valD (bl s) → readN L = none)
    (h3 : ∀ k (h : k < (bl s).length), isD ((bl s)[k]'h) = false → readN L = none) :
    Calls Tryd.prog 61 #[.string s] w (ReadRet L w) := by
  have H1 := Lib.hid h1
  have H2 := Lib.hid h2
  have H3 := Lib.hid h3
  clear h1 h2 h3
  have HL := Lib.hid (show (bl s).length = s.size from Array.length_toList)
  go_enter Tryd.func61, Tryd.ntmps61
  go_wp2_with fail
  go_loopw [6, 7] (fun n o wr => ∃ pos : Nat, pos ≤ s.size ∧ wr.heap[w.heap.size]? = some (.stringIter s pos) ∧ Below w.heap.size w wr ∧ Hid (digsUp (bl s) pos) ∧ ((o = .bool false ∧ ∃ v : Nat, n = .int .u64 (v : Int) ∧ v ≤ 9223372036854775807 ∧ Hid (v = valD ((bl s).take pos))) ∨ (o = .bool true ∧ ∃ v : Int, n = .int .u64 v ∧ Hid (9223372036854775807 < valD ((bl s).take pos))))) (fun _ _ wr => s.size - wr.iterPos w.heap.size)
  case atStart => exact ⟨0, Nat.zero_le _, World.iter_heap w s 0, (Below.refl _ _).alloc (Nat.le_refl _) _, Lib.hid (by intro c hc; simp at hc), .inl ⟨rfl, 0, rfl, by omega, Lib.hid (by rw [List.take_zero]; rfl)⟩⟩
  case round =>
    obtain ⟨pos, hps, hit, hbw, HD, HU⟩ := hrel
    have hpos0 := iterPos_of hit
    by_cases hp : pos < s.size
    · obtain ⟨c, q, hnx, hcq⟩ := next_two wr w.heap.size s pos hit hp
      have hit2 := Lib.iterAt_heap wr w.heap.size s pos q hit
      have hbw2 := Lib.below_iterAt hbw (k := w.heap.size) (Nat.le_refl _) s q
      generalize wr.iterAt w.heap.size s q = W1 at hnx hit2 hbw2
      clear hit hbw
      obtain ⟨hpl, hby⟩ := byteAt_bl2 s pos hp
      cases hdig : isD ((bl s)[pos]'hpl) with
      | true =>
        have hr := (isD_iff _).1 hdig
        rw [← hby] at hr
        obtain ⟨hc, rfl⟩ : c = byteAt s pos ∧ q = pos + 1 := by
          rcases hcq with ⟨hc, hq, _⟩ | ⟨_, h128⟩
          · exact ⟨hc, hq⟩
          · omega
        have HD2 := Lib.hid (digsUp_next hpl HD.out hdig)
        have HV2 := Lib.hid (valD_next (bl s) pos hpl)
        rw [← hby, ← hc] at HV2
        rw [← hc] at hr
        clear hby hc hcq hdig
        have x1 : ¬ (c : Int) < 48 := by omega
        have x2 : ¬ 57 < (c : Int) := by omega
        rcases HU with ⟨rfl, v, rfl, hv, HV⟩ | ⟨rfl, v, rfl, HV⟩
        · by_cases ho : (9223372036854775807 - ((c : Int) - 48)) / 10 < (v : Int)
          · go_wp2_with fail
            all_goals (try (exfalso; omega))
            all_goals
              go_roundw
              case rel => exact ⟨pos + 1, by omega, hit2, hbw2, HD2, .inr ⟨rfl, _, rfl, Lib.hid (by rw [HV2.out, ← HV.out]; omega)⟩⟩
              case measure => rw [iterPos_of hit2, hpos0]; omega
          · have e1 : IntKind.u64.wrap (IntKind.u64.wrap (10 * (v : Int)) + ((c : Int) - 48)) = ((10 * v + (c - 48) : Nat) : Int) := by
              rw [u64w (n := 10 * (v : Int)) (by omega) (by omega), u64w (by omega) (by omega)]; omega
            go_wp2_with fail
            all_goals (try (exfalso; omega))
            all_goals
              go_roundw
              case rel => exact ⟨pos + 1, by omega, hit2, hbw2, HD2, .inl ⟨rfl, 10 * v + (c - 48), congrArg (Value.int .u64) (by omega), by omega, Lib.hid (by rw [HV2.out, ← HV.out])⟩⟩
              case measure => rw [iterPos_of hit2, hpos0]; omega
        · go_wp2_with fail
          all_goals
            go_roundw
            case rel => exact ⟨pos + 1, by omega, hit2, hbw2, HD2, .inr ⟨rfl, v, rfl, Lib.hid (by have := HV.out; rw [HV2.out]; omega)⟩⟩
            case measure => rw [iterPos_of hit2, hpos0]; omega
      | false =>
        have HN := Lib.hid (H3.out pos hpl hdig)
        have hr : ¬ (48 ≤ c ∧ c ≤ 57) := by
          intro e
          rcases hcq with ⟨hc, _, _⟩ | ⟨h128, _⟩
          · rw [hc, hby] at e
            rw [(isD_iff _).2 e] at hdig; cases hdig
          · omega
        clear hdig hby hcq
        by_cases x1 : (c : Int) < 48
        · rcases HU with ⟨rfl, v, rfl, hv, HV⟩ | ⟨rfl, v, rfl, HV⟩
          all_goals
            go_wp2_with fail
            go_ret2
            exact ⟨⟨_, _, rfl, .inr ⟨by decide, HN.out⟩⟩, hbw2⟩
        · have x2 : 57 < (c : Int) := by omega
          rcases HU with ⟨rfl, v, rfl, hv, HV⟩ | ⟨rfl, v, rfl, HV⟩
          all_goals
            go_wp2_with fail
            go_ret2
            exact ⟨⟨_, _, rfl, .inr ⟨by decide, HN.out⟩⟩, hbw2⟩
    · have hnx : ∀ ty, (Instr.next (.pointer (some ⟨w.heap.size, 0, none⟩)) true ty).run Tryd.prog wr = _ := fun ty => Lib.run_next_end_at wr w.heap.size s pos ty hit hp
      have HA := Lib.hid (digsUp_all HD.out (by have := HL.out; omega))
      have HT := Lib.hid (show (bl s).take pos = bl s from List.take_of_length_le (by have := HL.out; omega))
      rcases HU with ⟨rfl, v, rfl, hv, HV⟩ | ⟨rfl, v, rfl, HV⟩
      · have e0 : wrap64 (v : Int) = (v : Int) := i64w (by omega) (by omega)
        go_wp2_with fail
        go_ret2
        refine ⟨⟨_, 0, rfl, .inl ⟨rfl, ?_⟩⟩, hbw⟩
        have a := HV.out
        rw [HT.out] at a
        rw [H1.out HA.out (by omega), ← a]
      · go_wp2_with fail
        go_ret2
        have a := HV.out
        rw [HT.out] at a
        exact ⟨⟨_, _, rfl, .inr ⟨by decide, H2.out HA.out a⟩⟩, hbw⟩
set_option maxRecDepth 100000 in
set_option maxHeartbeats 4000000 in
theorem read_neg (s d : ByteArray) (hl : s.size ≤ 9223372036854775807) (y0 : s.toList.isEmpty = false) (hs : 0 < s.size) (y1 : (((s[0]'hs).toNat : Int) == 45) = true) (hE : s.extract 1 s.size = d) (z0 : d.toList.isEmpty = false) (hd : 0 < d.size) (y2 : ¬ ((d[0]'hd).toNat : Int) = 48) (L : List UInt8) (w : World)
    (h1 : (∀ c ∈ bl d, isD c = true) → valD (bl d) ≤ 9223372036854775808 → readN L = some (-(valD (bl d) : Int))) (h2 : (∀ c ∈ bl d, isD c = true) → 9223372036854775808 < valD (bl d) → readN L = none)
    (h3 : ∀ k (h : k < (bl d).length), isD ((bl d)[k]'h) = false → readN L = none) :
    Calls Tryd.prog 61 #[.string s] w (ReadRet L w) := by
  have H1 := Lib.hid h1
  have H2 := Lib.hid h2
  have H3 := Lib.hid h3
  clear h1 h2 h3
  have HL := Lib.hid (show (bl d).length = d.size from Array.length_toList)
  go_enter Tryd.func61, Tryd.ntmps61
  go_wp2_with fail
  go_loopw [6, 7] (fun n o wr => ∃ pos : Nat, pos ≤ d.size ∧ wr.heap[w.heap.size]? = some (.stringIter d pos) ∧ Below w.heap.size w wr ∧ Hid (digsUp (bl d) pos) ∧ ((o = .bool false ∧ ∃ v : Nat, n = .int .u64 (v : Int) ∧ v ≤ 9223372036854775808 ∧ Hid (v = valD ((bl d).take pos))) ∨ (o = .bool true ∧ ∃ v : Int, n = .int .u64 v ∧ Hid (9223372036854775808 < valD ((bl d).take pos))))) (fun _ _ wr => d.size - wr.iterPos w.heap.size)
  case atStart => exact ⟨0, Nat.zero_le _, World.iter_heap w d 0, (Below.refl _ _).alloc (Nat.le_refl _) _, Lib.hid (by intro c hc; simp at hc), .inl ⟨rfl, 0, rfl, by omega, Lib.hid (by rw [List.take_zero]; rfl)⟩⟩
  case round =>
    obtain ⟨pos, hps, hit, hbw, HD, HU⟩ := hrel
    have hpos0 := iterPos_of hit
    by_cases hp : pos < d.size
    · obtain ⟨c, q, hnx, hcq⟩ := next_two wr w.heap.size d pos hit hp
      have hit2 := Lib.iterAt_heap wr w.heap.size d pos q hit
      have hbw2 := Lib.below_iterAt hbw (k := w.heap.size) (Nat.le_refl _) d q
      generalize wr.iterAt w.heap.size d q = W1 at hnx hit2 hbw2
      clear hit hbw
      obtain ⟨hpl, hby⟩ := byteAt_bl2 d pos hp
      cases hdig : isD ((bl d)[pos]'hpl) with
      | true =>
        have hr := (isD_iff _).1 hdig
        rw [← hby] at hr
        obtain ⟨hc, rfl⟩ : c = byteAt d pos ∧ q = pos + 1 := by
          rcases hcq with ⟨hc, hq, _⟩ | ⟨_, h128⟩
          · exact ⟨hc, hq⟩
          · omega
        have HD2 := Lib.hid (digsUp_next hpl HD.out hdig)
        have HV2 := Lib.hid (valD_next (bl d) pos hpl)
        rw [← hby, ← hc] at HV2
        rw [← hc] at hr
        clear hby hc hcq hdig
        have x1 : ¬ (c : Int) < 48 := by omega
        have x2 : ¬ 57 < (c : Int) := by omega
        rcases HU with ⟨rfl, v, rfl, hv, HV⟩ | ⟨rfl, v, rfl, HV⟩
        · by_cases ho : (9223372036854775808 - ((c : Int) - 48)) / 10 < (v : Int)
          · go_wp2_with fail
            all_goals (try (exfalso; omega))
            all_goals
              go_roundw
              case rel => exact ⟨pos + 1, by omega, hit2, hbw2, HD2, .inr ⟨rfl, _, rfl, Lib.hid (by rw [HV2.out, ← HV.out]; omega)⟩⟩
              case measure => rw [iterPos_of hit2, hpos0]; omega
          · have e1 : IntKind.u64.wrap (IntKind.u64.wrap (10 * (v : Int)) + ((c : Int) - 48)) = ((10 * v + (c - 48) : Nat) : Int) := by
              rw [u64w (n := 10 * (v : Int)) (by omega) (by omega), u64w (by omega) (by omega)]; omega
            go_wp2_with fail
            all_goals (try (exfalso; omega))
            all_goals
              go_roundw
              case rel => exact ⟨pos + 1, by omega, hit2, hbw2, HD2, .inl ⟨rfl, 10 * v + (c - 48), congrArg (Value.int .u64) (by omega), by omega, Lib.hid (by rw [HV2.out, ← HV.out])⟩⟩
              case measure => rw [iterPos_of hit2, hpos0]; omega
        · go_wp2_with fail
          all_goals
            go_roundw
            case rel => exact ⟨pos + 1, by omega, hit2, hbw2, HD2, .inr ⟨rfl, v, rfl, Lib.hid (by have := HV.out; rw [HV2.out]; omega)⟩⟩
            case measure => rw [iterPos_of hit2, hpos0]; omega
      | false =>
        have HN := Lib.hid (H3.out pos hpl hdig)
        have hr : ¬ (48 ≤ c ∧ c ≤ 57) := by
          intro e
          rcases hcq with ⟨hc, _, _⟩ | ⟨h128, _⟩
          · rw [hc, hby] at e
            rw [(isD_iff _).2 e] at hdig; cases hdig
          · omega
        clear hdig hby hcq
        by_cases x1 : (c : Int) < 48
        · rcases HU with ⟨rfl, v, rfl, hv, HV⟩ | ⟨rfl, v, rfl, HV⟩
          all_goals
            go_wp2_with fail
            go_ret2
            exact ⟨⟨_, _, rfl, .inr ⟨by decide, HN.out⟩⟩, hbw2⟩
        · have x2 : 57 < (c : Int) := by omega
          rcases HU with ⟨rfl, v, rfl, hv, HV⟩ | ⟨rfl, v, rfl, HV⟩
          all_goals
            go_wp2_with fail
            go_ret2
            exact ⟨⟨_, _, rfl, .inr ⟨by decide, HN.out⟩⟩, hbw2⟩
    · have hnx : ∀ ty, (Instr.next (.pointer (some ⟨w.heap.size, 0, none⟩)) true ty).run Tryd.prog wr = _ := fun ty => Lib.run_next_end_at wr w.heap.size d pos ty hit hp
      have HA := Lib.hid (digsUp_all HD.out (by have := HL.out; omega))
      have HT := Lib.hid (show (bl d).take pos = bl d from List.take_of_length_le (by have := HL.out; omega))
      rcases HU with ⟨rfl, v, rfl, hv, HV⟩ | ⟨rfl, v, rfl, HV⟩
      · have e0 := neg64 hv
        go_wp2_with fail
        go_ret2
        refine ⟨⟨_, 0, rfl, .inl ⟨rfl, ?_⟩⟩, hbw⟩
        have a := HV.out
        rw [HT.out] at a
        rw [H1.out HA.out (by omega), ← a]; rw [e0]
      · go_wp2_with fail
        go_ret2
        have a := HV.out
        rw [HT.out] at a
        exact ⟨⟨_, _, rfl, .inr ⟨by decide, H2.out HA.out a⟩⟩, hbw⟩
theorem read_empty (s : ByteArray) (y0 : s.toList.isEmpty = true) (L : List UInt8) (w : World) (h : readN L = none) : Calls Tryd.prog 61 #[.string s] w (ReadRet L w) := by
  have H := Lib.hid h
  clear h
  go_enter Tryd.func61, Tryd.ntmps61
  go_wp2_with fail
  go_ret2
  exact ⟨⟨_, _, rfl, .inr ⟨by decide, H.out⟩⟩, Below.refl _ _⟩
theorem read_lead (s : ByteArray) (y0 : s.toList.isEmpty = false) (hs : 0 < s.size) (_y1 : (((s[0]'hs).toNat : Int) == 45) = false) (y2 : ((s[0]'hs).toNat : Int) = 48) (y3 : (!s.toList == [48]) = true) (L : List UInt8) (w : World) (h : readN L = none) : Calls Tryd.prog 61 #[.string s] w (ReadRet L w) := by
  have H := Lib.hid h
  clear h
  go_enter Tryd.func61, Tryd.ntmps61
  go_wp2_with fail
  go_ret2
  exact ⟨⟨_, _, rfl, .inr ⟨by decide, H.out⟩⟩, Below.refl _ _⟩
theorem read_minus (s d : ByteArray) (y0 : s.toList.isEmpty = false) (hs : 0 < s.size) (y1 : (((s[0]'hs).toNat : Int) == 45) = true) (hE : s.extract 1 s.size = d) (z0 : d.toList.isEmpty = true) (L : List UInt8) (w : World) (h : readN L = none) : Calls Tryd.prog 61 #[.string s] w (ReadRet L w) := by
  have H := Lib.hid h
  clear h
  go_enter Tryd.func61, Tryd.ntmps61
  go_wp2_with fail
  go_ret2
  exact ⟨⟨_, _, rfl, .inr ⟨by decide, H.out⟩⟩, Below.refl _ _⟩
theorem read_minus0 (s d : ByteArray) (y0 : s.toList.isEmpty = false) (hs : 0 < s.size) (y1 : (((s[0]'hs).toNat : Int) == 45) = true) (hE : s.extract 1 s.size = d) (z0 : d.toList.isEmpty = false) (hd : 0 < d.size) (y2 : ((d[0]'hd).toNat : Int) = 48) (y3 : (!s.toList == [48]) = true) (L : List UInt8) (w : World) (h : readN L = none) : Calls Tryd.prog 61 #[.string s] w (ReadRet L w) := by
  have H := Lib.hid h
  clear h
  go_enter Tryd.func61, Tryd.ntmps61
  go_wp2_with fail
  go_ret2
  exact ⟨⟨_, _, rfl, .inr ⟨by decide, H.out⟩⟩, Below.refl _ _⟩
theorem ba_toList (l : List UInt8) : (ba l).toList = l := by rw [ByteArray.toList_eq]; rfl
theorem Read_any (l : List UInt8) (w : World) (hl : l.length ≤ 9223372036854775807) : Calls Tryd.prog 61 #[.string (ba l)] w (ReadRet l w) := by
  have hz := ba_size l
  cases l with
  | nil => exact read_empty (ba []) (by rw [ba_toList]; rfl) [] w rfl
  | cons a D =>
    have hs : 0 < (ba (a :: D)).size := by rw [hz, List.length_cons]; omega
    have y0 : (ba (a :: D)).toList.isEmpty = false := by rw [ba_toList]; rfl
    have hget : (ba (a :: D))[0]'hs = a := rfl
    by_cases ha : a = 45
    · subst ha
      have y1 : ((((ba (45 :: D))[0]'hs).toNat : Int) == 45) = true := rfl
      have hE : (ba (45 :: D)).extract 1 (ba (45 :: D)).size = ba D := by
        rw [extract_ba, ba_size, List.length_cons, List.drop_succ_cons, List.drop_zero, Nat.add_sub_cancel, List.take_length]
      cases D with
      | nil => exact read_minus _ (ba []) y0 hs y1 hE (by rw [ba_toList]; rfl) _ w rfl
      | cons b D =>
        have z0 : (ba (b :: D)).toList.isEmpty = false := by rw [ba_toList]; rfl
        have hd : 0 < (ba (b :: D)).size := by rw [ba_size, List.length_cons]; omega
        have hgd : (ba (b :: D))[0]'hd = b := rfl
        by_cases hb : b = 48
        · subst hb
          refine read_minus0 _ (ba (48 :: D)) y0 hs y1 hE z0 hd rfl ?_ _ w ?_
          · rw [ba_toList]; rfl
          · rw [readN_neg, if_neg]; simp
        · have hb2 : b.toNat ≠ 48 := fun e => hb (UInt8.toNat_inj.1 e)
          have hh : ((b :: D).head? != some 48) = true := by simp [hb]
          refine read_neg _ (ba (b :: D)) (by omega) y0 hs y1 hE z0 hd (by rw [hgd]; omega) _ w ?_ ?_ ?_
          · intro hall hv
            have hf : formD (b :: D) = true := (formD_iff _).2 ⟨by simp, hall, fun e => absurd e (by simp [hb])⟩
            rw [readN_neg, hf, hh, if_pos]
            · rfl
            · simp only [Bool.true_and, decide_eq_true_eq]; exact hv
          · intro hall hv
            rw [readN_neg, if_neg]
            simp only [Bool.and_eq_true, decide_eq_true_eq, not_and]
            intro _ h; exact absurd h (by show ¬ valD (b :: D) ≤ _; have : 9223372036854775808 < valD (b :: D) := hv; omega)
          · intro k h hbad
            have hf : formD (b :: D) = false := by
              rw [Bool.eq_false_iff]; intro e
              have := ((formD_iff _).1 e).2.1 _ (List.getElem_mem h)
              rw [hbad] at this; cases this
            rw [readN_neg, hf]; rfl
    · have ha2 : a.toNat ≠ 45 := fun e => ha (UInt8.toNat_inj.1 e)
      have y1 : ((((ba (a :: D))[0]'hs).toNat : Int) == 45) = false := by rw [hget]; simp; omega
      have hh45 : (a :: D).head? ≠ some 45 := by simp [ha]
      have hbadL : ∀ k (h : k < (a :: D).length), isD ((a :: D)[k]'h) = false → readN (a :: D) = none := by
        intro k h hbad
        have hf : formD (a :: D) = false := by
          rw [Bool.eq_false_iff]; intro e
          have := ((formD_iff _).1 e).2.1 _ (List.getElem_mem h)
          rw [hbad] at this; cases this
        rw [readN_pos _ hh45, hf]; rfl
      have hbig : 9223372036854775807 < valD (a :: D) → readN (a :: D) = none := by
        intro hv
        rw [readN_pos _ hh45, if_neg]
        simp only [Bool.and_eq_true, decide_eq_true_eq, not_and]
        intro _; omega
      have hok : formD (a :: D) = true → valD (a :: D) ≤ 9223372036854775807 → readN (a :: D) = some (valD (a :: D) : Int) := by
        intro hf hv
        rw [readN_pos _ hh45, hf, if_pos]
        simp only [Bool.true_and, decide_eq_true_eq]; exact hv
      by_cases hb : a = 48
      · subst hb
        cases D with
        | nil => exact read_zero (ba [48]) y0 hs y1 rfl (by rw [ba_toList]; rfl) [48] w (fun _ hv => hok (by decide) hv) (fun _ hv => hbig hv) hbadL
        | cons b D =>
          refine read_lead _ y0 hs y1 rfl ?_ _ w ?_
          · rw [ba_toList]; rfl
          · rw [readN_pos _ hh45, if_neg]
            rw [Bool.and_eq_true, formD_iff]
            rintro ⟨⟨_, _, h⟩, _⟩
            have := h rfl
            simp at this
      · have hb2 : a.toNat ≠ 48 := fun e => hb (UInt8.toNat_inj.1 e)
        exact read_pos _ y0 hs y1 (by rw [hget]; omega) _ w (fun hall hv => hok ((formD_iff _).2 ⟨by simp, hall, fun e => absurd e (by simp [hb])⟩) hv) (fun _ hv => hbig hv) hbadL
end Go.Proofs.YtgfodedmcjkmaaaDoor
namespace Go.Proofs.YtgfodedmcjkmaaaDoor
open Go.RowKit Go.Proofs.BitsM
/-- the reader goes on: the answer, what is left; all else is as it was -/
def Rt (R : Nat) (v : Value) (l : List UInt8) (d : Int) (w : World) (e : Ending) (w' : World) : Prop := e = .returned v ∧ Rb R l d w' ∧ Ch (fun b => b = R) w w'
/-- the reader has panicked: its box is still a box, all else is as it was -/
def Bad (R : Nat) (w : World) (e : Ending) (w' : World) : Prop := e = .panicked [{ v := .iface 53 (.agg #[]), recovered := false }] ∧ (∃ l d, Rb R l d w') ∧ Ch (fun b => b = R) w w'
theorem run_q (g : Nat) (q : UInt8 → Bool) (hg : Tells g q) (R : Nat) (l : List UInt8) (d : Int) (w : World) (hr : Rb R l d w) (hl : l.length ≤ 9223372036854775807) :
    Calls Tryd.prog 43 #[.pointer (some ⟨R, 0, none⟩), .func (.func g) #[] #[]] w (Rt R (.string (ba (l.takeWhile q))) (l.dropWhile q) d w) := by
  refine (run_any g q hg R l d w hr (by unfold maxLen; exact hl)).mono ?_
  rintro e w' ⟨rfl, rfl⟩
  exact ⟨rfl, hr.set, Ch.of_set w R 0 _⟩
theorem eatY (R : Nat) (l : List UInt8) (d : Int) (p : ByteArray) (w : World) (hr : Rb R l d w) (h : hp l (bl p) = true) :
    Calls Tryd.prog 54 #[.pointer (some ⟨R, 0, none⟩), .string p] w (Rt R (.bool true) (l.drop (bl p).length) d w) := by
  refine (eat_yes R l d p w hr h).mono ?_
  rintro e w' ⟨rfl, rfl⟩
  exact ⟨rfl, hr.set, Ch.of_set w R 0 _⟩
theorem mustY (R : Nat) (l l' : List UInt8) (d : Int) (p : ByteArray) (w : World) (hr : Rb R l d w) (h : pMust (bl p) l = some l') :
    Calls Tryd.prog 58 #[.pointer (some ⟨R, 0, none⟩), .string p] w (Rt R (.tuple #[]) l' d w) := by
  unfold pMust at h
  split at h
  · rename_i hh
    injection h with h
    subst h
    refine (must_yes R l d p w hr hh).mono ?_
    rintro e w' ⟨rfl, rfl⟩
    exact ⟨rfl, hr.set, Ch.of_set w R 0 _⟩
  · cases h
theorem mustN (R : Nat) (l : List UInt8) (d : Int) (p : ByteArray) (w : World) (hr : Rb R l d w) (h : pMust (bl p) l = none) :
    Calls Tryd.prog 58 #[.pointer (some ⟨R, 0, none⟩), .string p] w (Bad R w) := by
  unfold pMust at h
  split at h
  · cases h
  · rename_i hh
    refine (must_no R l d p w hr (by simpa using hh)).mono ?_
    rintro e w' ⟨rfl, rfl⟩
    exact ⟨rfl, ⟨_, _, hr⟩, Ch.refl _ _⟩
set_option maxHeartbeats 4000000 in
theorem int_some (R : Nat) (l : List UInt8) (d : Int) (x : Int × List UInt8) (w : World) (hr : Rb R l d w) (hl : l.length ≤ 9223372036854775807) (h : pInt l = some x) :
    Calls Tryd.prog 42 #[.pointer (some ⟨R, 0, none⟩)] w (Rt R (.int .i64 x.1) x.2 d w) := by
  obtain ⟨n, e, rfl⟩ : ∃ n, readN (l.takeWhile digC) = some n ∧ x = (n, l.dropWhile digC) := by
    unfold pInt at h
    simp only [Option.map_eq_some_iff] at h
    obtain ⟨n, e, h⟩ := h
    exact ⟨n, e, h.symm⟩
  have HE := Lib.hid e
  clear e h
  have hRw : R < w.heap.size := hr.lt
  have HF0 := Lib.hid (show Bq w [.blk R #[.string (ba (l)), .int .i64 d] 56, .base (fun b => b = R) w] from ⟨hr, Ch.refl _ _, trivial⟩)
  clear hr
  go_enter Tryd.func42, Tryd.ntmps42
  go_wp2_with fail
  refine (run_q _ digC tells_digit R l d _ (HF0.out.blk 0 rfl) hl).mono ?_
  rintro e w1 ⟨rfl, hr, ho⟩
  have HF1 := Lib.hid (HF0.out.call 0 ho hr (by refine ⟨?_, trivial⟩ <;> (simp only [Fq.apart]; first | omega | (intro b h1 h2; omega) | (intro b h1 h2 h3; omega))))
  have hz1 : w.heap.size ≤ w1.heap.size := by have := ho.size; first | omega | (simp at this; omega)
  clear HF0 ho hr
  go_wp2_with fail
  refine (Read_any _ _ (by have := tw_le digC l; omega)).mono ?_
  rintro e w2 ⟨⟨z, k, rfl, hzk⟩, hb⟩
  have HF2 := Lib.hid (HF1.out.below hb)
  clear HF1
  have hz2 : w1.heap.size ≤ w2.heap.size := by have := hb.size; first | omega | (simp at this; omega)
  clear hb
  obtain ⟨rfl, rfl⟩ : k = 0 ∧ z = n := by
    rcases hzk with ⟨h1, h2⟩ | ⟨_, h2⟩
    · rw [HE.out] at h2; exact ⟨h1, (Option.some.inj h2).symm⟩
    · rw [HE.out] at h2; cases h2
  clear hzk
  go_wp2_with fail
  go_ret
  exact ⟨rfl, (HF2.out.blk 0 rfl), (HF2.out.base 1 rfl)⟩
set_option maxHeartbeats 4000000 in
theorem int_none (R : Nat) (l : List UInt8) (d : Int) (w : World) (hr : Rb R l d w) (hl : l.length ≤ 9223372036854775807) (h : pInt l = none) :
    Calls Tryd.prog 42 #[.pointer (some ⟨R, 0, none⟩)] w (Bad R w) := by
  have e : readN (l.takeWhile digC) = none := by
    unfold pInt at h
    simpa using h
  have HE := Lib.hid e
  clear e h
  have hRw : R < w.heap.size := hr.lt
  have HF0 := Lib.hid (show Bq w [.blk R #[.string (ba (l)), .int .i64 d] 56, .base (fun b => b = R) w] from ⟨hr, Ch.refl _ _, trivial⟩)
  clear hr
  go_enter Tryd.func42, Tryd.ntmps42
  go_wp2_with fail
  refine (run_q _ digC tells_digit R l d _ (HF0.out.blk 0 rfl) hl).mono ?_
  rintro e w1 ⟨rfl, hr, ho⟩
  have HF1 := Lib.hid (HF0.out.call 0 ho hr (by refine ⟨?_, trivial⟩ <;> (simp only [Fq.apart]; first | omega | (intro b h1 h2; omega) | (intro b h1 h2 h3; omega))))
  have hz1 : w.heap.size ≤ w1.heap.size := by have := ho.size; first | omega | (simp at this; omega)
  clear HF0 ho hr
  go_wp2_with fail
  refine (Read_any _ _ (by have := tw_le digC l; omega)).mono ?_
  rintro e w2 ⟨⟨z, k, rfl, hzk⟩, hb⟩
  have HF2 := Lib.hid (HF1.out.below hb)
  clear HF1
  have hz2 : w1.heap.size ≤ w2.heap.size := by have := hb.size; first | omega | (simp at this; omega)
  clear hb
  have hk2 : (k != 0) = true := by
    rcases hzk with ⟨h1, h2⟩ | ⟨h1, _⟩
    · rw [HE.out] at h2; cases h2
    · simpa using h1
  clear hzk
  go_wp2_with fail
  exact ⟨rfl, rfl, ⟨_, _, (HF2.out.blk 0 rfl)⟩, (HF2.out.base 1 rfl)⟩
set_option maxHeartbeats 4000000 in
theorem marked_some (R : Nat) (l : List UInt8) (d : Int) (k : Int) (x : Fd × List UInt8) (w : World) (hr : Rb R l d w) (hl : l.length ≤ 9223372036854775807) (h : pMarked k l = some x) :
    Calls Tryd.prog 60 #[.pointer (some ⟨R, 0, none⟩), .int .i64 k] w (Rt R (.agg #[.int .i64 x.1.k, .int .i64 x.1.i, .int .i64 x.1.g, .string x.1.nm, .string x.1.fn, .int .i64 x.1.ar, .slice none 0 0, .string x.1.bs, .int .i64 x.1.n]) x.2 d w) := by
  unfold pMarked at h
  simp only [Option.bind_eq_some_iff] at h
  obtain ⟨s1, h1, g, h2, s3, h3, i, h4, h5⟩ := h
  injection h5 with h5
  subst h5
  have hl1 := dropW_len letC l
  have hl2 := (must_len h1).2
  have hl3 := int_len h2
  have hl4 := (must_len h3).2
  have H1 := Lib.hid h1
  have H2 := Lib.hid h2
  have H3 := Lib.hid h3
  have H4 := Lib.hid h4
  clear h1 h2 h3 h4
  have hRw : R < w.heap.size := hr.lt
  have HF0 := Lib.hid (show Bq w [.blk R #[.string (ba (l)), .int .i64 d] 56, .base (fun b => b = R) w] from ⟨hr, Ch.refl _ _, trivial⟩)
  clear hr
  go_enter Tryd.func60, Tryd.ntmps60
  go_wp2_with fail
  have HF1 := Lib.hid (HF0.out.box #[.int .i64 0, .int .i64 0, .int .i64 0, .string ⟨#[]⟩, .string ⟨#[]⟩, .int .i64 0, .slice none 0 0, .string ⟨#[]⟩, .int .i64 0] 24 (n := w.heap.size) (by rfl))
  clear HF0
  refine (run_q _ letC tells_letter R l d _ (HF1.out.blk 1 rfl) hl).mono ?_
  rintro e w1 ⟨rfl, hr, ho⟩
  have HF2 := Lib.hid (HF1.out.call 1 ho hr (by refine ⟨?_, ?_, trivial⟩ <;> (simp only [Fq.apart]; first | omega | (intro b h1 h2; omega) | (intro b h1 h2 h3; omega))))
  have hz1 : w.heap.size + 1 ≤ w1.heap.size := by have := ho.size; first | omega | (simp at this; omega)
  clear HF1 ho hr
  go_wp2_with fail
  have HF3 := Lib.hid (HF2.out.box #[.int .i64 (k), .int .i64 (0), .int .i64 (0), .string (spanN l), .string ⟨#[]⟩, .int .i64 0, .slice none 0 0, .string ⟨#[]⟩, .int .i64 0] 24 (n := w1.heap.size) (by rfl))
  clear HF2
  refine (mustY R _ s1 d ⟨#[46]⟩ _ (HF3.out.blk 1 rfl) H1.out).mono ?_
  rintro e w2 ⟨rfl, hr, ho⟩
  have HF4 := Lib.hid (HF3.out.call 1 ho hr (by refine ⟨?_, ?_, ?_, trivial⟩ <;> (simp only [Fq.apart]; first | omega | (intro b h1 h2; omega) | (intro b h1 h2 h3; omega))))
  have hz2 : w1.heap.size + 1 ≤ w2.heap.size := by have := ho.size; first | omega | (simp at this; omega)
  clear HF3 ho hr
  go_wp2_with fail
  refine (int_some R s1 d g _ (HF4.out.blk 0 rfl) (by omega) H2.out).mono ?_
  rintro e w3 ⟨rfl, hr, ho⟩
  have HF5 := Lib.hid (HF4.out.call 0 ho hr (by refine ⟨?_, ?_, ?_, trivial⟩ <;> (simp only [Fq.apart]; first | omega | (intro b h1 h2; omega) | (intro b h1 h2 h3; omega))))
  have hz3 : w2.heap.size ≤ w3.heap.size := by have := ho.size; first | omega | (simp at this; omega)
  clear HF4 ho hr
  obtain ⟨c0, c1, c2, c3, c4, c5, c6, c7, c8, fr⟩ := nine_cells (HF5.out.blk 1 rfl)
  go_wp2_with fail
  have HF6 := Lib.hid (HF5.out.set (c := [.int .i64 (k), .int .i64 (0), .int .i64 (0), .string (spanN l), .string ⟨#[]⟩, .int .i64 0, .slice none 0 0, .string ⟨#[]⟩, .int .i64 0]) 1 rfl 2 (.int .i64 (g.1)) (by refine ⟨?_, ?_, ?_, trivial⟩ <;> (simp only [Fq.apart]; first | omega | (intro b h1 h2; omega) | (intro b h1 h2 h3; omega))))
  clear HF5
  clear c0 c1 c2 c3 c4 c5 c6 c7 c8 fr
  refine (mustY R _ s3 d ⟨#[46]⟩ _ (HF6.out.blk 1 rfl) H3.out).mono ?_
  rintro e w4 ⟨rfl, hr, ho⟩
  have HF7 := Lib.hid (HF6.out.call 1 ho hr (by refine ⟨?_, ?_, ?_, trivial⟩ <;> (simp only [Fq.apart]; first | omega | (intro b h1 h2; omega) | (intro b h1 h2 h3; omega))))
  have hz4 : w3.heap.size ≤ w4.heap.size := by have := ho.size; first | omega | (simp at this; omega)
  clear HF6 ho hr
  go_wp2_with fail
  refine (int_some R s3 d i _ (HF7.out.blk 0 rfl) (by omega) H4.out).mono ?_
  rintro e w5 ⟨rfl, hr, ho⟩
  have HF8 := Lib.hid (HF7.out.call 0 ho hr (by refine ⟨?_, ?_, ?_, trivial⟩ <;> (simp only [Fq.apart]; first | omega | (intro b h1 h2; omega) | (intro b h1 h2 h3; omega))))
  have hz5 : w4.heap.size ≤ w5.heap.size := by have := ho.size; first | omega | (simp at this; omega)
  clear HF7 ho hr
  obtain ⟨c0, c1, c2, c3, c4, c5, c6, c7, c8, fr⟩ := nine_cells (HF8.out.blk 1 rfl)
  obtain ⟨d0, d1, d2, d3, d4, d5, d6, d7, d8, fs⟩ := nine_cells (HF8.out.blk 2 rfl)
  go_wp2_with fail
  have HF9 := Lib.hid (HF8.out.set (c := [.int .i64 (k), .int .i64 (0), .int .i64 (g.1), .string (spanN l), .string ⟨#[]⟩, .int .i64 0, .slice none 0 0, .string ⟨#[]⟩, .int .i64 0]) 1 rfl 1 (.int .i64 (i.1)) (by refine ⟨?_, ?_, ?_, trivial⟩ <;> (simp only [Fq.apart]; first | omega | (intro b h1 h2; omega) | (intro b h1 h2 h3; omega))))
  clear HF8
  have HF10 := Lib.hid (HF9.out.put 2 rfl (by refine ⟨?_, ?_, ?_, trivial⟩ <;> (simp only [Fq.apart]; first | omega | (intro b h1 h2; omega) | (intro b h1 h2 h3; omega))) (.int .i64 (k)) (.int .i64 (i.1)) (.int .i64 (g.1)) (.string (spanN l)) (.string ⟨#[]⟩) (.int .i64 0) (.slice none 0 0) (.string ⟨#[]⟩) (.int .i64 0))
  clear HF9
  refine bodyPost_ret (results_one rfl _ _ _ _ _ _ _ _ _ _ _ _ rfl (HF10.out.blk 0 rfl)) rfl ?_
  exact ⟨rfl, (HF10.out.blk 2 rfl), (HF10.out.base 3 rfl)⟩
set_option maxHeartbeats 4000000 in
theorem marked_none1 (R : Nat) (l : List UInt8) (d : Int) (k : Int) (w : World) (hr : Rb R l d w) (hl : l.length ≤ 9223372036854775807) (h1 : pMust [46] (l.dropWhile letC) = none) :
    Calls Tryd.prog 60 #[.pointer (some ⟨R, 0, none⟩), .int .i64 k] w (Bad R w) := by
  have hl1 := dropW_len letC l
  have H1 := Lib.hid h1
  clear h1
  have hRw : R < w.heap.size := hr.lt
  have HF0 := Lib.hid (show Bq w [.blk R #[.string (ba (l)), .int .i64 d] 56, .base (fun b => b = R) w] from ⟨hr, Ch.refl _ _, trivial⟩)
  clear hr
  go_enter Tryd.func60, Tryd.ntmps60
  go_wp2_with fail
  have HF1 := Lib.hid (HF0.out.box #[.int .i64 0, .int .i64 0, .int .i64 0, .string ⟨#[]⟩, .string ⟨#[]⟩, .int .i64 0, .slice none 0 0, .string ⟨#[]⟩, .int .i64 0] 24 (n := w.heap.size) (by rfl))
  clear HF0
  refine (run_q _ letC tells_letter R l d _ (HF1.out.blk 1 rfl) hl).mono ?_
  rintro e w1 ⟨rfl, hr, ho⟩
  have HF2 := Lib.hid (HF1.out.call 1 ho hr (by refine ⟨?_, ?_, trivial⟩ <;> (simp only [Fq.apart]; first | omega | (intro b h1 h2; omega) | (intro b h1 h2 h3; omega))))
  have hz1 : w.heap.size + 1 ≤ w1.heap.size := by have := ho.size; first | omega | (simp at this; omega)
  clear HF1 ho hr
  go_wp2_with fail
  have HF3 := Lib.hid (HF2.out.box #[.int .i64 (k), .int .i64 (0), .int .i64 (0), .string (spanN l), .string ⟨#[]⟩, .int .i64 0, .slice none 0 0, .string ⟨#[]⟩, .int .i64 0] 24 (n := w1.heap.size) (by rfl))
  clear HF2
  refine (mustN R _ d ⟨#[46]⟩ _ (HF3.out.blk 1 rfl) H1.out).mono ?_
  rintro e w9 ⟨rfl, ⟨l9, d9, hr⟩, ho⟩
  have HZ := Lib.hid (HF3.out.call 1 ho hr (by refine ⟨?_, ?_, ?_, trivial⟩ <;> (simp only [Fq.apart]; first | omega | (intro b h1 h2; omega) | (intro b h1 h2 h3; omega))))
  clear ho hr
  go_wp2_with fail
  exact ⟨rfl, rfl, ⟨_, _, (HZ.out.blk 0 rfl)⟩, (HZ.out.base 3 rfl)⟩
set_option maxHeartbeats 4000000 in
theorem marked_none2 (R : Nat) (l : List UInt8) (d : Int) (k : Int) (s1 : List UInt8) (w : World) (hr : Rb R l d w) (hl : l.length ≤ 9223372036854775807) (h1 : pMust [46] (l.dropWhile letC) = some s1) (h2 : pInt s1 = none) :
    Calls Tryd.prog 60 #[.pointer (some ⟨R, 0, none⟩), .int .i64 k] w (Bad R w) := by
  have hl1 := dropW_len letC l
  have hl2 := (must_len h1).2
  have H1 := Lib.hid h1
  have H2 := Lib.hid h2
  clear h1 h2
  have hRw : R < w.heap.size := hr.lt
  have HF0 := Lib.hid (show Bq w [.blk R #[.string (ba (l)), .int .i64 d] 56, .base (fun b => b = R) w] from ⟨hr, Ch.refl _ _, trivial⟩)
  clear hr
  go_enter Tryd.func60, Tryd.ntmps60
  go_wp2_with fail
  have HF1 := Lib.hid (HF0.out.box #[.int .i64 0, .int .i64 0, .int .i64 0, .string ⟨#[]⟩, .string ⟨#[]⟩, .int .i64 0, .slice none 0 0, .string ⟨#[]⟩, .int .i64 0] 24 (n := w.heap.size) (by rfl))
  clear HF0
  refine (run_q _ letC tells_letter R l d _ (HF1.out.blk 1 rfl) hl).mono ?_
  rintro e w1 ⟨rfl, hr, ho⟩
  have HF2 := Lib.hid (HF1.out.call 1 ho hr (by refine ⟨?_, ?_, trivial⟩ <;> (simp only [Fq.apart]; first | omega | (intro b h1 h2; omega) | (intro b h1 h2 h3; omega))))
  have hz1 : w.heap.size + 1 ≤ w1.heap.size := by have := ho.size; first | omega | (simp at this; omega)
  clear HF1 ho hr
  go_wp2_with fail
  have HF3 := Lib.hid (HF2.out.box #[.int .i64 (k), .int .i64 (0), .int .i64 (0), .string (spanN l), .string ⟨#[]⟩, .int .i64 0, .slice none 0 0, .string ⟨#[]⟩, .int .i64 0] 24 (n := w1.heap.size) (by rfl))
  clear HF2
  refine (mustY R _ s1 d ⟨#[46]⟩ _ (HF3.out.blk 1 rfl) H1.out).mono ?_
  rintro e w2 ⟨rfl, hr, ho⟩
  have HF4 := Lib.hid (HF3.out.call 1 ho hr (by refine ⟨?_, ?_, ?_, trivial⟩ <;> (simp only [Fq.apart]; first | omega | (intro b h1 h2; omega) | (intro b h1 h2 h3; omega))))
  have hz2 : w1.heap.size + 1 ≤ w2.heap.size := by have := ho.size; first | omega | (simp at this; omega)
  clear HF3 ho hr
  go_wp2_with fail
  refine (int_none R s1 d _ (HF4.out.blk 0 rfl) (by omega) H2.out).mono ?_
  rintro e w9 ⟨rfl, ⟨l9, d9, hr⟩, ho⟩
  have HZ := Lib.hid (HF4.out.call 0 ho hr (by refine ⟨?_, ?_, ?_, trivial⟩ <;> (simp only [Fq.apart]; first | omega | (intro b h1 h2; omega) | (intro b h1 h2 h3; omega))))
  clear ho hr
  go_wp2_with fail
  exact ⟨rfl, rfl, ⟨_, _, (HZ.out.blk 0 rfl)⟩, (HZ.out.base 3 rfl)⟩
set_option maxHeartbeats 4000000 in
theorem marked_none3 (R : Nat) (l : List UInt8) (d : Int) (k : Int) (s1 : List UInt8) (g : Int × List UInt8) (w : World) (hr : Rb R l d w) (hl : l.length ≤ 9223372036854775807) (h1 : pMust [46] (l.dropWhile letC) = some s1) (h2 : pInt s1 = some g) (h3 : pMust [46] g.2 = none) :
    Calls Tryd.prog 60 #[.pointer (some ⟨R, 0, none⟩), .int .i64 k] w (Bad R w) := by
  have hl1 := dropW_len letC l
  have hl2 := (must_len h1).2
  have hl3 := int_len h2
  have H1 := Lib.hid h1
  have H2 := Lib.hid h2
  have H3 := Lib.hid h3
  clear h1 h2 h3
  have hRw : R < w.heap.size := hr.lt
  have HF0 := Lib.hid (show Bq w [.blk R #[.string (ba (l)), .int .i64 d] 56, .base (fun b => b = R) w] from ⟨hr, Ch.refl _ _, trivial⟩)
  clear hr
  go_enter Tryd.func60, Tryd.ntmps60
  go_wp2_with fail
  have HF1 := Lib.hid (HF0.out.box #[.int .i64 0, .int .i64 0, .int .i64 0, .string ⟨#[]⟩, .string ⟨#[]⟩, .int .i64 0, .slice none 0 0, .string ⟨#[]⟩, .int .i64 0] 24 (n := w.heap.size) (by rfl))
  clear HF0
  refine (run_q _ letC tells_letter R l d _ (HF1.out.blk 1 rfl) hl).mono ?_
  rintro e w1 ⟨rfl, hr, ho⟩
  have HF2 := Lib.hid (HF1.out.call 1 ho hr (by refine ⟨?_, ?_, trivial⟩ <;> (simp only [Fq.apart]; first | omega | (intro b h1 h2; omega) | (intro b h1 h2 h3; omega))))
  have hz1 : w.heap.size + 1 ≤ w1.heap.size := by have := ho.size; first | omega | (simp at this; omega)
  clear HF1 ho hr
  go_wp2_with fail
  have HF3 := Lib.hid (HF2.out.box #[.int .i64 (k), .int .i64 (0), .int .i64 (0), .string (spanN l), .string ⟨#[]⟩, .int .i64 0, .slice none 0 0, .string ⟨#[]⟩, .int .i64 0] 24 (n := w1.heap.size) (by rfl))
  clear HF2
  refine (mustY R _ s1 d ⟨#[46]⟩ _ (HF3.out.blk 1 rfl) H1.out).mono ?_
  rintro e w2 ⟨rfl, hr, ho⟩
  have HF4 := Lib.hid (HF3.out.call 1 ho hr (by refine ⟨?_, ?_, ?_, trivial⟩ <;> (simp only [Fq.apart]; first | omega | (intro b h1 h2; omega) | (intro b h1 h2 h3; omega))))
  have hz2 : w1.heap.size + 1 ≤ w2.heap.size := by have := ho.size; first | omega | (simp at this; omega)
  clear HF3 ho hr
  go_wp2_with fail
  refine (int_some R s1 d g _ (HF4.out.blk 0 rfl) (by omega) H2.out).mono ?_
  rintro e w3 ⟨rfl, hr, ho⟩
  have HF5 := Lib.hid (HF4.out.call 0 ho hr (by refine ⟨?_, ?_, ?_, trivial⟩ <;> (simp only [Fq.apart]; first | omega | (intro b h1 h2; omega) | (intro b h1 h2 h3; omega))))
  have hz3 : w2.heap.size ≤ w3.heap.size := by have := ho.size; first | omega | (simp at this; omega)
  clear HF4 ho hr
  obtain ⟨c0, c1, c2, c3, c4, c5, c6, c7, c8, fr⟩ := nine_cells (HF5.out.blk 1 rfl)
  go_wp2_with fail
  have HF6 := Lib.hid (HF5.out.set (c := [.int .i64 (k), .int .i64 (0), .int .i64 (0), .string (spanN l), .string ⟨#[]⟩, .int .i64 0, .slice none 0 0, .string ⟨#[]⟩, .int .i64 0]) 1 rfl 2 (.int .i64 (g.1)) (by refine ⟨?_, ?_, ?_, trivial⟩ <;> (simp only [Fq.apart]; first | omega | (intro b h1 h2; omega) | (intro b h1 h2 h3; omega))))
  clear HF5
  clear c0 c1 c2 c3 c4 c5 c6 c7 c8 fr
  refine (mustN R _ d ⟨#[46]⟩ _ (HF6.out.blk 1 rfl) H3.out).mono ?_
  rintro e w9 ⟨rfl, ⟨l9, d9, hr⟩, ho⟩
  have HZ := Lib.hid (HF6.out.call 1 ho hr (by refine ⟨?_, ?_, ?_, trivial⟩ <;> (simp only [Fq.apart]; first | omega | (intro b h1 h2; omega) | (intro b h1 h2 h3; omega))))
  clear ho hr
  go_wp2_with fail
  exact ⟨rfl, rfl, ⟨_, _, (HZ.out.blk 0 rfl)⟩, (HZ.out.base 3 rfl)⟩
set_option maxHeartbeats 4000000 in
theorem marked_none4 (R : Nat) (l : List UInt8) (d : Int) (k : Int) (s1 : List UInt8) (g : Int × List UInt8) (s3 : List UInt8) (w : World) (hr : Rb R l d w) (hl : l.length ≤ 9223372036854775807) (h1 : pMust [46] (l.dropWhile letC) = some s1) (h2 : pInt s1 = some g) (h3 : pMust [46] g.2 = some s3) (h4 : pInt s3 = none) :
    Calls Tryd.prog 60 #[.pointer (some ⟨R, 0, none⟩), .int .i64 k] w (Bad R w) := by
  have hl1 := dropW_len letC l
  have hl2 := (must_len h1).2
  have hl3 := int_len h2
  have hl4 := (must_len h3).2
  have H1 := Lib.hid h1
  have H2 := Lib.hid h2
  have H3 := Lib.hid h3
  have H4 := Lib.hid h4
  clear h1 h2 h3 h4
  have hRw : R < w.heap.size := hr.lt
  have HF0 := Lib.hid (show Bq w [.blk R #[.string (ba (l)), .int .i64 d] 56, .base (fun b => b = R) w] from ⟨hr, Ch.refl _ _, trivial⟩)
  clear hr
  go_enter Tryd.func60, Tryd.ntmps60
  go_wp2_with fail
  have HF1 := Lib.hid (HF0.out.box #[.int .i64 0, .int .i64 0, .int .i64 0, .string ⟨#[]⟩, .string ⟨#[]⟩, .int .i64 0, .slice none 0 0, .string ⟨#[]⟩, .int .i64 0] 24 (n := w.heap.size) (by rfl))
  clear HF0
  refine (run_q _ letC tells_letter R l d _ (HF1.out.blk 1 rfl) hl).mono ?_
  rintro e w1 ⟨rfl, hr, ho⟩
  have HF2 := Lib.hid (HF1.out.call 1 ho hr (by refine ⟨?_, ?_, trivial⟩ <;> (simp only [Fq.apart]; first | omega | (intro b h1 h2; omega) | (intro b h1 h2 h3; omega))))
  have hz1 : w.heap.size + 1 ≤ w1.heap.size := by have := ho.size; first | omega | (simp at this; omega)
  clear HF1 ho hr
  go_wp2_with fail
  have HF3 := Lib.hid (HF2.out.box #[.int .i64 (k), .int .i64 (0), .int .i64 (0), .string (spanN l), .string ⟨#[]⟩, .int .i64 0, .slice none 0 0, .string ⟨#[]⟩, .int .i64 0] 24 (n := w1.heap.size) (by rfl))
  clear HF2
  refine (mustY R _ s1 d ⟨#[46]⟩ _ (HF3.out.blk 1 rfl) H1.out).mono ?_
  rintro e w2 ⟨rfl, hr, ho⟩
  have HF4 := Lib.hid (HF3.out.call 1 ho hr (by refine ⟨?_, ?_, ?_, trivial⟩ <;> (simp only [Fq.apart]; first | omega | (intro b h1 h2; omega) | (intro b h1 h2 h3; omega))))
  have hz2 : w1.heap.size + 1 ≤ w2.heap.size := by have := ho.size; first | omega | (simp at this; omega)
  clear HF3 ho hr
  go_wp2_with fail
  refine (int_some R s1 d g _ (HF4.out.blk 0 rfl) (by omega) H2.out).mono ?_
  rintro e w3 ⟨rfl, hr, ho⟩
  have HF5 := Lib.hid (HF4.out.call 0 ho hr (by refine ⟨?_, ?_, ?_, trivial⟩ <;> (simp only [Fq.apart]; first | omega | (intro b h1 h2; omega) | (intro b h1 h2 h3; omega))))
  have hz3 : w2.heap.size ≤ w3.heap.size := by have := ho.size; first | omega | (simp at this; omega)
  clear HF4 ho hr
  obtain ⟨c0, c1, c2, c3, c4, c5, c6, c7, c8, fr⟩ := nine_cells (HF5.out.blk 1 rfl)
  go_wp2_with fail
  have HF6 := Lib.hid (HF5.out.set (c := [.int .i64 (k), .int .i64 (0), .int .i64 (0), .string (spanN l), .string ⟨#[]⟩, .int .i64 0, .slice none 0 0, .string ⟨#[]⟩, .int .i64 0]) 1 rfl 2 (.int .i64 (g.1)) (by refine ⟨?_, ?_, ?_, trivial⟩ <;> (simp only [Fq.apart]; first | omega | (intro b h1 h2; omega) | (intro b h1 h2 h3; omega))))
  clear HF5
  clear c0 c1 c2 c3 c4 c5 c6 c7 c8 fr
  refine (mustY R _ s3 d ⟨#[46]⟩ _ (HF6.out.blk 1 rfl) H3.out).mono ?_
  rintro e w4 ⟨rfl, hr, ho⟩
  have HF7 := Lib.hid (HF6.out.call 1 ho hr (by refine ⟨?_, ?_, ?_, trivial⟩ <;> (simp only [Fq.apart]; first | omega | (intro b h1 h2; omega) | (intro b h1 h2 h3; omega))))
  have hz4 : w3.heap.size ≤ w4.heap.size := by have := ho.size; first | omega | (simp at this; omega)
  clear HF6 ho hr
  go_wp2_with fail
  refine (int_none R s3 d _ (HF7.out.blk 0 rfl) (by omega) H4.out).mono ?_
  rintro e w9 ⟨rfl, ⟨l9, d9, hr⟩, ho⟩
  have HZ := Lib.hid (HF7.out.call 0 ho hr (by refine ⟨?_, ?_, ?_, trivial⟩ <;> (simp only [Fq.apart]; first | omega | (intro b h1 h2; omega) | (intro b h1 h2 h3; omega))))
  clear ho hr
  go_wp2_with fail
  exact ⟨rfl, rfl, ⟨_, _, (HZ.out.blk 0 rfl)⟩, (HZ.out.base 3 rfl)⟩
theorem marked_none (R : Nat) (l : List UInt8) (d : Int) (k : Int) (w : World) (hr : Rb R l d w) (hl : l.length ≤ 9223372036854775807) (h : pMarked k l = none) :
    Calls Tryd.prog 60 #[.pointer (some ⟨R, 0, none⟩), .int .i64 k] w (Bad R w) := by
  unfold pMarked at h
  cases h1 : pMust [46] (l.dropWhile letC) with
  | none => exact marked_none1 R l d k w hr hl h1
  | some s1 =>
    rw [h1, Option.bind_some] at h
    cases h2 : pInt s1 with
    | none => exact marked_none2 R l d k s1 w hr hl h1 h2
    | some g =>
      rw [h2, Option.bind_some] at h
      cases h3 : pMust [46] g.2 with
      | none => exact marked_none3 R l d k s1 g w hr hl h1 h2 h3
      | some s3 =>
        rw [h3, Option.bind_some] at h
        cases h4 : pInt s3 with
        | none => exact marked_none4 R l d k s1 g s3 w hr hl h1 h2 h3 h4
        | some i => rw [h4, Option.bind_some] at h; cases h
end Go.Proofs.YtgfodedmcjkmaaaDoor
