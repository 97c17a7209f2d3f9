/-
  Walks: the reference: Text.
-/
import Derived.Test.YtmcnhggpmlhgeaaGreatDoorRfb
import Derived.Test.YtmcnhggpmlhgeaaGreatDoorLwP
namespace Go.Proofs.YtmcnhggpmlhgeaaGreatDoor
open Go.RowKit
set_option maxRecDepth 100000 in
set_option maxHeartbeats 8000000 in
theorem Text_r_e (k : Int) (tx : List UInt8) (n : Nat) (pos : Int) (w : World) (h3 : k ≠ 3) (h4 : k ≠ 4) :
    Calls Tryz.prog 37 #[.agg #[.int .i64 k, .string (ba tx), .int .u64 (n : Int), .int .i64 pos]] w fun e w' => e = .returned (.string (ba tx)) ∧ Below w.heap.size w w' := by
  have x3 : (k == 3) = false := by simp; omega
  have x4 : ¬ k = 4 := h4
  clear h3 h4
  go_enter Tryz.func37, Tryz.ntmps37
  go_wp2_with fail
  go_ret
  exact ⟨rfl, below_alloc _ _⟩
set_option maxRecDepth 100000 in
set_option maxHeartbeats 8000000 in
theorem Text_r_3 (k : Int) (tx : List UInt8) (n : Nat) (pos : Int) (w : World) (hk : k = 3) (hn : n ≤ 9223372036854775808) :
    Calls Tryz.prog 37 #[.agg #[.int .i64 k, .string (ba tx), .int .u64 (n : Int), .int .i64 pos]] w fun e w' => e = .returned (.string (ba (Lib.decDigits n))) ∧ Below w.heap.size w w' := by
  have x3 : (k == 3) = true := by simp; omega
  clear hk
  obtain ⟨DN, hDN⟩ : ∃ DN, Lib.decDigits n = DN := ⟨_, rfl⟩
  rw [hDN]
  have HD := Lib.hid hDN
  clear hDN
  have hcv := conv_one
  have HCV := Lib.hid hcv
  clear hcv
  have HW0 := Lib.hid (below_alloc w (.cells #[.int .i64 k, .string (ba tx), .int .u64 (n : Int), .int .i64 pos] 36 (0, 0)))
  go_enter Tryz.func37, Tryz.ntmps37
  go_wp2_with fail
  go_loopw [3, 4] (fun vn vo wr => ∃ (v : Nat) (acc : List UInt8), vn = .int .u64 v ∧ vo = .string (ba acc) ∧ 9 * acc.length + v ≤ n ∧ Hid (Lib.decDigits v ++ acc = DN) ∧ Hid (Below w.heap.size w wr)) (fun vn _ _ => (intOf vn).toNat)
  case atStart => exact ⟨n, [], rfl, rfl, by simp, Lib.hid (by rw [List.append_nil]; exact HD.out), HW0⟩
  case round =>
    obtain ⟨v, acc, rfl, rfl, hac, HQ, HW⟩ := hrel
    clear HW0 HD
    have hcv := fun c => HCV.out wr c
    have hac2 : (ba acc).size = acc.length := ba_size _
    have y1 : ¬ 9223372036854775807 < 1 + acc.length := by omega
    obtain ⟨c, hc⟩ : ∃ c, UInt8.ofNat (48 + v % 10) = c := ⟨_, rfl⟩
    have HC := Lib.hid hc
    obtain ⟨m, hm⟩ : ∃ m, v % 10 = m := ⟨_, rfl⟩
    have hmv : v = m + 10 * (v / 10) := by omega
    have hct : c.toNat = 48 + m := by rw [← hc, UInt8.toNat_ofNat', Nat.mod_eq_of_lt (by omega)]; omega
    have y2 : (v : Int) % 10 = (m : Int) := by omega
    have y4 : m < 10 := by omega
    have y3 : 48 + (m : Int) = (c.toNat : Int) := by omega
    have y5 : IntKind.u8.wrap (c.toNat : Int) = (c.toNat : Int) := by have h256 : c.toNat < 256 := c.toNat_lt; simp [IntKind.wrap, IntKind.bits, IntKind.signed]; omega
    have y6 : IntKind.u64.wrap (c.toNat : Int) = (c.toNat : Int) := by have h256 : c.toNat < 256 := c.toNat_lt; simp [IntKind.wrap, IntKind.bits, IntKind.signed]; omega
    have HM := Lib.hid hmv
    clear hct hc hm hmv
    by_cases h10 : v < 10
    · have h0 : ((v : Int) / 10 == 0) = true := by simp; omega
      have HE := Lib.hid (show c :: acc = DN from by have h := HQ.out; rw [dec_small h10, show 48 + v = 48 + v % 10 by omega, HC.out] at h; exact h)
      go_wp2_with fail
      go_ret
      refine ⟨?_, balloc HW.out _⟩
      rw [← HE.out]
      exact congrArg (fun z => Ending.returned (.string z)) (ba_app2 [c] acc)
    · obtain ⟨q, hq⟩ : ∃ q, v / 10 = q := ⟨_, rfl⟩
      have h0 : ((v : Int) / 10 == 0) = false := by simp; omega
      have hq2 : (v : Int) / 10 = (q : Int) := by omega
      have h02 : ((q : Int) == 0) = false := by simp; omega
      have HE := Lib.hid (show Lib.decDigits q ++ (c :: acc) = DN from by have h := HQ.out; rw [dec_big h10, HC.out, hq, List.append_assoc] at h; exact h)
      go_wp2_with fail
      go_roundw
      case rel => exact ⟨q, c :: acc, by go_num, congrArg Value.string (ba_app2 [c] acc), by rw [List.length_cons]; omega, HE, Lib.hid (balloc HW.out _)⟩
      case measure => simp only [intOf]; omega
theorem escT_app (a b : List UInt8) : escT (a ++ b) = escT a ++ escT b := by
  induction a with
  | nil => rfl
  | cons c r ih =>
    rw [List.cons_append, escT, escT]
    split
    · rw [ih]; rfl
    · split
      · rw [ih]; rfl
      · rw [ih]; rfl
/-- what the loop of Text has written at place P -/
def EscA (tx acc : List UInt8) (P : Nat) : Prop := acc = 34 :: escT (tx.take P)
theorem EscA.self {tx acc : List UInt8} {P : Nat} (h : EscA tx acc P) (hP : P < tx.length) {c : UInt8} (hc : tx[P] = c) (h1 : c.toNat = 92 ∨ c.toNat = 34) : EscA tx (acc ++ [92] ++ [c]) (P + 1) := by
  unfold EscA at *
  rw [List.take_succ_eq_append_getElem hP, hc, escT_app, h, escT, if_pos h1]; simp [escT]
theorem EscA.line {tx acc : List UInt8} {P : Nat} (h : EscA tx acc P) (hP : P < tx.length) {c : UInt8} (hc : tx[P] = c) (h0 : ¬ (c.toNat = 92 ∨ c.toNat = 34)) (h1 : c.toNat = 10) : EscA tx (acc ++ [92, 110]) (P + 1) := by
  unfold EscA at *
  rw [List.take_succ_eq_append_getElem hP, hc, escT_app, h, escT, if_neg h0, if_pos h1]; simp [escT]
theorem EscA.plain {tx acc : List UInt8} {P : Nat} (h : EscA tx acc P) (hP : P < tx.length) {c : UInt8} (hc : tx[P] = c) (h0 : ¬ (c.toNat = 92 ∨ c.toNat = 34)) (h1 : ¬ c.toNat = 10) : EscA tx (acc ++ [c]) (P + 1) := by
  unfold EscA at *
  rw [List.take_succ_eq_append_getElem hP, hc, escT_app, h, escT, if_neg h0, if_neg h1]; simp [escT]
theorem EscA.done {tx acc : List UInt8} {P : Nat} (h : EscA tx acc P) (hP : P = tx.length) : acc ++ [34] = 34 :: (escT tx ++ [34]) := by
  unfold EscA at h
  rw [h, hP, List.take_length]; rfl
set_option maxRecDepth 100000 in
set_option maxHeartbeats 8000000 in
theorem Text_r_4 (k : Int) (tx : List UInt8) (n : Nat) (pos : Int) (w : World) (hk : k = 4) (hl : tx.length ≤ 1000000) :
    Calls Tryz.prog 37 #[.agg #[.int .i64 k, .string (ba tx), .int .u64 (n : Int), .int .i64 pos]] w fun e w' => e = .returned (.string (ba (34 :: (escT tx ++ [34])))) ∧ Below w.heap.size w w' := by
  have x3 : (k == 3) = false := by simp; omega
  subst hk
  have HR := Lib.hid fun (acc : List UInt8) (h : EscA tx acc tx.length) => h.done rfl
  generalize 34 :: (escT tx ++ [34]) = R at HR ⊢
  have s1 : ((ba tx).size : Int) = (tx.length : Int) := by rw [ba_size]
  have s2 : (ba tx).size = tx.length := by rw [ba_size]
  have hcv := conv_one
  have HCV := Lib.hid hcv
  clear hcv
  go_enter Tryz.func37, Tryz.ntmps37
  have HB0 := Lib.hid (heap_alloc_new w (.cells #[.int .i64 4, .string (ba tx), .int .u64 (n : Int), .int .i64 pos] 36 (0, 0)))
  have HW0 := Lib.hid (below_alloc w (.cells #[.int .i64 4, .string (ba tx), .int .u64 (n : Int), .int .i64 pos] 36 (0, 0)))
  have hz0 : (w.alloc (.cells #[.int .i64 4, .string (ba tx), .int .u64 (n : Int), .int .i64 pos] 36 (0, 0))).heap.size = w.heap.size + 1 := World.size_alloc _ _
  have HZ0 := Lib.hid hz0
  clear hz0
  go_wp2_with fail
  generalize w.alloc (.cells #[.int .i64 4, .string (ba tx), .int .u64 (n : Int), .int .i64 pos] 36 (0, 0)) = w1 at HB0 HW0 HZ0 ⊢
  go_loopw [5, 6] (fun vo vk wr => ∃ (P : Nat) (acc : List UInt8), vk = .int .i64 P ∧ vo = .string (ba acc) ∧ P ≤ tx.length ∧ acc.length ≤ 2 * P + 1 ∧ Hid (EscA tx acc P) ∧ Hid (Below w1.heap.size w1 wr)) (fun _ vk _ => tx.length - (intOf vk).toNat)
  case atStart => exact ⟨0, [34], rfl, rfl, Nat.zero_le _, by simp, Lib.hid rfl, Lib.hid (Below.refl _ _)⟩
  case round =>
    obtain ⟨P, acc, rfl, rfl, hP, hac, HQ, HW⟩ := hrel
    obtain ⟨c0, c1, c2, c3, -⟩ := four_cells ((HW.out.block w.heap.size (by rw [HZ0.out]; omega)).trans HB0.out)
    have hcv := fun c => HCV.out wr c
    have hac2 : (ba acc).size = acc.length := ba_size _
    have y1 : ¬ 9223372036854775807 < acc.length + 1 := by omega
    have y2 : ¬ 9223372036854775807 < acc.length + 1 + 1 := by omega
    have y3 : ¬ 9223372036854775807 < acc.length + 2 := by omega
    by_cases hkl : P < tx.length
    · have x1 : (P : Int) < (tx.length : Int) := by omega
      have hks : P < (ba tx).size := by rw [ba_size]; exact hkl
      obtain ⟨c, hc, hcs⟩ : ∃ c, (ba tx)[P]'hks = c ∧ tx[P]'hkl = c := ⟨_, rfl, rfl⟩
      have HCS := Lib.hid hcs
      clear hcs
      by_cases hsel : c.toNat = 92 ∨ c.toNat = 34
      · have HE := Lib.hid (HQ.out.self hkl HCS.out hsel)
        by_cases h92 : c.toNat = 92
        · have z92 : ((c.toNat : Int) == 92) = true := by simp; omega
          clear hsel h92
          go_wp2_with fail
          go_roundw
          case rel => exact ⟨P + 1, acc ++ [92] ++ [c], by go_num, by rw [← ba_app2, ← ba_app2] <;> rfl, by omega, by simp; omega, HE, Lib.hid (balloc HW.out _)⟩
          case measure => simp only [intOf]; omega
        · have z92 : ((c.toNat : Int) == 92) = false := by simp; omega
          have z34 : ((c.toNat : Int) == 34) = true := by simp; omega
          clear hsel h92
          go_wp2_with fail
          go_roundw
          case rel => exact ⟨P + 1, acc ++ [92] ++ [c], by go_num, by rw [← ba_app2, ← ba_app2] <;> rfl, by omega, by simp; omega, HE, Lib.hid (balloc HW.out _)⟩
          case measure => simp only [intOf]; omega
      · have z92 : ((c.toNat : Int) == 92) = false := by simp; omega
        have z34 : ((c.toNat : Int) == 34) = false := by simp; omega
        by_cases h10 : c.toNat = 10
        · have HE := Lib.hid (HQ.out.line hkl HCS.out hsel h10)
          have z10 : ((c.toNat : Int) == 10) = true := by simp; omega
          clear hsel h10
          go_wp2_with fail
          go_roundw
          case rel => exact ⟨P + 1, acc ++ [92, 110], by go_num, by rw [← ba_app2] <;> rfl, by omega, by simp; omega, HE, HW⟩
          case measure => simp only [intOf]; omega
        · have HE := Lib.hid (HQ.out.plain hkl HCS.out hsel h10)
          have z10 : ((c.toNat : Int) == 10) = false := by simp; omega
          clear hsel h10
          go_wp2_with fail
          go_roundw
          case rel => exact ⟨P + 1, acc ++ [c], by go_num, by rw [← ba_app2] <;> rfl, by omega, by simp; omega, HE, Lib.hid (balloc HW.out _)⟩
          case measure => simp only [intOf]; omega
    · have x1 : ¬ (P : Int) < (tx.length : Int) := by omega
      have HE := Lib.hid (HR.out acc (by have h := HQ.out; rw [show P = tx.length by omega] at h; exact h))
      go_wp2_with fail
      go_ret
      exact ⟨by rw [← HE.out, ← ba_app2] <;> rfl, HW0.out.trans (HW.out.mono (by rw [HZ0.out]; omega))⟩
theorem Text_r (t : Tok) (w : World) (hl : t.tx.length ≤ 1000000) (hn : t.n ≤ 9223372036854775808) :
    Calls Tryz.prog 37 #[.agg #[.int .i64 t.k, .string (ba t.tx), .int .u64 (t.n : Int), .int .i64 t.pos]] w fun e w' => e = .returned (.string (ba (textTk t))) ∧ Below w.heap.size w w' := by
  obtain ⟨k, tx, n, pos⟩ := t
  unfold textTk
  by_cases h3 : k = 3
  · rw [if_pos h3]; exact Text_r_3 k tx n pos w h3 hn
  · rw [if_neg h3]
    by_cases h4 : k = 4
    · rw [if_pos h4]; exact Text_r_4 k tx n pos w h4 hl
    · rw [if_neg h4]; exact Text_r_e k tx n pos w h3 h4
end Go.Proofs.YtmcnhggpmlhgeaaGreatDoor
