/-
  Walks: names: the reference's Name.
-/
import Derived.Test.YtmcnhggpmlhgeaaGreatDoorBase
import Derived.Test.YtmcnhggpmlhgeaaGreatDoorSteps
import Derived.Test.YtmcnhggpmlhgeaaGreatDoorBitsMath
namespace Go.Proofs.YtmcnhggpmlhgeaaGreatDoor
open Go.RowKit Go.Proofs.BitsM
def lowC (c : Nat) : Bool := decide (97 ≤ c) && decide (c ≤ 122)
def okC (c : Nat) : Bool := lowC c || (decide (65 ≤ c) && decide (c ≤ 90)) || (decide (48 ≤ c) && decide (c ≤ 57)) || decide (c = 95) || decide (c = 64)
def nameTo (s : ByteArray) : Nat → Bool
  | 0 => true
  | k + 1 => nameTo s k && (decide (k = 0) || okC (byteAt s k))
/-- a valid name -/
def nameB (s : ByteArray) : Bool := decide (1 ≤ s.size) && decide (s.size ≤ 32) && lowC (byteAt s 0) && nameTo s s.size
theorem nameTo_false (s : ByteArray) (k : Nat) (h : nameTo s k = false) : ∀ j, k ≤ j → nameTo s j = false
  | 0, hj => by have : k = 0 := by omega
                subst this; exact h
  | j + 1, hj => by
    rcases Nat.lt_or_ge j k with h1 | h1
    · have : k = j + 1 := by omega
      subst this; exact h
    · rw [nameTo, nameTo_false s k h j h1, Bool.false_and]
set_option maxHeartbeats 4000000 in
theorem Name_any (s : ByteArray) (hs : s.size ≤ maxLen) (w : World) :
    Calls Tryz.prog 44 #[.string s] w fun e w' => e = .returned (.bool (nameB s)) ∧ w = w' := by
  unfold maxLen at hs
  by_cases h1 : 1 ≤ s.size ∧ s.size ≤ 32
  case neg =>
    have hfin := Lib.hid (show nameB s = false by
      unfold nameB
      by_cases q : 1 ≤ s.size
      · have q2 : ¬ s.size ≤ 32 := fun e => h1 ⟨q, e⟩
        simp [q2]
      · simp [q])
    rcases Nat.eq_zero_or_pos s.size with h0 | h0
    · have l1 : (s.size : Int) < 1 := by omega
      clear h0 h1
      go_enter Tryz.func44, Tryz.ntmps44
      go_wp2_with fail
      go_ret
      exact ⟨by rw [hfin.out]; rfl, rfl⟩
    · have l1 : ¬ (s.size : Int) < 1 := by omega
      have l2 : (32 : Int) < (s.size : Int) := by omega
      clear h1
      go_enter Tryz.func44, Tryz.ntmps44
      go_wp2_with fail
      go_ret
      exact ⟨by rw [hfin.out]; rfl, rfl⟩
  case pos =>
    obtain ⟨h1, h2⟩ := h1
    have l1 : ¬ (s.size : Int) < 1 := by omega
    have l2 : ¬ (32 : Int) < (s.size : Int) := by omega
    have hb0 := byteAt_eq (s := s) (k := 0) (by omega)
    by_cases hlow : 97 ≤ (s[0]'(by omega)).toNat ∧ (s[0]'(by omega)).toNat ≤ 122
    · obtain ⟨a1, a2⟩ := hlow
      have a1' : (97 : Int) ≤ ((s[0]'(by omega)).toNat : Int) := by omega
      have a2' : ((s[0]'(by omega)).toNat : Int) ≤ 122 := by omega
      have hlc := Lib.hid (show lowC (byteAt s 0) = true by rw [← hb0]; simp [lowC, a1, a2])
      clear hb0 a1 a2
      go_enter Tryz.func44, Tryz.ntmps44
      go_wp2_with fail
      all_goals (try (exfalso; omega))
      go_loop [3] (fun i => ∃ k : Nat, 1 ≤ k ∧ k ≤ s.size ∧ i = .int .i64 k ∧ Hid (nameTo s k = true)) (fun i => s.size - (intOf i).toNat)
      case atStart => exact ⟨1, by omega, h1, rfl, Lib.hid (by simp [nameTo])⟩
      case round =>
        obtain ⟨k, hk1, hk, rfl, HE⟩ := hrel
        clear a1' a2'
        by_cases hlt : k < s.size
        · have hlt' : (k : Int) < (s.size : Int) := by omega
          have hbk := byteAt_eq (s := s) (k := k) hlt
          by_cases hok : okC (byteAt s k) = true
          · have hnext := Lib.hid (show nameTo s (k + 1) = true by rw [nameTo, HE.out, hok]; simp)
            rw [← hbk] at hok
            simp only [okC, lowC, Bool.or_eq_true, Bool.and_eq_true, decide_eq_true_eq] at hok
            clear hbk
            by_cases q1 : s[k].toNat = 95
            · have x1 : (95 : Int) ≤ (s[k].toNat : Int) := by omega
              have x2 : (s[k].toNat : Int) ≤ 95 := by omega
              have x3 : ((s[k].toNat : Int) != 95) = false := by simp [q1]
              clear q1 hok
              go_wp2_with fail
              all_goals (try (exfalso; omega))
              all_goals
                go_round
                case rel => exact ⟨k + 1, by omega, by omega, by go_num, hnext⟩
                case measure => simp [intOf]; omega
            · by_cases q2 : s[k].toNat = 64
              · have x1 : (64 : Int) ≤ (s[k].toNat : Int) := by omega
                have x2 : (s[k].toNat : Int) ≤ 64 := by omega
                have x3 : ((s[k].toNat : Int) != 64) = false := by simp [q2]
                have x4 : ((s[k].toNat : Int) != 95) = true := by simp [q2]
                clear q1 q2 hok
                go_wp2_with fail
                all_goals (try (exfalso; omega))
                all_goals
                  go_round
                  case rel => exact ⟨k + 1, by omega, by omega, by go_num, hnext⟩
                  case measure => simp [intOf]; omega
              · have hok2 : ((97 : Int) ≤ (s[k].toNat : Int) ∧ (s[k].toNat : Int) ≤ 122) ∨ ((65 : Int) ≤ (s[k].toNat : Int) ∧ (s[k].toNat : Int) ≤ 90) ∨ ((48 : Int) ≤ (s[k].toNat : Int) ∧ (s[k].toNat : Int) ≤ 57) := by omega
                clear q1 q2 hok
                rcases hok2 with ⟨x1, x2⟩ | ⟨x1, x2⟩ | ⟨x1, x2⟩
                all_goals
                  go_wp2_with fail
                  all_goals (try (exfalso; omega))
                  all_goals
                    go_round
                    case rel => exact ⟨k + 1, by omega, by omega, by go_num, hnext⟩
                    case measure => simp [intOf]; omega
          · have hfin := Lib.hid (show nameB s = false by
              have : nameTo s (k + 1) = false := by
                rw [nameTo]
                have hk0 : ¬ k = 0 := by omega
                simp [hok, hk0]
              unfold nameB
              rw [nameTo_false s (k + 1) this s.size (by omega), Bool.and_false])
            rw [← hbk] at hok
            simp only [okC, lowC, Bool.or_eq_true, Bool.and_eq_true, decide_eq_true_eq] at hok
            clear hbk
            have x1 : ((s[k].toNat : Int) != 95) = true := by simp; omega
            have x2 : ((s[k].toNat : Int) != 64) = true := by simp; omega
            have x3 : ¬ ((97 : Int) ≤ (s[k].toNat : Int) ∧ (s[k].toNat : Int) ≤ 122) := by omega
            have x4 : ¬ ((65 : Int) ≤ (s[k].toNat : Int) ∧ (s[k].toNat : Int) ≤ 90) := by omega
            have x5 : ¬ ((48 : Int) ≤ (s[k].toNat : Int) ∧ (s[k].toNat : Int) ≤ 57) := by omega
            have X3 := Lib.hid x3
            have X4 := Lib.hid x4
            have X5 := Lib.hid x5
            clear hok x3 x4 x5
            go_wp2_with fail
            all_goals (try (exfalso; have := X3.out; have := X4.out; have := X5.out; omega))
            all_goals
              go_ret
              exact ⟨by rw [hfin.out]; rfl, rfl⟩
        · obtain rfl : k = s.size := by omega
          have hlt' : ¬ (s.size : Int) < (s.size : Int) := by omega
          have hfin := Lib.hid (show nameB s = true by unfold nameB; rw [hlc.out, HE.out]; simp [h1, h2])
          go_wp2_with fail
          go_ret
          exact ⟨by rw [hfin.out]; rfl, rfl⟩
    · have hfin := Lib.hid (show nameB s = false by
        unfold nameB
        rw [show lowC (byteAt s 0) = false by
          rw [← hb0]; unfold lowC
          rw [Bool.eq_false_iff]
          intro e
          simp only [Bool.and_eq_true, decide_eq_true_eq] at e
          exact hlow e]
        simp)
      have hl2 : ((s[0]'(by omega)).toNat : Int) < 97 ∨ ((97 : Int) ≤ ((s[0]'(by omega)).toNat : Int) ∧ (122 : Int) < ((s[0]'(by omega)).toNat : Int)) := by omega
      clear hlow hb0
      rcases hl2 with x1 | ⟨x1, x2⟩
      all_goals
        go_enter Tryz.func44, Tryz.ntmps44
        go_wp2_with fail
        all_goals (try (exfalso; omega))
        all_goals
          go_ret
          exact ⟨by rw [hfin.out]; rfl, rfl⟩
end Go.Proofs.YtmcnhggpmlhgeaaGreatDoor
