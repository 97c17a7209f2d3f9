/-
  Walks: names: the program's Valid (a range over a string).
-/
import Derived.Test.YtmcnhggpmlhgeaaGreatDoorName
import Derived.Laws.RangeAny
import Derived.Lib.OthersKept
namespace Go.Proofs.YtmcnhggpmlhgeaaGreatDoor
open Go.RowKit Go.Proofs.BitsM
theorem iterPos_of {w : World} {k : Nat} {s : ByteArray} {p : Nat} (h : w.heap[k]? = some (.stringIter s p)) : w.iterPos k = p := by simp [World.iterPos, h]
/-- the next rune: a byte below 128, or something of 128 or more -/
theorem next_two (w : World) (k : Nat) (s : ByteArray) (pos : Nat) (hk : w.heap[k]? = some (.stringIter s pos)) (h : pos < s.size) :
    ∃ c q : Nat, (∀ ty, (Instr.next (.pointer (some ⟨k, 0, none⟩)) true ty).run Tryz.prog w = .ok (.tuple #[.bool true, .int .i64 (pos : Int), .int .i32 (c : Int)]) (w.iterAt k s q)) ∧
      ((c = byteAt s pos ∧ q = pos + 1 ∧ c < 128) ∨ (128 ≤ c ∧ 128 ≤ byteAt s pos)) := by
  have hb := byteAt_eq (s := s) (k := pos) h
  by_cases h128 : (s[pos]'h).toNat < 128
  · exact ⟨(s[pos]'h).toNat, pos + 1, fun ty => Lib.run_next_ascii_at w k s pos ty hk h h128, .inl ⟨hb, rfl, h128⟩⟩
  · exact ⟨(Utf8.decode s pos).1, _, fun ty => Lib.run_next_any_at w k s pos ty hk h, .inr ⟨(decode_high s pos h (by omega)).1, by rw [← hb]; omega⟩⟩
theorem okC_iff (c : Nat) : okC c = true ↔ (97 ≤ c ∧ c ≤ 122) ∨ (65 ≤ c ∧ c ≤ 90) ∨ (48 ≤ c ∧ c ≤ 57) ∨ c = 95 ∨ c = 64 := by
  simp only [okC, lowC, Bool.or_eq_true, Bool.and_eq_true, decide_eq_true_eq]
  omega
theorem lowC_iff (c : Nat) : lowC c = true ↔ (97 ≤ c ∧ c ≤ 122) := by
  simp only [lowC, Bool.and_eq_true, decide_eq_true_eq]
/-- the bytes up to pos are right -/
def nameUp (s : ByteArray) (pos : Nat) : Bool := nameTo s pos && (decide (pos = 0) || lowC (byteAt s 0))
theorem nameUp_next {s : ByteArray} {pos : Nat} (h : nameUp s pos = true) (hc : lowC (byteAt s pos) = true ∨ (0 < pos ∧ okC (byteAt s pos) = true)) : nameUp s (pos + 1) = true := by
  unfold nameUp at h ⊢
  simp only [Bool.and_eq_true, Bool.or_eq_true, decide_eq_true_eq] at h ⊢
  rcases hc with hc | ⟨h0, hc⟩
  · refine ⟨?_, .inr ?_⟩
    · rw [nameTo, h.1]
      simp [okC, hc]
    · rcases h.2 with rfl | h2
      · exact hc
      · exact h2
  · refine ⟨?_, .inr ?_⟩
    · rw [nameTo, h.1, hc]; simp
    · rcases h.2 with rfl | h2
      · omega
      · exact h2
theorem nameUp_stop {s : ByteArray} {pos : Nat} (hp : pos < s.size) (h1 : lowC (byteAt s pos) = false) (h2 : pos = 0 ∨ okC (byteAt s pos) = false) : nameB s = false := by
  unfold nameB
  rcases h2 with rfl | h2
  · rw [h1]; simp
  · rcases Nat.eq_zero_or_pos pos with rfl | h0
    · rw [h1]; simp
    · have : nameTo s (pos + 1) = false := by
        rw [nameTo, h2]
        have : ¬ pos = 0 := by omega
        simp [this]
      rw [nameTo_false s (pos + 1) this s.size (by omega), Bool.and_false]
theorem nameUp_end {s : ByteArray} (h1 : 1 ≤ s.size) (h2 : s.size ≤ 32) (h : nameUp s s.size = true) : nameB s = true := by
  unfold nameUp at h
  unfold nameB
  simp only [Bool.and_eq_true, Bool.or_eq_true, decide_eq_true_eq] at h ⊢
  rcases h.2 with h3 | h3
  · omega
  · exact ⟨⟨⟨h1, h2⟩, h3⟩, h.1⟩
set_option maxHeartbeats 4000000 in
theorem Valid_any (s : ByteArray) (hs : s.size ≤ maxLen) (w : World) :
    Calls Tryz.prog 38 #[.string s] w fun e w' => e = .returned (.bool (nameB s)) ∧ Below w.heap.size w w' := by
  unfold maxLen at hs
  rcases Nat.eq_zero_or_pos s.size with h0 | h1
  · obtain rfl : s = ⟨#[]⟩ := by
      cases s with
      | mk d =>
        have : d.size = 0 := h0
        rw [Array.size_eq_zero_iff] at this
        rw [this]
    have hfin := Lib.hid (show nameB ⟨#[]⟩ = false by decide)
    go_enter Tryz.func38, Tryz.ntmps38
    go_wp2_with fail
    go_ret
    exact ⟨by rw [hfin.out]; rfl, Below.refl _ _⟩
  · have hne : s.toList.isEmpty = false := by
      rw [ByteArray.toList_eq, List.isEmpty_eq_false_iff]
      intro e
      have : s.data.toList.length = 0 := by rw [e]; rfl
      rw [Array.length_toList] at this
      exact absurd h1 (by show ¬ 0 < s.data.size; omega)
    by_cases h2 : s.size ≤ 32
    case neg =>
      have hfin := Lib.hid (show nameB s = false by simp [nameB, h2])
      have l2 : (32 : Int) < (s.size : Int) := by omega
      clear h2
      go_enter Tryz.func38, Tryz.ntmps38
      go_wp2_with fail
      go_ret
      exact ⟨by rw [hfin.out]; rfl, Below.refl _ _⟩
    case pos =>
      have l2 : ¬ (32 : Int) < (s.size : Int) := by omega
      have H2 := Lib.hid h2
      clear h2
      go_enter Tryz.func38, Tryz.ntmps38
      go_wp2_with fail
      go_loopw [3] (fun _ wr => ∃ pos : Nat, pos ≤ s.size ∧ wr.heap[w.heap.size]? = some (.stringIter s pos) ∧ Below w.heap.size w wr ∧ Hid (nameUp s pos = true)) (fun _ wr => s.size - wr.iterPos w.heap.size)
      case atStart => exact ⟨0, Nat.zero_le _, World.iter_heap w s 0, (Below.refl _ _).alloc (Nat.le_refl _) _, Lib.hid (by simp [nameUp, nameTo])⟩
      case round =>
        obtain ⟨pos, hps, hit, hbw, HU⟩ := hrel
        have hpos0 := iterPos_of hit
        by_cases hp : pos < s.size
        · obtain ⟨c, q, hnx, hcq⟩ := next_two wr w.heap.size s pos hit hp
          have hit2 := Lib.iterAt_heap wr w.heap.size s pos q hit
          have hbw2 := Lib.below_iterAt hbw (k := w.heap.size) (Nat.le_refl _) s q
          generalize wr.iterAt w.heap.size s q = W1 at hnx hit2 hbw2
          clear hit hbw
          by_cases hlow : lowC (byteAt s pos) = true ∨ (0 < pos ∧ okC (byteAt s pos) = true)
          · have hnext := Lib.hid (nameUp_next HU.out hlow)
            rw [lowC_iff, okC_iff] at hlow
            rcases hcq with ⟨hc, rfl, h128⟩ | ⟨_, h128⟩
            case inr => exfalso; omega
            rw [← hc] at hlow
            clear hc
            by_cases q0 : 97 ≤ c ∧ c ≤ 122
            · have x1 : (97 : Int) ≤ (c : Int) := by omega
              have x2 : (c : Int) ≤ 122 := by omega
              clear q0 hlow
              go_wp2_with fail
              all_goals (try (exfalso; omega))
              all_goals
                go_roundw
                case rel => exact ⟨pos + 1, by omega, hit2, hbw2, hnext⟩
                case measure => rw [iterPos_of hit2, hpos0]; omega
            · have hp0 : (0 : Int) < (pos : Int) := by omega
              have Q0 := Lib.hid q0
              by_cases q1 : c = 95
              · obtain rfl := q1
                clear hlow q0
                go_wp2_with fail
                all_goals (try (exfalso; omega))
                all_goals
                  go_roundw
                  case rel => exact ⟨pos + 1, by omega, hit2, hbw2, hnext⟩
                  case measure => rw [iterPos_of hit2, hpos0]; omega
              · by_cases q2 : c = 64
                · obtain rfl := q2
                  clear hlow q0 q1
                  go_wp2_with fail
                  all_goals (try (exfalso; omega))
                  all_goals
                    go_roundw
                    case rel => exact ⟨pos + 1, by omega, hit2, hbw2, hnext⟩
                    case measure => rw [iterPos_of hit2, hpos0]; omega
                · have hok2 : ((65 : Int) ≤ (c : Int) ∧ (c : Int) ≤ 90) ∨ ((48 : Int) ≤ (c : Int) ∧ (c : Int) ≤ 57) := by omega
                  clear hlow q0 q1 q2
                  rcases hok2 with ⟨x1, x2⟩ | ⟨x1, x2⟩
                  all_goals
                    go_wp2_with fail
                    all_goals (try (exfalso; omega))
                    all_goals
                      go_roundw
                      case rel => exact ⟨pos + 1, by omega, hit2, hbw2, hnext⟩
                      case measure => rw [iterPos_of hit2, hpos0]; omega
          · have hfin := Lib.hid (show nameB s = false from nameUp_stop hp (by
              rw [Bool.eq_false_iff]; exact fun e => hlow (.inl e)) (by
              rcases Nat.eq_zero_or_pos pos with e | e
              · exact .inl e
              · refine .inr ?_
                rw [Bool.eq_false_iff]; exact fun e2 => hlow (.inr ⟨e, e2⟩)))
            rw [lowC_iff, okC_iff] at hlow
            have hbad := Lib.hid (show ¬ ((97 ≤ c ∧ c ≤ 122) ∨ (0 < pos ∧ ((97 ≤ c ∧ c ≤ 122) ∨ (65 ≤ c ∧ c ≤ 90) ∨ (48 ≤ c ∧ c ≤ 57) ∨ c = 95 ∨ c = 64))) by
              rcases hcq with ⟨rfl, _, _⟩ | ⟨h128, _⟩
              · exact hlow
              · omega)
            clear hlow hcq
            by_cases q1 : 0 < pos
            · have hp0 : (0 : Int) < (pos : Int) := by omega
              have x1 : ((c : Int) == 95) = false := by have := hbad.out; simp; omega
              have x2 : ((c : Int) == 64) = false := by have := hbad.out; simp; omega
              clear q1
              go_wp2_with fail
              all_goals (try (exfalso; have := hbad.out; omega))
              all_goals
                go_ret
                exact ⟨by rw [hfin.out]; rfl, hbw2⟩
            · have hp0 : ¬ (0 : Int) < (pos : Int) := by omega
              clear q1
              go_wp2_with fail
              all_goals (try (exfalso; have := hbad.out; omega))
              all_goals
                go_ret
                exact ⟨by rw [hfin.out]; rfl, hbw2⟩
        · obtain rfl : pos = s.size := by omega
          have hnx : ∀ ty, (Instr.next (.pointer (some ⟨w.heap.size, 0, none⟩)) true ty).run Tryz.prog wr = _ := fun ty => Lib.run_next_end_at wr w.heap.size s s.size ty hit hp
          have hfin := Lib.hid (nameUp_end h1 H2.out HU.out)
          go_wp2_with fail
          go_ret
          exact ⟨by rw [hfin.out]; rfl, hbw⟩
end Go.Proofs.YtmcnhggpmlhgeaaGreatDoor
