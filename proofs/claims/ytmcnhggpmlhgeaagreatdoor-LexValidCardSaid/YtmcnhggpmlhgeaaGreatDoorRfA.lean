/-
  Walks: the reference: lists of strings, reserved words, names, plain strings.
-/
import Derived.Test.YtmcnhggpmlhgeaaGreatDoorLxS
import Derived.Test.YtmcnhggpmlhgeaaGreatDoorName
namespace Go.Proofs.YtmcnhggpmlhgeaaGreatDoor
open Go.RowKit Go.Proofs.BitsM
def strVs (l : List (List UInt8)) : Array Value := (l.map fun x => Value.string (ba x)).toArray
def signL : List (List UInt8) := sign3 ++ sign2 ++ sign1.map fun c => [c]
theorem signL_contains (s : List UInt8) : signL.contains s = signB s := by
  unfold signL signB
  rw [List.contains_eq_mem, List.contains_eq_mem, List.contains_eq_mem, Bool.eq_iff_iff]
  simp only [List.mem_append, decide_eq_true_eq, Bool.or_eq_true, List.mem_map]
  constructor
  · rintro ((h | h) | ⟨c, hc, rfl⟩)
    · exact .inl (.inl h)
    · exact .inl (.inr h)
    · exact .inr (by simpa using hc)
  · rintro ((h | h) | h)
    · exact .inl (.inl h)
    · exact .inl (.inr h)
    · match s, h with
      | [c], h => exact .inr ⟨c, by simpa using h, rfl⟩
set_option maxRecDepth 100000 in
set_option maxHeartbeats 4000000 in
theorem words_r (w : World) : Calls Tryz.prog 50 #[] w fun e w' => e = .returned (.slice (some ⟨w.heap.size, 0, none⟩) 24 24) ∧ w' = w.alloc (.cells (strVs wordL) 9 (0, 0)) := by
  go_enter Tryz.func50, Tryz.ntmps50
  go_wp2_with fail
  go_ret
  exact ⟨rfl, rfl⟩
set_option maxRecDepth 100000 in
set_option maxHeartbeats 4000000 in
theorem signs_r (w : World) : Calls Tryz.prog 49 #[] w fun e w' => e = .returned (.slice (some ⟨w.heap.size, 0, none⟩) 27 27) ∧ w' = w.alloc (.cells (strVs signL) 9 (0, 0)) := by
  go_enter Tryz.func49, Tryz.ntmps49
  go_wp2_with fail
  go_ret
  exact ⟨rfl, rfl⟩
theorem strVs_at {l : List (List UInt8)} {i : Nat} {x : List UInt8} (h : l[i]? = some x) : (strVs l)[i]? = some (.string (ba x)) := by
  unfold strVs; rw [List.getElem?_toArray, List.getElem?_map, h]; rfl
set_option maxRecDepth 100000 in
set_option maxHeartbeats 4000000 in
theorem in_r (s : List UInt8) (l : List (List UInt8)) (b cap : Nat) (w : World) (hl : l.length ≤ 1000000) (hb : w.heap[b]? = some (.cells (strVs l) 9 (0, 0))) :
    Calls Tryz.prog 48 #[.string (ba s), .slice (some ⟨b, 0, none⟩) l.length cap] w fun e w' => e = .returned (.bool (l.contains s)) ∧ w' = w := by
  have HB := Lib.hid hb
  have HS := Lib.hid (show l.contains s = (l.drop 0).contains s from rfl)
  clear hb
  generalize l.contains s = R at HS ⊢
  go_enter Tryz.func48, Tryz.ntmps48
  go_wp2_with fail
  go_loop [5] (fun v => ∃ i : Nat, v = .int .i64 i ∧ i ≤ l.length ∧ Hid (R = (l.drop i).contains s)) (fun v => l.length - (intOf v).toNat)
  case atStart => exact ⟨0, rfl, Nat.zero_le _, HS⟩
  case round =>
    obtain ⟨i, rfl, hi, HS⟩ := hrel
    by_cases hlt : i < l.length
    · have x1 : (i : Int) < (l.length : Int) := by omega
      obtain ⟨x, hx⟩ : ∃ x, l[i] = x := ⟨_, rfl⟩
      have c0 : w.cell? ⟨b, i, none⟩ = some (.string (ba x)) := (cells_of HB.out i).trans (strVs_at (by rw [List.getElem?_eq_getElem hlt, hx]))
      have HS1 := Lib.hid (show R = ((s == x) || (l.drop (i + 1)).contains s) from by rw [HS.out, List.drop_eq_getElem_cons hlt, hx, List.contains_cons])
      by_cases hsx : s = x
      · have HR := Lib.hid (show R = true from by rw [HS1.out, hsx]; simp)
        subst hsx
        clear hx HS1
        go_wp2_with fail
        go_ret
        exact ⟨by rw [HR.out]; rfl, rfl⟩
      · have HR := Lib.hid (show R = (l.drop (i + 1)).contains s from by rw [HS1.out, beq_eq_false_iff_ne.2 hsx, Bool.false_or])
        have xs : ((ba x).toList == (ba s).toList) = false := by rw [ba_toList, ba_toList]; simpa using fun h => hsx h.symm
        clear hx HS1 hsx
        go_wp2_with fail
        go_round
        case rel => exact ⟨i + 1, by go_num, by omega, HR⟩
        case measure => simp only [intOf]; omega
    · have x1 : ¬ (i : Int) < (l.length : Int) := by omega
      have HR := Lib.hid (show R = false from by rw [HS.out, List.drop_eq_nil_of_le (by omega)]; rfl)
      go_wp2_with fail
      go_ret
      exact ⟨by rw [HR.out]; rfl, rfl⟩
set_option maxRecDepth 100000 in
theorem Reserved_r (s : List UInt8) (w : World) : Calls Tryz.prog 21 #[.string (ba s)] w fun e w' => e = .returned (.bool (resB s)) ∧ Below w.heap.size w w' := by
  have HI := Lib.hid (in_r s wordL w.heap.size 24 (w.alloc (.cells (strVs wordL) 9 (0, 0))) (by decide) (heap_alloc_new _ _))
  rw [show wordL.contains s = resB s from rfl] at HI
  generalize resB s = r at HI ⊢
  go_enter Tryz.func21, Tryz.ntmps21
  go_wp2_with fail
  refine (words_r _).mono ?_
  rintro e w1 ⟨rfl, rfl⟩
  go_wp2_with fail
  refine HI.out.mono ?_
  rintro e w1 ⟨rfl, rfl⟩
  go_wp2_with fail
  go_ret
  exact ⟨rfl, below_alloc _ _⟩
set_option maxRecDepth 100000 in
set_option maxHeartbeats 4000000 in
theorem name_r (s : List UInt8) (w : World) (hl : s.length ≤ 1000000000) : Calls Tryz.prog 45 #[.string (ba s)] w fun e w' => e = .returned (.string (ba (s.takeWhile namC))) ∧ w' = w := by
  have s1 : ((ba s).size : Int) = (s.length : Int) := by rw [ba_size]
  have s2 : (ba s).size = s.length := by rw [ba_size]
  obtain ⟨n, hn⟩ : ∃ n, (s.takeWhile namC).length = n := ⟨_, rfl⟩
  have hnl : n ≤ s.length := hn ▸ tw_le namC s
  have HN := Lib.hid hn
  have HE := Lib.hid (show (ba s).extract 0 n = ba (s.takeWhile namC) from by rw [extract_ba, List.drop_zero, Nat.sub_zero, ← hn, tw_take])
  clear hn
  go_enter Tryz.func45, Tryz.ntmps45
  go_wp2_with fail
  go_loop [3] (fun v => ∃ i : Nat, v = .int .i64 i ∧ i ≤ n) (fun v => n - (intOf v).toNat)
  case atStart => exact ⟨0, rfl, Nat.zero_le _⟩
  case round =>
    obtain ⟨i, rfl, hi⟩ := hrel
    by_cases hlt : i < s.length
    · have x1 : (i : Int) < (s.length : Int) := by omega
      have hks : i < (ba s).size := by omega
      obtain ⟨c, hc⟩ : ∃ c, (ba s)[i]'hks = c := ⟨_, rfl⟩
      have hq : namC c = decide (i < n) := by
        rw [← hc]
        by_cases h : i < n
        · rw [decide_eq_true h]; exact tw_at namC s i hlt (by rw [HN.out]; exact h)
        · obtain rfl : i = n := by omega
          rw [decide_eq_false h]
          have h2 := tw_stop namC s (by rw [HN.out]; exact hlt)
          have e : s[i]'hlt = s[(s.takeWhile namC).length]'(by rw [HN.out]; exact hlt) := by congr 1; exact HN.out.symm
          exact e ▸ h2
      have HC := Lib.hid hc
      have HQ := Lib.hid fun W => (named_r c W)
      rw [hq] at HQ
      clear hc hq
      go_wp2_with fail
      rw [HC.out]
      refine (HQ.out w).mono ?_
      rintro e w1 ⟨rfl, rfl⟩
      by_cases h : i < n
      · rw [decide_eq_true h]
        go_wp2_with fail
        go_round
        case rel => exact ⟨i + 1, by go_num, by omega⟩
        case measure => simp only [intOf]; omega
      · rw [decide_eq_false h]
        obtain rfl : i = n := by omega
        clear h
        go_wp2_with fail
        go_ret
        exact ⟨by rw [← HE.out]; rfl, rfl⟩
    · have x1 : ¬ (i : Int) < (s.length : Int) := by omega
      obtain rfl : i = n := by omega
      have x2 : (i : Int) ≤ (s.length : Int) := by omega
      go_wp2_with fail
      go_ret
      exact ⟨by rw [← HE.out]; rfl, rfl⟩
set_option maxRecDepth 100000 in
set_option maxHeartbeats 4000000 in
theorem plain_r (s : List UInt8) (w : World) (hl : s.length ≤ 1000000000) : Calls Tryz.prog 47 #[.string (ba s)] w fun e w' => e = .returned (.bool (plainB s)) ∧ w' = w := by
  have s1 : ((ba s).size : Int) = (s.length : Int) := by rw [ba_size]
  have s2 : (ba s).size = s.length := by rw [ba_size]
  have HS := Lib.hid (show plainB s = plainB (s.drop 0) from rfl)
  generalize plainB s = R at HS ⊢
  go_enter Tryz.func47, Tryz.ntmps47
  go_wp2_with fail
  go_loop [3] (fun v => ∃ i : Nat, v = .int .i64 i ∧ i ≤ s.length ∧ Hid (R = plainB (s.drop i))) (fun v => s.length - (intOf v).toNat)
  case atStart => exact ⟨0, rfl, Nat.zero_le _, HS⟩
  case round =>
    obtain ⟨i, rfl, hi, HS⟩ := hrel
    by_cases hlt : i < s.length
    · have x1 : (i : Int) < (s.length : Int) := by omega
      have hks : i < (ba s).size := by omega
      obtain ⟨c, he, hdr⟩ : ∃ c, (ba s)[i]'hks = c ∧ s.drop i = c :: s.drop (i + 1) := ⟨_, rfl, List.drop_eq_getElem_cons hlt⟩
      have HS1 := Lib.hid (show R = (!oddB c.toNat && plainB (s.drop (i + 1))) from by rw [HS.out, hdr, odd_plain, Bool.not_not]; rfl)
      have HC := Lib.hid he
      clear he hdr
      by_cases ho : oddB c.toNat = true
      · have HR := Lib.hid (show R = false from by rw [HS1.out, ho]; rfl)
        have hd : c.toNat ≠ 10 ∧ (c.toNat < 32 ∨ 126 < c.toNat) := by unfold oddB at ho; simpa using ho
        clear ho HS1
        have h10 : ¬ (((ba s)[i]'hks).toNat : Int) = 10 := by rw [HC.out]; omega
        by_cases h32 : c.toNat < 32
        · have y1 : (((ba s)[i]'hks).toNat : Int) < 32 := by rw [HC.out]; omega
          clear hd h32
          go_wp2_with fail
          go_ret
          exact ⟨by rw [HR.out]; rfl, rfl⟩
        · have y1 : ¬ (((ba s)[i]'hks).toNat : Int) < 32 := by rw [HC.out]; omega
          have y2 : (126 : Int) < (((ba s)[i]'hks).toNat : Int) := by rw [HC.out]; omega
          clear hd h32
          go_wp2_with fail
          go_ret
          exact ⟨by rw [HR.out]; rfl, rfl⟩
      · rw [Bool.not_eq_true] at ho
        have HR := Lib.hid (show R = plainB (s.drop (i + 1)) from by rw [HS1.out, ho]; rfl)
        have hd : c.toNat = 10 ∨ (32 ≤ c.toNat ∧ c.toNat ≤ 126) := by
          rcases Nat.lt_or_ge c.toNat 32 with h | h
          · left; unfold oddB at ho; simp only [Bool.and_eq_false_iff, Bool.or_eq_false_iff, decide_eq_false_iff_not] at ho; omega
          · unfold oddB at ho; simp only [Bool.and_eq_false_iff, Bool.or_eq_false_iff, decide_eq_false_iff_not] at ho; omega
        clear ho HS1
        by_cases h10 : c.toNat = 10
        · have h10' : (((ba s)[i]'hks).toNat : Int) = 10 := by rw [HC.out]; omega
          clear hd h10
          go_wp2_with fail
          go_round
          case rel => exact ⟨i + 1, by go_num, by omega, HR⟩
          case measure => simp only [intOf]; omega
        · have h10' : ¬ (((ba s)[i]'hks).toNat : Int) = 10 := by rw [HC.out]; omega
          have y1 : ¬ (((ba s)[i]'hks).toNat : Int) < 32 := by rw [HC.out]; omega
          have y2 : ¬ (126 : Int) < (((ba s)[i]'hks).toNat : Int) := by rw [HC.out]; omega
          clear hd h10
          go_wp2_with fail
          go_round
          case rel => exact ⟨i + 1, by go_num, by omega, HR⟩
          case measure => simp only [intOf]; omega
    · have x1 : ¬ (i : Int) < (s.length : Int) := by omega
      have HR := Lib.hid (show R = true from by rw [HS.out, List.drop_eq_nil_of_le (by omega)]; rfl)
      go_wp2_with fail
      go_ret
      exact ⟨by rw [HR.out]; rfl, rfl⟩
end Go.Proofs.YtmcnhggpmlhgeaaGreatDoor
