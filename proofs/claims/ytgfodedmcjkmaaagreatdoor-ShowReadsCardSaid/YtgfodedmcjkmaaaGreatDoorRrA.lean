/-
  Walks: the reference's reader of show: in, while. Walks: the reference's reader of show: while, eat, must. Walks: the reference's reading of numbers. Walks: the reference's reading of numbers: Form, Sub, Neg. Walks: the reference's reading of a number. Walks: the reference's reader of show: number, name. Walks: the reference's reader of show: marked.
-/
import Derived.Test.YtgfodedmcjkmaaaGreatDoorRtA
import Derived.Test.YtgfodedmcjkmaaaGreatDoorRdA
namespace Go.Proofs.YtgfodedmcjkmaaaGreatDoor
open Go.RowKit Go.Proofs.BitsM
/-- the reference's reader in block R: the text that is left, whether it is bad -/
def Rr (R : Nat) (l : List UInt8) (bad : Bool) (w : World) : Prop := w.heap[R]? = some (.cells #[.string (ba l), .bool bad] 60 (0, 0))
theorem Rr.c0 {R : Nat} {l : List UInt8} {bad : Bool} {w : World} (h : Rr R l bad w) : w.cell? ⟨R, 0, none⟩ = some (.string (ba l)) := cells_of h 0
theorem Rr.c1 {R : Nat} {l : List UInt8} {bad : Bool} {w : World} (h : Rr R l bad w) : w.cell? ⟨R, 1, none⟩ = some (.bool bad) := cells_of h 1
theorem Rr.fr {R : Nat} {l : List UInt8} {bad : Bool} {w : World} (h : Rr R l bad w) (k : Nat) : w.frozen? ⟨R, k, none⟩ = false := frees_of h k
theorem Rr.set {R : Nat} {l l' : List UInt8} {bad : Bool} {w : World} (h : Rr R l bad w) : Rr R l' bad (w.setCell ⟨R, 0, none⟩ (.string (ba l'))) := blk_set (c := [.string (ba l), .bool bad]) h 0 (.string (ba l'))
theorem Rr.mark {R : Nat} {l : List UInt8} {bad b' : Bool} {w : World} (h : Rr R l bad w) : Rr R l b' (w.setCell ⟨R, 1, none⟩ (.bool b')) := blk_set (c := [.string (ba l), .bool bad]) h 1 (.bool b')
set_option maxRecDepth 100000 in
set_option maxHeartbeats 4000000 in
theorem in_any (c : UInt8) (s : List UInt8) (hs : s.length ≤ 1000) (w : World) :
    Calls Tryz.prog 60 #[.int .u8 (c.toNat : Int), .string (ba s)] w fun e w' => e = .returned (.bool (decide (c ∈ s))) ∧ w' = w := by
  have hsz : (ba s).size = s.length := ba_size s
  have hsz' : ((ba s).size : Int) = (s.length : Int) := by rw [hsz]
  go_enter Tryz.func60, Tryz.ntmps60
  go_wp2_with fail
  go_loop [5] (fun i => ∃ k : Nat, k ≤ s.length ∧ i = .int .i64 k ∧ Hid (∀ j x, j < k → s[j]? = some x → x ≠ c)) (fun i => s.length - (intOf i).toNat)
  case atStart => exact ⟨0, Nat.zero_le _, rfl, Lib.hid fun j x h => absurd h (by omega)⟩
  case round =>
    obtain ⟨k, hk, rfl, HN⟩ := hrel
    by_cases hkl : k < s.length
    · have x1 : (k : Int) < ((ba s).size : Int) := by omega
      have hks : k < (ba s).size := by rw [hsz]; exact hkl
      have hat : s[k]? = some ((ba s)[k]'hks) := by rw [List.getElem?_eq_getElem hkl]; rfl
      generalize hX : (ba s)[k]'hks = X at hat
      have HAT := Lib.hid hat
      clear hat
      by_cases hc : X = c
      · have HD := Lib.hid (show decide (c ∈ s) = true by rw [← hc]; simpa using List.mem_of_getElem? HAT.out)
        have y1 : ((X.toNat : Int) == (c.toNat : Int)) = true := by rw [hc]; simp
        have HC := Lib.hid hc
        clear hc
        go_wp2_with fail
        go_ret
        exact ⟨by rw [HD.out]; rfl, rfl⟩
      · have y1 : ((X.toNat : Int) == (c.toNat : Int)) = false := by
          simp only [beq_eq_false_iff_ne, ne_eq]
          intro h
          exact hc (UInt8.toNat_inj.1 (by omega))
        have HC := Lib.hid hc
        clear hc
        go_wp2_with fail
        go_round
        case rel =>
          refine ⟨k + 1, by omega, rfl, Lib.hid fun j x hj hx => ?_⟩
          by_cases h : j = k
          · subst h
            rw [HAT.out] at hx
            injection hx with hx
            rw [← hx]; exact HC.out
          · exact HN.out j x (by omega) hx
        case measure => simp only [intOf, Int.toNat_natCast]; omega
    · have x1 : ¬ (k : Int) < ((ba s).size : Int) := by omega
      have HD := Lib.hid (show decide (c ∈ s) = false by
        simp only [decide_eq_false_iff_not]
        intro h
        obtain ⟨j, hj⟩ := List.mem_iff_getElem?.1 h
        have hj2 := (List.getElem?_eq_some_iff.1 hj).1
        exact HN.out j c (by omega) hj rfl)
      go_wp2_with fail
      go_ret
      exact ⟨by rw [HD.out]; rfl, rfl⟩
end Go.Proofs.YtgfodedmcjkmaaaGreatDoor
namespace Go.Proofs.YtgfodedmcjkmaaaGreatDoor
open Go.RowKit Go.Proofs.BitsM
set_option maxRecDepth 100000 in
set_option maxHeartbeats 4000000 in
theorem while_any (bs : List UInt8) (hbs : bs.length ≤ 1000) (q : UInt8 → Bool) (hq : ∀ c, decide (c ∈ bs) = q c) (R : Nat) (l : List UInt8) (bad : Bool) (w : World) (hr : Rr R l bad w) (hl : l.length ≤ 9223372036854775807) :
    Calls Tryz.prog 77 #[.pointer (some ⟨R, 0, none⟩), .string (ba bs)] w fun e w' => e = .returned (.string (ba (l.takeWhile q))) ∧ w' = w.setCell ⟨R, 0, none⟩ (.string (ba (l.dropWhile q))) := by
  have HI := Lib.hid fun c => (in_any c bs hbs w).mono fun e w' h => (show e = .returned (.bool (q c)) ∧ w' = w by rw [hq c] at h; exact h)
  have c0 := hr.c0
  have fr := hr.fr 0
  clear hr hq
  have htl := tw_le q l
  have hsz : ((ba l).size : Int) = (l.length : Int) := by rw [ba_size]
  have HF1 := Lib.hid (show ∀ k, k = (l.takeWhile q).length → (ba l).extract 0 k = ba (l.takeWhile q) ∧ (ba l).extract k (ba l).size = ba (l.dropWhile q) from by
    rintro k rfl
    rw [extract_ba, extract_ba, List.drop_zero, Nat.sub_zero, tw_take, tw_drop, ba_size, List.take_of_length_le]
    · exact ⟨rfl, rfl⟩
    · have := congrArg List.length (tw_drop q l)
      rw [List.length_drop] at this; omega)
  generalize hT : (l.takeWhile q).length = T at htl HF1
  have HT := Lib.hid hT
  clear hT
  go_enter Tryz.func77, Tryz.ntmps77
  go_wp2_with fail
  go_loop [5] (fun i => ∃ k : Nat, k ≤ T ∧ i = .int .i64 k) (fun i => T - (intOf i).toNat)
  case atStart => exact ⟨0, Nat.zero_le _, rfl⟩
  case round =>
    obtain ⟨k, hk, rfl⟩ := hrel
    by_cases hkl : k < l.length
    · have x1 : (k : Int) < ((ba l).size : Int) := by omega
      have hks : k < (ba l).size := by rw [ba_size]; exact hkl
      go_wp2_with fail
      refine (HI.out _).mono ?_
      rintro e w1 ⟨rfl, rfl⟩
      by_cases hkt : k < T
      · have hq : q ((ba l)[k]'hks) = true := tw_at q l k hkl (by rw [HT.out]; exact hkt)
        rw [hq]
        go_wp2_with fail
        go_round
        case rel => exact ⟨k + 1, by omega, rfl⟩
        case measure => simp only [intOf, Int.toNat_natCast]; omega
      · obtain rfl : k = T := by omega
        have hq : q ((ba l)[k]'hks) = false := by
          have h2 : (l.takeWhile q).length < l.length := by rw [HT.out]; exact hkl
          have := tw_stop q l h2
          simp only [HT.out] at this
          exact this
        rw [hq]
        obtain ⟨e1, e2⟩ := HF1.out k rfl
        have E1 := Lib.hid e1
        have E2 := Lib.hid e2
        clear e1 e2
        go_wp2_with fail
        go_ret
        exact ⟨by rw [E1.out]; rfl, by rw [E2.out]⟩
    · have x1 : ¬ (k : Int) < ((ba l).size : Int) := by omega
      obtain rfl : k = T := by omega
      obtain ⟨e1, e2⟩ := HF1.out k rfl
      have E1 := Lib.hid e1
      have E2 := Lib.hid e2
      clear e1 e2
      go_wp2_with fail
      go_ret
      exact ⟨by rw [E1.out]; rfl, by rw [E2.out]⟩
set_option maxRecDepth 100000 in
set_option maxHeartbeats 4000000 in
theorem eat_bad (R : Nat) (l p : List UInt8) (w : World) (hr : Rr R l true w) :
    Calls Tryz.prog 52 #[.pointer (some ⟨R, 0, none⟩), .string (ba p)] w fun e w' => e = .returned (.bool false) ∧ w' = w := by
  have c1 := hr.c1
  clear hr
  go_enter Tryz.func52, Tryz.ntmps52
  go_wp2_with fail
  go_ret
  exact ⟨rfl, rfl⟩
set_option maxRecDepth 100000 in
set_option maxHeartbeats 4000000 in
theorem eat_short (R : Nat) (l p : List UInt8) (w : World) (hr : Rr R l false w) (h : l.length < p.length) :
    Calls Tryz.prog 52 #[.pointer (some ⟨R, 0, none⟩), .string (ba p)] w fun e w' => e = .returned (.bool false) ∧ w' = w := by
  have c1 := hr.c1
  have c0 := hr.c0
  have s1 : (ba l).size = l.length := ba_size l
  have s2 : (ba p).size = p.length := ba_size p
  have x1 : ((ba l).size : Int) < ((ba p).size : Int) := by omega
  clear hr
  go_enter Tryz.func52, Tryz.ntmps52
  go_wp2_with fail
  all_goals (try (exfalso; omega))
  go_ret
  exact ⟨rfl, rfl⟩
set_option maxRecDepth 100000 in
set_option maxHeartbeats 4000000 in
theorem eat_differ (R : Nat) (l p : List UInt8) (w : World) (hr : Rr R l false w) (h : p.length ≤ l.length) (hd : ¬ l.take p.length = p) :
    Calls Tryz.prog 52 #[.pointer (some ⟨R, 0, none⟩), .string (ba p)] w fun e w' => e = .returned (.bool false) ∧ w' = w := by
  have c1 := hr.c1
  have c0 := hr.c0
  have s1 : (ba l).size = l.length := ba_size l
  have s2 : (ba p).size = p.length := ba_size p
  have x1 : ¬ ((ba l).size : Int) < ((ba p).size : Int) := by omega
  clear hr
  go_enter Tryz.func52, Tryz.ntmps52
  have ht : (!((ba l).extract 0 p.length).toList == (ba p).toList) = true := by
    rw [extract_ba, ba_toList, ba_toList, List.drop_zero, Nat.sub_zero]
    simpa using hd
  clear hd
  go_wp2_with fail
  all_goals (try (exfalso; omega))
  go_ret
  exact ⟨rfl, rfl⟩
set_option maxRecDepth 100000 in
set_option maxHeartbeats 4000000 in
theorem eat_same (R : Nat) (l p : List UInt8) (w : World) (hr : Rr R l false w) (h : p.length ≤ l.length) (hd : l.take p.length = p) :
    Calls Tryz.prog 52 #[.pointer (some ⟨R, 0, none⟩), .string (ba p)] w fun e w' => e = .returned (.bool true) ∧ w' = w.setCell ⟨R, 0, none⟩ (.string (ba (l.drop p.length))) := by
  have c1 := hr.c1
  have c0 := hr.c0
  have fr := hr.fr 0
  have s1 : (ba l).size = l.length := ba_size l
  have s2 : (ba p).size = p.length := ba_size p
  have x1 : ¬ ((ba l).size : Int) < ((ba p).size : Int) := by omega
  clear hr
  go_enter Tryz.func52, Tryz.ntmps52
  have ht : (!((ba l).extract 0 p.length).toList == (ba p).toList) = false := by
    rw [extract_ba, ba_toList, ba_toList, List.drop_zero, Nat.sub_zero, hd]
    simp
  have e2 : (ba l).extract p.length l.length = ba (l.drop p.length) := by
    rw [extract_ba, List.take_of_length_le (by rw [List.length_drop]; omega)]
  clear hd
  go_wp2_with fail
  all_goals (try (exfalso; omega))
  go_ret
  exact ⟨rfl, rfl⟩
/-- what the reader becomes: block R alone is changed -/
def RrT (R : Nat) (l : List UInt8) (bad : Bool) (w w' : World) : Prop := Rr R l bad w' ∧ Ch (fun b => b = R) w w'
theorem hp_take {l p : List UInt8} : hp l p = true ↔ p.length ≤ l.length ∧ l.take p.length = p := by
  constructor
  · intro h
    obtain ⟨r, rfl⟩ := hp_iff.1 h
    exact ⟨by rw [List.length_append]; omega, by rw [List.take_left]⟩
  · rintro ⟨_, h2⟩
    exact hp_iff.2 ⟨l.drop p.length, by conv => lhs; rw [← List.take_append_drop p.length l, h2]⟩
/-- eat -/
theorem rEat_any (R : Nat) (l p : List UInt8) (bad : Bool) (w : World) (hr : Rr R l bad w) :
    Calls Tryz.prog 52 #[.pointer (some ⟨R, 0, none⟩), .string (ba p)] w fun e w' => e = .returned (.bool (!bad && hp l p)) ∧ RrT R (if !bad && hp l p then l.drop p.length else l) bad w w' := by
  cases bad with
  | true =>
    refine (eat_bad R l p w hr).mono ?_
    rintro e w' ⟨rfl, rfl⟩
    exact ⟨rfl, hr, Ch.refl _ _⟩
  | false =>
    cases h : hp l p with
    | true =>
      obtain ⟨h1, h2⟩ := hp_take.1 h
      refine (eat_same R l p w hr h1 h2).mono ?_
      rintro e w' ⟨rfl, rfl⟩
      exact ⟨rfl, hr.set, Ch.of_set w R 0 _⟩
    | false =>
      have hno : ¬ (p.length ≤ l.length ∧ l.take p.length = p) := fun hh => by rw [hp_take.2 hh] at h; cases h
      by_cases h1 : p.length ≤ l.length
      · refine (eat_differ R l p w hr h1 fun h2 => hno ⟨h1, h2⟩).mono ?_
        rintro e w' ⟨rfl, rfl⟩
        exact ⟨rfl, hr, Ch.refl _ _⟩
      · refine (eat_short R l p w hr (by omega)).mono ?_
        rintro e w' ⟨rfl, rfl⟩
        exact ⟨rfl, hr, Ch.refl _ _⟩
set_option maxRecDepth 100000 in
set_option maxHeartbeats 4000000 in
/-- must -/
theorem rMust_any (R : Nat) (l p : List UInt8) (bad : Bool) (w : World) (hr : Rr R l bad w) :
    Calls Tryz.prog 55 #[.pointer (some ⟨R, 0, none⟩), .string (ba p)] w fun e w' => e = .returned (.tuple #[]) ∧ RrT R (if !bad && hp l p then l.drop p.length else l) (!(!bad && hp l p)) w w' := by
  have HE := Lib.hid (rEat_any R l p bad w hr)
  clear hr
  cases hx : (!bad && hp l p) with
  | true =>
    rw [hx] at HE
    have hb : bad = false := by cases bad <;> simp_all
    subst hb
    have HE := Lib.hid HE.out
    clear hx
    go_enter Tryz.func55, Tryz.ntmps55
    go_wp2_with fail
    refine HE.out.mono ?_
    rintro e w1 ⟨rfl, hr⟩
    have HR := Lib.hid hr
    clear hr
    go_wp2_with fail
    go_end0
    exact ⟨rfl, HR.out⟩
  | false =>
    rw [hx] at HE
    have HE := Lib.hid HE.out
    clear hx
    go_enter Tryz.func55, Tryz.ntmps55
    go_wp2_with fail
    refine HE.out.mono ?_
    rintro e w1 ⟨rfl, hr⟩
    have HR := Lib.hid hr
    clear hr
    have c1 := HR.out.1.c1
    have fr := HR.out.1.fr 1
    go_wp2_with fail
    go_end0
    exact ⟨rfl, HR.out.1.mark, Ch.trans HR.out.2 (Ch.of_set _ R 1 _) fun i _ h => ⟨h, h⟩⟩
end Go.Proofs.YtgfodedmcjkmaaaGreatDoor
namespace Go.Proofs.YtgfodedmcjkmaaaGreatDoor
open Go.RowKit Go.Proofs.BitsM
set_option maxRecDepth 100000 in
set_option maxHeartbeats 4000000 in
theorem digits_any (s : List UInt8) (hl : s.length ≤ 9223372036854775807) (w : World) :
    Calls Tryz.prog 114 #[.string (ba s)] w fun e w' => e = .returned (.bool (formD s)) ∧ w' = w := by
  have hsz : (ba s).size = s.length := ba_size s
  go_enter Tryz.func114, Tryz.ntmps114
  go_wp2_with fail
  go_loop [3] (fun i => ∃ k : Nat, k ≤ s.length ∧ i = .int .i64 k ∧ Hid (∀ j x, j < k → s[j]? = some x → isD x = true) ∧ Hid (2 ≤ k → s.head? ≠ some 48)) (fun i => s.length - (intOf i).toNat)
  case atStart => exact ⟨0, Nat.zero_le _, rfl, Lib.hid fun j x h => absurd h (by omega), Lib.hid fun h => absurd h (by omega)⟩
  case round =>
    obtain ⟨k, hk, rfl, HN, HH⟩ := hrel
    by_cases hkl : k < s.length
    · have x1 : (k : Int) < ((ba s).size : Int) := by omega
      have hks : k < (ba s).size := by rw [hsz]; exact hkl
      have hat : s[k]? = some ((ba s)[k]'hks) := by rw [List.getElem?_eq_getElem hkl]; rfl
      generalize hX : (ba s)[k]'hks = X at hat
      have HAT := Lib.hid hat
      clear hat
      by_cases d1 : (X.toNat : Int) < 48
      · have HD := Lib.hid (show formD s = false by
          rw [Bool.eq_false_iff]; intro h
          have := (formD_iff s).1 h
          have h2 := (isD_iff X).1 (this.2.1 X (List.mem_of_getElem? HAT.out))
          omega)
        go_wp2_with fail
        all_goals (try (exfalso; omega))
        go_ret
        exact ⟨by rw [HD.out]; rfl, rfl⟩
      · by_cases d2 : (57 : Int) < (X.toNat : Int)
        · have HD := Lib.hid (show formD s = false by
            rw [Bool.eq_false_iff]; intro h
            have := (formD_iff s).1 h
            have h2 := (isD_iff X).1 (this.2.1 X (List.mem_of_getElem? HAT.out))
            omega)
          go_wp2_with fail
          all_goals (try (exfalso; omega))
          go_ret
          exact ⟨by rw [HD.out]; rfl, rfl⟩
        · have HX := Lib.hid (show isD X = true from (isD_iff X).2 ⟨by omega, by omega⟩)
          have next : ∀ j x, j < k + 1 → s[j]? = some x → isD x = true := by
            intro j x hj hx
            by_cases h : j = k
            · subst h
              rw [HAT.out] at hx
              injection hx with hx
              rw [← hx]; exact HX.out
            · exact HN.out j x (by omega) hx
          have HNx := Lib.hid next
          clear next
          by_cases hk1 : k = 1
          · have h0 : 0 < (ba s).size := by omega
            have hat0 : s.head? = some ((ba s)[0]'h0) := by
              have h00 : 0 < s.length := by omega
              cases s with
              | nil => simp at h00
              | cons a t => rfl
            generalize hY : (ba s)[0]'h0 = Y at hat0
            have HY := Lib.hid hat0
            clear hat0
            subst hk1
            by_cases d3 : (Y.toNat : Int) = 48
            · have HD := Lib.hid (show formD s = false by
                rw [Bool.eq_false_iff]; intro h
                have h3 := ((formD_iff s).1 h).2.2
                have e : Y = 48 := UInt8.toNat_inj.1 (by show Y.toNat = 48; omega)
                rw [HY.out, e] at h3
                have := h3 rfl
                omega)
              have y3 : ((Y.toNat : Int) == 48) = true := by simpa using d3
              clear d3
              go_wp2_with fail
              all_goals (try (exfalso; omega))
              go_ret
              exact ⟨by rw [HD.out]; rfl, rfl⟩
            · have HH2 := Lib.hid (show s.head? ≠ some 48 by
                rw [HY.out]; intro e; injection e with e; rw [e] at d3; exact d3 rfl)
              have y3 : ((Y.toNat : Int) == 48) = false := by simpa using d3
              clear d3
              go_wp2_with fail
              all_goals (try (exfalso; omega))
              go_round
              case rel => exact ⟨1 + 1, by omega, rfl, HNx, Lib.hid fun _ => HH2.out⟩
              case measure => simp only [intOf]; omega
          · have y2 : ((k : Int) == 1) = false := by simp; omega
            have HK := Lib.hid hk1
            clear hk1
            go_wp2_with fail
            all_goals (try (exfalso; omega))
            go_round
            case rel => exact ⟨k + 1, by omega, rfl, HNx, Lib.hid fun h => HH.out (by have := HK.out; omega)⟩
            case measure => simp only [intOf, Int.toNat_natCast]; omega
    · have x1 : ¬ (k : Int) < ((ba s).size : Int) := by omega
      obtain rfl : k = s.length := by omega
      have hall : ∀ c ∈ s, isD c = true := by
        intro c hc
        obtain ⟨j, hj⟩ := List.mem_iff_getElem?.1 hc
        exact HN.out j c (List.getElem?_eq_some_iff.1 hj).1 hj
      have HD := Lib.hid (show formD s = decide (0 < s.length) by
        by_cases h0 : s.length = 0
        · rw [decide_eq_false (by omega), Bool.eq_false_iff]; intro h
          exact ((formD_iff s).1 h).1 (List.length_eq_zero_iff.1 h0)
        · rw [decide_eq_true (by omega)]
          exact (formD_iff s).2 ⟨fun e => h0 (by rw [e]; rfl), hall, fun hh => by
            by_cases h2 : 2 ≤ s.length
            · exact absurd hh (HH.out h2)
            · omega⟩)
      clear hall
      go_wp2_with fail
      all_goals (try (exfalso; omega))
      go_ret
      exact ⟨by rw [HD.out]; rfl, rfl⟩
/-- the form of an integer's text -/
def formZ (s : List UInt8) : Bool := if s.head? = some 45 then formD s.tail && s.tail.head? != some 48 else formD s
end Go.Proofs.YtgfodedmcjkmaaaGreatDoor
namespace Go.Proofs.YtgfodedmcjkmaaaGreatDoor
open Go.RowKit Go.Proofs.BitsM
set_option maxRecDepth 100000 in
set_option maxHeartbeats 4000000 in
theorem form_any (s : List UInt8) (hl : s.length ≤ 9223372036854775807) (w : World) :
    Calls Tryz.prog 90 #[.string (ba s)] w fun e w' => e = .returned (.bool (formZ s)) ∧ w' = w := by
  have HD := Lib.hid fun (d : List UInt8) (hd : d.length ≤ s.length) => digits_any d (Nat.le_trans hd hl) w
  cases s with
  | nil =>
    have HN := Lib.hid (show formZ [] = false from rfl)
    have HD0 := Lib.hid (show Calls Tryz.prog 114 #[.string (ba [])] w fun e w' => e = .returned (.bool false) ∧ w' = w from HD.out [] (Nat.le_refl _))
    have s1 : (ba []).size = 0 := rfl
    clear HD
    go_enter Tryz.func90, Tryz.ntmps90
    go_wp2_with fail
    refine HD0.out.mono ?_
    rintro e w1 ⟨rfl, rfl⟩
    go_wp2_with fail
    go_ret
    exact ⟨by rw [HN.out]; rfl, rfl⟩
  | cons a d =>
    have s1 : (ba (a :: d)).size = d.length + 1 := by rw [ba_size]; rfl
    have h0 : 0 < (ba (a :: d)).size := by omega
    have hX : (ba (a :: d))[0]'h0 = a := rfl
    by_cases ha : a = 45
    · subst ha
      have HZ := Lib.hid (show formZ (45 :: d) = (formD d && d.head? != some 48) from rfl)
      have HD1 := Lib.hid (show Calls Tryz.prog 114 #[.string (ba d)] w fun e w' => e = .returned (.bool (formD d)) ∧ w' = w from HD.out d (by simp))
      have ee : (ba (45 :: d)).extract 1 (d.length + 1) = ba d := by rw [extract_ba]; simp
      clear HD
      by_cases hz : d = [48]
      · subst hz
        have HN := Lib.hid (show formZ [45, 48] = false from rfl)
        have y1 : (!(ba [45, 48]).toList == [45, 48]) = false := by rw [ba_toList]; rfl
        go_enter Tryz.func90, Tryz.ntmps90
        go_wp2_with fail
        go_ret
        exact ⟨by rw [HN.out]; rfl, rfl⟩
      · have y1 : (!(ba (45 :: d)).toList == [45, 48]) = true := by
          rw [ba_toList]
          simpa using hz
        have HN := Lib.hid (show formZ (45 :: d) = formD d by
          rw [HZ.out]
          cases hf : formD d with
          | false => rfl
          | true =>
            rw [Bool.true_and, bne_iff_ne]
            intro hh
            have h3 := ((formD_iff d).1 hf).2.2 hh
            match d, hh, h3 with
            | [x], hh, _ => simp at hh; exact hz (by rw [hh]))
        clear hz
        go_enter Tryz.func90, Tryz.ntmps90
        go_wp2_with fail
        refine HD1.out.mono ?_
        rintro e w1 ⟨rfl, rfl⟩
        go_wp2_with fail
        go_ret
        exact ⟨by rw [HN.out]; rfl, rfl⟩
    · have HN := Lib.hid (show formZ (a :: d) = formD (a :: d) by unfold formZ; rw [if_neg (by simpa using ha)])
      have HD1 := Lib.hid (HD.out (a :: d) (Nat.le_refl _))
      have y1 : ((a.toNat : Int) == 45) = false := by
        simp only [beq_eq_false_iff_ne, ne_eq]
        intro h
        exact ha (UInt8.toNat_inj.1 (by show a.toNat = 45; omega))
      clear HD ha
      go_enter Tryz.func90, Tryz.ntmps90
      go_wp2_with fail
      refine HD1.out.mono ?_
      rintro e w1 ⟨rfl, rfl⟩
      go_wp2_with fail
      go_ret
      exact ⟨by rw [HN.out]; rfl, rfl⟩
set_option maxRecDepth 100000 in
set_option maxHeartbeats 4000000 in
theorem neg_any (v : Nat) (h : v ≤ 9223372036854775808) (w : World) :
    Calls Tryz.prog 91 #[.int .i64 (-(v : Int))] w fun e w' => e = .returned (if v = 9223372036854775808 then .tuple #[.int .i64 0, .int .i64 7] else .tuple #[.int .i64 (v : Int), .int .i64 0]) ∧ w' = w := by
  have HS : Calls Tryz.prog 115 #[.int .i64 0, .int .i64 (-(v : Int))] w fun e w' => e = .returned (if v = 9223372036854775808 then .tuple #[.int .i64 0, .int .i64 7] else .tuple #[.int .i64 (v : Int), .int .i64 0]) ∧ w' = w := by
    by_cases hv : v = 9223372036854775808
    · rw [if_pos hv]; subst hv
      go_enter Tryz.func115, Tryz.ntmps115
      go_wp2_with fail
      go_ret2
      exact ⟨rfl, rfl⟩
    · rw [if_neg hv]
      by_cases h0 : v = 0
      · subst h0
        go_enter Tryz.func115, Tryz.ntmps115
        go_wp2_with fail
        go_ret2
        exact ⟨rfl, rfl⟩
      · have x1 : -(v : Int) < 0 := by omega
        have x2 : 0 < v := by omega
        have x3 : v < 9223372036854775808 := by omega
        clear hv h0
        go_enter Tryz.func115, Tryz.ntmps115
        go_wp2_with fail
        all_goals (try (exfalso; omega))
        go_ret2
        exact ⟨rfl, rfl⟩
  have HS := Lib.hid HS
  have HV : ∃ p q, (if v = 9223372036854775808 then (.tuple #[.int .i64 0, .int .i64 7] : Value) else .tuple #[.int .i64 (v : Int), .int .i64 0]) = .tuple #[.int .i64 p, .int .i64 q] := by
    by_cases hv : v = 9223372036854775808
    · exact ⟨0, 7, by rw [if_pos hv]⟩
    · exact ⟨v, 0, by rw [if_neg hv]⟩
  obtain ⟨p, q, hpq⟩ := HV
  rw [hpq] at HS ⊢
  clear hpq
  go_enter Tryz.func91, Tryz.ntmps91
  go_wp2_with fail
  refine HS.out.mono ?_
  rintro e w1 ⟨rfl, rfl⟩
  go_wp2_with fail
  go_ret2
  exact ⟨rfl, rfl⟩
end Go.Proofs.YtgfodedmcjkmaaaGreatDoor
namespace Go.Proofs.YtgfodedmcjkmaaaGreatDoor
open Go.RowKit Go.Proofs.BitsM
theorem valD_take (D : List UInt8) (k : Nat) (x : UInt8) (h : D[k]? = some x) : valD (D.take (k + 1)) = 10 * valD (D.take k) + (x.toNat - 48) := by
  rw [List.take_add_one, h]
  exact valD_snoc _ _
theorem fold_le : ∀ (m : List UInt8) (a : Nat), a ≤ m.foldl (fun a c => 10 * a + (c.toNat - 48)) a
  | [], a => Nat.le_refl _
  | c :: m, a => by rw [List.foldl_cons]; exact Nat.le_trans (by omega) (fold_le m _)
theorem valD_mono (l m : List UInt8) : valD l ≤ valD (l ++ m) := by unfold valD; rw [List.foldl_append]; exact fold_le m _
theorem valD_take_le (D : List UInt8) (k : Nat) : valD (D.take k) ≤ valD D := by
  have := valD_mono (D.take k) (D.drop k)
  rw [List.take_append_drop] at this; exact this
theorem td_law (x : Nat) (h1 : 48 ≤ x) (h2 : x ≤ 57) : (-9223372036854775808 + ((x : Int) - 48)).tdiv 10 = -(((9223372036854775808 - (x - 48)) / 10 : Nat) : Int) := by
  have : x = 48 ∨ x = 49 ∨ x = 50 ∨ x = 51 ∨ x = 52 ∨ x = 53 ∨ x = 54 ∨ x = 55 ∨ x = 56 ∨ x = 57 := by omega
  rcases this with rfl | rfl | rfl | rfl | rfl | rfl | rfl | rfl | rfl | rfl <;> decide
def NumR (s : List UInt8) (w : World) (e : Ending) (w' : World) : Prop := (∃ n x, e = .returned (.tuple #[.int .i64 n, .int .i64 x]) ∧ (readN s = if x = 0 then some n else none) ∧ -9223372036854775808 ≤ n ∧ n ≤ 9223372036854775807) ∧ w' = w
set_option maxRecDepth 100000 in
set_option maxHeartbeats 4000000 in
theorem rrd_form (s : List UInt8) (hl : s.length ≤ 9223372036854775807) (hf : formZ s = false) (hn : readN s = none) (w : World) :
    Calls Tryz.prog 76 #[.string (ba s)] w (NumR s w) := by
  have HF := Lib.hid (show Calls Tryz.prog 90 #[.string (ba s)] w fun e w' => e = .returned (.bool false) ∧ w' = w by have := form_any s hl w; rw [hf] at this; exact this)
  have HN := Lib.hid hn
  clear hf hn
  go_enter Tryz.func76, Tryz.ntmps76
  go_wp2_with fail
  refine HF.out.mono ?_
  rintro e w1 ⟨rfl, rfl⟩
  go_wp2_with fail
  go_ret2
  exact ⟨⟨0, 6, rfl, by rw [HN.out]; rfl, by decide, by decide⟩, rfl⟩
set_option maxRecDepth 100000 in
set_option maxHeartbeats 8000000 in
theorem rrd_neg (d : List UInt8) (hl : (45 :: d).length ≤ 9223372036854775807) (hz : formZ (45 :: d) = true) (hd : formD d = true) (hr : readN (45 :: d) = if decide (valD d ≤ 9223372036854775808) then some (-(valD d : Int)) else none) (w : World) :
    Calls Tryz.prog 76 #[.string (ba (45 :: d))] w (NumR (45 :: d) w) := by
  have HF := Lib.hid (show Calls Tryz.prog 90 #[.string (ba (45 :: d))] w fun e w' => e = .returned (.bool true) ∧ w' = w by have := form_any (45 :: d) hl w; rw [hz] at this; exact this)
  have HR := Lib.hid hr
  have HA := Lib.hid ((formD_iff d).1 hd).2.1
  have hne := ((formD_iff d).1 hd).1
  have hsz : (ba d).size = d.length := ba_size d
  have s1 : (ba (45 :: d)).size = d.length + 1 := by rw [ba_size]; rfl
  have h0 : 0 < (ba (45 :: d)).size := by omega
  have hX0 : (ba (45 :: d))[0]'h0 = 45 := rfl
  have ee : (ba (45 :: d)).extract 1 (d.length + 1) = ba d := by rw [extract_ba]; simp
  have hdl : d.length + 1 ≤ 9223372036854775807 := hl
  clear hz hd hr hne hl
  go_enter Tryz.func76, Tryz.ntmps76
  go_wp2_with fail
  refine HF.out.mono ?_
  rintro e w1 ⟨rfl, rfl⟩
  go_wp2_with fail
  go_loop [5, 6] (fun nv i => ∃ k : Nat, k ≤ d.length ∧ i = .int .i64 k ∧ ∃ v : Nat, nv = .int .i64 (-(v : Int)) ∧ v ≤ 9223372036854775808 ∧ Hid (valD (d.take k) = v)) (fun _ i => d.length - (intOf i).toNat)
  case atStart => exact ⟨0, Nat.zero_le _, rfl, 0, rfl, by decide, Lib.hid (by rw [List.take_zero]; rfl)⟩
  case round =>
    obtain ⟨k, hk, rfl, v, rfl, hv, HV⟩ := hrel
    by_cases hkl : k < d.length
    · have x1 : (k : Int) < ((ba d).size : Int) := by omega
      have hks : k < (ba d).size := by rw [hsz]; exact hkl
      have hat : d[k]? = some ((ba d)[k]'hks) := by rw [List.getElem?_eq_getElem hkl]; rfl
      have hisd := (isD_iff _).1 (HA.out _ (List.mem_of_getElem? hat))
      have HT := Lib.hid (valD_take d k _ hat)
      generalize hX : (ba d)[k]'hks = X at hat hisd HT
      obtain ⟨q1, q2⟩ := hisd
      clear hat
      have td := td_law X.toNat q1 q2
      have hw1 : 10 * v + (X.toNat - 48) ≤ 9223372036854775808 → wrap64 (wrap64 (-(v : Int) * 10) - ((X.toNat : Int) - 48)) = -((10 * v + (X.toNat - 48) : Nat) : Int) := fun ho => by
        rw [i64w (n := -(v : Int) * 10) (by omega) (by omega), i64w (by omega) (by omega)]; omega
      by_cases ho : 10 * v + (X.toNat - 48) ≤ 9223372036854775808
      · have y1 : ¬ (-(v : Int) < (-9223372036854775808 + ((X.toNat : Int) - 48)).tdiv 10) := by rw [td]; omega
        have hw := hw1 ho
        clear td hw1
        go_wp2_with fail
        go_round
        case rel => exact ⟨k + 1, by omega, rfl, 10 * v + (X.toNat - 48), congrArg (Value.int .i64) (by omega), ho, Lib.hid (by rw [HT.out, HV.out])⟩
        case measure => simp only [intOf]; omega
      · have y1 : -(v : Int) < (-9223372036854775808 + ((X.toNat : Int) - 48)).tdiv 10 := by rw [td]; omega
        have HO := Lib.hid (show 9223372036854775808 < valD d by
          have := valD_take_le d (k + 1)
          rw [HT.out, HV.out] at this
          omega)
        clear td hw1 ho
        go_wp2_with fail
        go_ret2
        exact ⟨⟨0, 7, rfl, by rw [HR.out, decide_eq_false (by have := HO.out; omega)]; rfl, by decide, by decide⟩, rfl⟩
    · have x1 : ¬ (k : Int) < ((ba d).size : Int) := by omega
      obtain rfl : k = d.length := by omega
      have hvd := HV.out
      rw [List.take_length] at hvd
      have HVD := Lib.hid hvd
      clear hvd
      go_wp2_with fail
      go_ret2
      exact ⟨⟨-(v : Int), 0, rfl, by rw [HR.out, HVD.out, decide_eq_true hv]; rfl, by omega, by omega⟩, rfl⟩
set_option maxRecDepth 100000 in
set_option maxHeartbeats 8000000 in
theorem rrd_pos (s : List UInt8) (hl : (s).length ≤ 9223372036854775807) (hz : formZ (s) = true) (hd : formD s = true) (h45 : s.head? ≠ some 45) (hr : readN s = if decide (valD s ≤ 9223372036854775807) then some (valD s : Int) else none) (w : World) :
    Calls Tryz.prog 76 #[.string (ba (s))] w (NumR (s) w) := by
  have HF := Lib.hid (show Calls Tryz.prog 90 #[.string (ba (s))] w fun e w' => e = .returned (.bool true) ∧ w' = w by have := form_any (s) hl w; rw [hz] at this; exact this)
  have HR := Lib.hid hr
  have HA := Lib.hid ((formD_iff s).1 hd).2.1
  have hne := ((formD_iff s).1 hd).1
  have hsz : (ba s).size = s.length := ba_size s
  have h0 : 0 < (ba s).size := by rw [hsz]; exact List.length_pos_iff.2 hne
  have y0 : ((((ba s)[0]'h0).toNat : Int) == 45) = false := by
    cases s with
    | nil => exact absurd rfl hne
    | cons a t =>
      simp only [beq_eq_false_iff_ne, ne_eq]
      intro h
      have : a.toNat = 45 := by
        have h2 : (((ba (a :: t))[0]'h0).toNat : Int) = (a.toNat : Int) := rfl
        omega
      exact h45 (by rw [show a = 45 from UInt8.toNat_inj.1 this]; rfl)
  clear h45
  have hdl : s.length ≤ 9223372036854775807 := hl
  clear hz hd hr hne hl
  go_enter Tryz.func76, Tryz.ntmps76
  go_wp2_with fail
  refine HF.out.mono ?_
  rintro e w1 ⟨rfl, rfl⟩
  go_wp2_with fail
  go_loop [5, 6] (fun nv i => ∃ k : Nat, k ≤ s.length ∧ i = .int .i64 k ∧ ∃ v : Nat, nv = .int .i64 (-(v : Int)) ∧ v ≤ 9223372036854775808 ∧ Hid (valD (s.take k) = v)) (fun _ i => s.length - (intOf i).toNat)
  case atStart => exact ⟨0, Nat.zero_le _, rfl, 0, rfl, by decide, Lib.hid (by rw [List.take_zero]; rfl)⟩
  case round =>
    obtain ⟨k, hk, rfl, v, rfl, hv, HV⟩ := hrel
    by_cases hkl : k < s.length
    · have x1 : (k : Int) < ((ba s).size : Int) := by omega
      have hks : k < (ba s).size := by rw [hsz]; exact hkl
      have hat : s[k]? = some ((ba s)[k]'hks) := by rw [List.getElem?_eq_getElem hkl]; rfl
      have hisd := (isD_iff _).1 (HA.out _ (List.mem_of_getElem? hat))
      have HT := Lib.hid (valD_take s k _ hat)
      generalize hX : (ba s)[k]'hks = X at hat hisd HT
      obtain ⟨q1, q2⟩ := hisd
      clear hat
      have td := td_law X.toNat q1 q2
      have hw1 : 10 * v + (X.toNat - 48) ≤ 9223372036854775808 → wrap64 (wrap64 (-(v : Int) * 10) - ((X.toNat : Int) - 48)) = -((10 * v + (X.toNat - 48) : Nat) : Int) := fun ho => by
        rw [i64w (n := -(v : Int) * 10) (by omega) (by omega), i64w (by omega) (by omega)]; omega
      by_cases ho : 10 * v + (X.toNat - 48) ≤ 9223372036854775808
      · have y1 : ¬ (-(v : Int) < (-9223372036854775808 + ((X.toNat : Int) - 48)).tdiv 10) := by rw [td]; omega
        have hw := hw1 ho
        clear td hw1
        go_wp2_with fail
        go_round
        case rel => exact ⟨k + 1, by omega, rfl, 10 * v + (X.toNat - 48), congrArg (Value.int .i64) (by omega), ho, Lib.hid (by rw [HT.out, HV.out])⟩
        case measure => simp only [intOf]; omega
      · have y1 : -(v : Int) < (-9223372036854775808 + ((X.toNat : Int) - 48)).tdiv 10 := by rw [td]; omega
        have HO := Lib.hid (show 9223372036854775808 < valD s by
          have := valD_take_le s (k + 1)
          rw [HT.out, HV.out] at this
          omega)
        clear td hw1 ho
        go_wp2_with fail
        go_ret2
        exact ⟨⟨0, 7, rfl, by rw [HR.out, decide_eq_false (by have := HO.out; omega)]; rfl, by decide, by decide⟩, rfl⟩
    · have x1 : ¬ (k : Int) < ((ba s).size : Int) := by omega
      obtain rfl : k = s.length := by omega
      have hvd := HV.out
      rw [List.take_length] at hvd
      have HVD := Lib.hid hvd
      clear hvd
      have HNg := Lib.hid (neg_any v hv w1)
      by_cases hv2 : v = 9223372036854775808
      · rw [if_pos hv2] at HNg
        have HG := Lib.hid HNg.out
        have HV2 := Lib.hid hv2
        clear hv2
        go_wp2_with fail
        refine HG.out.mono ?_
        rintro e w1 ⟨rfl, rfl⟩
        go_wp2_with fail
        go_ret2
        exact ⟨⟨0, 7, rfl, by rw [HR.out, HVD.out, decide_eq_false (by have := HV2.out; omega)]; rfl, by decide, by decide⟩, rfl⟩
      · rw [if_neg hv2] at HNg
        have HG := Lib.hid HNg.out
        have HV2 := Lib.hid hv2
        clear hv2
        go_wp2_with fail
        refine HG.out.mono ?_
        rintro e w1 ⟨rfl, rfl⟩
        go_wp2_with fail
        go_ret2
        exact ⟨⟨(v : Int), 0, rfl, by rw [HR.out, HVD.out, decide_eq_true (by have := HV2.out; omega)]; rfl, by omega, by have := HV2.out; omega⟩, rfl⟩
theorem rRead_any (s : List UInt8) (hl : s.length ≤ 9223372036854775807) (w : World) : Calls Tryz.prog 76 #[.string (ba s)] w (NumR s w) := by
  cases s with
  | nil => exact rrd_form [] hl rfl rfl w
  | cons a d =>
    by_cases ha : a = 45
    · subst ha
      have e : readN (45 :: d) = if formZ (45 :: d) && decide (valD d ≤ 9223372036854775808) then some (-(valD d : Int)) else none := rfl
      cases hz : formZ (45 :: d) with
      | false => exact rrd_form _ hl hz (by rw [e, hz]; rfl) w
      | true =>
        have hd : formD d = true := by
          have : formZ (45 :: d) = (formD d && d.head? != some 48) := rfl
          rw [hz] at this
          exact (Bool.and_eq_true _ _ ▸ this.symm).1
        exact rrd_neg d hl hz hd (by rw [e, hz, Bool.true_and]) w
    · have h45 : (a :: d).head? ≠ some 45 := by simpa using ha
      have e := readN_pos (a :: d) h45
      have ez : formZ (a :: d) = formD (a :: d) := by unfold formZ; rw [if_neg h45]
      cases hz : formZ (a :: d) with
      | false => exact rrd_form _ hl hz (by rw [e, ← ez, hz]; rfl) w
      | true => exact rrd_pos (a :: d) hl hz (by rw [← ez]; exact hz) h45 (by rw [e, ← ez, hz, Bool.true_and]) w
end Go.Proofs.YtgfodedmcjkmaaaGreatDoor
namespace Go.Proofs.YtgfodedmcjkmaaaGreatDoor
open Go.RowKit Go.Proofs.BitsM
def digL : List UInt8 := [45, 48, 49, 50, 51, 52, 53, 54, 55, 56, 57]
def letL : List UInt8 := [97, 98, 99, 100, 101, 102, 103, 104, 105, 106, 107, 108, 109, 110, 111, 112, 113, 114, 115, 116, 117, 118, 119, 120, 121, 122, 65, 66, 67, 68, 69, 70, 71, 72, 73, 74, 75, 76, 77, 78, 79, 80, 81, 82, 83, 84, 85, 86, 87, 88, 89, 90, 48, 49, 50, 51, 52, 53, 54, 55, 56, 57, 95, 64]
theorem byte_all {p : UInt8 → Bool} (h : (List.range 256).all (fun n => p (UInt8.ofNat n)) = true) (c : UInt8) : p c = true := by
  have := List.all_eq_true.1 h c.toNat (List.mem_range.2 c.toNat_lt)
  rw [UInt8.ofNat_toNat] at this; exact this
theorem digL_is (c : UInt8) : decide (c ∈ digL) = digC c := by
  have := byte_all (p := fun c => decide (c ∈ digL) == digC c) (by decide +kernel) c
  simpa using this
theorem letL_is (c : UInt8) : decide (c ∈ letL) = letC c := by
  have := byte_all (p := fun c => decide (c ∈ letL) == letC c) (by decide +kernel) c
  simpa using this
/-- what number answers: n, and whether it was bad -/
def NumP (R : Nat) (l : List UInt8) (bad : Bool) (w : World) (e : Ending) (w' : World) : Prop :=
  ∃ n x, e = .returned (.int .i64 n) ∧ (-9223372036854775808 ≤ n ∧ n ≤ 9223372036854775807) ∧ readN (l.takeWhile digC) = (if x then none else some n) ∧ RrT R (l.dropWhile digC) (bad || x) w w'
set_option maxRecDepth 100000 in
set_option maxHeartbeats 4000000 in
theorem rNumber_any (R : Nat) (l : List UInt8) (bad : Bool) (w : World) (hr : Rr R l bad w) (hl : l.length ≤ 9223372036854775807) :
    Calls Tryz.prog 58 #[.pointer (some ⟨R, 0, none⟩)] w (NumP R l bad w) := by
  have HW := Lib.hid (show Calls Tryz.prog 77 #[.pointer (some ⟨R, 0, none⟩), .string ⟨#[45, 48, 49, 50, 51, 52, 53, 54, 55, 56, 57]⟩] w fun e w' => e = .returned (.string (ba (l.takeWhile digC))) ∧ RrT R (l.dropWhile digC) bad w w' from
    (while_any digL (by decide) digC digL_is R l bad w hr hl).mono fun e w' h => ⟨h.1, by rw [h.2]; exact ⟨hr.set, Ch.of_set w R 0 _⟩⟩)
  have HRd := Lib.hid fun W => rRead_any (l.takeWhile digC) (Nat.le_trans (by have := congrArg List.length (List.takeWhile_append_dropWhile (p := digC) (l := l)); rw [List.length_append] at this; omega) hl) W
  clear hr hl
  go_enter Tryz.func58, Tryz.ntmps58
  go_wp2_with fail
  refine HW.out.mono ?_
  rintro e w1 ⟨rfl, ht⟩
  have HT := Lib.hid ht
  clear ht
  go_wp2_with fail
  refine (HRd.out _).mono ?_
  rintro e w2 ⟨⟨n, x, rfl, hrn, h0, h1⟩, rfl⟩
  have HN := Lib.hid hrn
  clear hrn
  have HRg := Lib.hid (show -9223372036854775808 ≤ n ∧ n ≤ 9223372036854775807 from ⟨h0, h1⟩)
  clear h0 h1
  by_cases hx : x = 0
  · subst hx
    have HN := Lib.hid (show readN (l.takeWhile digC) = some n from HN.out)
    go_wp2_with fail
    go_ret
    exact ⟨n, false, rfl, HRg.out, HN.out, by rw [Bool.or_false]; exact HT.out⟩
  · have HN := Lib.hid (show readN (l.takeWhile digC) = none by rw [HN.out, if_neg hx])
    have y : (x == 0) = false := by simpa using hx
    have c1 := HT.out.1.c1
    have fr := HT.out.1.fr 1
    clear hx
    go_wp2_with fail
    go_ret
    exact ⟨n, true, rfl, HRg.out, HN.out, by rw [Bool.or_true]; exact ⟨HT.out.1.mark, Ch.trans HT.out.2 (Ch.of_set _ R 1 _) fun i _ h => ⟨h, h⟩⟩⟩
set_option maxRecDepth 100000 in
set_option maxHeartbeats 4000000 in
theorem rName_any (R : Nat) (l : List UInt8) (bad : Bool) (w : World) (hr : Rr R l bad w) (hl : l.length ≤ 9223372036854775807) :
    Calls Tryz.prog 59 #[.pointer (some ⟨R, 0, none⟩)] w fun e w' => e = .returned (.string (ba (l.takeWhile letC))) ∧ RrT R (l.dropWhile letC) bad w w' := by
  have HW := Lib.hid (show Calls Tryz.prog 77 #[.pointer (some ⟨R, 0, none⟩), .string ⟨#[97, 98, 99, 100, 101, 102, 103, 104, 105, 106, 107, 108, 109, 110, 111, 112, 113, 114, 115, 116, 117, 118, 119, 120, 121, 122, 65, 66, 67, 68, 69, 70, 71, 72, 73, 74, 75, 76, 77, 78, 79, 80, 81, 82, 83, 84, 85, 86, 87, 88, 89, 90, 48, 49, 50, 51, 52, 53, 54, 55, 56, 57, 95, 64]⟩] w fun e w' => e = .returned (.string (ba (l.takeWhile letC))) ∧ RrT R (l.dropWhile letC) bad w w' from
    (while_any letL (by decide) letC letL_is R l bad w hr hl).mono fun e w' h => ⟨h.1, by rw [h.2]; exact ⟨hr.set, Ch.of_set w R 0 _⟩⟩)
  clear hr hl
  go_enter Tryz.func59, Tryz.ntmps59
  go_wp2_with fail
  refine HW.out.mono ?_
  rintro e w1 ⟨rfl, ht⟩
  have HT := Lib.hid ht
  clear ht
  go_wp2_with fail
  go_ret
  exact ⟨rfl, HT.out⟩
end Go.Proofs.YtgfodedmcjkmaaaGreatDoor
namespace Go.Proofs.YtgfodedmcjkmaaaGreatDoor
open Go.RowKit Go.Proofs.BitsM
/-- what must leaves of a text, and whether it is bad then -/
def mL (b : Bool) (l p : List UInt8) : List UInt8 := if !b && hp l p then l.drop p.length else l
def mB (b : Bool) (l p : List UInt8) : Bool := !(!b && hp l p)
theorem mL_len (b : Bool) (l p : List UInt8) : (mL b l p).length ≤ l.length := by
  unfold mL; split
  · rw [List.length_drop]; omega
  · exact Nat.le_refl _
theorem mB_true (l p : List UInt8) : mB true l p = true := rfl
theorem m_false (l p : List UInt8) : pMust p l = if mB false l p then none else some (mL false l p) := by
  unfold pMust mB mL
  cases h : hp l p <;> rfl
theorem rMust_m (R : Nat) (l : List UInt8) (p : ByteArray) (bad : Bool) (w : World) (hr : Rr R l bad w) :
    Calls Tryz.prog 55 #[.pointer (some ⟨R, 0, none⟩), .string p] w fun e w' => e = .returned (.tuple #[]) ∧ Rr R (mL bad l (bl p)) (mB bad l (bl p)) w' ∧ Ch (fun b => b = R) w w' := rMust_any R l (bl p) bad w hr
def MarkQ (k : Int) (R : Nat) (l : List UInt8) (bad : Bool) (w : World) (e : Ending) (w' : World) : Prop :=
  ∃ nm g i l' b', e = .returned (.agg #[.int .i64 k, .int .i64 i, .int .i64 g, .string nm, .string ⟨#[]⟩, .int .i64 0, .slice none 0 0, .string ⟨#[]⟩, .int .i64 0]) ∧ Rr R l' b' w' ∧ Ch (fun b => b = R) w w' ∧ l'.length ≤ l.length ∧ (bad = true → b' = true) ∧ (bad = false → pMarked k l = if b' then none else some (⟨k, i, g, nm, ⟨#[]⟩, 0, ⟨#[]⟩, 0⟩, l'))
theorem pInt_of {s : List UInt8} {n : Int} {x : Bool} (h : readN (s.takeWhile digC) = if x then none else some n) : pInt s = if x then none else some (n, s.dropWhile digC) := by
  unfold pInt; rw [h]; cases x <;> rfl
theorem marked_law (k : Int) (l : List UInt8) (g i : Int) (x y : Bool) (h1 : readN ((mL false (l.dropWhile letC) [46]).takeWhile digC) = if x then none else some g) (h2 : readN ((mL (mB false (l.dropWhile letC) [46] || x) ((mL false (l.dropWhile letC) [46]).dropWhile digC) [46]).takeWhile digC) = if y then none else some i) :
    pMarked k l = if (mB (mB false (l.dropWhile letC) [46] || x) ((mL false (l.dropWhile letC) [46]).dropWhile digC) [46] || y) then none else some (⟨k, i, g, ba (l.takeWhile letC), ⟨#[]⟩, 0, ⟨#[]⟩, 0⟩, (mL (mB false (l.dropWhile letC) [46] || x) ((mL false (l.dropWhile letC) [46]).dropWhile digC) [46]).dropWhile digC) := by
  unfold pMarked
  rw [m_false]
  cases hb : mB false (l.dropWhile letC) [46] with
  | true => simp [mB_true]
  | false =>
    simp only [Bool.false_eq_true, if_false, Option.bind_some, Bool.false_or]
    rw [pInt_of h1]
    cases x with
    | true => simp [mB_true]
    | false =>
      rw [hb] at h2
      simp only [Bool.false_eq_true, if_false, Option.bind_some, Bool.false_or] at h2 ⊢
      rw [m_false]
      cases hc : mB false ((mL false (l.dropWhile letC) [46]).dropWhile digC) [46] with
      | true => simp
      | false =>
        simp only [Bool.false_eq_true, if_false, Option.bind_some, Bool.false_or]
        rw [pInt_of h2]
        cases y <;> rfl
theorem dropC_len (p : UInt8 → Bool) (l : List UInt8) (m : Nat) (h : l.length ≤ m) : (l.dropWhile p).length ≤ m := Nat.le_trans (dropW_len p l) h
set_option maxRecDepth 100000 in
set_option maxHeartbeats 8000000 in
theorem rMarked_any (k : Int) (R : Nat) (l : List UInt8) (bad : Bool) (w : World) (hr : Rr R l bad w) (hl : l.length ≤ 1000000000) :
    Calls Tryz.prog 57 #[.pointer (some ⟨R, 0, none⟩), .int .i64 k] w (MarkQ k R l bad w) := by
  have hRw : R < w.heap.size := lt_of_block hr
  have HF0 := Lib.hid (show Bq w [.blk R #[.string (ba (l)), .bool (bad)] 60, .base (fun b => b = R) w] from ⟨hr, Ch.refl _ _, trivial⟩)
  clear hr
  go_enter Tryz.func57, Tryz.ntmps57
  go_wp2_with fail
  have HF1 := Lib.hid (HF0.out.box #[.int .i64 0, .int .i64 0, .int .i64 0, .string ⟨#[]⟩, .string ⟨#[]⟩, .int .i64 0, .slice none 0 0, .string ⟨#[]⟩, .int .i64 0] 24 (n := w.heap.size) (by rfl))
  clear HF0
  refine (rName_any R _ _ _ (HF1.out.blk 1 rfl) (by omega)).mono ?_
  rintro e w1 ⟨rfl, hr, ho⟩
  have HF2 := Lib.hid (HF1.out.call 1 ho hr (by refine ⟨?_, ?_, trivial⟩ <;> (simp only [Fq.apart]; first | omega | (intro b h1 h2; omega) | (intro b h1 h2 h3; omega))))
  have hz1 : w.heap.size + 1 ≤ w1.heap.size := by have := ho.size; first | omega | (simp at this; omega)
  clear HF1 ho hr
  go_wp2_with fail
  have HF3 := Lib.hid (HF2.out.box #[.int .i64 k, .int .i64 0, .int .i64 0, .string (ba (l.takeWhile letC)), .string ⟨#[]⟩, .int .i64 0, .slice none 0 0, .string ⟨#[]⟩, .int .i64 0] 24 (n := w1.heap.size) (by rfl))
  clear HF2
  have hk1 : (l.dropWhile letC).length ≤ 1000000000 := dropC_len _ _ _ hl
  have hk2 : (mL bad (l.dropWhile letC) [46]).length ≤ 1000000000 := Nat.le_trans (mL_len _ _ _) hk1
  have HK := Lib.hid (show (mL bad (l.dropWhile letC) [46]).length ≤ 1000000000 ∧ (mL bad (l.dropWhile letC) [46]).length ≤ l.length from ⟨hk2, Nat.le_trans (mL_len _ _ _) (dropW_len _ _)⟩)
  clear hk1 hk2
  refine (rMust_m R _ _ _ _ (HF3.out.blk 1 rfl)).mono ?_
  rintro e w2 ⟨rfl, hr, ho⟩
  have HF4 := Lib.hid (HF3.out.call 1 ho hr (by refine ⟨?_, ?_, ?_, trivial⟩ <;> (simp only [Fq.apart]; first | omega | (intro b h1 h2; omega) | (intro b h1 h2 h3; omega))))
  have hz2 : w1.heap.size + 1 ≤ w2.heap.size := by have := ho.size; first | omega | (simp at this; omega)
  clear HF3 ho hr
  go_wp2_with fail
  refine (rNumber_any R _ _ _ (HF4.out.blk 0 rfl) (Nat.le_trans HK.out.1 (by decide))).mono ?_
  rintro e w3 ⟨g, x, rfl, hg, hn, hr, ho⟩
  have HF5 := Lib.hid (HF4.out.call 0 ho hr (by refine ⟨?_, ?_, ?_, trivial⟩ <;> (simp only [Fq.apart]; first | omega | (intro b h1 h2; omega) | (intro b h1 h2 h3; omega))))
  have hz3 : w2.heap.size ≤ w3.heap.size := by have := ho.size; first | omega | (simp at this; omega)
  clear HF4 ho hr
  have HN1 := Lib.hid hn
  clear hn hg
  obtain ⟨e0, e1, e2, e3, e4, e5, e6, e7, e8, fs⟩ := nine_cells (HF5.out.blk 1 rfl)
  have hb1 := lt_of_block (HF5.out.blk 1 rfl)
  go_wp2_with fail
  have HF6 := Lib.hid (HF5.out.set (c := [.int .i64 k, .int .i64 0, .int .i64 0, .string (ba (l.takeWhile letC)), .string ⟨#[]⟩, .int .i64 0, .slice none 0 0, .string ⟨#[]⟩, .int .i64 0]) 1 rfl 2 (.int .i64 g) (by refine ⟨?_, ?_, ?_, trivial⟩ <;> (simp only [Fq.apart]; first | omega | (intro b h1 h2; omega) | (intro b h1 h2 h3; omega))))
  clear HF5
  clear e0 e1 e2 e3 e4 e5 e6 e7 e8 fs hb1
  refine (rMust_m R _ _ _ _ (HF6.out.blk 1 rfl)).mono ?_
  rintro e w4 ⟨rfl, hr, ho⟩
  have HF7 := Lib.hid (HF6.out.call 1 ho hr (by refine ⟨?_, ?_, ?_, trivial⟩ <;> (simp only [Fq.apart]; first | omega | (intro b h1 h2; omega) | (intro b h1 h2 h3; omega))))
  have hz4 : w3.heap.size ≤ w4.heap.size := by have := ho.size; first | omega | (simp at this; omega)
  clear HF6 ho hr
  go_wp2_with fail
  have HK4 := Lib.hid (show (mL (mB bad (l.dropWhile letC) [46] || x) ((mL bad (l.dropWhile letC) [46]).dropWhile digC) [46]).length ≤ 1000000000 ∧ (mL (mB bad (l.dropWhile letC) [46] || x) ((mL bad (l.dropWhile letC) [46]).dropWhile digC) [46]).length ≤ l.length from ⟨Nat.le_trans (mL_len _ _ _) (Nat.le_trans (dropW_len _ _) HK.out.1), Nat.le_trans (mL_len _ _ _) (Nat.le_trans (dropW_len _ _) HK.out.2)⟩)
  refine (rNumber_any R _ _ _ (HF7.out.blk 0 rfl) (Nat.le_trans HK4.out.1 (by decide))).mono ?_
  rintro e w5 ⟨i, y, rfl, hg, hn, hr, ho⟩
  have HF8 := Lib.hid (HF7.out.call 0 ho hr (by refine ⟨?_, ?_, ?_, trivial⟩ <;> (simp only [Fq.apart]; first | omega | (intro b h1 h2; omega) | (intro b h1 h2 h3; omega))))
  have hz5 : w4.heap.size ≤ w5.heap.size := by have := ho.size; first | omega | (simp at this; omega)
  clear HF7 ho hr
  have HN2 := Lib.hid hn
  clear hn hg
  obtain ⟨e0, e1, e2, e3, e4, e5, e6, e7, e8, fs⟩ := nine_cells (HF8.out.blk 1 rfl)
  obtain ⟨d0, d1, d2, d3, d4, d5, d6, d7, d8, gs⟩ := nine_cells (HF8.out.blk 2 rfl)
  have hb1 := lt_of_block (HF8.out.blk 1 rfl)
  have hb2 := lt_of_block (HF8.out.blk 2 rfl)
  go_wp2_with fail
  have HF9 := Lib.hid (HF8.out.set (c := [.int .i64 k, .int .i64 0, .int .i64 g, .string (ba (l.takeWhile letC)), .string ⟨#[]⟩, .int .i64 0, .slice none 0 0, .string ⟨#[]⟩, .int .i64 0]) 1 rfl 1 (.int .i64 i) (by refine ⟨?_, ?_, ?_, trivial⟩ <;> (simp only [Fq.apart]; first | omega | (intro b h1 h2; omega) | (intro b h1 h2 h3; omega))))
  clear HF8
  have HF10 := Lib.hid (HF9.out.put 2 rfl (by refine ⟨?_, ?_, ?_, trivial⟩ <;> (simp only [Fq.apart]; first | omega | (intro b h1 h2; omega) | (intro b h1 h2 h3; omega))) (.int .i64 k) (.int .i64 i) (.int .i64 g) (.string (ba (l.takeWhile letC))) (.string ⟨#[]⟩) (.int .i64 0) (.slice none 0 0) (.string ⟨#[]⟩) (.int .i64 0))
  clear HF9
  refine bodyPost_ret (results_one rfl _ _ w.heap.size _ _ _ _ _ _ _ _ _ rfl (HF10.out.blk 0 rfl)) rfl ?_
  refine ⟨ba (l.takeWhile letC), g, i, (mL (mB bad (l.dropWhile letC) [46] || x) ((mL bad (l.dropWhile letC) [46]).dropWhile digC) [46]).dropWhile digC, (mB (mB bad (l.dropWhile letC) [46] || x) ((mL bad (l.dropWhile letC) [46]).dropWhile digC) [46] || y), rfl, (HF10.out.blk 2 rfl), (HF10.out.base 3 rfl), Nat.le_trans (dropW_len _ _) HK4.out.2, ?_, ?_⟩
  · rintro rfl; rfl
  · rintro rfl
    exact marked_law k l g i x y HN1.out HN2.out
end Go.Proofs.YtgfodedmcjkmaaaGreatDoor
