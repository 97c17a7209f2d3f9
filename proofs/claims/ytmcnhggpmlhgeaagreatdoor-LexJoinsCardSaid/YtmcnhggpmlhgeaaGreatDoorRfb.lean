/-
  Walks: the reference: number. Walks: the reference: quoted. Walks: the reference: token.
-/
import Derived.Test.YtmcnhggpmlhgeaaGreatDoorRfA
import Derived.Test.YtmcnhggpmlhgeaaGreatDoorLb
import Derived.Test.YtmcnhggpmlhgeaaGreatDoorRpI
import Derived.Deep.DeepCutAuto
namespace Go.Proofs.YtmcnhggpmlhgeaaGreatDoor
open Go.RowKit Go.Proofs.BitsM
theorem numV_snoc (l : List UInt8) (c : UInt8) : numV (l ++ [c]) = 10 * numV l + (c.toNat - 48) := valD_snoc l c
theorem numV_take {s : List UInt8} {k : Nat} (h : k < s.length) : numV (s.take (k + 1)) = 10 * numV (s.take k) + (s[k].toNat - 48) := by
  rw [List.take_succ_eq_append_getElem h, numV_snoc]
theorem head_at3 {X : List UInt8} {d : UInt8} {s : List UInt8} (h : X = d :: s) (h1 : 0 < (ba X).size) : (ba X)[0]'h1 = d := by subst h; rfl
theorem lead_eq {s : List UInt8} {z : UInt8} {r : List UInt8} (hz : s = z :: r) (n : Nat) (h : (s.takeWhile numC).length = n) : (decide (1 < (s.takeWhile numC).length) && decide ((s.takeWhile numC).head? = some 48)) = (decide (1 < n) && decide (z = 48)) := by
  have ht : s.takeWhile numC = s.take n := by rw [← h, tw_take]
  rw [h]
  by_cases h1 : 1 < n
  · rw [ht, List.head?_take, if_neg (by omega), hz]
    simp
  · rw [decide_eq_false h1]; rfl
theorem numOk_eq {s : List UInt8} {z : UInt8} {r : List UInt8} (hz : s = z :: r) (n V : Nat) (h : (s.takeWhile numC).length = n) (hV : numV (s.takeWhile numC) = V) (rest : List UInt8) :
    numOk (s.takeWhile numC) rest = (decide (V ≤ 9223372036854775808) && !(decide (1 < n) && decide (z = 48)) && !(match rest with | c :: _ => namC c | [] => false)) := by
  unfold numOk
  rw [lead_eq hz n h, hV]
  cases rest <;> rfl
set_option maxRecDepth 100000 in
set_option maxHeartbeats 8000000 in
theorem number_r (s : List UInt8) (w : World) (hl : s.length ≤ 1000000) (h0 : s ≠ []) : Calls Tryz.prog 62 #[.string (ba s)] w fun e w' => ∃ N : Int, e = .returned (.tuple #[.int .u64 N, .int .i64 ((s.takeWhile numC).length : Int), .bool (numOk (s.takeWhile numC) (s.dropWhile numC))]) ∧ (numOk (s.takeWhile numC) (s.dropWhile numC) = true → N = (numV (s.takeWhile numC) : Int)) ∧ w' = w := by
  have s1 : ((ba s).size : Int) = (s.length : Int) := by rw [ba_size]
  have s2 : (ba s).size = s.length := by rw [ba_size]
  obtain ⟨z, r, hz⟩ : ∃ z r, s = z :: r := by cases s with | nil => exact absurd rfl h0 | cons z r => exact ⟨z, r, rfl⟩
  have HZ := Lib.hid hz
  clear hz h0
  obtain ⟨n, hn⟩ : ∃ n, (s.takeWhile numC).length = n := ⟨_, rfl⟩
  have hnl : n ≤ s.length := hn ▸ tw_le numC s
  have HN := Lib.hid hn
  have HT := Lib.hid (show s.takeWhile numC = s.take n from by rw [← hn, tw_take])
  rw [hn]
  clear hn
  generalize hK : numOk (s.takeWhile numC) (s.dropWhile numC) = K
  generalize hV : numV (s.takeWhile numC) = V
  have HK := Lib.hid hK
  have HV := Lib.hid hV
  clear hK hV
  go_enter Tryz.func62, Tryz.ntmps62
  go_wp2_with fail
  go_loop [5, 6, 7] (fun vn vk vo => ∃ (k : Nat) (N : Int), k ≤ n ∧ vk = .int .i64 k ∧ vn = .int .u64 N ∧ vo = .bool (decide (numV (s.take k) ≤ 9223372036854775808)) ∧ (numV (s.take k) ≤ 9223372036854775808 → N = (numV (s.take k) : Int))) (fun _ vk _ => n - (intOf vk).toNat)
  case atStart => exact ⟨0, 0, Nat.zero_le _, rfl, rfl, rfl, fun _ => rfl⟩
  case round =>
    obtain ⟨k, N, hk, rfl, rfl, rfl, hNk⟩ := hrel
    by_cases hlt : k < s.length
    · have x1 : (k : Int) < (s.length : Int) := by omega
      have hks : k < (ba s).size := by omega
      obtain ⟨c, hc, hcs⟩ : ∃ c, (ba s)[k]'hks = c ∧ s[k]'hlt = c := ⟨_, rfl, rfl⟩
      by_cases h : k < n
      · have hq : numC c = true := by rw [← hcs]; exact tw_at numC s k hlt (by rw [HN.out]; exact h)
        have HQ := Lib.hid fun W => (show Calls Tryz.prog 61 #[.int .u8 (c.toNat : Int)] W fun e w' => e = .returned (.bool true) ∧ w' = W from by rw [← hq]; exact digit_r c W)
        rw [numC_iff] at hq
        have hst := numV_take hlt
        rw [hcs] at hst
        have HC := Lib.hid hc
        clear hcs
        obtain ⟨d, hd⟩ : ∃ d, c.toNat - 48 = d := ⟨_, rfl⟩
        rw [hd] at hst
        have hd9 : d ≤ 9 := by omega
        have hcd : ((c.toNat : Int) - 48) % 256 = (d : Int) := by omega
        have HCD := Lib.hid hcd
        clear hcd
        go_wp2_with fail
        refine (HQ.out w).mono ?_
        rintro e w1 ⟨rfl, rfl⟩
        have hcd := HCD.out
        generalize hv : numV (s.take k) = v at *
        by_cases hle : v ≤ 9223372036854775808
        · rw [decide_eq_true hle]
          obtain rfl := hNk hle
          have hc48 : 48 ≤ c.toNat := hq.1
          have hd2 : d = c.toNat - 48 := hd.symm
          go_wp2_with fail
          go_round
          case rel =>
            refine ⟨k + 1, _, by omega, by go_num, rfl, ?_, fun hw => ?_⟩
            · rw [hst]
              exact congrArg Value.bool (decide_eq_decide.2 (by omega))
            · rw [hst] at hw ⊢
              rw [IntKind.wrap_u64, IntKind.wrap_u64]
              omega
          case measure => simp only [intOf]; omega
        · rw [decide_eq_false hle]
          go_wp2_with fail
          go_round
          case rel =>
            refine ⟨k + 1, _, by omega, by go_num, rfl, ?_, fun hw => ?_⟩
            · rw [hst]
              exact congrArg Value.bool (decide_eq_false (by omega)).symm
            · rw [hst] at hw; exact absurd hw (by omega)
          case measure => simp only [intOf]; omega
      · obtain rfl : k = n := by omega
        have hq : numC c = false := by
          have h2 := tw_stop numC s (by rw [HN.out]; exact hlt)
          have e : s[k]'hlt = s[(s.takeWhile numC).length]'(by rw [HN.out]; exact hlt) := by congr 1; exact HN.out.symm
          rw [← hcs]; exact e ▸ h2
        have HQ := Lib.hid fun W => (show Calls Tryz.prog 61 #[.int .u8 (c.toNat : Int)] W fun e w' => e = .returned (.bool false) ∧ w' = W from by rw [← hq]; exact digit_r c W)
        have HNm := Lib.hid fun W => named_r c W
        have hrest : s.dropWhile numC = c :: s.drop (k + 1) := by rw [← tw_drop, HN.out, List.drop_eq_getElem_cons hlt, hcs]
        have hKK := numOk_eq HZ.out k V HN.out HV.out (s.dropWhile numC)
        rw [HK.out, hrest] at hKK
        simp only at hKK
        have hVk : numV (s.take k) = V := by rw [← HT.out]; exact HV.out
        rw [hVk] at hNk ⊢
        have HNk := Lib.hid hNk
        have hz0 : 0 < (ba s).size := by omega
        have hzz : (ba s)[0]'hz0 = z := head_at3 HZ.out hz0
        have hzd : decide (z = 48) = decide (z.toNat = 48) := decide_eq_decide.2 ⟨fun h => by rw [h]; rfl, fun h => UInt8.toNat_inj.1 h⟩
        rw [hzd] at hKK
        have HKK := Lib.hid hKK
        clear hKK hNk hrest hVk hq hcs hzd
        go_wp2_with fail
        refine (HQ.out w).mono ?_
        rintro e w1 ⟨rfl, rfl⟩
        by_cases hk1 : 1 < k
        · have y1 : (1 : Int) < (k : Int) := by omega
          by_cases hz48 : z.toNat = 48
          · have y2 : ((z.toNat : Int) == 48) = true := by simp; omega
            have HR := Lib.hid (show K = false from by rw [HKK.out, decide_eq_true hk1, decide_eq_true hz48]; simp)
            clear HKK hk1 hz48
            go_wp2_with fail
            go_ret3
            exact ⟨N, by rw [HR.out]; rfl, fun h => by rw [HR.out] at h; exact Bool.noConfusion h, rfl⟩
          · have y2 : ((z.toNat : Int) == 48) = false := by simp; omega
            have HR := Lib.hid (show K = (decide (V ≤ 9223372036854775808) && !namC c) from by rw [HKK.out, decide_eq_false hz48]; simp)
            clear HKK hk1 hz48
            go_wp2_with fail
            refine (HNm.out w1).mono ?_
            rintro e w2 ⟨rfl, rfl⟩
            cases hnc : namC c with
            | true =>
              have HR2 := Lib.hid (show K = false from by rw [HR.out, hnc]; simp)
              go_wp2_with fail
              go_ret3
              exact ⟨N, by rw [HR2.out]; rfl, fun h => by rw [HR2.out] at h; exact Bool.noConfusion h, rfl⟩
            | false =>
              have HR2 := Lib.hid (show K = decide (V ≤ 9223372036854775808) from by rw [HR.out, hnc]; simp)
              go_wp2_with fail
              go_ret3
              exact ⟨N, by rw [HR2.out]; rfl, fun h => HNk.out (by rw [HR2.out] at h; exact of_decide_eq_true h), rfl⟩
        · have y1 : ¬ (1 : Int) < (k : Int) := by omega
          have HR := Lib.hid (show K = (decide (V ≤ 9223372036854775808) && !namC c) from by rw [HKK.out, decide_eq_false hk1]; simp)
          clear HKK hk1
          go_wp2_with fail
          refine (HNm.out w1).mono ?_
          rintro e w2 ⟨rfl, rfl⟩
          cases hnc : namC c with
          | true =>
            have HR2 := Lib.hid (show K = false from by rw [HR.out, hnc]; simp)
            go_wp2_with fail
            go_ret3
            exact ⟨N, by rw [HR2.out]; rfl, fun h => by rw [HR2.out] at h; exact Bool.noConfusion h, rfl⟩
          | false =>
            have HR2 := Lib.hid (show K = decide (V ≤ 9223372036854775808) from by rw [HR.out, hnc]; simp)
            go_wp2_with fail
            go_ret3
            exact ⟨N, by rw [HR2.out]; rfl, fun h => HNk.out (by rw [HR2.out] at h; exact of_decide_eq_true h), rfl⟩
    · have x1 : ¬ (k : Int) < (s.length : Int) := by omega
      obtain rfl : k = n := by omega
      have hkl : k = s.length := by omega
      have hrest : s.dropWhile numC = [] := by rw [← tw_drop, HN.out, hkl, List.drop_length]
      have hKK := numOk_eq HZ.out k V HN.out HV.out (s.dropWhile numC)
      rw [HK.out, hrest] at hKK
      simp only at hKK
      have hVk : numV (s.take k) = V := by rw [← HT.out]; exact HV.out
      rw [hVk] at hNk ⊢
      have HNk := Lib.hid hNk
      have hz0 : 0 < (ba s).size := by rw [ba_size, HZ.out]; simp
      have hzz : (ba s)[0]'hz0 = z := head_at3 HZ.out hz0
      have hzd : decide (z = 48) = decide (z.toNat = 48) := decide_eq_decide.2 ⟨fun h => by rw [h]; rfl, fun h => UInt8.toNat_inj.1 h⟩
      have hsl : 0 < s.length := by rw [HZ.out]; simp
      rw [hzd] at hKK
      have HKK := Lib.hid hKK
      clear hKK hNk hrest hVk hzd hkl
      by_cases hk1 : 1 < k
      · have y1 : (1 : Int) < (k : Int) := by omega
        by_cases hz48 : z.toNat = 48
        · have y2 : ((z.toNat : Int) == 48) = true := by simp; omega
          have HR := Lib.hid (show K = false from by rw [HKK.out, decide_eq_true hk1, decide_eq_true hz48]; simp)
          clear HKK hk1 hz48
          go_wp2_with fail
          go_ret3
          exact ⟨N, by rw [HR.out]; rfl, fun h => by rw [HR.out] at h; exact Bool.noConfusion h, rfl⟩
        · have y2 : ((z.toNat : Int) == 48) = false := by simp; omega
          have HR := Lib.hid (show K = decide (V ≤ 9223372036854775808) from by rw [HKK.out, decide_eq_false hz48]; simp)
          clear HKK hk1 hz48
          go_wp2_with fail
          go_ret3
          exact ⟨N, by rw [HR.out]; rfl, fun h => HNk.out (by rw [HR.out] at h; exact of_decide_eq_true h), rfl⟩
      · have y1 : ¬ (1 : Int) < (k : Int) := by omega
        have HR := Lib.hid (show K = decide (V ≤ 9223372036854775808) from by rw [HKK.out, decide_eq_false hk1]; simp)
        clear HKK hk1
        go_wp2_with fail
        go_ret3
        exact ⟨N, by rw [HR.out]; rfl, fun h => HNk.out (by rw [HR.out] at h; exact of_decide_eq_true h), rfl⟩
end Go.Proofs.YtmcnhggpmlhgeaaGreatDoor
namespace Go.Proofs.YtmcnhggpmlhgeaaGreatDoor
open Go.RowKit
theorem conv_one (W : World) (c : UInt8) : (convert 50 9 (.slice (some ⟨W.heap.size, 0, none⟩) 1 1)).run Tryz.prog (W.alloc (.cells #[.int .u8 (c.toNat : Int)] 5 (0, 0))) = .ok (.string (ba [c])) (W.alloc (.cells #[.int .u8 (c.toNat : Int)] 5 (0, 0))) := by
  have h := run_convert_bytes_back (P := Tryz.prog) (W.alloc (.cells #[.int .u8 (c.toNat : Int)] 5 (0, 0))) 50 9 5 ⟨W.heap.size, 0, none⟩ 1 [c] Tryz.underlying50 Tryz.underlying5 Tryz.underlying9 (fun j hj => by
    obtain rfl : j = 0 := by simpa using hj
    rw [Lib.add_plain]
    exact cells_of (heap_alloc_new W _) 0)
  exact h
def quoR (s : List UInt8) : Option (List UInt8 × List UInt8) → Ending
  | none => .returned (.tuple #[.string (ba []), .int .i64 0, .bool false])
  | some z => .returned (.tuple #[.string (ba z.1), .int .i64 ((s.length - z.2.length : Nat) : Int), .bool true])
set_option maxRecDepth 100000 in
set_option maxHeartbeats 16000000 in
theorem quoted_r (s : List UInt8) (w : World) (hl : s.length ≤ 10000000) (h1 : 1 ≤ s.length) : Calls Tryz.prog 63 #[.string (ba s)] w fun e w' => e = quoR s (quoT (s.drop 1)) ∧ Below w.heap.size w w' := by
  have s1 : ((ba s).size : Int) = (s.length : Int) := by rw [ba_size]
  have s2 : (ba s).size = s.length := by rw [ba_size]
  generalize hQ : quoT (s.drop 1) = Q
  have HQ0 := Lib.hid (show Q = preQ [] (quoT (s.drop 1)) from by rw [hQ]; cases Q <;> simp [preQ])
  clear hQ
  have hcv := conv_one
  have HCV := Lib.hid hcv
  clear hcv
  go_enter Tryz.func63, Tryz.ntmps63
  go_wp2_with fail
  go_loopw [5, 6] (fun vo vk wr => ∃ (P : Nat) (acc : List UInt8), vk = .int .i64 P ∧ vo = .string (ba acc) ∧ P ≤ s.length ∧ acc.length ≤ P ∧ Hid (Q = preQ acc (quoT (s.drop P))) ∧ Hid (Below w.heap.size w wr)) (fun _ vk _ => s.length - (intOf vk).toNat)
  case atStart => exact ⟨1, [], rfl, rfl, h1, Nat.zero_le _, HQ0, Lib.hid (Below.refl _ _)⟩
  case round =>
    obtain ⟨P, acc, rfl, rfl, hP, hac, HQ, HW⟩ := hrel
    clear HQ0
    have hcv := fun c => HCV.out wr c
    have hac2 : (ba acc).size = acc.length := ba_size _
    have y1 : ¬ 9223372036854775807 < acc.length + 1 := by omega
    by_cases hkl : P < s.length
    · have x1 : (P : Int) < (s.length : Int) := by omega
      have hks : P < (ba s).size := by rw [ba_size]; exact hkl
      obtain ⟨c, hc, hcs⟩ : ∃ c, (ba s)[P]'hks = c ∧ s[P]'hkl = c := ⟨_, rfl, rfl⟩
      have HCS := Lib.hid hcs
      clear hcs
      by_cases h34 : c.toNat = 34
      · have HR := Lib.hid (q_quote HQ.out hkl HCS.out h34)
        have z34 : ((c.toNat : Int) == 34) = true := by simp; omega
        clear h34
        go_wp2_with fail
        go_ret3
        refine ⟨?_, HW.out⟩
        rw [HR.out]
        show _ = Ending.returned (.tuple #[.string (ba acc), .int .i64 ((s.length - (s.drop (P + 1)).length : Nat) : Int), .bool true])
        rw [List.length_drop, show s.length - (s.length - (P + 1)) = P + 1 by omega]
        rfl
      · have z34 : ((c.toNat : Int) == 34) = false := by simp; omega
        by_cases hb : c.toNat < 32 ∨ 126 < c.toNat
        · have HR := Lib.hid (q_bad HQ.out hkl HCS.out h34 hb)
          by_cases h32 : c.toNat < 32
          · have z32 : (c.toNat : Int) < 32 := by omega
            clear h34 hb h32
            go_wp2_with fail
            go_ret3
            exact ⟨by rw [HR.out]; rfl, HW.out⟩
          · have z32 : ¬ (c.toNat : Int) < 32 := by omega
            have z126 : (126 : Int) < (c.toNat : Int) := by omega
            clear h34 hb h32
            go_wp2_with fail
            go_ret3
            exact ⟨by rw [HR.out]; rfl, HW.out⟩
        · have z32 : ¬ (c.toNat : Int) < 32 := by omega
          have z126 : ¬ (126 : Int) < (c.toNat : Int) := by omega
          by_cases h92 : c.toNat = 92
          · have z92 : (c.toNat : Int) = 92 := by omega
            by_cases hE : P + 1 < s.length
            · have hks1 : P + 1 < (ba s).size := by rw [ba_size]; exact hE
              have xE : (((P : Int) + 1) == (s.length : Int)) = false := by simp; omega
              have xE2 : (P : Int) + 1 < (s.length : Int) := by omega
              obtain ⟨d, hd, hds⟩ : ∃ d, (ba s)[P + 1]'hks1 = d ∧ s[P + 1]'hE = d := ⟨_, rfl, rfl⟩
              have HDS := Lib.hid hds
              clear hds
              by_cases hd1 : d.toNat = 92 ∨ d.toNat = 34
              · have HR := Lib.hid (q_esc_self HQ.out hkl HCS.out h92 hE HDS.out hd1)
                by_cases hd92 : d.toNat = 92
                · have w92 : ((d.toNat : Int) == 92) = true := by simp; omega
                  clear h34 hb h92 hd1 hd92
                  go_wp2_with fail
                  go_roundw
                  case rel => exact ⟨P + 2, acc ++ [d], by go_num, by rw [← ba_app2] <;> rfl, by omega, by rw [List.length_append, List.length_singleton]; omega, HR, Lib.hid (balloc HW.out _)⟩
                  case measure => simp only [intOf]; omega
                · have w92 : ((d.toNat : Int) == 92) = false := by simp; omega
                  have w34 : ((d.toNat : Int) == 34) = true := by simp; omega
                  clear h34 hb h92 hd1 hd92
                  go_wp2_with fail
                  go_roundw
                  case rel => exact ⟨P + 2, acc ++ [d], by go_num, by rw [← ba_app2] <;> rfl, by omega, by rw [List.length_append, List.length_singleton]; omega, HR, Lib.hid (balloc HW.out _)⟩
                  case measure => simp only [intOf]; omega
              · have w92 : ((d.toNat : Int) == 92) = false := by simp; omega
                have w34 : ((d.toNat : Int) == 34) = false := by simp; omega
                by_cases hd2 : d.toNat = 110
                · have HR := Lib.hid (q_esc_line HQ.out hkl HCS.out h92 hE HDS.out hd2)
                  have w110 : ((d.toNat : Int) == 110) = true := by simp; omega
                  clear h34 hb h92 hd1 hd2
                  go_wp2_with fail
                  go_roundw
                  case rel => exact ⟨P + 2, acc ++ [10], by go_num, by rw [← ba_app2] <;> rfl, by omega, by rw [List.length_append, List.length_singleton]; omega, HR, HW⟩
                  case measure => simp only [intOf]; omega
                · have HR := Lib.hid (q_esc_bad HQ.out hkl HCS.out h92 hE HDS.out hd1 hd2)
                  have w110 : ((d.toNat : Int) == 110) = false := by simp; omega
                  clear h34 hb h92 hd1 hd2
                  go_wp2_with fail
                  go_ret3
                  exact ⟨by rw [HR.out]; rfl, HW.out⟩
            · have HR := Lib.hid (q_esc_end HQ.out hkl HCS.out h92 hE)
              have xE : (((P : Int) + 1) == (s.length : Int)) = true := by simp; omega
              clear h34 hb h92
              go_wp2_with fail
              go_ret3
              exact ⟨by rw [HR.out]; rfl, HW.out⟩
          · have HR := Lib.hid (q_plain HQ.out hkl HCS.out h34 hb h92)
            have z92 : ¬ (c.toNat : Int) = 92 := by omega
            clear h34 hb h92
            go_wp2_with fail
            go_roundw
            case rel => exact ⟨P + 1, acc ++ [c], by go_num, by rw [← ba_app2] <;> rfl, by omega, by rw [List.length_append, List.length_singleton]; omega, HR, Lib.hid (balloc HW.out _)⟩
            case measure => simp only [intOf]; omega
    · have HR := Lib.hid (q_end HQ.out (by omega))
      have x1 : ¬ (P : Int) < (s.length : Int) := by omega
      go_wp2_with fail
      go_ret3
      exact ⟨by rw [HR.out]; rfl, HW.out⟩
end Go.Proofs.YtmcnhggpmlhgeaaGreatDoor
namespace Go.Proofs.YtmcnhggpmlhgeaaGreatDoor
open Go.RowKit
theorem results_cell_two {fn : Func} {p u v : Tmp} {ty : TypeId} (h : fn.results = #[.cell p ty, .tmp u, .tmp v]) (tmps : Array Value) (P : Program) (w : World) :
    (results fn tmps).run P w = ((asAddr (tmps.getD p undef)).run P w).andThen fun a w1 => ((loadVar ty a).run P w1).andThen fun x w2 => .ok (.tuple #[x, tmps.getD u undef, tmps.getD v undef]) w2 := by
  simp only [results, h]
  simp [Sem.run_bind, Result.andThen]
theorem results_tok3 {fn : Func} {p u v : Tmp} (h : fn.results = #[.cell p 36, .tmp u, .tmp v]) (tmps : Array Value) (w : World) (g : Nat) (a0 a1 a2 a3 : Value)
    (hp : tmps.getD p undef = .pointer (some ⟨g, 0, none⟩)) (hg : w.heap[g]? = some (.cells #[a0, a1, a2, a3] 36 (0, 0))) :
    (results fn tmps).run Tryz.prog w = .ok (.tuple #[.agg #[a0, a1, a2, a3], tmps.getD u undef, tmps.getD v undef]) w := by
  have hl := run_loadVar_row (P := Tryz.prog) w g _ 36 _ _ _ hg Tryz.underlying36 rfl token_size
  rw [results_cell_two h, hp]
  simp only [asAddr, Sem.run_pure, Result.andThen_ok, hl]
/-- what the reference's token answers -/
def refV (s : List UInt8) : TR → Value
  | .bad e => .tuple #[.agg #[.int .i64 0, .string ⟨#[]⟩, .int .u64 0, .int .i64 0], .int .i64 0, .int .i64 e]
  | .tok k tx n rest => .tuple #[.agg #[.int .i64 k, .string (ba tx), .int .u64 (n : Int), .int .i64 0], .int .i64 ((s.length - rest.length : Nat) : Int), .int .i64 0]
/-- the first sign that stands at the beginning -/
def firstS (s : List UInt8) : Option (List UInt8) := signL.find? fun x => x.isPrefixOf s
theorem pre_take (x s : List UInt8) : x.isPrefixOf s = (x == s.take x.length) := by
  rw [Bool.eq_iff_iff, List.isPrefixOf_iff_prefix, beq_iff_eq, List.prefix_iff_eq_take]
theorem find_fixed (s : List UInt8) (n : Nat) : ∀ l : List (List UInt8), (∀ x ∈ l, x.length = n) → l.find? (fun x => x.isPrefixOf s) = if l.contains (s.take n) then some (s.take n) else none
  | [], _ => rfl
  | x :: l, h => by
    have hx := h x (by simp)
    have ih := find_fixed s n l fun y hy => h y (by simp [hy])
    rw [List.find?_cons, pre_take, hx, List.contains_cons]
    cases hb : (x == s.take n) with
    | true =>
      have hb' : x = s.take n := by simpa using hb
      rw [hb']; simp
    | false =>
      have hb' : (s.take n == x) = false := by rw [BEq.comm]; exact hb
      rw [hb', Bool.false_or, ih]
theorem first_sign (s : List UInt8) : firstS s = if signN s = 0 then none else some (s.take (signN s)) := by
  unfold firstS signL
  rw [List.find?_append, List.find?_append, find_fixed s 3 sign3 (by decide), find_fixed s 2 sign2 (by decide), find_fixed s 1 (sign1.map fun c => [c]) (by decide)]
  rcases signN_cases s with ⟨h3, e⟩ | ⟨h3, h2, e⟩ | ⟨h3, h2, ⟨c, r, rfl, h1, e⟩ | ⟨h1, e⟩⟩
  · rw [h3, e]; rfl
  · rw [h3, h2, e]; rfl
  · rw [h3, h2, e]
    have : (sign1.map fun c => [c]).contains ((c :: r).take 1) = true := by
      simp only [List.contains_eq_mem, decide_eq_true_eq, List.take_succ_cons, List.take_zero, List.mem_map]
      exact ⟨c, by simpa using h1, rfl⟩
    rw [this]; rfl
  · rw [h3, h2, e]
    have : (sign1.map fun c => [c]).contains (s.take 1) = false := by
      rw [← Bool.not_eq_true]
      intro h
      simp only [List.contains_eq_mem, decide_eq_true_eq, List.mem_map] at h
      obtain ⟨c, hc, hs⟩ := h
      cases s with
      | nil => simp at hs
      | cons c' r =>
        have : c = c' := by simpa using hs
        have h2 := h1 c' r rfl
        rw [← this] at h2
        rw [show sign1.contains c = true by simpa using hc] at h2
        cases h2
    rw [this]; rfl
set_option maxRecDepth 100000 in
set_option maxHeartbeats 8000000 in
theorem rtok_small_long (c : UInt8) (r s : List UInt8) (w : World) (hs : s = c :: r) (hl : s.length ≤ 1000000) (h1 : 97 ≤ c.toNat) (h2 : c.toNat ≤ 122) (hw : 32 < (s.takeWhile namC).length) :
    Calls Tryz.prog 27 #[.string (ba s)] w fun e w' => e = .returned (refV s (.bad 91)) ∧ Below w.heap.size w w' := by
  have s1 : ((ba s).size : Int) = (s.length : Int) := by rw [ba_size]
  have s2 : (ba s).size = s.length := by rw [ba_size]
  have hsl : 0 < s.length := by rw [hs]; simp
  have hz0 : 0 < (ba s).size := by omega
  have hc0 : (ba s)[0]'hz0 = c := head_at3 hs hz0
  have HS := Lib.hid hs
  clear hs
  have Hsmall_r := Lib.hid fun W => (small_r c W).mono fun e w' h => (show e = .returned (.bool true) ∧ w' = W by rw [show smallC c = true from by first | (rw [smallC_iff]; omega) | (rw [← Bool.not_eq_true, smallC_iff]; omega)] at h; exact h)
  clear h1 h2
  have xw : (32 : Int) < ((s.takeWhile namC).length : Int) := by omega
  have sw : (ba (s.takeWhile namC)).size = (s.takeWhile namC).length := ba_size _
  have HN := Lib.hid fun W => name_r s W (by omega)
  clear hw
  generalize s.takeWhile namC = wd at *
  have HA := Lib.hid (show Bq w [.base (fun _ => False) w] from ⟨Ch.refl _ _, trivial⟩)
  go_enter Tryz.func27, Tryz.ntmps27
  go_upto_region 1 with (fail)
  have HB := Lib.hid (HA.out.box #[.int .i64 0, .string ⟨#[]⟩, .int .u64 0, .int .i64 0] 36 (n := w.heap.size) rfl)
  clear HA
  generalize w.alloc (.cells #[.int .i64 0, .string ⟨#[]⟩, .int .u64 0, .int .i64 0] 36 (0, 0)) = w1 at HB ⊢
  go_wp2_with fail
  refine (Hsmall_r.out _).mono ?_
  rintro e w' ⟨rfl, rfl⟩
  go_wp2_with fail
  refine (HN.out _).mono ?_
  rintro e w' ⟨rfl, rfl⟩
  obtain ⟨d0, d1, d2, d3, fd⟩ := four_cells (HB.out.blk 0 rfl)
  go_wp2_with fail
  have HE := Lib.hid (HB.out.put 0 rfl (by refine ⟨?_, trivial⟩ <;> (simp only [Fq.apart]; first | omega | (intro b h1 h2; omega) | (intro b h1; omega) | (intro b h1 h2 h3; omega))) (.int .i64 0) (.string ⟨#[]⟩) (.int .u64 0) (.int .i64 0))
  refine bodyPost_ret (results_tok3 rfl _ _ _ _ _ _ _ rfl (HE.out.blk 0 rfl)) rfl ?_
  exact ⟨rfl, (HE.out.base 1 rfl).below (Nat.le_refl _) (fun _ _ h => h)⟩
set_option maxRecDepth 100000 in
set_option maxHeartbeats 8000000 in
theorem rtok_small_res (c : UInt8) (r s : List UInt8) (w : World) (hs : s = c :: r) (hl : s.length ≤ 1000000) (h1 : 97 ≤ c.toNat) (h2 : c.toNat ≤ 122) (hw : ¬ 32 < (s.takeWhile namC).length) (hr : resB (s.takeWhile namC) = true) :
    Calls Tryz.prog 27 #[.string (ba s)] w fun e w' => e = .returned (refV s (.tok 5 (s.takeWhile namC) 0 (s.dropWhile namC))) ∧ Below w.heap.size w w' := by
  have s1 : ((ba s).size : Int) = (s.length : Int) := by rw [ba_size]
  have s2 : (ba s).size = s.length := by rw [ba_size]
  have hsl : 0 < s.length := by rw [hs]; simp
  have hz0 : 0 < (ba s).size := by omega
  have hc0 : (ba s)[0]'hz0 = c := head_at3 hs hz0
  have HS := Lib.hid hs
  clear hs
  have Hsmall_r := Lib.hid fun W => (small_r c W).mono fun e w' h => (show e = .returned (.bool true) ∧ w' = W by rw [show smallC c = true from by first | (rw [smallC_iff]; omega) | (rw [← Bool.not_eq_true, smallC_iff]; omega)] at h; exact h)
  clear h1 h2
  have xw : ¬ (32 : Int) < ((s.takeWhile namC).length : Int) := by omega
  have sw : (ba (s.takeWhile namC)).size = (s.takeWhile namC).length := ba_size _
  have HN := Lib.hid fun W => name_r s W (by omega)
  have hlen : ((s.length - (s.dropWhile namC).length : Nat) : Int) = ((s.takeWhile namC).length : Int) := by
    have := congrArg List.length (List.takeWhile_append_dropWhile (p := namC) (l := s))
    rw [List.length_append] at this; omega
  have HLn := Lib.hid hlen
  clear hw hlen
  have HR := Lib.hid fun W => (show Calls Tryz.prog 21 #[.string (ba (s.takeWhile namC))] W fun e w' => e = .returned (.bool true) ∧ Below W.heap.size W w' from by rw [← hr]; exact Reserved_r _ W)
  clear hr
  generalize s.takeWhile namC = wd at *
  have HA := Lib.hid (show Bq w [.base (fun _ => False) w] from ⟨Ch.refl _ _, trivial⟩)
  go_enter Tryz.func27, Tryz.ntmps27
  go_upto_region 1 with (fail)
  have HB := Lib.hid (HA.out.box #[.int .i64 0, .string ⟨#[]⟩, .int .u64 0, .int .i64 0] 36 (n := w.heap.size) rfl)
  clear HA
  generalize w.alloc (.cells #[.int .i64 0, .string ⟨#[]⟩, .int .u64 0, .int .i64 0] 36 (0, 0)) = w1 at HB ⊢
  go_wp2_with fail
  refine (Hsmall_r.out _).mono ?_
  rintro e w' ⟨rfl, rfl⟩
  go_wp2_with fail
  refine (HN.out _).mono ?_
  rintro e w' ⟨rfl, rfl⟩
  go_wp2_with fail
  refine (Hsmall_r.out _).mono ?_
  rintro e w' ⟨rfl, rfl⟩
  go_wp2_with fail
  refine (HR.out _).mono ?_
  rintro e w3 ⟨rfl, hb3⟩
  have HB := Lib.hid (HB.out.below hb3)
  clear hb3
  obtain ⟨d0, d1, d2, d3, fd⟩ := four_cells (HB.out.blk 0 rfl)
  go_wp2_with fail
  have HE := Lib.hid (HB.out.put 0 rfl (by refine ⟨?_, trivial⟩ <;> (simp only [Fq.apart]; first | omega | (intro b h1 h2; omega) | (intro b h1; omega) | (intro b h1 h2 h3; omega))) (.int .i64 5) (.string (ba wd)) (.int .u64 0) (.int .i64 0))
  refine bodyPost_ret (results_tok3 rfl _ _ _ _ _ _ _ rfl (HE.out.blk 0 rfl)) rfl ?_
  refine ⟨?_, (HE.out.base 1 rfl).below (Nat.le_refl _) (fun _ _ h => h)⟩
  show Ending.returned (Value.tuple #[.agg #[.int .i64 5, .string (ba wd), .int .u64 0, .int .i64 0], .int .i64 (wd.length : Int), .int .i64 0]) = _
  rw [← HLn.out]
  rfl
set_option maxRecDepth 100000 in
set_option maxHeartbeats 8000000 in
theorem rtok_small_no (c : UInt8) (r s : List UInt8) (w : World) (hs : s = c :: r) (hl : s.length ≤ 1000000) (h1 : 97 ≤ c.toNat) (h2 : c.toNat ≤ 122) (hw : ¬ 32 < (s.takeWhile namC).length) (hr : resB (s.takeWhile namC) = false) :
    Calls Tryz.prog 27 #[.string (ba s)] w fun e w' => e = .returned (refV s (.tok 1 (s.takeWhile namC) 0 (s.dropWhile namC))) ∧ Below w.heap.size w w' := by
  have s1 : ((ba s).size : Int) = (s.length : Int) := by rw [ba_size]
  have s2 : (ba s).size = s.length := by rw [ba_size]
  have hsl : 0 < s.length := by rw [hs]; simp
  have hz0 : 0 < (ba s).size := by omega
  have hc0 : (ba s)[0]'hz0 = c := head_at3 hs hz0
  have HS := Lib.hid hs
  clear hs
  have Hsmall_r := Lib.hid fun W => (small_r c W).mono fun e w' h => (show e = .returned (.bool true) ∧ w' = W by rw [show smallC c = true from by first | (rw [smallC_iff]; omega) | (rw [← Bool.not_eq_true, smallC_iff]; omega)] at h; exact h)
  clear h1 h2
  have xw : ¬ (32 : Int) < ((s.takeWhile namC).length : Int) := by omega
  have sw : (ba (s.takeWhile namC)).size = (s.takeWhile namC).length := ba_size _
  have HN := Lib.hid fun W => name_r s W (by omega)
  have hlen : ((s.length - (s.dropWhile namC).length : Nat) : Int) = ((s.takeWhile namC).length : Int) := by
    have := congrArg List.length (List.takeWhile_append_dropWhile (p := namC) (l := s))
    rw [List.length_append] at this; omega
  have HLn := Lib.hid hlen
  clear hw hlen
  have HR := Lib.hid fun W => (show Calls Tryz.prog 21 #[.string (ba (s.takeWhile namC))] W fun e w' => e = .returned (.bool false) ∧ Below W.heap.size W w' from by rw [← hr]; exact Reserved_r _ W)
  clear hr
  generalize s.takeWhile namC = wd at *
  have HA := Lib.hid (show Bq w [.base (fun _ => False) w] from ⟨Ch.refl _ _, trivial⟩)
  go_enter Tryz.func27, Tryz.ntmps27
  go_upto_region 1 with (fail)
  have HB := Lib.hid (HA.out.box #[.int .i64 0, .string ⟨#[]⟩, .int .u64 0, .int .i64 0] 36 (n := w.heap.size) rfl)
  clear HA
  generalize w.alloc (.cells #[.int .i64 0, .string ⟨#[]⟩, .int .u64 0, .int .i64 0] 36 (0, 0)) = w1 at HB ⊢
  go_wp2_with fail
  refine (Hsmall_r.out _).mono ?_
  rintro e w' ⟨rfl, rfl⟩
  go_wp2_with fail
  refine (HN.out _).mono ?_
  rintro e w' ⟨rfl, rfl⟩
  go_wp2_with fail
  refine (Hsmall_r.out _).mono ?_
  rintro e w' ⟨rfl, rfl⟩
  go_wp2_with fail
  refine (HR.out _).mono ?_
  rintro e w3 ⟨rfl, hb3⟩
  have HB := Lib.hid (HB.out.below hb3)
  clear hb3
  obtain ⟨d0, d1, d2, d3, fd⟩ := four_cells (HB.out.blk 0 rfl)
  go_wp2_with fail
  have HE := Lib.hid (HB.out.put 0 rfl (by refine ⟨?_, trivial⟩ <;> (simp only [Fq.apart]; first | omega | (intro b h1 h2; omega) | (intro b h1; omega) | (intro b h1 h2 h3; omega))) (.int .i64 1) (.string (ba wd)) (.int .u64 0) (.int .i64 0))
  refine bodyPost_ret (results_tok3 rfl _ _ _ _ _ _ _ rfl (HE.out.blk 0 rfl)) rfl ?_
  refine ⟨?_, (HE.out.base 1 rfl).below (Nat.le_refl _) (fun _ _ h => h)⟩
  show Ending.returned (Value.tuple #[.agg #[.int .i64 1, .string (ba wd), .int .u64 0, .int .i64 0], .int .i64 (wd.length : Int), .int .i64 0]) = _
  rw [← HLn.out]
  rfl
set_option maxRecDepth 100000 in
set_option maxHeartbeats 8000000 in
theorem rtok_cap_long (c : UInt8) (r s : List UInt8) (w : World) (hs : s = c :: r) (hl : s.length ≤ 1000000) (h1 : 65 ≤ c.toNat) (h2 : c.toNat ≤ 90) (hw : 32 < (s.takeWhile namC).length) :
    Calls Tryz.prog 27 #[.string (ba s)] w fun e w' => e = .returned (refV s (.bad 91)) ∧ Below w.heap.size w w' := by
  have s1 : ((ba s).size : Int) = (s.length : Int) := by rw [ba_size]
  have s2 : (ba s).size = s.length := by rw [ba_size]
  have hsl : 0 < s.length := by rw [hs]; simp
  have hz0 : 0 < (ba s).size := by omega
  have hc0 : (ba s)[0]'hz0 = c := head_at3 hs hz0
  have HS := Lib.hid hs
  clear hs
  have Hsmall_r := Lib.hid fun W => (small_r c W).mono fun e w' h => (show e = .returned (.bool false) ∧ w' = W by rw [show smallC c = false from by first | (rw [smallC_iff]; omega) | (rw [← Bool.not_eq_true, smallC_iff]; omega)] at h; exact h)
  have Hcapital_r := Lib.hid fun W => (capital_r c W).mono fun e w' h => (show e = .returned (.bool true) ∧ w' = W by rw [show capC c = true from by first | (rw [capC_iff]; omega) | (rw [← Bool.not_eq_true, capC_iff]; omega)] at h; exact h)
  clear h1 h2
  have xw : (32 : Int) < ((s.takeWhile namC).length : Int) := by omega
  have sw : (ba (s.takeWhile namC)).size = (s.takeWhile namC).length := ba_size _
  have HN := Lib.hid fun W => name_r s W (by omega)
  clear hw
  generalize s.takeWhile namC = wd at *
  have HA := Lib.hid (show Bq w [.base (fun _ => False) w] from ⟨Ch.refl _ _, trivial⟩)
  go_enter Tryz.func27, Tryz.ntmps27
  go_upto_region 1 with (fail)
  have HB := Lib.hid (HA.out.box #[.int .i64 0, .string ⟨#[]⟩, .int .u64 0, .int .i64 0] 36 (n := w.heap.size) rfl)
  clear HA
  generalize w.alloc (.cells #[.int .i64 0, .string ⟨#[]⟩, .int .u64 0, .int .i64 0] 36 (0, 0)) = w1 at HB ⊢
  go_wp2_with fail
  refine (Hsmall_r.out _).mono ?_
  rintro e w' ⟨rfl, rfl⟩
  go_wp2_with fail
  refine (Hcapital_r.out _).mono ?_
  rintro e w' ⟨rfl, rfl⟩
  go_wp2_with fail
  refine (HN.out _).mono ?_
  rintro e w' ⟨rfl, rfl⟩
  obtain ⟨d0, d1, d2, d3, fd⟩ := four_cells (HB.out.blk 0 rfl)
  go_wp2_with fail
  have HE := Lib.hid (HB.out.put 0 rfl (by refine ⟨?_, trivial⟩ <;> (simp only [Fq.apart]; first | omega | (intro b h1 h2; omega) | (intro b h1; omega) | (intro b h1 h2 h3; omega))) (.int .i64 0) (.string ⟨#[]⟩) (.int .u64 0) (.int .i64 0))
  refine bodyPost_ret (results_tok3 rfl _ _ _ _ _ _ _ rfl (HE.out.blk 0 rfl)) rfl ?_
  exact ⟨rfl, (HE.out.base 1 rfl).below (Nat.le_refl _) (fun _ _ h => h)⟩
set_option maxRecDepth 100000 in
set_option maxHeartbeats 8000000 in
theorem rtok_cap_res (c : UInt8) (r s : List UInt8) (w : World) (hs : s = c :: r) (hl : s.length ≤ 1000000) (h1 : 65 ≤ c.toNat) (h2 : c.toNat ≤ 90) (hw : ¬ 32 < (s.takeWhile namC).length) (hr : resB (s.takeWhile namC) = true) :
    Calls Tryz.prog 27 #[.string (ba s)] w fun e w' => e = .returned (refV s (.tok 5 (s.takeWhile namC) 0 (s.dropWhile namC))) ∧ Below w.heap.size w w' := by
  have s1 : ((ba s).size : Int) = (s.length : Int) := by rw [ba_size]
  have s2 : (ba s).size = s.length := by rw [ba_size]
  have hsl : 0 < s.length := by rw [hs]; simp
  have hz0 : 0 < (ba s).size := by omega
  have hc0 : (ba s)[0]'hz0 = c := head_at3 hs hz0
  have HS := Lib.hid hs
  clear hs
  have Hsmall_r := Lib.hid fun W => (small_r c W).mono fun e w' h => (show e = .returned (.bool false) ∧ w' = W by rw [show smallC c = false from by first | (rw [smallC_iff]; omega) | (rw [← Bool.not_eq_true, smallC_iff]; omega)] at h; exact h)
  have Hcapital_r := Lib.hid fun W => (capital_r c W).mono fun e w' h => (show e = .returned (.bool true) ∧ w' = W by rw [show capC c = true from by first | (rw [capC_iff]; omega) | (rw [← Bool.not_eq_true, capC_iff]; omega)] at h; exact h)
  clear h1 h2
  have xw : ¬ (32 : Int) < ((s.takeWhile namC).length : Int) := by omega
  have sw : (ba (s.takeWhile namC)).size = (s.takeWhile namC).length := ba_size _
  have HN := Lib.hid fun W => name_r s W (by omega)
  have hlen : ((s.length - (s.dropWhile namC).length : Nat) : Int) = ((s.takeWhile namC).length : Int) := by
    have := congrArg List.length (List.takeWhile_append_dropWhile (p := namC) (l := s))
    rw [List.length_append] at this; omega
  have HLn := Lib.hid hlen
  clear hw hlen
  have HR := Lib.hid fun W => (show Calls Tryz.prog 21 #[.string (ba (s.takeWhile namC))] W fun e w' => e = .returned (.bool true) ∧ Below W.heap.size W w' from by rw [← hr]; exact Reserved_r _ W)
  clear hr
  generalize s.takeWhile namC = wd at *
  have HA := Lib.hid (show Bq w [.base (fun _ => False) w] from ⟨Ch.refl _ _, trivial⟩)
  go_enter Tryz.func27, Tryz.ntmps27
  go_upto_region 1 with (fail)
  have HB := Lib.hid (HA.out.box #[.int .i64 0, .string ⟨#[]⟩, .int .u64 0, .int .i64 0] 36 (n := w.heap.size) rfl)
  clear HA
  generalize w.alloc (.cells #[.int .i64 0, .string ⟨#[]⟩, .int .u64 0, .int .i64 0] 36 (0, 0)) = w1 at HB ⊢
  go_wp2_with fail
  refine (Hsmall_r.out _).mono ?_
  rintro e w' ⟨rfl, rfl⟩
  go_wp2_with fail
  refine (Hcapital_r.out _).mono ?_
  rintro e w' ⟨rfl, rfl⟩
  go_wp2_with fail
  refine (HN.out _).mono ?_
  rintro e w' ⟨rfl, rfl⟩
  go_wp2_with fail
  refine (Hsmall_r.out _).mono ?_
  rintro e w' ⟨rfl, rfl⟩
  go_wp2_with fail
  refine (HR.out _).mono ?_
  rintro e w3 ⟨rfl, hb3⟩
  have HB := Lib.hid (HB.out.below hb3)
  clear hb3
  obtain ⟨d0, d1, d2, d3, fd⟩ := four_cells (HB.out.blk 0 rfl)
  go_wp2_with fail
  have HE := Lib.hid (HB.out.put 0 rfl (by refine ⟨?_, trivial⟩ <;> (simp only [Fq.apart]; first | omega | (intro b h1 h2; omega) | (intro b h1; omega) | (intro b h1 h2 h3; omega))) (.int .i64 5) (.string (ba wd)) (.int .u64 0) (.int .i64 0))
  refine bodyPost_ret (results_tok3 rfl _ _ _ _ _ _ _ rfl (HE.out.blk 0 rfl)) rfl ?_
  refine ⟨?_, (HE.out.base 1 rfl).below (Nat.le_refl _) (fun _ _ h => h)⟩
  show Ending.returned (Value.tuple #[.agg #[.int .i64 5, .string (ba wd), .int .u64 0, .int .i64 0], .int .i64 (wd.length : Int), .int .i64 0]) = _
  rw [← HLn.out]
  rfl
set_option maxRecDepth 100000 in
set_option maxHeartbeats 8000000 in
theorem rtok_cap_no (c : UInt8) (r s : List UInt8) (w : World) (hs : s = c :: r) (hl : s.length ≤ 1000000) (h1 : 65 ≤ c.toNat) (h2 : c.toNat ≤ 90) (hw : ¬ 32 < (s.takeWhile namC).length) (hr : resB (s.takeWhile namC) = false) :
    Calls Tryz.prog 27 #[.string (ba s)] w fun e w' => e = .returned (refV s (.tok 2 (s.takeWhile namC) 0 (s.dropWhile namC))) ∧ Below w.heap.size w w' := by
  have s1 : ((ba s).size : Int) = (s.length : Int) := by rw [ba_size]
  have s2 : (ba s).size = s.length := by rw [ba_size]
  have hsl : 0 < s.length := by rw [hs]; simp
  have hz0 : 0 < (ba s).size := by omega
  have hc0 : (ba s)[0]'hz0 = c := head_at3 hs hz0
  have HS := Lib.hid hs
  clear hs
  have Hsmall_r := Lib.hid fun W => (small_r c W).mono fun e w' h => (show e = .returned (.bool false) ∧ w' = W by rw [show smallC c = false from by first | (rw [smallC_iff]; omega) | (rw [← Bool.not_eq_true, smallC_iff]; omega)] at h; exact h)
  have Hcapital_r := Lib.hid fun W => (capital_r c W).mono fun e w' h => (show e = .returned (.bool true) ∧ w' = W by rw [show capC c = true from by first | (rw [capC_iff]; omega) | (rw [← Bool.not_eq_true, capC_iff]; omega)] at h; exact h)
  clear h1 h2
  have xw : ¬ (32 : Int) < ((s.takeWhile namC).length : Int) := by omega
  have sw : (ba (s.takeWhile namC)).size = (s.takeWhile namC).length := ba_size _
  have HN := Lib.hid fun W => name_r s W (by omega)
  have hlen : ((s.length - (s.dropWhile namC).length : Nat) : Int) = ((s.takeWhile namC).length : Int) := by
    have := congrArg List.length (List.takeWhile_append_dropWhile (p := namC) (l := s))
    rw [List.length_append] at this; omega
  have HLn := Lib.hid hlen
  clear hw hlen
  have HR := Lib.hid fun W => (show Calls Tryz.prog 21 #[.string (ba (s.takeWhile namC))] W fun e w' => e = .returned (.bool false) ∧ Below W.heap.size W w' from by rw [← hr]; exact Reserved_r _ W)
  clear hr
  generalize s.takeWhile namC = wd at *
  have HA := Lib.hid (show Bq w [.base (fun _ => False) w] from ⟨Ch.refl _ _, trivial⟩)
  go_enter Tryz.func27, Tryz.ntmps27
  go_upto_region 1 with (fail)
  have HB := Lib.hid (HA.out.box #[.int .i64 0, .string ⟨#[]⟩, .int .u64 0, .int .i64 0] 36 (n := w.heap.size) rfl)
  clear HA
  generalize w.alloc (.cells #[.int .i64 0, .string ⟨#[]⟩, .int .u64 0, .int .i64 0] 36 (0, 0)) = w1 at HB ⊢
  go_wp2_with fail
  refine (Hsmall_r.out _).mono ?_
  rintro e w' ⟨rfl, rfl⟩
  go_wp2_with fail
  refine (Hcapital_r.out _).mono ?_
  rintro e w' ⟨rfl, rfl⟩
  go_wp2_with fail
  refine (HN.out _).mono ?_
  rintro e w' ⟨rfl, rfl⟩
  go_wp2_with fail
  refine (Hsmall_r.out _).mono ?_
  rintro e w' ⟨rfl, rfl⟩
  go_wp2_with fail
  refine (HR.out _).mono ?_
  rintro e w3 ⟨rfl, hb3⟩
  have HB := Lib.hid (HB.out.below hb3)
  clear hb3
  obtain ⟨d0, d1, d2, d3, fd⟩ := four_cells (HB.out.blk 0 rfl)
  go_wp2_with fail
  have HE := Lib.hid (HB.out.put 0 rfl (by refine ⟨?_, trivial⟩ <;> (simp only [Fq.apart]; first | omega | (intro b h1 h2; omega) | (intro b h1; omega) | (intro b h1 h2 h3; omega))) (.int .i64 2) (.string (ba wd)) (.int .u64 0) (.int .i64 0))
  refine bodyPost_ret (results_tok3 rfl _ _ _ _ _ _ _ rfl (HE.out.blk 0 rfl)) rfl ?_
  refine ⟨?_, (HE.out.base 1 rfl).below (Nat.le_refl _) (fun _ _ h => h)⟩
  show Ending.returned (Value.tuple #[.agg #[.int .i64 2, .string (ba wd), .int .u64 0, .int .i64 0], .int .i64 (wd.length : Int), .int .i64 0]) = _
  rw [← HLn.out]
  rfl
set_option maxRecDepth 100000 in
set_option maxHeartbeats 8000000 in
theorem rtok_und_long (c : UInt8) (r s : List UInt8) (w : World) (hs : s = c :: r) (hl : s.length ≤ 1000000) (h1 : c.toNat = 95) (hw : 32 < (s.takeWhile namC).length) :
    Calls Tryz.prog 27 #[.string (ba s)] w fun e w' => e = .returned (refV s (.bad 91)) ∧ Below w.heap.size w w' := by
  have s1 : ((ba s).size : Int) = (s.length : Int) := by rw [ba_size]
  have s2 : (ba s).size = s.length := by rw [ba_size]
  have hsl : 0 < s.length := by rw [hs]; simp
  have hz0 : 0 < (ba s).size := by omega
  have hc0 : (ba s)[0]'hz0 = c := head_at3 hs hz0
  have HS := Lib.hid hs
  clear hs
  have Hsmall_r := Lib.hid fun W => (small_r c W).mono fun e w' h => (show e = .returned (.bool false) ∧ w' = W by rw [show smallC c = false from by first | (rw [smallC_iff]; omega) | (rw [← Bool.not_eq_true, smallC_iff]; omega)] at h; exact h)
  have Hcapital_r := Lib.hid fun W => (capital_r c W).mono fun e w' h => (show e = .returned (.bool false) ∧ w' = W by rw [show capC c = false from by first | (rw [capC_iff]; omega) | (rw [← Bool.not_eq_true, capC_iff]; omega)] at h; exact h)
  have x95 : ((c.toNat : Int) == 95) = true := by simp; omega
  clear h1
  have xw : (32 : Int) < ((s.takeWhile namC).length : Int) := by omega
  have sw : (ba (s.takeWhile namC)).size = (s.takeWhile namC).length := ba_size _
  have HN := Lib.hid fun W => name_r s W (by omega)
  clear hw
  generalize s.takeWhile namC = wd at *
  have HA := Lib.hid (show Bq w [.base (fun _ => False) w] from ⟨Ch.refl _ _, trivial⟩)
  go_enter Tryz.func27, Tryz.ntmps27
  go_upto_region 1 with (fail)
  have HB := Lib.hid (HA.out.box #[.int .i64 0, .string ⟨#[]⟩, .int .u64 0, .int .i64 0] 36 (n := w.heap.size) rfl)
  clear HA
  generalize w.alloc (.cells #[.int .i64 0, .string ⟨#[]⟩, .int .u64 0, .int .i64 0] 36 (0, 0)) = w1 at HB ⊢
  go_wp2_with fail
  refine (Hsmall_r.out _).mono ?_
  rintro e w' ⟨rfl, rfl⟩
  go_wp2_with fail
  refine (Hcapital_r.out _).mono ?_
  rintro e w' ⟨rfl, rfl⟩
  go_wp2_with fail
  refine (HN.out _).mono ?_
  rintro e w' ⟨rfl, rfl⟩
  obtain ⟨d0, d1, d2, d3, fd⟩ := four_cells (HB.out.blk 0 rfl)
  go_wp2_with fail
  have HE := Lib.hid (HB.out.put 0 rfl (by refine ⟨?_, trivial⟩ <;> (simp only [Fq.apart]; first | omega | (intro b h1 h2; omega) | (intro b h1; omega) | (intro b h1 h2 h3; omega))) (.int .i64 0) (.string ⟨#[]⟩) (.int .u64 0) (.int .i64 0))
  refine bodyPost_ret (results_tok3 rfl _ _ _ _ _ _ _ rfl (HE.out.blk 0 rfl)) rfl ?_
  exact ⟨rfl, (HE.out.base 1 rfl).below (Nat.le_refl _) (fun _ _ h => h)⟩
set_option maxRecDepth 100000 in
set_option maxHeartbeats 8000000 in
theorem rtok_und_res (c : UInt8) (r s : List UInt8) (w : World) (hs : s = c :: r) (hl : s.length ≤ 1000000) (h1 : c.toNat = 95) (hw : ¬ 32 < (s.takeWhile namC).length) (hr : resB (s.takeWhile namC) = true) :
    Calls Tryz.prog 27 #[.string (ba s)] w fun e w' => e = .returned (refV s (.tok 5 (s.takeWhile namC) 0 (s.dropWhile namC))) ∧ Below w.heap.size w w' := by
  have s1 : ((ba s).size : Int) = (s.length : Int) := by rw [ba_size]
  have s2 : (ba s).size = s.length := by rw [ba_size]
  have hsl : 0 < s.length := by rw [hs]; simp
  have hz0 : 0 < (ba s).size := by omega
  have hc0 : (ba s)[0]'hz0 = c := head_at3 hs hz0
  have HS := Lib.hid hs
  clear hs
  have Hsmall_r := Lib.hid fun W => (small_r c W).mono fun e w' h => (show e = .returned (.bool false) ∧ w' = W by rw [show smallC c = false from by first | (rw [smallC_iff]; omega) | (rw [← Bool.not_eq_true, smallC_iff]; omega)] at h; exact h)
  have Hcapital_r := Lib.hid fun W => (capital_r c W).mono fun e w' h => (show e = .returned (.bool false) ∧ w' = W by rw [show capC c = false from by first | (rw [capC_iff]; omega) | (rw [← Bool.not_eq_true, capC_iff]; omega)] at h; exact h)
  have x95 : ((c.toNat : Int) == 95) = true := by simp; omega
  clear h1
  have xw : ¬ (32 : Int) < ((s.takeWhile namC).length : Int) := by omega
  have sw : (ba (s.takeWhile namC)).size = (s.takeWhile namC).length := ba_size _
  have HN := Lib.hid fun W => name_r s W (by omega)
  have hlen : ((s.length - (s.dropWhile namC).length : Nat) : Int) = ((s.takeWhile namC).length : Int) := by
    have := congrArg List.length (List.takeWhile_append_dropWhile (p := namC) (l := s))
    rw [List.length_append] at this; omega
  have HLn := Lib.hid hlen
  clear hw hlen
  have HR := Lib.hid fun W => (show Calls Tryz.prog 21 #[.string (ba (s.takeWhile namC))] W fun e w' => e = .returned (.bool true) ∧ Below W.heap.size W w' from by rw [← hr]; exact Reserved_r _ W)
  clear hr
  generalize s.takeWhile namC = wd at *
  have HA := Lib.hid (show Bq w [.base (fun _ => False) w] from ⟨Ch.refl _ _, trivial⟩)
  go_enter Tryz.func27, Tryz.ntmps27
  go_upto_region 1 with (fail)
  have HB := Lib.hid (HA.out.box #[.int .i64 0, .string ⟨#[]⟩, .int .u64 0, .int .i64 0] 36 (n := w.heap.size) rfl)
  clear HA
  generalize w.alloc (.cells #[.int .i64 0, .string ⟨#[]⟩, .int .u64 0, .int .i64 0] 36 (0, 0)) = w1 at HB ⊢
  go_wp2_with fail
  refine (Hsmall_r.out _).mono ?_
  rintro e w' ⟨rfl, rfl⟩
  go_wp2_with fail
  refine (Hcapital_r.out _).mono ?_
  rintro e w' ⟨rfl, rfl⟩
  go_wp2_with fail
  refine (HN.out _).mono ?_
  rintro e w' ⟨rfl, rfl⟩
  go_wp2_with fail
  refine (Hsmall_r.out _).mono ?_
  rintro e w' ⟨rfl, rfl⟩
  go_wp2_with fail
  refine (HR.out _).mono ?_
  rintro e w3 ⟨rfl, hb3⟩
  have HB := Lib.hid (HB.out.below hb3)
  clear hb3
  obtain ⟨d0, d1, d2, d3, fd⟩ := four_cells (HB.out.blk 0 rfl)
  go_wp2_with fail
  have HE := Lib.hid (HB.out.put 0 rfl (by refine ⟨?_, trivial⟩ <;> (simp only [Fq.apart]; first | omega | (intro b h1 h2; omega) | (intro b h1; omega) | (intro b h1 h2 h3; omega))) (.int .i64 5) (.string (ba wd)) (.int .u64 0) (.int .i64 0))
  refine bodyPost_ret (results_tok3 rfl _ _ _ _ _ _ _ rfl (HE.out.blk 0 rfl)) rfl ?_
  refine ⟨?_, (HE.out.base 1 rfl).below (Nat.le_refl _) (fun _ _ h => h)⟩
  show Ending.returned (Value.tuple #[.agg #[.int .i64 5, .string (ba wd), .int .u64 0, .int .i64 0], .int .i64 (wd.length : Int), .int .i64 0]) = _
  rw [← HLn.out]
  rfl
set_option maxRecDepth 100000 in
set_option maxHeartbeats 8000000 in
theorem rtok_und_no (c : UInt8) (r s : List UInt8) (w : World) (hs : s = c :: r) (hl : s.length ≤ 1000000) (h1 : c.toNat = 95) (hw : ¬ 32 < (s.takeWhile namC).length) (hr : resB (s.takeWhile namC) = false) :
    Calls Tryz.prog 27 #[.string (ba s)] w fun e w' => e = .returned (refV s (.tok 2 (s.takeWhile namC) 0 (s.dropWhile namC))) ∧ Below w.heap.size w w' := by
  have s1 : ((ba s).size : Int) = (s.length : Int) := by rw [ba_size]
  have s2 : (ba s).size = s.length := by rw [ba_size]
  have hsl : 0 < s.length := by rw [hs]; simp
  have hz0 : 0 < (ba s).size := by omega
  have hc0 : (ba s)[0]'hz0 = c := head_at3 hs hz0
  have HS := Lib.hid hs
  clear hs
  have Hsmall_r := Lib.hid fun W => (small_r c W).mono fun e w' h => (show e = .returned (.bool false) ∧ w' = W by rw [show smallC c = false from by first | (rw [smallC_iff]; omega) | (rw [← Bool.not_eq_true, smallC_iff]; omega)] at h; exact h)
  have Hcapital_r := Lib.hid fun W => (capital_r c W).mono fun e w' h => (show e = .returned (.bool false) ∧ w' = W by rw [show capC c = false from by first | (rw [capC_iff]; omega) | (rw [← Bool.not_eq_true, capC_iff]; omega)] at h; exact h)
  have x95 : ((c.toNat : Int) == 95) = true := by simp; omega
  clear h1
  have xw : ¬ (32 : Int) < ((s.takeWhile namC).length : Int) := by omega
  have sw : (ba (s.takeWhile namC)).size = (s.takeWhile namC).length := ba_size _
  have HN := Lib.hid fun W => name_r s W (by omega)
  have hlen : ((s.length - (s.dropWhile namC).length : Nat) : Int) = ((s.takeWhile namC).length : Int) := by
    have := congrArg List.length (List.takeWhile_append_dropWhile (p := namC) (l := s))
    rw [List.length_append] at this; omega
  have HLn := Lib.hid hlen
  clear hw hlen
  have HR := Lib.hid fun W => (show Calls Tryz.prog 21 #[.string (ba (s.takeWhile namC))] W fun e w' => e = .returned (.bool false) ∧ Below W.heap.size W w' from by rw [← hr]; exact Reserved_r _ W)
  clear hr
  generalize s.takeWhile namC = wd at *
  have HA := Lib.hid (show Bq w [.base (fun _ => False) w] from ⟨Ch.refl _ _, trivial⟩)
  go_enter Tryz.func27, Tryz.ntmps27
  go_upto_region 1 with (fail)
  have HB := Lib.hid (HA.out.box #[.int .i64 0, .string ⟨#[]⟩, .int .u64 0, .int .i64 0] 36 (n := w.heap.size) rfl)
  clear HA
  generalize w.alloc (.cells #[.int .i64 0, .string ⟨#[]⟩, .int .u64 0, .int .i64 0] 36 (0, 0)) = w1 at HB ⊢
  go_wp2_with fail
  refine (Hsmall_r.out _).mono ?_
  rintro e w' ⟨rfl, rfl⟩
  go_wp2_with fail
  refine (Hcapital_r.out _).mono ?_
  rintro e w' ⟨rfl, rfl⟩
  go_wp2_with fail
  refine (HN.out _).mono ?_
  rintro e w' ⟨rfl, rfl⟩
  go_wp2_with fail
  refine (Hsmall_r.out _).mono ?_
  rintro e w' ⟨rfl, rfl⟩
  go_wp2_with fail
  refine (HR.out _).mono ?_
  rintro e w3 ⟨rfl, hb3⟩
  have HB := Lib.hid (HB.out.below hb3)
  clear hb3
  obtain ⟨d0, d1, d2, d3, fd⟩ := four_cells (HB.out.blk 0 rfl)
  go_wp2_with fail
  have HE := Lib.hid (HB.out.put 0 rfl (by refine ⟨?_, trivial⟩ <;> (simp only [Fq.apart]; first | omega | (intro b h1 h2; omega) | (intro b h1; omega) | (intro b h1 h2 h3; omega))) (.int .i64 2) (.string (ba wd)) (.int .u64 0) (.int .i64 0))
  refine bodyPost_ret (results_tok3 rfl _ _ _ _ _ _ _ rfl (HE.out.blk 0 rfl)) rfl ?_
  refine ⟨?_, (HE.out.base 1 rfl).below (Nat.le_refl _) (fun _ _ h => h)⟩
  show Ending.returned (Value.tuple #[.agg #[.int .i64 2, .string (ba wd), .int .u64 0, .int .i64 0], .int .i64 (wd.length : Int), .int .i64 0]) = _
  rw [← HLn.out]
  rfl
set_option maxRecDepth 100000 in
set_option maxHeartbeats 8000000 in
theorem rtok_num_ok (c : UInt8) (r s : List UInt8) (w : World) (hs : s = c :: r) (hl : s.length ≤ 1000000) (h1 : 48 ≤ c.toNat) (h2 : c.toNat ≤ 57) (hk : numOk (s.takeWhile numC) (s.dropWhile numC) = true) :
    Calls Tryz.prog 27 #[.string (ba s)] w fun e w' => e = .returned (refV s (.tok 3 [] (numV (s.takeWhile numC)) (s.dropWhile numC))) ∧ Below w.heap.size w w' := by
  have s1 : ((ba s).size : Int) = (s.length : Int) := by rw [ba_size]
  have s2 : (ba s).size = s.length := by rw [ba_size]
  have hsl : 0 < s.length := by rw [hs]; simp
  have hz0 : 0 < (ba s).size := by omega
  have hc0 : (ba s)[0]'hz0 = c := head_at3 hs hz0
  have HS := Lib.hid hs
  clear hs
  have Hsmall_r := Lib.hid fun W => (small_r c W).mono fun e w' h => (show e = .returned (.bool false) ∧ w' = W by rw [show smallC c = false from by first | (rw [smallC_iff]; omega) | (rw [← Bool.not_eq_true, smallC_iff]; omega)] at h; exact h)
  have Hcapital_r := Lib.hid fun W => (capital_r c W).mono fun e w' h => (show e = .returned (.bool false) ∧ w' = W by rw [show capC c = false from by first | (rw [capC_iff]; omega) | (rw [← Bool.not_eq_true, capC_iff]; omega)] at h; exact h)
  have x95 : ((c.toNat : Int) == 95) = false := by simp; omega
  have Hdigit_r := Lib.hid fun W => (digit_r c W).mono fun e w' h => (show e = .returned (.bool true) ∧ w' = W by rw [show numC c = true from by first | (rw [numC_iff]; omega) | (rw [← Bool.not_eq_true, numC_iff]; omega)] at h; exact h)
  clear h1 h2
  have HNm := Lib.hid fun W => (number_r s W hl (by rw [HS.out]; simp))
  have hlen : ((s.length - (s.dropWhile numC).length : Nat) : Int) = ((s.takeWhile numC).length : Int) := by
    have := congrArg List.length (List.takeWhile_append_dropWhile (p := numC) (l := s))
    rw [List.length_append] at this; omega
  have HLn := Lib.hid hlen
  clear hlen
  rw [hk] at HNm
  clear hk
  generalize (s.takeWhile numC).length = n at *
  have HA := Lib.hid (show Bq w [.base (fun _ => False) w] from ⟨Ch.refl _ _, trivial⟩)
  go_enter Tryz.func27, Tryz.ntmps27
  go_upto_region 1 with (fail)
  have HB := Lib.hid (HA.out.box #[.int .i64 0, .string ⟨#[]⟩, .int .u64 0, .int .i64 0] 36 (n := w.heap.size) rfl)
  clear HA
  generalize w.alloc (.cells #[.int .i64 0, .string ⟨#[]⟩, .int .u64 0, .int .i64 0] 36 (0, 0)) = w1 at HB ⊢
  go_wp2_with fail
  refine (Hsmall_r.out _).mono ?_
  rintro e w' ⟨rfl, rfl⟩
  go_wp2_with fail
  refine (Hcapital_r.out _).mono ?_
  rintro e w' ⟨rfl, rfl⟩
  go_wp2_with fail
  refine (Hdigit_r.out _).mono ?_
  rintro e w' ⟨rfl, rfl⟩
  go_wp2_with fail
  refine (HNm.out _).mono ?_
  rintro e w' ⟨N, rfl, hN, rfl⟩
  obtain rfl := hN trivial
  obtain ⟨d0, d1, d2, d3, fd⟩ := four_cells (HB.out.blk 0 rfl)
  go_wp2_with fail
  have HE := Lib.hid (HB.out.put 0 rfl (by refine ⟨?_, trivial⟩ <;> (simp only [Fq.apart]; first | omega | (intro b h1 h2; omega) | (intro b h1; omega) | (intro b h1 h2 h3; omega))) (.int .i64 3) (.string ⟨#[]⟩) (.int .u64 (numV (s.takeWhile numC) : Int)) (.int .i64 0))
  refine bodyPost_ret (results_tok3 rfl _ _ _ _ _ _ _ rfl (HE.out.blk 0 rfl)) rfl ?_
  refine ⟨?_, (HE.out.base 1 rfl).below (Nat.le_refl _) (fun _ _ h => h)⟩
  show Ending.returned (Value.tuple #[.agg #[.int .i64 3, .string ⟨#[]⟩, .int .u64 (numV (s.takeWhile numC) : Int), .int .i64 0], .int .i64 (n : Int), .int .i64 0]) = _
  rw [← HLn.out]
  rfl
set_option maxRecDepth 100000 in
set_option maxHeartbeats 8000000 in
theorem rtok_num_bad (c : UInt8) (r s : List UInt8) (w : World) (hs : s = c :: r) (hl : s.length ≤ 1000000) (h1 : 48 ≤ c.toNat) (h2 : c.toNat ≤ 57) (hk : numOk (s.takeWhile numC) (s.dropWhile numC) = false) :
    Calls Tryz.prog 27 #[.string (ba s)] w fun e w' => e = .returned (refV s (.bad 92)) ∧ Below w.heap.size w w' := by
  have s1 : ((ba s).size : Int) = (s.length : Int) := by rw [ba_size]
  have s2 : (ba s).size = s.length := by rw [ba_size]
  have hsl : 0 < s.length := by rw [hs]; simp
  have hz0 : 0 < (ba s).size := by omega
  have hc0 : (ba s)[0]'hz0 = c := head_at3 hs hz0
  have HS := Lib.hid hs
  clear hs
  have Hsmall_r := Lib.hid fun W => (small_r c W).mono fun e w' h => (show e = .returned (.bool false) ∧ w' = W by rw [show smallC c = false from by first | (rw [smallC_iff]; omega) | (rw [← Bool.not_eq_true, smallC_iff]; omega)] at h; exact h)
  have Hcapital_r := Lib.hid fun W => (capital_r c W).mono fun e w' h => (show e = .returned (.bool false) ∧ w' = W by rw [show capC c = false from by first | (rw [capC_iff]; omega) | (rw [← Bool.not_eq_true, capC_iff]; omega)] at h; exact h)
  have x95 : ((c.toNat : Int) == 95) = false := by simp; omega
  have Hdigit_r := Lib.hid fun W => (digit_r c W).mono fun e w' h => (show e = .returned (.bool true) ∧ w' = W by rw [show numC c = true from by first | (rw [numC_iff]; omega) | (rw [← Bool.not_eq_true, numC_iff]; omega)] at h; exact h)
  clear h1 h2
  have HNm := Lib.hid fun W => (number_r s W hl (by rw [HS.out]; simp))
  rw [hk] at HNm
  clear hk
  generalize (s.takeWhile numC).length = n at *
  have HA := Lib.hid (show Bq w [.base (fun _ => False) w] from ⟨Ch.refl _ _, trivial⟩)
  go_enter Tryz.func27, Tryz.ntmps27
  go_upto_region 1 with (fail)
  have HB := Lib.hid (HA.out.box #[.int .i64 0, .string ⟨#[]⟩, .int .u64 0, .int .i64 0] 36 (n := w.heap.size) rfl)
  clear HA
  generalize w.alloc (.cells #[.int .i64 0, .string ⟨#[]⟩, .int .u64 0, .int .i64 0] 36 (0, 0)) = w1 at HB ⊢
  go_wp2_with fail
  refine (Hsmall_r.out _).mono ?_
  rintro e w' ⟨rfl, rfl⟩
  go_wp2_with fail
  refine (Hcapital_r.out _).mono ?_
  rintro e w' ⟨rfl, rfl⟩
  go_wp2_with fail
  refine (Hdigit_r.out _).mono ?_
  rintro e w' ⟨rfl, rfl⟩
  go_wp2_with fail
  refine (HNm.out _).mono ?_
  rintro e w' ⟨N, rfl, hN, rfl⟩
  obtain ⟨d0, d1, d2, d3, fd⟩ := four_cells (HB.out.blk 0 rfl)
  go_wp2_with fail
  have HE := Lib.hid (HB.out.put 0 rfl (by refine ⟨?_, trivial⟩ <;> (simp only [Fq.apart]; first | omega | (intro b h1 h2; omega) | (intro b h1; omega) | (intro b h1 h2 h3; omega))) (.int .i64 0) (.string ⟨#[]⟩) (.int .u64 0) (.int .i64 0))
  refine bodyPost_ret (results_tok3 rfl _ _ _ _ _ _ _ rfl (HE.out.blk 0 rfl)) rfl ?_
  exact ⟨rfl, (HE.out.base 1 rfl).below (Nat.le_refl _) (fun _ _ h => h)⟩
set_option maxRecDepth 100000 in
set_option maxHeartbeats 8000000 in
theorem rtok_quo (c : UInt8) (r s : List UInt8) (w : World) (hs : s = c :: r) (hl : s.length ≤ 1000000) (h1 : c.toNat = 34) :
    Calls Tryz.prog 27 #[.string (ba s)] w fun e w' => e = .returned (refV s (quoE (quoT (s.drop 1)))) ∧ Below w.heap.size w w' := by
  have s1 : ((ba s).size : Int) = (s.length : Int) := by rw [ba_size]
  have s2 : (ba s).size = s.length := by rw [ba_size]
  have hsl : 0 < s.length := by rw [hs]; simp
  have hz0 : 0 < (ba s).size := by omega
  have hc0 : (ba s)[0]'hz0 = c := head_at3 hs hz0
  have HS := Lib.hid hs
  clear hs
  have Hsmall_r := Lib.hid fun W => (small_r c W).mono fun e w' h => (show e = .returned (.bool false) ∧ w' = W by rw [show smallC c = false from by first | (rw [smallC_iff]; omega) | (rw [← Bool.not_eq_true, smallC_iff]; omega)] at h; exact h)
  have Hcapital_r := Lib.hid fun W => (capital_r c W).mono fun e w' h => (show e = .returned (.bool false) ∧ w' = W by rw [show capC c = false from by first | (rw [capC_iff]; omega) | (rw [← Bool.not_eq_true, capC_iff]; omega)] at h; exact h)
  have x95 : ((c.toNat : Int) == 95) = false := by simp; omega
  have Hdigit_r := Lib.hid fun W => (digit_r c W).mono fun e w' h => (show e = .returned (.bool false) ∧ w' = W by rw [show numC c = false from by first | (rw [numC_iff]; omega) | (rw [← Bool.not_eq_true, numC_iff]; omega)] at h; exact h)
  have x34 : ((c.toNat : Int) == 34) = true := by simp; omega
  clear h1
  have HQ := Lib.hid fun W => quoted_r s W (by omega) hsl
  generalize quoT (s.drop 1) = q at HQ ⊢
  have HA := Lib.hid (show Bq w [.base (fun _ => False) w] from ⟨Ch.refl _ _, trivial⟩)
  go_enter Tryz.func27, Tryz.ntmps27
  go_upto_region 1 with (fail)
  have HB := Lib.hid (HA.out.box #[.int .i64 0, .string ⟨#[]⟩, .int .u64 0, .int .i64 0] 36 (n := w.heap.size) rfl)
  clear HA
  generalize w.alloc (.cells #[.int .i64 0, .string ⟨#[]⟩, .int .u64 0, .int .i64 0] 36 (0, 0)) = w1 at HB ⊢
  go_wp2_with fail
  refine (Hsmall_r.out _).mono ?_
  rintro e w' ⟨rfl, rfl⟩
  go_wp2_with fail
  refine (Hcapital_r.out _).mono ?_
  rintro e w' ⟨rfl, rfl⟩
  go_wp2_with fail
  refine (Hdigit_r.out _).mono ?_
  rintro e w' ⟨rfl, rfl⟩
  cases q with
  | none =>
    go_wp2_with fail
    refine (show Calls Tryz.prog 63 #[.string (ba s)] _ fun e w' => e = .returned (.tuple #[.string (ba []), .int .i64 0, .bool false]) ∧ Below _ _ w' from HQ.out _).mono ?_
    rintro e w3 ⟨rfl, hb3⟩
    have HB := Lib.hid (HB.out.below hb3)
    clear hb3
    obtain ⟨d0, d1, d2, d3, fd⟩ := four_cells (HB.out.blk 0 rfl)
    go_wp2_with fail
    have HE := Lib.hid (HB.out.put 0 rfl (by refine ⟨?_, trivial⟩ <;> (simp only [Fq.apart]; first | omega | (intro b h1 h2; omega) | (intro b h1; omega) | (intro b h1 h2 h3; omega))) (.int .i64 0) (.string ⟨#[]⟩) (.int .u64 0) (.int .i64 0))
    refine bodyPost_ret (results_tok3 rfl _ _ _ _ _ _ _ rfl (HE.out.blk 0 rfl)) rfl ?_
    exact ⟨rfl, (HE.out.base 1 rfl).below (Nat.le_refl _) (fun _ _ h => h)⟩
  | some z =>
    go_wp2_with fail
    refine (show Calls Tryz.prog 63 #[.string (ba s)] _ fun e w' => e = .returned (.tuple #[.string (ba z.1), .int .i64 ((s.length - z.2.length : Nat) : Int), .bool true]) ∧ Below _ _ w' from HQ.out _).mono ?_
    rintro e w3 ⟨rfl, hb3⟩
    have HB := Lib.hid (HB.out.below hb3)
    clear hb3
    obtain ⟨d0, d1, d2, d3, fd⟩ := four_cells (HB.out.blk 0 rfl)
    obtain ⟨n, hn⟩ : ∃ n, s.length - z.2.length = n := ⟨_, rfl⟩
    have HNN := Lib.hid hn
    rw [hn]
    clear hn
    go_wp2_with fail
    have HE := Lib.hid (HB.out.put 0 rfl (by refine ⟨?_, trivial⟩ <;> (simp only [Fq.apart]; first | omega | (intro b h1 h2; omega) | (intro b h1; omega) | (intro b h1 h2 h3; omega))) (.int .i64 4) (.string (ba z.1)) (.int .u64 0) (.int .i64 0))
    refine bodyPost_ret (results_tok3 rfl _ _ _ _ _ _ _ rfl (HE.out.blk 0 rfl)) rfl ?_
    refine ⟨?_, (HE.out.base 1 rfl).below (Nat.le_refl _) (fun _ _ h => h)⟩
    show Ending.returned (Value.tuple #[.agg #[.int .i64 4, .string (ba z.1), .int .u64 0, .int .i64 0], .int .i64 (n : Int), .int .i64 0]) = _
    rw [← HNN.out]
    rfl
end Go.Proofs.YtmcnhggpmlhgeaaGreatDoor
