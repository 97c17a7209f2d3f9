/-
  Walks: the reference: Scan.
-/
import Derived.Test.YtmcnhggpmlhgeaaGreatDoorRfE
namespace Go.Proofs.YtmcnhggpmlhgeaaGreatDoor
open Go.RowKit
def lineC (c : UInt8) : Bool := decide (c.toNat ≠ 10)
theorem skip_comment : ∀ s : List UInt8, skipT true s = skipT false (s.dropWhile lineC)
  | [] => rfl
  | c :: r => by
    rw [List.dropWhile_cons]
    by_cases h : c.toNat = 10
    · have hl : lineC c = false := by unfold lineC; simp [h]
      rw [hl, if_neg Bool.false_ne_true, skipT, skipT]
      have h1 : ((true && decide (c.toNat ≠ 10)) || decide (c.toNat = 37)) = false := by simp [h]
      have h2 : ((false && decide (c.toNat ≠ 10)) || decide (c.toNat = 37)) = false := by simp [h]
      rw [h1, h2]
    · have hl : lineC c = true := by unfold lineC; simp [h]
      rw [hl, if_pos rfl, ← skip_comment r, skipT]
      have h1 : ((true && decide (c.toNat ≠ 10)) || decide (c.toNat = 37)) = true := by simp [h]
      rw [h1, Bool.true_or, if_pos rfl]
theorem skip_pct {c : UInt8} (r : List UInt8) (h : c.toNat = 37) : skipT false (c :: r) = skipT false ((c :: r).dropWhile lineC) := by
  have hl : lineC c = true := by unfold lineC; simp [h]
  rw [List.dropWhile_cons, hl, if_pos rfl, ← skip_comment r, skipT]
  have h1 : ((false && decide (c.toNat ≠ 10)) || decide (c.toNat = 37)) = true := by simp [h]
  rw [h1, Bool.true_or, if_pos rfl]
theorem skip_ws {c : UInt8} (r : List UInt8) (h : wsC c = true) : skipT false (c :: r) = skipT false r := by
  have h37 : c.toNat ≠ 37 := by rw [wsC_iff] at h; omega
  rw [skipT]
  have h1 : ((false && decide (c.toNat ≠ 10)) || decide (c.toNat = 37)) = false := by simp [h37]
  rw [h1, Bool.false_or, h, if_pos rfl]
set_option maxRecDepth 100000 in
set_option maxHeartbeats 8000000 in
theorem Scan_r_long (T : List UInt8) (w : World) (hT : 65536 < T.length) (hT2 : T.length ≤ 9223372036854775807) :
    Calls Tryz.prog 11 #[.string (ba T)] w (ScanP (scanL T) w) := by
  have hr := scanL_long hT
  generalize scanL T = r at hr ⊢
  have HR := Lib.hid hr
  clear hr
  have s1 : ((ba T).size : Int) = (T.length : Int) := by rw [ba_size]
  have s2 : (ba T).size = T.length := by rw [ba_size]
  have x1 : (65536 : Int) < (T.length : Int) := by omega
  go_enter Tryz.func11, Tryz.ntmps11
  go_wp2_with fail
  go_ret3
  exact ScanP.bad HR.out rfl (Below.refl _ _)
set_option maxRecDepth 100000 in
set_option maxHeartbeats 16000000 in
theorem Scan_r_any (T : List UInt8) (w : World) (hT : T.length ≤ 65536) :
    Calls Tryz.prog 11 #[.string (ba T)] w (ScanP (scanL T) w) := by
  have hr := scanL_eq hT
  have hst := ScSt.start T
  rw [← hr] at hst
  clear hr
  generalize scanL T = r at hst ⊢
  have HS := Lib.hid (show ScSt T.length r [] (skipT false (T.drop 0)) from hst)
  clear hst
  have s1 : ((ba T).size : Int) = (T.length : Int) := by rw [ba_size]
  have s2 : (ba T).size = T.length := by rw [ba_size]
  have x1 : ¬ (65536 : Int) < (T.length : Int) := by omega
  obtain ⟨i0, hi0, hk0⟩ := Option.map_eq_some_iff.1 Tryz.tokinfo
  simp only [Prod.mk.injEq] at hk0
  obtain ⟨iz0, iz1, iz2⟩ := hk0
  have HI := Lib.hid (And.intro hi0 (And.intro iz0 (And.intro iz1 iz2)))
  clear hi0 iz0 iz1 iz2
  go_enter Tryz.func11, Tryz.ntmps11
  go_wp2_with fail
  go_loopw [5, 6] (fun v vp wr => ∃ (P : Nat) (acc : List Tok), vp = .int .i64 P ∧ P ≤ T.length ∧ acc.length ≤ P ∧ Hid (ScSt T.length r acc (skipT false (T.drop P))) ∧ Hid (Below w.heap.size w wr) ∧ Hid (OwnK w.heap.size v acc wr)) (fun _ vp _ => T.length - (intOf vp).toNat)
  case atStart => exact ⟨0, [], rfl, Nat.zero_le _, Nat.zero_le _, HS, Lib.hid (Below.refl _ _), Lib.hid (OwnK.nil _ _)⟩
  case round =>
    clear HS
    obtain ⟨P, acc, rfl, hP, hacc, HS, HW, HO⟩ := hrel
    have hzr := HW.out.size
    by_cases hlt : P < T.length
    · have x2 : (P : Int) < (T.length : Int) := by omega
      have hks : P < (ba T).size := by rw [ba_size]; exact hlt
      obtain ⟨c, hc, hdr⟩ : ∃ c, (ba T)[P]'hks = c ∧ T.drop P = c :: T.drop (P + 1) := ⟨_, rfl, List.drop_eq_getElem_cons hlt⟩
      have HDR := Lib.hid hdr
      clear hdr
      by_cases hws : wsC c = true
      · have HS2 := Lib.hid (show ScSt T.length r acc (skipT false (T.drop (P + 1))) from by have h := HS.out; rw [HDR.out, skip_ws _ hws] at h; exact h)
        rw [wsC_iff] at hws
        by_cases h32 : c.toNat = 32
        · have z32 : ((c.toNat : Int) == 32) = true := by simp; omega
          clear hws h32
          go_wp2_with fail
          go_roundw
          case rel => exact ⟨P + 1, acc, by go_num, by omega, by omega, HS2, HW, HO⟩
          case measure => simp only [intOf]; omega
        · have z32 : ((c.toNat : Int) == 32) = false := by simp; omega
          by_cases h9 : c.toNat = 9
          · have z9 : ((c.toNat : Int) == 9) = true := by simp; omega
            clear hws h32 h9
            go_wp2_with fail
            go_roundw
            case rel => exact ⟨P + 1, acc, by go_num, by omega, by omega, HS2, HW, HO⟩
            case measure => simp only [intOf]; omega
          · have z9 : ((c.toNat : Int) == 9) = false := by simp; omega
            by_cases h10 : c.toNat = 10
            · have z10 : ((c.toNat : Int) == 10) = true := by simp; omega
              clear hws h32 h9 h10
              go_wp2_with fail
              go_roundw
              case rel => exact ⟨P + 1, acc, by go_num, by omega, by omega, HS2, HW, HO⟩
              case measure => simp only [intOf]; omega
            · have z10 : ((c.toNat : Int) == 10) = false := by simp; omega
              by_cases h13 : c.toNat = 13
              · have z13 : ((c.toNat : Int) == 13) = true := by simp; omega
                clear hws h32 h9 h10 h13
                go_wp2_with fail
                go_roundw
                case rel => exact ⟨P + 1, acc, by go_num, by omega, by omega, HS2, HW, HO⟩
                case measure => simp only [intOf]; omega
              · have z13 : ((c.toNat : Int) == 13) = false := by simp; omega
                exfalso; omega
      · have hws2 := hws
        rw [wsC_iff] at hws2
        have z32 : ((c.toNat : Int) == 32) = false := by simp; omega
        have z9 : ((c.toNat : Int) == 9) = false := by simp; omega
        have z10 : ((c.toNat : Int) == 10) = false := by simp; omega
        have z13 : ((c.toNat : Int) == 13) = false := by simp; omega
        by_cases h37 : c.toNat = 37
        · have z37 : ((c.toNat : Int) == 37) = true := by simp; omega
          obtain ⟨n, hn⟩ : ∃ n, ((T.drop P).takeWhile lineC).length = n := ⟨_, rfl⟩
          have hnl := tw_le lineC (T.drop P)
          rw [hn, List.length_drop] at hnl
          have HS2 := Lib.hid (show ScSt T.length r acc (skipT false (T.drop (P + n))) from by
            have h := HS.out
            rw [HDR.out, skip_pct _ h37, ← HDR.out, ← tw_drop, hn, List.drop_drop] at h
            exact h)
          have hn1 : 1 ≤ n := by
            rw [← hn, HDR.out, List.takeWhile_cons, show lineC c = true by unfold lineC; simp [h37], if_pos rfl]
            simp
          have HN := Lib.hid hn
          clear hn hws hws2 h37
          go_wp2_with fail
          go_loop [6] (fun vp => ∃ k : Nat, vp = .int .i64 ((P + k : Nat) : Int) ∧ k ≤ n) (fun vp => P + n - (intOf vp).toNat)
          case atStart => exact ⟨0, rfl, Nat.zero_le _⟩
          case round =>
            obtain ⟨k, rfl, hk⟩ := hrel
            obtain ⟨q, hq⟩ : ∃ q, P + k = q := ⟨_, rfl⟩
            rw [hq]
            by_cases hql : q < T.length
            · have y1 : (q : Int) < (T.length : Int) := by omega
              have hqs : q < (ba T).size := by rw [ba_size]; exact hql
              obtain ⟨d, hd, hds⟩ : ∃ d, (ba T)[q]'hqs = d ∧ T[q]'hql = d := ⟨_, rfl, rfl⟩
              by_cases hkn : k < n
              · have hdl : lineC d = true := by rw [← hds]; exact pos_in HN.out (by omega) (by omega) hql
                have yd : ¬ (d.toNat : Int) = 10 := by unfold lineC at hdl; simp at hdl; omega
                clear hds hdl
                go_wp2_with fail
                go_round
                case rel => exact ⟨k + 1, by rw [← Nat.add_assoc, hq]; go_num, by omega⟩
                case measure => simp only [intOf]; omega
              · have hdl : lineC d = false := by rw [← hds]; exact pos_stop2 HN.out (show q = P + n by omega) hql
                have yd : (d.toNat : Int) = 10 := by unfold lineC at hdl; simp at hdl; omega
                clear hds hdl
                obtain rfl : k = n := by omega
                rw [hq] at HS2
                go_wp2_with fail
                go_roundw
                case rel => exact ⟨q, acc, rfl, by omega, by omega, HS2, HW, HO⟩
                case measure => simp only [intOf]; omega
            · have y1 : ¬ (q : Int) < (T.length : Int) := by omega
              obtain rfl : k = n := by omega
              rw [hq] at HS2
              go_wp2_with fail
              go_roundw
              case rel => exact ⟨q, acc, rfl, by omega, by omega, HS2, HW, HO⟩
              case measure => simp only [intOf]; omega
        · have z37 : ((c.toNat : Int) == 37) = false := by simp; omega
          have hsk : skipT false (T.drop P) = T.drop P := by rw [HDR.out]; exact skip_head _ ((Bool.not_eq_true _).mp hws) h37
          rw [hsk] at HS
          clear hsk hws hws2 h37
          have hdl : (T.drop P).length = T.length - P := List.length_drop
          have hne : T.drop P ≠ [] := by rw [HDR.out]; simp
          have HTk := Lib.hid (show Calls Tryz.prog 27 #[.string ((ba T).extract P T.length)] wr fun e w' => e = .returned (refV (T.drop P) (tokT (T.drop P))) ∧ Below wr.heap.size wr w' from by rw [extract_drop]; exact token_r _ wr (by rw [hdl]; omega) hne)
          have y1 : (P : Int) ≤ (T.length : Int) := by omega
          have y2 : P ≤ T.length := by omega
          cases htr : tokT (T.drop P) with
          | bad er =>
            have HR := Lib.hid (HS.out.bad hne htr)
            rw [hdl, show T.length - (T.length - P) = P by omega] at HR
            have he := bad_ne htr
            rw [htr] at HTk
            clear htr
            have xe : ¬ er = 0 := by omega
            go_wp2_with fail
            refine HTk.out.mono ?_
            rintro e w3 ⟨rfl, hb3⟩
            have HW3 := Lib.hid (bstep HW.out hb3)
            clear hb3 HTk
            rw [show refV (T.drop P) (.bad er) = .tuple #[.agg #[.int .i64 0, .string ⟨#[]⟩, .int .u64 0, .int .i64 0], .int .i64 0, .int .i64 er] from rfl]
            go_wp2_with fail
            go_ret3
            exact ScanP.bad HR.out rfl (balloc HW3.out _)
          | tok k tx n rest =>
            have hlr := tok_len htr
            rw [hdl] at hlr
            have HN := Lib.hid (HS.out.next htr)
            rw [hdl, show T.length - (T.length - P) = P by omega] at HN
            obtain ⟨-, hsrc, -⟩ := tok_src htr 0
            rw [htr] at HTk
            clear htr
            obtain ⟨m, hm⟩ : ∃ m, (T.drop P).length - rest.length = m := ⟨_, rfl⟩
            have hrest : T.drop (P + m) = rest := by
              rw [← List.drop_drop, ← hm, hsrc, List.length_append, Nat.add_sub_cancel]
              exact List.drop_left
            rw [← hrest] at HN
            have hPm : P + m ≤ T.length := by omega
            have hm1 : 1 ≤ m := by omega
            have HM := Lib.hid hm
            clear hm hrest hsrc
            go_wp2_with fail
            refine HTk.out.mono ?_
            rintro e w3 ⟨rfl, hb3⟩
            have HW3 := Lib.hid (bstep HW.out hb3)
            have HO3 := Lib.hid (HO.out.below hb3)
            have hz3 := hb3.size
            clear hb3 HTk HO
            rw [show refV (T.drop P) (.tok k tx n rest) = .tuple #[.agg #[.int .i64 k, .string (ba tx), .int .u64 (n : Int), .int .i64 0], .int .i64 (((T.drop P).length - rest.length : Nat) : Int), .int .i64 0] from rfl, HM.out]
            have HO4 := Lib.hid (HO3.out.below (balloc (below_alloc w3 (.cells #[.int .i64 k, .string (ba tx), .int .u64 (n : Int), .int .i64 (P : Int)] 36 (0, 0))) (.cells #[.int .i64 k, .string (ba tx), .int .u64 (n : Int), .int .i64 (P : Int)] 36 (0, 0))))
            have HN4 := Lib.hid (heap_alloc_new (w3.alloc (.cells #[.int .i64 k, .string (ba tx), .int .u64 (n : Int), .int .i64 (P : Int)] 36 (0, 0))) (.cells #[.int .i64 k, .string (ba tx), .int .u64 (n : Int), .int .i64 (P : Int)] 36 (0, 0)))
            have HW4 := Lib.hid (balloc (balloc HW3.out (.cells #[.int .i64 k, .string (ba tx), .int .u64 (n : Int), .int .i64 (P : Int)] 36 (0, 0))) (.cells #[.int .i64 k, .string (ba tx), .int .u64 (n : Int), .int .i64 (P : Int)] 36 (0, 0)))
            have hz4 : ((w3.alloc (.cells #[.int .i64 k, .string (ba tx), .int .u64 (n : Int), .int .i64 (P : Int)] 36 (0, 0))).alloc (.cells #[.int .i64 k, .string (ba tx), .int .u64 (n : Int), .int .i64 (P : Int)] 36 (0, 0))).heap.size = w3.heap.size + 1 + 1 := by rw [World.size_alloc, World.size_alloc]
            have HZ4 := Lib.hid hz4
            clear hz4 HO3
            go_wp2_with (at_builtin; refine wpList_append_own _ rfl (.tmp 65) (.tmp 67) 23 rfl w.heap.size 36 i0 (.agg #[.int .i64 0, .string ⟨#[]⟩, .int .u64 0, .int .i64 0]) 4 40 Tryz.underlying23 HI.out.1 HI.out.2.1 HI.out.2.2.1 HI.out.2.2.2 rfl (by decide) _ acc.length (tksC acc) rfl HO4.out ⟨w3.heap.size + 1, 0, none⟩ 1 1 (tkC ⟨k, tx, n, (P : Int)⟩) rfl rfl (tok_news (by have h := HN4.out; rw [World.size_alloc] at h; exact h)) (tkC_cell _) (by unfold maxLen; omega) (by omega) (by rw [HZ4.out]; omega) ?_; intro v1 w4 hown4 hgrow4 _)
            have HO5 := Lib.hid (show OwnK w.heap.size v1 (acc ++ [⟨k, tx, n, (P : Int)⟩]) w4 from by unfold OwnK; rw [tksC_app, tksC_one, List.length_append]; exact hown4)
            have HW5 := Lib.hid (HW4.out.grown hgrow4 (by rw [HZ4.out]; omega) (fun j hj => (World.ownsRow.lt HO4.out j hj).1))
            clear hown4 hgrow4 HO4 HN4 HZ4 HW4
            go_roundw
            case rel => exact ⟨P + m, _, by go_num, hPm, by rw [List.length_append]; show acc.length + 1 ≤ P + m; omega, HN, HW5, HO5⟩
            case measure => simp only [intOf]; omega
    · have x2 : ¬ (P : Int) < (T.length : Int) := by omega
      obtain rfl : P = T.length := by omega
      rw [List.drop_length] at HS
      go_wp2_with fail
      go_ret3
      exact ScanP.ok (HS.out.stop) rfl HO.out HW.out
end Go.Proofs.YtmcnhggpmlhgeaaGreatDoor
