/-
  Walks: the law of compactness.
-/
import Derived.Test.YtmcnhggpmlhgeaaGreatDoorLwE
import Derived.Deep.DeepCutAuto
namespace Go.Proofs.YtmcnhggpmlhgeaaGreatDoor
open Go.RowKit
theorem errR_toks {T : List UInt8} (h : errR (scanL T) ≠ 0) : toksR (scanL T) = [] := by
  cases hs : scanL T with
  | bad p e => rfl
  | ok l => rw [hs] at h; exact absurd rfl h
theorem errR_ok {T : List UInt8} (h : errR (scanL T) = 0) : scanL T = .ok (toksR (scanL T)) := by
  cases hs : scanL T with
  | bad p e =>
    rw [hs] at h
    exact absurd h (scan_bad_ne hs)
  | ok l => rfl
theorem scan_short {T : List UInt8} {l : List Tok} (h : scanL T = .ok l) : T.length ≤ 65536 := by
  rcases Nat.lt_or_ge 65536 T.length with h1 | h1
  · rw [scanL_long h1] at h; cases h
  · exact h1
theorem scan_all {T : List UInt8} {l : List Tok} (h : scanL T = .ok l) : l.all validTk = true ∧ (joinTk l).length ≤ T.length + moreL l := by
  have hs := scan_short h
  rw [scanL_eq hs] at h
  obtain ⟨h1, h2, -⟩ := scan_valid T.length T.length T l rfl h
  have := skip_len false T
  exact ⟨List.all_eq_true.2 h1, by omega⟩
theorem moreL_le : ∀ l, moreL l ≤ l.length
  | [] => Nat.zero_le _
  | [_] => Nat.zero_le _
  | a :: b :: r => by
    have := moreL_le (b :: r)
    rw [moreL, List.length_cons]
    split <;> omega
theorem esc_ge : ∀ s : List UInt8, s.length ≤ (escT s).length
  | [] => Nat.zero_le _
  | c :: r => by
    have := esc_ge r
    rw [escT]
    split
    · simp only [List.length_cons]; omega
    · split <;> (simp only [List.length_cons]; omega)
theorem text_ge {t : Tok} (h : validTk t = true) : t.tx.length ≤ (textTk t).length := by
  unfold textTk
  split
  · rcases valid_cases h with ⟨-, h2, -⟩ | ⟨-, h2⟩
    · rw [h2]; exact Nat.zero_le _
    · rename_i h3
      omega
  · split
    · have := esc_ge t.tx
      simp only [List.length_cons, List.length_append]; omega
    · exact Nat.le_refl _
theorem text_join {l : List Tok} {t : Tok} (h : t ∈ l) : (textTk t).length ≤ (joinTk l).length := by
  obtain ⟨i, hi, rfl⟩ := List.getElem_of_mem h
  have h1 := join_has l i hi
  have h2 := join_mono l l.length (Nat.le_refl _) (i + 1) hi
  rw [List.take_length] at h2
  omega
theorem scan_tx {T : List UInt8} {l : List Tok} (h : scanL T = .ok l) : ∀ t ∈ l, t.tx.length ≤ 1000000 := fun t ht => by
  obtain ⟨h1, h2⟩ := scan_all h
  have h3 := scan_short h
  have h4 := scan_ok_len h
  have h5 := moreL_le l
  have h6 := text_join ht
  have h7 := text_ge (List.all_eq_true.1 h1 t ht)
  omega
theorem moreL_nil {l : List Tok} {P : Nat} (h : l.length ≤ P + 1) : moreL (l.drop P) = 0 := by
  have : (l.drop P).length ≤ 1 := by rw [List.length_drop]; omega
  match l.drop P, this with
  | [], _ => rfl
  | [_], _ => rfl
theorem moreL_step {l : List Tok} {P : Nat} (h : P + 1 < l.length) : moreL (l.drop P) = (if spec l[P] l[P + 1] then 1 else 0) + moreL (l.drop (P + 1)) := by
  rw [List.drop_eq_getElem_cons (show P < l.length by omega), List.drop_eq_getElem_cons h, moreL]
/-- what the law asks of the joined text -/
theorem compact_long {T : List UInt8} {l : List Tok} (h : scanL T = .ok l) (he : (joinR l).2 ≠ 0) : (joinR l).2 = 3 ∧ 65536 < T.length + moreL l := by
  obtain ⟨h1, h2⟩ := scan_all h
  by_cases hl : 65536 < (joinTk l).length
  · rw [joinR_long h1 hl]; exact ⟨rfl, by omega⟩
  · rw [joinR_ok h1 hl] at he; exact absurd rfl he
theorem compact_ok {T : List UInt8} {l : List Tok} (h : scanL T = .ok l) (he : (joinR l).2 = 0) : (joinR l).1.length ≤ T.length + moreL l ∧ ∃ m, scanL (joinR l).1 = .ok m ∧ sameL l m = true ∧ joinR m = ((joinR l).1, 0) := by
  obtain ⟨h1, h2⟩ := scan_all h
  by_cases hl : 65536 < (joinTk l).length
  · rw [joinR_long h1 hl] at he; cases he
  · obtain ⟨m, h3, h4⟩ := joinR_scan he
    rw [joinR_ok h1 hl] at h3 ⊢
    refine ⟨h2, m, h3, h4, ?_⟩
    rw [joinR_ok (scan_all h3).1 (by rw [← joinTk_same h4]; exact hl), ← joinTk_same h4]
set_option maxRecDepth 100000 in
set_option maxHeartbeats 16000000 in
theorem LexCompact_any (T : List UInt8) (w : World) (hT : T.length ≤ 9223372036854775807) (hTb : Tb w) :
    Calls Tryz.prog 7 #[.string (ba T)] w (Yes w) := by
  have HSh := Lib.hid (shown_any w hTb)
  have HTb := Lib.hid hTb
  have HS := Lib.hid fun W (hb : Below w.heap.size w W) => scan_q T W hT (hTb.below hb)
  have HE1 := Lib.hid (errR_toks (T := T))
  have HE2 := Lib.hid (errR_ok (T := T))
  have s1 : ((ba T).size : Int) = (T.length : Int) := by rw [ba_size]
  clear hTb
  go_enter Tryz.func7, Tryz.ntmps7
  go_wp2_with fail
  refine HSh.out.mono ?_
  rintro e w1 ⟨rfl, hb1⟩
  have HW1 := Lib.hid hb1
  have hz1 := hb1.size
  clear hb1
  have HS1 := Lib.hid (HS.out w1 HW1.out)
  unfold ScanQ at HS1
  generalize hr : scanL T = r at HS1 HE1 HE2
  have HRr := Lib.hid hr
  clear hr
  generalize posR r = P1 at HS1
  generalize hE : errR r = E at HS1 HE1 HE2
  clear hE
  generalize toksR r = l at HS1 HE1 HE2
  go_wp2_with fail
  refine HS1.out.mono ?_
  rintro e w2 ⟨v, rfl, hv, hb2⟩
  have HW2 := Lib.hid (bstep HW1.out hb2)
  have hz2 := hb2.size
  clear hb2 HS1 HSh HS
  have HR2 := Lib.hid hv
  obtain ⟨ao, cap, rfl, hcap, hlen, hc⟩ := hv
  by_cases hE : E = 0
  rotate_left
  · have hl := HE1.out hE
    subst hl
    have xE : ¬ E = 0 := hE
    clear HE1 HE2 hE
    go_wp2_with fail
    go_ret
    exact ⟨rfl, HW2.out⟩
  subst hE
  have hsc := HE2.out rfl
  have HSc := Lib.hid (HRr.out.trans hsc)
  clear HE1 HE2 HRr hsc
  have hTs := scan_short HSc.out
  have hml := moreL_le l
  have HC := Lib.hid hc
  clear hc
  go_wp2_with fail
  go_loop [6, 7] (fun vm vi => ∃ (I P m : Nat), vi = .int .i64 (I : Int) ∧ vm = .int .i64 (m : Int) ∧ I = P + 1 ∧ (P ≤ l.length) ∧ m ≤ P ∧ Hid (moreL l = m + moreL (l.drop P))) (fun _ vi => l.length + 1 - (intOf vi).toNat)
  case atStart => exact ⟨1, 0, 0, rfl, rfl, rfl, Nat.zero_le _, Nat.le_refl _, Lib.hid (by rw [List.drop_zero, Nat.zero_add])⟩
  case round =>
    obtain ⟨I, P, m, rfl, rfl, hI, hPl, hmP, HM⟩ := hrel
    by_cases hlt : P + 1 < l.length
    · have x1 : (I : Int) < (l.length : Int) := by omega
      have hIl : I < l.length := by omega
      have hPl2 : P < l.length := by omega
      have x2 : (P : Int) < (l.length : Int) := by omega
      have hiw : IntKind.i64.wrap ((I : Int) - 1) = (P : Int) := by rw [IntKind.wrap_i64]; omega
      have hne : l ≠ [] := by intro h; subst h; simp at hlt
      obtain ⟨b1, o1, rfl, hb1, hc1⟩ := HC.out hne
      obtain ⟨x, hx⟩ : ∃ x, l[P]'hPl2 = x := ⟨_, rfl⟩
      obtain ⟨y, hy⟩ : ∃ y, l[I]'hIl = y := ⟨_, rfl⟩
      obtain ⟨c0, c1, c2, c3⟩ := tok_cells hc1 hPl2 hx
      obtain ⟨d0, d1, d2, d3⟩ := tok_cells hc1 hIl hy
      have hst : moreL (l.drop P) = (if spec x y then 1 else 0) + moreL (l.drop I) := by
        have h := moreL_step hlt
        rw [hx] at h
        subst hI
        rw [h, hy]
      have HSt := Lib.hid (show moreL l = m + ((if spec x y then 1 else 0) + moreL (l.drop I)) from by rw [HM.out, hst])
      have hS := spec_iff x y
      generalize spec x y = S at HSt hS
      have HI := Lib.hid hI
      clear hst hc1 hne hx hy HM hI hlt
      obtain ⟨ka, ta, na, pa⟩ := x
      obtain ⟨kb, tb, nb, pb⟩ := y
      replace hS : S = true ↔ ka = 6 ∧ ta = [61] ∧ kb = 6 ∧ (tb = [58] ∨ tb = [47]) := hS
      go_upto_region 10 with (fail)
      go_cut [73] (fun s73 wx => s73 = .bool S ∧ wx = w2)
      case first =>
        by_cases h1 : ka = 6
        · subst h1
          by_cases h2 : ta = [61]
          · have t61 : ((ba ta).toList == ([61] : List UInt8)) = true := by rw [ba_toList]; simpa using h2
            by_cases h3 : kb = 6
            · subst h3
              by_cases h4 : tb = [58]
              · have t58 : ((ba tb).toList == ([58] : List UInt8)) = true := by rw [ba_toList]; simpa using h4
                have HS := Lib.hid (show S = true from hS.2 ⟨rfl, h2, rfl, .inl h4⟩)
                clear hS h2 h4
                go_wp2_with fail
                go_meet
                case rel => exact ⟨by rw [HS.out], rfl⟩
              · have t58 : ((ba tb).toList == ([58] : List UInt8)) = false := by rw [ba_toList]; simpa using h4
                by_cases h5 : tb = [47]
                · have t47 : ((ba tb).toList == ([47] : List UInt8)) = true := by rw [ba_toList]; simpa using h5
                  have HS := Lib.hid (show S = true from hS.2 ⟨rfl, h2, rfl, .inr h5⟩)
                  clear hS h2 h4 h5
                  go_wp2_with fail
                  go_meet
                  case rel => exact ⟨by rw [HS.out], rfl⟩
                · have t47 : ((ba tb).toList == ([47] : List UInt8)) = false := by rw [ba_toList]; simpa using h5
                  have HS := Lib.hid (show S = false from (Bool.not_eq_true _).mp fun h => (hS.1 h).2.2.2.elim h4 h5)
                  clear hS h2 h4 h5
                  go_wp2_with fail
                  go_meet
                  case rel => exact ⟨by rw [HS.out], rfl⟩
            · have x3 : (kb == 6) = false := by simpa using h3
              have HS := Lib.hid (show S = false from (Bool.not_eq_true _).mp fun h => h3 (hS.1 h).2.2.1)
              clear hS h2 h3
              go_wp2_with fail
              go_meet
              case rel => exact ⟨by rw [HS.out], rfl⟩
          · have t61 : ((ba ta).toList == ([61] : List UInt8)) = false := by rw [ba_toList]; simpa using h2
            have HS := Lib.hid (show S = false from (Bool.not_eq_true _).mp fun h => h2 (hS.1 h).2.1)
            clear hS h2
            go_wp2_with fail
            go_meet
            case rel => exact ⟨by rw [HS.out], rfl⟩
        · have x1 : (ka == 6) = false := by simpa using h1
          have HS := Lib.hid (show S = false from (Bool.not_eq_true _).mp fun h => h1 (hS.1 h).1)
          clear hS h1
          go_wp2_with fail
          go_meet
          case rel => exact ⟨by rw [HS.out], rfl⟩
      case rest =>
        obtain ⟨rfl, rfl⟩ := hcut
        clear hS c0 c1 c2 c3 d0 d1 d2 d3
        cases S with
        | true =>
          have HSt2 := Lib.hid (show moreL l = (m + 1) + moreL (l.drop I) from by rw [HSt.out, if_pos rfl]; omega)
          go_wp2_with fail
          go_round
          case rel => exact ⟨I + 1, I, m + 1, by go_num, by go_num, rfl, by omega, by have := HI.out; omega, HSt2⟩
          case measure => simp only [intOf]; omega
        | false =>
          have HSt2 := Lib.hid (show moreL l = m + moreL (l.drop I) from by rw [HSt.out, if_neg Bool.false_ne_true]; omega)
          go_wp2_with fail
          go_round
          case rel => exact ⟨I + 1, I, m, by go_num, rfl, rfl, by omega, by have := HI.out; omega, HSt2⟩
          case measure => simp only [intOf]; omega
    · have x1 : ¬ (I : Int) < (l.length : Int) := by omega
      have hmm : moreL l = m := by rw [HM.out, moreL_nil (by omega)]; rfl
      have HL := Lib.hid (compact_long HSc.out)
      have HOk := Lib.hid (compact_ok HSc.out)
      have hTx := scan_tx HSc.out
      have HJ := Lib.hid (Join_any w2.heap.size l _ w2 HR2.out (Nat.le_refl _) hTx (HTb.out.below HW2.out))
      rw [show joinV (joinR l) = .returned (.tuple #[.string (ba (joinR l).1), .int .i64 (joinR l).2]) from rfl] at HJ
      rw [hmm] at HL HOk
      have HLn := Lib.hid (joinR_len l)
      generalize (joinR l).1 = S at *
      generalize (joinR l).2 = E at *
      have hmb : m ≤ 1000000000 := by omega
      clear HM hmm hTx
      go_wp2_with fail
      refine HJ.out.mono ?_
      rintro e w3 ⟨rfl, hb3⟩
      have HW3 := Lib.hid (bstep HW2.out hb3)
      have HR3 := Lib.hid (HR2.out.below hb3 (Nat.le_refl _))
      have hz3 := hb3.size
      clear hb3 HJ
      by_cases hE : E = 0
      · subst hE
        obtain ⟨hle, m2, hm, hs, hj⟩ := HOk.out rfl
        have hSl := HLn.out
        have sS : ((ba S).size : Int) = (S.length : Int) := by rw [ba_size]
        have y1 : ¬ (T.length : Int) + (m : Int) < (S.length : Int) := by omega
        have HS := Lib.hid (scan_q S w3 (by omega) (HTb.out.below HW3.out))
        unfold ScanQ at HS
        rw [hm] at HS
        simp only [toksR, posR, errR] at HS
        have hTx2 := Lib.hid (scan_tx hm)
        have HJe := Lib.hid hj
        have HSm0 := Lib.hid hs
        clear HL HOk hm hs hj hle
        go_wp2_with fail
        refine HS.out.mono ?_
        rintro e w4 ⟨v4, rfl, hv4, hb4⟩
        have HW4 := Lib.hid (bstep HW3.out hb4)
        have HR4 := Lib.hid (HR3.out.below hb4 hz3)
        have HV4 := Lib.hid hv4
        have hz4 := hb4.size
        have HJ2 := Lib.hid (show Calls Tryz.prog 15 #[v4] w4 fun e w' => e = .returned (.tuple #[.string (ba S), .int .i64 0]) ∧ Below w4.heap.size w4 w' from by
          have h := Join_any w4.heap.size m2 v4 w4 hv4 (Nat.le_refl _) hTx2.out (HTb.out.below HW4.out)
          rw [HJe.out] at h
          exact h)
        clear hb4 hv4 HS
        go_wp2_with fail
        refine HJ2.out.mono ?_
        rintro e w5 ⟨rfl, hb5⟩
        have HW5 := Lib.hid (bstep HW4.out hb5)
        have HR5 := Lib.hid (HR4.out.below hb5 (by omega))
        have HV5 := Lib.hid (HV4.out.below hb5 (Nat.le_refl _))
        have hz5 := hb5.size
        clear hb5 HJ2
        have HSm := Lib.hid (show Calls Tryz.prog 22 #[.slice ao l.length cap, v4] w5 fun e w' => e = .returned (.bool true) ∧ Below w5.heap.size w5 w' from by
          have h := Same_any w4.heap.size l m2 _ v4 w5 (HR5.out.more (by omega)) HV5.out (by omega)
          rw [HSm0.out] at h
          exact h)
        have xS : ((ba S).toList == (ba S).toList) = true := by simp
        go_wp2_with fail
        refine HSm.out.mono ?_
        rintro e w6 ⟨rfl, hb6⟩
        have HW6 := Lib.hid (bstep HW5.out hb6)
        clear hb6
        go_wp2_with fail
        go_ret
        exact ⟨rfl, HW6.out⟩
      · obtain ⟨h3, hlong⟩ := HL.out hE
        subst h3
        have y1 : (65536 : Int) < (T.length : Int) + (m : Int) := by omega
        clear HL HOk hE
        go_wp2_with fail
        go_ret
        exact ⟨rfl, HW3.out⟩
end Go.Proofs.YtmcnhggpmlhgeaaGreatDoor
