/-
  Walks: the reference: apart.
-/
import Derived.Test.YtmcnhggpmlhgeaaGreatDoorRfF
import Derived.Test.YtmcnhggpmlhgeaaGreatDoorRfG
import Derived.Test.YtmcnhggpmlhgeaaGreatDoorRfI
import Derived.Test.YtmcnhggpmlhgeaaGreatDoorFix2
import Derived.Test.YtmcnhggpmlhgeaaGreatDoorLwP
namespace Go.Proofs.YtmcnhggpmlhgeaaGreatDoor
open Go.RowKit
/-- what apart answers -/
def apR (a b : Tok) : Bool := spec a b || match scanL (textTk a ++ textTk b) with
  | .bad _ _ => true
  | .ok m => !sameL m [a, b]
set_option maxRecDepth 100000 in
set_option maxHeartbeats 16000000 in
theorem apart_r (a b : Tok) (w : World) (hla : a.tx.length ≤ 1000000) (hlb : b.tx.length ≤ 1000000) (hna : a.n ≤ 9223372036854775808) (hnb : b.n ≤ 9223372036854775808) (hx : (textTk a).length ≤ 3000000) (hy : (textTk b).length ≤ 3000000) :
    Calls Tryz.prog 36 #[.agg #[.int .i64 a.k, .string (ba a.tx), .int .u64 (a.n : Int), .int .i64 a.pos], .agg #[.int .i64 b.k, .string (ba b.tx), .int .u64 (b.n : Int), .int .i64 b.pos]] w fun e w' => e = .returned (.bool (apR a b)) ∧ Below w.heap.size w w' := by
  have HX := Lib.hid fun W => Text_r a W hla hna
  have HY := Lib.hid fun W => Text_r b W hlb hnb
  have hr : apR a b = (spec a b || match scanL (textTk a ++ textTk b) with | .bad _ _ => true | .ok m => !sameL m [a, b]) := rfl
  have HSp := Lib.hid (spec_iff a b)
  have HSc := Lib.hid fun W => (show Calls Tryz.prog 11 #[.string (ba (textTk a) ++ ba (textTk b))] W (ScanP (scanL (textTk a ++ textTk b)) W) from by
    rw [ba_app2]
    rcases Nat.lt_or_ge 65536 (textTk a ++ textTk b).length with h | h
    · exact Scan_r_long _ W h (by rw [List.length_append]; omega)
    · exact Scan_r_any _ W h)
  have sX2 : (ba (textTk a)).size = (textTk a).length := ba_size _
  have sY2 : (ba (textTk b)).size = (textTk b).length := ba_size _
  have HBn := Lib.hid fun p e => scan_bad_ne (s := textTk a ++ textTk b) (p := p) (e := e)
  have HOn := Lib.hid fun l => scan_ok_len (s := textTk a ++ textTk b) (l := l)
  generalize scanL (textTk a ++ textTk b) = sc at hr HSc HBn HOn
  generalize apR a b = R at hr ⊢
  generalize spec a b = S at hr HSp
  generalize textTk a = X at *
  generalize textTk b = Y at *
  have z1 : ¬ 9223372036854775807 < X.length + Y.length := by omega
  have HR := Lib.hid hr
  clear hr hla hlb hna hnb hx hy
  go_enter Tryz.func36, Tryz.ntmps36
  go_upto_region 1 with (fail)
  have hA0 := heap_after (heap_alloc_new w (.cells #[.int .i64 a.k, .string (ba a.tx), .int .u64 (a.n : Int), .int .i64 a.pos] 36 (0, 0))) (.cells #[.int .i64 b.k, .string (ba b.tx), .int .u64 (b.n : Int), .int .i64 b.pos] 36 (0, 0))
  have hB0 := heap_alloc_new (w.alloc (.cells #[.int .i64 a.k, .string (ba a.tx), .int .u64 (a.n : Int), .int .i64 a.pos] 36 (0, 0))) (.cells #[.int .i64 b.k, .string (ba b.tx), .int .u64 (b.n : Int), .int .i64 b.pos] 36 (0, 0))
  rw [World.size_alloc] at hB0
  have HW0 := Lib.hid (balloc (below_alloc w (.cells #[.int .i64 a.k, .string (ba a.tx), .int .u64 (a.n : Int), .int .i64 a.pos] 36 (0, 0))) (.cells #[.int .i64 b.k, .string (ba b.tx), .int .u64 (b.n : Int), .int .i64 b.pos] 36 (0, 0)))
  have HA0 := Lib.hid hA0
  have HB0 := Lib.hid hB0
  clear hA0 hB0
  generalize (w.alloc (.cells #[.int .i64 a.k, .string (ba a.tx), .int .u64 (a.n : Int), .int .i64 a.pos] 36 (0, 0))).alloc (.cells #[.int .i64 b.k, .string (ba b.tx), .int .u64 (b.n : Int), .int .i64 b.pos] 36 (0, 0)) = w1 at HA0 HB0 HW0 ⊢
  go_cut [30] (fun s30 wx => s30 = .bool S ∧ wx = w1)
  case first =>
    obtain ⟨c0, c1, c2, c3, -⟩ := four_cells HA0.out
    obtain ⟨d0, d1, d2, d3, -⟩ := four_cells HB0.out
    clear HR HX HY HSc HBn HOn
    obtain ⟨ka, ta, na, pa⟩ := a
    obtain ⟨kb, tb, nb, pb⟩ := b
    have hS : S = true ↔ ka = 6 ∧ ta = [61] ∧ kb = 6 ∧ (tb = [58] ∨ tb = [47]) := HSp.out
    clear HSp HA0 HB0
    by_cases h1 : ka = 6
    · subst h1
      by_cases h2 : ta = [61]
      · have t61 : ((ba ta).toList == ([61] : List UInt8)) = true := by rw [ba_toList]; simpa using h2
        by_cases h3 : kb = 6
        · subst h3
          by_cases h4 : tb = [58]
          · have t58 : ((ba tb).toList == ([58] : List UInt8)) = true := by rw [ba_toList]; simpa using h4
            have HS := Lib.hid (show S = true from hS.2 ⟨rfl, h2, rfl, .inl h4⟩)
            clear hS h2 h4
            go_wp2_with fail
            go_meet
            case rel => exact ⟨by rw [HS.out], rfl⟩
          · have t58 : ((ba tb).toList == ([58] : List UInt8)) = false := by rw [ba_toList]; simpa using h4
            by_cases h5 : tb = [47]
            · have t47 : ((ba tb).toList == ([47] : List UInt8)) = true := by rw [ba_toList]; simpa using h5
              have HS := Lib.hid (show S = true from hS.2 ⟨rfl, h2, rfl, .inr h5⟩)
              clear hS h2 h4 h5
              go_wp2_with fail
              go_meet
              case rel => exact ⟨by rw [HS.out], rfl⟩
            · have t47 : ((ba tb).toList == ([47] : List UInt8)) = false := by rw [ba_toList]; simpa using h5
              have HS := Lib.hid (show S = false from (Bool.not_eq_true _).mp fun h => (hS.1 h).2.2.2.elim h4 h5)
              clear hS h2 h4 h5
              go_wp2_with fail
              go_meet
              case rel => exact ⟨by rw [HS.out], rfl⟩
        · have x3 : (kb == 6) = false := by simpa using h3
          have HS := Lib.hid (show S = false from (Bool.not_eq_true _).mp fun h => h3 (hS.1 h).2.2.1)
          clear hS h2 h3
          go_wp2_with fail
          go_meet
          case rel => exact ⟨by rw [HS.out], rfl⟩
      · have t61 : ((ba ta).toList == ([61] : List UInt8)) = false := by rw [ba_toList]; simpa using h2
        have HS := Lib.hid (show S = false from (Bool.not_eq_true _).mp fun h => h2 (hS.1 h).2.1)
        clear hS h2
        go_wp2_with fail
        go_meet
        case rel => exact ⟨by rw [HS.out], rfl⟩
    · have x1 : (ka == 6) = false := by simpa using h1
      have HS := Lib.hid (show S = false from (Bool.not_eq_true _).mp fun h => h1 (hS.1 h).1)
      clear hS h1
      go_wp2_with fail
      go_meet
      case rel => exact ⟨by rw [HS.out], rfl⟩
  case rest =>
    obtain ⟨rfl, rfl⟩ := hcut
    cases S with
    | true =>
      have HR2 := Lib.hid (show R = true from by rw [HR.out]; rfl)
      go_wp2_with fail
      go_ret
      exact ⟨by rw [HR2.out]; rfl, HW0.out⟩
    | false =>
      rw [Bool.false_or] at HR
      go_upto_region 3 with (fail)
      cases sc with
      | bad p er =>
        have HR2 := Lib.hid (show R = true from HR.out)
        have hen := HBn.out p er rfl
        clear HR HBn HOn
        refine' wp_region_fix (by kernel_rfl) 13 [some 32, some 33, some 34, some 35, some 36, some 37, some 31, some 38, some 39, some 40, some 5, some 6, some 7] [_, _, _, _, _, _, _, _, _, _, _, _, _] [] (fun (_ : List Bool) (W : World) => Below wc.heap.size wc W) (by kernel_rfl) (by decide) (by kernel_rfl) (by decide) (by rfl) (by decide) ((Below.refl _ _).drew) ?_ ?_
        rotate_left 13
        · refine all_cons 0 ?_ (all_cons 1 ?_ (all_cons 2 ?_ (all_cons 3 ?_ (all_cons 4 ?_ (all_cons 5 ?_ (all_cons 6 ?_ (all_cons 7 ?_ (all_cons 8 ?_ (all_cons 9 ?_ (all_cons 10 ?_ (all_cons 11 ?_ (all_cons 12 ?_ (all_done 13)))))))))))))
          · intro o ho fs W HFi HAf HJ A HA HZ K' HK
            have z2 : A.tmps[2]? = some _ := HZ.out 2 (by decide)
            clear HAf HA HZ
            obtain ⟨c0, c1, c2, c3, -⟩ := four_cells ((HJ.out.block w.heap.size (lt_of_block HA0.out)).trans HA0.out)
            obtain ⟨d0, d1, d2, d3, -⟩ := four_cells ((HJ.out.block (w.heap.size + 1) (lt_of_block HB0.out)).trans HB0.out)
            cases ho
            go_simp
            exact HK.out _ HJ.out
          · intro o ho fs W HFi HAf HJ A HA HZ K' HK
            have f0 : fs 0 = true := by cases ho; exact HAf.out ⟨0, .data⟩ (by simp) rfl
            have s0 := HA.out 0 32 (by decide) f0 rfl
            simp only [List.getD_cons_zero] at s0
            clear HAf HA HZ
            cases ho
            go_simp
            refine (HX.out W).mono ?_
            rintro e w3 ⟨rfl, hb3⟩
            exact HK.out _ (bstep HJ.out hb3)
          · intro o ho fs W HFi HAf HJ A HA HZ K' HK
            have z3 : A.tmps[3]? = some _ := HZ.out 3 (by decide)
            clear HAf HA HZ
            obtain ⟨c0, c1, c2, c3, -⟩ := four_cells ((HJ.out.block w.heap.size (lt_of_block HA0.out)).trans HA0.out)
            obtain ⟨d0, d1, d2, d3, -⟩ := four_cells ((HJ.out.block (w.heap.size + 1) (lt_of_block HB0.out)).trans HB0.out)
            cases ho
            go_simp
            exact HK.out _ HJ.out
          · intro o ho fs W HFi HAf HJ A HA HZ K' HK
            have f2 : fs 2 = true := by cases ho; exact HAf.out ⟨2, .data⟩ (by simp) rfl
            have s2 := HA.out 2 34 (by decide) f2 rfl
            simp only [List.getD_cons_succ, List.getD_cons_zero] at s2
            clear HAf HA HZ
            cases ho
            go_simp
            refine (HY.out W).mono ?_
            rintro e w3 ⟨rfl, hb3⟩
            exact HK.out _ (bstep HJ.out hb3)
          · intro o ho fs W HFi HAf HJ A HA HZ K' HK
            have f1 : fs 1 = true := by cases ho; exact HAf.out ⟨1, .data⟩ (by simp) rfl
            have s1 := HA.out 1 33 (by decide) f1 rfl
            simp only [List.getD_cons_succ, List.getD_cons_zero] at s1
            have f3 : fs 3 = true := by cases ho; exact HAf.out ⟨3, .data⟩ (by simp) rfl
            have s3 := HA.out 3 35 (by decide) f3 rfl
            simp only [List.getD_cons_succ, List.getD_cons_zero] at s3
            clear HAf HA HZ f1 f3
            cases ho
            go_simp
            exact HK.out _ HJ.out
          · intro o ho fs W HFi HAf HJ A HA HZ K' HK
            have f4 : fs 4 = true := by cases ho; exact HAf.out ⟨4, .data⟩ (by simp) rfl
            have s4 := HA.out 4 36 (by decide) f4 rfl
            simp only [List.getD_cons_succ, List.getD_cons_zero] at s4
            clear HAf HA HZ
            cases ho
            go_simp
            refine (HSc.out W).mono ?_
            rintro e w3 ⟨rfl, hb3⟩
            exact HK.out _ (bstep HJ.out hb3)
          · intro o ho fs W HFi HAf HJ A HA HZ K' HK
            have f5 : fs 5 = true := by cases ho; exact HAf.out ⟨5, .data⟩ (by simp) rfl
            have s5 := HA.out 5 37 (by decide) f5 rfl
            simp only [List.getD_cons_succ, List.getD_cons_zero] at s5
            clear HAf HA HZ f5
            cases ho
            go_simp
            exact HK.out _ HJ.out
          · intro o ho fs W HFi HAf HJ A HA HZ K' HK
            have f6 : fs 6 = true := by cases ho; exact HAf.out ⟨6, .data⟩ (by simp) rfl
            have s6 := HA.out 6 31 (by decide) f6 rfl
            simp only [List.getD_cons_succ, List.getD_cons_zero] at s6
            clear HAf HA HZ f6
            cases ho
            go_simp
            exact HK.out _ HJ.out
          · intro o ho fs W HFi HAf HJ A HA HZ K' HK
            have f6 : fs 6 = true := by cases ho; exact HAf.out ⟨6, .data⟩ (by simp) rfl
            have s6 := HA.out 6 31 (by decide) f6 rfl
            simp only [List.getD_cons_succ, List.getD_cons_zero] at s6
            clear HAf HA HZ f6
            cases ho
            go_simp
            exact HK.out _ HJ.out
          · intro o ho fs W HFi HAf HJ A HA HZ K' HK
            have f6 : fs 6 = true := by cases ho; exact HAf.out ⟨6, .data⟩ (by simp) rfl
            have s6 := HA.out 6 31 (by decide) f6 rfl
            simp only [List.getD_cons_succ, List.getD_cons_zero] at s6
            clear HAf HA HZ f6
            cases ho
            go_simp
            exact HK.out _ HJ.out
          · intro o ho fs W HFi HAf HJ A HA HZ K' HK
            have f7 : fs 7 = true := by cases ho; exact HAf.out ⟨7, .data⟩ (by simp) rfl
            have s7 := HA.out 7 38 (by decide) f7 rfl
            simp only [List.getD_cons_succ, List.getD_cons_zero] at s7
            clear HAf HA HZ f7
            cases ho
            go_simp
            exact HK.out _ HJ.out
          · intro o ho fs W HFi HAf HJ A HA HZ K' HK
            have f8 : fs 8 = true := by cases ho; exact HAf.out ⟨8, .data⟩ (by simp) rfl
            have s8 := HA.out 8 39 (by decide) f8 rfl
            simp only [List.getD_cons_succ, List.getD_cons_zero] at s8
            clear HAf HA HZ f8
            cases ho
            go_simp
            exact HK.out _ HJ.out
          · intro o ho fs W HFi HAf HJ A HA HZ K' HK
            have f9 : fs 9 = true := by cases ho; exact HAf.out ⟨9, .data⟩ (by simp) rfl
            have s9 := HA.out 9 40 (by decide) f9 rfl
            simp only [List.getD_cons_succ, List.getD_cons_zero] at s9
            clear HAf HA HZ f9
            cases ho
            go_simp
            exact HK.out _ HJ.out
        · intro W hJ
          simp only [canon, Act.put, List.getD_cons_succ, List.getD_cons_zero, List.drop_succ_cons, List.drop_zero, List.setIfInBounds_toArray, List.set_cons_zero, List.set_cons_succ]
          have HBW := Lib.hid (HW0.out.trans (hJ.mono HW0.out.size))
          clear hJ
          simp only [wpList]
          go_wp2_with fail
          go_ret
          exact ⟨by rw [HR2.out]; rfl, HBW.out⟩
      | ok m =>
        have HR2 := Lib.hid (show R = !sameL m [a, b] from HR.out)
        have hml := HOn.out m rfl
        clear HR HBn HOn
        refine' wp_region_late (by kernel_rfl) 13 5 [some 32, some 33, some 34, some 35, some 36, some 37, some 31, some 38, some 39, some 40, some 5, some 6, some 7] [_, _, _, _, _] (fun g => [.tuple #[g, .int .i64 0, .int .i64 0], .tuple #[g, .int .i64 0, .int .i64 0], g, .int .i64 0, .int .i64 0, g, .int .i64 0, .int .i64 0]) [5] (fun (g : Value) (fs : List Bool) (W : World) => Below wc.heap.size wc W ∧ (fs = [true] → OwnK wc.heap.size g m W)) (.bool false) (by kernel_rfl) (by decide) (by kernel_rfl) (by decide) (by rfl) (by decide) (by decide) rfl (by kernel_rfl) (⟨(Below.refl _ _).drew, fun h => by cases h⟩) ?_ ?_
        rotate_left 5
        · refine all_cons 0 ?_ (all_cons 1 ?_ (all_cons 2 ?_ (all_cons 3 ?_ (all_cons 4 ?_ (all_cons 5 ?_ (all_cons 6 ?_ (all_cons 7 ?_ (all_cons 8 ?_ (all_cons 9 ?_ (all_cons 10 ?_ (all_cons 11 ?_ (all_cons 12 ?_ (all_done 13)))))))))))))
          · intro o ho fs W hfi haft g hJ A hA hZ K' hK
            have hK := fun w' h => hK w' g (.inr rfl) h
            have HK := Lib.hid hK
            have HAf := Lib.hid haft
            have HJ := Lib.hid hJ
            have HA := Lib.hid hA
            have HZ := Lib.hid hZ
            have HFi := Lib.hid hfi
            clear hK haft hA hZ hJ hfi
            have z2 : A.tmps[2]? = some _ := HZ.out 2 (by decide)
            clear HAf HA HZ
            obtain ⟨c0, c1, c2, c3, -⟩ := four_cells ((HJ.out.1.block w.heap.size (lt_of_block HA0.out)).trans HA0.out)
            obtain ⟨d0, d1, d2, d3, -⟩ := four_cells ((HJ.out.1.block (w.heap.size + 1) (lt_of_block HB0.out)).trans HB0.out)
            cases ho
            go_simp
            exact HK.out _ (by rw [upd_map fs (by decide)]; exact HJ.out)
          · intro o ho fs W hfi haft g hJ A hA hZ K' hK
            have hK := fun w' h => hK w' g (.inr rfl) h
            have HK := Lib.hid hK
            have HAf := Lib.hid haft
            have HJ := Lib.hid hJ
            have HA := Lib.hid hA
            have HZ := Lib.hid hZ
            have HFi := Lib.hid hfi
            clear hK haft hA hZ hJ hfi
            have f0 : fs 0 = true := by cases ho; exact HAf.out ⟨0, .data⟩ (by simp) rfl
            have s0 := HA.out 0 32 (by decide) f0 rfl
            simp only [List.cons_append, List.nil_append, List.getD_cons_zero] at s0
            clear HAf HA HZ
            cases ho
            go_simp
            refine (HX.out W).mono ?_
            rintro e w3 ⟨rfl, hb3⟩
            exact HK.out _ ⟨bstep HJ.out.1 hb3, fun h => by rw [upd_map fs (by decide)] at h; exact (HJ.out.2 h).below hb3⟩
          · intro o ho fs W hfi haft g hJ A hA hZ K' hK
            have hK := fun w' h => hK w' g (.inr rfl) h
            have HK := Lib.hid hK
            have HAf := Lib.hid haft
            have HJ := Lib.hid hJ
            have HA := Lib.hid hA
            have HZ := Lib.hid hZ
            have HFi := Lib.hid hfi
            clear hK haft hA hZ hJ hfi
            have z3 : A.tmps[3]? = some _ := HZ.out 3 (by decide)
            clear HAf HA HZ
            obtain ⟨c0, c1, c2, c3, -⟩ := four_cells ((HJ.out.1.block w.heap.size (lt_of_block HA0.out)).trans HA0.out)
            obtain ⟨d0, d1, d2, d3, -⟩ := four_cells ((HJ.out.1.block (w.heap.size + 1) (lt_of_block HB0.out)).trans HB0.out)
            cases ho
            go_simp
            exact HK.out _ (by rw [upd_map fs (by decide)]; exact HJ.out)
          · intro o ho fs W hfi haft g hJ A hA hZ K' hK
            have hK := fun w' h => hK w' g (.inr rfl) h
            have HK := Lib.hid hK
            have HAf := Lib.hid haft
            have HJ := Lib.hid hJ
            have HA := Lib.hid hA
            have HZ := Lib.hid hZ
            have HFi := Lib.hid hfi
            clear hK haft hA hZ hJ hfi
            have f2 : fs 2 = true := by cases ho; exact HAf.out ⟨2, .data⟩ (by simp) rfl
            have s2 := HA.out 2 34 (by decide) f2 rfl
            simp only [List.cons_append, List.nil_append, List.getD_cons_succ, List.getD_cons_zero] at s2
            clear HAf HA HZ
            cases ho
            go_simp
            refine (HY.out W).mono ?_
            rintro e w3 ⟨rfl, hb3⟩
            exact HK.out _ ⟨bstep HJ.out.1 hb3, fun h => by rw [upd_map fs (by decide)] at h; exact (HJ.out.2 h).below hb3⟩
          · intro o ho fs W hfi haft g hJ A hA hZ K' hK
            have hK := fun w' h => hK w' g (.inr rfl) h
            have HK := Lib.hid hK
            have HAf := Lib.hid haft
            have HJ := Lib.hid hJ
            have HA := Lib.hid hA
            have HZ := Lib.hid hZ
            have HFi := Lib.hid hfi
            clear hK haft hA hZ hJ hfi
            have f1 : fs 1 = true := by cases ho; exact HAf.out ⟨1, .data⟩ (by simp) rfl
            have s1 := HA.out 1 33 (by decide) f1 rfl
            simp only [List.cons_append, List.nil_append, List.getD_cons_succ, List.getD_cons_zero] at s1
            have f3 : fs 3 = true := by cases ho; exact HAf.out ⟨3, .data⟩ (by simp) rfl
            have s3 := HA.out 3 35 (by decide) f3 rfl
            simp only [List.cons_append, List.nil_append, List.getD_cons_succ, List.getD_cons_zero] at s3
            clear HAf HA HZ f1 f3
            cases ho
            go_simp
            exact HK.out _ (by rw [upd_map fs (by decide)]; exact HJ.out)
          · intro o ho fs W hfi haft g hJ A hA hZ K' hK
            have hK := fun w' g' h => hK w' g' (.inl rfl) h
            have HK := Lib.hid hK
            have HAf := Lib.hid haft
            have HJ := Lib.hid hJ
            have HA := Lib.hid hA
            have HZ := Lib.hid hZ
            have HFi := Lib.hid hfi
            clear hK haft hA hZ hJ hfi
            have f4 : fs 4 = true := by cases ho; exact HAf.out ⟨4, .data⟩ (by simp) rfl
            have s4 := HA.out 4 36 (by decide) f4 rfl
            simp only [List.cons_append, List.nil_append, List.getD_cons_succ, List.getD_cons_zero] at s4
            clear HAf HA HZ
            cases ho
            go_simp
            refine (HSc.out W).mono ?_
            rintro e w3 ⟨v, rfl, hv, hb3⟩
            exact HK.out _ v ⟨bstep HJ.out.1 hb3, fun _ => hv.less HJ.out.1.size⟩
          · intro o ho fs W hfi haft g hJ A hA hZ K' hK
            have hK := fun w' h => hK w' g (.inr rfl) h
            have HK := Lib.hid hK
            have HAf := Lib.hid haft
            have HJ := Lib.hid hJ
            have HA := Lib.hid hA
            have HZ := Lib.hid hZ
            have HFi := Lib.hid hfi
            clear hK haft hA hZ hJ hfi
            have f5 : fs 5 = true := by cases ho; exact HAf.out ⟨5, .data⟩ (by simp) rfl
            have s5 := HA.out 5 37 (by decide) f5 rfl
            simp only [List.cons_append, List.nil_append, List.getD_cons_succ, List.getD_cons_zero] at s5
            clear HAf HA HZ f5
            cases ho
            go_simp
            exact HK.out _ (by rw [upd_map fs (by decide)]; exact HJ.out)
          · intro o ho fs W hfi haft g hJ A hA hZ K' hK
            have hK := fun w' h => hK w' g (.inr rfl) h
            have HK := Lib.hid hK
            have HAf := Lib.hid haft
            have HJ := Lib.hid hJ
            have HA := Lib.hid hA
            have HZ := Lib.hid hZ
            have HFi := Lib.hid hfi
            clear hK haft hA hZ hJ hfi
            have f6 : fs 6 = true := by cases ho; exact HAf.out ⟨6, .data⟩ (by simp) rfl
            have s6 := HA.out 6 31 (by decide) f6 rfl
            simp only [List.cons_append, List.nil_append, List.getD_cons_succ, List.getD_cons_zero] at s6
            clear HAf HA HZ f6
            cases ho
            go_simp
            exact HK.out _ (by rw [upd_map fs (by decide)]; exact HJ.out)
          · intro o ho fs W hfi haft g hJ A hA hZ K' hK
            have hK := fun w' h => hK w' g (.inr rfl) h
            have HK := Lib.hid hK
            have HAf := Lib.hid haft
            have HJ := Lib.hid hJ
            have HA := Lib.hid hA
            have HZ := Lib.hid hZ
            have HFi := Lib.hid hfi
            clear hK haft hA hZ hJ hfi
            have f6 : fs 6 = true := by cases ho; exact HAf.out ⟨6, .data⟩ (by simp) rfl
            have s6 := HA.out 6 31 (by decide) f6 rfl
            simp only [List.cons_append, List.nil_append, List.getD_cons_succ, List.getD_cons_zero] at s6
            clear HAf HA HZ f6
            cases ho
            go_simp
            exact HK.out _ (by rw [upd_map fs (by decide)]; exact HJ.out)
          · intro o ho fs W hfi haft g hJ A hA hZ K' hK
            have hK := fun w' h => hK w' g (.inr rfl) h
            have HK := Lib.hid hK
            have HAf := Lib.hid haft
            have HJ := Lib.hid hJ
            have HA := Lib.hid hA
            have HZ := Lib.hid hZ
            have HFi := Lib.hid hfi
            clear hK haft hA hZ hJ hfi
            have f6 : fs 6 = true := by cases ho; exact HAf.out ⟨6, .data⟩ (by simp) rfl
            have s6 := HA.out 6 31 (by decide) f6 rfl
            simp only [List.cons_append, List.nil_append, List.getD_cons_succ, List.getD_cons_zero] at s6
            clear HAf HA HZ f6
            cases ho
            go_simp
            exact HK.out _ (by rw [upd_map fs (by decide)]; exact HJ.out)
          · intro o ho fs W hfi haft g hJ A hA hZ K' hK
            have hK := fun w' h => hK w' g (.inr rfl) h
            have HK := Lib.hid hK
            have HAf := Lib.hid haft
            have HJ := Lib.hid hJ
            have HA := Lib.hid hA
            have HZ := Lib.hid hZ
            have HFi := Lib.hid hfi
            clear hK haft hA hZ hJ hfi
            have f7 : fs 7 = true := by cases ho; exact HAf.out ⟨7, .data⟩ (by simp) rfl
            have s7 := HA.out 7 38 (by decide) f7 rfl
            simp only [List.cons_append, List.nil_append, List.getD_cons_succ, List.getD_cons_zero] at s7
            clear HAf HA HZ f7
            cases ho
            go_simp
            exact HK.out _ (by rw [upd_map fs (by decide)]; exact HJ.out)
          · intro o ho fs W hfi haft g hJ A hA hZ K' hK
            have hK := fun w' h => hK w' g (.inr rfl) h
            have HK := Lib.hid hK
            have HAf := Lib.hid haft
            have HJ := Lib.hid hJ
            have HA := Lib.hid hA
            have HZ := Lib.hid hZ
            have HFi := Lib.hid hfi
            clear hK haft hA hZ hJ hfi
            have f8 : fs 8 = true := by cases ho; exact HAf.out ⟨8, .data⟩ (by simp) rfl
            have s8 := HA.out 8 39 (by decide) f8 rfl
            simp only [List.cons_append, List.nil_append, List.getD_cons_succ, List.getD_cons_zero] at s8
            clear HAf HA HZ f8
            cases ho
            go_simp
            exact HK.out _ (by rw [upd_map fs (by decide)]; exact HJ.out)
          · intro o ho fs W hfi haft g hJ A hA hZ K' hK
            have hK := fun w' h => hK w' g (.inr rfl) h
            have HK := Lib.hid hK
            have HAf := Lib.hid haft
            have HJ := Lib.hid hJ
            have HA := Lib.hid hA
            have HZ := Lib.hid hZ
            have HFi := Lib.hid hfi
            clear hK haft hA hZ hJ hfi
            have f9 : fs 9 = true := by cases ho; exact HAf.out ⟨9, .data⟩ (by simp) rfl
            have s9 := HA.out 9 40 (by decide) f9 rfl
            simp only [List.cons_append, List.nil_append, List.getD_cons_succ, List.getD_cons_zero] at s9
            clear HAf HA HZ f9
            cases ho
            go_simp
            exact HK.out _ (by rw [upd_map fs (by decide)]; exact HJ.out)
        · intro g W hJ
          simp only [canon, Act.put, List.cons_append, List.nil_append, List.getD_cons_succ, List.getD_cons_zero, List.drop_succ_cons, List.drop_zero, List.setIfInBounds_toArray, List.set_cons_zero, List.set_cons_succ]
          have HBW := Lib.hid hJ.1
          have HOw := Lib.hid (hJ.2 rfl)
          clear hJ
          simp only [wpList]
          have HWW := Lib.hid (HW0.out.trans (HBW.out.mono HW0.out.size))
          have hz1 := HW0.out.size
          have hz2 := HBW.out.size
          obtain ⟨c0, c1, c2, c3, -⟩ := four_cells ((HBW.out.block w.heap.size (lt_of_block HA0.out)).trans HA0.out)
          obtain ⟨d0, d1, d2, d3, -⟩ := four_cells ((HBW.out.block (w.heap.size + 1) (lt_of_block HB0.out)).trans HB0.out)
          have HSm := Lib.hid (show Calls Tryz.prog 23 #[g, .slice (some ⟨W.heap.size, 0, none⟩) 2 2] (W.alloc (.cells #[.int .i64 a.k, .string (ba a.tx), .int .u64 (a.n : Int), .int .i64 a.pos, .int .i64 b.k, .string (ba b.tx), .int .u64 (b.n : Int), .int .i64 b.pos] 36 (0, 0))) fun e w' => e = .returned (.bool (sameL m [a, b])) ∧ Below (W.alloc (.cells #[.int .i64 a.k, .string (ba a.tx), .int .u64 (a.n : Int), .int .i64 a.pos, .int .i64 b.k, .string (ba b.tx), .int .u64 (b.n : Int), .int .i64 b.pos] 36 (0, 0))).heap.size (W.alloc (.cells #[.int .i64 a.k, .string (ba a.tx), .int .u64 (a.n : Int), .int .i64 a.pos, .int .i64 b.k, .string (ba b.tx), .int .u64 (b.n : Int), .int .i64 b.pos] 36 (0, 0))) w' from by
            refine Same_r (W.heap.size + 1) m [a, b] _ _ _ (((HOw.out.rdk (by omega)).below (below_alloc W _) (Nat.le_refl _)).more (by omega)) ⟨_, 2, rfl, Nat.le_refl _, by simp, fun _ => ⟨W.heap.size, 0, rfl, by omega, fun j u hj => ?_⟩⟩ (by rw [World.size_alloc]; exact Nat.le_refl _)
            rw [cells_of (heap_alloc_new W (.cells #[.int .i64 a.k, .string (ba a.tx), .int .u64 (a.n : Int), .int .i64 a.pos, .int .i64 b.k, .string (ba b.tx), .int .u64 (b.n : Int), .int .i64 b.pos] 36 (0, 0))), Nat.zero_add]
            rw [List.getElem?_toArray]
            exact hj)
          clear HOw
          go_wp2_with fail
          refine HSm.out.mono ?_
          rintro e w3 ⟨rfl, hb3⟩
          have HW3 := Lib.hid (bstep (balloc HWW.out (.cells #[.int .i64 a.k, .string (ba a.tx), .int .u64 (a.n : Int), .int .i64 a.pos, .int .i64 b.k, .string (ba b.tx), .int .u64 (b.n : Int), .int .i64 b.pos] 36 (0, 0))) hb3)
          clear hb3 HSm c0 c1 c2 c3 d0 d1 d2 d3
          go_wp2_with fail
          go_ret
          exact ⟨by rw [HR2.out]; first | rfl | (cases sameL m [a, b] <;> rfl), HW3.out⟩
end Go.Proofs.YtmcnhggpmlhgeaaGreatDoor
