/-
  Walks: the law's own check.
-/
import Derived.Test.YtmcnhggpmlhgeaaGreatDoorLwP
import Derived.Test.YtmcnhggpmlhgeaaGreatDoorLxT
import Derived.Test.YtmcnhggpmlhgeaaGreatDoorRpK
namespace Go.Proofs.YtmcnhggpmlhgeaaGreatDoor
open Go.RowKit
def shT : List UInt8 := [97, 32, 61, 58, 61, 32, 55, 37, 99]
def shL : List Tok := [⟨1, [97], 0, 0⟩, ⟨6, [61, 58, 61], 0, 2⟩, ⟨3, [], 7, 6⟩]
theorem sh_scan : scanL shT = .ok shL := by rfl
theorem sh_t3 : textTk ⟨3, [], 7, 6⟩ = [55] := by
  unfold textTk
  rw [if_pos rfl]
  exact dec_small (by decide)
theorem sh_j1 : joinB ⟨1, [97], 0, 0⟩ ⟨6, [61, 58, 61], 0, 2⟩ = false := by rfl
theorem sh_j2 : joinB ⟨6, [61, 58, 61], 0, 2⟩ ⟨3, [], 7, 6⟩ = false := by
  rw [joinB_eq (c := 61) rfl sh_t3, if_neg (by decide), if_pos (.inr (by decide))]
theorem sh_jtk : joinTk shL = [97, 61, 58, 61, 55] := by
  unfold shL
  rw [joinTk_cons, sepJ_cons, sh_j1, if_neg Bool.false_ne_true, joinTk_cons, sepJ_cons, sh_j2, if_neg Bool.false_ne_true, joinTk_cons, sh_t3]
  rfl
theorem sh_join : joinR shL = ([97, 61, 58, 61, 55], 0) := by
  rw [joinR_ok (by rfl) (by rw [sh_jtk]; decide), sh_jtk]
theorem sh_bad : scanL [97, 32, 48, 48, 55] = .bad 2 92 := by rfl
theorem sh_valid : validTk ⟨1, [97], 0, 0⟩ = true := by rfl
theorem sh_res : resB [101, 110, 100] = true := by rfl
set_option maxRecDepth 100000 in
set_option maxHeartbeats 8000000 in
theorem shown_any (w : World) (hT : Tb w) : Calls Tryz.prog 9 #[] w fun e w' => e = .returned (.bool true) ∧ Below w.heap.size w w' := by
  have HT := Lib.hid hT
  have HS := Lib.hid fun W (hb : Below w.heap.size w W) => (show Calls Tryz.prog 10 #[.string ⟨#[97, 32, 61, 58, 61, 32, 55, 37, 99]⟩] W (ScanP (.ok shL) W) from Scan_any shT W (by decide) (hT.below hb))
  have HS2 := Lib.hid fun W (hb : Below w.heap.size w W) => (show Calls Tryz.prog 10 #[.string ⟨#[97, 32, 48, 48, 55]⟩] W (ScanP (.bad 2 92) W) from Scan_any [97, 32, 48, 48, 55] W (by decide) (hT.below hb))
  clear hT
  go_enter Tryz.func9, Tryz.ntmps9
  go_wp2_with fail
  refine (HS.out w (Below.refl _ _)).mono ?_
  rintro e w1 ⟨v, rfl, hv, hb⟩
  have HW1 := Lib.hid hb
  have HR1 := Lib.hid (hv.rdk (by decide))
  have HJ := Lib.hid (show Calls Tryz.prog 15 #[v] w1 fun e w' => e = .returned (.tuple #[.string (ba [97, 61, 58, 61, 55]), .int .i64 0]) ∧ Below w1.heap.size w1 w' from by
    have h := Join_any w1.heap.size shL v w1 (hv.rdk (by decide)) (Nat.le_refl _) (by decide) (HT.out.below hb)
    rw [sh_join] at h
    exact h)
  clear hb hv
  go_wp2_with fail
  refine HJ.out.mono ?_
  rintro e w2 ⟨rfl, hb⟩
  have HW2 := Lib.hid (bstep HW1.out hb)
  have HR2 := Lib.hid (HR1.out.below hb (Nat.le_refl _))
  have hz2 := hb.size
  clear hb
  go_wp2_with fail
  refine (HS2.out w2 HW2.out).mono ?_
  rintro e w3 ⟨rfl, hb⟩
  have HW3 := Lib.hid (bstep HW2.out hb)
  have HR3 := Lib.hid (HR2.out.below hb hz2)
  have hz3 := hb.size
  clear hb
  obtain ⟨ao, cap, rfl, hcap, -, hc⟩ := HR3.out
  obtain ⟨b, o, rfl, hbB, hc⟩ := hc (by decide)
  obtain ⟨d0, d1, d2, d3⟩ : w3.cell? ⟨b, o, none⟩ = some (.int .i64 1) ∧ w3.cell? ⟨b, o + 1, none⟩ = some (.string (ba [97])) ∧ w3.cell? ⟨b, o + 2, none⟩ = some (.int .u64 ((0 : Nat) : Int)) ∧ w3.cell? ⟨b, o + 3, none⟩ = some (.int .i64 0) := tok_cells hc (i := 0) (by decide) rfl
  obtain ⟨e0, e1, e2, e3⟩ : w3.cell? ⟨b, o + 4, none⟩ = some (.int .i64 6) ∧ w3.cell? ⟨b, o + 4 + 1, none⟩ = some (.string (ba [61, 58, 61])) ∧ w3.cell? ⟨b, o + 4 + 2, none⟩ = some (.int .u64 ((0 : Nat) : Int)) ∧ w3.cell? ⟨b, o + 4 + 3, none⟩ = some (.int .i64 2) := tok_cells hc (i := 1) (by decide) rfl
  obtain ⟨f0, f1, f2, f3⟩ : w3.cell? ⟨b, o + 8, none⟩ = some (.int .i64 3) ∧ w3.cell? ⟨b, o + 8 + 1, none⟩ = some (.string (ba [])) ∧ w3.cell? ⟨b, o + 8 + 2, none⟩ = some (.int .u64 ((7 : Nat) : Int)) ∧ w3.cell? ⟨b, o + 8 + 3, none⟩ = some (.int .i64 6) := tok_cells hc (i := 2) (by decide) rfl
  have t1 : ((ba [61, 58, 61]).toList == ([61, 58, 61] : List UInt8)) = true := by rw [ba_toList]; rfl
  have t2 : ((ba [97, 61, 58, 61, 55]).toList == ([97, 61, 58, 61, 55] : List UInt8)) = true := by rw [ba_toList]; rfl
  clear hc
  have HRs := Lib.hid (Reserved_p [101, 110, 100] (by decide) w3 fun W hb => ((HT.out.below HW3.out).below hb).sp)
  go_wp2_with fail
  refine (show Calls Tryz.prog 20 #[.string ⟨#[101, 110, 100]⟩] w3 fun e w' => e = .returned (.bool true) ∧ Below w3.heap.size w3 w' from HRs.out).mono ?_
  rintro e w4 ⟨rfl, hb⟩
  have HW4 := Lib.hid (bstep HW3.out hb)
  have HR4 := Lib.hid (HR3.out.below hb (by omega))
  have hz4 := hb.size
  have g0 := (hb.cell (p := ⟨b, o, none⟩) (show b < w3.heap.size by omega)).trans d0
  have g1 := (hb.cell (p := ⟨b, o + 1, none⟩) (show b < w3.heap.size by omega)).trans d1
  have g2 := (hb.cell (p := ⟨b, o + 2, none⟩) (show b < w3.heap.size by omega)).trans d2
  have g3 := (hb.cell (p := ⟨b, o + 3, none⟩) (show b < w3.heap.size by omega)).trans d3
  clear hb d0 d1 d2 d3 e0 e1 e2 e3 f0 f1 f2 f3
  have HVa := Lib.hid (show Calls Tryz.prog 18 #[.agg #[.int .i64 1, .string (ba [97]), .int .u64 0, .int .i64 0]] w4 fun e w' => e = .returned (.bool true) ∧ Below w4.heap.size w4 w' from LexValid_any ⟨1, [97], 0, 0⟩ w4 (by decide) fun W hb => ((HT.out.below HW4.out).below hb).sp)
  go_wp2_with fail
  refine HVa.out.mono ?_
  rintro e w5 ⟨rfl, hb⟩
  have HW5 := Lib.hid (bstep HW4.out hb)
  have HR5 := Lib.hid (HR4.out.below hb (by omega))
  have hz5 := hb.size
  clear hb g0 g1 g2 g3
  have HS5 := Lib.hid (show Calls Tryz.prog 22 #[.slice (some ⟨b, o, none⟩) shL.length cap, .slice (some ⟨b, o, none⟩) shL.length cap] w5 fun e w' => e = .returned (.bool true) ∧ Below w5.heap.size w5 w' from by
    have h := Same_any w1.heap.size shL shL _ _ w5 HR5.out HR5.out (by omega)
    rw [sameL_refl] at h
    exact h)
  go_wp2_with fail
  refine HS5.out.mono ?_
  rintro e w6 ⟨rfl, hb⟩
  have HW6 := Lib.hid (bstep HW5.out hb)
  have HR6 := Lib.hid (HR5.out.below hb (by omega))
  have hz6 := hb.size
  clear hb
  have HS6 := Lib.hid (show Calls Tryz.prog 22 #[.slice (some ⟨b, o, none⟩) shL.length cap, .slice none 0 0] w6 fun e w' => e = .returned (.bool false) ∧ Below w6.heap.size w6 w' from
    Same_any w1.heap.size shL [] _ _ w6 HR6.out ⟨none, 0, rfl, Nat.le_refl _, by decide, fun h => absurd rfl h⟩ (by omega))
  go_wp2_with fail
  refine HS6.out.mono ?_
  rintro e w7 ⟨rfl, hb⟩
  have HW7 := Lib.hid (bstep HW6.out hb)
  clear hb
  go_wp2_with fail
  go_ret
  exact ⟨rfl, HW7.out⟩
end Go.Proofs.YtmcnhggpmlhgeaaGreatDoor
