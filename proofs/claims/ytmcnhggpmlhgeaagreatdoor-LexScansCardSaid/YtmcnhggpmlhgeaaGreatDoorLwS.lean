/-
  LexScans: the law answers true.
-/
import Derived.Test.YtmcnhggpmlhgeaaGreatDoorLwD
import Derived.Test.YtmcnhggpmlhgeaaGreatDoorRfF
namespace Go.Proofs.YtmcnhggpmlhgeaaGreatDoor
open Go.RowKit
theorem scan_q_r (T : List UInt8) (w : World) (hT : T.length ≤ 9223372036854775807) : Calls Tryz.prog 11 #[.string (ba T)] w (ScanQ T w) := by
  rcases Nat.lt_or_ge 65536 T.length with h | h
  · exact (Scan_r_long T w h hT).mono fun _ _ h => h.q
  · exact (Scan_r_any T w h).mono fun _ _ h => h.q
set_option maxRecDepth 100000 in
set_option maxHeartbeats 8000000 in
theorem LexScans_any (T : List UInt8) (w : World) (hT : T.length ≤ 9223372036854775807) (hTb : Tb w) :
    Calls Tryz.prog 3 #[.string (ba T)] w (Yes w) := by
  have HSh := Lib.hid (shown_any w hTb)
  have HS := Lib.hid fun W (hb : Below w.heap.size w W) => scan_q T W hT (hTb.below hb)
  have HSr := Lib.hid fun W => scan_q_r T W hT
  clear hTb
  go_enter Tryz.func3, Tryz.ntmps3
  go_wp2_with fail
  refine HSh.out.mono ?_
  rintro e w1 ⟨rfl, hb1⟩
  have HW1 := Lib.hid hb1
  clear hb1
  go_wp2_with fail
  refine (HS.out w1 HW1.out).mono ?_
  rintro e w2 ⟨v2, rfl, hv2, hb2⟩
  have HV2 := Lib.hid hv2
  have HW2 := Lib.hid (bstep HW1.out hb2)
  clear hb2 hv2 HSh HS
  go_wp2_with fail
  refine (HSr.out w2).mono ?_
  rintro e w3 ⟨v3, rfl, hv3, hb3⟩
  have HE := Lib.hid (show Calls Tryz.prog 12 #[v2, v3] w3 fun e w' => e = .returned (.bool true) ∧ Below w3.heap.size w3 w' from by
    have h := equal_any w3.heap.size _ _ v2 v3 w3 ((HV2.out.below hb3 (Nat.le_refl _)).more hb3.size) hv3 (Nat.le_refl _)
    rw [eqL_refl] at h
    exact h)
  have HW3 := Lib.hid (bstep HW2.out hb3)
  clear hb3 hv3 HSr HV2
  generalize posR (scanL T) = P
  generalize errR (scanL T) = E
  go_wp2_with fail
  refine HE.out.mono ?_
  rintro e w4 ⟨rfl, hb4⟩
  have HW4 := Lib.hid (bstep HW3.out hb4)
  clear hb4
  go_wp2_with fail
  go_ret
  exact ⟨rfl, HW4.out⟩
end Go.Proofs.YtmcnhggpmlhgeaaGreatDoor
