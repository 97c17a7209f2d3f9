/-
  LexJoins: the law answers true.
-/
import Derived.Test.YtmcnhggpmlhgeaaGreatDoorLwD
import Derived.Test.YtmcnhggpmlhgeaaGreatDoorRfK
namespace Go.Proofs.YtmcnhggpmlhgeaaGreatDoor
open Go.RowKit
set_option maxRecDepth 100000 in
set_option maxHeartbeats 8000000 in
theorem LexJoins_any (B : Nat) (l : List Tok) (v : Value) (w : World) (hr : RdW w B v l) (hB : B ≤ w.heap.size) (hl : ∀ t ∈ l, t.tx.length ≤ 9223372036854775807) (hTb : Tb w) :
    Calls Tryz.prog 4 #[v] w (Yes w) := by
  have HSh := Lib.hid (shown_any w hTb)
  have HR := Lib.hid hr
  have HTb := Lib.hid hTb
  have HG := Lib.hid fun W (hb : Below w.heap.size w W) => great_any B l v 100000 (by decide) W (hr.below hb hB) hl
  have hw1 := wgt_len l
  have hw2 := fun t => wgt_mem (l := l) (t := t)
  clear hTb hr hl
  by_cases hg : 100000 < wgt l
  · rw [decide_eq_true hg] at HG
    obtain ⟨ao, cap, rfl, -⟩ := HR.out
    go_enter Tryz.func4, Tryz.ntmps4
    go_wp2_with fail
    refine HSh.out.mono ?_
    rintro e w1 ⟨rfl, hb1⟩
    have HW1 := Lib.hid hb1
    clear hb1
    go_wp2_with fail
    refine (HG.out w1 HW1.out).mono ?_
    rintro e w2 ⟨rfl, rfl⟩
    go_wp2_with fail
    go_ret
    exact ⟨rfl, HW1.out⟩
  · rw [decide_eq_false hg] at HG
    have hll : l.length ≤ 100000000 := by omega
    have HR := Lib.hid (HR.out.rdk (by omega))
    have HTx := Lib.hid (show ∀ t ∈ l, t.tx.length ≤ 1000000 from fun t ht => by have := hw2 t ht; omega)
    clear hw1 hw2 hg
    obtain ⟨ao, cap, e0, -⟩ := HR.out
    subst e0
    go_enter Tryz.func4, Tryz.ntmps4
    go_wp2_with fail
    refine HSh.out.mono ?_
    rintro e w1 ⟨rfl, hb1⟩
    have HW1 := Lib.hid hb1
    have hz1 := hb1.size
    clear hb1
    go_wp2_with fail
    refine (HG.out w1 HW1.out).mono ?_
    rintro e w2 ⟨rfl, rfl⟩
    go_wp2_with fail
    refine (lent_any B l _ w2 (HR.out.below HW1.out hB) (by omega) hll).mono ?_
    rintro e w3 ⟨v3, rfl, hv3, hb3⟩
    have HV3 := Lib.hid hv3
    have HW3 := Lib.hid (bstep HW1.out hb3)
    have hz3 := hb3.size
    clear hb3 hv3 HSh HG
    have HJ := Lib.hid (Join_any w3.heap.size l v3 w3 HV3.out.rdk (Nat.le_refl _) HTx.out (HTb.out.below HW3.out))
    rw [show joinV (joinR l) = .returned (.tuple #[.string (ba (joinR l).1), .int .i64 (joinR l).2]) from rfl] at HJ
    go_wp2_with fail
    refine HJ.out.mono ?_
    rintro e w4 ⟨rfl, hb4⟩
    have HW4 := Lib.hid (bstep HW3.out hb4)
    have HV4 := Lib.hid (HV3.out.below hb4 (Nat.le_refl _))
    have hz4 := hb4.size
    clear hb4
    have HJr := Lib.hid (Join_r B l _ w4 (HR.out.below HW4.out hB) (by omega) HTx.out)
    rw [show joinV (joinR l) = .returned (.tuple #[.string (ba (joinR l).1), .int .i64 (joinR l).2]) from rfl] at HJr
    go_wp2_with fail
    refine HJr.out.mono ?_
    rintro e w5 ⟨rfl, hb5⟩
    have HW5 := Lib.hid (bstep HW4.out hb5)
    have HV5 := Lib.hid (HV4.out.below hb5 hz4)
    have hz5 := hb5.size
    clear hb5
    have HK := Lib.hid (kept_any w3.heap.size l v3 _ w5 HV5.out ((HR.out.below HW5.out hB).more (by omega)) (by omega))
    generalize (joinR l).1 = S
    generalize (joinR l).2 = E
    have xS : ((ba S).toList == (ba S).toList) = true := by simp
    clear HJ HJr
    go_wp2_with fail
    refine HK.out.mono ?_
    rintro e w6 ⟨rfl, hb6⟩
    have HW6 := Lib.hid (bstep HW5.out hb6)
    clear hb6
    go_wp2_with fail
    go_ret
    exact ⟨rfl, HW6.out⟩
end Go.Proofs.YtmcnhggpmlhgeaaGreatDoor
