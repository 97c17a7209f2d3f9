/-
  Walks: the law of the round.
-/
import Derived.Test.YtmcnhggpmlhgeaaGreatDoorLwD
namespace Go.Proofs.YtmcnhggpmlhgeaaGreatDoor
open Go.RowKit
/-- what is joined is scanned as it was -/
theorem joinR_scan {l : List Tok} (h : (joinR l).2 = 0) : ∃ m, scanL (joinR l).1 = .ok m ∧ sameL l m = true := by
  unfold joinR at h ⊢
  cases hv : l.all validTk with
  | false => rw [hv, if_neg Bool.false_ne_true] at h; cases h
  | true =>
    rw [hv, if_pos rfl] at h
    rw [if_pos rfl]
    by_cases hl : 65536 < (joinTk l).length
    · rw [if_pos hl] at h; cases h
    · rw [if_neg hl]
      show ∃ m, scanL (joinTk l) = .ok m ∧ sameL l m = true
      rw [scanL_eq (by omega)]
      exact scan_join _ l (List.all_eq_true.1 hv)
theorem joinR_err {l : List Tok} (h : (joinR l).2 ≠ 0) : (joinR l).1 = [] := by
  unfold joinR at h ⊢
  split
  · rename_i h1
    split
    · rfl
    · rename_i h2
      rw [if_pos h1, if_neg h2] at h
      exact absurd rfl h
  · rfl
theorem joinR_len (l : List Tok) : (joinR l).1.length ≤ 65536 := by
  unfold joinR
  split
  · split
    · exact Nat.zero_le _
    · rename_i h; show (joinTk l).length ≤ _; omega
  · exact Nat.zero_le _
set_option maxRecDepth 100000 in
set_option maxHeartbeats 8000000 in
theorem LexRound_any (B : Nat) (l : List Tok) (v : Value) (w : World) (hr : RdW w B v l) (hB : B ≤ w.heap.size) (hl : ∀ t ∈ l, t.tx.length ≤ 9223372036854775807) (hTb : Tb w) :
    Calls Tryz.prog 6 #[v] w (Yes w) := by
  have HSh := Lib.hid (shown_any w hTb)
  have HR := Lib.hid hr
  have HTb := Lib.hid hTb
  have HG := Lib.hid fun W (hb : Below w.heap.size w W) => great_any B l v 100000 (by decide) W (hr.below hb hB) hl
  have hw2 := fun t => wgt_mem (l := l) (t := t)
  clear hTb hr hl
  by_cases hg : 100000 < wgt l
  · rw [decide_eq_true hg] at HG
    obtain ⟨ao, cap, rfl, -⟩ := HR.out
    go_enter Tryz.func6, Tryz.ntmps6
    go_wp2_with fail
    refine HSh.out.mono ?_
    rintro e w1 ⟨rfl, hb1⟩
    have HW1 := Lib.hid hb1
    clear hb1
    go_wp2_with fail
    refine (HG.out w1 HW1.out).mono ?_
    rintro e w2 ⟨rfl, rfl⟩
    go_wp2_with fail
    go_ret
    exact ⟨rfl, HW1.out⟩
  · rw [decide_eq_false hg] at HG
    have HTx := Lib.hid (show ∀ t ∈ l, t.tx.length ≤ 1000000 from fun t ht => by have := hw2 t ht; omega)
    have HR := Lib.hid (HR.out.rdk (by have := wgt_len l; omega))
    clear hw2 hg
    obtain ⟨ao, cap, e0, -⟩ := HR.out
    subst e0
    go_enter Tryz.func6, Tryz.ntmps6
    go_wp2_with fail
    refine HSh.out.mono ?_
    rintro e w1 ⟨rfl, hb1⟩
    have HW1 := Lib.hid hb1
    have hz1 := hb1.size
    clear hb1
    go_wp2_with fail
    refine (HG.out w1 HW1.out).mono ?_
    rintro e w2 ⟨rfl, rfl⟩
    have HJ := Lib.hid (Join_any B l _ w2 (HR.out.below HW1.out hB) (by omega) HTx.out (HTb.out.below HW1.out))
    rw [show joinV (joinR l) = .returned (.tuple #[.string (ba (joinR l).1), .int .i64 (joinR l).2]) from rfl] at HJ
    have HScan := Lib.hid (joinR_scan (l := l))
    have HErr := Lib.hid (joinR_err (l := l))
    have HLen := Lib.hid (joinR_len l)
    generalize (joinR l).1 = S at *
    generalize (joinR l).2 = E at *
    go_wp2_with fail
    refine HJ.out.mono ?_
    rintro e w4 ⟨rfl, hb4⟩
    have HW4 := Lib.hid (bstep HW1.out hb4)
    have hz4 := hb4.size
    clear hb4 HSh HG HJ
    by_cases hE : E = 0
    · subst hE
      obtain ⟨m, hm, hs⟩ := HScan.out rfl
      have HS := Lib.hid (scan_q S w4 (by have := HLen.out; omega) (HTb.out.below HW4.out))
      unfold ScanQ at HS
      rw [hm] at HS
      simp only [toksR, posR, errR] at HS
      clear HScan HErr hm
      go_wp2_with fail
      refine HS.out.mono ?_
      rintro e w5 ⟨v5, rfl, hv5, hb5⟩
      have HW5 := Lib.hid (bstep HW4.out hb5)
      have hz5 := hb5.size
      have HSm := Lib.hid (show Calls Tryz.prog 22 #[.slice ao l.length cap, v5] w5 fun e w' => e = .returned (.bool true) ∧ Below w5.heap.size w5 w' from by
        have h := Same_any w5.heap.size l m _ v5 w5 ((HR.out.below HW5.out hB).more (by omega)) hv5 (Nat.le_refl _)
        rw [hs] at h
        exact h)
      clear hb5 hv5 HS
      go_wp2_with fail
      refine HSm.out.mono ?_
      rintro e w6 ⟨rfl, hb6⟩
      have HW6 := Lib.hid (bstep HW5.out hb6)
      clear hb6
      go_wp2_with fail
      go_ret
      exact ⟨rfl, HW6.out⟩
    · have hS := HErr.out hE
      subst hS
      have xS : (ba ([] : List UInt8)).toList.isEmpty = true := by rw [ba_toList]; rfl
      have xE : ¬ E = 0 := hE
      clear HScan HErr
      go_wp2_with fail
      go_ret
      exact ⟨rfl, HW4.out⟩
end Go.Proofs.YtmcnhggpmlhgeaaGreatDoor
