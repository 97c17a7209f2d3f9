/-
  The law BitsJoins: the walk.
-/
import Derived.Test.YtdgjbejbbmnhbaaBitsRJoin
namespace Go.Proofs.Ytdgjbejbbmnhbaa
open Go.RowKit Go.Proofs.BitsM
theorem SlB_below {w w' : World} {v : Value} {bs : List (ByteArray × Int)} (h : SlB w v bs) (hb : Below w.heap.size w w') : SlB w' v bs := by
  obtain ⟨ao, cap, rfl, hc⟩ := h
  refine ⟨ao, cap, rfl, fun hne => ?_⟩
  obtain ⟨b, off, rfl, hcell⟩ := hc hne
  refine ⟨b, off, rfl, fun i hi => ?_⟩
  obtain ⟨h1, h2⟩ := hcell i hi
  exact ⟨below_keep hb h1, below_keep hb h2⟩
set_option maxHeartbeats 1000000 in
theorem lawJoins (v : Value) (bs : List (ByteArray × Int)) (hb : ∀ x ∈ bs, x.1.size ≤ maxLen ∧ i64ok x.2) (hl : bs.length ≤ maxLen) (w : World) (hv : SlB w v bs) :
    Calls Try.prog 3 #[v] w (Yes w) := by
  have HS := Lib.hid hv
  obtain ⟨ao, cap, rfl, hc⟩ := hv
  have HC := Lib.hid hc
  have HO := Lib.hid hb
  rw [maxLen_val] at hl
  clear hc hb
  by_cases h40 : 40 < bs.length
  · have h40' : (40 : Int) < (bs.length : Int) := by omega
    go_enter Try.func3, Try.ntmps3
    go_wp2_with fail
    refine (awake_any _).mono ?_
    rintro e w1 ⟨rfl, hb⟩
    go_wp2_with fail
    go_ret
    exact ⟨rfl, hb⟩
  · have h40' : ¬ (40 : Int) < (bs.length : Int) := by omega
    go_enter Try.func3, Try.ntmps3
    go_wp2_with fail
    go_loop [3] (fun i => ∃ k : Nat, k ≤ bs.length ∧ i = .int .i64 k ∧ Hid (∀ x ∈ bs.take k, x.1.size ≤ 4096)) (fun i => bs.length - (intOf i).toNat)
    case atStart => exact ⟨0, by omega, rfl, Lib.hid (by simp)⟩
    case round =>
      obtain ⟨k, hk, rfl, HK⟩ := hrel
      by_cases hlt : k < bs.length
      · obtain ⟨b, off, rfl, hcell⟩ := HC.out (by intro h; rw [h] at hlt; simp at hlt)
        obtain ⟨c0, c1⟩ := hcell k hlt
        have HT := Lib.hid (List.take_succ_eq_append_getElem hlt)
        have hsm := (HO.out bs[k] (List.getElem_mem hlt)).1
        rw [maxLen_val] at hsm
        clear hcell
        generalize hx : bs[k] = x at *
        clear hx
        obtain ⟨s, n⟩ := x
        simp only at c0 c1 hsm
        by_cases hs : 4096 < s.size
        · have hs' : (4096 : Int) < (s.size : Int) := by omega
          go_wp2_with fail
          refine (awake_any _).mono ?_
          rintro e w1 ⟨rfl, hb⟩
          go_wp2_with fail
          go_ret
          exact ⟨rfl, hb⟩
        · have hs' : ¬ (4096 : Int) < (s.size : Int) := by omega
          have hs2 := Lib.hid (Nat.le_of_not_lt hs)
          go_wp2_with fail
          go_round
          case rel =>
            refine ⟨k + 1, by omega, by go_num, Lib.hid ?_⟩
            rw [HT.out]
            intro x hx
            rcases List.mem_append.1 hx with h | h
            · exact HK.out x h
            · simp at h; rw [h]; exact hs2.out
          case measure => simp only [intOf]; omega
      · have hok : okB bs := by
          intro x hx
          refine ⟨?_, (HO.out x hx).2⟩
          have h := HK.out
          rw [List.take_of_length_le (by omega)] at h
          exact h x hx
        have hc1 := fun w0 h0 => Join_any (.slice ao bs.length cap) bs hok (by omega) w0 h0
        have hc2 := fun w0 h0 => rJoin_any (.slice ao bs.length cap) bs hok (by omega) w0 h0
        generalize joinR bs = r at hc1 hc2
        obtain ⟨x, y, z⟩ := r
        simp only [bitsRet] at hc1 hc2
        have HC1 := Lib.hid hc1
        have HC2 := Lib.hid hc2
        clear hc1 hc2 hok
        go_wp2_with fail
        refine (HC1.out _ HS.out).mono ?_
        rintro e w1 ⟨rfl, hb1⟩
        have HB1 := Lib.hid hb1
        clear hb1
        go_wp2_with fail
        refine (HC2.out _ (SlB_below HS.out (balloc HB1.out _))).mono ?_
        rintro e w2 ⟨rfl, hb2⟩
        have hR := (hb2.block w1.heap.size (by simp)).trans (new1_0 _ _)
        have r0 := cells_later hR 0
        have r1 := cells_later hR 1
        simp only [List.getElem?_toArray, List.getElem?_cons_succ, List.getElem?_cons_zero] at r0 r1
        have HB2 := Lib.hid (bstep (balloc HB1.out _) hb2)
        have hne : ¬ w1.heap.size = w2.heap.size := by have := hb2.size; simp at this; omega
        clear hR hb2
        go_wp2_with fail
        refine (awake_any _).mono ?_
        rintro e w3 ⟨rfl, hb3⟩
        go_wp2_with fail
        go_ret
        exact ⟨rfl, bstep (balloc HB2.out _) hb3⟩
end Go.Proofs.Ytdgjbejbbmnhbaa
