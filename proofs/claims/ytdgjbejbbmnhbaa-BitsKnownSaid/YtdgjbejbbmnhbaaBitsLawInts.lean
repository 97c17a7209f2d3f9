/-
  The law BitsInts: the walk.
-/
import Derived.Test.YtdgjbejbbmnhbaaBitsRGet
import Derived.Test.YtdgjbejbbmnhbaaBitsAwake
namespace Go.Proofs.Ytdgjbejbbmnhbaa
open Go.RowKit Go.Proofs.BitsM
theorem Put_any (v size : Int) (little : Bool) (hv : i64ok v) (hs : i64ok size) (w : World) :
    Calls Try.prog 28 #[.int .i64 v, .int .i64 size, .bool little] w fun e w' => e = bitsRet (putR v size little) ∧ Below w.heap.size w w' := by
  by_cases hb : putBad size little = true
  · exact Put_bad v size little hv hs hb w
  · have h0 : 0 ≤ size := by
      rcases Int.lt_or_le size 0 with h | h
      · exact absurd (putBad_iff.2 (.inl h)) hb
      · exact h
    obtain ⟨n, rfl⟩ := Int.eq_ofNat_of_zero_le h0
    exact Put_ok v n little hv (by simpa using hb) w
theorem rPut_any (v size : Int) (little : Bool) (hv : i64ok v) (hs : i64ok size) (w : World) :
    Calls Try.prog 29 #[.int .i64 v, .int .i64 size, .bool little] w fun e w' => e = bitsRet (putR v size little) ∧ Below w.heap.size w w' := by
  by_cases hb : putBad size little = true
  · exact rPut_bad v size little hv hs hb w
  · have h0 : 0 ≤ size := by
      rcases Int.lt_or_le size 0 with h | h
      · exact absurd (putBad_iff.2 (.inl h)) hb
      · exact h
    obtain ⟨n, rfl⟩ := Int.eq_ofNat_of_zero_le h0
    exact rPut_ok v n little hv (by simpa using hb) w
set_option maxRecDepth 100000 in
set_option maxHeartbeats 4000000 in
theorem lawInts (v size : Int) (s : ByteArray) (n : Int) (hv : i64ok v) (hz : i64ok size) (hs : s.size ≤ maxLen) (hn : i64ok n) (w : World) :
    Calls Try.prog 8 #[.int .i64 v, .int .i64 size, .agg #[.string s, .int .i64 n]] w (Yes w) := by
  by_cases hl : 4096 < s.size
  · have hl' : (4096 : Int) < (s.size : Int) := by omega
    rw [maxLen_val] at hs
    go_enter Try.func8, Try.ntmps8
    go_wp2_with fail
    refine (awake_any _).mono ?_
    rintro e w1 ⟨rfl, hb⟩
    go_wp2_with fail
    go_ret
    exact ⟨rfl, bstep (below_alloc _ _) hb⟩
  · have hl' : ¬ (4096 : Int) < (s.size : Int) := by omega
    have hs' : s.size ≤ 4096 := by omega
    have HS := Lib.hid hs
    clear hs
    go_enter Try.func8, Try.ntmps8
    go_wp2_with fail
    go_loopw [7] (fun i wr => ∃ k : Nat, k ≤ 4 ∧ i = .int .i64 k ∧ Hid (wr.heap[w.heap.size]? = some (.cells #[.string s, .int .i64 n] 25 (0, 0))) ∧ Hid (Below w.heap.size w wr)) (fun i _ => 4 - (intOf i).toNat)
    case atStart => exact ⟨0, by omega, rfl, Lib.hid (new1_0 _ _), Lib.hid (below_alloc _ _)⟩
    case round =>
      obtain ⟨k, hk, rfl, HX, HB⟩ := hrel
      by_cases hlt : k < 4
      · have hlt' : (k : Int) < 4 := by omega
        have hP := fun W => Put_any v size ((k : Int) / 2 == 1) hv hz W
        have hQ := fun W => rPut_any v size ((k : Int) / 2 == 1) hv hz W
        have hG := fun W => Get_any s n ((k : Int) % 2 == 1) ((k : Int) / 2 == 1) HS.out hn W
        have hR := fun W => rGet_any s n ((k : Int) % 2 == 1) ((k : Int) / 2 == 1) HS.out hn W
        generalize putR v size ((k : Int) / 2 == 1) = p at hP hQ
        generalize getR s n ((k : Int) % 2 == 1) ((k : Int) / 2 == 1) = g at hG hR
        obtain ⟨p1, p2, p3⟩ := p
        obtain ⟨g1, g2⟩ := g
        simp only [bitsRet, getRet] at hP hQ hG hR
        have HP := Lib.hid hP
        have HQ := Lib.hid hQ
        have HG := Lib.hid hG
        have HR := Lib.hid hR
        clear hP hQ hG hR
        go_wp2_with fail
        refine (HP.out _).mono ?_
        rintro e w1 ⟨rfl, hb1⟩
        have HX1 := Lib.hid (keepB hb1 HX.out)
        have HB1 := Lib.hid (bstep HB.out hb1)
        clear hb1
        go_wp2_with fail
        refine (HQ.out _).mono ?_
        rintro e w2 ⟨rfl, hb2⟩
        have HX2 := Lib.hid (keepB hb2 (heap_after HX1.out (.cells #[.string p1, .int .i64 p2] 25)))
        have HP2 := Lib.hid (keepB hb2 (new1_0 w1 (.cells #[.string p1, .int .i64 p2] 25)))
        have HB2 := Lib.hid (bstep (balloc HB1.out _) hb2)
        clear hb2
        have a0 := cells_of HX2.out 0
        have a1 := cells_of HX2.out 1
        have b0 := cells_of HP2.out 0
        have b1 := cells_of HP2.out 1
        simp only [List.getElem?_toArray, List.getElem?_cons_succ, List.getElem?_cons_zero] at a0 a1 b0 b1
        have z1 := lt_of_block HX2.out
        have z2 := lt_of_block HP2.out
        go_wp2_with fail
        refine (HG.out _).mono ?_
        rintro e w3 ⟨rfl, hb3⟩
        have HX3 := Lib.hid (keepB hb3 (heap_after HX2.out (.cells #[.string p1, .int .i64 p2] 25)))
        have HB3 := Lib.hid (bstep (balloc HB2.out _) hb3)
        clear hb3 a0 a1 b0 b1 z1 z2
        have a0 := cells_of HX3.out 0
        have a1 := cells_of HX3.out 1
        simp only [List.getElem?_toArray, List.getElem?_cons_succ, List.getElem?_cons_zero] at a0 a1
        go_wp2_with fail
        refine (HR.out _).mono ?_
        rintro e w4 ⟨rfl, hb4⟩
        have HX4 := Lib.hid (keepB hb4 HX3.out)
        have HB4 := Lib.hid (bstep HB3.out hb4)
        clear hb4 a0 a1
        go_wp2_with fail
        go_roundw
        case rel => exact ⟨k + 1, by omega, by go_num, HX4, HB4⟩
        case measure => simp only [intOf]; omega
      · obtain rfl : k = 4 := by omega
        have hlt' : ¬ ((4 : Nat) : Int) < 4 := by omega
        go_wp2_with fail
        refine (awake_any _).mono ?_
        rintro e w1 ⟨rfl, hb⟩
        go_wp2_with fail
        go_ret
        exact ⟨rfl, bstep HB.out hb⟩
end Go.Proofs.Ytdgjbejbbmnhbaa
