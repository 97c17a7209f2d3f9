/-
  The law BitsParts: the walk of the long way.
-/
import Derived.Test.YtdgjbejbbmnhbaaBitsLawParts
namespace Go.Proofs.Ytdgjbejbbmnhbaa
open Go.RowKit Go.Proofs.BitsM
theorem new3_0 (w : World) (o p q : Obj) : (((w.alloc o).alloc p).alloc q).heap[w.heap.size]? = some o := heap_after (heap_after (new1_0 _ _) _) _
theorem blkN2 {w w' : World} {o1 o2 : Obj} (hb : Below ((w.alloc o1).alloc o2).heap.size ((w.alloc o1).alloc o2) w') : w'.heap[w.heap.size]? = some o1 := by
  rw [hb.block _ (by simp; omega)]; exact new2_0 _ _ _
theorem blkN1 {w w' : World} {o1 : Obj} (hb : Below (w.alloc o1).heap.size (w.alloc o1) w') : w'.heap[w.heap.size]? = some o1 := by
  rw [hb.block _ (by simp)]; exact new1_0 _ _
/-- what Join says of these, in every world -/
def JoinSays (bs : List (ByteArray × Int)) (s : ByteArray) (n : Int) : Prop := ∀ (W : World) (v : Value), SlB W v bs →
  Calls Try.prog 14 #[v] W fun e w' => e = .returned (.tuple #[.agg #[.string s, .int .i64 n], .int .i64 0]) ∧ Below W.heap.size W w'
/-- what Cut says of this -/
def CutSays (t : ByteArray) (m f k : Int) (s : ByteArray) (n : Int) : Prop := ∀ (W : World),
  Calls Try.prog 21 #[.agg #[.string t, .int .i64 m], .int .i64 f, .int .i64 k] W fun e w' => e = .returned (.tuple #[.agg #[.string s, .int .i64 n], .int .i64 0]) ∧ Below W.heap.size W w'
set_option maxRecDepth 100000 in
set_option maxHeartbeats 4000000 in
theorem parts_main (x y z xy yz p : ByteArray) (a b c ab bc n : Int) (ha : i64ok a) (hb : i64ok b) (hc : i64ok c)
    (h1 : x.size ≤ 600) (h2 : y.size ≤ 600) (h3 : z.size ≤ 600) (v1 : validB x a = true) (v2 : validB y b = true) (v3 : validB z c = true)
    (hn : n = a + b + c) (J1 : JoinSays [(x, a), (y, b)] xy ab) (J2 : JoinSays [(y, b), (z, c)] yz bc) (J3 : JoinSays [(xy, ab), (z, c)] p n) (J4 : JoinSays [(x, a), (yz, bc)] p n)
    (C1 : CutSays p n 0 a x a) (C2 : CutSays p n a b y b) (C3 : CutSays p n (a + b) c z c) (J5 : JoinSays [(⟨#[]⟩, 0), (x, a), (⟨#[]⟩, 0)] x a) (w : World) :
    Calls Try.prog 6 #[.agg #[.string x, .int .i64 a], .agg #[.string y, .int .i64 b], .agg #[.string z, .int .i64 c]] w (Yes w) := by
  have V1 := fun W => rValid_any x a (by rw [maxLen_val]; omega) ha.1 ha.2 W
  have V2 := fun W => rValid_any y b (by rw [maxLen_val]; omega) hb.1 hb.2 W
  have V3 := fun W => rValid_any z c (by rw [maxLen_val]; omega) hc.1 hc.2 W
  obtain ⟨a0, la⟩ := valid_size v1
  obtain ⟨b0, lb⟩ := valid_size v2
  obtain ⟨c0, lc⟩ := valid_size v3
  rw [v1] at V1
  rw [v2] at V2
  rw [v3] at V3
  unfold lenB at la lb lc
  have a1 : a ≤ 4800 := by omega
  have b1 : b ≤ 4800 := by omega
  have c1 : c ≤ 4800 := by omega
  have l1 : ¬ (600 : Int) < (x.size : Int) := by omega
  have l2 : ¬ (600 : Int) < (y.size : Int) := by omega
  have l3 : ¬ (600 : Int) < (z.size : Int) := by omega
  have hnn : (n != a + b + c) = false := by simp [hn]
  clear la lb lc v1 v2 v3 h1 h2 h3 hn
  have HV1 := Lib.hid V1
  have HV2 := Lib.hid V2
  have HV3 := Lib.hid V3
  have HJ1 := Lib.hid J1
  have HJ2 := Lib.hid J2
  have HJ3 := Lib.hid J3
  have HJ4 := Lib.hid J4
  have HJ5 := Lib.hid J5
  have HC1 := Lib.hid C1
  have HC2 := Lib.hid C2
  have HC3 := Lib.hid C3
  clear V1 V2 V3 J1 J2 J3 J4 J5 C1 C2 C3
  go_enter Try.func6, Try.ntmps6
  go_wp2_with fail
  refine (HV1.out _).mono ?_
  rintro e w1 ⟨rfl, hb1⟩
  have BX := Lib.hid (blk0 (new3_0 _ _ _ _) hb1)
  have BY := Lib.hid (blk0 (new3_1 _ _ _ _) hb1)
  have BZ := Lib.hid (blk0 (new3_2 _ _ _ _) hb1)
  have HB1 := Lib.hid (bstep (balloc (balloc (below_alloc _ _) _) _) hb1)
  clear hb1
  have BYc0 := box0' BY.out
  have BYc1 := box1' BY.out
  go_wp2_with fail
  clear BYc0 BYc1
  refine (HV2.out _).mono ?_
  rintro e w2 ⟨rfl, hb2⟩
  have BXn := Lib.hid (blk0 BX.out hb2)
  have BYn := Lib.hid (blk0 BY.out hb2)
  have BZn := Lib.hid (blk0 BZ.out hb2)
  clear BX
  have BX := BXn
  clear BXn
  clear BY
  have BY := BYn
  clear BYn
  clear BZ
  have BZ := BZn
  clear BZn
  have HB2 := Lib.hid (bstep HB1.out hb2)
  clear hb2
  have BZc0 := box0' BZ.out
  have BZc1 := box1' BZ.out
  go_wp2_with fail
  clear BZc0 BZc1
  refine (HV3.out _).mono ?_
  rintro e w3 ⟨rfl, hb3⟩
  have BXn := Lib.hid (blk0 BX.out hb3)
  have BYn := Lib.hid (blk0 BY.out hb3)
  have BZn := Lib.hid (blk0 BZ.out hb3)
  clear BX
  have BX := BXn
  clear BXn
  clear BY
  have BY := BYn
  clear BYn
  clear BZ
  have BZ := BZn
  clear BZn
  have HB3 := Lib.hid (bstep HB2.out hb3)
  clear hb3
  have BXc0 := box0' BX.out
  have BXc1 := box1' BX.out
  have BYc0 := box0' BY.out
  have BYc1 := box1' BY.out
  go_wp2_with fail
  clear BXc0 BXc1 BYc0 BYc1
  refine Calls.mono (HJ1.out _ _ (SlB_two (T := 25) (new1_0 _ _) _)) ?_
  rintro e w4 ⟨rfl, hb4⟩
  have BXn := Lib.hid (blk1 BX.out hb4)
  have BYn := Lib.hid (blk1 BY.out hb4)
  have BZn := Lib.hid (blk1 BZ.out hb4)
  clear BX
  have BX := BXn
  clear BXn
  clear BY
  have BY := BYn
  clear BYn
  clear BZ
  have BZ := BZn
  clear BZn
  have HB4 := Lib.hid (bstep (balloc HB3.out _) hb4)
  clear hb4
  have BYc0 := box0 BY.out
  have BYc1 := box1 BY.out
  have BZc0 := box0 BZ.out
  have BZc1 := box1 BZ.out
  go_wp2_with fail
  clear BYc0 BYc1 BZc0 BZc1
  refine Calls.mono (HJ2.out _ _ (SlB_two (T := 25) (new2_1 _ _ _) _)) ?_
  rintro e w5 ⟨rfl, hb5⟩
  have BXn := Lib.hid (blk2 BX.out hb5)
  have BYn := Lib.hid (blk2 BY.out hb5)
  have BZn := Lib.hid (blk2 BZ.out hb5)
  clear BX
  have BX := BXn
  clear BXn
  clear BY
  have BY := BYn
  clear BYn
  clear BZ
  have BZ := BZn
  clear BZn
  have BXY : Hid (w5.heap[w4.heap.size]? = some (BBox xy ab)) := Lib.hid (blkN2 hb5)
  have HB5 := Lib.hid (bstep (balloc (balloc HB4.out _) _) hb5)
  clear hb5
  have BXYc0 := box0 BXY.out
  have BXYc1 := box1 BXY.out
  have BZc0 := box0 BZ.out
  have BZc1 := box1 BZ.out
  go_wp2_with fail
  clear BXYc0 BXYc1 BZc0 BZc1
  refine Calls.mono (HJ3.out _ _ (SlB_two (T := 25) (new2_1 _ _ _) _)) ?_
  rintro e w6 ⟨rfl, hb6⟩
  have BXn := Lib.hid (blk2 BX.out hb6)
  have BYn := Lib.hid (blk2 BY.out hb6)
  have BZn := Lib.hid (blk2 BZ.out hb6)
  have BXYn := Lib.hid (blk2 BXY.out hb6)
  clear BX
  have BX := BXn
  clear BXn
  clear BY
  have BY := BYn
  clear BYn
  clear BZ
  have BZ := BZn
  clear BZn
  clear BXY
  have BXY := BXYn
  clear BXYn
  have BYZ : Hid (w6.heap[w5.heap.size]? = some (BBox yz bc)) := Lib.hid (blkN2 hb6)
  have HB6 := Lib.hid (bstep (balloc (balloc HB5.out _) _) hb6)
  clear hb6
  have BXc0 := box0 BX.out
  have BXc1 := box1 BX.out
  have BYZc0 := box0 BYZ.out
  have BYZc1 := box1 BYZ.out
  go_wp2_with fail
  clear BXc0 BXc1 BYZc0 BYZc1
  refine Calls.mono (HJ4.out _ _ (SlB_two (T := 25) (new2_1 _ _ _) _)) ?_
  rintro e w7 ⟨rfl, hb7⟩
  have BXn := Lib.hid (blk2 BX.out hb7)
  have BYn := Lib.hid (blk2 BY.out hb7)
  have BZn := Lib.hid (blk2 BZ.out hb7)
  have BXYn := Lib.hid (blk2 BXY.out hb7)
  have BYZn := Lib.hid (blk2 BYZ.out hb7)
  clear BX
  have BX := BXn
  clear BXn
  clear BY
  have BY := BYn
  clear BYn
  clear BZ
  have BZ := BZn
  clear BZn
  clear BXY
  have BXY := BXYn
  clear BXYn
  clear BYZ
  have BYZ := BYZn
  clear BYZn
  have BP : Hid (w7.heap[w6.heap.size]? = some (BBox p n)) := Lib.hid (blkN2 hb7)
  have HB7 := Lib.hid (bstep (balloc (balloc HB6.out _) _) hb7)
  clear hb7
  have BXc1 := box1 BX.out
  have BYc1 := box1 BY.out
  have BZc1 := box1 BZ.out
  have BPc0 := box0 BP.out
  have BPc1 := box1 BP.out
  go_wp2_with fail
  clear BXc1 BYc1 BZc1 BPc0 BPc1
  refine (HC1.out _).mono ?_
  rintro e w8 ⟨rfl, hb8⟩
  have BXn := Lib.hid (blk1 BX.out hb8)
  have BYn := Lib.hid (blk1 BY.out hb8)
  have BZn := Lib.hid (blk1 BZ.out hb8)
  have BXYn := Lib.hid (blk1 BXY.out hb8)
  have BYZn := Lib.hid (blk1 BYZ.out hb8)
  have BPn := Lib.hid (blk1 BP.out hb8)
  clear BX
  have BX := BXn
  clear BXn
  clear BY
  have BY := BYn
  clear BYn
  clear BZ
  have BZ := BZn
  clear BZn
  clear BXY
  have BXY := BXYn
  clear BXYn
  clear BYZ
  have BYZ := BYZn
  clear BYZn
  clear BP
  have BP := BPn
  clear BPn
  have HB8 := Lib.hid (bstep (balloc HB7.out _) hb8)
  clear hb8
  have BXc1 := box1 BX.out
  have BYc1 := box1 BY.out
  have BPc0 := box0 BP.out
  have BPc1 := box1 BP.out
  go_wp2_with fail
  clear BXc1 BYc1 BPc0 BPc1
  refine (HC2.out _).mono ?_
  rintro e w9 ⟨rfl, hb9⟩
  have BXn := Lib.hid (blk1 BX.out hb9)
  have BYn := Lib.hid (blk1 BY.out hb9)
  have BZn := Lib.hid (blk1 BZ.out hb9)
  have BXYn := Lib.hid (blk1 BXY.out hb9)
  have BYZn := Lib.hid (blk1 BYZ.out hb9)
  have BPn := Lib.hid (blk1 BP.out hb9)
  clear BX
  have BX := BXn
  clear BXn
  clear BY
  have BY := BYn
  clear BYn
  clear BZ
  have BZ := BZn
  clear BZn
  clear BXY
  have BXY := BXYn
  clear BXYn
  clear BYZ
  have BYZ := BYZn
  clear BYZn
  clear BP
  have BP := BPn
  clear BPn
  have B15 : Hid (w9.heap[w8.heap.size]? = some (BBox x a)) := Lib.hid (blkN1 hb9)
  have HB9 := Lib.hid (bstep (balloc HB8.out _) hb9)
  clear hb9
  have BXc1 := box1 BX.out
  have BYc1 := box1 BY.out
  have BZc1 := box1 BZ.out
  have BPc0 := box0 BP.out
  have BPc1 := box1 BP.out
  go_wp2_with fail
  clear BXc1 BYc1 BZc1 BPc0 BPc1
  refine (HC3.out _).mono ?_
  rintro e w10 ⟨rfl, hb10⟩
  have BXn := Lib.hid (blk1 BX.out hb10)
  have BYn := Lib.hid (blk1 BY.out hb10)
  have BZn := Lib.hid (blk1 BZ.out hb10)
  have BXYn := Lib.hid (blk1 BXY.out hb10)
  have BYZn := Lib.hid (blk1 BYZ.out hb10)
  have BPn := Lib.hid (blk1 BP.out hb10)
  have B15n := Lib.hid (blk1 B15.out hb10)
  clear BX
  have BX := BXn
  clear BXn
  clear BY
  have BY := BYn
  clear BYn
  clear BZ
  have BZ := BZn
  clear BZn
  clear BXY
  have BXY := BXYn
  clear BXYn
  clear BYZ
  have BYZ := BYZn
  clear BYZn
  clear BP
  have BP := BPn
  clear BPn
  clear B15
  have B15 := B15n
  clear B15n
  have B17 : Hid (w10.heap[w9.heap.size]? = some (BBox y b)) := Lib.hid (blkN1 hb10)
  have HB10 := Lib.hid (bstep (balloc HB9.out _) hb10)
  clear hb10
  have BXc0 := box0 BX.out
  have BXc1 := box1 BX.out
  go_wp2_with fail
  clear BXc0 BXc1
  refine Calls.mono (HJ5.out _ _ (SlB_three (T := 25) (new2_1 _ _ _) _)) ?_
  rintro e w11 ⟨rfl, hb11⟩
  have BXn := Lib.hid (blk2 BX.out hb11)
  have BYn := Lib.hid (blk2 BY.out hb11)
  have BZn := Lib.hid (blk2 BZ.out hb11)
  have BXYn := Lib.hid (blk2 BXY.out hb11)
  have BYZn := Lib.hid (blk2 BYZ.out hb11)
  have BPn := Lib.hid (blk2 BP.out hb11)
  have B15n := Lib.hid (blk2 B15.out hb11)
  have B17n := Lib.hid (blk2 B17.out hb11)
  clear BX
  have BX := BXn
  clear BXn
  clear BY
  have BY := BYn
  clear BYn
  clear BZ
  have BZ := BZn
  clear BZn
  clear BXY
  have BXY := BXYn
  clear BXYn
  clear BYZ
  have BYZ := BYZn
  clear BYZn
  clear BP
  have BP := BPn
  clear BPn
  clear B15
  have B15 := B15n
  clear B15n
  clear B17
  have B17 := B17n
  clear B17n
  have B19 : Hid (w11.heap[w10.heap.size]? = some (BBox z c)) := Lib.hid (blkN2 hb11)
  have HB11 := Lib.hid (bstep (balloc (balloc HB10.out _) _) hb11)
  clear hb11
  have BXc0 := box0 BX.out
  have BXc1 := box1 BX.out
  have BYc0 := box0 BY.out
  have BYc1 := box1 BY.out
  have BZc0 := box0 BZ.out
  have BZc1 := box1 BZ.out
  have B15c0 := box0 B15.out
  have B15c1 := box1 B15.out
  have B17c0 := box0 B17.out
  have B17c1 := box1 B17.out
  have B19c0 := box0 B19.out
  have B19c1 := box1 B19.out
  go_wp2_with fail
  clear BXc0 BXc1 BYc0 BYc1 BZc0 BZc1 B15c0 B15c1 B17c0 B17c1 B19c0 B19c1
  refine (awake_any _).mono ?_
  rintro e w12 ⟨rfl, hb12⟩
  go_wp2_with fail
  go_ret
  exact ⟨rfl, bstep (balloc HB11.out _) hb12⟩
end Go.Proofs.Ytdgjbejbbmnhbaa
