/-
  The law BitsParts: the walk.
-/
import Derived.Test.YtdgjbejbbmnhbaaBitsMath3
namespace Go.Proofs.Ytdgjbejbbmnhbaa
open Go.RowKit Go.Proofs.BitsM
theorem blk2 {w w' : World} {o1 o2 : Obj} {b : Nat} {x : Obj} (h : w.heap[b]? = some x) (hb : Below ((w.alloc o1).alloc o2).heap.size ((w.alloc o1).alloc o2) w') : w'.heap[b]? = some x := by
  have h2 := heap_after (heap_after h o1) o2
  have hlt : b < ((w.alloc o1).alloc o2).heap.size := by
    rcases Nat.lt_or_ge b ((w.alloc o1).alloc o2).heap.size with h | h
    · exact h
    · rw [Array.getElem?_eq_none h] at h2; cases h2
  rw [hb.block b hlt]; exact h2
theorem blk1 {w w' : World} {o1 : Obj} {b : Nat} {x : Obj} (h : w.heap[b]? = some x) (hb : Below (w.alloc o1).heap.size (w.alloc o1) w') : w'.heap[b]? = some x := by
  have h2 := heap_after h o1
  have hlt : b < (w.alloc o1).heap.size := by
    rcases Nat.lt_or_ge b (w.alloc o1).heap.size with h | h
    · exact h
    · rw [Array.getElem?_eq_none h] at h2; cases h2
  rw [hb.block b hlt]; exact h2
theorem blk0 {w w' : World} {b : Nat} {x : Obj} (h : w.heap[b]? = some x) (hb : Below w.heap.size w w') : w'.heap[b]? = some x := by
  have hlt : b < w.heap.size := by
    rcases Nat.lt_or_ge b w.heap.size with h' | h'
    · exact h'
    · rw [Array.getElem?_eq_none h'] at h; cases h
  rw [hb.block b hlt]; exact h
theorem SlB_three {w : World} {k : Nat} {s t u : ByteArray} {n m l : Int} {T : TypeId} (h : w.heap[k]? = some (.cells #[.string s, .int .i64 n, .string t, .int .i64 m, .string u, .int .i64 l] T (0, 0))) (cap : Nat) :
    SlB w (.slice (some ⟨k, 0, none⟩) 3 cap) [(s, n), (t, m), (u, l)] := by
  refine ⟨some ⟨k, 0, none⟩, cap, rfl, fun _ => ⟨k, 0, rfl, ?_⟩⟩
  intro i hi
  match i, hi with
  | 0, _ => exact ⟨cells_of h 0, cells_of h 1⟩
  | 1, _ => exact ⟨cells_of h 2, cells_of h 3⟩
  | 2, _ => exact ⟨cells_of h 4, cells_of h 5⟩
/-- a box of a bit string -/
def BBox (s : ByteArray) (n : Int) : Obj := .cells #[.string s, .int .i64 n] 25 (0, 0)
theorem box0 {w : World} {b : Nat} {s : ByteArray} {n : Int} (h : w.heap[b]? = some (BBox s n)) (o : Obj) : (w.alloc o).cell? ⟨b, 0, none⟩ = some (.string s) := by
  have := cells_later h 0 o; simpa using this
theorem box1 {w : World} {b : Nat} {s : ByteArray} {n : Int} (h : w.heap[b]? = some (BBox s n)) (o : Obj) : (w.alloc o).cell? ⟨b, 1, none⟩ = some (.int .i64 n) := by
  have := cells_later h 1 o; simpa using this
theorem box0' {w : World} {b : Nat} {s : ByteArray} {n : Int} (h : w.heap[b]? = some (BBox s n)) : w.cell? ⟨b, 0, none⟩ = some (.string s) := by
  have := cells_of h 0; simpa using this
theorem box1' {w : World} {b : Nat} {s : ByteArray} {n : Int} (h : w.heap[b]? = some (BBox s n)) : w.cell? ⟨b, 1, none⟩ = some (.int .i64 n) := by
  have := cells_of h 1; simpa using this
set_option maxRecDepth 100000 in
set_option maxHeartbeats 4000000 in
/-- the early ends: one of them is too long, or not valid -/
theorem parts_early (x y z : ByteArray) (a b c : Int) (hx : x.size ≤ maxLen) (hy : y.size ≤ maxLen) (hz : z.size ≤ maxLen) (ha : i64ok a) (hb : i64ok b) (hc : i64ok c)
    (hbad : ¬ (x.size ≤ 600 ∧ y.size ≤ 600 ∧ z.size ≤ 600 ∧ validB x a = true ∧ validB y b = true ∧ validB z c = true)) (w : World) :
    Calls Try.prog 6 #[.agg #[.string x, .int .i64 a], .agg #[.string y, .int .i64 b], .agg #[.string z, .int .i64 c]] w (Yes w) := by
  have V1 := fun W => rValid_any x a hx ha.1 ha.2 W
  have V2 := fun W => rValid_any y b hy hb.1 hb.2 W
  have V3 := fun W => rValid_any z c hz hc.1 hc.2 W
  rw [maxLen_val] at hx hy hz
  by_cases h1 : (600 : Int) < (x.size : Int)
  · go_enter Try.func6, Try.ntmps6
    go_wp2_with fail
    refine (awake_any _).mono ?_
    rintro e w1 ⟨rfl, hb⟩
    go_wp2_with fail
    go_ret
    exact ⟨rfl, bstep (balloc (balloc (below_alloc _ _) _) _) hb⟩
  by_cases h2 : (600 : Int) < (y.size : Int)
  · go_enter Try.func6, Try.ntmps6
    go_wp2_with fail
    refine (awake_any _).mono ?_
    rintro e w1 ⟨rfl, hb⟩
    go_wp2_with fail
    go_ret
    exact ⟨rfl, bstep (balloc (balloc (below_alloc _ _) _) _) hb⟩
  by_cases h3 : (600 : Int) < (z.size : Int)
  · go_enter Try.func6, Try.ntmps6
    go_wp2_with fail
    refine (awake_any _).mono ?_
    rintro e w1 ⟨rfl, hb⟩
    go_wp2_with fail
    go_ret
    exact ⟨rfl, bstep (balloc (balloc (below_alloc _ _) _) _) hb⟩
  have hbad' : validB x a = true → validB y b = true → validB z c = true → False := by
    intro k1 k2 k3; exact hbad ⟨by omega, by omega, by omega, k1, k2, k3⟩
  clear hbad
  generalize validB x a = v1 at V1 hbad'
  generalize validB y b = v2 at V2 hbad'
  generalize validB z c = v3 at V3 hbad'
  have HV1 := Lib.hid V1
  have HV2 := Lib.hid V2
  have HV3 := Lib.hid V3
  clear V1 V2 V3
  cases v1
  · clear hbad'
    go_enter Try.func6, Try.ntmps6
    go_wp2_with fail
    refine (HV1.out _).mono ?_
    rintro e w1 ⟨rfl, hb1⟩
    go_wp2_with fail
    refine (awake_any _).mono ?_
    rintro e w2 ⟨rfl, hb2⟩
    go_wp2_with fail
    go_ret
    exact ⟨rfl, bstep (bstep (balloc (balloc (below_alloc _ _) _) _) hb1) hb2⟩
  cases v2
  · clear hbad'
    go_enter Try.func6, Try.ntmps6
    go_wp2_with fail
    refine (HV1.out _).mono ?_
    rintro e w1 ⟨rfl, hb1⟩
    have c1 := bcell hb1
    go_wp2_with fail
    refine (HV2.out _).mono ?_
    rintro e w2 ⟨rfl, hb2⟩
    go_wp2_with fail
    refine (awake_any _).mono ?_
    rintro e w3 ⟨rfl, hb3⟩
    go_wp2_with fail
    go_ret
    exact ⟨rfl, bstep (bstep (bstep (balloc (balloc (below_alloc _ _) _) _) hb1) hb2) hb3⟩
  cases v3
  · clear hbad'
    go_enter Try.func6, Try.ntmps6
    go_wp2_with fail
    refine (HV1.out _).mono ?_
    rintro e w1 ⟨rfl, hb1⟩
    have c1 := bcell hb1
    have hz1 := hb1.size
    simp at hz1
    have hy0 := box0' (blk0 (new3_1 _ _ _ _) hb1)
    have hy1 := box1' (blk0 (new3_1 _ _ _ _) hb1)
    go_wp2_with fail
    refine (HV2.out _).mono ?_
    rintro e w2 ⟨rfl, hb2⟩
    have hz0 := box0' (blk0 (blk0 (new3_2 _ _ _ _) hb1) hb2)
    have hz1 := box1' (blk0 (blk0 (new3_2 _ _ _ _) hb1) hb2)
    go_wp2_with fail
    refine (HV3.out _).mono ?_
    rintro e w3 ⟨rfl, hb3⟩
    go_wp2_with fail
    refine (awake_any _).mono ?_
    rintro e w4 ⟨rfl, hb4⟩
    go_wp2_with fail
    go_ret
    exact ⟨rfl, bstep (bstep (bstep (bstep (balloc (balloc (below_alloc _ _) _) _) hb1) hb2) hb3) hb4⟩
  · exact absurd (hbad' rfl rfl rfl) id
end Go.Proofs.Ytdgjbejbbmnhbaa
