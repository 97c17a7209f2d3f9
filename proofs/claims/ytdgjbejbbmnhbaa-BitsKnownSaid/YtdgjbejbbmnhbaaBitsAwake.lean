/-
  Walks: awake.
-/
import Derived.Test.YtdgjbejbbmnhbaaBitsPut
import Derived.Test.YtdgjbejbbmnhbaaYes
import Derived.Deep.RegionHeld3
namespace Go.Proofs.Ytdgjbejbbmnhbaa
open Go.RowKit Go.Proofs.BitsM
theorem bstep {w W w' : World} (h : Below w.heap.size w W) (hb : Below W.heap.size W w') : Below w.heap.size w w' := h.trans (hb.mono h.size)
theorem balloc {w W : World} (h : Below w.heap.size w W) (o : Obj) : Below w.heap.size w (W.alloc o) := h.alloc h.size o
theorem bset {w W : World} (h : Below w.heap.size w W) {b k : Nat} (hp : w.heap.size ≤ b) (u : Value) : Below w.heap.size w (W.setCell ⟨b, k, none⟩ u) := h.setCell hp u
theorem put_known : putR 5 3 false = (⟨#[160]⟩, 3, 0) := by decide +kernel
theorem join_known : joinR [(⟨#[160]⟩, 3), (⟨#[255]⟩, 8)] = (⟨#[191, 224]⟩, 11, 0) := by decide +kernel
theorem SlB_two {w : World} {k : Nat} {s t : ByteArray} {n m : Int} {T : TypeId} (h : w.heap[k]? = some (.cells #[.string s, .int .i64 n, .string t, .int .i64 m] T (0, 0))) (cap : Nat) :
    SlB w (.slice (some ⟨k, 0, none⟩) 2 cap) [(s, n), (t, m)] := by
  refine ⟨some ⟨k, 0, none⟩, cap, rfl, fun _ => ⟨k, 0, rfl, ?_⟩⟩
  intro i hi
  match i, hi with
  | 0, _ => exact ⟨cells_of h 0, cells_of h 1⟩
  | 1, _ => exact ⟨cells_of h 2, cells_of h 3⟩
theorem keep_alloc {w : World} {a : Addr} {v : Value} (h : w.cell? a = some v) (o : Obj) : (w.alloc o).cell? a = some v := by
  have hlt : a.block < w.heap.size := World.block_lt_of_cell? w a h
  rw [World.cell?_of_block (w := w) (Below.heap_alloc _ _ _ hlt)]; exact h
theorem below_keep {W w' : World} (hb : Below W.heap.size W w') {a : Addr} {v : Value} (h : W.cell? a = some v) : w'.cell? a = some v := by
  rw [hb.cell (World.block_lt_of_cell? W a h)]; exact h
theorem keep_set {W : World} {p : Addr} {u : Value} {a : Addr} {v : Value} (h : W.cell? a = some v) (hne : p.block ≠ a.block) : (W.setCell p u).cell? a = some v := by
  rw [World.cell?_of_block (w := W) (Below.heap_setCell _ _ _ _ (fun e => hne e.symm))]; exact h
theorem alloc_other {W : World} {o o' : Obj} {a : Addr} {v : Value} (h : (W.alloc o).cell? a = some v) (hlt : a.block < W.heap.size) : (W.alloc o').cell? a = some v := by
  rw [World.cell?_of_block (w := W) (Below.heap_alloc _ _ _ hlt)] at h ⊢; exact h
set_option maxHeartbeats 2000000 in
theorem awake_any (w : World) : Calls Try.prog 13 #[] w (Yes w) := by
  go_enter Try.func13, Try.ntmps13
  go_wp2_with fail
  have hput := Put_ok 5 3 false ⟨by omega, by omega⟩ (by decide) w
  rw [show (((3 : Nat) : Int)) = 3 from rfl, put_known] at hput
  refine hput.mono ?_
  simp only [bitsRet]
  rintro e w1 ⟨rfl, hb⟩
  go_wp2_with fail
  have hz1 : w.heap.size ≤ w1.heap.size := hb.size
  have HB := Lib.hid hb
  clear hb
  have hof : Hid (∀ W : World, Calls Try.prog 20 #[.string ⟨#[255]⟩] W fun e w' => e = .returned (.agg #[.string ⟨#[255]⟩, .int .i64 8]) ∧ Below W.heap.size W w') := Lib.hid fun W => Of_any ⟨#[255]⟩ (by decide) W
  have hjn : Hid (∀ (W : World) (v : Value), SlB W v [(⟨#[160]⟩, 3), (⟨#[255]⟩, 8)] → Calls Try.prog 14 #[v] W fun e w' => e = .returned (.tuple #[.agg #[.string ⟨#[191, 224]⟩, .int .i64 11], .int .i64 0]) ∧ Below W.heap.size W w') := Lib.hid fun W v hv => by
    have h := Join_any v [(⟨#[160]⟩, 3), (⟨#[255]⟩, 8)] (by intro x hx; simp at hx; rcases hx with rfl | rfl <;> exact ⟨by decide, by constructor <;> decide⟩) (by decide) W hv
    rw [join_known] at h
    exact h
  clear hput
  go_region_held3 (fun w' => w'.cell? ⟨w1.heap.size, 0, none⟩ = some (.string ⟨#[160]⟩) ∧ w'.cell? ⟨w1.heap.size, 1, none⟩ = some (.int .i64 3))
    (first
      | (go_split_ands; refine ⟨?_, ?_⟩ <;> exact keep_alloc (by assumption) _)
      | (go_split_ands; refine ⟨?_, ?_⟩ <;> exact below_keep hb3 (by assumption))
      | (go_split_ands; refine ⟨?_, ?_⟩ <;> exact below_keep hb2 (by assumption))
      | (go_split_ands; refine ⟨?_, ?_⟩ <;> first | exact keep_set (keep_set (by assumption) (by simp <;> omega)) (by simp <;> omega) | exact alloc_other (by assumption) (by simp <;> omega))
      | (refine ⟨cells_of (new1_0 _ _) 0, cells_of (new1_0 _ _) 1⟩)
      )
    (first
      | (go_at_call 20; refine (hof.out _).mono ?_; rintro e w2 ⟨rfl, hb2⟩; have hc2 := bcell hb2; have hz2 := hb2.size; simp at hz2; have z1 : w1.heap.size < w2.heap.size := by omega
         try have z2 : w1.heap.size + 1 < w2.heap.size := by omega)
      | (go_at_call 14; refine Calls.mono (hjn.out _ _ (by refine SlB_two (T := 25) ?_ 2; first | exact new1_0 _ _ | exact new2_0 _ _ _ | exact new2_1 _ _ _)) ?_; rintro e w3 ⟨rfl, hb3⟩; have hc3 := bcell hb3; have hz3 := hb3.size; simp at hz3))
  all_goals
    have HB2 := Lib.hid hb2
    have HB3 := Lib.hid hb3
    have hz2' : w1.heap.size < w2.heap.size := by omega
    have hz3' : w1.heap.size < w3.heap.size := by omega
    have hz4' : ¬ w1.heap.size = w3.heap.size := by omega
    have hz5' : w1.heap.size ≤ w2.heap.size := by omega
    have hz6' : w1.heap.size < w2.heap.size + 1 := by omega
    have hz7' : w1.heap.size < w2.heap.size + 1 + 1 := by omega
    have hz8' : ¬ w2.heap.size + 1 = w1.heap.size := by omega
    have hz10' : w2.heap.size < w2.heap.size + 1 + 1 := by omega
    have hz11' : w1.heap.size < w1.heap.size + 1 + 1 := by omega
    have hz9' : ¬ w2.heap.size = w1.heap.size := by omega
    clear hb2 hb3
    go_wp2_with fail
    go_ret
    refine ⟨rfl, ?_⟩
    have b1 := HB.out
    have b2 := HB2.out
    have b3 := HB3.out
    first
      | exact balloc (bstep (balloc (bstep (balloc b1 _).drew b2) _) b3) _
      | exact bset (bset (bstep (balloc (balloc (bstep (balloc b1 _).drew b2) _) _) b3) (by omega) _) (by omega) _
      | exact bset (bset (bstep (balloc (bstep (balloc (balloc b1 _) _).drew b2) _) b3) (by omega) _) (by omega) _
end Go.Proofs.Ytdgjbejbbmnhbaa
