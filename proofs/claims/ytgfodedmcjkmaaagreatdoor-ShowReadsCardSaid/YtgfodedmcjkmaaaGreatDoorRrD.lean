/-
  Walks: the reference's reader of show: term, a name stands here. Walks: the reference's reader of show: bits. Walks: the reference's reader of show: term, whole; Read of the reference.
-/
import Derived.Test.YtgfodedmcjkmaaaGreatDoorRrC
namespace Go.Proofs.YtgfodedmcjkmaaaGreatDoor
open Go.RowKit Go.Proofs.BitsM
theorem rAtom_c (s : ByteArray) (w : World) : Calls Tryz.prog 20 #[.string s] w fun e w' => e = .returned (.agg #[.int .i64 2, .int .i64 0, .int .i64 0, .string s, .string ⟨#[]⟩, .int .i64 0, .slice none 0 0, .string ⟨#[]⟩, .int .i64 0]) ∧ Below w.heap.size w w' := rAtom_any s w
set_option maxRecDepth 100000 in
set_option maxHeartbeats 8000000 in
theorem s_name_n0 (R : Nat) (w : World) (hr : Rr R [] false w) (hl : ([] : List UInt8).length ≤ 1000000) (n0 : (!false && hp [] [91, 93]) = false) (n1 : (!false && hp [] [91]) = false) (n2 : (!false && hp [] [123]) = false) (n3 : (!false && hp [] [60, 60]) = false) (n4 : (!false && hp [] [60]) = false) (n5 : (!false && hp [] [35, 82, 101, 102, 60]) = false) (n6 : (!false && hp [] [35, 70, 117, 110, 60]) = false) (n7 : (!false && hp [] [102, 117, 110, 32]) = false)  :
    Calls Tryz.prog 30 #[.pointer (some ⟨R, 0, none⟩)] w (TQ (pPlain false []) R [] false w) := by
  have hRw : R < w.heap.size := lt_of_block hr
  have N0 := Lib.hid n0
  clear n0
  have N1 := Lib.hid n1
  clear n1
  have N2 := Lib.hid n2
  clear n2
  have N3 := Lib.hid n3
  clear n3
  have N4 := Lib.hid n4
  clear n4
  have N5 := Lib.hid n5
  clear n5
  have N6 := Lib.hid n6
  clear n6
  have N7 := Lib.hid n7
  clear n7
  have HF0 := Lib.hid (show Bq w [.blk R #[.string (ba ([])), .bool (false)] 60, .base (fun b => b = R) w] from ⟨hr, Ch.refl _ _, trivial⟩)
  clear hr
  go_enter Tryz.func30, Tryz.ntmps30
  go_wp2_with fail
  have HF1 := Lib.hid (HF0.out.box #[.int .i64 0, .int .i64 0, .int .i64 0, .string ⟨#[]⟩, .string ⟨#[]⟩, .int .i64 0, .slice none 0 0, .string ⟨#[]⟩, .int .i64 0] 24 (n := w.heap.size) (by rfl))
  clear HF0
  have HF2 := Lib.hid (HF1.out.box #[.int .i64 0, .int .i64 0, .int .i64 0, .string ⟨#[]⟩, .string ⟨#[]⟩, .int .i64 0, .slice none 0 0, .string ⟨#[]⟩, .int .i64 0] 24 (n := w.heap.size + 1) (by simp))
  clear HF1
  refine (eat_not R [] ⟨#[91, 93]⟩ false _ (HF2.out.blk 2 rfl) N0.out).mono ?_
  rintro e w1 ⟨rfl, hr, ho⟩
  have HF3 := Lib.hid (HF2.out.call 2 ho hr (by refine ⟨?_, ?_, ?_, trivial⟩ <;> (simp only [Fq.apart]; first | omega | (intro b h1 h2; omega) | (intro b h1 h2 h3; omega))))
  have hz1 : w.heap.size + 2 ≤ w1.heap.size := by have := ho.size; first | omega | (simp at this; omega)
  clear HF2 ho hr
  go_wp2_with fail
  refine (eat_not R [] ⟨#[91]⟩ false _ (HF3.out.blk 0 rfl) N1.out).mono ?_
  rintro e w2 ⟨rfl, hr, ho⟩
  have HF4 := Lib.hid (HF3.out.call 0 ho hr (by refine ⟨?_, ?_, ?_, trivial⟩ <;> (simp only [Fq.apart]; first | omega | (intro b h1 h2; omega) | (intro b h1 h2 h3; omega))))
  have hz2 : w1.heap.size ≤ w2.heap.size := by have := ho.size; first | omega | (simp at this; omega)
  clear HF3 ho hr
  go_wp2_with fail
  refine (eat_not R [] ⟨#[123]⟩ false _ (HF4.out.blk 0 rfl) N2.out).mono ?_
  rintro e w3 ⟨rfl, hr, ho⟩
  have HF5 := Lib.hid (HF4.out.call 0 ho hr (by refine ⟨?_, ?_, ?_, trivial⟩ <;> (simp only [Fq.apart]; first | omega | (intro b h1 h2; omega) | (intro b h1 h2 h3; omega))))
  have hz3 : w2.heap.size ≤ w3.heap.size := by have := ho.size; first | omega | (simp at this; omega)
  clear HF4 ho hr
  go_wp2_with fail
  refine (eat_not R [] ⟨#[60, 60]⟩ false _ (HF5.out.blk 0 rfl) N3.out).mono ?_
  rintro e w4 ⟨rfl, hr, ho⟩
  have HF6 := Lib.hid (HF5.out.call 0 ho hr (by refine ⟨?_, ?_, ?_, trivial⟩ <;> (simp only [Fq.apart]; first | omega | (intro b h1 h2; omega) | (intro b h1 h2 h3; omega))))
  have hz4 : w3.heap.size ≤ w4.heap.size := by have := ho.size; first | omega | (simp at this; omega)
  clear HF5 ho hr
  go_wp2_with fail
  refine (eat_not R [] ⟨#[60]⟩ false _ (HF6.out.blk 0 rfl) N4.out).mono ?_
  rintro e w5 ⟨rfl, hr, ho⟩
  have HF7 := Lib.hid (HF6.out.call 0 ho hr (by refine ⟨?_, ?_, ?_, trivial⟩ <;> (simp only [Fq.apart]; first | omega | (intro b h1 h2; omega) | (intro b h1 h2 h3; omega))))
  have hz5 : w4.heap.size ≤ w5.heap.size := by have := ho.size; first | omega | (simp at this; omega)
  clear HF6 ho hr
  go_wp2_with fail
  refine (eat_not R [] ⟨#[35, 82, 101, 102, 60]⟩ false _ (HF7.out.blk 0 rfl) N5.out).mono ?_
  rintro e w6 ⟨rfl, hr, ho⟩
  have HF8 := Lib.hid (HF7.out.call 0 ho hr (by refine ⟨?_, ?_, ?_, trivial⟩ <;> (simp only [Fq.apart]; first | omega | (intro b h1 h2; omega) | (intro b h1 h2 h3; omega))))
  have hz6 : w5.heap.size ≤ w6.heap.size := by have := ho.size; first | omega | (simp at this; omega)
  clear HF7 ho hr
  go_wp2_with fail
  refine (eat_not R [] ⟨#[35, 70, 117, 110, 60]⟩ false _ (HF8.out.blk 0 rfl) N6.out).mono ?_
  rintro e w7 ⟨rfl, hr, ho⟩
  have HF9 := Lib.hid (HF8.out.call 0 ho hr (by refine ⟨?_, ?_, ?_, trivial⟩ <;> (simp only [Fq.apart]; first | omega | (intro b h1 h2; omega) | (intro b h1 h2 h3; omega))))
  have hz7 : w6.heap.size ≤ w7.heap.size := by have := ho.size; first | omega | (simp at this; omega)
  clear HF8 ho hr
  go_wp2_with fail
  refine (eat_not R [] ⟨#[102, 117, 110, 32]⟩ false _ (HF9.out.blk 0 rfl) N7.out).mono ?_
  rintro e w8 ⟨rfl, hr, ho⟩
  have HF10 := Lib.hid (HF9.out.call 0 ho hr (by refine ⟨?_, ?_, ?_, trivial⟩ <;> (simp only [Fq.apart]; first | omega | (intro b h1 h2; omega) | (intro b h1 h2 h3; omega))))
  have hz8 : w7.heap.size ≤ w8.heap.size := by have := ho.size; first | omega | (simp at this; omega)
  clear HF9 ho hr
  have k0 := cells_of (HF10.out.blk 0 rfl) 0
  have k0 : w8.cell? ⟨R, 0, none⟩ = some (.string (ba [])) := k0
  have s1 : (ba ([] : List UInt8)).size = 0 := rfl
  go_wp2_with fail
  clear k0
  refine (rName_any R [] false _ (HF10.out.blk 0 rfl) (Nat.le_trans hl (by decide))).mono ?_
  rintro e w9 ⟨rfl, hr, ho⟩
  have HF11 := Lib.hid (HF10.out.call 0 ho hr (by refine ⟨?_, ?_, ?_, trivial⟩ <;> (simp only [Fq.apart]; first | omega | (intro b h1 h2; omega) | (intro b h1 h2 h3; omega))))
  have hz9 : w8.heap.size ≤ w9.heap.size := by have := ho.size; first | omega | (simp at this; omega)
  clear HF10 ho hr
  generalize htw : ba ([].takeWhile letC) = TX
  have HTW := Lib.hid htw
  clear htw
  go_wp2_with fail
  refine (rAtom_c TX _).mono ?_
  rintro e w10 ⟨rfl, hb⟩
  have HF12 := Lib.hid (HF11.out.below hb)
  clear HF11
  have hz10 : w9.heap.size ≤ w10.heap.size := by have := hb.size; first | omega | (simp at this; omega)
  clear hb
  obtain ⟨c0, c1, c2, c3, c4, c5, c6, c7, c8, fr⟩ := nine_cells (HF12.out.blk 1 rfl)
  obtain ⟨d0, d1, d2, d3, d4, d5, d6, d7, d8, fs⟩ := nine_cells (HF12.out.blk 2 rfl)
  have hb0 := lt_of_block (HF12.out.blk 1 rfl)
  have hb1 := lt_of_block (HF12.out.blk 2 rfl)
  have k1 := cells_of (HF12.out.blk 0 rfl) 1
  have fk := frees_of (HF12.out.blk 0 rfl) 1
  have hb2 := lt_of_block (HF12.out.blk 0 rfl)
  have ht : TX.toList.isEmpty = true := by rw [← HTW.out, ba_toList]; rfl
  go_wp2_with fail
  have HF13 := Lib.hid (HF12.out.put 1 rfl (by refine ⟨?_, ?_, ?_, trivial⟩ <;> (simp only [Fq.apart]; first | omega | (intro b h1 h2; omega) | (intro b h1 h2 h3; omega))) (.int .i64 2) (.int .i64 0) (.int .i64 0) (.string TX) (.string ⟨#[]⟩) (.int .i64 0) (.slice none 0 0) (.string ⟨#[]⟩) (.int .i64 0))
  clear HF12
  have HF14 := Lib.hid (HF13.out.set (c := [.string (ba ([].dropWhile letC)), .bool (false)]) 1 rfl 1 (.bool true) (by refine ⟨?_, ?_, ?_, trivial⟩ <;> (simp only [Fq.apart]; first | omega | (intro b h1 h2; omega) | (intro b h1 h2 h3; omega))))
  clear HF13
  have HF15 := Lib.hid (HF14.out.put 2 rfl (by refine ⟨?_, ?_, ?_, trivial⟩ <;> (simp only [Fq.apart]; first | omega | (intro b h1 h2; omega) | (intro b h1 h2 h3; omega))) (.int .i64 2) (.int .i64 0) (.int .i64 0) (.string TX) (.string ⟨#[]⟩) (.int .i64 0) (.slice none 0 0) (.string ⟨#[]⟩) (.int .i64 0))
  clear HF14
  refine bodyPost_ret (results_one rfl _ _ _ _ _ _ _ _ _ _ _ _ rfl (HF15.out.blk 0 rfl)) rfl ?_
  exact ⟨atomF TX, .nil, none, 0, [].dropWhile letC, true, rfl, RdS.nil _ _ _, (HF15.out.blk 1 rfl), (HF15.out.base 3 rfl), dropW_len _ _, (fun _ => rfl), (fun _ => by unfold pPlain; rw [(show digH [] = false from rfl)]; rfl)⟩
set_option maxRecDepth 100000 in
set_option maxHeartbeats 8000000 in
theorem s_name_b0 (R : Nat) (w : World) (hr : Rr R [] true w) (hl : ([] : List UInt8).length ≤ 1000000) (n0 : (!true && hp [] [91, 93]) = false) (n1 : (!true && hp [] [91]) = false) (n2 : (!true && hp [] [123]) = false) (n3 : (!true && hp [] [60, 60]) = false) (n4 : (!true && hp [] [60]) = false) (n5 : (!true && hp [] [35, 82, 101, 102, 60]) = false) (n6 : (!true && hp [] [35, 70, 117, 110, 60]) = false) (n7 : (!true && hp [] [102, 117, 110, 32]) = false)  :
    Calls Tryz.prog 30 #[.pointer (some ⟨R, 0, none⟩)] w (TQ (pPlain false []) R [] true w) := by
  have hRw : R < w.heap.size := lt_of_block hr
  have N0 := Lib.hid n0
  clear n0
  have N1 := Lib.hid n1
  clear n1
  have N2 := Lib.hid n2
  clear n2
  have N3 := Lib.hid n3
  clear n3
  have N4 := Lib.hid n4
  clear n4
  have N5 := Lib.hid n5
  clear n5
  have N6 := Lib.hid n6
  clear n6
  have N7 := Lib.hid n7
  clear n7
  have HF0 := Lib.hid (show Bq w [.blk R #[.string (ba ([])), .bool (true)] 60, .base (fun b => b = R) w] from ⟨hr, Ch.refl _ _, trivial⟩)
  clear hr
  go_enter Tryz.func30, Tryz.ntmps30
  go_wp2_with fail
  have HF1 := Lib.hid (HF0.out.box #[.int .i64 0, .int .i64 0, .int .i64 0, .string ⟨#[]⟩, .string ⟨#[]⟩, .int .i64 0, .slice none 0 0, .string ⟨#[]⟩, .int .i64 0] 24 (n := w.heap.size) (by rfl))
  clear HF0
  have HF2 := Lib.hid (HF1.out.box #[.int .i64 0, .int .i64 0, .int .i64 0, .string ⟨#[]⟩, .string ⟨#[]⟩, .int .i64 0, .slice none 0 0, .string ⟨#[]⟩, .int .i64 0] 24 (n := w.heap.size + 1) (by simp))
  clear HF1
  refine (eat_not R [] ⟨#[91, 93]⟩ true _ (HF2.out.blk 2 rfl) N0.out).mono ?_
  rintro e w1 ⟨rfl, hr, ho⟩
  have HF3 := Lib.hid (HF2.out.call 2 ho hr (by refine ⟨?_, ?_, ?_, trivial⟩ <;> (simp only [Fq.apart]; first | omega | (intro b h1 h2; omega) | (intro b h1 h2 h3; omega))))
  have hz1 : w.heap.size + 2 ≤ w1.heap.size := by have := ho.size; first | omega | (simp at this; omega)
  clear HF2 ho hr
  go_wp2_with fail
  refine (eat_not R [] ⟨#[91]⟩ true _ (HF3.out.blk 0 rfl) N1.out).mono ?_
  rintro e w2 ⟨rfl, hr, ho⟩
  have HF4 := Lib.hid (HF3.out.call 0 ho hr (by refine ⟨?_, ?_, ?_, trivial⟩ <;> (simp only [Fq.apart]; first | omega | (intro b h1 h2; omega) | (intro b h1 h2 h3; omega))))
  have hz2 : w1.heap.size ≤ w2.heap.size := by have := ho.size; first | omega | (simp at this; omega)
  clear HF3 ho hr
  go_wp2_with fail
  refine (eat_not R [] ⟨#[123]⟩ true _ (HF4.out.blk 0 rfl) N2.out).mono ?_
  rintro e w3 ⟨rfl, hr, ho⟩
  have HF5 := Lib.hid (HF4.out.call 0 ho hr (by refine ⟨?_, ?_, ?_, trivial⟩ <;> (simp only [Fq.apart]; first | omega | (intro b h1 h2; omega) | (intro b h1 h2 h3; omega))))
  have hz3 : w2.heap.size ≤ w3.heap.size := by have := ho.size; first | omega | (simp at this; omega)
  clear HF4 ho hr
  go_wp2_with fail
  refine (eat_not R [] ⟨#[60, 60]⟩ true _ (HF5.out.blk 0 rfl) N3.out).mono ?_
  rintro e w4 ⟨rfl, hr, ho⟩
  have HF6 := Lib.hid (HF5.out.call 0 ho hr (by refine ⟨?_, ?_, ?_, trivial⟩ <;> (simp only [Fq.apart]; first | omega | (intro b h1 h2; omega) | (intro b h1 h2 h3; omega))))
  have hz4 : w3.heap.size ≤ w4.heap.size := by have := ho.size; first | omega | (simp at this; omega)
  clear HF5 ho hr
  go_wp2_with fail
  refine (eat_not R [] ⟨#[60]⟩ true _ (HF6.out.blk 0 rfl) N4.out).mono ?_
  rintro e w5 ⟨rfl, hr, ho⟩
  have HF7 := Lib.hid (HF6.out.call 0 ho hr (by refine ⟨?_, ?_, ?_, trivial⟩ <;> (simp only [Fq.apart]; first | omega | (intro b h1 h2; omega) | (intro b h1 h2 h3; omega))))
  have hz5 : w4.heap.size ≤ w5.heap.size := by have := ho.size; first | omega | (simp at this; omega)
  clear HF6 ho hr
  go_wp2_with fail
  refine (eat_not R [] ⟨#[35, 82, 101, 102, 60]⟩ true _ (HF7.out.blk 0 rfl) N5.out).mono ?_
  rintro e w6 ⟨rfl, hr, ho⟩
  have HF8 := Lib.hid (HF7.out.call 0 ho hr (by refine ⟨?_, ?_, ?_, trivial⟩ <;> (simp only [Fq.apart]; first | omega | (intro b h1 h2; omega) | (intro b h1 h2 h3; omega))))
  have hz6 : w5.heap.size ≤ w6.heap.size := by have := ho.size; first | omega | (simp at this; omega)
  clear HF7 ho hr
  go_wp2_with fail
  refine (eat_not R [] ⟨#[35, 70, 117, 110, 60]⟩ true _ (HF8.out.blk 0 rfl) N6.out).mono ?_
  rintro e w7 ⟨rfl, hr, ho⟩
  have HF9 := Lib.hid (HF8.out.call 0 ho hr (by refine ⟨?_, ?_, ?_, trivial⟩ <;> (simp only [Fq.apart]; first | omega | (intro b h1 h2; omega) | (intro b h1 h2 h3; omega))))
  have hz7 : w6.heap.size ≤ w7.heap.size := by have := ho.size; first | omega | (simp at this; omega)
  clear HF8 ho hr
  go_wp2_with fail
  refine (eat_not R [] ⟨#[102, 117, 110, 32]⟩ true _ (HF9.out.blk 0 rfl) N7.out).mono ?_
  rintro e w8 ⟨rfl, hr, ho⟩
  have HF10 := Lib.hid (HF9.out.call 0 ho hr (by refine ⟨?_, ?_, ?_, trivial⟩ <;> (simp only [Fq.apart]; first | omega | (intro b h1 h2; omega) | (intro b h1 h2 h3; omega))))
  have hz8 : w7.heap.size ≤ w8.heap.size := by have := ho.size; first | omega | (simp at this; omega)
  clear HF9 ho hr
  have k0 := cells_of (HF10.out.blk 0 rfl) 0
  have k0 : w8.cell? ⟨R, 0, none⟩ = some (.string (ba [])) := k0
  have s1 : (ba ([] : List UInt8)).size = 0 := rfl
  go_wp2_with fail
  clear k0
  refine (rName_any R [] true _ (HF10.out.blk 0 rfl) (Nat.le_trans hl (by decide))).mono ?_
  rintro e w9 ⟨rfl, hr, ho⟩
  have HF11 := Lib.hid (HF10.out.call 0 ho hr (by refine ⟨?_, ?_, ?_, trivial⟩ <;> (simp only [Fq.apart]; first | omega | (intro b h1 h2; omega) | (intro b h1 h2 h3; omega))))
  have hz9 : w8.heap.size ≤ w9.heap.size := by have := ho.size; first | omega | (simp at this; omega)
  clear HF10 ho hr
  generalize htw : ba ([].takeWhile letC) = TX
  have HTW := Lib.hid htw
  clear htw
  go_wp2_with fail
  refine (rAtom_c TX _).mono ?_
  rintro e w10 ⟨rfl, hb⟩
  have HF12 := Lib.hid (HF11.out.below hb)
  clear HF11
  have hz10 : w9.heap.size ≤ w10.heap.size := by have := hb.size; first | omega | (simp at this; omega)
  clear hb
  obtain ⟨c0, c1, c2, c3, c4, c5, c6, c7, c8, fr⟩ := nine_cells (HF12.out.blk 1 rfl)
  obtain ⟨d0, d1, d2, d3, d4, d5, d6, d7, d8, fs⟩ := nine_cells (HF12.out.blk 2 rfl)
  have hb0 := lt_of_block (HF12.out.blk 1 rfl)
  have hb1 := lt_of_block (HF12.out.blk 2 rfl)
  have k1 := cells_of (HF12.out.blk 0 rfl) 1
  have fk := frees_of (HF12.out.blk 0 rfl) 1
  have hb2 := lt_of_block (HF12.out.blk 0 rfl)
  go_wp2_with fail
  have HF13 := Lib.hid (HF12.out.put 1 rfl (by refine ⟨?_, ?_, ?_, trivial⟩ <;> (simp only [Fq.apart]; first | omega | (intro b h1 h2; omega) | (intro b h1 h2 h3; omega))) (.int .i64 2) (.int .i64 0) (.int .i64 0) (.string TX) (.string ⟨#[]⟩) (.int .i64 0) (.slice none 0 0) (.string ⟨#[]⟩) (.int .i64 0))
  clear HF12
  have HF14 := Lib.hid (HF13.out.set (c := [.string (ba ([].dropWhile letC)), .bool (true)]) 1 rfl 1 (.bool true) (by refine ⟨?_, ?_, ?_, trivial⟩ <;> (simp only [Fq.apart]; first | omega | (intro b h1 h2; omega) | (intro b h1 h2 h3; omega))))
  clear HF13
  have HF15 := Lib.hid (HF14.out.put 2 rfl (by refine ⟨?_, ?_, ?_, trivial⟩ <;> (simp only [Fq.apart]; first | omega | (intro b h1 h2; omega) | (intro b h1 h2 h3; omega))) (.int .i64 2) (.int .i64 0) (.int .i64 0) (.string TX) (.string ⟨#[]⟩) (.int .i64 0) (.slice none 0 0) (.string ⟨#[]⟩) (.int .i64 0))
  clear HF14
  refine bodyPost_ret (results_one rfl _ _ _ _ _ _ _ _ _ _ _ _ rfl (HF15.out.blk 0 rfl)) rfl ?_
  exact ⟨atomF TX, .nil, none, 0, [].dropWhile letC, true, rfl, RdS.nil _ _ _, (HF15.out.blk 1 rfl), (HF15.out.base 3 rfl), dropW_len _ _, (fun _ => rfl), (fun h => by cases h)⟩
set_option maxRecDepth 100000 in
set_option maxHeartbeats 8000000 in
theorem s_name_n1 (R : Nat) (a : UInt8) (t : List UInt8) (w : World) (hr : Rr R (a :: t) false w) (hl : ((a :: t) : List UInt8).length ≤ 1000000) (n0 : (!false && hp (a :: t) [91, 93]) = false) (n1 : (!false && hp (a :: t) [91]) = false) (n2 : (!false && hp (a :: t) [123]) = false) (n3 : (!false && hp (a :: t) [60, 60]) = false) (n4 : (!false && hp (a :: t) [60]) = false) (n5 : (!false && hp (a :: t) [35, 82, 101, 102, 60]) = false) (n6 : (!false && hp (a :: t) [35, 70, 117, 110, 60]) = false) (n7 : (!false && hp (a :: t) [102, 117, 110, 32]) = false) (hd : digC a = false) :
    Calls Tryz.prog 30 #[.pointer (some ⟨R, 0, none⟩)] w (TQ (pPlain false (a :: t)) R (a :: t) false w) := by
  have hRw : R < w.heap.size := lt_of_block hr
  have N0 := Lib.hid n0
  clear n0
  have N1 := Lib.hid n1
  clear n1
  have N2 := Lib.hid n2
  clear n2
  have N3 := Lib.hid n3
  clear n3
  have N4 := Lib.hid n4
  clear n4
  have N5 := Lib.hid n5
  clear n5
  have N6 := Lib.hid n6
  clear n6
  have N7 := Lib.hid n7
  clear n7
  have HD := Lib.hid hd
  clear hd
  have HF0 := Lib.hid (show Bq w [.blk R #[.string (ba ((a :: t))), .bool (false)] 60, .base (fun b => b = R) w] from ⟨hr, Ch.refl _ _, trivial⟩)
  clear hr
  go_enter Tryz.func30, Tryz.ntmps30
  go_wp2_with fail
  have HF1 := Lib.hid (HF0.out.box #[.int .i64 0, .int .i64 0, .int .i64 0, .string ⟨#[]⟩, .string ⟨#[]⟩, .int .i64 0, .slice none 0 0, .string ⟨#[]⟩, .int .i64 0] 24 (n := w.heap.size) (by rfl))
  clear HF0
  have HF2 := Lib.hid (HF1.out.box #[.int .i64 0, .int .i64 0, .int .i64 0, .string ⟨#[]⟩, .string ⟨#[]⟩, .int .i64 0, .slice none 0 0, .string ⟨#[]⟩, .int .i64 0] 24 (n := w.heap.size + 1) (by simp))
  clear HF1
  refine (eat_not R (a :: t) ⟨#[91, 93]⟩ false _ (HF2.out.blk 2 rfl) N0.out).mono ?_
  rintro e w1 ⟨rfl, hr, ho⟩
  have HF3 := Lib.hid (HF2.out.call 2 ho hr (by refine ⟨?_, ?_, ?_, trivial⟩ <;> (simp only [Fq.apart]; first | omega | (intro b h1 h2; omega) | (intro b h1 h2 h3; omega))))
  have hz1 : w.heap.size + 2 ≤ w1.heap.size := by have := ho.size; first | omega | (simp at this; omega)
  clear HF2 ho hr
  go_wp2_with fail
  refine (eat_not R (a :: t) ⟨#[91]⟩ false _ (HF3.out.blk 0 rfl) N1.out).mono ?_
  rintro e w2 ⟨rfl, hr, ho⟩
  have HF4 := Lib.hid (HF3.out.call 0 ho hr (by refine ⟨?_, ?_, ?_, trivial⟩ <;> (simp only [Fq.apart]; first | omega | (intro b h1 h2; omega) | (intro b h1 h2 h3; omega))))
  have hz2 : w1.heap.size ≤ w2.heap.size := by have := ho.size; first | omega | (simp at this; omega)
  clear HF3 ho hr
  go_wp2_with fail
  refine (eat_not R (a :: t) ⟨#[123]⟩ false _ (HF4.out.blk 0 rfl) N2.out).mono ?_
  rintro e w3 ⟨rfl, hr, ho⟩
  have HF5 := Lib.hid (HF4.out.call 0 ho hr (by refine ⟨?_, ?_, ?_, trivial⟩ <;> (simp only [Fq.apart]; first | omega | (intro b h1 h2; omega) | (intro b h1 h2 h3; omega))))
  have hz3 : w2.heap.size ≤ w3.heap.size := by have := ho.size; first | omega | (simp at this; omega)
  clear HF4 ho hr
  go_wp2_with fail
  refine (eat_not R (a :: t) ⟨#[60, 60]⟩ false _ (HF5.out.blk 0 rfl) N3.out).mono ?_
  rintro e w4 ⟨rfl, hr, ho⟩
  have HF6 := Lib.hid (HF5.out.call 0 ho hr (by refine ⟨?_, ?_, ?_, trivial⟩ <;> (simp only [Fq.apart]; first | omega | (intro b h1 h2; omega) | (intro b h1 h2 h3; omega))))
  have hz4 : w3.heap.size ≤ w4.heap.size := by have := ho.size; first | omega | (simp at this; omega)
  clear HF5 ho hr
  go_wp2_with fail
  refine (eat_not R (a :: t) ⟨#[60]⟩ false _ (HF6.out.blk 0 rfl) N4.out).mono ?_
  rintro e w5 ⟨rfl, hr, ho⟩
  have HF7 := Lib.hid (HF6.out.call 0 ho hr (by refine ⟨?_, ?_, ?_, trivial⟩ <;> (simp only [Fq.apart]; first | omega | (intro b h1 h2; omega) | (intro b h1 h2 h3; omega))))
  have hz5 : w4.heap.size ≤ w5.heap.size := by have := ho.size; first | omega | (simp at this; omega)
  clear HF6 ho hr
  go_wp2_with fail
  refine (eat_not R (a :: t) ⟨#[35, 82, 101, 102, 60]⟩ false _ (HF7.out.blk 0 rfl) N5.out).mono ?_
  rintro e w6 ⟨rfl, hr, ho⟩
  have HF8 := Lib.hid (HF7.out.call 0 ho hr (by refine ⟨?_, ?_, ?_, trivial⟩ <;> (simp only [Fq.apart]; first | omega | (intro b h1 h2; omega) | (intro b h1 h2 h3; omega))))
  have hz6 : w5.heap.size ≤ w6.heap.size := by have := ho.size; first | omega | (simp at this; omega)
  clear HF7 ho hr
  go_wp2_with fail
  refine (eat_not R (a :: t) ⟨#[35, 70, 117, 110, 60]⟩ false _ (HF8.out.blk 0 rfl) N6.out).mono ?_
  rintro e w7 ⟨rfl, hr, ho⟩
  have HF9 := Lib.hid (HF8.out.call 0 ho hr (by refine ⟨?_, ?_, ?_, trivial⟩ <;> (simp only [Fq.apart]; first | omega | (intro b h1 h2; omega) | (intro b h1 h2 h3; omega))))
  have hz7 : w6.heap.size ≤ w7.heap.size := by have := ho.size; first | omega | (simp at this; omega)
  clear HF8 ho hr
  go_wp2_with fail
  refine (eat_not R (a :: t) ⟨#[102, 117, 110, 32]⟩ false _ (HF9.out.blk 0 rfl) N7.out).mono ?_
  rintro e w8 ⟨rfl, hr, ho⟩
  have HF10 := Lib.hid (HF9.out.call 0 ho hr (by refine ⟨?_, ?_, ?_, trivial⟩ <;> (simp only [Fq.apart]; first | omega | (intro b h1 h2; omega) | (intro b h1 h2 h3; omega))))
  have hz8 : w7.heap.size ≤ w8.heap.size := by have := ho.size; first | omega | (simp at this; omega)
  clear HF9 ho hr
  have k0 := cells_of (HF10.out.blk 0 rfl) 0
  have hin := Lib.hid fun W => (in_any a digL (by decide) W).mono fun e w' h => (show e = .returned (.bool false) ∧ w' = W by rw [digL_is a, HD.out] at h; exact h)
  have s1 : (ba (a :: t)).size = t.length + 1 := by rw [ba_size]; rfl
  have h00 : 0 < (ba (a :: t)).size := by omega
  have hX : (ba (a :: t))[0]'h00 = a := rfl
  have k0 : w8.cell? ⟨R, 0, none⟩ = some (.string (ba (a :: t))) := k0
  go_wp2_with fail
  refine (hin.out _).mono ?_
  rintro e W0 ⟨rfl, hw0⟩
  rw [hw0]
  clear hw0
  go_wp2_with fail
  clear k0
  refine (rName_any R (a :: t) false _ (HF10.out.blk 0 rfl) (Nat.le_trans hl (by decide))).mono ?_
  rintro e w9 ⟨rfl, hr, ho⟩
  have HF11 := Lib.hid (HF10.out.call 0 ho hr (by refine ⟨?_, ?_, ?_, trivial⟩ <;> (simp only [Fq.apart]; first | omega | (intro b h1 h2; omega) | (intro b h1 h2 h3; omega))))
  have hz9 : w8.heap.size ≤ w9.heap.size := by have := ho.size; first | omega | (simp at this; omega)
  clear HF10 ho hr
  generalize htw : ba ((a :: t).takeWhile letC) = TX
  have HTW := Lib.hid htw
  clear htw
  go_wp2_with fail
  refine (rAtom_c TX _).mono ?_
  rintro e w10 ⟨rfl, hb⟩
  have HF12 := Lib.hid (HF11.out.below hb)
  clear HF11
  have hz10 : w9.heap.size ≤ w10.heap.size := by have := hb.size; first | omega | (simp at this; omega)
  clear hb
  obtain ⟨c0, c1, c2, c3, c4, c5, c6, c7, c8, fr⟩ := nine_cells (HF12.out.blk 1 rfl)
  obtain ⟨d0, d1, d2, d3, d4, d5, d6, d7, d8, fs⟩ := nine_cells (HF12.out.blk 2 rfl)
  have hb0 := lt_of_block (HF12.out.blk 1 rfl)
  have hb1 := lt_of_block (HF12.out.blk 2 rfl)
  have k1 := cells_of (HF12.out.blk 0 rfl) 1
  have fk := frees_of (HF12.out.blk 0 rfl) 1
  have hb2 := lt_of_block (HF12.out.blk 0 rfl)
  cases he : ((a :: t).takeWhile letC).isEmpty with
  | true =>
    have ht : TX.toList.isEmpty = true := by rw [← HTW.out, ba_toList]; exact he
    have HE := Lib.hid he
    clear he
    go_wp2_with fail
    have HF13 := Lib.hid (HF12.out.put 1 rfl (by refine ⟨?_, ?_, ?_, trivial⟩ <;> (simp only [Fq.apart]; first | omega | (intro b h1 h2; omega) | (intro b h1 h2 h3; omega))) (.int .i64 2) (.int .i64 0) (.int .i64 0) (.string TX) (.string ⟨#[]⟩) (.int .i64 0) (.slice none 0 0) (.string ⟨#[]⟩) (.int .i64 0))
    clear HF12
    have HF14 := Lib.hid (HF13.out.set (c := [.string (ba ((a :: t).dropWhile letC)), .bool (false)]) 1 rfl 1 (.bool true) (by refine ⟨?_, ?_, ?_, trivial⟩ <;> (simp only [Fq.apart]; first | omega | (intro b h1 h2; omega) | (intro b h1 h2 h3; omega))))
    clear HF13
    have HF15 := Lib.hid (HF14.out.put 2 rfl (by refine ⟨?_, ?_, ?_, trivial⟩ <;> (simp only [Fq.apart]; first | omega | (intro b h1 h2; omega) | (intro b h1 h2 h3; omega))) (.int .i64 2) (.int .i64 0) (.int .i64 0) (.string TX) (.string ⟨#[]⟩) (.int .i64 0) (.slice none 0 0) (.string ⟨#[]⟩) (.int .i64 0))
    clear HF14
    refine bodyPost_ret (results_one rfl _ _ _ _ _ _ _ _ _ _ _ _ rfl (HF15.out.blk 0 rfl)) rfl ?_
    exact ⟨atomF TX, .nil, none, 0, (a :: t).dropWhile letC, true, rfl, RdS.nil _ _ _, (HF15.out.blk 1 rfl), (HF15.out.base 3 rfl), dropW_len _ _, (fun _ => rfl), (fun _ => by unfold pPlain; rw [(show digH (a :: t) = false from HD.out)]; simp only [Bool.false_eq_true, if_false, HE.out]; rfl)⟩
  | false =>
    have ht : TX.toList.isEmpty = false := by rw [← HTW.out, ba_toList]; exact he
    have HE := Lib.hid he
    clear he
    go_wp2_with fail
    have HF13 := Lib.hid (HF12.out.put 1 rfl (by refine ⟨?_, ?_, ?_, trivial⟩ <;> (simp only [Fq.apart]; first | omega | (intro b h1 h2; omega) | (intro b h1 h2 h3; omega))) (.int .i64 2) (.int .i64 0) (.int .i64 0) (.string TX) (.string ⟨#[]⟩) (.int .i64 0) (.slice none 0 0) (.string ⟨#[]⟩) (.int .i64 0))
    clear HF12
    have HF14 := Lib.hid (HF13.out.set (c := [.string (ba ((a :: t).dropWhile letC)), .bool (false)]) 1 rfl 1 (.bool false) (by refine ⟨?_, ?_, ?_, trivial⟩ <;> (simp only [Fq.apart]; first | omega | (intro b h1 h2; omega) | (intro b h1 h2 h3; omega))))
    clear HF13
    have HF15 := Lib.hid (HF14.out.put 2 rfl (by refine ⟨?_, ?_, ?_, trivial⟩ <;> (simp only [Fq.apart]; first | omega | (intro b h1 h2; omega) | (intro b h1 h2 h3; omega))) (.int .i64 2) (.int .i64 0) (.int .i64 0) (.string TX) (.string ⟨#[]⟩) (.int .i64 0) (.slice none 0 0) (.string ⟨#[]⟩) (.int .i64 0))
    clear HF14
    refine bodyPost_ret (results_one rfl _ _ _ _ _ _ _ _ _ _ _ _ rfl (HF15.out.blk 0 rfl)) rfl ?_
    exact ⟨atomF TX, .nil, none, 0, (a :: t).dropWhile letC, false, rfl, RdS.nil _ _ _, (HF15.out.blk 1 rfl), (HF15.out.base 3 rfl), dropW_len _ _, (fun h => by cases h), (fun _ => by unfold pPlain; rw [(show digH (a :: t) = false from HD.out), ← HTW.out]; simp only [Bool.false_eq_true, if_false, HE.out]; rfl)⟩
set_option maxRecDepth 100000 in
set_option maxHeartbeats 8000000 in
theorem s_name_b1 (R : Nat) (a : UInt8) (t : List UInt8) (w : World) (hr : Rr R (a :: t) true w) (hl : ((a :: t) : List UInt8).length ≤ 1000000) (n0 : (!true && hp (a :: t) [91, 93]) = false) (n1 : (!true && hp (a :: t) [91]) = false) (n2 : (!true && hp (a :: t) [123]) = false) (n3 : (!true && hp (a :: t) [60, 60]) = false) (n4 : (!true && hp (a :: t) [60]) = false) (n5 : (!true && hp (a :: t) [35, 82, 101, 102, 60]) = false) (n6 : (!true && hp (a :: t) [35, 70, 117, 110, 60]) = false) (n7 : (!true && hp (a :: t) [102, 117, 110, 32]) = false) (hd : digC a = false) :
    Calls Tryz.prog 30 #[.pointer (some ⟨R, 0, none⟩)] w (TQ (pPlain false (a :: t)) R (a :: t) true w) := by
  have hRw : R < w.heap.size := lt_of_block hr
  have N0 := Lib.hid n0
  clear n0
  have N1 := Lib.hid n1
  clear n1
  have N2 := Lib.hid n2
  clear n2
  have N3 := Lib.hid n3
  clear n3
  have N4 := Lib.hid n4
  clear n4
  have N5 := Lib.hid n5
  clear n5
  have N6 := Lib.hid n6
  clear n6
  have N7 := Lib.hid n7
  clear n7
  have HD := Lib.hid hd
  clear hd
  have HF0 := Lib.hid (show Bq w [.blk R #[.string (ba ((a :: t))), .bool (true)] 60, .base (fun b => b = R) w] from ⟨hr, Ch.refl _ _, trivial⟩)
  clear hr
  go_enter Tryz.func30, Tryz.ntmps30
  go_wp2_with fail
  have HF1 := Lib.hid (HF0.out.box #[.int .i64 0, .int .i64 0, .int .i64 0, .string ⟨#[]⟩, .string ⟨#[]⟩, .int .i64 0, .slice none 0 0, .string ⟨#[]⟩, .int .i64 0] 24 (n := w.heap.size) (by rfl))
  clear HF0
  have HF2 := Lib.hid (HF1.out.box #[.int .i64 0, .int .i64 0, .int .i64 0, .string ⟨#[]⟩, .string ⟨#[]⟩, .int .i64 0, .slice none 0 0, .string ⟨#[]⟩, .int .i64 0] 24 (n := w.heap.size + 1) (by simp))
  clear HF1
  refine (eat_not R (a :: t) ⟨#[91, 93]⟩ true _ (HF2.out.blk 2 rfl) N0.out).mono ?_
  rintro e w1 ⟨rfl, hr, ho⟩
  have HF3 := Lib.hid (HF2.out.call 2 ho hr (by refine ⟨?_, ?_, ?_, trivial⟩ <;> (simp only [Fq.apart]; first | omega | (intro b h1 h2; omega) | (intro b h1 h2 h3; omega))))
  have hz1 : w.heap.size + 2 ≤ w1.heap.size := by have := ho.size; first | omega | (simp at this; omega)
  clear HF2 ho hr
  go_wp2_with fail
  refine (eat_not R (a :: t) ⟨#[91]⟩ true _ (HF3.out.blk 0 rfl) N1.out).mono ?_
  rintro e w2 ⟨rfl, hr, ho⟩
  have HF4 := Lib.hid (HF3.out.call 0 ho hr (by refine ⟨?_, ?_, ?_, trivial⟩ <;> (simp only [Fq.apart]; first | omega | (intro b h1 h2; omega) | (intro b h1 h2 h3; omega))))
  have hz2 : w1.heap.size ≤ w2.heap.size := by have := ho.size; first | omega | (simp at this; omega)
  clear HF3 ho hr
  go_wp2_with fail
  refine (eat_not R (a :: t) ⟨#[123]⟩ true _ (HF4.out.blk 0 rfl) N2.out).mono ?_
  rintro e w3 ⟨rfl, hr, ho⟩
  have HF5 := Lib.hid (HF4.out.call 0 ho hr (by refine ⟨?_, ?_, ?_, trivial⟩ <;> (simp only [Fq.apart]; first | omega | (intro b h1 h2; omega) | (intro b h1 h2 h3; omega))))
  have hz3 : w2.heap.size ≤ w3.heap.size := by have := ho.size; first | omega | (simp at this; omega)
  clear HF4 ho hr
  go_wp2_with fail
  refine (eat_not R (a :: t) ⟨#[60, 60]⟩ true _ (HF5.out.blk 0 rfl) N3.out).mono ?_
  rintro e w4 ⟨rfl, hr, ho⟩
  have HF6 := Lib.hid (HF5.out.call 0 ho hr (by refine ⟨?_, ?_, ?_, trivial⟩ <;> (simp only [Fq.apart]; first | omega | (intro b h1 h2; omega) | (intro b h1 h2 h3; omega))))
  have hz4 : w3.heap.size ≤ w4.heap.size := by have := ho.size; first | omega | (simp at this; omega)
  clear HF5 ho hr
  go_wp2_with fail
  refine (eat_not R (a :: t) ⟨#[60]⟩ true _ (HF6.out.blk 0 rfl) N4.out).mono ?_
  rintro e w5 ⟨rfl, hr, ho⟩
  have HF7 := Lib.hid (HF6.out.call 0 ho hr (by refine ⟨?_, ?_, ?_, trivial⟩ <;> (simp only [Fq.apart]; first | omega | (intro b h1 h2; omega) | (intro b h1 h2 h3; omega))))
  have hz5 : w4.heap.size ≤ w5.heap.size := by have := ho.size; first | omega | (simp at this; omega)
  clear HF6 ho hr
  go_wp2_with fail
  refine (eat_not R (a :: t) ⟨#[35, 82, 101, 102, 60]⟩ true _ (HF7.out.blk 0 rfl) N5.out).mono ?_
  rintro e w6 ⟨rfl, hr, ho⟩
  have HF8 := Lib.hid (HF7.out.call 0 ho hr (by refine ⟨?_, ?_, ?_, trivial⟩ <;> (simp only [Fq.apart]; first | omega | (intro b h1 h2; omega) | (intro b h1 h2 h3; omega))))
  have hz6 : w5.heap.size ≤ w6.heap.size := by have := ho.size; first | omega | (simp at this; omega)
  clear HF7 ho hr
  go_wp2_with fail
  refine (eat_not R (a :: t) ⟨#[35, 70, 117, 110, 60]⟩ true _ (HF8.out.blk 0 rfl) N6.out).mono ?_
  rintro e w7 ⟨rfl, hr, ho⟩
  have HF9 := Lib.hid (HF8.out.call 0 ho hr (by refine ⟨?_, ?_, ?_, trivial⟩ <;> (simp only [Fq.apart]; first | omega | (intro b h1 h2; omega) | (intro b h1 h2 h3; omega))))
  have hz7 : w6.heap.size ≤ w7.heap.size := by have := ho.size; first | omega | (simp at this; omega)
  clear HF8 ho hr
  go_wp2_with fail
  refine (eat_not R (a :: t) ⟨#[102, 117, 110, 32]⟩ true _ (HF9.out.blk 0 rfl) N7.out).mono ?_
  rintro e w8 ⟨rfl, hr, ho⟩
  have HF10 := Lib.hid (HF9.out.call 0 ho hr (by refine ⟨?_, ?_, ?_, trivial⟩ <;> (simp only [Fq.apart]; first | omega | (intro b h1 h2; omega) | (intro b h1 h2 h3; omega))))
  have hz8 : w7.heap.size ≤ w8.heap.size := by have := ho.size; first | omega | (simp at this; omega)
  clear HF9 ho hr
  have k0 := cells_of (HF10.out.blk 0 rfl) 0
  have hin := Lib.hid fun W => (in_any a digL (by decide) W).mono fun e w' h => (show e = .returned (.bool false) ∧ w' = W by rw [digL_is a, HD.out] at h; exact h)
  have s1 : (ba (a :: t)).size = t.length + 1 := by rw [ba_size]; rfl
  have h00 : 0 < (ba (a :: t)).size := by omega
  have hX : (ba (a :: t))[0]'h00 = a := rfl
  have k0 : w8.cell? ⟨R, 0, none⟩ = some (.string (ba (a :: t))) := k0
  go_wp2_with fail
  refine (hin.out _).mono ?_
  rintro e W0 ⟨rfl, hw0⟩
  rw [hw0]
  clear hw0
  go_wp2_with fail
  clear k0
  refine (rName_any R (a :: t) true _ (HF10.out.blk 0 rfl) (Nat.le_trans hl (by decide))).mono ?_
  rintro e w9 ⟨rfl, hr, ho⟩
  have HF11 := Lib.hid (HF10.out.call 0 ho hr (by refine ⟨?_, ?_, ?_, trivial⟩ <;> (simp only [Fq.apart]; first | omega | (intro b h1 h2; omega) | (intro b h1 h2 h3; omega))))
  have hz9 : w8.heap.size ≤ w9.heap.size := by have := ho.size; first | omega | (simp at this; omega)
  clear HF10 ho hr
  generalize htw : ba ((a :: t).takeWhile letC) = TX
  have HTW := Lib.hid htw
  clear htw
  go_wp2_with fail
  refine (rAtom_c TX _).mono ?_
  rintro e w10 ⟨rfl, hb⟩
  have HF12 := Lib.hid (HF11.out.below hb)
  clear HF11
  have hz10 : w9.heap.size ≤ w10.heap.size := by have := hb.size; first | omega | (simp at this; omega)
  clear hb
  obtain ⟨c0, c1, c2, c3, c4, c5, c6, c7, c8, fr⟩ := nine_cells (HF12.out.blk 1 rfl)
  obtain ⟨d0, d1, d2, d3, d4, d5, d6, d7, d8, fs⟩ := nine_cells (HF12.out.blk 2 rfl)
  have hb0 := lt_of_block (HF12.out.blk 1 rfl)
  have hb1 := lt_of_block (HF12.out.blk 2 rfl)
  have k1 := cells_of (HF12.out.blk 0 rfl) 1
  have fk := frees_of (HF12.out.blk 0 rfl) 1
  have hb2 := lt_of_block (HF12.out.blk 0 rfl)
  go_wp2_with fail
  have HF13 := Lib.hid (HF12.out.put 1 rfl (by refine ⟨?_, ?_, ?_, trivial⟩ <;> (simp only [Fq.apart]; first | omega | (intro b h1 h2; omega) | (intro b h1 h2 h3; omega))) (.int .i64 2) (.int .i64 0) (.int .i64 0) (.string TX) (.string ⟨#[]⟩) (.int .i64 0) (.slice none 0 0) (.string ⟨#[]⟩) (.int .i64 0))
  clear HF12
  have HF14 := Lib.hid (HF13.out.set (c := [.string (ba ((a :: t).dropWhile letC)), .bool (true)]) 1 rfl 1 (.bool true) (by refine ⟨?_, ?_, ?_, trivial⟩ <;> (simp only [Fq.apart]; first | omega | (intro b h1 h2; omega) | (intro b h1 h2 h3; omega))))
  clear HF13
  have HF15 := Lib.hid (HF14.out.put 2 rfl (by refine ⟨?_, ?_, ?_, trivial⟩ <;> (simp only [Fq.apart]; first | omega | (intro b h1 h2; omega) | (intro b h1 h2 h3; omega))) (.int .i64 2) (.int .i64 0) (.int .i64 0) (.string TX) (.string ⟨#[]⟩) (.int .i64 0) (.slice none 0 0) (.string ⟨#[]⟩) (.int .i64 0))
  clear HF14
  refine bodyPost_ret (results_one rfl _ _ _ _ _ _ _ _ _ _ _ _ rfl (HF15.out.blk 0 rfl)) rfl ?_
  exact ⟨atomF TX, .nil, none, 0, (a :: t).dropWhile letC, true, rfl, RdS.nil _ _ _, (HF15.out.blk 1 rfl), (HF15.out.base 3 rfl), dropW_len _ _, (fun _ => rfl), (fun h => by cases h)⟩
end Go.Proofs.YtgfodedmcjkmaaaGreatDoor
namespace Go.Proofs.YtgfodedmcjkmaaaGreatDoor
open Go.RowKit Go.Proofs.BitsM
theorem conv_byte (w : World) (g : Nat) (c : UInt8) (x : Int) (hg : g = w.heap.size) (hx : x = (c.toNat : Int)) : (convert 45 9 (.slice (some ⟨g, 0, none⟩) 1 1)).run Tryz.prog (w.alloc (.cells #[.int .u8 x] 5 (0, 0))) = .ok (.string (ba [c])) (w.alloc (.cells #[.int .u8 x] 5 (0, 0))) := by
  subst hx hg
  refine run_convert_bytes_back _ _ _ 5 _ _ [c] Tryz.underlying45 Tryz.underlying5 Tryz.underlying9 fun j hj => ?_
  match j, hj with
  | 0, _ => simp [Addr.add]
/-- where the loop stands -/
def SegI (res : Option (List UInt8 × Int × List UInt8)) (acc : List UInt8) (cnt : Int) (s : List UInt8) : Prop :=
  ∃ j', s.length < j' ∧ res = (pSegs false j' s).map fun z => (acc ++ z.1, cnt + z.2.1, z.2.2)
theorem SegI.start {j : Nat} {s : List UInt8} (h : s.length < j) : SegI (pSegs false j s) [] 0 s := by
  refine ⟨j, h, ?_⟩
  cases pSegs false j s with
  | none => rfl
  | some z => simp
theorem SegI.open {res : Option (List UInt8 × Int × List UInt8)} {acc : List UInt8} {cnt : Int} {s : List UInt8} (h : SegI res acc cnt s) : ∃ j', s.length < j' + 1 ∧ res = (pSegs false (j' + 1) s).map fun z => (acc ++ z.1, cnt + z.2.1, z.2.2) := by
  obtain ⟨j', hj, e⟩ := h
  cases j' with
  | zero => exact absurd hj (Nat.not_lt_zero _)
  | succ j' => exact ⟨j', hj, e⟩
theorem SegI.num {res : Option (List UInt8 × Int × List UInt8)} {acc : List UInt8} {cnt : Int} {s : List UInt8} (h : SegI res acc cnt s) (hn : pInt s = none) : res = none := by
  obtain ⟨j', _, e⟩ := h.open
  rw [e, pSegs, hn]; rfl
theorem SegI.many {res : Option (List UInt8 × Int × List UInt8)} {acc : List UInt8} {cnt : Int} {s : List UInt8} {x : Int × List UInt8} (h : SegI res acc cnt s) (hn : pInt s = some x) (hm : pMany false x.2 = none) : res = none := by
  obtain ⟨j', _, e⟩ := h.open
  rw [e, pSegs, hn, Option.bind_some, hm]; rfl
theorem SegI.range {res : Option (List UInt8 × Int × List UInt8)} {acc : List UInt8} {cnt : Int} {s : List UInt8} {x y : Int × List UInt8} (h : SegI res acc cnt s) (hn : pInt s = some x) (hm : pMany false x.2 = some y) (ho : okSeg false x.1 y.1 = false) : res = none := by
  obtain ⟨j', _, e⟩ := h.open
  rw [e, pSegs, hn, Option.bind_some, hm, Option.bind_some, ho]; rfl
theorem SegI.stop {res : Option (List UInt8 × Int × List UInt8)} {acc : List UInt8} {cnt : Int} {s : List UInt8} {x y : Int × List UInt8} (h : SegI res acc cnt s) (hn : pInt s = some x) (hm : pMany false x.2 = some y) (ho : okSeg false x.1 y.1 = true) (hc : hp y.2 [44] = false) : res = some (acc ++ [segB x.1 y.1], cnt + y.1, y.2) := by
  obtain ⟨j', _, e⟩ := h.open
  rw [e, pSegs, hn, Option.bind_some, hm, Option.bind_some, if_pos ho, hc]; rfl
theorem SegI.next {res : Option (List UInt8 × Int × List UInt8)} {acc : List UInt8} {cnt : Int} {s : List UInt8} {x y : Int × List UInt8} (h : SegI res acc cnt s) (hn : pInt s = some x) (hm : pMany false x.2 = some y) (ho : okSeg false x.1 y.1 = true) (hc : hp y.2 [44] = true) : SegI res (acc ++ [segB x.1 y.1]) (cnt + y.1) (y.2.drop 1) := by
  obtain ⟨j', hj, e⟩ := h.open
  have a := int_len hn
  have b := many_len hm
  have c := hp_len hc
  simp only [List.length_cons, List.length_nil] at c
  refine ⟨j', by rw [List.length_drop]; omega, ?_⟩
  rw [e, pSegs, hn, Option.bind_some, hm, Option.bind_some, if_pos ho, if_pos hc]
  cases pSegs false j' (y.2.drop 1) with
  | none => rfl
  | some z => simp [Int.add_assoc]
theorem many_eight {s : List UInt8} (h : hp s [58] = false) : pMany false s = some (8, s) := by
  unfold pMany; rw [h]; rfl
theorem many_of {s : List UInt8} {n : Int} {x : Bool} (h : hp s [58] = true) (hn : readN ((s.drop 1).takeWhile digC) = if x then none else some n) : pMany false s = if x then none else some (n, (s.drop 1).dropWhile digC) := by
  unfold pMany; rw [if_pos h, pInt_of hn]; cases x <;> rfl
theorem okSeg_false (v m : Int) : okSeg false v m = (decide (0 ≤ v) && (decide (v ≤ 255) && decide (1 ≤ m) && decide (m ≤ 8))) := rfl
theorem segB_val {v m : Nat} : segB (v : Int) (m : Int) = UInt8.ofNat (v * 2 ^ (8 - m)) := by
  unfold segB; rw [Int.toNat_natCast, Int.toNat_natCast]
def BitsQ (o : Option (Fd × List UInt8)) (R : Nat) (l : List UInt8) (w : World) (e : Ending) (w' : World) : Prop :=
  ∃ (acc : List UInt8) (n : Int) (l' : List UInt8) (b' : Bool), e = .returned (.agg #[.int .i64 10, .int .i64 0, .int .i64 0, .string ⟨#[]⟩, .string ⟨#[]⟩, .int .i64 0, .slice none 0 0, .string (ba acc), .int .i64 n]) ∧ Rr R l' b' w' ∧ Ch (fun b => b = R) w w' ∧ l'.length ≤ l.length ∧ o = if b' then none else some (bitF acc n, l')
theorem rbits_no {j : Nat} {l : List UInt8} {b : Bool} {x : Fd × List UInt8} (h0 : hp l [62, 62] = false) (h : pSegs false j l = none) (hb : b = true) : pBits false j l = if b then none else some x := by
  subst hb; unfold pBits; rw [h0, h]; rfl
theorem rbits_yes {j : Nat} {l acc s : List UInt8} {n : Int} (h0 : hp l [62, 62] = false) (h : pSegs false j l = some (acc, n, s)) : pBits false j l = if mB false s [62, 62] then none else some (bitF acc n, mL false s [62, 62]) := by
  unfold pBits; rw [h0, h]
  simp only [Bool.false_eq_true, if_false, Option.bind_some]
  rw [m_false]
  cases mB false s [62, 62] <;> rfl
theorem rbits_end {j : Nat} {l : List UInt8} (h0 : hp l [62, 62] = true) : pBits false j l = some (bitF [] 0, l.drop 2) := by
  unfold pBits pMust; rw [if_pos h0, Option.bind_some, if_pos h0]; rfl
theorem leftLen_r2 {R : Nat} {s : List UInt8} {b : Bool} {w : World} (h : Rr R s b w) : leftLen R w = s.length := leftLen_r h
set_option maxRecDepth 100000 in
set_option maxHeartbeats 8000000 in
theorem rBits_any (R : Nat) (l : List UInt8) (j : Nat) (w : World) (hr : Rr R l false w) (hl : l.length ≤ 1000000) (hj : l.length < j) :
    Calls Tryz.prog 56 #[.pointer (some ⟨R, 0, none⟩)] w (BitsQ (pBits false j l) R l w) := by
  have hRw : R < w.heap.size := lt_of_block hr
  have HF0 := Lib.hid (show Bq w [.blk R #[.string (ba (l)), .bool (false)] 60, .base (fun b => b = R) w] from ⟨hr, Ch.refl _ _, trivial⟩)
  clear hr
  go_enter Tryz.func56, Tryz.ntmps56
  go_wp2_with fail
  have HF1 := Lib.hid (HF0.out.box #[.int .i64 0, .int .i64 0, .int .i64 0, .string ⟨#[]⟩, .string ⟨#[]⟩, .int .i64 0, .slice none 0 0, .string ⟨#[]⟩, .int .i64 0] 24 (n := w.heap.size) (by rfl))
  clear HF0
  have HF2 := Lib.hid (HF1.out.box #[.int .i64 10, .int .i64 0, .int .i64 0, .string ⟨#[]⟩, .string ⟨#[]⟩, .int .i64 0, .slice none 0 0, .string ⟨#[]⟩, .int .i64 0] 24 (n := w.heap.size + 1) (by simp))
  clear HF1
  cases hh : hp l [62, 62] with
  | true =>
    refine (eat_yes2 R l ⟨#[62, 62]⟩ _ (HF2.out.blk 2 rfl) hh).mono ?_
    rintro e w1 ⟨rfl, hr, ho⟩
    have HF3 := Lib.hid (HF2.out.call 2 ho hr (by refine ⟨?_, ?_, ?_, trivial⟩ <;> (simp only [Fq.apart]; first | omega | (intro b h1 h2; omega) | (intro b h1 h2 h3; omega))))
    have hz1 : w.heap.size + 2 ≤ w1.heap.size := by have := ho.size; first | omega | (simp at this; omega)
    clear HF2 ho hr
    have HH := Lib.hid hh
    clear hh
    obtain ⟨d0, d1, d2, d3, d4, d5, d6, d7, d8, fs⟩ := nine_cells (HF3.out.blk 2 rfl)
    obtain ⟨c0, c1, c2, c3, c4, c5, c6, c7, c8, -⟩ := nine_cells (HF3.out.blk 1 rfl)
    have hb1 := lt_of_block (HF3.out.blk 2 rfl)
    go_wp2_with fail
    have HF4 := Lib.hid (HF3.out.put 2 rfl (by refine ⟨?_, ?_, ?_, trivial⟩ <;> (simp only [Fq.apart]; first | omega | (intro b h1 h2; omega) | (intro b h1 h2 h3; omega))) (.int .i64 10) (.int .i64 0) (.int .i64 0) (.string ⟨#[]⟩) (.string ⟨#[]⟩) (.int .i64 0) (.slice none 0 0) (.string ⟨#[]⟩) (.int .i64 0))
    clear HF3
    refine bodyPost_ret (results_one rfl _ _ _ _ _ _ _ _ _ _ _ _ rfl (HF4.out.blk 0 rfl)) rfl ?_
    exact ⟨[], 0, l.drop 2, false, rfl, (HF4.out.blk 1 rfl), (HF4.out.base 3 rfl), by rw [List.length_drop]; omega, rbits_end HH.out⟩
  | false =>
    refine (eat_not R l ⟨#[62, 62]⟩ false _ (HF2.out.blk 2 rfl) (by exact hh)).mono ?_
    rintro e w1 ⟨rfl, hr, ho⟩
    have HF3 := Lib.hid (HF2.out.call 2 ho hr (by refine ⟨?_, ?_, ?_, trivial⟩ <;> (simp only [Fq.apart]; first | omega | (intro b h1 h2; omega) | (intro b h1 h2 h3; omega))))
    have hz1 : w.heap.size + 2 ≤ w1.heap.size := by have := ho.size; first | omega | (simp at this; omega)
    clear HF2 ho hr
    have HH := Lib.hid hh
    clear hh
    have HS0 := Lib.hid (SegI.start hj)
    generalize hm0 : pSegs false j l = m0 at HS0
    have HM0 := Lib.hid hm0
    clear hm0 hj
    go_wp2_with fail
    go_loopw [] (fun wr => ∃ (acc s : List UInt8) (cnt : Int), 0 ≤ cnt ∧ cnt ≤ 8 * (acc.length : Int) ∧ acc.length + s.length ≤ l.length ∧ Hid (SegI m0 acc cnt s) ∧ Hid (Bq wr [.blk R #[.string (ba (s)), .bool (false)] 60, .blk (w.heap.size + 1) #[.int .i64 10, .int .i64 0, .int .i64 0, .string ⟨#[]⟩, .string ⟨#[]⟩, .int .i64 0, .slice none 0 0, .string (ba (acc)), .int .i64 (cnt)] 24, .blk w.heap.size #[.int .i64 0, .int .i64 0, .int .i64 0, .string ⟨#[]⟩, .string ⟨#[]⟩, .int .i64 0, .slice none 0 0, .string ⟨#[]⟩, .int .i64 0] 24, .base (fun b => b = R) w])) (fun wr => leftLen R wr)
    case atStart => exact ⟨[], l, 0, by omega, by simp, by simp, HS0, Lib.hid ⟨(HF3.out.blk 0 rfl), (HF3.out.blk 1 rfl), (HF3.out.blk 2 rfl), (HF3.out.base 3 rfl), trivial⟩⟩
    case round =>
      obtain ⟨acc, s, cnt, hc0, hc1, hal, HS, HW⟩ := hrel
      clear HS0 HF3
      have hzr : w.heap.size + 1 < wr.heap.size := lt_of_block (HW.out.blk 1 rfl)
      have hlen := leftLen_r2 (HW.out.blk 0 rfl)
      have k1 := cells_of (HW.out.blk 0 rfl) 1
      go_wp2_with fail
      refine (rNumber_any R s false _ (HW.out.blk 0 rfl) (by omega)).mono ?_
      rintro e w1 ⟨v, x, rfl, hg, hn, hr, ho⟩
      have HF1 := Lib.hid (HW.out.call 0 ho hr (by refine ⟨?_, ?_, ?_, trivial⟩ <;> (simp only [Fq.apart]; first | omega | (intro b h1 h2; omega) | (intro b h1 h2 h3; omega))))
      have hz1 : wr.heap.size ≤ w1.heap.size := by have := ho.size; first | omega | (simp at this; omega)
      clear HW ho hr
      have HN1 := Lib.hid hn
      have HG1 := Lib.hid hg
      clear hn hg k1
      have hd1 := dropW_len digC s
      cases x with
      | true =>
        have HX0 := Lib.hid (HS.out.num (by rw [pInt_of HN1.out]; rfl))
        clear HS HN1
        go_wp2_with fail
        refine (eat_not R (s.dropWhile digC) ⟨#[58]⟩ true _ (HF1.out.blk 0 rfl) rfl).mono ?_
        rintro e w2 ⟨rfl, hr, ho⟩
        have HF2 := Lib.hid (HF1.out.call 0 ho hr (by refine ⟨?_, ?_, ?_, trivial⟩ <;> (simp only [Fq.apart]; first | omega | (intro b h1 h2; omega) | (intro b h1 h2 h3; omega))))
        have hz2 : w1.heap.size ≤ w2.heap.size := by have := ho.size; first | omega | (simp at this; omega)
        clear HF1 ho hr
        have HGv := HG1.out
        have HD2 := Lib.hid (show (s.dropWhile digC).length ≤ s.length from hd1)
        by_cases t0 : v < 0
        · have fr := frees_of (HF2.out.blk 0 rfl) 1
          have k1 := cells_of (HF2.out.blk 0 rfl) 1
          go_wp2_with fail
          all_goals (try (exfalso; omega))
          clear k1 fr
          have HF3 := Lib.hid (HF2.out.set (c := [.string (ba (s.dropWhile digC)), .bool (true)]) 0 rfl 1 (.bool true) (by refine ⟨?_, ?_, ?_, trivial⟩ <;> (simp only [Fq.apart]; first | omega | (intro b h1 h2; omega) | (intro b h1 h2 h3; omega))))
          clear HF2
          refine (rMust_m R (s.dropWhile digC) ⟨#[62, 62]⟩ true _ (HF3.out.blk 0 rfl)).mono ?_
          rintro e w3 ⟨rfl, hr, ho⟩
          have HF4 := Lib.hid (HF3.out.call 0 ho hr (by refine ⟨?_, ?_, ?_, trivial⟩ <;> (simp only [Fq.apart]; first | omega | (intro b h1 h2; omega) | (intro b h1 h2 h3; omega))))
          have hz3 : w2.heap.size ≤ w3.heap.size := by have := ho.size; first | omega | (simp at this; omega)
          clear HF3 ho hr
          obtain ⟨d0, d1, d2, d3, d4, d5, d6, d7, d8, fs⟩ := nine_cells (HF4.out.blk 2 rfl)
          obtain ⟨c0, c1, c2, c3, c4, c5, c6, c7, c8, -⟩ := nine_cells (HF4.out.blk 1 rfl)
          have hb1 := lt_of_block (HF4.out.blk 2 rfl)
          go_wp2_with fail
          have HF5 := Lib.hid (HF4.out.put 2 rfl (by refine ⟨?_, ?_, ?_, trivial⟩ <;> (simp only [Fq.apart]; first | omega | (intro b h1 h2; omega) | (intro b h1 h2 h3; omega))) (.int .i64 10) (.int .i64 0) (.int .i64 0) (.string ⟨#[]⟩) (.string ⟨#[]⟩) (.int .i64 0) (.slice none 0 0) (.string (ba (acc))) (.int .i64 (cnt)))
          clear HF4
          refine bodyPost_ret (results_one rfl _ _ _ _ _ _ _ _ _ _ _ _ rfl (HF5.out.blk 0 rfl)) rfl ?_
          exact ⟨acc, cnt, mL true (s.dropWhile digC) [62, 62], mB true (s.dropWhile digC) [62, 62], rfl, (HF5.out.blk 1 rfl), (HF5.out.base 3 rfl), Nat.le_trans (mL_len _ _ _) (Nat.le_trans HD2.out (by omega)), rbits_no HH.out (HM0.out.trans (HX0.out)) rfl⟩
        · skip
          by_cases t1 : 255 < v
          · have fr := frees_of (HF2.out.blk 0 rfl) 1
            have k1 := cells_of (HF2.out.blk 0 rfl) 1
            go_wp2_with fail
            all_goals (try (exfalso; omega))
            clear k1 fr
            have HF3 := Lib.hid (HF2.out.set (c := [.string (ba (s.dropWhile digC)), .bool (true)]) 0 rfl 1 (.bool true) (by refine ⟨?_, ?_, ?_, trivial⟩ <;> (simp only [Fq.apart]; first | omega | (intro b h1 h2; omega) | (intro b h1 h2 h3; omega))))
            clear HF2
            refine (rMust_m R (s.dropWhile digC) ⟨#[62, 62]⟩ true _ (HF3.out.blk 0 rfl)).mono ?_
            rintro e w3 ⟨rfl, hr, ho⟩
            have HF4 := Lib.hid (HF3.out.call 0 ho hr (by refine ⟨?_, ?_, ?_, trivial⟩ <;> (simp only [Fq.apart]; first | omega | (intro b h1 h2; omega) | (intro b h1 h2 h3; omega))))
            have hz3 : w2.heap.size ≤ w3.heap.size := by have := ho.size; first | omega | (simp at this; omega)
            clear HF3 ho hr
            obtain ⟨d0, d1, d2, d3, d4, d5, d6, d7, d8, fs⟩ := nine_cells (HF4.out.blk 2 rfl)
            obtain ⟨c0, c1, c2, c3, c4, c5, c6, c7, c8, -⟩ := nine_cells (HF4.out.blk 1 rfl)
            have hb1 := lt_of_block (HF4.out.blk 2 rfl)
            go_wp2_with fail
            have HF5 := Lib.hid (HF4.out.put 2 rfl (by refine ⟨?_, ?_, ?_, trivial⟩ <;> (simp only [Fq.apart]; first | omega | (intro b h1 h2; omega) | (intro b h1 h2 h3; omega))) (.int .i64 10) (.int .i64 0) (.int .i64 0) (.string ⟨#[]⟩) (.string ⟨#[]⟩) (.int .i64 0) (.slice none 0 0) (.string (ba (acc))) (.int .i64 (cnt)))
            clear HF4
            refine bodyPost_ret (results_one rfl _ _ _ _ _ _ _ _ _ _ _ _ rfl (HF5.out.blk 0 rfl)) rfl ?_
            exact ⟨acc, cnt, mL true (s.dropWhile digC) [62, 62], mB true (s.dropWhile digC) [62, 62], rfl, (HF5.out.blk 1 rfl), (HF5.out.base 3 rfl), Nat.le_trans (mL_len _ _ _) (Nat.le_trans HD2.out (by omega)), rbits_no HH.out (HM0.out.trans (HX0.out)) rfl⟩
          · skip
            obtain ⟨vn, hvn⟩ : ∃ vn : Nat, v = (vn : Int) := ⟨v.toNat, by omega⟩
            subst hvn
            have tv : vn ≤ 255 := by omega
            go_wp2_with fail
            all_goals (try (exfalso; omega))
            go_loopw [4, 6] (fun nv kv wz => ∃ (k q : Nat), 8 ≤ k ∧ k ≤ 8 ∧ nv = .int .i64 (q : Int) ∧ kv = .int .i64 (k : Int) ∧ Hid (q = vn * 2 ^ (k - 8)) ∧ wz = w2) (fun _ kv _ => 8 - (intOf kv).toNat)
            case atStart => exact ⟨8, vn, by omega, by omega, rfl, by go_num, Lib.hid (by rw [Nat.sub_self]; simp), rfl⟩
            case round =>
              obtain ⟨k, q, hk1, hk2, rfl, rfl, HQ, rfl⟩ := hrel
              by_cases hk : k < 8
              · have xk : (k : Int) < 8 := by omega
                have hq : q ≤ 255 * 2 ^ (k - 8) := by rw [HQ.out]; exact Nat.mul_le_mul_right _ tv
                have hq2 : 2 ^ (k - 8) ≤ 2 ^ 8 := Nat.pow_le_pow_right (by omega) (by omega)
                have hq3 : q ≤ 65280 := Nat.le_trans hq (Nat.le_trans (Nat.mul_le_mul_left 255 hq2) (by decide))
                clear hq hq2
                go_wp2_with fail
                go_roundw
                case rel => exact ⟨k + 1, q * 2, by omega, by omega, by go_num, by go_num, Lib.hid (by rw [HQ.out, Nat.mul_assoc, ← Nat.pow_succ]; congr 2; omega), trivial⟩
                case measure => simp only [intOf]; omega
              · have xk : ¬ (k : Int) < 8 := by omega
                obtain rfl : k = 8 := by omega
                have hq : q ≤ 255 * 2 ^ (8 - 8) := by rw [HQ.out]; exact Nat.mul_le_mul_right _ tv
                have hq2 : 2 ^ (8 - 8) ≤ 2 ^ 8 := Nat.pow_le_pow_right (by omega) (by omega)
                have hq3 : q ≤ 65280 := Nat.le_trans hq (Nat.le_trans (Nat.mul_le_mul_left 255 hq2) (by decide))
                clear hq hq2
                obtain ⟨c, hcb⟩ : ∃ c : UInt8, c = UInt8.ofNat q := ⟨_, rfl⟩
                have hcv : (c.toNat : Int) = (q : Int) % 256 := by rw [hcb, UInt8.toNat_ofNat']; omega
                have HC := Lib.hid (show c = segB (vn : Int) 8 from by rw [hcb, HQ.out]; exact (segB_val (m := 8)).symm)
                have HCV := Lib.hid hcv
                clear hcb hcv HQ
                obtain ⟨c0, c1, c2, c3, c4, c5, c6, c7, c8, fr⟩ := nine_cells (HF2.out.blk 1 rfl)
                have hb0 := lt_of_block (HF2.out.blk 1 rfl)
                go_wp2_with fail
                rw [conv_byte _ _ c _ (by simp) HCV.out.symm]
                simp only [Result.andThen]
                rw [Oper.upon_value]
                have q1 : (ba acc).size = acc.length := ba_size _
                have q2 : (ba [c]).size = 1 := rfl
                have q3 : ¬ (9223372036854775807 < acc.length + 1) := by omega
                have q4 : ba acc ++ ba [c] = ba (acc ++ [c]) := ba_app _ _
                go_wp2_with fail
                clear c0 c1 c2 c3 c4 c5 c6 c7 c8 fr hb0
                have HF3 := Lib.hid (HF2.out.set (c := [.int .i64 10, .int .i64 0, .int .i64 0, .string ⟨#[]⟩, .string ⟨#[]⟩, .int .i64 0, .slice none 0 0, .string (ba (acc)), .int .i64 (cnt)]) 1 rfl 8 (.int .i64 (cnt + 8)) (by refine ⟨?_, ?_, ?_, trivial⟩ <;> (simp only [Fq.apart]; first | omega | (intro b h1 h2; omega) | (intro b h1 h2 h3; omega))))
                clear HF2
                have HF4 := Lib.hid (HF3.out.set (c := [.int .i64 10, .int .i64 0, .int .i64 0, .string ⟨#[]⟩, .string ⟨#[]⟩, .int .i64 0, .slice none 0 0, .string (ba (acc)), .int .i64 (cnt + 8)]) 0 rfl 7 (.string (ba (acc ++ [c]))) (by refine ⟨?_, ?_, ?_, trivial⟩ <;> (simp only [Fq.apart]; first | omega | (intro b h1 h2; omega) | (intro b h1 h2 h3; omega))))
                clear HF3
                have HF5 := Lib.hid (HF4.out.alloc (.cells #[.int .u8 ((q : Int) % 256)] 5 (0, 0)))
                clear HF4
                refine (eat_not R (s.dropWhile digC) ⟨#[44]⟩ true _ (HF5.out.blk 1 rfl) rfl).mono ?_
                rintro e w3 ⟨rfl, hr, ho⟩
                have HF6 := Lib.hid (HF5.out.call 1 ho hr (by refine ⟨?_, ?_, ?_, trivial⟩ <;> (simp only [Fq.apart]; first | omega | (intro b h1 h2; omega) | (intro b h1 h2 h3; omega))))
                have hz3 : wr.heap.size + 1 ≤ w3.heap.size := by have := ho.size; first | omega | (simp at this; omega)
                clear HF5 ho hr
                go_wp2_with fail
                refine (rMust_m R (s.dropWhile digC) ⟨#[62, 62]⟩ true _ (HF6.out.blk 0 rfl)).mono ?_
                rintro e w4 ⟨rfl, hr, ho⟩
                have HF7 := Lib.hid (HF6.out.call 0 ho hr (by refine ⟨?_, ?_, ?_, trivial⟩ <;> (simp only [Fq.apart]; first | omega | (intro b h1 h2; omega) | (intro b h1 h2 h3; omega))))
                have hz4 : w3.heap.size ≤ w4.heap.size := by have := ho.size; first | omega | (simp at this; omega)
                clear HF6 ho hr
                obtain ⟨d0, d1, d2, d3, d4, d5, d6, d7, d8, fs⟩ := nine_cells (HF7.out.blk 2 rfl)
                obtain ⟨c0, c1, c2, c3, c4, c5, c6, c7, c8, -⟩ := nine_cells (HF7.out.blk 1 rfl)
                have hb1 := lt_of_block (HF7.out.blk 2 rfl)
                go_wp2_with fail
                have HF8 := Lib.hid (HF7.out.put 2 rfl (by refine ⟨?_, ?_, ?_, trivial⟩ <;> (simp only [Fq.apart]; first | omega | (intro b h1 h2; omega) | (intro b h1 h2 h3; omega))) (.int .i64 10) (.int .i64 0) (.int .i64 0) (.string ⟨#[]⟩) (.string ⟨#[]⟩) (.int .i64 0) (.slice none 0 0) (.string (ba ((acc ++ [c])))) (.int .i64 ((cnt + 8))))
                clear HF7
                refine bodyPost_ret (results_one rfl _ _ _ _ _ _ _ _ _ _ _ _ rfl (HF8.out.blk 0 rfl)) rfl ?_
                exact ⟨(acc ++ [c]), (cnt + 8), mL true (s.dropWhile digC) [62, 62], mB true (s.dropWhile digC) [62, 62], rfl, (HF8.out.blk 1 rfl), (HF8.out.base 3 rfl), Nat.le_trans (mL_len _ _ _) (Nat.le_trans HD2.out (by omega)), rbits_no HH.out (HM0.out.trans (HX0.out)) rfl⟩
      | false =>
        have H1 := Lib.hid (show pInt s = some (v, s.dropWhile digC) from by rw [pInt_of HN1.out]; rfl)
        clear HN1
        go_wp2_with fail
        cases h58 : hp (s.dropWhile digC) [58] with
        | false =>
          refine (eat_not R (s.dropWhile digC) ⟨#[58]⟩ false _ (HF1.out.blk 0 rfl) (by exact h58)).mono ?_
          rintro e w2 ⟨rfl, hr, ho⟩
          have HF2 := Lib.hid (HF1.out.call 0 ho hr (by refine ⟨?_, ?_, ?_, trivial⟩ <;> (simp only [Fq.apart]; first | omega | (intro b h1 h2; omega) | (intro b h1 h2 h3; omega))))
          have hz2 : w1.heap.size ≤ w2.heap.size := by have := ho.size; first | omega | (simp at this; omega)
          clear HF1 ho hr
          have H2 := Lib.hid (many_eight h58)
          clear h58
          have HGv := HG1.out
          have HD2 := Lib.hid (show (s.dropWhile digC).length ≤ s.length from hd1)
          by_cases t0 : v < 0
          · have HX := Lib.hid (HS.out.range H1.out H2.out (by simp only [okSeg_false, Bool.and_eq_false_iff, decide_eq_false_iff_not]; omega))
            have fr := frees_of (HF2.out.blk 0 rfl) 1
            have k1 := cells_of (HF2.out.blk 0 rfl) 1
            go_wp2_with fail
            all_goals (try (exfalso; omega))
            clear k1 fr
            have HF3 := Lib.hid (HF2.out.set (c := [.string (ba (s.dropWhile digC)), .bool (false)]) 0 rfl 1 (.bool true) (by refine ⟨?_, ?_, ?_, trivial⟩ <;> (simp only [Fq.apart]; first | omega | (intro b h1 h2; omega) | (intro b h1 h2 h3; omega))))
            clear HF2
            refine (rMust_m R (s.dropWhile digC) ⟨#[62, 62]⟩ true _ (HF3.out.blk 0 rfl)).mono ?_
            rintro e w3 ⟨rfl, hr, ho⟩
            have HF4 := Lib.hid (HF3.out.call 0 ho hr (by refine ⟨?_, ?_, ?_, trivial⟩ <;> (simp only [Fq.apart]; first | omega | (intro b h1 h2; omega) | (intro b h1 h2 h3; omega))))
            have hz3 : w2.heap.size ≤ w3.heap.size := by have := ho.size; first | omega | (simp at this; omega)
            clear HF3 ho hr
            obtain ⟨d0, d1, d2, d3, d4, d5, d6, d7, d8, fs⟩ := nine_cells (HF4.out.blk 2 rfl)
            obtain ⟨c0, c1, c2, c3, c4, c5, c6, c7, c8, -⟩ := nine_cells (HF4.out.blk 1 rfl)
            have hb1 := lt_of_block (HF4.out.blk 2 rfl)
            go_wp2_with fail
            have HF5 := Lib.hid (HF4.out.put 2 rfl (by refine ⟨?_, ?_, ?_, trivial⟩ <;> (simp only [Fq.apart]; first | omega | (intro b h1 h2; omega) | (intro b h1 h2 h3; omega))) (.int .i64 10) (.int .i64 0) (.int .i64 0) (.string ⟨#[]⟩) (.string ⟨#[]⟩) (.int .i64 0) (.slice none 0 0) (.string (ba (acc))) (.int .i64 (cnt)))
            clear HF4
            refine bodyPost_ret (results_one rfl _ _ _ _ _ _ _ _ _ _ _ _ rfl (HF5.out.blk 0 rfl)) rfl ?_
            exact ⟨acc, cnt, mL true (s.dropWhile digC) [62, 62], mB true (s.dropWhile digC) [62, 62], rfl, (HF5.out.blk 1 rfl), (HF5.out.base 3 rfl), Nat.le_trans (mL_len _ _ _) (Nat.le_trans HD2.out (by omega)), rbits_no HH.out (HM0.out.trans (HX.out)) rfl⟩
          · skip
            by_cases t1 : 255 < v
            · have HX := Lib.hid (HS.out.range H1.out H2.out (by simp only [okSeg_false, Bool.and_eq_false_iff, decide_eq_false_iff_not]; omega))
              have fr := frees_of (HF2.out.blk 0 rfl) 1
              have k1 := cells_of (HF2.out.blk 0 rfl) 1
              go_wp2_with fail
              all_goals (try (exfalso; omega))
              clear k1 fr
              have HF3 := Lib.hid (HF2.out.set (c := [.string (ba (s.dropWhile digC)), .bool (false)]) 0 rfl 1 (.bool true) (by refine ⟨?_, ?_, ?_, trivial⟩ <;> (simp only [Fq.apart]; first | omega | (intro b h1 h2; omega) | (intro b h1 h2 h3; omega))))
              clear HF2
              refine (rMust_m R (s.dropWhile digC) ⟨#[62, 62]⟩ true _ (HF3.out.blk 0 rfl)).mono ?_
              rintro e w3 ⟨rfl, hr, ho⟩
              have HF4 := Lib.hid (HF3.out.call 0 ho hr (by refine ⟨?_, ?_, ?_, trivial⟩ <;> (simp only [Fq.apart]; first | omega | (intro b h1 h2; omega) | (intro b h1 h2 h3; omega))))
              have hz3 : w2.heap.size ≤ w3.heap.size := by have := ho.size; first | omega | (simp at this; omega)
              clear HF3 ho hr
              obtain ⟨d0, d1, d2, d3, d4, d5, d6, d7, d8, fs⟩ := nine_cells (HF4.out.blk 2 rfl)
              obtain ⟨c0, c1, c2, c3, c4, c5, c6, c7, c8, -⟩ := nine_cells (HF4.out.blk 1 rfl)
              have hb1 := lt_of_block (HF4.out.blk 2 rfl)
              go_wp2_with fail
              have HF5 := Lib.hid (HF4.out.put 2 rfl (by refine ⟨?_, ?_, ?_, trivial⟩ <;> (simp only [Fq.apart]; first | omega | (intro b h1 h2; omega) | (intro b h1 h2 h3; omega))) (.int .i64 10) (.int .i64 0) (.int .i64 0) (.string ⟨#[]⟩) (.string ⟨#[]⟩) (.int .i64 0) (.slice none 0 0) (.string (ba (acc))) (.int .i64 (cnt)))
              clear HF4
              refine bodyPost_ret (results_one rfl _ _ _ _ _ _ _ _ _ _ _ _ rfl (HF5.out.blk 0 rfl)) rfl ?_
              exact ⟨acc, cnt, mL true (s.dropWhile digC) [62, 62], mB true (s.dropWhile digC) [62, 62], rfl, (HF5.out.blk 1 rfl), (HF5.out.base 3 rfl), Nat.le_trans (mL_len _ _ _) (Nat.le_trans HD2.out (by omega)), rbits_no HH.out (HM0.out.trans (HX.out)) rfl⟩
            · skip
              obtain ⟨vn, hvn⟩ : ∃ vn : Nat, v = (vn : Int) := ⟨v.toNat, by omega⟩
              have HOK := Lib.hid (show okSeg false v 8 = true from by rw [okSeg_false]; simp only [Bool.and_eq_true, decide_eq_true_eq]; omega)
              subst hvn
              have tv : vn ≤ 255 := by omega
              go_wp2_with fail
              all_goals (try (exfalso; omega))
              go_loopw [4, 6] (fun nv kv wz => ∃ (k q : Nat), 8 ≤ k ∧ k ≤ 8 ∧ nv = .int .i64 (q : Int) ∧ kv = .int .i64 (k : Int) ∧ Hid (q = vn * 2 ^ (k - 8)) ∧ wz = w2) (fun _ kv _ => 8 - (intOf kv).toNat)
              case atStart => exact ⟨8, vn, by omega, by omega, rfl, by go_num, Lib.hid (by rw [Nat.sub_self]; simp), rfl⟩
              case round =>
                obtain ⟨k, q, hk1, hk2, rfl, rfl, HQ, rfl⟩ := hrel
                by_cases hk : k < 8
                · have xk : (k : Int) < 8 := by omega
                  have hq : q ≤ 255 * 2 ^ (k - 8) := by rw [HQ.out]; exact Nat.mul_le_mul_right _ tv
                  have hq2 : 2 ^ (k - 8) ≤ 2 ^ 8 := Nat.pow_le_pow_right (by omega) (by omega)
                  have hq3 : q ≤ 65280 := Nat.le_trans hq (Nat.le_trans (Nat.mul_le_mul_left 255 hq2) (by decide))
                  clear hq hq2
                  go_wp2_with fail
                  go_roundw
                  case rel => exact ⟨k + 1, q * 2, by omega, by omega, by go_num, by go_num, Lib.hid (by rw [HQ.out, Nat.mul_assoc, ← Nat.pow_succ]; congr 2; omega), trivial⟩
                  case measure => simp only [intOf]; omega
                · have xk : ¬ (k : Int) < 8 := by omega
                  obtain rfl : k = 8 := by omega
                  have hq : q ≤ 255 * 2 ^ (8 - 8) := by rw [HQ.out]; exact Nat.mul_le_mul_right _ tv
                  have hq2 : 2 ^ (8 - 8) ≤ 2 ^ 8 := Nat.pow_le_pow_right (by omega) (by omega)
                  have hq3 : q ≤ 65280 := Nat.le_trans hq (Nat.le_trans (Nat.mul_le_mul_left 255 hq2) (by decide))
                  clear hq hq2
                  obtain ⟨c, hcb⟩ : ∃ c : UInt8, c = UInt8.ofNat q := ⟨_, rfl⟩
                  have hcv : (c.toNat : Int) = (q : Int) % 256 := by rw [hcb, UInt8.toNat_ofNat']; omega
                  have HC := Lib.hid (show c = segB (vn : Int) 8 from by rw [hcb, HQ.out]; exact (segB_val (m := 8)).symm)
                  have HCV := Lib.hid hcv
                  clear hcb hcv HQ
                  obtain ⟨c0, c1, c2, c3, c4, c5, c6, c7, c8, fr⟩ := nine_cells (HF2.out.blk 1 rfl)
                  have hb0 := lt_of_block (HF2.out.blk 1 rfl)
                  go_wp2_with fail
                  rw [conv_byte _ _ c _ (by simp) HCV.out.symm]
                  simp only [Result.andThen]
                  rw [Oper.upon_value]
                  have q1 : (ba acc).size = acc.length := ba_size _
                  have q2 : (ba [c]).size = 1 := rfl
                  have q3 : ¬ (9223372036854775807 < acc.length + 1) := by omega
                  have q4 : ba acc ++ ba [c] = ba (acc ++ [c]) := ba_app _ _
                  go_wp2_with fail
                  clear c0 c1 c2 c3 c4 c5 c6 c7 c8 fr hb0
                  have HF3 := Lib.hid (HF2.out.set (c := [.int .i64 10, .int .i64 0, .int .i64 0, .string ⟨#[]⟩, .string ⟨#[]⟩, .int .i64 0, .slice none 0 0, .string (ba (acc)), .int .i64 (cnt)]) 1 rfl 8 (.int .i64 (cnt + 8)) (by refine ⟨?_, ?_, ?_, trivial⟩ <;> (simp only [Fq.apart]; first | omega | (intro b h1 h2; omega) | (intro b h1 h2 h3; omega))))
                  clear HF2
                  have HF4 := Lib.hid (HF3.out.set (c := [.int .i64 10, .int .i64 0, .int .i64 0, .string ⟨#[]⟩, .string ⟨#[]⟩, .int .i64 0, .slice none 0 0, .string (ba (acc)), .int .i64 (cnt + 8)]) 0 rfl 7 (.string (ba (acc ++ [c]))) (by refine ⟨?_, ?_, ?_, trivial⟩ <;> (simp only [Fq.apart]; first | omega | (intro b h1 h2; omega) | (intro b h1 h2 h3; omega))))
                  clear HF3
                  have HF5 := Lib.hid (HF4.out.alloc (.cells #[.int .u8 ((q : Int) % 256)] 5 (0, 0)))
                  clear HF4
                  cases hc : hp (s.dropWhile digC) [44] with
                  | false =>
                    have HE := Lib.hid (HS.out.stop H1.out H2.out HOK.out hc)
                    refine (eat_not R (s.dropWhile digC) ⟨#[44]⟩ false _ (HF5.out.blk 1 rfl) (by exact hc)).mono ?_
                    rintro e w3 ⟨rfl, hr, ho⟩
                    have HF6 := Lib.hid (HF5.out.call 1 ho hr (by refine ⟨?_, ?_, ?_, trivial⟩ <;> (simp only [Fq.apart]; first | omega | (intro b h1 h2; omega) | (intro b h1 h2 h3; omega))))
                    have hz3 : wr.heap.size + 1 ≤ w3.heap.size := by have := ho.size; first | omega | (simp at this; omega)
                    clear HF5 ho hr
                    clear hc
                    go_wp2_with fail
                    refine (rMust_m R (s.dropWhile digC) ⟨#[62, 62]⟩ false _ (HF6.out.blk 0 rfl)).mono ?_
                    rintro e w4 ⟨rfl, hr, ho⟩
                    have HF7 := Lib.hid (HF6.out.call 0 ho hr (by refine ⟨?_, ?_, ?_, trivial⟩ <;> (simp only [Fq.apart]; first | omega | (intro b h1 h2; omega) | (intro b h1 h2 h3; omega))))
                    have hz4 : w3.heap.size ≤ w4.heap.size := by have := ho.size; first | omega | (simp at this; omega)
                    clear HF6 ho hr
                    obtain ⟨d0, d1, d2, d3, d4, d5, d6, d7, d8, fs⟩ := nine_cells (HF7.out.blk 2 rfl)
                    obtain ⟨c0, c1, c2, c3, c4, c5, c6, c7, c8, -⟩ := nine_cells (HF7.out.blk 1 rfl)
                    have hb1 := lt_of_block (HF7.out.blk 2 rfl)
                    go_wp2_with fail
                    have HF8 := Lib.hid (HF7.out.put 2 rfl (by refine ⟨?_, ?_, ?_, trivial⟩ <;> (simp only [Fq.apart]; first | omega | (intro b h1 h2; omega) | (intro b h1 h2 h3; omega))) (.int .i64 10) (.int .i64 0) (.int .i64 0) (.string ⟨#[]⟩) (.string ⟨#[]⟩) (.int .i64 0) (.slice none 0 0) (.string (ba ((acc ++ [c])))) (.int .i64 ((cnt + 8))))
                    clear HF7
                    refine bodyPost_ret (results_one rfl _ _ _ _ _ _ _ _ _ _ _ _ rfl (HF8.out.blk 0 rfl)) rfl ?_
                    exact ⟨(acc ++ [c]), (cnt + 8), mL false (s.dropWhile digC) [62, 62], mB false (s.dropWhile digC) [62, 62], rfl, (HF8.out.blk 1 rfl), (HF8.out.base 3 rfl), Nat.le_trans (mL_len _ _ _) (Nat.le_trans HD2.out (by omega)), rbits_yes HH.out (HM0.out.trans (by rw [HC.out]; exact HE.out))⟩
                  | true =>
                    have HE := Lib.hid (HS.out.next H1.out H2.out HOK.out hc)
                    have hl44 := hp_len hc
                    simp only [List.length_cons, List.length_nil] at hl44
                    have hd2 := HD2.out
                    refine (eat_yes2 R (s.dropWhile digC) ⟨#[44]⟩ _ (HF5.out.blk 1 rfl) (by exact hc)).mono ?_
                    rintro e w3 ⟨rfl, hr, ho⟩
                    have HF6 := Lib.hid (HF5.out.call 1 ho hr (by refine ⟨?_, ?_, ?_, trivial⟩ <;> (simp only [Fq.apart]; first | omega | (intro b h1 h2; omega) | (intro b h1 h2 h3; omega))))
                    have hz3 : wr.heap.size + 1 ≤ w3.heap.size := by have := ho.size; first | omega | (simp at this; omega)
                    clear HF5 ho hr
                    clear hc
                    go_wp2_with fail
                    go_roundw
                    case rel => exact ⟨acc ++ [c], (s.dropWhile digC).drop 1, cnt + 8, by omega, by rw [List.length_append, List.length_singleton]; omega, by rw [List.length_append, List.length_singleton, List.length_drop]; omega, Lib.hid (by rw [HC.out]; exact HE.out), Lib.hid ⟨(HF6.out.blk 0 rfl), (HF6.out.blk 1 rfl), (HF6.out.blk 2 rfl), (HF6.out.base 3 rfl), trivial⟩⟩
                    case measure => rw [hlen, leftLen_r2 (s := (s.dropWhile digC).drop 1) (b := false) (HF6.out.blk 0 rfl), List.length_drop]; omega
        | true =>
          refine (eat_yes2 R (s.dropWhile digC) ⟨#[58]⟩ _ (HF1.out.blk 0 rfl) (by exact h58)).mono ?_
          rintro e w2 ⟨rfl, hr, ho⟩
          have HF2 := Lib.hid (HF1.out.call 0 ho hr (by refine ⟨?_, ?_, ?_, trivial⟩ <;> (simp only [Fq.apart]; first | omega | (intro b h1 h2; omega) | (intro b h1 h2 h3; omega))))
          have hz2 : w1.heap.size ≤ w2.heap.size := by have := ho.size; first | omega | (simp at this; omega)
          clear HF1 ho hr
          have H58 := Lib.hid h58
          clear h58
          go_wp2_with fail
          refine (rNumber_any R ((s.dropWhile digC).drop 1) false _ (HF2.out.blk 0 rfl) (by rw [List.length_drop]; omega)).mono ?_
          rintro e w3 ⟨m, y, rfl, hg, hn, hr, ho⟩
          have HF3 := Lib.hid (HF2.out.call 0 ho hr (by refine ⟨?_, ?_, ?_, trivial⟩ <;> (simp only [Fq.apart]; first | omega | (intro b h1 h2; omega) | (intro b h1 h2 h3; omega))))
          have hz3 : w2.heap.size ≤ w3.heap.size := by have := ho.size; first | omega | (simp at this; omega)
          clear HF2 ho hr
          have HN2 := Lib.hid hn
          have HG2 := Lib.hid hg
          clear hn hg
          have hd3 : (((s.dropWhile digC).drop 1).dropWhile digC).length ≤ s.length := Nat.le_trans (dropW_len _ _) (by rw [List.length_drop]; omega)
          have HGv := HG1.out
          have HGm := HG2.out
          cases y with
          | true =>
            have HX0 := Lib.hid (HS.out.many H1.out (by rw [many_of H58.out HN2.out]; rfl))
            clear HS HN2
            have HD2 := Lib.hid (show (((s.dropWhile digC).drop 1).dropWhile digC).length ≤ s.length from hd3)
            by_cases t0 : v < 0
            · have fr := frees_of (HF3.out.blk 0 rfl) 1
              have k1 := cells_of (HF3.out.blk 0 rfl) 1
              go_wp2_with fail
              all_goals (try (exfalso; omega))
              clear k1 fr
              have HF4 := Lib.hid (HF3.out.set (c := [.string (ba (((s.dropWhile digC).drop 1).dropWhile digC)), .bool (true)]) 0 rfl 1 (.bool true) (by refine ⟨?_, ?_, ?_, trivial⟩ <;> (simp only [Fq.apart]; first | omega | (intro b h1 h2; omega) | (intro b h1 h2 h3; omega))))
              clear HF3
              refine (rMust_m R (((s.dropWhile digC).drop 1).dropWhile digC) ⟨#[62, 62]⟩ true _ (HF4.out.blk 0 rfl)).mono ?_
              rintro e w4 ⟨rfl, hr, ho⟩
              have HF5 := Lib.hid (HF4.out.call 0 ho hr (by refine ⟨?_, ?_, ?_, trivial⟩ <;> (simp only [Fq.apart]; first | omega | (intro b h1 h2; omega) | (intro b h1 h2 h3; omega))))
              have hz4 : w3.heap.size ≤ w4.heap.size := by have := ho.size; first | omega | (simp at this; omega)
              clear HF4 ho hr
              obtain ⟨d0, d1, d2, d3, d4, d5, d6, d7, d8, fs⟩ := nine_cells (HF5.out.blk 2 rfl)
              obtain ⟨c0, c1, c2, c3, c4, c5, c6, c7, c8, -⟩ := nine_cells (HF5.out.blk 1 rfl)
              have hb1 := lt_of_block (HF5.out.blk 2 rfl)
              go_wp2_with fail
              have HF6 := Lib.hid (HF5.out.put 2 rfl (by refine ⟨?_, ?_, ?_, trivial⟩ <;> (simp only [Fq.apart]; first | omega | (intro b h1 h2; omega) | (intro b h1 h2 h3; omega))) (.int .i64 10) (.int .i64 0) (.int .i64 0) (.string ⟨#[]⟩) (.string ⟨#[]⟩) (.int .i64 0) (.slice none 0 0) (.string (ba (acc))) (.int .i64 (cnt)))
              clear HF5
              refine bodyPost_ret (results_one rfl _ _ _ _ _ _ _ _ _ _ _ _ rfl (HF6.out.blk 0 rfl)) rfl ?_
              exact ⟨acc, cnt, mL true (((s.dropWhile digC).drop 1).dropWhile digC) [62, 62], mB true (((s.dropWhile digC).drop 1).dropWhile digC) [62, 62], rfl, (HF6.out.blk 1 rfl), (HF6.out.base 3 rfl), Nat.le_trans (mL_len _ _ _) (Nat.le_trans HD2.out (by omega)), rbits_no HH.out (HM0.out.trans (HX0.out)) rfl⟩
            · skip
              by_cases t1 : 255 < v
              · have fr := frees_of (HF3.out.blk 0 rfl) 1
                have k1 := cells_of (HF3.out.blk 0 rfl) 1
                go_wp2_with fail
                all_goals (try (exfalso; omega))
                clear k1 fr
                have HF4 := Lib.hid (HF3.out.set (c := [.string (ba (((s.dropWhile digC).drop 1).dropWhile digC)), .bool (true)]) 0 rfl 1 (.bool true) (by refine ⟨?_, ?_, ?_, trivial⟩ <;> (simp only [Fq.apart]; first | omega | (intro b h1 h2; omega) | (intro b h1 h2 h3; omega))))
                clear HF3
                refine (rMust_m R (((s.dropWhile digC).drop 1).dropWhile digC) ⟨#[62, 62]⟩ true _ (HF4.out.blk 0 rfl)).mono ?_
                rintro e w4 ⟨rfl, hr, ho⟩
                have HF5 := Lib.hid (HF4.out.call 0 ho hr (by refine ⟨?_, ?_, ?_, trivial⟩ <;> (simp only [Fq.apart]; first | omega | (intro b h1 h2; omega) | (intro b h1 h2 h3; omega))))
                have hz4 : w3.heap.size ≤ w4.heap.size := by have := ho.size; first | omega | (simp at this; omega)
                clear HF4 ho hr
                obtain ⟨d0, d1, d2, d3, d4, d5, d6, d7, d8, fs⟩ := nine_cells (HF5.out.blk 2 rfl)
                obtain ⟨c0, c1, c2, c3, c4, c5, c6, c7, c8, -⟩ := nine_cells (HF5.out.blk 1 rfl)
                have hb1 := lt_of_block (HF5.out.blk 2 rfl)
                go_wp2_with fail
                have HF6 := Lib.hid (HF5.out.put 2 rfl (by refine ⟨?_, ?_, ?_, trivial⟩ <;> (simp only [Fq.apart]; first | omega | (intro b h1 h2; omega) | (intro b h1 h2 h3; omega))) (.int .i64 10) (.int .i64 0) (.int .i64 0) (.string ⟨#[]⟩) (.string ⟨#[]⟩) (.int .i64 0) (.slice none 0 0) (.string (ba (acc))) (.int .i64 (cnt)))
                clear HF5
                refine bodyPost_ret (results_one rfl _ _ _ _ _ _ _ _ _ _ _ _ rfl (HF6.out.blk 0 rfl)) rfl ?_
                exact ⟨acc, cnt, mL true (((s.dropWhile digC).drop 1).dropWhile digC) [62, 62], mB true (((s.dropWhile digC).drop 1).dropWhile digC) [62, 62], rfl, (HF6.out.blk 1 rfl), (HF6.out.base 3 rfl), Nat.le_trans (mL_len _ _ _) (Nat.le_trans HD2.out (by omega)), rbits_no HH.out (HM0.out.trans (HX0.out)) rfl⟩
              · skip
                by_cases t2 : m < 1
                · have fr := frees_of (HF3.out.blk 0 rfl) 1
                  have k1 := cells_of (HF3.out.blk 0 rfl) 1
                  go_wp2_with fail
                  all_goals (try (exfalso; omega))
                  clear k1 fr
                  have HF4 := Lib.hid (HF3.out.set (c := [.string (ba (((s.dropWhile digC).drop 1).dropWhile digC)), .bool (true)]) 0 rfl 1 (.bool true) (by refine ⟨?_, ?_, ?_, trivial⟩ <;> (simp only [Fq.apart]; first | omega | (intro b h1 h2; omega) | (intro b h1 h2 h3; omega))))
                  clear HF3
                  refine (rMust_m R (((s.dropWhile digC).drop 1).dropWhile digC) ⟨#[62, 62]⟩ true _ (HF4.out.blk 0 rfl)).mono ?_
                  rintro e w4 ⟨rfl, hr, ho⟩
                  have HF5 := Lib.hid (HF4.out.call 0 ho hr (by refine ⟨?_, ?_, ?_, trivial⟩ <;> (simp only [Fq.apart]; first | omega | (intro b h1 h2; omega) | (intro b h1 h2 h3; omega))))
                  have hz4 : w3.heap.size ≤ w4.heap.size := by have := ho.size; first | omega | (simp at this; omega)
                  clear HF4 ho hr
                  obtain ⟨d0, d1, d2, d3, d4, d5, d6, d7, d8, fs⟩ := nine_cells (HF5.out.blk 2 rfl)
                  obtain ⟨c0, c1, c2, c3, c4, c5, c6, c7, c8, -⟩ := nine_cells (HF5.out.blk 1 rfl)
                  have hb1 := lt_of_block (HF5.out.blk 2 rfl)
                  go_wp2_with fail
                  have HF6 := Lib.hid (HF5.out.put 2 rfl (by refine ⟨?_, ?_, ?_, trivial⟩ <;> (simp only [Fq.apart]; first | omega | (intro b h1 h2; omega) | (intro b h1 h2 h3; omega))) (.int .i64 10) (.int .i64 0) (.int .i64 0) (.string ⟨#[]⟩) (.string ⟨#[]⟩) (.int .i64 0) (.slice none 0 0) (.string (ba (acc))) (.int .i64 (cnt)))
                  clear HF5
                  refine bodyPost_ret (results_one rfl _ _ _ _ _ _ _ _ _ _ _ _ rfl (HF6.out.blk 0 rfl)) rfl ?_
                  exact ⟨acc, cnt, mL true (((s.dropWhile digC).drop 1).dropWhile digC) [62, 62], mB true (((s.dropWhile digC).drop 1).dropWhile digC) [62, 62], rfl, (HF6.out.blk 1 rfl), (HF6.out.base 3 rfl), Nat.le_trans (mL_len _ _ _) (Nat.le_trans HD2.out (by omega)), rbits_no HH.out (HM0.out.trans (HX0.out)) rfl⟩
                · skip
                  by_cases t3 : 8 < m
                  · have fr := frees_of (HF3.out.blk 0 rfl) 1
                    have k1 := cells_of (HF3.out.blk 0 rfl) 1
                    go_wp2_with fail
                    all_goals (try (exfalso; omega))
                    clear k1 fr
                    have HF4 := Lib.hid (HF3.out.set (c := [.string (ba (((s.dropWhile digC).drop 1).dropWhile digC)), .bool (true)]) 0 rfl 1 (.bool true) (by refine ⟨?_, ?_, ?_, trivial⟩ <;> (simp only [Fq.apart]; first | omega | (intro b h1 h2; omega) | (intro b h1 h2 h3; omega))))
                    clear HF3
                    refine (rMust_m R (((s.dropWhile digC).drop 1).dropWhile digC) ⟨#[62, 62]⟩ true _ (HF4.out.blk 0 rfl)).mono ?_
                    rintro e w4 ⟨rfl, hr, ho⟩
                    have HF5 := Lib.hid (HF4.out.call 0 ho hr (by refine ⟨?_, ?_, ?_, trivial⟩ <;> (simp only [Fq.apart]; first | omega | (intro b h1 h2; omega) | (intro b h1 h2 h3; omega))))
                    have hz4 : w3.heap.size ≤ w4.heap.size := by have := ho.size; first | omega | (simp at this; omega)
                    clear HF4 ho hr
                    obtain ⟨d0, d1, d2, d3, d4, d5, d6, d7, d8, fs⟩ := nine_cells (HF5.out.blk 2 rfl)
                    obtain ⟨c0, c1, c2, c3, c4, c5, c6, c7, c8, -⟩ := nine_cells (HF5.out.blk 1 rfl)
                    have hb1 := lt_of_block (HF5.out.blk 2 rfl)
                    go_wp2_with fail
                    have HF6 := Lib.hid (HF5.out.put 2 rfl (by refine ⟨?_, ?_, ?_, trivial⟩ <;> (simp only [Fq.apart]; first | omega | (intro b h1 h2; omega) | (intro b h1 h2 h3; omega))) (.int .i64 10) (.int .i64 0) (.int .i64 0) (.string ⟨#[]⟩) (.string ⟨#[]⟩) (.int .i64 0) (.slice none 0 0) (.string (ba (acc))) (.int .i64 (cnt)))
                    clear HF5
                    refine bodyPost_ret (results_one rfl _ _ _ _ _ _ _ _ _ _ _ _ rfl (HF6.out.blk 0 rfl)) rfl ?_
                    exact ⟨acc, cnt, mL true (((s.dropWhile digC).drop 1).dropWhile digC) [62, 62], mB true (((s.dropWhile digC).drop 1).dropWhile digC) [62, 62], rfl, (HF6.out.blk 1 rfl), (HF6.out.base 3 rfl), Nat.le_trans (mL_len _ _ _) (Nat.le_trans HD2.out (by omega)), rbits_no HH.out (HM0.out.trans (HX0.out)) rfl⟩
                  · skip
                    obtain ⟨vn, hvn⟩ : ∃ vn : Nat, v = (vn : Int) := ⟨v.toNat, by omega⟩
                    obtain ⟨mn, hmn⟩ : ∃ mn : Nat, m = (mn : Int) := ⟨(m).toNat, by omega⟩
                    subst hmn
                    subst hvn
                    have tm : mn ≤ 8 := by omega
                    have tm1 : 1 ≤ mn := by omega
                    have tv : vn ≤ 255 := by omega
                    go_wp2_with fail
                    all_goals (try (exfalso; omega))
                    go_loopw [4, 6] (fun nv kv wz => ∃ (k q : Nat), mn ≤ k ∧ k ≤ 8 ∧ nv = .int .i64 (q : Int) ∧ kv = .int .i64 (k : Int) ∧ Hid (q = vn * 2 ^ (k - mn)) ∧ wz = w3) (fun _ kv _ => 8 - (intOf kv).toNat)
                    case atStart => exact ⟨mn, vn, by omega, by omega, rfl, by go_num, Lib.hid (by rw [Nat.sub_self]; simp), rfl⟩
                    case round =>
                      obtain ⟨k, q, hk1, hk2, rfl, rfl, HQ, rfl⟩ := hrel
                      by_cases hk : k < 8
                      · have xk : (k : Int) < 8 := by omega
                        have hq : q ≤ 255 * 2 ^ (k - mn) := by rw [HQ.out]; exact Nat.mul_le_mul_right _ tv
                        have hq2 : 2 ^ (k - mn) ≤ 2 ^ 8 := Nat.pow_le_pow_right (by omega) (by omega)
                        have hq3 : q ≤ 65280 := Nat.le_trans hq (Nat.le_trans (Nat.mul_le_mul_left 255 hq2) (by decide))
                        clear hq hq2
                        go_wp2_with fail
                        go_roundw
                        case rel => exact ⟨k + 1, q * 2, by omega, by omega, by go_num, by go_num, Lib.hid (by rw [HQ.out, Nat.mul_assoc, ← Nat.pow_succ]; congr 2; omega), trivial⟩
                        case measure => simp only [intOf]; omega
                      · have xk : ¬ (k : Int) < 8 := by omega
                        obtain rfl : k = 8 := by omega
                        have hq : q ≤ 255 * 2 ^ (8 - mn) := by rw [HQ.out]; exact Nat.mul_le_mul_right _ tv
                        have hq2 : 2 ^ (8 - mn) ≤ 2 ^ 8 := Nat.pow_le_pow_right (by omega) (by omega)
                        have hq3 : q ≤ 65280 := Nat.le_trans hq (Nat.le_trans (Nat.mul_le_mul_left 255 hq2) (by decide))
                        clear hq hq2
                        obtain ⟨c, hcb⟩ : ∃ c : UInt8, c = UInt8.ofNat q := ⟨_, rfl⟩
                        have hcv : (c.toNat : Int) = (q : Int) % 256 := by rw [hcb, UInt8.toNat_ofNat']; omega
                        have HC := Lib.hid (show c = segB (vn : Int) (mn : Int) from by rw [hcb, HQ.out]; exact (segB_val (m := mn)).symm)
                        have HCV := Lib.hid hcv
                        clear hcb hcv HQ
                        obtain ⟨c0, c1, c2, c3, c4, c5, c6, c7, c8, fr⟩ := nine_cells (HF3.out.blk 1 rfl)
                        have hb0 := lt_of_block (HF3.out.blk 1 rfl)
                        go_wp2_with fail
                        rw [conv_byte _ _ c _ (by simp) HCV.out.symm]
                        simp only [Result.andThen]
                        rw [Oper.upon_value]
                        have q1 : (ba acc).size = acc.length := ba_size _
                        have q2 : (ba [c]).size = 1 := rfl
                        have q3 : ¬ (9223372036854775807 < acc.length + 1) := by omega
                        have q4 : ba acc ++ ba [c] = ba (acc ++ [c]) := ba_app _ _
                        go_wp2_with fail
                        clear c0 c1 c2 c3 c4 c5 c6 c7 c8 fr hb0
                        have HF4 := Lib.hid (HF3.out.set (c := [.int .i64 10, .int .i64 0, .int .i64 0, .string ⟨#[]⟩, .string ⟨#[]⟩, .int .i64 0, .slice none 0 0, .string (ba (acc)), .int .i64 (cnt)]) 1 rfl 8 (.int .i64 (cnt + (mn : Int))) (by refine ⟨?_, ?_, ?_, trivial⟩ <;> (simp only [Fq.apart]; first | omega | (intro b h1 h2; omega) | (intro b h1 h2 h3; omega))))
                        clear HF3
                        have HF5 := Lib.hid (HF4.out.set (c := [.int .i64 10, .int .i64 0, .int .i64 0, .string ⟨#[]⟩, .string ⟨#[]⟩, .int .i64 0, .slice none 0 0, .string (ba (acc)), .int .i64 (cnt + (mn : Int))]) 0 rfl 7 (.string (ba (acc ++ [c]))) (by refine ⟨?_, ?_, ?_, trivial⟩ <;> (simp only [Fq.apart]; first | omega | (intro b h1 h2; omega) | (intro b h1 h2 h3; omega))))
                        clear HF4
                        have HF6 := Lib.hid (HF5.out.alloc (.cells #[.int .u8 ((q : Int) % 256)] 5 (0, 0)))
                        clear HF5
                        refine (eat_not R (((s.dropWhile digC).drop 1).dropWhile digC) ⟨#[44]⟩ true _ (HF6.out.blk 1 rfl) rfl).mono ?_
                        rintro e w4 ⟨rfl, hr, ho⟩
                        have HF7 := Lib.hid (HF6.out.call 1 ho hr (by refine ⟨?_, ?_, ?_, trivial⟩ <;> (simp only [Fq.apart]; first | omega | (intro b h1 h2; omega) | (intro b h1 h2 h3; omega))))
                        have hz4 : wr.heap.size + 1 ≤ w4.heap.size := by have := ho.size; first | omega | (simp at this; omega)
                        clear HF6 ho hr
                        go_wp2_with fail
                        refine (rMust_m R (((s.dropWhile digC).drop 1).dropWhile digC) ⟨#[62, 62]⟩ true _ (HF7.out.blk 0 rfl)).mono ?_
                        rintro e w5 ⟨rfl, hr, ho⟩
                        have HF8 := Lib.hid (HF7.out.call 0 ho hr (by refine ⟨?_, ?_, ?_, trivial⟩ <;> (simp only [Fq.apart]; first | omega | (intro b h1 h2; omega) | (intro b h1 h2 h3; omega))))
                        have hz5 : w4.heap.size ≤ w5.heap.size := by have := ho.size; first | omega | (simp at this; omega)
                        clear HF7 ho hr
                        obtain ⟨d0, d1, d2, d3, d4, d5, d6, d7, d8, fs⟩ := nine_cells (HF8.out.blk 2 rfl)
                        obtain ⟨c0, c1, c2, c3, c4, c5, c6, c7, c8, -⟩ := nine_cells (HF8.out.blk 1 rfl)
                        have hb1 := lt_of_block (HF8.out.blk 2 rfl)
                        go_wp2_with fail
                        have HF9 := Lib.hid (HF8.out.put 2 rfl (by refine ⟨?_, ?_, ?_, trivial⟩ <;> (simp only [Fq.apart]; first | omega | (intro b h1 h2; omega) | (intro b h1 h2 h3; omega))) (.int .i64 10) (.int .i64 0) (.int .i64 0) (.string ⟨#[]⟩) (.string ⟨#[]⟩) (.int .i64 0) (.slice none 0 0) (.string (ba ((acc ++ [c])))) (.int .i64 ((cnt + (mn : Int)))))
                        clear HF8
                        refine bodyPost_ret (results_one rfl _ _ _ _ _ _ _ _ _ _ _ _ rfl (HF9.out.blk 0 rfl)) rfl ?_
                        exact ⟨(acc ++ [c]), (cnt + (mn : Int)), mL true (((s.dropWhile digC).drop 1).dropWhile digC) [62, 62], mB true (((s.dropWhile digC).drop 1).dropWhile digC) [62, 62], rfl, (HF9.out.blk 1 rfl), (HF9.out.base 3 rfl), Nat.le_trans (mL_len _ _ _) (Nat.le_trans HD2.out (by omega)), rbits_no HH.out (HM0.out.trans (HX0.out)) rfl⟩
          | false =>
            have H2 := Lib.hid (show pMany false (s.dropWhile digC) = some (m, ((s.dropWhile digC).drop 1).dropWhile digC) from by rw [many_of H58.out HN2.out]; rfl)
            clear HN2
            have HD2 := Lib.hid (show (((s.dropWhile digC).drop 1).dropWhile digC).length ≤ s.length from hd3)
            by_cases t0 : v < 0
            · have HX := Lib.hid (HS.out.range H1.out H2.out (by simp only [okSeg_false, Bool.and_eq_false_iff, decide_eq_false_iff_not]; omega))
              have fr := frees_of (HF3.out.blk 0 rfl) 1
              have k1 := cells_of (HF3.out.blk 0 rfl) 1
              go_wp2_with fail
              all_goals (try (exfalso; omega))
              clear k1 fr
              have HF4 := Lib.hid (HF3.out.set (c := [.string (ba (((s.dropWhile digC).drop 1).dropWhile digC)), .bool (false)]) 0 rfl 1 (.bool true) (by refine ⟨?_, ?_, ?_, trivial⟩ <;> (simp only [Fq.apart]; first | omega | (intro b h1 h2; omega) | (intro b h1 h2 h3; omega))))
              clear HF3
              refine (rMust_m R (((s.dropWhile digC).drop 1).dropWhile digC) ⟨#[62, 62]⟩ true _ (HF4.out.blk 0 rfl)).mono ?_
              rintro e w4 ⟨rfl, hr, ho⟩
              have HF5 := Lib.hid (HF4.out.call 0 ho hr (by refine ⟨?_, ?_, ?_, trivial⟩ <;> (simp only [Fq.apart]; first | omega | (intro b h1 h2; omega) | (intro b h1 h2 h3; omega))))
              have hz4 : w3.heap.size ≤ w4.heap.size := by have := ho.size; first | omega | (simp at this; omega)
              clear HF4 ho hr
              obtain ⟨d0, d1, d2, d3, d4, d5, d6, d7, d8, fs⟩ := nine_cells (HF5.out.blk 2 rfl)
              obtain ⟨c0, c1, c2, c3, c4, c5, c6, c7, c8, -⟩ := nine_cells (HF5.out.blk 1 rfl)
              have hb1 := lt_of_block (HF5.out.blk 2 rfl)
              go_wp2_with fail
              have HF6 := Lib.hid (HF5.out.put 2 rfl (by refine ⟨?_, ?_, ?_, trivial⟩ <;> (simp only [Fq.apart]; first | omega | (intro b h1 h2; omega) | (intro b h1 h2 h3; omega))) (.int .i64 10) (.int .i64 0) (.int .i64 0) (.string ⟨#[]⟩) (.string ⟨#[]⟩) (.int .i64 0) (.slice none 0 0) (.string (ba (acc))) (.int .i64 (cnt)))
              clear HF5
              refine bodyPost_ret (results_one rfl _ _ _ _ _ _ _ _ _ _ _ _ rfl (HF6.out.blk 0 rfl)) rfl ?_
              exact ⟨acc, cnt, mL true (((s.dropWhile digC).drop 1).dropWhile digC) [62, 62], mB true (((s.dropWhile digC).drop 1).dropWhile digC) [62, 62], rfl, (HF6.out.blk 1 rfl), (HF6.out.base 3 rfl), Nat.le_trans (mL_len _ _ _) (Nat.le_trans HD2.out (by omega)), rbits_no HH.out (HM0.out.trans (HX.out)) rfl⟩
            · skip
              by_cases t1 : 255 < v
              · have HX := Lib.hid (HS.out.range H1.out H2.out (by simp only [okSeg_false, Bool.and_eq_false_iff, decide_eq_false_iff_not]; omega))
                have fr := frees_of (HF3.out.blk 0 rfl) 1
                have k1 := cells_of (HF3.out.blk 0 rfl) 1
                go_wp2_with fail
                all_goals (try (exfalso; omega))
                clear k1 fr
                have HF4 := Lib.hid (HF3.out.set (c := [.string (ba (((s.dropWhile digC).drop 1).dropWhile digC)), .bool (false)]) 0 rfl 1 (.bool true) (by refine ⟨?_, ?_, ?_, trivial⟩ <;> (simp only [Fq.apart]; first | omega | (intro b h1 h2; omega) | (intro b h1 h2 h3; omega))))
                clear HF3
                refine (rMust_m R (((s.dropWhile digC).drop 1).dropWhile digC) ⟨#[62, 62]⟩ true _ (HF4.out.blk 0 rfl)).mono ?_
                rintro e w4 ⟨rfl, hr, ho⟩
                have HF5 := Lib.hid (HF4.out.call 0 ho hr (by refine ⟨?_, ?_, ?_, trivial⟩ <;> (simp only [Fq.apart]; first | omega | (intro b h1 h2; omega) | (intro b h1 h2 h3; omega))))
                have hz4 : w3.heap.size ≤ w4.heap.size := by have := ho.size; first | omega | (simp at this; omega)
                clear HF4 ho hr
                obtain ⟨d0, d1, d2, d3, d4, d5, d6, d7, d8, fs⟩ := nine_cells (HF5.out.blk 2 rfl)
                obtain ⟨c0, c1, c2, c3, c4, c5, c6, c7, c8, -⟩ := nine_cells (HF5.out.blk 1 rfl)
                have hb1 := lt_of_block (HF5.out.blk 2 rfl)
                go_wp2_with fail
                have HF6 := Lib.hid (HF5.out.put 2 rfl (by refine ⟨?_, ?_, ?_, trivial⟩ <;> (simp only [Fq.apart]; first | omega | (intro b h1 h2; omega) | (intro b h1 h2 h3; omega))) (.int .i64 10) (.int .i64 0) (.int .i64 0) (.string ⟨#[]⟩) (.string ⟨#[]⟩) (.int .i64 0) (.slice none 0 0) (.string (ba (acc))) (.int .i64 (cnt)))
                clear HF5
                refine bodyPost_ret (results_one rfl _ _ _ _ _ _ _ _ _ _ _ _ rfl (HF6.out.blk 0 rfl)) rfl ?_
                exact ⟨acc, cnt, mL true (((s.dropWhile digC).drop 1).dropWhile digC) [62, 62], mB true (((s.dropWhile digC).drop 1).dropWhile digC) [62, 62], rfl, (HF6.out.blk 1 rfl), (HF6.out.base 3 rfl), Nat.le_trans (mL_len _ _ _) (Nat.le_trans HD2.out (by omega)), rbits_no HH.out (HM0.out.trans (HX.out)) rfl⟩
              · skip
                by_cases t2 : m < 1
                · have HX := Lib.hid (HS.out.range H1.out H2.out (by simp only [okSeg_false, Bool.and_eq_false_iff, decide_eq_false_iff_not]; omega))
                  have fr := frees_of (HF3.out.blk 0 rfl) 1
                  have k1 := cells_of (HF3.out.blk 0 rfl) 1
                  go_wp2_with fail
                  all_goals (try (exfalso; omega))
                  clear k1 fr
                  have HF4 := Lib.hid (HF3.out.set (c := [.string (ba (((s.dropWhile digC).drop 1).dropWhile digC)), .bool (false)]) 0 rfl 1 (.bool true) (by refine ⟨?_, ?_, ?_, trivial⟩ <;> (simp only [Fq.apart]; first | omega | (intro b h1 h2; omega) | (intro b h1 h2 h3; omega))))
                  clear HF3
                  refine (rMust_m R (((s.dropWhile digC).drop 1).dropWhile digC) ⟨#[62, 62]⟩ true _ (HF4.out.blk 0 rfl)).mono ?_
                  rintro e w4 ⟨rfl, hr, ho⟩
                  have HF5 := Lib.hid (HF4.out.call 0 ho hr (by refine ⟨?_, ?_, ?_, trivial⟩ <;> (simp only [Fq.apart]; first | omega | (intro b h1 h2; omega) | (intro b h1 h2 h3; omega))))
                  have hz4 : w3.heap.size ≤ w4.heap.size := by have := ho.size; first | omega | (simp at this; omega)
                  clear HF4 ho hr
                  obtain ⟨d0, d1, d2, d3, d4, d5, d6, d7, d8, fs⟩ := nine_cells (HF5.out.blk 2 rfl)
                  obtain ⟨c0, c1, c2, c3, c4, c5, c6, c7, c8, -⟩ := nine_cells (HF5.out.blk 1 rfl)
                  have hb1 := lt_of_block (HF5.out.blk 2 rfl)
                  go_wp2_with fail
                  have HF6 := Lib.hid (HF5.out.put 2 rfl (by refine ⟨?_, ?_, ?_, trivial⟩ <;> (simp only [Fq.apart]; first | omega | (intro b h1 h2; omega) | (intro b h1 h2 h3; omega))) (.int .i64 10) (.int .i64 0) (.int .i64 0) (.string ⟨#[]⟩) (.string ⟨#[]⟩) (.int .i64 0) (.slice none 0 0) (.string (ba (acc))) (.int .i64 (cnt)))
                  clear HF5
                  refine bodyPost_ret (results_one rfl _ _ _ _ _ _ _ _ _ _ _ _ rfl (HF6.out.blk 0 rfl)) rfl ?_
                  exact ⟨acc, cnt, mL true (((s.dropWhile digC).drop 1).dropWhile digC) [62, 62], mB true (((s.dropWhile digC).drop 1).dropWhile digC) [62, 62], rfl, (HF6.out.blk 1 rfl), (HF6.out.base 3 rfl), Nat.le_trans (mL_len _ _ _) (Nat.le_trans HD2.out (by omega)), rbits_no HH.out (HM0.out.trans (HX.out)) rfl⟩
                · skip
                  by_cases t3 : 8 < m
                  · have HX := Lib.hid (HS.out.range H1.out H2.out (by simp only [okSeg_false, Bool.and_eq_false_iff, decide_eq_false_iff_not]; omega))
                    have fr := frees_of (HF3.out.blk 0 rfl) 1
                    have k1 := cells_of (HF3.out.blk 0 rfl) 1
                    go_wp2_with fail
                    all_goals (try (exfalso; omega))
                    clear k1 fr
                    have HF4 := Lib.hid (HF3.out.set (c := [.string (ba (((s.dropWhile digC).drop 1).dropWhile digC)), .bool (false)]) 0 rfl 1 (.bool true) (by refine ⟨?_, ?_, ?_, trivial⟩ <;> (simp only [Fq.apart]; first | omega | (intro b h1 h2; omega) | (intro b h1 h2 h3; omega))))
                    clear HF3
                    refine (rMust_m R (((s.dropWhile digC).drop 1).dropWhile digC) ⟨#[62, 62]⟩ true _ (HF4.out.blk 0 rfl)).mono ?_
                    rintro e w4 ⟨rfl, hr, ho⟩
                    have HF5 := Lib.hid (HF4.out.call 0 ho hr (by refine ⟨?_, ?_, ?_, trivial⟩ <;> (simp only [Fq.apart]; first | omega | (intro b h1 h2; omega) | (intro b h1 h2 h3; omega))))
                    have hz4 : w3.heap.size ≤ w4.heap.size := by have := ho.size; first | omega | (simp at this; omega)
                    clear HF4 ho hr
                    obtain ⟨d0, d1, d2, d3, d4, d5, d6, d7, d8, fs⟩ := nine_cells (HF5.out.blk 2 rfl)
                    obtain ⟨c0, c1, c2, c3, c4, c5, c6, c7, c8, -⟩ := nine_cells (HF5.out.blk 1 rfl)
                    have hb1 := lt_of_block (HF5.out.blk 2 rfl)
                    go_wp2_with fail
                    have HF6 := Lib.hid (HF5.out.put 2 rfl (by refine ⟨?_, ?_, ?_, trivial⟩ <;> (simp only [Fq.apart]; first | omega | (intro b h1 h2; omega) | (intro b h1 h2 h3; omega))) (.int .i64 10) (.int .i64 0) (.int .i64 0) (.string ⟨#[]⟩) (.string ⟨#[]⟩) (.int .i64 0) (.slice none 0 0) (.string (ba (acc))) (.int .i64 (cnt)))
                    clear HF5
                    refine bodyPost_ret (results_one rfl _ _ _ _ _ _ _ _ _ _ _ _ rfl (HF6.out.blk 0 rfl)) rfl ?_
                    exact ⟨acc, cnt, mL true (((s.dropWhile digC).drop 1).dropWhile digC) [62, 62], mB true (((s.dropWhile digC).drop 1).dropWhile digC) [62, 62], rfl, (HF6.out.blk 1 rfl), (HF6.out.base 3 rfl), Nat.le_trans (mL_len _ _ _) (Nat.le_trans HD2.out (by omega)), rbits_no HH.out (HM0.out.trans (HX.out)) rfl⟩
                  · skip
                    obtain ⟨vn, hvn⟩ : ∃ vn : Nat, v = (vn : Int) := ⟨v.toNat, by omega⟩
                    obtain ⟨mn, hmn⟩ : ∃ mn : Nat, m = (mn : Int) := ⟨(m).toNat, by omega⟩
                    have HOK := Lib.hid (show okSeg false v m = true from by rw [okSeg_false]; simp only [Bool.and_eq_true, decide_eq_true_eq]; omega)
                    subst hmn
                    subst hvn
                    have tm : mn ≤ 8 := by omega
                    have tm1 : 1 ≤ mn := by omega
                    have tv : vn ≤ 255 := by omega
                    go_wp2_with fail
                    all_goals (try (exfalso; omega))
                    go_loopw [4, 6] (fun nv kv wz => ∃ (k q : Nat), mn ≤ k ∧ k ≤ 8 ∧ nv = .int .i64 (q : Int) ∧ kv = .int .i64 (k : Int) ∧ Hid (q = vn * 2 ^ (k - mn)) ∧ wz = w3) (fun _ kv _ => 8 - (intOf kv).toNat)
                    case atStart => exact ⟨mn, vn, by omega, by omega, rfl, by go_num, Lib.hid (by rw [Nat.sub_self]; simp), rfl⟩
                    case round =>
                      obtain ⟨k, q, hk1, hk2, rfl, rfl, HQ, rfl⟩ := hrel
                      by_cases hk : k < 8
                      · have xk : (k : Int) < 8 := by omega
                        have hq : q ≤ 255 * 2 ^ (k - mn) := by rw [HQ.out]; exact Nat.mul_le_mul_right _ tv
                        have hq2 : 2 ^ (k - mn) ≤ 2 ^ 8 := Nat.pow_le_pow_right (by omega) (by omega)
                        have hq3 : q ≤ 65280 := Nat.le_trans hq (Nat.le_trans (Nat.mul_le_mul_left 255 hq2) (by decide))
                        clear hq hq2
                        go_wp2_with fail
                        go_roundw
                        case rel => exact ⟨k + 1, q * 2, by omega, by omega, by go_num, by go_num, Lib.hid (by rw [HQ.out, Nat.mul_assoc, ← Nat.pow_succ]; congr 2; omega), trivial⟩
                        case measure => simp only [intOf]; omega
                      · have xk : ¬ (k : Int) < 8 := by omega
                        obtain rfl : k = 8 := by omega
                        have hq : q ≤ 255 * 2 ^ (8 - mn) := by rw [HQ.out]; exact Nat.mul_le_mul_right _ tv
                        have hq2 : 2 ^ (8 - mn) ≤ 2 ^ 8 := Nat.pow_le_pow_right (by omega) (by omega)
                        have hq3 : q ≤ 65280 := Nat.le_trans hq (Nat.le_trans (Nat.mul_le_mul_left 255 hq2) (by decide))
                        clear hq hq2
                        obtain ⟨c, hcb⟩ : ∃ c : UInt8, c = UInt8.ofNat q := ⟨_, rfl⟩
                        have hcv : (c.toNat : Int) = (q : Int) % 256 := by rw [hcb, UInt8.toNat_ofNat']; omega
                        have HC := Lib.hid (show c = segB (vn : Int) (mn : Int) from by rw [hcb, HQ.out]; exact (segB_val (m := mn)).symm)
                        have HCV := Lib.hid hcv
                        clear hcb hcv HQ
                        obtain ⟨c0, c1, c2, c3, c4, c5, c6, c7, c8, fr⟩ := nine_cells (HF3.out.blk 1 rfl)
                        have hb0 := lt_of_block (HF3.out.blk 1 rfl)
                        go_wp2_with fail
                        rw [conv_byte _ _ c _ (by simp) HCV.out.symm]
                        simp only [Result.andThen]
                        rw [Oper.upon_value]
                        have q1 : (ba acc).size = acc.length := ba_size _
                        have q2 : (ba [c]).size = 1 := rfl
                        have q3 : ¬ (9223372036854775807 < acc.length + 1) := by omega
                        have q4 : ba acc ++ ba [c] = ba (acc ++ [c]) := ba_app _ _
                        go_wp2_with fail
                        clear c0 c1 c2 c3 c4 c5 c6 c7 c8 fr hb0
                        have HF4 := Lib.hid (HF3.out.set (c := [.int .i64 10, .int .i64 0, .int .i64 0, .string ⟨#[]⟩, .string ⟨#[]⟩, .int .i64 0, .slice none 0 0, .string (ba (acc)), .int .i64 (cnt)]) 1 rfl 8 (.int .i64 (cnt + (mn : Int))) (by refine ⟨?_, ?_, ?_, trivial⟩ <;> (simp only [Fq.apart]; first | omega | (intro b h1 h2; omega) | (intro b h1 h2 h3; omega))))
                        clear HF3
                        have HF5 := Lib.hid (HF4.out.set (c := [.int .i64 10, .int .i64 0, .int .i64 0, .string ⟨#[]⟩, .string ⟨#[]⟩, .int .i64 0, .slice none 0 0, .string (ba (acc)), .int .i64 (cnt + (mn : Int))]) 0 rfl 7 (.string (ba (acc ++ [c]))) (by refine ⟨?_, ?_, ?_, trivial⟩ <;> (simp only [Fq.apart]; first | omega | (intro b h1 h2; omega) | (intro b h1 h2 h3; omega))))
                        clear HF4
                        have HF6 := Lib.hid (HF5.out.alloc (.cells #[.int .u8 ((q : Int) % 256)] 5 (0, 0)))
                        clear HF5
                        cases hc : hp (((s.dropWhile digC).drop 1).dropWhile digC) [44] with
                        | false =>
                          have HE := Lib.hid (HS.out.stop H1.out H2.out HOK.out hc)
                          refine (eat_not R (((s.dropWhile digC).drop 1).dropWhile digC) ⟨#[44]⟩ false _ (HF6.out.blk 1 rfl) (by exact hc)).mono ?_
                          rintro e w4 ⟨rfl, hr, ho⟩
                          have HF7 := Lib.hid (HF6.out.call 1 ho hr (by refine ⟨?_, ?_, ?_, trivial⟩ <;> (simp only [Fq.apart]; first | omega | (intro b h1 h2; omega) | (intro b h1 h2 h3; omega))))
                          have hz4 : wr.heap.size + 1 ≤ w4.heap.size := by have := ho.size; first | omega | (simp at this; omega)
                          clear HF6 ho hr
                          clear hc
                          go_wp2_with fail
                          refine (rMust_m R (((s.dropWhile digC).drop 1).dropWhile digC) ⟨#[62, 62]⟩ false _ (HF7.out.blk 0 rfl)).mono ?_
                          rintro e w5 ⟨rfl, hr, ho⟩
                          have HF8 := Lib.hid (HF7.out.call 0 ho hr (by refine ⟨?_, ?_, ?_, trivial⟩ <;> (simp only [Fq.apart]; first | omega | (intro b h1 h2; omega) | (intro b h1 h2 h3; omega))))
                          have hz5 : w4.heap.size ≤ w5.heap.size := by have := ho.size; first | omega | (simp at this; omega)
                          clear HF7 ho hr
                          obtain ⟨d0, d1, d2, d3, d4, d5, d6, d7, d8, fs⟩ := nine_cells (HF8.out.blk 2 rfl)
                          obtain ⟨c0, c1, c2, c3, c4, c5, c6, c7, c8, -⟩ := nine_cells (HF8.out.blk 1 rfl)
                          have hb1 := lt_of_block (HF8.out.blk 2 rfl)
                          go_wp2_with fail
                          have HF9 := Lib.hid (HF8.out.put 2 rfl (by refine ⟨?_, ?_, ?_, trivial⟩ <;> (simp only [Fq.apart]; first | omega | (intro b h1 h2; omega) | (intro b h1 h2 h3; omega))) (.int .i64 10) (.int .i64 0) (.int .i64 0) (.string ⟨#[]⟩) (.string ⟨#[]⟩) (.int .i64 0) (.slice none 0 0) (.string (ba ((acc ++ [c])))) (.int .i64 ((cnt + (mn : Int)))))
                          clear HF8
                          refine bodyPost_ret (results_one rfl _ _ _ _ _ _ _ _ _ _ _ _ rfl (HF9.out.blk 0 rfl)) rfl ?_
                          exact ⟨(acc ++ [c]), (cnt + (mn : Int)), mL false (((s.dropWhile digC).drop 1).dropWhile digC) [62, 62], mB false (((s.dropWhile digC).drop 1).dropWhile digC) [62, 62], rfl, (HF9.out.blk 1 rfl), (HF9.out.base 3 rfl), Nat.le_trans (mL_len _ _ _) (Nat.le_trans HD2.out (by omega)), rbits_yes HH.out (HM0.out.trans (by rw [HC.out]; exact HE.out))⟩
                        | true =>
                          have HE := Lib.hid (HS.out.next H1.out H2.out HOK.out hc)
                          have hl44 := hp_len hc
                          simp only [List.length_cons, List.length_nil] at hl44
                          have hd2 := HD2.out
                          refine (eat_yes2 R (((s.dropWhile digC).drop 1).dropWhile digC) ⟨#[44]⟩ _ (HF6.out.blk 1 rfl) (by exact hc)).mono ?_
                          rintro e w4 ⟨rfl, hr, ho⟩
                          have HF7 := Lib.hid (HF6.out.call 1 ho hr (by refine ⟨?_, ?_, ?_, trivial⟩ <;> (simp only [Fq.apart]; first | omega | (intro b h1 h2; omega) | (intro b h1 h2 h3; omega))))
                          have hz4 : wr.heap.size + 1 ≤ w4.heap.size := by have := ho.size; first | omega | (simp at this; omega)
                          clear HF6 ho hr
                          clear hc
                          go_wp2_with fail
                          go_roundw
                          case rel => exact ⟨acc ++ [c], (((s.dropWhile digC).drop 1).dropWhile digC).drop 1, cnt + (mn : Int), by omega, by rw [List.length_append, List.length_singleton]; omega, by rw [List.length_append, List.length_singleton, List.length_drop]; omega, Lib.hid (by rw [HC.out]; exact HE.out), Lib.hid ⟨(HF7.out.blk 0 rfl), (HF7.out.blk 1 rfl), (HF7.out.blk 2 rfl), (HF7.out.base 3 rfl), trivial⟩⟩
                          case measure => rw [hlen, leftLen_r2 (s := (((s.dropWhile digC).drop 1).dropWhile digC).drop 1) (b := false) (HF7.out.blk 0 rfl), List.length_drop]; omega
end Go.Proofs.YtgfodedmcjkmaaaGreatDoor
namespace Go.Proofs.YtgfodedmcjkmaaaGreatDoor
open Go.RowKit Go.Proofs.BitsM
set_option maxRecDepth 100000 in
set_option maxHeartbeats 8000000 in
theorem s_bits (R : Nat) (l : List UInt8) (w : World) (hr : Rr R l false w) (hl : l.length ≤ 1000000) (n0 : (!false && hp l [91, 93]) = false) (n1 : (!false && hp l [91]) = false) (n2 : (!false && hp l [123]) = false) (hy : hp l [60, 60] = true) (rd : Rdr) (j : Nat) (hlj : l.length ≤ j) :
    Calls Tryz.prog 30 #[.pointer (some ⟨R, 0, none⟩)] w (TQ (pSign false rd j l) R l false w) := by
  have hRw : R < w.heap.size := lt_of_block hr
  have N0 := Lib.hid n0
  clear n0
  have N1 := Lib.hid n1
  clear n1
  have N2 := Lib.hid n2
  clear n2
  have hl1 : 1 ≤ l.length := by have h1 := hp_len hy; simp only [List.length_cons, List.length_nil] at h1; omega
  have HY := Lib.hid hy
  clear hy
  have HF0 := Lib.hid (show Bq w [.blk R #[.string (ba (l)), .bool (false)] 60, .base (fun b => b = R) w] from ⟨hr, Ch.refl _ _, trivial⟩)
  clear hr
  go_enter Tryz.func30, Tryz.ntmps30
  go_wp2_with fail
  have HF1 := Lib.hid (HF0.out.box #[.int .i64 0, .int .i64 0, .int .i64 0, .string ⟨#[]⟩, .string ⟨#[]⟩, .int .i64 0, .slice none 0 0, .string ⟨#[]⟩, .int .i64 0] 24 (n := w.heap.size) (by rfl))
  clear HF0
  have HF2 := Lib.hid (HF1.out.box #[.int .i64 0, .int .i64 0, .int .i64 0, .string ⟨#[]⟩, .string ⟨#[]⟩, .int .i64 0, .slice none 0 0, .string ⟨#[]⟩, .int .i64 0] 24 (n := w.heap.size + 1) (by simp))
  clear HF1
  refine (eat_not R l ⟨#[91, 93]⟩ false _ (HF2.out.blk 2 rfl) N0.out).mono ?_
  rintro e w1 ⟨rfl, hr, ho⟩
  have HF3 := Lib.hid (HF2.out.call 2 ho hr (by refine ⟨?_, ?_, ?_, trivial⟩ <;> (simp only [Fq.apart]; first | omega | (intro b h1 h2; omega) | (intro b h1 h2 h3; omega))))
  have hz1 : w.heap.size + 2 ≤ w1.heap.size := by have := ho.size; first | omega | (simp at this; omega)
  clear HF2 ho hr
  go_wp2_with fail
  refine (eat_not R l ⟨#[91]⟩ false _ (HF3.out.blk 0 rfl) N1.out).mono ?_
  rintro e w2 ⟨rfl, hr, ho⟩
  have HF4 := Lib.hid (HF3.out.call 0 ho hr (by refine ⟨?_, ?_, ?_, trivial⟩ <;> (simp only [Fq.apart]; first | omega | (intro b h1 h2; omega) | (intro b h1 h2 h3; omega))))
  have hz2 : w1.heap.size ≤ w2.heap.size := by have := ho.size; first | omega | (simp at this; omega)
  clear HF3 ho hr
  go_wp2_with fail
  refine (eat_not R l ⟨#[123]⟩ false _ (HF4.out.blk 0 rfl) N2.out).mono ?_
  rintro e w3 ⟨rfl, hr, ho⟩
  have HF5 := Lib.hid (HF4.out.call 0 ho hr (by refine ⟨?_, ?_, ?_, trivial⟩ <;> (simp only [Fq.apart]; first | omega | (intro b h1 h2; omega) | (intro b h1 h2 h3; omega))))
  have hz3 : w2.heap.size ≤ w3.heap.size := by have := ho.size; first | omega | (simp at this; omega)
  clear HF4 ho hr
  go_wp2_with fail
  refine (eat_yes2 R l ⟨#[60, 60]⟩ _ (HF5.out.blk 0 rfl) HY.out).mono ?_
  rintro e w4 ⟨rfl, hr, ho⟩
  have HF6 := Lib.hid (HF5.out.call 0 ho hr (by refine ⟨?_, ?_, ?_, trivial⟩ <;> (simp only [Fq.apart]; first | omega | (intro b h1 h2; omega) | (intro b h1 h2 h3; omega))))
  have hz4 : w3.heap.size ≤ w4.heap.size := by have := ho.size; first | omega | (simp at this; omega)
  clear HF5 ho hr
  go_wp2_with fail
  refine (rBits_any R (l.drop 2) j _ (HF6.out.blk 0 rfl) (by rw [List.length_drop]; omega) (by rw [List.length_drop]; omega)).mono ?_
  rintro e w5 ⟨acc, n, l1, b1, rfl, hr, ho, hsl, hres⟩
  have HRes := Lib.hid hres
  clear hres
  rw [List.length_drop] at hsl
  have HF7 := Lib.hid (HF6.out.call 0 ho hr (by refine ⟨?_, ?_, ?_, trivial⟩ <;> (simp only [Fq.apart]; first | omega | (intro b h1 h2; omega) | (intro b h1 h2 h3; omega))))
  have hz5 : w4.heap.size ≤ w5.heap.size := by have := ho.size; first | omega | (simp at this; omega)
  clear HF6 ho hr
  obtain ⟨c0, c1, c2, c3, c4, c5, c6, c7, c8, fr⟩ := nine_cells (HF7.out.blk 1 rfl)
  obtain ⟨d0, d1, d2, d3, d4, d5, d6, d7, d8, fs⟩ := nine_cells (HF7.out.blk 2 rfl)
  have hb0 := lt_of_block (HF7.out.blk 1 rfl)
  have hb1 := lt_of_block (HF7.out.blk 2 rfl)
  go_wp2_with fail
  have HF8 := Lib.hid (HF7.out.put 1 rfl (by refine ⟨?_, ?_, ?_, trivial⟩ <;> (simp only [Fq.apart]; first | omega | (intro b h1 h2; omega) | (intro b h1 h2 h3; omega))) (.int .i64 10) (.int .i64 0) (.int .i64 0) (.string ⟨#[]⟩) (.string ⟨#[]⟩) (.int .i64 0) (.slice none 0 0) (.string (ba acc)) (.int .i64 n))
  clear HF7
  have HF9 := Lib.hid (HF8.out.put 2 rfl (by refine ⟨?_, ?_, ?_, trivial⟩ <;> (simp only [Fq.apart]; first | omega | (intro b h1 h2; omega) | (intro b h1 h2 h3; omega))) (.int .i64 10) (.int .i64 0) (.int .i64 0) (.string ⟨#[]⟩) (.string ⟨#[]⟩) (.int .i64 0) (.slice none 0 0) (.string (ba acc)) (.int .i64 n))
  clear HF8
  refine bodyPost_ret (results_one rfl _ _ _ _ _ _ _ _ _ _ _ _ rfl (HF9.out.blk 0 rfl)) rfl ?_
  exact ⟨bitF acc n, .nil, none, 0, l1, b1, rfl, RdS.nil _ _ _, (HF9.out.blk 2 rfl), (HF9.out.base 3 rfl), by omega, (fun h => by cases h), (fun _ => by unfold pSign; rw [if_neg (by simpa using N0.out), if_neg (by simpa using N1.out), if_neg (by simpa using N2.out), if_pos HY.out, HRes.out]; cases b1 <;> rfl)⟩
theorem TQ.other {o o' : Option (Fd × TL × List UInt8)} {R : Nat} {l : List UInt8} {w : World} {e : Ending} {w' : World} (h : TQ o R l true w e w') : TQ o' R l true w e w' := by
  obtain ⟨f, it, ai, ci, l', b', h1, h2, h3, h4, h5, h6, -⟩ := h
  exact ⟨f, it, ai, ci, l', b', h1, h2, h3, h4, h5, h6, fun h => by cases h⟩
theorem rsign_plain {rd : Rdr} {j : Nat} {l : List UInt8} (h0 : hp l [91, 93] = false) (h1 : hp l [91] = false) (h2 : hp l [123] = false) (h3 : hp l [60, 60] = false) (h4 : hp l [60] = false) (h5 : hp l [35, 82, 101, 102, 60] = false) (h6 : hp l [35, 70, 117, 110, 60] = false) (h7 : hp l [102, 117, 110, 32] = false) : pSign false rd j l = pPlain false l := by
  unfold pSign
  rw [if_neg (by rw [h0]; decide), if_neg (by rw [h1]; decide), if_neg (by rw [h2]; decide), if_neg (by rw [h3]; decide), if_neg (by rw [h4]; decide), if_neg (by rw [h5]; decide), if_neg (by rw [h6]; decide), if_neg (by rw [h7]; decide)]
theorem term_bad (R : Nat) (l : List UInt8) (w : World) (hr : Rr R l true w) (hl : l.length ≤ 1000000) (o : Option (Fd × TL × List UInt8)) :
    Calls Tryz.prog 30 #[.pointer (some ⟨R, 0, none⟩)] w (TQ o R l true w) := by
  cases l with
  | nil => exact (s_name_b0 R w hr hl rfl rfl rfl rfl rfl rfl rfl rfl).mono fun _ _ h => h.other
  | cons a t =>
    cases hd : digC a with
    | true => exact (s_int R a t true w hr hl rfl rfl rfl rfl rfl rfl rfl rfl hd).mono fun _ _ h => h.other
    | false => exact (s_name_b1 R a t w hr hl rfl rfl rfl rfl rfl rfl rfl rfl hd).mono fun _ _ h => h.other
theorem term_good (j d : Nat) (hT : TermCr j (d + 1)) (hj : j ≤ 1000000) (R : Nat) (l : List UInt8) (w : World) (hr : Rr R l false w) (hlj : l.length ≤ j) :
    Calls Tryz.prog 30 #[.pointer (some ⟨R, 0, none⟩)] w (TQ (pSign false (pTerm false j (d + 1)) j l) R l false w) := by
  have hl : l.length ≤ 1000000 := Nat.le_trans hlj hj
  cases h0 : hp l [91, 93] with
  | true => exact s_nil R l w hr hl  h0 (pTerm false j (d + 1)) j
  | false =>
  cases h1 : hp l [91] with
  | true => exact s_list R l w hr hl h0 h1 j (d + 1) hT hj hlj
  | false =>
  cases h2 : hp l [123] with
  | true => exact s_tuple R l w hr hl h0 h1 h2 j (d + 1) hT hj hlj
  | false =>
  cases h3 : hp l [60, 60] with
  | true => exact s_bits R l w hr hl h0 h1 h2 h3 (pTerm false j (d + 1)) j hlj
  | false =>
  cases h4 : hp l [60] with
  | true => exact s_pid R l w hr hl h0 h1 h2 h3 h4 (pTerm false j (d + 1)) j
  | false =>
  cases h5 : hp l [35, 82, 101, 102, 60] with
  | true => exact s_ref R l w hr hl h0 h1 h2 h3 h4 h5 (pTerm false j (d + 1)) j
  | false =>
  cases h6 : hp l [35, 70, 117, 110, 60] with
  | true => exact s_fun R l w hr hl h0 h1 h2 h3 h4 h5 h6 j (d + 1) hT hj hlj
  | false =>
  cases h7 : hp l [102, 117, 110, 32] with
  | true => exact s_exp R l w hr hl h0 h1 h2 h3 h4 h5 h6 h7 (pTerm false j (d + 1)) j
  | false =>
  rw [rsign_plain h0 h1 h2 h3 h4 h5 h6 h7]
  cases l with
  | nil => exact s_name_n0 R w hr hl h0 h1 h2 h3 h4 h5 h6 h7
  | cons a t =>
    cases hd : digC a with
    | true => exact s_int R a t false w hr hl h0 h1 h2 h3 h4 h5 h6 h7 hd
    | false => exact s_name_n1 R a t w hr hl h0 h1 h2 h3 h4 h5 h6 h7 hd
theorem termCr_all : ∀ (j d : Nat), j ≤ 1000001 → TermCr j d
  | 0, _, _ => fun _ _ _ _ _ h => absurd h (Nat.not_lt_zero _)
  | j + 1, d, hj => fun R l bad w hr hl => by
    have e : pTerm false (j + 1) d l = pSign false (pTerm false j (d + 1)) j l := by rw [pTerm]; rfl
    rw [e]
    cases bad with
    | true => exact term_bad R l w hr (by omega) _
    | false => exact term_good j d (termCr_all j (d + 1) (by omega)) (by omega) R l w hr (by omega)
theorem rShowRead_any (l : List UInt8) (w : World) (hl : l.length < 1000000) :
    Calls Tryz.prog 13 #[.string (ba l)] w (ReadPost (readRef l) w) := rShowRead_of l w hl (termCr_all _ _ (by omega))
end Go.Proofs.YtgfodedmcjkmaaaGreatDoor
