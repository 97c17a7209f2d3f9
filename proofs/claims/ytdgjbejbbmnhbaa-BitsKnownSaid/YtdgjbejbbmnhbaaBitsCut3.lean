/-
  Walks: the reference's Cut.
-/
import Derived.Test.YtdgjbejbbmnhbaaBitsCut2
namespace Go.Proofs.Ytdgjbejbbmnhbaa
open Go.RowKit Go.Proofs.BitsM
theorem SlI_nil (w : World) (cap : Nat) (ao : Option Addr) : SlI w (.slice ao 0 cap) [] := ⟨ao, cap, rfl, fun h => absurd rfl h⟩
set_option maxHeartbeats 1000000 in
theorem rCut_bad (s : ByteArray) (n f k : Int) (hs : s.size ≤ maxLen) (hn : i64ok n) (hf : i64ok f) (hk : i64ok k) (hc : cutOk s n f k = false) (w : World) :
    Calls Try.prog 22 #[.agg #[.string s, .int .i64 n], .int .i64 f, .int .i64 k] w fun e w' => e = .returned (.tuple #[.agg #[.string ⟨#[]⟩, .int .i64 0], .int .i64 2]) ∧ Below w.heap.size w w' := by
  obtain ⟨n0, n1⟩ := hn
  obtain ⟨f0, f1⟩ := hf
  obtain ⟨k0, k1⟩ := hk
  rcases cutBad hc with h | ⟨h, h2⟩ | ⟨h, h2, h3⟩ | ⟨h, h2, h3, h4⟩ | ⟨h, h2, h3, h4, h5⟩
  all_goals
    clear hc
    go_enter Try.func22, Try.ntmps22
    go_wp2_with fail
    refine (rValid_any _ _ hs n0 n1 _).mono ?_
    rintro e w1 ⟨rfl, hb⟩
    have hc := bcell hb
    have HB := Lib.hid hb
    have HR := Lib.hid ((hb.block (w.heap.size + 1) (by simp)).trans (new2_1 _ _ _))
    clear hb
    go_wp2_with fail
    all_goals (try (exfalso; omega))
    all_goals
      obtain ⟨q0, q1⟩ := two_set HR.out (.string ⟨#[]⟩) (.int .i64 0)
      refine bodyPost_ret (v := .tuple #[.agg #[.string ⟨#[]⟩, .int .i64 0], .int .i64 2]) (by simp [results, Try.results22, go_sem, q0, q1]) rfl ⟨rfl, ?_⟩
      exact ((((below_alloc _ _).alloc (by simp) _).trans (HB.out.mono (by simp; omega))).setCell (by simp) _).setCell (by simp) _
set_option maxHeartbeats 2000000 in
theorem rCut_ok (s : ByteArray) (n : Nat) (f k : Nat) (hs : s.size ≤ 4096) (hc : cutOk s n f k = true) (w : World) :
    Calls Try.prog 22 #[.agg #[.string s, .int .i64 n], .int .i64 f, .int .i64 k] w fun e w' => e = .returned (.tuple #[.agg #[.string (packS (bitsB s f k)), .int .i64 k], .int .i64 0]) ∧ Below w.heap.size w w' := by
  obtain ⟨h, h2, h3, h4, h5⟩ := cutOk_iff.1 hc
  have h8 := valid_le h
  have hsm : s.size ≤ maxLen := by rw [maxLen_val]; omega
  clear hc
  go_enter Try.func22, Try.ntmps22
  go_wp2_with fail
  refine (rValid_any _ _ hsm (by omega) (by omega) _).mono ?_
  rintro e w1 ⟨rfl, hb⟩
  have hc := bcell hb
  have HB := Lib.hid hb
  have HR := Lib.hid ((hb.block (w.heap.size + 1) (by simp)).trans (new2_1 _ _ _))
  have hz : w.heap.size + 1 < w1.heap.size := by have := hb.size; simp at this; omega
  clear hb
  go_wp2_with fail
  all_goals (try (exfalso; omega))
  refine (List_any s n hs (by omega) _).mono ?_
  rintro e w2 ⟨v, rfl, hown, hb2⟩
  have HR2 := Lib.hid ((hb2.block (w.heap.size + 1) (by omega)).trans HR.out)
  have HB2 := Lib.hid hb2
  have hz2 : w1.heap.size ≤ w2.heap.size := hb2.size
  have hol := hown
  obtain ⟨hlen, hcase⟩ := hown
  clear hb2 hc
  rcases hcase with ⟨rfl, h0⟩ | ⟨g, cap, cur, rfl, hg, hh, hncap, hcap, hsz, htake⟩
  · obtain rfl : n = 0 := h0
    obtain rfl : f = 0 := by omega
    obtain rfl : k = 0 := by omega
    clear hol hlen
    go_wp2_with fail
    refine (Make_any _ [] (by simp) _ (SlI_nil _ _ _)).mono ?_
    rintro e w3 ⟨rfl, hb3⟩
    have hR := (hb3.block (w.heap.size + 1) (by omega)).trans HR2.out
    have HB3 := Lib.hid hb3
    have HR3 := Lib.hid hR
    have g0 := cell3 hR 0
    have g1 := cell3 hR 1
    have f0 := free3 hR 0
    have f1 := free3 hR 1
    have hz3 : w2.heap.size ≤ w3.heap.size := hb3.size
    clear hR hb3
    go_wp2_with fail
    obtain ⟨q0, q1⟩ := two_set HR3.out (.string (packS [])) (.int .i64 0)
    refine bodyPost_ret (v := .tuple #[.agg #[.string (packS []), .int .i64 0], .int .i64 0]) (by simp [results, Try.results22, go_sem, q0, q1]) rfl ⟨rfl, ?_⟩
    have b1 : Below w.heap.size w w1 := ((below_alloc _ _).alloc (by simp) _).trans (HB.out.mono (by simp; omega))
    have b2 : Below w.heap.size w w2 := b1.trans (HB2.out.mono (by omega))
    have b3 : Below w.heap.size w w3 := b2.trans (HB3.out.mono (by omega))
    exact (b3.setCell (by simp) _).setCell (by simp) _
  · have hcell : ∀ i, i < k → w2.cell? ⟨g, f + i, none⟩ = some (.int .i64 ((b01 (bitsB s f k)).getD i 0)) := by
      intro i hi
      rw [hol.cellAt (f + i) (by omega), List.getElem?_map, b01_getD _ _ (by simpa using hi), bitsB_getD _ _ _ _ hi]
      have e : (b01 (bitsB s 0 n))[f + i]? = some ((((bitsB s 0 n).getD (f + i) false).toNat : Nat) : Int) := by
        simp only [b01, List.getElem?_map, List.getD]
        rw [List.getElem?_eq_getElem (by simp; omega)]
        rfl
      rw [e, bitsB_getD _ _ _ _ (by omega), Nat.zero_add]
      rfl
    have HC := Lib.hid hcell
    rw [maxLen_val] at hcap
    by_cases hcf : cap = f
    · obtain rfl : cap = f := hcf
      obtain rfl : k = 0 := by omega
      clear hcell hol hlen hh hsz htake
      go_wp2_with fail
      refine (Make_any _ [] (by simp) _ (SlI_nil _ _ _)).mono ?_
      rintro e w3 ⟨rfl, hb3⟩
      have hR := (hb3.block (w.heap.size + 1) (by omega)).trans HR2.out
      have HB3 := Lib.hid hb3
      have HR3 := Lib.hid hR
      have g0 := cell3 hR 0
      have g1 := cell3 hR 1
      have f0 := free3 hR 0
      have f1 := free3 hR 1
      have hz3 : w2.heap.size ≤ w3.heap.size := hb3.size
      clear hR hb3
      go_wp2_with fail
      obtain ⟨q0, q1⟩ := two_set HR3.out (.string (packS [])) (.int .i64 0)
      refine bodyPost_ret (v := .tuple #[.agg #[.string (packS []), .int .i64 0], .int .i64 0]) (by simp [results, Try.results22, go_sem, q0, q1]) rfl ⟨rfl, ?_⟩
      have b1 : Below w.heap.size w w1 := ((below_alloc _ _).alloc (by simp) _).trans (HB.out.mono (by simp; omega))
      have b2 : Below w.heap.size w w2 := b1.trans (HB2.out.mono (by omega))
      have b3 : Below w.heap.size w w3 := b2.trans (HB3.out.mono (by omega))
      exact (b3.setCell (by simp) _).setCell (by simp) _
    · clear hcell hol hlen hh hsz htake
      go_wp2_with fail
      all_goals (try (exfalso; omega))
      refine (Make_any _ (bitsB s f k) (by simp; omega) _ ⟨some ⟨g, f, none⟩, cap - f, by simp [b01], fun _ => ⟨g, f, rfl, fun i hi => HC.out i (by simpa [b01] using hi)⟩⟩).mono ?_
      rintro e w3 ⟨rfl, hb3⟩
      have hR := (hb3.block (w.heap.size + 1) (by omega)).trans HR2.out
      have HB3 := Lib.hid hb3
      have HR3 := Lib.hid hR
      have g0 := cell3 hR 0
      have g1 := cell3 hR 1
      have f0 := free3 hR 0
      have f1 := free3 hR 1
      have hz3 : w2.heap.size ≤ w3.heap.size := hb3.size
      clear hR hb3
      go_wp2_with fail
      obtain ⟨q0, q1⟩ := two_set HR3.out (.string (packS (bitsB s f k))) (.int .i64 k)
      refine bodyPost_ret (v := .tuple #[.agg #[.string (packS (bitsB s f k)), .int .i64 k], .int .i64 0]) (by simp [results, Try.results22, go_sem, q0, q1]) rfl ⟨rfl, ?_⟩
      have b1 : Below w.heap.size w w1 := ((below_alloc _ _).alloc (by simp) _).trans (HB.out.mono (by simp; omega))
      have b2 : Below w.heap.size w w2 := b1.trans (HB2.out.mono (by omega))
      have b3 : Below w.heap.size w w3 := b2.trans (HB3.out.mono (by omega))
      exact (b3.setCell (by simp) _).setCell (by simp) _
end Go.Proofs.Ytdgjbejbbmnhbaa
