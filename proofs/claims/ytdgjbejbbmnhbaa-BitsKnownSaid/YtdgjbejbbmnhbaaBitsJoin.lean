/-
  Walks: Join.
-/
import Derived.Test.YtdgjbejbbmnhbaaBitsCut3
namespace Go.Proofs.Ytdgjbejbbmnhbaa
open Go.RowKit Go.Proofs.BitsM
/-- a slice that reads as these bit strings -/
def SlB (w : World) (v : Value) (bs : List (ByteArray × Int)) : Prop :=
  ∃ ao cap, v = .slice ao bs.length cap ∧ (bs ≠ [] → ∃ b off, ao = some ⟨b, off, none⟩ ∧ ∀ i (h : i < bs.length), w.cell? ⟨b, off + i * 2, none⟩ = some (.string bs[i].1) ∧ w.cell? ⟨b, off + i * 2 + 1, none⟩ = some (.int .i64 bs[i].2))
def joinGo : List Bool → List (ByteArray × Int) → Option (List Bool)
  | L, [] => some L
  | L, x :: r => if 16384 - (L.length : Int) < x.2 then none else joinGo (L ++ bitsB x.1 0 x.2.toNat) r
def allV (bs : List (ByteArray × Int)) : Bool := bs.all fun x => validB x.1 x.2
def joinR (bs : List (ByteArray × Int)) : ByteArray × Int × Int :=
  if allV bs = true then (match joinGo [] bs with | some L => (packS L, (L.length : Int), 0) | none => (⟨#[]⟩, 0, 3)) else (⟨#[]⟩, 0, 2)
def bitsRet (r : ByteArray × Int × Int) : Ending := .returned (.tuple #[.agg #[.string r.1, .int .i64 r.2.1], .int .i64 r.2.2])
def okB (bs : List (ByteArray × Int)) : Prop := ∀ x ∈ bs, x.1.size ≤ 4096 ∧ i64ok x.2
theorem Wr_later {w : World} {base B : Nat} {sb : ByteArray} {L : List Bool} (h : Wr w base B sb L) (o : Obj) : Wr (w.alloc o) base B sb L := by
  obtain ⟨v, h1, h2, h3⟩ := h
  exact ⟨v, heap_after h1 o, h2.alloc o, h3⟩
set_option maxHeartbeats 2000000 in
theorem Join_any (v : Value) (bs : List (ByteArray × Int)) (hb : okB bs) (hl : bs.length ≤ 1000) (w : World) (hv : SlB w v bs) :
    Calls Try.prog 14 #[v] w fun e w' => e = bitsRet (joinR bs) ∧ Below w.heap.size w w' := by
  obtain ⟨ao, cap, rfl, hc⟩ := hv
  have HC := Lib.hid hc
  have HO := Lib.hid hb
  clear hc hb
  go_enter Try.func14, Try.ntmps14
  go_wp2_with fail
  go_loopw [11] (fun i wr => ∃ k : Nat, k ≤ bs.length ∧ i = .int .i64 k ∧ Hid (allV (bs.take k) = true) ∧ Hid (wr.heap[w.heap.size]? = some (.cells #[.string ⟨#[]⟩, .int .i64 0] 25 (0, 0))) ∧ Hid (Below w.heap.size w wr)) (fun i _ => bs.length - (intOf i).toNat)
  case atStart => exact ⟨0, by omega, rfl, Lib.hid rfl, Lib.hid (new1_0 _ _), Lib.hid (below_alloc _ _)⟩
  case round =>
    obtain ⟨k, hk, rfl, HA, HR, HB⟩ := hrel
    have hzr := lt_of_block HR.out
    by_cases hlt : k < bs.length
    · obtain ⟨b, off, rfl, hcell⟩ := HC.out (by intro h; rw [h] at hlt; simp at hlt)
      obtain ⟨c0, c1⟩ := hcell k hlt
      have hbw : b < w.heap.size := by
        rcases Nat.lt_or_ge b w.heap.size with h | h
        · exact h
        · simp [World.cell?, Array.getElem?_eq_none h] at c0
      have d0 := (HB.out.cell (p := ⟨b, off + k * 2, none⟩) hbw).trans c0
      have d1 := (HB.out.cell (p := ⟨b, off + k * 2 + 1, none⟩) hbw).trans c1
      obtain ⟨hs, n0, n1⟩ := HO.out bs[k] (List.getElem_mem hlt)
      have HT := Lib.hid (show allV (bs.take (k + 1)) = (allV (bs.take k) && validB bs[k].1 bs[k].2) by
        rw [List.take_succ_eq_append_getElem hlt, allV, List.all_append]; simp [allV])
      clear hcell c0 c1
      generalize bs[k].1 = s at *
      generalize bs[k].2 = n at *
      have hsm : s.size ≤ maxLen := by rw [maxLen_val]; omega
      by_cases hv : validB s n = true
      · go_wp2_with fail
        refine (Valid_any _ _ hsm n0 n1 _).mono ?_
        rintro e w1 ⟨rfl, hb⟩
        have HR1 := Lib.hid ((hb.block w.heap.size (by simp; omega)).trans (heap_after HR.out _))
        have HB1 := Lib.hid ((HB.out.alloc (by omega) _).trans (hb.mono (by simp; omega)))
        clear hb d0 d1
        go_wp2_with fail
        go_roundw
        case rel => exact ⟨k + 1, by omega, by go_num, Lib.hid (by rw [HT.out, HA.out, hv]; rfl), HR1, HB1⟩
        case measure => simp only [intOf]; omega
      · have hv' : validB s n = false := by simpa using hv
        have hall := Lib.hid (show allV bs = false by
          cases h : allV bs
          · rfl
          · exfalso
            have h2 : allV (bs.take (k + 1)) = true := List.all_eq_true.2 fun x hx => List.all_eq_true.1 h x (List.mem_of_mem_take hx)
            rw [HT.out, hv'] at h2
            simp at h2)
        clear hv
        go_wp2_with fail
        refine (Valid_any _ _ hsm n0 n1 _).mono ?_
        rintro e w1 ⟨rfl, hb⟩
        have hR1 := (hb.block w.heap.size (by simp; omega)).trans (heap_after HR.out _)
        have HB1 := Lib.hid ((HB.out.alloc (by omega) _).trans (hb.mono (by simp; omega)))
        have HR1 := Lib.hid hR1
        have g0 := cell3 hR1 0
        have g1 := cell3 hR1 1
        have f0 := free3 hR1 0
        have f1 := free3 hR1 1
        clear hb hR1
        go_wp2_with fail
        obtain ⟨q0, q1⟩ := two_set HR1.out (.string ⟨#[]⟩) (.int .i64 0)
        refine bodyPost_ret (v := .tuple #[.agg #[.string ⟨#[]⟩, .int .i64 0], .int .i64 2]) (by simp [results, Try.results14, go_sem, q0, q1]) rfl ⟨?_, ?_⟩
        · simp [joinR, hall.out, bitsRet]
        · exact (HB1.out.setCell (by exact Nat.le_refl _) _).setCell (by exact Nat.le_refl _) _
    · have HALL := Lib.hid (show allV bs = true by rw [← HA.out, List.take_of_length_le (by omega)])
      obtain rfl : k = bs.length := by omega
      obtain ⟨wo, rfl⟩ : ∃ wo : World, wo = wr := ⟨_, rfl⟩
      go_wp2_with fail
      go_loopw [22] (fun i wq => ∃ (k : Nat) (L : List Bool), k ≤ bs.length ∧ i = .int .i64 k ∧ L.length ≤ 16384 ∧ Hid (joinGo [] bs = joinGo L (bs.drop k)) ∧ Hid (Wr wq wo.heap.size wo.heap.size ⟨#[]⟩ L) ∧ Hid (wq.heap[w.heap.size]? = some (.cells #[.string ⟨#[]⟩, .int .i64 0] 25 (0, 0))) ∧ Hid (Below w.heap.size w wq)) (fun i _ => bs.length - (intOf i).toNat)
      case atStart => exact ⟨0, [], by omega, rfl, by simp, Lib.hid rfl, Lib.hid (Wr_new _ _ (Nat.le_refl _)), Lib.hid (heap_after HR.out _), Lib.hid (HB.out.alloc (by omega) _)⟩
      case round =>
        obtain ⟨k, L, hk, rfl, hL, HJ, HW, HRq, HBq⟩ := hrel
        have hzr2 := lt_of_block HRq.out
        have hWc := HW.out
        obtain ⟨vw, hwh, _⟩ := hWc
        have hzq : wo.heap.size < wr.heap.size := lt_of_block hwh
        by_cases hlt : k < bs.length
        · obtain ⟨b, off, rfl, hcell⟩ := HC.out (by intro h; rw [h] at hlt; simp at hlt)
          obtain ⟨c0, c1⟩ := hcell k hlt
          have hbw : b < w.heap.size := by
            rcases Nat.lt_or_ge b w.heap.size with h | h
            · exact h
            · simp [World.cell?, Array.getElem?_eq_none h] at c0
          have d0 := (HBq.out.cell (p := ⟨b, off + k * 2, none⟩) hbw).trans c0
          have d1 := (HBq.out.cell (p := ⟨b, off + k * 2 + 1, none⟩) hbw).trans c1
          obtain ⟨hs, n0, n1⟩ := HO.out bs[k] (List.getElem_mem hlt)
          have hval : validB bs[k].1 bs[k].2 = true := List.all_eq_true.1 HALL.out _ (List.getElem_mem hlt)
          have HD := Lib.hid (List.drop_eq_getElem_cons hlt)
          have hn0 := (valid_size hval).1
          have hn8 := valid_le hval
          have e1 := cells_later hwh 1
          simp only [List.getElem?_toArray, List.getElem?_cons_succ, List.getElem?_cons_zero] at e1
          clear hcell c0 c1 hval hwh
          generalize hx : bs[k] = x at *
          obtain ⟨s, n⟩ := x
          clear hx
          simp only at hs n0 n1 d0 d1 hn0 hn8
          obtain ⟨m, rfl⟩ := Int.eq_ofNat_of_zero_le hn0
          by_cases hlong : 16384 - (L.length : Int) < (m : Int)
          · have HJ2 := Lib.hid (show joinGo [] bs = none by rw [HJ.out, HD.out, joinGo, if_pos hlong])
            have g0 := cell3 HRq.out 0
            have g1 := cell3 HRq.out 1
            have f0 := free3 HRq.out 0
            have f1 := free3 HRq.out 1
            simp only [List.getElem?_toArray, List.getElem?_cons_succ, List.getElem?_cons_zero] at g0 g1
            go_wp2_with fail
            have hq := heap_after (block_setCell (block_setCell HRq.out 0 (.string ⟨#[]⟩)) 1 (.int .i64 0)) (.cells #[.string s, .int .i64 m] 25)
            have q0 : _ = some (Value.string ⟨#[]⟩) := cell3 hq 0
            have q1 : _ = some (Value.int .i64 0) := cell3 hq 1
            refine bodyPost_ret (v := .tuple #[.agg #[.string ⟨#[]⟩, .int .i64 0], .int .i64 3]) (by simp [results, Try.results14, go_sem, q0, q1]) rfl ⟨?_, ?_⟩
            · simp [joinR, HALL.out, HJ2.out, bitsRet]
            · exact ((HBq.out.setCell (by exact Nat.le_refl _) _).setCell (by exact Nat.le_refl _) _).alloc (by simp only [hsize_set]; omega) _
          · have HJ2 := Lib.hid (show joinGo [] bs = joinGo (L ++ bitsB s 0 m) (bs.drop (k + 1)) by rw [HJ.out, HD.out, joinGo, if_neg hlong]; rfl)
            go_wp2_with fail
            refine (add_any s 0 m wo.heap.size wo.heap.size ⟨#[]⟩ L _ (by omega) (by omega) (by omega) (Wr_later HW.out _)).mono ?_
            rintro e w1 ⟨rfl, hW1, hb1⟩
            have HW1 := Lib.hid hW1
            have HR1 := Lib.hid ((hb1.block w.heap.size (by omega)).trans (heap_after HRq.out _))
            have HB1 := Lib.hid ((HBq.out.alloc (by omega) _).trans (hb1.mono (by omega)))
            clear hW1 hb1
            go_wp2_with fail
            go_roundw
            case rel => exact ⟨k + 1, L ++ bitsB s 0 m, by omega, by go_num, by simp; omega, HJ2, HW1, HR1, HB1⟩
            case measure => simp only [intOf]; omega
        · obtain rfl : k = bs.length := by omega
          have HJ2 := Lib.hid (show joinGo [] bs = some L by rw [HJ.out, List.drop_of_length_le (Nat.le_refl _)]; rfl)
          go_wp2_with fail
          refine (done_any _ wo.heap.size _ _ _ (by omega) HW.out).mono ?_
          rintro e w3 ⟨rfl, hb3⟩
          have hR := (hb3.block w.heap.size (by omega)).trans HRq.out
          have HB3 := Lib.hid (HBq.out.trans (hb3.mono (by omega)))
          have HR3 := Lib.hid hR
          have g0 := cell3 hR 0
          have g1 := cell3 hR 1
          have f0 := free3 hR 0
          have f1 := free3 hR 1
          clear hR hb3
          go_wp2_with fail
          obtain ⟨q0, q1⟩ := two_set HR3.out (.string (packS L)) (.int .i64 L.length)
          refine bodyPost_ret (v := .tuple #[.agg #[.string (packS L), .int .i64 L.length], .int .i64 0]) (by simp [results, Try.results14, go_sem, q0, q1]) rfl ⟨?_, ?_⟩
          · simp [joinR, HALL.out, HJ2.out, bitsRet]
          · exact (HB3.out.setCell (by exact Nat.le_refl _) _).setCell (by exact Nat.le_refl _) _
end Go.Proofs.Ytdgjbejbbmnhbaa
