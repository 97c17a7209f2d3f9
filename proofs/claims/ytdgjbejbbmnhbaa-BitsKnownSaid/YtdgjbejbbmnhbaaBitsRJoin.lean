/-
  Walks: the reference's Join, and the law BitsJoins.
-/
import Derived.Test.YtdgjbejbbmnhbaaBitsAwake
import Derived.Laws.AppendOwnNone
namespace Go.Proofs.Ytdgjbejbbmnhbaa
open Go.RowKit Go.Proofs.BitsM
theorem own_below {w w1 : World} {base e size n : Nat} {v : Value} {xs : List Value} (h : w.ownsRow base e size v n xs) (hb : Below w.heap.size w w1) : w1.ownsRow base e size v n xs :=
  h.kept (row := none) ⟨hb.os, hb.tape, hb.output, hb.size, fun k hk _ => hb.block k hk⟩ (by cases v.ownBlock <;> simp)
theorem b01_append (L M : List Bool) : b01 (L ++ M) = b01 L ++ b01 M := by simp [b01]
def iv (L : List Bool) : List Value := (b01 L).map (Value.int .i64)
theorem iv_append (L M : List Bool) : iv (L ++ M) = iv L ++ iv M := by simp [iv, b01_append]
theorem iv_length (L : List Bool) : (iv L).length = L.length := by simp [iv, b01]
theorem iv_one (L : List Bool) : ∀ u ∈ iv L, u.oneCell' = true := by
  intro u hu
  simp only [iv, List.mem_map] at hu
  obtain ⟨x, _, rfl⟩ := hu
  rfl
theorem SlI_own {w : World} {base : Nat} {v : Value} {L : List Bool} (h : w.ownsRow base 3 1 v L.length (iv L)) : SlI w v (b01 L) := by
  have hl : (b01 L).length = L.length := by simp [b01]
  rcases h.2 with ⟨rfl, h0⟩ | ⟨g, cap, cur, rfl, hb, hg, hn, hcap, hsz, htake⟩
  · have : L = [] := List.length_eq_zero_iff.1 h0
    subst this
    exact SlI_nil _ _ _
  · refine ⟨some ⟨g, 0, none⟩, cap, by rw [hl], fun _ => ⟨g, 0, rfl, ?_⟩⟩
    intro i hi
    rw [hl] at hi
    rw [Nat.zero_add, h.cellAt i (by omega)]
    simp only [iv, List.getElem?_map, List.getD]
    rw [List.getElem?_eq_getElem (by rw [hl]; exact hi)]
    rfl
set_option maxHeartbeats 2000000 in
theorem rJoin_any (v : Value) (bs : List (ByteArray × Int)) (hb : okB bs) (hl : bs.length ≤ 1000) (w : World) (hv : SlB w v bs) :
    Calls Try.prog 15 #[v] w fun e w' => e = bitsRet (joinR bs) ∧ Below w.heap.size w w' := by
  obtain ⟨ao, cap, rfl, hc⟩ := hv
  have HC := Lib.hid hc
  have HO := Lib.hid hb
  clear hc hb
  obtain ⟨i0, hi, hz0, hz1, hz2⟩ := info_parts Try.info3
  go_enter Try.func15, Try.ntmps15
  go_wp2_with fail
  go_loopw [4] (fun i wr => ∃ k : Nat, k ≤ bs.length ∧ i = .int .i64 k ∧ Hid (allV (bs.take k) = true) ∧ Hid (wr.heap[w.heap.size]? = some (.cells #[.string ⟨#[]⟩, .int .i64 0] 25 (0, 0))) ∧ Hid (Below w.heap.size w wr)) (fun i _ => bs.length - (intOf i).toNat)
  case atStart => exact ⟨0, by omega, rfl, Lib.hid rfl, Lib.hid (new1_0 _ _), Lib.hid (below_alloc _ _)⟩
  case round =>
    obtain ⟨k, hk, rfl, HA, HR, HB⟩ := hrel
    have hzr := lt_of_block HR.out
    by_cases hlt : k < bs.length
    · obtain ⟨b, off, rfl, hcell⟩ := HC.out (by intro h; rw [h] at hlt; simp at hlt)
      obtain ⟨c0, c1⟩ := hcell k hlt
      have hbw : b < w.heap.size := World.block_lt_of_cell? w _ c0
      have d0 := (HB.out.cell (p := ⟨b, off + k * 2, none⟩) hbw).trans c0
      have d1 := (HB.out.cell (p := ⟨b, off + k * 2 + 1, none⟩) hbw).trans c1
      obtain ⟨hs, n0, n1⟩ := HO.out bs[k] (List.getElem_mem hlt)
      have HT := Lib.hid (show allV (bs.take (k + 1)) = (allV (bs.take k) && validB bs[k].1 bs[k].2) by
        rw [List.take_succ_eq_append_getElem hlt, allV, List.all_append]; simp [allV])
      clear hcell c0 c1
      generalize bs[k].1 = s at *
      generalize bs[k].2 = n at *
      have hsm : s.size ≤ maxLen := by rw [maxLen_val]; omega
      by_cases hv : validB s n = true
      · go_wp2_with fail
        refine (rValid_any _ _ hsm n0 n1 _).mono ?_
        rintro e w1 ⟨rfl, hb⟩
        have HR1 := Lib.hid ((hb.block w.heap.size (by omega)).trans HR.out)
        have HB1 := Lib.hid (bstep HB.out hb)
        clear hb d0 d1
        go_wp2_with fail
        go_roundw
        case rel => exact ⟨k + 1, by omega, by go_num, Lib.hid (by rw [HT.out, HA.out, hv]; rfl), HR1, HB1⟩
        case measure => simp only [intOf]; omega
      · have hv' : validB s n = false := by simpa using hv
        have hall := Lib.hid (show allV bs = false by
          cases h : allV bs
          · rfl
          · exfalso
            have h2 : allV (bs.take (k + 1)) = true := List.all_eq_true.2 fun x hx => List.all_eq_true.1 h x (List.mem_of_mem_take hx)
            rw [HT.out, hv'] at h2
            simp at h2)
        clear hv
        go_wp2_with fail
        refine (rValid_any _ _ hsm n0 n1 _).mono ?_
        rintro e w1 ⟨rfl, hb⟩
        have hR1 := (hb.block w.heap.size (by omega)).trans HR.out
        have HB1 := Lib.hid (bstep HB.out hb)
        have HR1 := Lib.hid hR1
        have g0 := cell3 hR1 0
        have g1 := cell3 hR1 1
        have f0 := free3 hR1 0
        have f1 := free3 hR1 1
        clear hb hR1
        go_wp2_with fail
        obtain ⟨q0, q1⟩ := two_set HR1.out (.string ⟨#[]⟩) (.int .i64 0)
        refine bodyPost_ret (v := .tuple #[.agg #[.string ⟨#[]⟩, .int .i64 0], .int .i64 2]) (by simp [results, Try.results15, go_sem, q0, q1]) rfl ⟨?_, ?_⟩
        · simp [joinR, hall.out, bitsRet]
        · exact (HB1.out.setCell (by exact Nat.le_refl _) _).setCell (by exact Nat.le_refl _) _
    · have HALL := Lib.hid (show allV bs = true by rw [← HA.out, List.take_of_length_le (by omega)])
      obtain rfl : k = bs.length := by omega
      obtain ⟨wo, rfl⟩ : ∃ wo : World, wo = wr := ⟨_, rfl⟩
      go_wp2_with fail
      go_loopw [5, 6] (fun va i wq => ∃ (k : Nat) (L : List Bool), k ≤ bs.length ∧ i = .int .i64 k ∧ L.length ≤ 16384 ∧ (∃ ao cp, va = .slice ao L.length cp) ∧ Hid (joinGo [] bs = joinGo L (bs.drop k)) ∧ Hid (wq.ownsRow (w.heap.size + 1) 3 1 va L.length (iv L)) ∧ Hid (wq.heap[w.heap.size]? = some (.cells #[.string ⟨#[]⟩, .int .i64 0] 25 (0, 0))) ∧ Hid (Below w.heap.size w wq)) (fun _ i _ => bs.length - (intOf i).toNat)
      case atStart => exact ⟨0, [], by omega, rfl, by simp, ⟨_, _, rfl⟩, Lib.hid rfl, Lib.hid (World.ownsRow_nil _ _ _ _), HR, HB⟩
      case round =>
        obtain ⟨k, L, hk, rfl, hL, ⟨ao', cp, rfl⟩, HJ, HW, HRq, HBq⟩ := hrel
        have hzr2 := lt_of_block HRq.out
        by_cases hlt : k < bs.length
        · obtain ⟨b, off, rfl, hcell⟩ := HC.out (by intro h; rw [h] at hlt; simp at hlt)
          obtain ⟨c0, c1⟩ := hcell k hlt
          have hbw : b < w.heap.size := World.block_lt_of_cell? w _ c0
          have d0 := (HBq.out.cell (p := ⟨b, off + k * 2, none⟩) hbw).trans c0
          have d1 := (HBq.out.cell (p := ⟨b, off + k * 2 + 1, none⟩) hbw).trans c1
          obtain ⟨hs, n0, n1⟩ := HO.out bs[k] (List.getElem_mem hlt)
          have hval : validB bs[k].1 bs[k].2 = true := List.all_eq_true.1 HALL.out _ (List.getElem_mem hlt)
          have HD := Lib.hid (List.drop_eq_getElem_cons hlt)
          have hn0 := (valid_size hval).1
          have hn8 := valid_le hval
          clear hcell c0 c1 hval
          generalize hx : bs[k] = x at *
          obtain ⟨s, n⟩ := x
          clear hx
          simp only at hs n0 n1 d0 d1 hn0 hn8
          obtain ⟨m, rfl⟩ := Int.eq_ofNat_of_zero_le hn0
          by_cases hlong : 16384 - (L.length : Int) < (m : Int)
          · have HJ2 := Lib.hid (show joinGo [] bs = none by rw [HJ.out, HD.out, joinGo, if_pos hlong])
            have g0 := cell3 HRq.out 0
            have g1 := cell3 HRq.out 1
            have f0 := free3 HRq.out 0
            have f1 := free3 HRq.out 1
            go_wp2_with fail
            obtain ⟨q0, q1⟩ := two_set HRq.out (.string ⟨#[]⟩) (.int .i64 0)
            refine bodyPost_ret (v := .tuple #[.agg #[.string ⟨#[]⟩, .int .i64 0], .int .i64 3]) (by simp [results, Try.results15, go_sem, q0, q1]) rfl ⟨?_, ?_⟩
            · simp [joinR, HALL.out, HJ2.out, bitsRet]
            · exact (HBq.out.setCell (by exact Nat.le_refl _) _).setCell (by exact Nat.le_refl _) _
          · have HJ2 := Lib.hid (show joinGo [] bs = joinGo (L ++ bitsB s 0 m) (bs.drop (k + 1)) by rw [HJ.out, HD.out, joinGo, if_neg hlong]; rfl)
            go_wp2_with fail
            refine (List_any s m hs (by omega) _).mono ?_
            rintro e w1 ⟨vl, rfl, hown1, hb1⟩
            have HW1 := Lib.hid (show w1.ownsRow (w.heap.size + 1) 3 1 (.slice ao' L.length cp) L.length (iv L) from own_below HW.out hb1)
            have HR1 := Lib.hid ((hb1.block w.heap.size (by omega)).trans HRq.out)
            have HB1 := Lib.hid (bstep HBq.out hb1)
            have hzz : w.heap.size + 1 ≤ w1.heap.size := by have := hb1.size; omega
            have hcase := hown1.2
            have HN1 := Lib.hid hown1
            clear hb1 hown1
            rcases hcase with ⟨rfl, h0⟩ | ⟨g, cp1, cur, rfl, _⟩
            · obtain rfl : m = 0 := h0
              go_wp2_with (first
                | (at_builtin; refine wpList_append_own_none rfl (.tmp 36) (.tmp 41) 61 rfl (w.heap.size + 1) 3 i0 1 Try.underlying61 hi _ _ _ rfl HW1.out rfl ?_))
              go_roundw
              case rel => exact ⟨k + 1, L, by omega, by go_num, hL, ⟨_, _, rfl⟩, Lib.hid (by rw [HJ2.out, bitsB_zero, List.append_nil]), HW1, HR1, HB1⟩
              case measure => simp only [intOf]; omega
            · go_wp2_with (first
                | (at_builtin; refine wpList_append_own _ rfl (.tmp 36) (.tmp 41) 61 rfl (w.heap.size + 1) 3 i0 (.int .i64 0) 1 8 Try.underlying61 hi hz0 hz1 hz2 rfl (by decide) _ _ _ rfl HW1.out ⟨g, 0, none⟩ m cp1 (iv (bitsB s 0 m)) rfl (by rw [iv_length, bitsB_length, Nat.mul_one]) (HN1.out.cells rfl) (iv_one _) ?c3 ?c4 ?c5 ?_))
              case c3 => rw [maxLen_val]; omega
              case c4 => omega
              case c5 => exact hzz
              · intro v' w2 hown' hgrow _
                have hx1 := (hgrow.block w.heap.size (lt_of_block HR1.out) (fun h => own_ne HW1.out HR1.out (by decide) h.symm)).trans HR1.out
                have hb2 := HB1.out.grown hgrow (Nat.le_of_lt (lt_of_block HR1.out)) (fun k hk => Nat.le_trans (Nat.le_succ _) (HW1.out.lt k hk).1)
                have hsh : ∃ ao cp, v' = .slice ao (L.length + m) cp := by
                  rcases hown'.2 with ⟨rfl, h0⟩ | ⟨g', cp', _, rfl, _⟩
                  · exact ⟨_, _, by rw [h0]⟩
                  · exact ⟨_, _, rfl⟩
                have HN := Lib.hid hown'
                have HX2 := Lib.hid hx1
                have HB2 := Lib.hid hb2
                clear hgrow hown' hx1 hb2
                go_wp2_with fail
                go_roundw
                case rel => exact ⟨k + 1, L ++ bitsB s 0 m, by omega, by go_num, by simp; omega, by simpa using hsh, HJ2, Lib.hid (by rw [iv_append, List.length_append, bitsB_length]; exact HN.out), HX2, HB2⟩
                case measure => simp only [intOf]; omega
        · obtain rfl : k = bs.length := by omega
          have HJ2 := Lib.hid (show joinGo [] bs = some L by rw [HJ.out, List.drop_of_length_le (Nat.le_refl _)]; rfl)
          have hsl := Lib.hid (SlI_own HW.out)
          go_wp2_with fail
          refine (Make_any _ L (by omega) _ hsl.out).mono ?_
          rintro e w3 ⟨rfl, hb3⟩
          have hR := (hb3.block w.heap.size (by omega)).trans HRq.out
          have HB3 := Lib.hid (bstep HBq.out hb3)
          have HR3 := Lib.hid hR
          have g0 := cell3 hR 0
          have g1 := cell3 hR 1
          have f0 := free3 hR 0
          have f1 := free3 hR 1
          clear hR hb3
          go_wp2_with fail
          obtain ⟨q0, q1⟩ := two_set HR3.out (.string (packS L)) (.int .i64 L.length)
          refine bodyPost_ret (v := .tuple #[.agg #[.string (packS L), .int .i64 L.length], .int .i64 0]) (by simp [results, Try.results15, go_sem, q0, q1]) rfl ⟨?_, ?_⟩
          · simp [joinR, HALL.out, HJ2.out, bitsRet]
          · exact (HB3.out.setCell (by exact Nat.le_refl _) _).setCell (by exact Nat.le_refl _) _
end Go.Proofs.Ytdgjbejbbmnhbaa
