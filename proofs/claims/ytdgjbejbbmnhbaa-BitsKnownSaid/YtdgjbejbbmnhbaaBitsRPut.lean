/-
  Walks: the reference's turned and PutInt.
-/
import Derived.Test.YtdgjbejbbmnhbaaBitsMath4
import Derived.Test.YtdgjbejbbmnhbaaBitsRJoin
import Derived.Test.YtdgjbejbbmnhbaaBitsLawParts
namespace Go.Proofs.Ytdgjbejbbmnhbaa
open Go.RowKit Go.Proofs.BitsM
theorem own_shape2 {w : World} {base e size : Nat} {v : Value} {n : Nat} {xs : List Value} (h : w.ownsRow base e size v n xs) :
    ∃ ao cap, v = .slice ao n cap ∧ n ≤ cap ∧ cap ≤ maxLen ∧ (0 < n → ∃ g, ao = some ⟨g, 0, none⟩ ∧ g < w.heap.size) := by
  rcases h.2 with ⟨rfl, rfl⟩ | ⟨g, cap, cur, rfl, _, hg, hn, hcap, _⟩
  · exact ⟨none, 0, rfl, Nat.le_refl _, Nat.zero_le _, fun h => absurd h (by omega)⟩
  · exact ⟨some ⟨g, 0, none⟩, cap, rfl, hn, hcap, fun _ => ⟨g, rfl, lt_of_block hg⟩⟩
theorem own_cell {w : World} {base e n : Nat} {g cap : Nat} {xs : List Value} (h : w.ownsRow base e 1 (.slice (some ⟨g, 0, none⟩) n cap) n xs) (k : Nat) (hk : k < n) : w.cell? ⟨g, k, none⟩ = xs[k]? := h.cellAt k (by omega)
theorem OwnRet_mk {w w1 : World} {E : TypeId} {n m : Nat} {xs ys : List Value} {v : Value} (h : w1.ownsRow w.heap.size E 1 v n xs) (hb : Below w.heap.size w w1) (hn : n = m) (hx : xs = ys) : OwnRet w E m ys (.returned v) w1 := by
  subst hn hx; exact ⟨v, rfl, h, hb⟩
set_option maxHeartbeats 2000000 in
theorem turned_any (b0 : Nat) (v : Value) (L : List Bool) (q : Nat) (hL : L.length = 8 * q) (hq : q ≤ 1000) (w : World) (hown : w.ownsRow b0 3 1 v (8 * q) (iv L)) :
    Calls Try.prog 43 #[v] w (OwnRet w 3 (8 * q) (iv (turnB L))) := by
  obtain ⟨i0, hi, hz0, hz1, hz2⟩ := info_parts Try.info3
  obtain ⟨ao, cap, rfl, hcap, hmax, hao⟩ := own_shape2 hown
  rw [maxLen_val] at hmax
  have HL := Lib.hid hL
  have HO := Lib.hid hown
  have HA := Lib.hid hao
  clear hL hown hao
  go_enter Try.func43, Try.ntmps43
  go_wp2_with fail
  go_loopw [3, 4] (fun b i wr => ∃ m : Nat, m ≤ q ∧ i = .int .i64 (8 * (m : Int) - 8) ∧ Hid (wr.ownsRow w.heap.size 3 1 b (8 * (q - m)) (iv ((turnB L).take (8 * (q - m))))) ∧ Hid (Below w.heap.size w wr)) (fun _ i _ => (intOf i + 8).toNat)
  case atStart => exact ⟨q, Nat.le_refl _, rfl, Lib.hid (by rw [Nat.sub_self]; exact World.ownsRow_nil _ _ _ _), Lib.hid (Below.refl _ _)⟩
  case round =>
    obtain ⟨m, hm, hie, HR, HB⟩ := hrel
    rcases Nat.eq_zero_or_pos m with rfl | hpos
    · obtain rfl := hie
      have HR' := HR
      go_wp2_with fail
      go_ret
      exact OwnRet_mk HR.out HB.out (by omega) (by rw [List.take_of_length_le (by rw [turnB_length, HL.out]; omega)])
    · obtain ⟨j, rfl⟩ : ∃ j, m = j + 1 := ⟨m - 1, by omega⟩
      rw [show 8 * ((j + 1 : Nat) : Int) - 8 = 8 * (j : Int) by omega] at hie
      obtain rfl := hie
      obtain ⟨g, rfl, hg⟩ := HA.out (by omega)
      have hc1 : Hid (∀ t u, (iv ((L.drop (8 * j)).take 8))[t]? = some u → wr.cell? ((⟨g, 8 * j, none⟩ : Addr).add t) = some u) := Lib.hid fun t u hu => by
        have hlt : t < 8 := by
          rcases Nat.lt_or_ge t 8 with h | h
          · exact h
          · rw [List.getElem?_eq_none (by rw [iv_length, List.length_take]; omega)] at hu; cases hu
        have hcell := own_cell HO.out (8 * j + t) (by omega)
        have ha : ((⟨g, 8 * j, none⟩ : Addr).add t) = ⟨g, 8 * j + t, none⟩ := by
          unfold Addr.add
          by_cases h0 : t = 0 <;> simp [h0]
        rw [ha, HB.out.cell (p := ⟨g, 8 * j + t, none⟩) hg, hcell, ← hu]
        simp only [iv, b01, List.map_map, List.getElem?_map, List.getElem?_take, List.getElem?_drop, if_pos hlt]
      go_wp2_with (first
        | (at_builtin; refine wpList_append_own _ rfl (.tmp 12) (.tmp 17) 61 rfl w.heap.size 3 i0 (.int .i64 0) 1 8 Try.underlying61 hi hz0 hz1 hz2 rfl (by decide) _ _ _ rfl HR.out ⟨g, 8 * j, none⟩ (8 * j + 8 - 8 * j) (cap - 8 * j) (iv ((L.drop (8 * j)).take 8)) rfl ?c0 ?c1 ?c2 ?c3 ?c4 ?c5 ?_))
      case c0 => rw [iv_length, List.length_take, List.length_drop, HL.out]; omega
      case c1 => exact hc1.out
      case c2 => exact iv_one _
      case c3 => rw [maxLen_val]; omega
      case c4 => omega
      case c5 => exact HB.out.size
      intro v' w1 hown' hgrow _
      have hb1 := HB.out.grown hgrow HB.out.size fun k hk => (HR.out.lt k hk).1
      have HN := Lib.hid hown'
      have HB1 := Lib.hid hb1
      clear hown' hgrow hb1
      go_wp2_with fail
      go_roundw
      case rel =>
        refine ⟨j, by omega, by go_num, Lib.hid ?_, HB1⟩
        have h := HN.out
        have e := turnB_take L q (q - (j + 1)) HL.out (by omega)
        rw [show 8 * (q - (j + 1) + 1) = 8 * (q - j) by omega, show q - 1 - (q - (j + 1)) = j by omega] at e
        rw [← iv_append, ← e, show 8 * (q - (j + 1)) + 8 = 8 * (q - j) by omega] at h
        exact h
      case measure => simp only [intOf]; omega
theorem u64_bit (x i : Nat) : wrap64 (((x : Int) / 2 ^ i).tmod 2) = (((x.testBit i).toNat : Nat) : Int) := by
  rw [cast_shr, Int.tmod_eq_emod_of_nonneg (Int.natCast_nonneg _), Nat.toNat_testBit]
  have e : ((x / 2 ^ i : Nat) : Int) % 2 = ((x / 2 ^ i % 2 : Nat) : Int) := by simp
  rw [e]
  exact wrap64_small _ (Int.natCast_nonneg _) (by omega)
theorem b01_bit (L : List Bool) (b : Bool) : iv (L ++ [b]) = iv L ++ [.int .i64 ((b.toNat : Nat) : Int)] := by simp [iv, b01]
set_option maxHeartbeats 4000000 in
theorem rPut_ok (v : Int) (size : Nat) (little : Bool) (hv : i64ok v) (hb : putBad size little = false) (w : World) :
    Calls Try.prog 29 #[.int .i64 v, .int .i64 size, .bool little] w fun e w' => e = bitsRet (putR v size little) ∧ Below w.heap.size w w' := by
  obtain ⟨v0, v1⟩ := hv
  have hs64 : size ≤ 64 := by simp [putBad] at hb; omega
  have hs8 : little = true → size % 8 = 0 := by intro h; subst h; simp [putBad] at hb; omega
  have hfin := Lib.hid (show putR v size little = (packS (endB little (vbits v size)), (size : Int), 0) by rw [← put_end v size little hs8]; simp [putR, hb])
  obtain ⟨i0, hi, hz0, hz1, hz2⟩ := info_parts Try.info3
  have hlo := u64_wrap_low v
  clear hb
  have HS8 := Lib.hid hs8
  clear hs8
  cases little
  · go_enter Try.func29, Try.ntmps29
    go_wp2_with fail
    all_goals (try (exfalso; omega))
    go_loopw [8, 9] (fun b i wr => ∃ m : Nat, m ≤ size ∧ i = .int .i64 ((m : Int) - 1) ∧ Hid (wr.ownsRow (w.heap.size + 1) 3 1 b (size - m) (iv ((vbits v size).take (size - m)))) ∧ Hid (wr.heap[w.heap.size]? = some (.cells #[.string ⟨#[]⟩, .int .i64 0] 25 (0, 0))) ∧ Hid (Below w.heap.size w wr)) (fun _ i _ => (intOf i + 1).toNat)
    case atStart => exact ⟨size, Nat.le_refl _, rfl, Lib.hid (by rw [Nat.sub_self]; exact World.ownsRow_nil _ _ _ _), Lib.hid (new1_0 _ _), Lib.hid (below_alloc _ _)⟩
    case round =>
      obtain ⟨m, hm, hie, HR, HX, HB⟩ := hrel
      rcases Nat.eq_zero_or_pos m with rfl | hpos
      · obtain rfl := hie
        have hown := HR.out
        rw [Nat.sub_zero, List.take_of_length_le (by rw [vbits_length]; omega)] at hown
        have HO := Lib.hid hown
        clear hown
        go_wp2_with fail
        have hmk := Make_any u8 (vbits v size) (by rw [vbits_length]; omega) wr (SlI_own (by rw [vbits_length]; exact HO.out))
        rw [vbits_length] at hmk
        refine hmk.mono ?_
        clear hmk
        rintro e w2 ⟨rfl, hb2⟩
        have HX2 := Lib.hid (blk0 HX.out hb2)
        have HB2 := Lib.hid (bstep HB.out hb2)
        have hz := lt_of_block HX2.out
        have hc2 := bcell hb2
        have e0 := cells_of HX2.out 0
        have e1 := cells_of HX2.out 1
        have f0 := frees_of HX2.out 0
        have f1 := frees_of HX2.out 1
        simp only [List.getElem?_toArray, List.getElem?_cons_succ, List.getElem?_cons_zero] at e0 e1
        clear hb2 hc2
        go_wp2_with fail
        have hq2 := block_setCell (block_setCell HX2.out 0 (.string (packS (vbits v size)))) 1 (.int .i64 (size : Int))
        have q0 := cells_of hq2 0
        have q1 := cells_of hq2 1
        simp only [Array.setIfInBounds] at q0 q1
        refine bodyPost_ret (v := .tuple #[.agg #[.string (packS (vbits v size)), .int .i64 (size : Int)], .int .i64 0]) (by simp [results, Try.results29, go_sem, q0, q1]) rfl ⟨by rw [hfin.out]; rfl, ?_⟩
        exact (HB2.out.setCell (by simp) _).setCell (by simp) _
      · obtain ⟨j, rfl⟩ : ∃ j, m = j + 1 := ⟨m - 1, by omega⟩
        rw [show ((j + 1 : Nat) : Int) - 1 = (j : Int) by omega] at hie
        obtain rfl := hie
        go_wp2_with (first
          | (at_builtin; refine wpList_append_own _ rfl (.tmp 31) (.tmp 39) 61 rfl (w.heap.size + 1) 3 i0 (.int .i64 0) 1 8 Try.underlying61 hi hz0 hz1 hz2 rfl (by decide) _ _ _ rfl (HR.out.alloc _) ⟨wr.heap.size, 0, none⟩ 1 1 [.int .i64 (wrap64 (((lowU v : Int) / 2 ^ j).tmod 2))] rfl rfl ?c1 ?c2 ?c3 ?c4 ?c5 ?_))
        case c1 => exact one_cell_at'
        case c2 => intro u hu; simp at hu; subst hu; rfl
        case c3 => rw [maxLen_val]; omega
        case c4 => omega
        case c5 => have := lt_of_block HX.out; simp; omega
        intro v' w1 hown' hgrow _
        have hx1 := grown_block HR.out hgrow HX.out (by decide)
        have hb1 := grown_below' HB.out HR.out hgrow (by have := lt_of_block HX.out; omega) (by omega)
        have HN := Lib.hid hown'
        have HX1 := Lib.hid hx1
        have HB1 := Lib.hid hb1
        clear hown' hgrow hx1 hb1
        go_wp2_with fail
        go_roundw
        case rel =>
          refine ⟨j, by omega, by go_num, Lib.hid ?_, HX1, HB1⟩
          have h := HN.out
          have e := vbits_take v size (size - (j + 1)) (by omega)
          rw [show size - 1 - (size - (j + 1)) = j by omega, show size - (j + 1) + 1 = size - j by omega] at e
          rw [u64_bit, ← b01_bit, ← e, show size - (j + 1) + 1 = size - j by omega] at h
          exact h
        case measure => simp only [intOf]; omega
  · have h8 : (size : Int) % 8 = 0 := by have := HS8.out rfl; omega
    have h8' : ((size : Int) % 8 != 0) = false := by simpa using h8
    have H8 := Lib.hid h8
    clear h8
    go_enter Try.func29, Try.ntmps29
    go_wp2_with fail
    all_goals (try (exfalso; omega))
    go_loopw [8, 9] (fun b i wr => ∃ m : Nat, m ≤ size ∧ i = .int .i64 ((m : Int) - 1) ∧ Hid (wr.ownsRow (w.heap.size + 1) 3 1 b (size - m) (iv ((vbits v size).take (size - m)))) ∧ Hid (wr.heap[w.heap.size]? = some (.cells #[.string ⟨#[]⟩, .int .i64 0] 25 (0, 0))) ∧ Hid (Below w.heap.size w wr)) (fun _ i _ => (intOf i + 1).toNat)
    case atStart => exact ⟨size, Nat.le_refl _, rfl, Lib.hid (by rw [Nat.sub_self]; exact World.ownsRow_nil _ _ _ _), Lib.hid (new1_0 _ _), Lib.hid (below_alloc _ _)⟩
    case round =>
      obtain ⟨m, hm, hie, HR, HX, HB⟩ := hrel
      rcases Nat.eq_zero_or_pos m with rfl | hpos
      · obtain rfl := hie
        have hown := HR.out
        rw [Nat.sub_zero, List.take_of_length_le (by rw [vbits_length]; omega)] at hown
        have HO := Lib.hid hown
        clear hown
        go_wp2_with fail
        obtain ⟨q, hq⟩ : ∃ q, size = 8 * q := ⟨size / 8, by have := H8.out; omega⟩
        have HQ := Lib.hid hq
        clear hq
        refine (turned_any (w.heap.size + 1) u8 (vbits v size) q (by rw [vbits_length]; exact HQ.out) (by have := HQ.out; omega) wr (by rw [← HQ.out]; exact HO.out)).mono ?_
        rintro e w1 ⟨v1', rfl, ho1, hb1⟩
        have HX1 := Lib.hid (blk0 HX.out hb1)
        have HB1 := Lib.hid (bstep HB.out hb1)
        have HO1 := Lib.hid ho1
        clear ho1 hb1
        go_wp2_with fail
        have hmk := Make_any v1' (turnB (vbits v size)) (by rw [turnB_length, vbits_length]; omega) w1 (SlI_own (by rw [turnB_length, vbits_length, HQ.out]; have h := HO1.out; rw [HQ.out] at h; exact h))
        rw [turnB_length, vbits_length] at hmk
        refine hmk.mono ?_
        clear hmk
        rintro e w2 ⟨rfl, hb2⟩
        have HX2 := Lib.hid (blk0 HX1.out hb2)
        have HB2 := Lib.hid (bstep HB1.out hb2)
        have hz := lt_of_block HX2.out
        have hc2 := bcell hb2
        have e0 := cells_of HX2.out 0
        have e1 := cells_of HX2.out 1
        have f0 := frees_of HX2.out 0
        have f1 := frees_of HX2.out 1
        simp only [List.getElem?_toArray, List.getElem?_cons_succ, List.getElem?_cons_zero] at e0 e1
        clear hb2 hc2
        go_wp2_with fail
        have hq2 := block_setCell (block_setCell HX2.out 0 (.string (packS (turnB (vbits v size))))) 1 (.int .i64 (size : Int))
        have q0 := cells_of hq2 0
        have q1 := cells_of hq2 1
        simp only [Array.setIfInBounds] at q0 q1
        refine bodyPost_ret (v := .tuple #[.agg #[.string (packS (turnB (vbits v size))), .int .i64 (size : Int)], .int .i64 0]) (by simp [results, Try.results29, go_sem, q0, q1]) rfl ⟨by rw [hfin.out]; rfl, ?_⟩
        exact (HB2.out.setCell (by simp) _).setCell (by simp) _
      · obtain ⟨j, rfl⟩ : ∃ j, m = j + 1 := ⟨m - 1, by omega⟩
        rw [show ((j + 1 : Nat) : Int) - 1 = (j : Int) by omega] at hie
        obtain rfl := hie
        go_wp2_with (first
          | (at_builtin; refine wpList_append_own _ rfl (.tmp 31) (.tmp 39) 61 rfl (w.heap.size + 1) 3 i0 (.int .i64 0) 1 8 Try.underlying61 hi hz0 hz1 hz2 rfl (by decide) _ _ _ rfl (HR.out.alloc _) ⟨wr.heap.size, 0, none⟩ 1 1 [.int .i64 (wrap64 (((lowU v : Int) / 2 ^ j).tmod 2))] rfl rfl ?c1 ?c2 ?c3 ?c4 ?c5 ?_))
        case c1 => exact one_cell_at'
        case c2 => intro u hu; simp at hu; subst hu; rfl
        case c3 => rw [maxLen_val]; omega
        case c4 => omega
        case c5 => have := lt_of_block HX.out; simp; omega
        intro v' w1 hown' hgrow _
        have hx1 := grown_block HR.out hgrow HX.out (by decide)
        have hb1 := grown_below' HB.out HR.out hgrow (by have := lt_of_block HX.out; omega) (by omega)
        have HN := Lib.hid hown'
        have HX1 := Lib.hid hx1
        have HB1 := Lib.hid hb1
        clear hown' hgrow hx1 hb1
        go_wp2_with fail
        go_roundw
        case rel =>
          refine ⟨j, by omega, by go_num, Lib.hid ?_, HX1, HB1⟩
          have h := HN.out
          have e := vbits_take v size (size - (j + 1)) (by omega)
          rw [show size - 1 - (size - (j + 1)) = j by omega, show size - (j + 1) + 1 = size - j by omega] at e
          rw [u64_bit, ← b01_bit, ← e, show size - (j + 1) + 1 = size - j by omega] at h
          exact h
        case measure => simp only [intOf]; omega
set_option maxHeartbeats 1000000 in
theorem rPut_bad (v size : Int) (little : Bool) (hv : i64ok v) (hs : i64ok size) (hb : putBad size little = true) (w : World) :
    Calls Try.prog 29 #[.int .i64 v, .int .i64 size, .bool little] w fun e w' => e = bitsRet (putR v size little) ∧ Below w.heap.size w w' := by
  obtain ⟨v0, v1⟩ := hv
  obtain ⟨s0, s1⟩ := hs
  have hfin := Lib.hid (show putR v size little = (⟨#[]⟩, 0, 2) by simp [putR, hb])
  have hbb := putBad_iff.1 hb
  clear hb
  by_cases h0 : size < 0
  · clear hbb
    go_enter Try.func29, Try.ntmps29
    go_wp2_with fail
    exact bodyPost_ret (v := .tuple #[.agg #[.string ⟨#[]⟩, .int .i64 0], .int .i64 2]) (by simp [results, Try.results29, go_sem]) rfl ⟨by rw [hfin.out]; rfl, below_alloc _ _⟩
  · by_cases h1 : 64 < size
    · clear hbb
      go_enter Try.func29, Try.ntmps29
      go_wp2_with fail
      all_goals exact bodyPost_ret (v := .tuple #[.agg #[.string ⟨#[]⟩, .int .i64 0], .int .i64 2]) (by simp [results, Try.results29, go_sem]) rfl ⟨by rw [hfin.out]; rfl, below_alloc _ _⟩
    · obtain ⟨rfl, h8⟩ : little = true ∧ ¬ size % 8 = 0 := hbb.elim (fun h => absurd h h0) fun h => h.elim (fun h => absurd h h1) id
      have h8' : (size % 8 != 0) = true := by simpa using h8
      clear hbb h8
      go_enter Try.func29, Try.ntmps29
      go_wp2_with fail
      all_goals exact bodyPost_ret (v := .tuple #[.agg #[.string ⟨#[]⟩, .int .i64 0], .int .i64 2]) (by simp [results, Try.results29, go_sem]) rfl ⟨by rw [hfin.out]; rfl, below_alloc _ _⟩
end Go.Proofs.Ytdgjbejbbmnhbaa
