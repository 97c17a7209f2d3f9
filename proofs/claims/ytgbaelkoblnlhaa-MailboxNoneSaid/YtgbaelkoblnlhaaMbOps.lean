/-
  Walks: the small functions of the mailbox.
-/
import Derived.Test.YtgbaelkoblnlhaaMb
namespace Go.Proofs.Ytgbaelkoblnlhaa
open Go.RowKit
theorem New_any (w : World) : Calls Try.prog 58 #[] w fun e w' => e = .returned (.pointer (some ⟨w.heap.size, 0, none⟩)) ∧ Mb w' (fun b => b = w.heap.size) w.heap.size .nil 0 [] ∧ Below w.heap.size w w' ∧ w'.heap.size = w.heap.size + 1 := by
  go_enter Try.func58, Try.ntmps58
  go_wp2_with fail
  go_ret
  refine ⟨rfl, ⟨heap_alloc_new _ _, rfl, Nat.le_refl _, by simp, by simp, by simp, rfl⟩, below_alloc _ _, by simp⟩
theorem none_no (B : Nat) (w : World) (c0 : w.cell? ⟨B, 0, none⟩ = some (.bool true)) : Calls Try.prog 83 #[.pointer (some ⟨B, 0, none⟩)] w fun e w' => e = .returned (.bool false) ∧ w = w' := by
  go_enter Try.func83, Try.ntmps83
  go_wp2_with fail
  go_ret
  exact ⟨rfl, rfl⟩
theorem none_bad (B : Nat) (w : World) (c0 : w.cell? ⟨B, 0, none⟩ = some (.bool false)) : Calls Try.prog 83 #[.pointer (some ⟨B, 0, none⟩)] w fun e w' => e = .returned (.bool true) ∧ w = w' := by
  go_enter Try.func83, Try.ntmps83
  go_wp2_with fail
  go_ret
  exact ⟨rfl, rfl⟩
theorem none_nil (w : World) : Calls Try.prog 83 #[.pointer none] w fun e w' => e = .returned (.bool true) ∧ w = w' := by
  go_enter Try.func83, Try.ntmps83
  go_wp2_with fail
  go_ret
  exact ⟨rfl, rfl⟩
/-- the element at the position -/
theorem here_any {S : Nat → Prop} {B : Nat} {l : TL} {p : Nat} {bs : List Nat} {w : World} (hM : Mb w S B l p bs) : Calls Try.prog 85 #[.pointer (some ⟨B, 1, none⟩)] w fun e w' => e = .returned (pt bs[p]?) ∧ w = w' := by
  have d1 := cells_of hM.box 1
  have d3 := cells_of hM.box 3
  simp only [List.getElem?_toArray, List.getElem?_cons_succ, List.getElem?_cons_zero] at d1 d3
  cases p with
  | zero =>
    rw [pt_head] at d1
    clear hM
    generalize pt bs[0]? = x at *
    simp only [seenP, pt] at d3
    go_enter Try.func85, Try.ntmps85
    go_wp2_with fail
    go_ret
    exact ⟨rfl, rfl⟩
  | succ k =>
    have hk : k < l.len := hM.pos
    obtain ⟨f, it, hd⟩ := l.drop_at k hk
    obtain ⟨b, ai, ci, hb, hh, -⟩ := hM.chn.at_ k hd
    have e9 := cells_of hh 9
    simp only [List.getElem?_toArray, List.getElem?_cons_succ, List.getElem?_cons_zero] at e9
    simp only [seenP, hb, pt] at d3
    clear hM hh hd d1
    generalize pt bs[k + 1]? = x at *
    go_enter Try.func85, Try.ntmps85
    go_wp2_with fail
    go_ret
    exact ⟨rfl, rfl⟩
theorem rewind_any {S : Nat → Prop} {B : Nat} {l : TL} {p : Nat} {bs : List Nat} {w : World} (hM : Mb w S B l p bs) : Calls Try.prog 90 #[.pointer (some ⟨B, 1, none⟩)] w fun e w' => e = .returned (.tuple #[]) ∧ Mb w' S B l 0 bs ∧ OutsS S w w' ∧ w'.heap.size = w.heap.size := by
  have HM := Lib.hid hM
  have hS := hM.inS B (List.mem_cons_self ..)
  have HS := Lib.hid hS
  have d3 := cells_of hM.box 3
  have d5 := cells_of hM.box 5
  simp only [List.getElem?_toArray, List.getElem?_cons_succ, List.getElem?_cons_zero] at d3 d5
  have fz : ∀ k, w.frozen? ⟨B, k, none⟩ = false := fun k => frees_of hM.box k
  clear hM hS
  go_enter Try.func90, Try.ntmps90
  go_wp2_with fail
  refine bodyPost_end (results_none rfl _ _ _) rfl ⟨rfl, HM.out.moved ?_ (Nat.zero_le _) ?_ fun k hk => ?_, ?_, ?_⟩
  · simp [World.setCell]
  · exact blk_set (c := [_, _, _, _, _, _]) (blk_set (c := [_, _, _, _, _, _]) HM.out.box 3 _) 5 _
  · rw [Below.heap_setCell _ _ _ _ (by exact hk), Below.heap_setCell _ _ _ _ (by exact hk)]
  · exact (OutsS.set _ _ _ HS.out).trans (OutsS.set _ _ _ HS.out)
  · simp [World.setCell]
theorem rewind_raw {B : Nat} {w : World} {a0 a1 a2 a3 a4 a5 : Value} (h : w.heap[B]? = some (.cells #[a0, a1, a2, a3, a4, a5] 78 (0, 0))) : Calls Try.prog 90 #[.pointer (some ⟨B, 1, none⟩)] w fun e w' => e = .returned (.tuple #[]) ∧ (w.setCell ⟨B, 3, none⟩ (.pointer none)).setCell ⟨B, 5, none⟩ (.int .i64 0) = w' := by
  have d3 := cells_of h 3
  have d5 := cells_of h 5
  simp only [List.getElem?_toArray, List.getElem?_cons_succ, List.getElem?_cons_zero] at d3 d5
  have fz : ∀ k, w.frozen? ⟨B, k, none⟩ = false := fun k => frees_of h k
  clear h
  go_enter Try.func90, Try.ntmps90
  go_wp2_with fail
  exact bodyPost_end (results_none rfl _ _ _) rfl ⟨rfl, rfl⟩
theorem skip_no {S : Nat → Prop} {B : Nat} {l : TL} {bs : List Nat} {w : World} (hM : Mb w S B l l.len bs) : Calls Try.prog 88 #[.pointer (some ⟨B, 1, none⟩)] w fun e w' => e = .returned (.bool false) ∧ w = w' := by
  have HC := Lib.hid (here_any hM)
  have e : bs[l.len]? = none := List.getElem?_eq_none (by rw [hM.len]; exact Nat.le_refl _)
  rw [e] at HC
  simp only [pt] at HC
  clear hM e
  go_enter Try.func88, Try.ntmps88
  go_wp2_with fail
  refine HC.out.mono ?_
  rintro e w1 ⟨rfl, rfl⟩
  go_wp2_with fail
  go_ret
  exact ⟨rfl, rfl⟩
theorem skip_yes {S : Nat → Prop} {B : Nat} {l : TL} {p : Nat} {bs : List Nat} {w : World} (hM : Mb w S B l p bs) (hp : p < l.len) (hb : l.len ≤ 1000000000) : Calls Try.prog 88 #[.pointer (some ⟨B, 1, none⟩)] w fun e w' => e = .returned (.bool true) ∧ Mb w' S B l (p + 1) bs ∧ OutsS S w w' ∧ w'.heap.size = w.heap.size := by
  have HM := Lib.hid hM
  have HS := Lib.hid (hM.inS B (List.mem_cons_self ..))
  have HC := Lib.hid (here_any hM)
  obtain ⟨b, hbp⟩ : ∃ b, bs[p]? = some b := ⟨_, List.getElem?_eq_getElem (by rw [hM.len]; exact hp)⟩
  rw [hbp] at HC
  simp only [pt] at HC
  have HB := Lib.hid hbp
  have HP := Lib.hid hp
  have d3 := cells_of hM.box 3
  have d5 := cells_of hM.box 5
  simp only [List.getElem?_toArray, List.getElem?_cons_succ, List.getElem?_cons_zero] at d3 d5
  have fz : ∀ k, w.frozen? ⟨B, k, none⟩ = false := fun k => frees_of hM.box k
  have hpi : (p : Int) ≤ 1000000000 := by omega
  clear hM hbp hp hb
  go_enter Try.func88, Try.ntmps88
  go_wp2_with fail
  refine HC.out.mono ?_
  rintro e w1 ⟨rfl, rfl⟩
  go_wp2_with fail
  go_ret
  refine ⟨rfl, HM.out.moved ?_ HP.out ?_ fun k hk => ?_, ?_, ?_⟩
  · simp [World.setCell]
  · rw [show seenP bs (p + 1) = some b from HB.out]
    exact blk_set (c := [_, _, _, _, _, _]) (blk_set (c := [_, _, _, _, _, _]) HM.out.box 3 _) 5 _
  · rw [Below.heap_setCell _ _ _ _ (by exact hk), Below.heap_setCell _ _ _ _ (by exact hk)]
  · exact (OutsS.set _ _ _ HS.out).trans (OutsS.set _ _ _ HS.out)
  · simp [World.setCell]
set_option maxHeartbeats 1000000 in
theorem add_any {S T : Nat → Prop} {B : Nat} {l : TL} {p : Nat} {bs : List Nat} {w : World} (hM : Mb w S B l p bs) (hb : l.len ≤ 1000000000) (f : Fd) (it : TL) (ai : Option Addr) (ci : Nat) (hT : ∀ b, T b → b < w.heap.size ∧ ¬ S b) (hi : RdXS w T it (.slice ai it.len ci)) :
    Calls Try.prog 84 #[.pointer (some ⟨B, 1, none⟩), .agg #[.int .i64 f.k, .int .i64 f.i, .int .i64 f.g, .string f.nm, .string f.fn, .int .i64 f.ar, .slice ai it.len ci, .string f.bs, .int .i64 f.n]] w fun e w' => e = .returned (.tuple #[]) ∧ (∃ c, Mb w' (fun b => S b ∨ T b ∨ (w.heap.size ≤ b ∧ b < w'.heap.size)) B (l.app (.cons f it .nil)) p (bs ++ [c])) ∧ OutsS S w w' := by
  have HM := Lib.hid hM
  have HS := Lib.hid hM.inS
  have HT := Lib.hid hT
  have HI := Lib.hid hi
  have hBz := hM.ltB
  have d1 := cells_of hM.box 1
  have d2 := cells_of hM.box 2
  have d4 := cells_of hM.box 4
  simp only [List.getElem?_toArray, List.getElem?_cons_succ, List.getElem?_cons_zero] at d1 d2 d4
  have fz : ∀ k, w.frozen? ⟨B, k, none⟩ = false := fun k => frees_of hM.box k
  have hli : (l.len : Int) ≤ 1000000000 := by omega
  have hn0 : ¬ B = w.heap.size := by omega
  have hn1 : ¬ B = w.heap.size + 1 := by omega
  have HCast := Lib.hid (show ((l.len : Int) + 1) = ((l.len + 1 : Nat) : Int) by omega)
  clear hT hi hb
  rcases List.eq_nil_or_concat bs with hbs | ⟨br, b, hbs⟩
  · have hx : bs.getLast? = none := by rw [hbs]; rfl
    rw [hx] at d2
    simp only [pt] at d2
    have HX := Lib.hid hbs
    clear hM hbs hx
    go_enter Try.func84, Try.ntmps84
    go_wp2_with fail
    refine bodyPost_end (results_none rfl _ _ _) rfl ⟨rfl, ⟨w.heap.size + 1, HM.out.added (w.heap.size + 1) (by omega) (by simp [World.setCell]) ?_ ?_ ?_ ?_ HT.out HI.out⟩, ?_⟩
    · rw [HX.out, ← HCast.out]
      have h := HM.out.box
      rw [HX.out] at h
      with_reducible refine (heap_after (heap_after (six_set (six_set (six_set h _).1 _).2.1 _).2.2.2.1 _) _).trans ?_
      rfl
    · with_reducible refine new2_1' ?_
      rw [size_setCell, size_setCell, size_setCell]
    · intro b cs hb
      rw [HX.out] at hb
      cases hb
    · intro k hk hkB _
      rw [heap_al2 (by rw [size_setCell, size_setCell, size_setCell]; exact hk), Below.heap_setCell _ _ _ _ (by exact hkB), Below.heap_setCell _ _ _ _ (by exact hkB), Below.heap_setCell _ _ _ _ (by exact hkB)]
    · have hSB := (HS.out B (List.mem_cons_self ..))
      with_reducible refine OutsS.al (OutsS.al ?_ _) _
      repeat (with_reducible refine OutsS.put ?_ (by exact hSB) _ _)
      exact OutsS.refl S w
  · have hx : bs.getLast? = some b := by rw [hbs, List.concat_eq_append]; exact List.getLast?_concat ..
    rw [hx] at d2
    simp only [pt] at d2
    have HX := Lib.hid hx
    have hbk : bs[br.length]? = some b := by rw [hbs]; simp
    have hbz := hM.ltc hbk
    have hbne := hM.ne hbk
    have hbne2 : ¬ B = b := fun e => hbne e.symm
    obtain ⟨f', it', hd⟩ := l.drop_at br.length (by rw [← hM.len, hbs]; simp)
    obtain ⟨b', ai', ci', hb', hh, -⟩ := hM.chn.at_ br.length hd
    obtain rfl : b' = b := by rw [hbk] at hb'; exact (Option.some.inj hb').symm
    have HBs := Lib.hid hbs
    have e9 := cells_of hh 9
    simp only [List.getElem?_toArray, List.getElem?_cons_succ, List.getElem?_cons_zero] at e9
    have fe : ∀ k, w.frozen? ⟨b', k, none⟩ = false := fun k => frees_of hh k
    have hm0 : ¬ b' = w.heap.size := by omega
    have hm1 : ¬ b' = w.heap.size + 1 := by omega
    clear hM hbs hx hb' hh hd hbk
    go_enter Try.func84, Try.ntmps84
    go_wp2_with fail
    refine bodyPost_end (results_none rfl _ _ _) rfl ⟨rfl, ⟨w.heap.size + 1, HM.out.added (w.heap.size + 1) (by omega) (by simp [World.setCell]) ?_ ?_ ?_ ?_ HT.out HI.out⟩, ?_⟩
    · rw [← HCast.out]
      have h := HM.out.box
      have e : (bs ++ [w.heap.size + 1]).head? = bs.head? := by rw [HBs.out]; cases br <;> rfl
      rw [e]
      with_reducible refine (heap_after (heap_after (six_set (six_set (blk_oth h hbne2 _ _) _).2.1 _).2.2.2.1 _) _).trans ?_
      rfl
    · with_reducible refine new2_1' ?_
      rw [size_setCell, size_setCell, size_setCell]
    · intro b2 cs hb h2
      rw [HX.out] at hb
      obtain rfl := Option.some.inj hb
      with_reducible refine (heap_after (heap_after (blk_oth (blk_oth (block_setCell h2 9 _) hbne _ _) hbne _ _) _) _).trans ?_
      rfl
    · intro k hk hkB hkl
      rw [HX.out] at hkl
      have hkb : k ≠ b' := fun e => hkl (by rw [e])
      rw [heap_al2 (by rw [size_setCell, size_setCell, size_setCell]; exact hk), Below.heap_setCell _ _ _ _ (by exact hkB), Below.heap_setCell _ _ _ _ (by exact hkB), Below.heap_setCell _ _ _ _ (by exact hkb)]
    · have hSB := (HS.out B (List.mem_cons_self ..))
      have hSL := (HS.out b' (List.mem_cons_of_mem _ (List.mem_of_getLast? HX.out)))
      with_reducible refine OutsS.al (OutsS.al ?_ _) _
      with_reducible refine OutsS.put ?_ hSB _ _
      with_reducible refine OutsS.put ?_ hSB _ _
      with_reducible refine OutsS.put ?_ hSL _ _
      exact OutsS.refl S w
set_option maxRecDepth 100000 in
set_option maxHeartbeats 1000000 in
theorem drop_0m {S : Nat → Prop} {B : Nat} {l : TL} {bs : List Nat} {w : World} {n : Nat} (hM : Mb w S B l 0 bs) (hp : 0 < l.len) (hb : l.len ≤ 1000000000) (hn : bs[0 + 1]? = some n) : Calls Try.prog 87 #[.pointer (some ⟨B, 1, none⟩)] w fun e w' => e = .returned (.tuple #[]) ∧ Mb w' S B (l.del 0) 0 (bs.eraseIdx 0) ∧ OutsS S w w' ∧ w'.heap.size = w.heap.size := by
  have HM := Lib.hid hM
  have HSB := Lib.hid (hM.inS B (List.mem_cons_self ..))
  have HC := Lib.hid (here_any hM)
  have HP := Lib.hid hp
  have HN := Lib.hid hn
  obtain ⟨f, it, hd⟩ := l.drop_at 0 hp
  obtain ⟨c, ai, ci, hc, hh, -⟩ := hM.chn.at_ 0 hd
  rw [hc] at HC
  rw [hn] at hh
  simp only [pt] at HC hh
  have e9 := cells_of hh 9
  simp only [List.getElem?_toArray, List.getElem?_cons_succ, List.getElem?_cons_zero] at e9
  have hcne := hM.ne hc
  have hcne2 : ¬ B = c := fun e => hcne e.symm
  have d0 := cells_of hM.box 0
  have d1 := cells_of hM.box 1
  have d2 := cells_of hM.box 2
  have d3 := cells_of hM.box 3
  have d4 := cells_of hM.box 4
  have d5 := cells_of hM.box 5
  simp only [List.getElem?_toArray, List.getElem?_cons_succ, List.getElem?_cons_zero] at d0 d1 d2 d3 d4 d5
  have fz : ∀ k, w.frozen? ⟨B, k, none⟩ = false := fun k => frees_of hM.box k
  have hl1 : (1 : Int) ≤ (l.len : Int) := by omega
  have hl2 : (l.len : Int) ≤ 1000000000 := by omega
  have HCast := Lib.hid (show ((l.len : Int) - 1) = ((l.len - 1 : Nat) : Int) by omega)
  simp only [seenP, pt] at d3
  clear hM hp hb hn hd hh hc
  go_enter Try.func87, Try.ntmps87
  go_wp2_with fail
  refine HC.out.mono ?_
  rintro e w1 ⟨rfl, rfl⟩
  go_wp2_with fail
  with_reducible refine (rewind_raw (six_set (six_set HM.out.box _).1 _).2.2.2.1).mono ?_
  rintro e w2 ⟨rfl, rfl⟩
  go_wp2_with fail
  refine bodyPost_end (results_none rfl _ _ _) rfl ⟨rfl, HM.out.dropped HP.out ?_ ?_ ?_ ?_, ?_, ?_⟩
  · simp [World.setCell]
  · rw [HN.out, ← HCast.out]
    with_reducible refine ((six_set (six_set (six_set (six_set HM.out.box _).1 _).2.2.2.1 _).2.2.1 _).2.2.2.2.trans ?_)
    rfl
  · intro j hj hjp
    rw [Below.heap_setCell _ _ _ _ (by exact hj), Below.heap_setCell _ _ _ _ (by exact hj), Below.heap_setCell _ _ _ _ (by exact hj), Below.heap_setCell _ _ _ _ (by exact hj)]
  · intro j b cs hj hb h2
    omega
  · skip
    with_reducible refine OutsS.put ?_ HSB.out _ _
    with_reducible refine OutsS.put ?_ HSB.out _ _
    with_reducible refine OutsS.put ?_ HSB.out _ _
    with_reducible refine OutsS.put ?_ HSB.out _ _
    exact OutsS.refl S w
  · simp [World.setCell]
set_option maxRecDepth 100000 in
set_option maxHeartbeats 1000000 in
theorem drop_0e {S : Nat → Prop} {B : Nat} {l : TL} {bs : List Nat} {w : World} (hM : Mb w S B l 0 bs) (hp : 0 < l.len) (hb : l.len ≤ 1000000000) (hn : bs[0 + 1]? = none) : Calls Try.prog 87 #[.pointer (some ⟨B, 1, none⟩)] w fun e w' => e = .returned (.tuple #[]) ∧ Mb w' S B (l.del 0) 0 (bs.eraseIdx 0) ∧ OutsS S w w' ∧ w'.heap.size = w.heap.size := by
  have HM := Lib.hid hM
  have HSB := Lib.hid (hM.inS B (List.mem_cons_self ..))
  have HC := Lib.hid (here_any hM)
  have HP := Lib.hid hp
  have HN := Lib.hid hn
  obtain ⟨f, it, hd⟩ := l.drop_at 0 hp
  obtain ⟨c, ai, ci, hc, hh, -⟩ := hM.chn.at_ 0 hd
  rw [hc] at HC
  rw [hn] at hh
  simp only [pt] at HC hh
  have e9 := cells_of hh 9
  simp only [List.getElem?_toArray, List.getElem?_cons_succ, List.getElem?_cons_zero] at e9
  have hcne := hM.ne hc
  have hcne2 : ¬ B = c := fun e => hcne e.symm
  have d0 := cells_of hM.box 0
  have d1 := cells_of hM.box 1
  have d2 := cells_of hM.box 2
  have d3 := cells_of hM.box 3
  have d4 := cells_of hM.box 4
  have d5 := cells_of hM.box 5
  simp only [List.getElem?_toArray, List.getElem?_cons_succ, List.getElem?_cons_zero] at d0 d1 d2 d3 d4 d5
  have fz : ∀ k, w.frozen? ⟨B, k, none⟩ = false := fun k => frees_of hM.box k
  have hl1 : (1 : Int) ≤ (l.len : Int) := by omega
  have hl2 : (l.len : Int) ≤ 1000000000 := by omega
  have HCast := Lib.hid (show ((l.len : Int) - 1) = ((l.len - 1 : Nat) : Int) by omega)
  simp only [seenP, pt] at d3
  clear hM hp hb hn hd hh hc
  go_enter Try.func87, Try.ntmps87
  go_wp2_with fail
  refine HC.out.mono ?_
  rintro e w1 ⟨rfl, rfl⟩
  go_wp2_with fail
  with_reducible refine (rewind_raw (six_set (six_set (six_set HM.out.box _).1 _).2.1 _).2.2.2.1).mono ?_
  rintro e w2 ⟨rfl, rfl⟩
  go_wp2_with fail
  refine bodyPost_end (results_none rfl _ _ _) rfl ⟨rfl, HM.out.dropped HP.out ?_ ?_ ?_ ?_, ?_, ?_⟩
  · simp [World.setCell]
  · rw [HN.out, ← HCast.out]
    with_reducible refine ((six_set (six_set (six_set (six_set (six_set HM.out.box _).1 _).2.1 _).2.2.2.1 _).2.2.1 _).2.2.2.2.trans ?_)
    rfl
  · intro j hj hjp
    rw [Below.heap_setCell _ _ _ _ (by exact hj), Below.heap_setCell _ _ _ _ (by exact hj), Below.heap_setCell _ _ _ _ (by exact hj), Below.heap_setCell _ _ _ _ (by exact hj), Below.heap_setCell _ _ _ _ (by exact hj)]
  · intro j b cs hj hb h2
    omega
  · skip
    with_reducible refine OutsS.put ?_ HSB.out _ _
    with_reducible refine OutsS.put ?_ HSB.out _ _
    with_reducible refine OutsS.put ?_ HSB.out _ _
    with_reducible refine OutsS.put ?_ HSB.out _ _
    with_reducible refine OutsS.put ?_ HSB.out _ _
    exact OutsS.refl S w
  · simp [World.setCell]
set_option maxRecDepth 100000 in
set_option maxHeartbeats 1000000 in
theorem drop_sm {S : Nat → Prop} {B : Nat} {l : TL} {bs : List Nat} {w : World} {k a : Nat} {n : Nat} (hM : Mb w S B l (k + 1) bs) (hp : (k + 1) < l.len) (hb : l.len ≤ 1000000000) (ha : bs[k]? = some a) (hn : bs[(k + 1) + 1]? = some n) : Calls Try.prog 87 #[.pointer (some ⟨B, 1, none⟩)] w fun e w' => e = .returned (.tuple #[]) ∧ Mb w' S B (l.del (k + 1)) 0 (bs.eraseIdx (k + 1)) ∧ OutsS S w w' ∧ w'.heap.size = w.heap.size := by
  have HM := Lib.hid hM
  have HSB := Lib.hid (hM.inS B (List.mem_cons_self ..))
  have HC := Lib.hid (here_any hM)
  have HP := Lib.hid hp
  have HN := Lib.hid hn
  obtain ⟨f, it, hd⟩ := l.drop_at (k + 1) hp
  obtain ⟨c, ai, ci, hc, hh, -⟩ := hM.chn.at_ (k + 1) hd
  rw [hc] at HC
  rw [hn] at hh
  simp only [pt] at HC hh
  have e9 := cells_of hh 9
  simp only [List.getElem?_toArray, List.getElem?_cons_succ, List.getElem?_cons_zero] at e9
  have hcne := hM.ne hc
  have hcne2 : ¬ B = c := fun e => hcne e.symm
  have d0 := cells_of hM.box 0
  have d1 := cells_of hM.box 1
  have d2 := cells_of hM.box 2
  have d3 := cells_of hM.box 3
  have d4 := cells_of hM.box 4
  have d5 := cells_of hM.box 5
  simp only [List.getElem?_toArray, List.getElem?_cons_succ, List.getElem?_cons_zero] at d0 d1 d2 d3 d4 d5
  have fz : ∀ k, w.frozen? ⟨B, k, none⟩ = false := fun k => frees_of hM.box k
  have hl1 : (1 : Int) ≤ (l.len : Int) := by omega
  have hl2 : (l.len : Int) ≤ 1000000000 := by omega
  have HCast := Lib.hid (show ((l.len : Int) - 1) = ((l.len - 1 : Nat) : Int) by omega)
  simp only [seenP, ha, pt] at d3
  obtain ⟨f2, it2, hd2⟩ := l.drop_at k (by omega)
  obtain ⟨a', ai2, ci2, ha', hq, -⟩ := hM.chn.at_ k hd2
  obtain rfl : a' = a := by rw [ha] at ha'; exact (Option.some.inj ha').symm
  have hane := hM.ne ha
  have hane2 : ¬ B = a' := fun e => hane e.symm
  have hac : ¬ a' = c := fun e => by have := nodup_inj hM.nodup ha (e ▸ hc); omega
  have hca : ¬ c = a' := fun e => hac e.symm
  have g9 := cells_of hq 9
  simp only [List.getElem?_toArray, List.getElem?_cons_succ, List.getElem?_cons_zero] at g9
  rw [hc] at g9
  simp only [pt] at g9
  have fa : ∀ k, w.frozen? ⟨a', k, none⟩ = false := fun k => frees_of hq k
  have HA := Lib.hid ha
  have HSA := Lib.hid (hM.inS a' (List.mem_cons_of_mem _ (List.mem_of_getElem? ha)))
  clear ha ha' hq hd2
  clear hM hp hb hn hd hh hc
  go_enter Try.func87, Try.ntmps87
  go_wp2_with fail
  refine HC.out.mono ?_
  rintro e w1 ⟨rfl, rfl⟩
  go_upto_region 3 with (fail)
  go_still_tail 10, (by kernel_rfl)
  go_wp2_with fail
  with_reducible refine (rewind_raw (drew_blk (six_set (blk_oth HM.out.box hane2 _ _) _).2.2.2.1)).mono ?_
  rintro e w2 ⟨rfl, rfl⟩
  go_wp2_with fail
  refine bodyPost_end (results_none rfl _ _ _) rfl ⟨rfl, HM.out.dropped HP.out ?_ ?_ ?_ ?_, ?_, ?_⟩
  · simp [World.setCell]
  · rw [HN.out, ← HCast.out]
    with_reducible refine drew_blk ((six_set (six_set (six_set (blk_oth HM.out.box hane2 _ _) _).2.2.2.1 _).2.2.1 _).2.2.2.2.trans ?_)
    rfl
  · intro j hj hjp
    have hja : j ≠ a' := fun e => hjp k rfl (by rw [e]; exact HA.out)
    rw [drew_heap]
    rw [Below.heap_setCell _ _ _ _ (by exact hj), Below.heap_setCell _ _ _ _ (by exact hj), Below.heap_setCell _ _ _ _ (by exact hj), Below.heap_setCell _ _ _ _ (by exact hja)]
  · intro j b cs hj hb h2
    obtain rfl : j = k := by omega
    obtain rfl : a' = b := by rw [HA.out] at hb; exact Option.some.inj hb
    rw [HN.out]
    with_reducible refine drew_blk ((blk_oth (blk_oth (blk_oth (block_setCell h2 9 _) hane _ _) hane _ _) hane _ _).trans ?_)
    rfl
  · with_reducible refine OutsS.dr ?_
    with_reducible refine OutsS.put ?_ HSB.out _ _
    with_reducible refine OutsS.put ?_ HSB.out _ _
    with_reducible refine OutsS.put ?_ HSB.out _ _
    with_reducible refine OutsS.put ?_ HSA.out _ _
    exact OutsS.refl S w
  · simp [World.setCell]
set_option maxRecDepth 100000 in
set_option maxHeartbeats 1000000 in
theorem drop_se {S : Nat → Prop} {B : Nat} {l : TL} {bs : List Nat} {w : World} {k a : Nat} (hM : Mb w S B l (k + 1) bs) (hp : (k + 1) < l.len) (hb : l.len ≤ 1000000000) (ha : bs[k]? = some a) (hn : bs[(k + 1) + 1]? = none) : Calls Try.prog 87 #[.pointer (some ⟨B, 1, none⟩)] w fun e w' => e = .returned (.tuple #[]) ∧ Mb w' S B (l.del (k + 1)) 0 (bs.eraseIdx (k + 1)) ∧ OutsS S w w' ∧ w'.heap.size = w.heap.size := by
  have HM := Lib.hid hM
  have HSB := Lib.hid (hM.inS B (List.mem_cons_self ..))
  have HC := Lib.hid (here_any hM)
  have HP := Lib.hid hp
  have HN := Lib.hid hn
  obtain ⟨f, it, hd⟩ := l.drop_at (k + 1) hp
  obtain ⟨c, ai, ci, hc, hh, -⟩ := hM.chn.at_ (k + 1) hd
  rw [hc] at HC
  rw [hn] at hh
  simp only [pt] at HC hh
  have e9 := cells_of hh 9
  simp only [List.getElem?_toArray, List.getElem?_cons_succ, List.getElem?_cons_zero] at e9
  have hcne := hM.ne hc
  have hcne2 : ¬ B = c := fun e => hcne e.symm
  have d0 := cells_of hM.box 0
  have d1 := cells_of hM.box 1
  have d2 := cells_of hM.box 2
  have d3 := cells_of hM.box 3
  have d4 := cells_of hM.box 4
  have d5 := cells_of hM.box 5
  simp only [List.getElem?_toArray, List.getElem?_cons_succ, List.getElem?_cons_zero] at d0 d1 d2 d3 d4 d5
  have fz : ∀ k, w.frozen? ⟨B, k, none⟩ = false := fun k => frees_of hM.box k
  have hl1 : (1 : Int) ≤ (l.len : Int) := by omega
  have hl2 : (l.len : Int) ≤ 1000000000 := by omega
  have HCast := Lib.hid (show ((l.len : Int) - 1) = ((l.len - 1 : Nat) : Int) by omega)
  simp only [seenP, ha, pt] at d3
  obtain ⟨f2, it2, hd2⟩ := l.drop_at k (by omega)
  obtain ⟨a', ai2, ci2, ha', hq, -⟩ := hM.chn.at_ k hd2
  obtain rfl : a' = a := by rw [ha] at ha'; exact (Option.some.inj ha').symm
  have hane := hM.ne ha
  have hane2 : ¬ B = a' := fun e => hane e.symm
  have hac : ¬ a' = c := fun e => by have := nodup_inj hM.nodup ha (e ▸ hc); omega
  have hca : ¬ c = a' := fun e => hac e.symm
  have g9 := cells_of hq 9
  simp only [List.getElem?_toArray, List.getElem?_cons_succ, List.getElem?_cons_zero] at g9
  rw [hc] at g9
  simp only [pt] at g9
  have fa : ∀ k, w.frozen? ⟨a', k, none⟩ = false := fun k => frees_of hq k
  have HA := Lib.hid ha
  have HSA := Lib.hid (hM.inS a' (List.mem_cons_of_mem _ (List.mem_of_getElem? ha)))
  clear ha ha' hq hd2
  clear hM hp hb hn hd hh hc
  go_enter Try.func87, Try.ntmps87
  go_wp2_with fail
  refine HC.out.mono ?_
  rintro e w1 ⟨rfl, rfl⟩
  go_upto_region 3 with (fail)
  go_still_tail 10, (by kernel_rfl)
  go_wp2_with fail
  with_reducible refine (rewind_raw (drew_blk (six_set (six_set (blk_oth HM.out.box hane2 _ _) _).2.1 _).2.2.2.1)).mono ?_
  rintro e w2 ⟨rfl, rfl⟩
  go_wp2_with fail
  refine bodyPost_end (results_none rfl _ _ _) rfl ⟨rfl, HM.out.dropped HP.out ?_ ?_ ?_ ?_, ?_, ?_⟩
  · simp [World.setCell]
  · rw [HN.out, show seenP bs (k + 1) = some a' from HA.out, ← HCast.out]
    with_reducible refine drew_blk ((six_set (six_set (six_set (six_set (blk_oth HM.out.box hane2 _ _) _).2.1 _).2.2.2.1 _).2.2.1 _).2.2.2.2.trans ?_)
    rfl
  · intro j hj hjp
    have hja : j ≠ a' := fun e => hjp k rfl (by rw [e]; exact HA.out)
    rw [drew_heap]
    rw [Below.heap_setCell _ _ _ _ (by exact hj), Below.heap_setCell _ _ _ _ (by exact hj), Below.heap_setCell _ _ _ _ (by exact hj), Below.heap_setCell _ _ _ _ (by exact hj), Below.heap_setCell _ _ _ _ (by exact hja)]
  · intro j b cs hj hb h2
    obtain rfl : j = k := by omega
    obtain rfl : a' = b := by rw [HA.out] at hb; exact Option.some.inj hb
    rw [HN.out]
    with_reducible refine drew_blk ((blk_oth (blk_oth (blk_oth (blk_oth (block_setCell h2 9 _) hane _ _) hane _ _) hane _ _) hane _ _).trans ?_)
    rfl
  · with_reducible refine OutsS.dr ?_
    with_reducible refine OutsS.put ?_ HSB.out _ _
    with_reducible refine OutsS.put ?_ HSB.out _ _
    with_reducible refine OutsS.put ?_ HSB.out _ _
    with_reducible refine OutsS.put ?_ HSB.out _ _
    with_reducible refine OutsS.put ?_ HSA.out _ _
    exact OutsS.refl S w
  · simp [World.setCell]
theorem drop_any {S : Nat → Prop} {B : Nat} {l : TL} {p : Nat} {bs : List Nat} {w : World} (hM : Mb w S B l p bs) (hp : p < l.len) (hb : l.len ≤ 1000000000) : Calls Try.prog 87 #[.pointer (some ⟨B, 1, none⟩)] w fun e w' => e = .returned (.tuple #[]) ∧ Mb w' S B (l.del p) 0 (bs.eraseIdx p) ∧ OutsS S w w' ∧ w'.heap.size = w.heap.size := by
  cases p with
  | zero =>
    cases hn : bs[0 + 1]? with
    | none => exact drop_0e hM hp hb hn
    | some n => exact drop_0m hM hp hb hn
  | succ k =>
    have hk : k < bs.length := by rw [hM.len]; omega
    cases hn : bs[(k + 1) + 1]? with
    | none => exact drop_se hM hp hb (List.getElem?_eq_getElem hk) hn
    | some n => exact drop_sm hM hp hb (List.getElem?_eq_getElem hk) hn
end Go.Proofs.Ytgbaelkoblnlhaa
