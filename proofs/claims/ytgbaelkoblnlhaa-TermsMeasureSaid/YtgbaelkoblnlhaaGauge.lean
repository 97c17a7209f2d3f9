/-
  Walks: the law TermsMeasure: Check, Valid and Size of any term, also inside many tuples of one element.
-/
import Derived.Test.YtgbaelkoblnlhaaBook
import Derived.Test.YtgbaelkoblnlhaaShown2
import Derived.Test.YtgbaelkoblnlhaaPCheck
import Derived.Test.YtgbaelkoblnlhaaPick
import Derived.Deep.RegionHeld3
namespace Go.Proofs.Ytgbaelkoblnlhaa
open Go.RowKit
/-- a term inside so many tuples of one element -/
def deepF (f : Fd) : Nat → Fd
  | 0 => f
  | _ + 1 => kF 7
def deepL (f : Fd) (it : TL) : Nat → TL
  | 0 => it
  | k + 1 => .cons (deepF f k) (deepL f it k) .nil
theorem deep_cnt (f : Fd) (it : TL) : ∀ k, (deepL f it k).cnt = it.cnt + k
  | 0 => rfl
  | k + 1 => by simp only [deepL, TL.cnt, deep_cnt f it k]; omega
theorem deep_small {f : Fd} {it : TL} (h : smallT 1000000 f it) : ∀ k, smallT 1000000 (deepF f k) (deepL f it k)
  | 0 => h
  | k + 1 => by
    obtain ⟨h1, h2, h3, h4⟩ := deep_small h k
    exact ⟨Nat.zero_le _, Nat.zero_le _, Nat.zero_le _, h1, h2, h3, h4, trivial⟩
theorem deep_tame {f : Fd} {it : TL} (h : tame f it) (hc : it.cnt ≤ 30000) {k : Nat} (hk : k ≤ 2100) : tame (deepF f k) (deepL f it k) := ⟨by rw [deep_cnt]; omega, deep_small h.2 k⟩
set_option maxRecDepth 100000 in
set_option maxHeartbeats 1000000 in
theorem gauge_great (f : Fd) (it : TL) (ai : Option Addr) (ci : Nat) (n : Int) (w : World) (hs : RdS w 0 w.heap.size it (.slice ai it.len ci)) (hg : leftF (.cons f it .nil) 30000 < 0) :
    Calls Try.prog 3 #[.agg #[.int .i64 f.k, .int .i64 f.i, .int .i64 f.g, .string f.nm, .string f.fn, .int .i64 f.ar, .slice ai it.len ci, .string f.bs, .int .i64 f.n], .int .i64 n] w (Yes w) := by
  have HG := Lib.hid hg
  have HF0 := Lib.hid (show Bk w [.rd 0 w.heap.size it (.slice ai it.len ci), .base w] from ⟨⟨hs, Nat.le_refl _⟩, Below.refl _ _, trivial⟩)
  clear hs hg
  go_enter Try.func3, Try.ntmps3
  go_wp2_with fail
  refine (shown_any _).mono ?_
  rintro e w1 ⟨rfl, hb1⟩
  have HF := Lib.hid ((HF0.out.box #[.int .i64 f.k, .int .i64 f.i, .int .i64 f.g, .string f.nm, .string f.fn, .int .i64 f.ar, .slice ai it.len ci, .string f.bs, .int .i64 f.n]).below hb1)
  clear hb1 HF0
  obtain ⟨c0, c1, c2, c3, c4, c5, c6, c7, c8, -⟩ := nine_cells (HF.out.blk 0 rfl)
  go_wp2_with fail
  have h1 := RdS.one0 (f := f) (HF.out.rd0 1 rfl)
  refine (Great_yes _ _ _ _ _ _ h1 (by simp) (by decide) (by decide) HG.out).mono ?_
  rintro e w2 ⟨rfl, hb2⟩
  have HF := Lib.hid ((HF.out.alloc _).below hb2)
  clear hb2 h1
  go_wp2_with fail
  go_ret
  exact ⟨rfl, HF.out.base 2 rfl⟩
set_option maxRecDepth 100000 in
set_option maxHeartbeats 4000000 in
theorem gauge_main (f : Fd) (it : TL) (ai : Option Addr) (ci : Nat) (n : Int) (w : World) (hs : RdS w 0 w.heap.size it (.slice ai it.len ci)) (hg : 0 ≤ leftF (.cons f it .nil) 30000) :
    Calls Try.prog 3 #[.agg #[.int .i64 f.k, .int .i64 f.i, .int .i64 f.g, .string f.nm, .string f.fn, .int .i64 f.ar, .slice ai it.len ci, .string f.bs, .int .i64 f.n], .int .i64 n] w (Yes w) := by
  obtain ⟨ht, hn⟩ := tame_of (by decide) hg
  have HT := Lib.hid ht
  have HN := Lib.hid hn
  have HG := Lib.hid hg
  obtain ⟨N, hN, hN2⟩ : ∃ N : Nat, n % 2100 = (N : Int) ∧ N < 2100 := ⟨(n % 2100).toNat, by omega, by omega⟩
  have HPk := Lib.hid fun W => (Pick_any n 2100 W (by decide) (by decide)).mono fun e w' h => (show e = .returned (.int .i64 (N : Int)) ∧ W = w' from ⟨h.1.trans (by rw [hN]), h.2⟩)
  have HF0 := Lib.hid (show Bk w [.rx (fun b => b < w.heap.size) it (.slice ai it.len ci), .base w] from ⟨⟨hs.x fun b _ h => h, fun b h => h⟩, Below.refl _ _, trivial⟩)
  clear hs hg ht hn hN
  go_enter Try.func3, Try.ntmps3
  go_wp2_with fail
  refine (shown_any _).mono ?_
  rintro e w1 ⟨rfl, hb1⟩
  have HF := Lib.hid ((HF0.out.box #[.int .i64 f.k, .int .i64 f.i, .int .i64 f.g, .string f.nm, .string f.fn, .int .i64 f.ar, .slice ai it.len ci, .string f.bs, .int .i64 f.n]).below hb1)
  have hz1 : w.heap.size + 1 ≤ w1.heap.size := by have := hb1.size; simp at this; omega
  clear hb1 HF0
  obtain ⟨c0, c1, c2, c3, c4, c5, c6, c7, c8, -⟩ := nine_cells (HF.out.blk 0 rfl)
  go_wp2_with fail
  have h1 := RdS.one0 (f := f) (HF.out.rx0 1 rfl)
  refine (Great_no _ _ _ _ _ _ h1 (by simp) (by decide) (by decide) HG.out).mono ?_
  rintro e w2 ⟨rfl, hb2⟩
  have HF := Lib.hid ((HF.out.alloc _).below hb2)
  have hz2 : w1.heap.size + 1 ≤ w2.heap.size := by have := hb2.size; simp at this; omega
  clear hb2 h1 c0 c1 c2 c3 c4 c5 c6 c7 c8
  obtain ⟨c0, c1, c2, c3, c4, c5, c6, c7, c8, -⟩ := nine_cells (HF.out.blk 0 rfl)
  go_wp2_with fail
  have h1 := (HF.out.rx 1 rfl).1.rd0 (B := w.heap.size) fun b h => h
  refine ((lend_all it.cnt).1 f it _ _ _ _ (Nat.le_refl _) (by have := HN.out; omega) h1 (by omega)).mono ?_
  rintro e w3 ⟨ai1, ci1, rfl, hk, hb3⟩
  have HF := Lib.hid ((HF.out.below hb3).add (f := .kp w2.heap.size w3.heap.size 0 w.heap.size it _ _) ⟨hk, hb3.size, Nat.le_refl _, by have := hb3.size; omega⟩)
  have hz3 : w2.heap.size ≤ w3.heap.size := hb3.size
  clear hb3 hk h1 c0 c1 c2 c3 c4 c5 c6 c7 c8
  have HF := Lib.hid (HF.out.box #[.int .i64 f.k, .int .i64 f.i, .int .i64 f.g, .string f.nm, .string f.fn, .int .i64 f.ar, .slice ai1 it.len ci1, .string f.bs, .int .i64 f.n])
  go_upto_region 6 with (fail)
  obtain ⟨W4, hW4⟩ : ∃ W4, W4 = w3.alloc (.cells #[.int .i64 f.k, .int .i64 f.i, .int .i64 f.g, .string f.nm, .string f.fn, .int .i64 f.ar, .slice ai1 it.len ci1, .string f.bs, .int .i64 f.n] 24 (0, 0)) := ⟨_, rfl⟩
  have hz4 : w3.heap.size + 1 ≤ W4.heap.size := by rw [hW4]; simp
  rw [← hW4] at HF ⊢
  clear hW4
  -- [0 box own, 1 kp, 2 box t, 3 rx, 4 base]
  obtain ⟨c0, c1, c2, c3, c4, c5, c6, c7, c8, -⟩ := nine_cells (HF.out.blk 0 rfl)
  obtain ⟨d0, d1, d2, d3, d4, d5, d6, d7, d8, -⟩ := nine_cells (HF.out.blk 2 rfl)
  have HC1 := Lib.hid fun W (hb : Below W4.heap.size W4 W) => pCheck_any f it _ W 0 W4.heap.size HT.out ((HF.out.kp0 1 rfl).below hb (Nat.le_refl _)) hb.size
  have HC2 := Lib.hid fun W (hb : Below W4.heap.size W4 W) => rCheck_any f it _ W 0 W4.heap.size HT.out ((HF.out.rx0 3 rfl).below hb (Nat.le_refl _)) hb.size
  have HV1 := Lib.hid fun W (hb : Below W4.heap.size W4 W) => pValid_any f it _ W 0 W4.heap.size HT.out ((HF.out.kp0 1 rfl).below hb (Nat.le_refl _)) hb.size
  have HV2 := Lib.hid fun W (hb : Below W4.heap.size W4 W) => rValid_any f it _ W 0 W4.heap.size HT.out ((HF.out.rx0 3 rfl).below hb (Nat.le_refl _)) hb.size
  have HS1 := Lib.hid fun W (hb : Below W4.heap.size W4 W) => pSize_any f it _ W 0 W4.heap.size HT.out ((HF.out.kp0 1 rfl).below hb (Nat.le_refl _)) hb.size
  have HS2 := Lib.hid fun W (hb : Below W4.heap.size W4 W) => rSize_any f it _ W 0 W4.heap.size HT.out ((HF.out.rx0 3 rfl).below hb (Nat.le_refl _)) hb.size
  have HKe := Lib.hid fun W (hb : Below W4.heap.size W4 W) => (kept_all it.cnt).1 f it _ _ W w2.heap.size w3.heap.size 0 w.heap.size (Nat.le_refl _) ((HF.out.kp 1 rfl).1.below hb (HF.out.kp 1 rfl).2.2.1 (HF.out.kp 1 rfl).2.2.2) (Nat.le_trans (HF.out.kp 1 rfl).2.2.1 hb.size) (Nat.le_trans (HF.out.kp 1 rfl).2.2.2 hb.size)
  have HBc := Lib.hid (Below.refl W4.heap.size W4)
  go_region_held3 (fun w' => w'.cell? ⟨w3.heap.size, 0, none⟩ = some (.int .i64 f.k) ∧ w'.cell? ⟨w3.heap.size, 1, none⟩ = some (.int .i64 f.i) ∧ w'.cell? ⟨w3.heap.size, 2, none⟩ = some (.int .i64 f.g) ∧ w'.cell? ⟨w3.heap.size, 3, none⟩ = some (.string f.nm) ∧ w'.cell? ⟨w3.heap.size, 4, none⟩ = some (.string f.fn) ∧ w'.cell? ⟨w3.heap.size, 5, none⟩ = some (.int .i64 f.ar) ∧ w'.cell? ⟨w3.heap.size, 6, none⟩ = some (.slice ai1 it.len ci1) ∧ w'.cell? ⟨w3.heap.size, 7, none⟩ = some (.string f.bs) ∧ w'.cell? ⟨w3.heap.size, 8, none⟩ = some (.int .i64 f.n) ∧ w'.cell? ⟨w.heap.size, 0, none⟩ = some (.int .i64 f.k) ∧ w'.cell? ⟨w.heap.size, 1, none⟩ = some (.int .i64 f.i) ∧ w'.cell? ⟨w.heap.size, 2, none⟩ = some (.int .i64 f.g) ∧ w'.cell? ⟨w.heap.size, 3, none⟩ = some (.string f.nm) ∧ w'.cell? ⟨w.heap.size, 4, none⟩ = some (.string f.fn) ∧ w'.cell? ⟨w.heap.size, 5, none⟩ = some (.int .i64 f.ar) ∧ w'.cell? ⟨w.heap.size, 6, none⟩ = some (.slice ai it.len ci) ∧ w'.cell? ⟨w.heap.size, 7, none⟩ = some (.string f.bs) ∧ w'.cell? ⟨w.heap.size, 8, none⟩ = some (.int .i64 f.n))
    (first
      | (exact ⟨c0, c1, c2, c3, c4, c5, c6, c7, c8, d0, d1, d2, d3, d4, d5, d6, d7, d8⟩)
      | (go_split_ands; refine ⟨?_, ?_, ?_, ?_, ?_, ?_, ?_, ?_, ?_, ?_, ?_, ?_, ?_, ?_, ?_, ?_, ?_, ?_⟩ <;> exact below_keep hb1 (by assumption)))
    (first
      | (go_at_call 19; ((with_reducible refine (HC1.out _ (by first | exact HBc.out | exact HBc.out.drew)).mono ?_); rintro e w1 ⟨rfl, hb1⟩); have HBc := Lib.hid (show Below W4.heap.size W4 w1 by first | exact bstep HBc.out hb1 | exact bstep HBc.out.drew hb1))
      | (go_at_call 20; ((with_reducible refine (HC2.out _ (by first | exact HBc.out | exact HBc.out.drew)).mono ?_); rintro e w1 ⟨rfl, hb1⟩); have HBc := Lib.hid (show Below W4.heap.size W4 w1 by first | exact bstep HBc.out hb1 | exact bstep HBc.out.drew hb1))
      | (go_at_call 21; ((with_reducible refine (HV1.out _ (by first | exact HBc.out | exact HBc.out.drew)).mono ?_); rintro e w1 ⟨rfl, hb1⟩); have HBc := Lib.hid (show Below W4.heap.size W4 w1 by first | exact bstep HBc.out hb1 | exact bstep HBc.out.drew hb1))
      | (go_at_call 22; ((with_reducible refine (HV2.out _ (by first | exact HBc.out | exact HBc.out.drew)).mono ?_); rintro e w1 ⟨rfl, hb1⟩); have HBc := Lib.hid (show Below W4.heap.size W4 w1 by first | exact bstep HBc.out hb1 | exact bstep HBc.out.drew hb1))
      | (go_at_call 23; ((with_reducible refine (HS1.out _ (by first | exact HBc.out | exact HBc.out.drew)).mono ?_); rintro e w1 ⟨rfl, hb1⟩); have HBc := Lib.hid (show Below W4.heap.size W4 w1 by first | exact bstep HBc.out hb1 | exact bstep HBc.out.drew hb1))
      | (go_at_call 24; ((with_reducible refine (HS2.out _ (by first | exact HBc.out | exact HBc.out.drew)).mono ?_); rintro e w1 ⟨rfl, hb1⟩); have HBc := Lib.hid (show Below W4.heap.size W4 w1 by first | exact bstep HBc.out hb1 | exact bstep HBc.out.drew hb1))
      | (go_at_call 25; ((with_reducible refine (HKe.out _ (by first | exact HBc.out | exact HBc.out.drew)).mono ?_); rintro e w1 ⟨rfl, hb1⟩); have HBc := Lib.hid (show Below W4.heap.size W4 w1 by first | exact bstep HBc.out hb1 | exact bstep HBc.out.drew hb1)))
  have HF := Lib.hid (HF.out.below HBc.out)

  clear c0 c1 c2 c3 c4 c5 c6 c7 c8 d0 d1 d2 d3 d4 d5 d6 d7 d8 HC1 HC2 HV1 HV2 HS1 HS2 HKe
  rename_i w5
  go_wp2_with fail
  refine (HPk.out _).mono ?_
  rintro e w6 ⟨rfl, rfl⟩
  go_wp2_with fail
  go_loopw [7] (fun i wr => ∃ (k : Nat) (ak : Option Addr) (ck : Nat), k ≤ N ∧ i = .int .i64 k ∧ Hid (Bk wr [.blk w.heap.size #[.int .i64 (deepF f k).k, .int .i64 (deepF f k).i, .int .i64 (deepF f k).g, .string (deepF f k).nm, .string (deepF f k).fn, .int .i64 (deepF f k).ar, .slice ak (deepL f it k).len ck, .string (deepF f k).bs, .int .i64 (deepF f k).n], .rx (fun b => b ≠ w.heap.size ∧ b < wr.heap.size) (deepL f it k) (.slice ak (deepL f it k).len ck), .base w])) (fun i _ => N - (intOf i).toNat)
  case atStart =>
    have h3 := HF.out.rx 3 rfl
    exact ⟨0, ai, ci, Nat.zero_le _, rfl, Lib.hid ⟨HF.out.blk 2 rfl, ⟨h3.1.mono fun b hb => ⟨Nat.ne_of_lt hb, h3.2 b hb⟩, fun b hb => hb.2⟩, HF.out.base 4 rfl, trivial⟩⟩
  case round =>
    obtain ⟨k, ak, ck, hk, rfl, HR⟩ := hrel
    by_cases hlt : k < N
    · have hlt' : (k : Int) < (N : Int) := by omega
      have hL := lt_of_block (HR.out.blk 0 rfl)
      have HS := Lib.hid (show deepF f (k + 1) = kF 7 ∧ deepL f it (k + 1) = .cons (deepF f k) (deepL f it k) .nil from ⟨rfl, rfl⟩)
      obtain ⟨F, hF⟩ : ∃ F, F = deepF f k := ⟨_, rfl⟩
      obtain ⟨I, hI⟩ : ∃ I, I = deepL f it k := ⟨_, rfl⟩
      rw [← hF, ← hI] at HR HS
      clear hF hI
      obtain ⟨c0, c1, c2, c3, c4, c5, c6, c7, c8, fr⟩ := nine_cells (HR.out.blk 0 rfl)
      go_wp2_with fail
      refine ⟨⟨k + 1, some ⟨wr.heap.size, 0, none⟩, 1, by omega, by go_num, Lib.hid ?_⟩, by simp only [intOf]; omega⟩
      have HP := HR.out.put 0 rfl (by refine ⟨?_, ?_, trivial⟩ <;> (simp only [Fct.apart]; first | omega | (intro b hb; omega))) (.int .i64 7) (.int .i64 0) (.int .i64 0) (.string ⟨#[]⟩) (.string ⟨#[]⟩) (.int .i64 0) (.slice (some ⟨wr.heap.size, 0, none⟩) 1 1) (.string ⟨#[]⟩) (.int .i64 0)
      rw [HS.out.1, HS.out.2]
      obtain ⟨W1, hW1⟩ : ∃ W1, W1 = (((((((((wr.setCell ⟨w.heap.size, 0, none⟩ (.int .i64 7)).setCell ⟨w.heap.size, 1, none⟩ (.int .i64 0)).setCell ⟨w.heap.size, 2, none⟩ (.int .i64 0)).setCell ⟨w.heap.size, 3, none⟩ (.string ⟨#[]⟩)).setCell ⟨w.heap.size, 4, none⟩ (.string ⟨#[]⟩)).setCell ⟨w.heap.size, 5, none⟩ (.int .i64 0)).setCell ⟨w.heap.size, 6, none⟩ (.slice (some ⟨wr.heap.size, 0, none⟩) 1 1)).setCell ⟨w.heap.size, 7, none⟩ (.string ⟨#[]⟩)).setCell ⟨w.heap.size, 8, none⟩ (.int .i64 0)) := ⟨_, rfl⟩
      have hsz : W1.heap.size = wr.heap.size := by rw [hW1]; simp only [size_setCell]
      rw [← hW1] at HP ⊢
      clear hW1
      have HA := HP.alloc (.cells #[.int .i64 F.k, .int .i64 F.i, .int .i64 F.g, .string F.nm, .string F.fn, .int .i64 F.ar, .slice ak I.len ck, .string F.bs, .int .i64 F.n] 24 (0, 0))
      have hg := heap_alloc_new W1 (.cells #[.int .i64 F.k, .int .i64 F.i, .int .i64 F.g, .string F.nm, .string F.fn, .int .i64 F.ar, .slice ak I.len ck, .string F.bs, .int .i64 F.n] 24 (0, 0))
      rw [hsz] at hg
      refine ⟨HA.1, ⟨RdXS.one ((HA.rx 1 rfl).1.mono fun b hb => ⟨hb.1, ?_⟩) hg ⟨by omega, ?_⟩ (Nat.le_refl _) (by unfold maxLen; omega), fun b hb => hb.2⟩, HA.2.2.1, trivial⟩
      · rw [World.size_alloc, hsz]; omega
      · rw [World.size_alloc, hsz]; omega
    · have hlt' : ¬ (k : Int) < (N : Int) := by omega
      have hkt : k ≤ 2100 := by omega
      have HTk := Lib.hid (deep_tame HT.out (by have := HN.out; omega) hkt)
      have HF := HR
      obtain ⟨F, hF⟩ : ∃ F, F = deepF f k := ⟨_, rfl⟩
      obtain ⟨I, hI⟩ : ∃ I, I = deepL f it k := ⟨_, rfl⟩
      rw [← hF, ← hI] at HTk HF
      clear hF hI HR
      go_upto_region 13 with (fail)
      obtain ⟨d0, d1, d2, d3, d4, d5, d6, d7, d8, -⟩ := nine_cells (HF.out.blk 0 rfl)
      have HC1 := Lib.hid fun W (hb : Below wr.heap.size wr W) => pCheck_any F I _ W 0 wr.heap.size HTk.out ((HF.out.rx0 1 rfl).below hb (Nat.le_refl _)) hb.size
      have HC2 := Lib.hid fun W (hb : Below wr.heap.size wr W) => rCheck_any F I _ W 0 wr.heap.size HTk.out ((HF.out.rx0 1 rfl).below hb (Nat.le_refl _)) hb.size
      have HS1 := Lib.hid fun W (hb : Below wr.heap.size wr W) => pSize_any F I _ W 0 wr.heap.size HTk.out ((HF.out.rx0 1 rfl).below hb (Nat.le_refl _)) hb.size
      have HS2 := Lib.hid fun W (hb : Below wr.heap.size wr W) => rSize_any F I _ W 0 wr.heap.size HTk.out ((HF.out.rx0 1 rfl).below hb (Nat.le_refl _)) hb.size
      have HBc := Lib.hid (Below.refl wr.heap.size wr)
      go_region_held3 (fun w' => w'.cell? ⟨w.heap.size, 0, none⟩ = some (.int .i64 F.k) ∧ w'.cell? ⟨w.heap.size, 1, none⟩ = some (.int .i64 F.i) ∧ w'.cell? ⟨w.heap.size, 2, none⟩ = some (.int .i64 F.g) ∧ w'.cell? ⟨w.heap.size, 3, none⟩ = some (.string F.nm) ∧ w'.cell? ⟨w.heap.size, 4, none⟩ = some (.string F.fn) ∧ w'.cell? ⟨w.heap.size, 5, none⟩ = some (.int .i64 F.ar) ∧ w'.cell? ⟨w.heap.size, 6, none⟩ = some (.slice ak I.len ck) ∧ w'.cell? ⟨w.heap.size, 7, none⟩ = some (.string F.bs) ∧ w'.cell? ⟨w.heap.size, 8, none⟩ = some (.int .i64 F.n))
        (first
          | (exact ⟨d0, d1, d2, d3, d4, d5, d6, d7, d8⟩)
          | (go_split_ands; refine ⟨?_, ?_, ?_, ?_, ?_, ?_, ?_, ?_, ?_⟩ <;> exact below_keep hb1 (by assumption)))
        (first
          | (go_at_call 19; ((with_reducible refine (HC1.out _ (by first | exact HBc.out | exact HBc.out.drew)).mono ?_); rintro e w1 ⟨rfl, hb1⟩); have HBc := Lib.hid (show Below wr.heap.size wr w1 by first | exact bstep HBc.out hb1 | exact bstep HBc.out.drew hb1))
          | (go_at_call 20; ((with_reducible refine (HC2.out _ (by first | exact HBc.out | exact HBc.out.drew)).mono ?_); rintro e w1 ⟨rfl, hb1⟩); have HBc := Lib.hid (show Below wr.heap.size wr w1 by first | exact bstep HBc.out hb1 | exact bstep HBc.out.drew hb1))
          | (go_at_call 23; ((with_reducible refine (HS1.out _ (by first | exact HBc.out | exact HBc.out.drew)).mono ?_); rintro e w1 ⟨rfl, hb1⟩); have HBc := Lib.hid (show Below wr.heap.size wr w1 by first | exact bstep HBc.out hb1 | exact bstep HBc.out.drew hb1))
          | (go_at_call 24; ((with_reducible refine (HS2.out _ (by first | exact HBc.out | exact HBc.out.drew)).mono ?_); rintro e w1 ⟨rfl, hb1⟩); have HBc := Lib.hid (show Below wr.heap.size wr w1 by first | exact bstep HBc.out hb1 | exact bstep HBc.out.drew hb1)))
      have HF := Lib.hid (HF.out.below HBc.out)

      go_wp2_with fail
      go_ret
      exact ⟨rfl, HF.out.base 2 rfl⟩
end Go.Proofs.Ytgbaelkoblnlhaa
