/-
  Walks: the scanner of lex: number.
-/
import Derived.Test.YtmcnhggpmlhgeaaGreatDoorLa
import Derived.Test.YtmcnhggpmlhgeaaGreatDoorBuild
import Derived.WalkSmall
namespace Go.Proofs.YtmcnhggpmlhgeaaGreatDoor
open Go.RowKit
/-- the tables and variables that the program reads -/
structure Tb (w : World) : Prop where
  sp : As w
  er : ∃ tp p, w.var? Tryz.prog "strconv.ErrRange" = some #[.iface tp p]
  pw : Lib.TabIs Tryz.prog w "internal/strconv.uint64pow10" .u64 Lib.pow10Tab
  sz : 6 ≤ w.heap.size
theorem g_as : Tryz.prog.globalNamed "strings.asciiSpace" = some 0 := by kernel_rfl
theorem g_er : Tryz.prog.globalNamed "strconv.ErrRange" = some 5 := by kernel_rfl
theorem g_pw : Tryz.prog.globalNamed "internal/strconv.uint64pow10" = some 2 := by kernel_rfl
theorem Tb.below {w w' : World} (h : Tb w) (hb : Below w.heap.size w w') : Tb w' := by
  obtain ⟨h1, ⟨tp, p, h2⟩, h3, h4⟩ := h
  have hb9 : Below 6 w w' := ⟨hb.os, hb.tape, hb.output, hb.size, fun k hk => hb.block k (Nat.lt_of_lt_of_le hk h4)⟩
  exact ⟨var?_below hb9 g_as (by decide) h1, ⟨tp, p, var?_below hb9 g_er (by decide) h2⟩, var?_below hb9 g_pw (by decide) h3, Nat.le_trans h4 hb.size⟩
theorem Tb.chR {w w' : World} {R : Nat} (h : Tb w) (hb : Ch (fun k => k = R) w w') (h9 : 6 ≤ R) : Tb w' := by
  obtain ⟨h1, ⟨tp, p, h2⟩, h3, h4⟩ := h
  have hb9 : Below 6 w w' := ⟨hb.os, hb.tape, hb.output, hb.size, fun k hk => hb.block k (Nat.lt_of_lt_of_le hk h4) (by omega)⟩
  exact ⟨var?_below hb9 g_as (by decide) h1, ⟨tp, p, var?_below hb9 g_er (by decide) h2⟩, var?_below hb9 g_pw (by decide) h3, Nat.le_trans h4 hb.size⟩
theorem head_at {wd : List UInt8} (h : wd.head? = some 48) {h00 : 0 < (ba wd).size} : (ba wd)[0]'h00 = 48 := by
  cases wd with
  | nil => cases h
  | cons a r => injection h
theorem head_ne {wd : List UInt8} {h00 : 0 < (ba wd).size} (h : ¬ wd.head? = some 48) : ((((ba wd)[0]'h00).toNat : Int) == 48) = false := by
  cases wd with
  | nil => exact absurd h00 (Nat.lt_irrefl 0)
  | cons a r =>
    rw [beq_eq_false_iff_ne]
    intro e
    apply h
    have : a.toNat = 48 := by have : ((a.toNat : Int)) = 48 := e; omega
    rw [List.head?_cons, UInt8.toNat_inj.1 (show a.toNat = (48 : UInt8).toNat from this)]
theorem foldl_ge (l : List UInt8) : ∀ a : Nat, a ≤ l.foldl (fun a c => 10 * a + (c.toNat - 48)) a := by
  induction l with
  | nil => exact fun a => Nat.le_refl a
  | cons c r ih => exact fun a => Nat.le_trans (by omega) (ih (10 * a + (c.toNat - 48)))
theorem parse_acc (l : List UInt8) : ∀ a : Nat, (∀ c ∈ l, numC c = true) → a ≤ 18446744073709551615 → Lib.parseUintM 18446744073709551615 a l = if l.foldl (fun a c => 10 * a + (c.toNat - 48)) a ≤ 18446744073709551615 then .ok (l.foldl (fun a c => 10 * a + (c.toNat - 48)) a) else .range := by
  induction l with
  | nil => intro a _ ha; rw [Lib.parseUintM, List.foldl_nil, if_pos ha]
  | cons c r ih =>
    intro a hl ha
    have hc := (numC_iff c).1 (hl c (List.mem_cons_self ..))
    rw [Lib.parseUintM, if_pos hc, List.foldl_cons]
    have hge := foldl_ge r (10 * a + (c.toNat - 48))
    by_cases h1 : 1844674407370955162 ≤ a
    · rw [if_pos h1, if_neg (by omega)]
    · rw [if_neg h1]
      by_cases h2 : 18446744073709551615 < a * 10 + (c.toNat - 48)
      · rw [if_pos h2, if_neg (by omega)]
      · rw [if_neg h2, show a * 10 + (c.toNat - 48) = 10 * a + (c.toNat - 48) by omega]
        exact ih _ (fun x hx => hl x (List.mem_cons_of_mem _ hx)) (by omega)
theorem tw_all (q : UInt8 → Bool) : ∀ (l : List UInt8), ∀ c ∈ l.takeWhile q, q c = true
  | [], _, h => by cases h
  | a :: r, c, h => by
    rw [List.takeWhile_cons] at h
    split at h
    · rename_i ha
      rcases List.mem_cons.1 h with rfl | h
      · exact ha
      · exact tw_all q r c h
    · cases h
theorem parse_w {wd : List UInt8} (h0 : wd ≠ []) (hl : ∀ c ∈ wd, numC c = true) : Lib.parseUintB 64 wd = if numV wd ≤ 18446744073709551615 then .ok (numV wd) else .range := by
  unfold Lib.parseUintB
  rw [if_neg h0]
  exact parse_acc wd 0 hl (by omega)
/-- ParseUint of digits: the number, or an error -/
theorem parse_ok (wd : List UInt8) (h0 : wd ≠ []) (hl : ∀ c ∈ wd, numC c = true) (hs : wd.length ≤ 1000000) (hv : numV wd ≤ 18446744073709551615) (w : World) :
    Calls Tryz.prog 74 #[.string (ba wd), .int .i64 10, .int .i64 64] w fun e w' => e = .returned (.tuple #[.int .u64 (numV wd : Int), .nilIface]) ∧ Below w.heap.size w w' := by
  refine (Tryz.strconv_ParseUint_10_at64_ok (ba wd) (by rw [ba_size]; omega) (numV wd) ((parse_w h0 hl).trans (if_pos hv)) w).mono ?_
  rintro e w' ⟨he, h | h⟩
  · subst h; exact ⟨he, Below.refl _ _⟩
  · subst h; exact ⟨he, by unfold Lib.bytesWorld; exact Lib.below_freeze ((Below.drew (Below.refl w.heap.size w)).alloc (Nat.le_refl _) _) (p := ⟨w.heap.size, _, none⟩) (Nat.le_refl _) _⟩
theorem parse_er (wd : List UInt8) (h0 : wd ≠ []) (hl : ∀ c ∈ wd, numC c = true) (hs : wd.length ≤ 1000000) (hv : ¬ numV wd ≤ 18446744073709551615) (w : World) (hT : Tb w) :
    Calls Tryz.prog 74 #[.string (ba wd), .int .i64 10, .int .i64 64] w fun e w' => ∃ N t, e = .returned (.tuple #[.int .u64 18446744073709551615, .iface t (.pointer (some ⟨N, 0, none⟩))]) ∧ Below w.heap.size w w' := by
  obtain ⟨tp, p, hvar⟩ := hT.er
  refine (Tryz.strconv_ParseUint_10_at64_range_var (ba wd) (by rw [ba_size]; omega) ((parse_w h0 hl).trans (if_neg hv)) tp p w hvar).mono ?_
  rintro e w' ⟨N, he, _, _, hb⟩
  exact ⟨N, _, he, hb⟩
set_option maxRecDepth 100000 in
set_option maxHeartbeats 4000000 in
theorem number_er (R : Nat) (T : List UInt8) (p : Nat) (b : Nat) (w : World) (hr : Sc R T p (.map (some b)) w) (hw : Wds b w) (hbR : ¬ b = R) (hT : T.length ≤ 1000000) (hp : p ≤ T.length) (hv : ¬ numV ((T.drop p).takeWhile numC) ≤ 18446744073709551615) (h0 : ((T.drop p).takeWhile numC) ≠ []) (hTb : Tb w) (h9 : 6 ≤ R) :
    Calls Tryz.prog 58 #[.pointer (some ⟨R, 0, none⟩)] w (TokP (.bad 92) R T p (.map (some b)) w) := by
  have HTb := Lib.hid hTb
  clear hTb
  have hb1 := tw_bound numC hp
  have hd1 := drop_tw numC T p
  have HD1 := Lib.hid hd1
  clear hd1
  have hln := tw_le numC (T.drop p)
  rw [List.length_drop] at hln
  have HAL := Lib.hid (tw_all numC (T.drop p))
  have hRw : R < w.heap.size := lt_of_block hr
  obtain ⟨hbw, HKW⟩ : b < w.heap.size ∧ True := ⟨World.ownsMap.lt hw, trivial⟩
  have HF0 := Lib.hid (show Bq w [.blk R #[.string (ba T), .int .i64 ((p : Nat)), .map (some b)] 43, .any (fun k => k = b) (Wds b) (fun _ _ h hk hz => Wds.keep h hk hz), .base (fun k => k = R) w] from ⟨hr, hw, Ch.refl _ _, trivial⟩)
  clear hr hw HKW
  go_enter Tryz.func58, Tryz.ntmps58
  go_wp2_with fail
  have HF1 := Lib.hid (HF0.out.box #[.int .i64 0, .string ⟨#[]⟩, .int .u64 0, .int .i64 0] 36 (n := w.heap.size) (by rfl))
  clear HF0
  have hRun := run_t _ numC digit_t R T p (.map (some b)) _ (HF1.out.blk 1 rfl) (by omega) hp
  generalize hwd : (T.drop p).takeWhile numC = wd at *
  have HWD := Lib.hid hwd
  clear hwd
  have H0 := Lib.hid h0
  clear h0
  have hw1 : 1 ≤ wd.length := by rcases Nat.eq_zero_or_pos wd.length with h | h; exact absurd (List.length_eq_zero_iff.1 h) H0.out; exact h
  refine (hRun).mono ?_
  rintro e w1 ⟨rfl, hr, ho⟩
  have HF2 := Lib.hid (HF1.out.call 1 ho hr (by refine ⟨?_, ?_, ?_, trivial⟩ <;> (simp only [Fq.apart]; first | omega | (intro b h1 h2; omega) | (intro b h1 h2 h3; omega))))
  have hz1 : w.heap.size + 1 ≤ w1.heap.size := by have := ho.size; first | omega | (simp at this; omega)
  clear HF1 ho hr
  clear hRun
  obtain ⟨P, hP⟩ : ∃ P, P = p + wd.length := ⟨_, rfl⟩
  have HP := Lib.hid hP
  have hPb : P ≤ T.length := by omega
  have hpP : p ≤ P := by omega
  have HF2p := Lib.hid (show Bq w1 [.blk R #[.string (ba T), .int .i64 ((P : Int)), .map (some b)] 43, .blk (w.heap.size) #[.int .i64 0, .string ⟨#[]⟩, .int .u64 0, .int .i64 0] 36, .any (fun k => k = b) (Wds b) (fun _ _ h hk hz => Wds.keep h hk hz), .base (fun k => k = R) w] from hP ▸ HF2.out)
  clear HF2 hP
  have s1 : (ba wd).size = wd.length := ba_size _
  go_wp2_with fail
  have HTb2 := Lib.hid (show Tb w1 from HTb.out.chR (HF2p.out.base 3 rfl) h9)
  refine (parse_er wd H0.out HAL.out (by omega) hv _ HTb2.out).mono ?_
  rintro e w2 ⟨N, tE, rfl, hb⟩
  have HF3 := Lib.hid (HF2p.out.below hb)
  clear HF2p
  have hz2 : w1.heap.size ≤ w2.heap.size := by have := hb.size; first | omega | (simp at this; omega)
  clear hb
  have d0 := cells_of (HF3.out.blk 0 rfl) 0
  have d1 := cells_of (HF3.out.blk 0 rfl) 1
  have d2 := cells_of (HF3.out.blk 0 rfl) 2
  have HG := Lib.hid (show (ba T).size = T.length from ba_size T)
  have hTs : ((ba T).size : Int) = (T.length : Int) := by rw [ba_size]
  go_upto_region 3 with (fail)
  refine wp_region_still_lit (by kernel_rfl) (by kernel_rfl) ?_
  refine Shut.out ?_
  iterate 40 (refine stH_step (fun K hK => ?_); go_simp; refine hK _ ?_; clear hK K)
  refine stH_nil ?_
  have HDr := Lib.hid (show Bq ({ w2 with drawn := w2.drawn + 1 } : World) [.blk R #[.string (ba T), .int .i64 ((P : Int)), .map (some b)] 43, .blk (w.heap.size) #[.int .i64 0, .string ⟨#[]⟩, .int .u64 0, .int .i64 0] 36, .any (fun k => k = b) (Wds b) (fun _ _ h hk hz => Wds.keep h hk hz), .base (fun k => k = R) w] from HF3.out.dr)
  clear d0 d1 d2
  generalize ({ w2 with drawn := w2.drawn + 1 } : World) = w3 at HDr ⊢
  obtain ⟨c0, c1, c2, c3, fr⟩ := four_cells (HDr.out.blk 1 rfl)
  have hb0 := lt_of_block (HDr.out.blk 1 rfl)
  go_wp2_with fail
  have HF4 := Lib.hid (HDr.out.put 1 rfl (by refine ⟨?_, ?_, ?_, trivial⟩ <;> (simp only [Fq.apart]; first | omega | (intro b h1 h2; omega) | (intro b h1 h2 h3; omega))) (.int .i64 0) (.string ⟨#[]⟩) (.int .u64 0) (.int .i64 0))
  clear HDr
  refine bodyPost_ret (results_tok rfl _ _ _ _ _ _ _ rfl (HF4.out.blk 0 rfl)) rfl ?_
  exact ⟨rfl, P, hpP, hPb, trivial, (HF4.out.blk 1 rfl), (HF4.out.base 3 rfl)⟩
set_option maxRecDepth 100000 in
set_option maxHeartbeats 4000000 in
theorem number_big (R : Nat) (T : List UInt8) (p : Nat) (b : Nat) (w : World) (hr : Sc R T p (.map (some b)) w) (hw : Wds b w) (hbR : ¬ b = R) (hT : T.length ≤ 1000000) (hp : p ≤ T.length) (hv : numV ((T.drop p).takeWhile numC) ≤ 18446744073709551615) (hb : 9223372036854775808 < numV ((T.drop p).takeWhile numC)) (h0 : ((T.drop p).takeWhile numC) ≠ []) :
    Calls Tryz.prog 58 #[.pointer (some ⟨R, 0, none⟩)] w (TokP (.bad 92) R T p (.map (some b)) w) := by
  have hb1 := tw_bound numC hp
  have hd1 := drop_tw numC T p
  have HD1 := Lib.hid hd1
  clear hd1
  have hln := tw_le numC (T.drop p)
  rw [List.length_drop] at hln
  have HAL := Lib.hid (tw_all numC (T.drop p))
  have hRw : R < w.heap.size := lt_of_block hr
  obtain ⟨hbw, HKW⟩ : b < w.heap.size ∧ True := ⟨World.ownsMap.lt hw, trivial⟩
  have HF0 := Lib.hid (show Bq w [.blk R #[.string (ba T), .int .i64 ((p : Nat)), .map (some b)] 43, .any (fun k => k = b) (Wds b) (fun _ _ h hk hz => Wds.keep h hk hz), .base (fun k => k = R) w] from ⟨hr, hw, Ch.refl _ _, trivial⟩)
  clear hr hw HKW
  go_enter Tryz.func58, Tryz.ntmps58
  go_wp2_with fail
  have HF1 := Lib.hid (HF0.out.box #[.int .i64 0, .string ⟨#[]⟩, .int .u64 0, .int .i64 0] 36 (n := w.heap.size) (by rfl))
  clear HF0
  have hRun := run_t _ numC digit_t R T p (.map (some b)) _ (HF1.out.blk 1 rfl) (by omega) hp
  generalize hwd : (T.drop p).takeWhile numC = wd at *
  have HWD := Lib.hid hwd
  clear hwd
  have H0 := Lib.hid h0
  clear h0
  have hw1 : 1 ≤ wd.length := by rcases Nat.eq_zero_or_pos wd.length with h | h; exact absurd (List.length_eq_zero_iff.1 h) H0.out; exact h
  refine (hRun).mono ?_
  rintro e w1 ⟨rfl, hr, ho⟩
  have HF2 := Lib.hid (HF1.out.call 1 ho hr (by refine ⟨?_, ?_, ?_, trivial⟩ <;> (simp only [Fq.apart]; first | omega | (intro b h1 h2; omega) | (intro b h1 h2 h3; omega))))
  have hz1 : w.heap.size + 1 ≤ w1.heap.size := by have := ho.size; first | omega | (simp at this; omega)
  clear HF1 ho hr
  clear hRun
  obtain ⟨P, hP⟩ : ∃ P, P = p + wd.length := ⟨_, rfl⟩
  have HP := Lib.hid hP
  have hPb : P ≤ T.length := by omega
  have hpP : p ≤ P := by omega
  have HF2p := Lib.hid (show Bq w1 [.blk R #[.string (ba T), .int .i64 ((P : Int)), .map (some b)] 43, .blk (w.heap.size) #[.int .i64 0, .string ⟨#[]⟩, .int .u64 0, .int .i64 0] 36, .any (fun k => k = b) (Wds b) (fun _ _ h hk hz => Wds.keep h hk hz), .base (fun k => k = R) w] from hP ▸ HF2.out)
  clear HF2 hP
  have s1 : (ba wd).size = wd.length := ba_size _
  go_wp2_with fail
  refine (parse_ok wd H0.out HAL.out (by omega) (by omega) _).mono ?_
  rintro e w2 ⟨rfl, hb⟩
  have HF3 := Lib.hid (HF2p.out.below hb)
  clear HF2p
  have hz2 : w1.heap.size ≤ w2.heap.size := by have := hb.size; first | omega | (simp at this; omega)
  clear hb
  have d0 := cells_of (HF3.out.blk 0 rfl) 0
  have d1 := cells_of (HF3.out.blk 0 rfl) 1
  have d2 := cells_of (HF3.out.blk 0 rfl) 2
  have HG := Lib.hid (show (ba T).size = T.length from ba_size T)
  have hTs : ((ba T).size : Int) = (T.length : Int) := by rw [ba_size]
  have x1 : (9223372036854775808 : Int) < (numV wd : Int) := by omega
  go_upto_region 3 with (fail)
  refine wp_region_still_lit (by kernel_rfl) (by kernel_rfl) ?_
  refine Shut.out ?_
  iterate 40 (refine stH_step (fun K hK => ?_); go_simp; refine hK _ ?_; clear hK K)
  refine stH_nil ?_
  have HDr := Lib.hid (show Bq ({ w2 with drawn := w2.drawn + 1 } : World) [.blk R #[.string (ba T), .int .i64 ((P : Int)), .map (some b)] 43, .blk (w.heap.size) #[.int .i64 0, .string ⟨#[]⟩, .int .u64 0, .int .i64 0] 36, .any (fun k => k = b) (Wds b) (fun _ _ h hk hz => Wds.keep h hk hz), .base (fun k => k = R) w] from HF3.out.dr)
  clear d0 d1 d2
  generalize ({ w2 with drawn := w2.drawn + 1 } : World) = w3 at HDr ⊢
  obtain ⟨c0, c1, c2, c3, fr⟩ := four_cells (HDr.out.blk 1 rfl)
  have hb0 := lt_of_block (HDr.out.blk 1 rfl)
  go_wp2_with fail
  have HF4 := Lib.hid (HDr.out.put 1 rfl (by refine ⟨?_, ?_, ?_, trivial⟩ <;> (simp only [Fq.apart]; first | omega | (intro b h1 h2; omega) | (intro b h1 h2 h3; omega))) (.int .i64 0) (.string ⟨#[]⟩) (.int .u64 0) (.int .i64 0))
  clear HDr
  refine bodyPost_ret (results_tok rfl _ _ _ _ _ _ _ rfl (HF4.out.blk 0 rfl)) rfl ?_
  exact ⟨rfl, P, hpP, hPb, trivial, (HF4.out.blk 1 rfl), (HF4.out.base 3 rfl)⟩
set_option maxRecDepth 100000 in
set_option maxHeartbeats 4000000 in
theorem number_lead (R : Nat) (T : List UInt8) (p : Nat) (b : Nat) (w : World) (hr : Sc R T p (.map (some b)) w) (hw : Wds b w) (hbR : ¬ b = R) (hT : T.length ≤ 1000000) (hp : p ≤ T.length) (hv : numV ((T.drop p).takeWhile numC) ≤ 9223372036854775808) (h1 : 1 < ((T.drop p).takeWhile numC).length) (h48 : ((T.drop p).takeWhile numC).head? = some 48) (h0 : ((T.drop p).takeWhile numC) ≠ []) :
    Calls Tryz.prog 58 #[.pointer (some ⟨R, 0, none⟩)] w (TokP (.bad 92) R T p (.map (some b)) w) := by
  have hb1 := tw_bound numC hp
  have hd1 := drop_tw numC T p
  have HD1 := Lib.hid hd1
  clear hd1
  have hln := tw_le numC (T.drop p)
  rw [List.length_drop] at hln
  have HAL := Lib.hid (tw_all numC (T.drop p))
  have hRw : R < w.heap.size := lt_of_block hr
  obtain ⟨hbw, HKW⟩ : b < w.heap.size ∧ True := ⟨World.ownsMap.lt hw, trivial⟩
  have HF0 := Lib.hid (show Bq w [.blk R #[.string (ba T), .int .i64 ((p : Nat)), .map (some b)] 43, .any (fun k => k = b) (Wds b) (fun _ _ h hk hz => Wds.keep h hk hz), .base (fun k => k = R) w] from ⟨hr, hw, Ch.refl _ _, trivial⟩)
  clear hr hw HKW
  go_enter Tryz.func58, Tryz.ntmps58
  go_wp2_with fail
  have HF1 := Lib.hid (HF0.out.box #[.int .i64 0, .string ⟨#[]⟩, .int .u64 0, .int .i64 0] 36 (n := w.heap.size) (by rfl))
  clear HF0
  have hRun := run_t _ numC digit_t R T p (.map (some b)) _ (HF1.out.blk 1 rfl) (by omega) hp
  generalize hwd : (T.drop p).takeWhile numC = wd at *
  have HWD := Lib.hid hwd
  clear hwd
  have H0 := Lib.hid h0
  clear h0
  have hw1 : 1 ≤ wd.length := by rcases Nat.eq_zero_or_pos wd.length with h | h; exact absurd (List.length_eq_zero_iff.1 h) H0.out; exact h
  refine (hRun).mono ?_
  rintro e w1 ⟨rfl, hr, ho⟩
  have HF2 := Lib.hid (HF1.out.call 1 ho hr (by refine ⟨?_, ?_, ?_, trivial⟩ <;> (simp only [Fq.apart]; first | omega | (intro b h1 h2; omega) | (intro b h1 h2 h3; omega))))
  have hz1 : w.heap.size + 1 ≤ w1.heap.size := by have := ho.size; first | omega | (simp at this; omega)
  clear HF1 ho hr
  clear hRun
  obtain ⟨P, hP⟩ : ∃ P, P = p + wd.length := ⟨_, rfl⟩
  have HP := Lib.hid hP
  have hPb : P ≤ T.length := by omega
  have hpP : p ≤ P := by omega
  have HF2p := Lib.hid (show Bq w1 [.blk R #[.string (ba T), .int .i64 ((P : Int)), .map (some b)] 43, .blk (w.heap.size) #[.int .i64 0, .string ⟨#[]⟩, .int .u64 0, .int .i64 0] 36, .any (fun k => k = b) (Wds b) (fun _ _ h hk hz => Wds.keep h hk hz), .base (fun k => k = R) w] from hP ▸ HF2.out)
  clear HF2 hP
  have HV48 := Lib.hid h48
  clear h48
  have s1 : (ba wd).size = wd.length := ba_size _
  go_wp2_with fail
  refine (parse_ok wd H0.out HAL.out (by omega) (by omega) _).mono ?_
  rintro e w2 ⟨rfl, hb⟩
  have HF3 := Lib.hid (HF2p.out.below hb)
  clear HF2p
  have hz2 : w1.heap.size ≤ w2.heap.size := by have := hb.size; first | omega | (simp at this; omega)
  clear hb
  have d0 := cells_of (HF3.out.blk 0 rfl) 0
  have d1 := cells_of (HF3.out.blk 0 rfl) 1
  have d2 := cells_of (HF3.out.blk 0 rfl) 2
  have HG := Lib.hid (show (ba T).size = T.length from ba_size T)
  have hTs : ((ba T).size : Int) = (T.length : Int) := by rw [ba_size]
  have x1 : ¬ (9223372036854775808 : Int) < (numV wd : Int) := by omega
  have h00 : 0 < (ba wd).size := by omega
  have h01 : 0 < wd.length := by omega
  have x2 : (1 : Int) < (wd.length : Int) := by omega
  have x3 : ((((ba wd)[0]'h00).toNat : Int) == 48) = true := by rw [head_at HV48.out (h00 := h00)]; rfl
  go_upto_region 3 with (fail)
  refine wp_region_still_lit (by kernel_rfl) (by kernel_rfl) ?_
  refine Shut.out ?_
  iterate 40 (refine stH_step (fun K hK => ?_); go_simp; refine hK _ ?_; clear hK K)
  refine stH_nil ?_
  have HDr := Lib.hid (show Bq ({ w2 with drawn := w2.drawn + 1 } : World) [.blk R #[.string (ba T), .int .i64 ((P : Int)), .map (some b)] 43, .blk (w.heap.size) #[.int .i64 0, .string ⟨#[]⟩, .int .u64 0, .int .i64 0] 36, .any (fun k => k = b) (Wds b) (fun _ _ h hk hz => Wds.keep h hk hz), .base (fun k => k = R) w] from HF3.out.dr)
  clear d0 d1 d2
  generalize ({ w2 with drawn := w2.drawn + 1 } : World) = w3 at HDr ⊢
  obtain ⟨c0, c1, c2, c3, fr⟩ := four_cells (HDr.out.blk 1 rfl)
  have hb0 := lt_of_block (HDr.out.blk 1 rfl)
  go_wp2_with fail
  have HF4 := Lib.hid (HDr.out.put 1 rfl (by refine ⟨?_, ?_, ?_, trivial⟩ <;> (simp only [Fq.apart]; first | omega | (intro b h1 h2; omega) | (intro b h1 h2 h3; omega))) (.int .i64 0) (.string ⟨#[]⟩) (.int .u64 0) (.int .i64 0))
  clear HDr
  refine bodyPost_ret (results_tok rfl _ _ _ _ _ _ _ rfl (HF4.out.blk 0 rfl)) rfl ?_
  exact ⟨rfl, P, hpP, hPb, trivial, (HF4.out.blk 1 rfl), (HF4.out.base 3 rfl)⟩
set_option maxRecDepth 100000 in
set_option maxHeartbeats 4000000 in
theorem number_end (R : Nat) (T : List UInt8) (p : Nat) (b : Nat) (w : World) (hr : Sc R T p (.map (some b)) w) (hw : Wds b w) (hbR : ¬ b = R) (hT : T.length ≤ 1000000) (hp : p ≤ T.length) (hv : numV ((T.drop p).takeWhile numC) ≤ 9223372036854775808) (h1 : ¬ (1 < ((T.drop p).takeWhile numC).length ∧ ((T.drop p).takeWhile numC).head? = some 48)) (he : p + ((T.drop p).takeWhile numC).length = T.length) (h0 : ((T.drop p).takeWhile numC) ≠ []) :
    Calls Tryz.prog 58 #[.pointer (some ⟨R, 0, none⟩)] w (TokP (.tok 3 [] (numV ((T.drop p).takeWhile numC)) ((T.drop p).dropWhile numC)) R T p (.map (some b)) w) := by
  have hb1 := tw_bound numC hp
  have hd1 := drop_tw numC T p
  have HD1 := Lib.hid hd1
  clear hd1
  have hln := tw_le numC (T.drop p)
  rw [List.length_drop] at hln
  have HAL := Lib.hid (tw_all numC (T.drop p))
  have hRw : R < w.heap.size := lt_of_block hr
  obtain ⟨hbw, HKW⟩ : b < w.heap.size ∧ True := ⟨World.ownsMap.lt hw, trivial⟩
  have HF0 := Lib.hid (show Bq w [.blk R #[.string (ba T), .int .i64 ((p : Nat)), .map (some b)] 43, .any (fun k => k = b) (Wds b) (fun _ _ h hk hz => Wds.keep h hk hz), .base (fun k => k = R) w] from ⟨hr, hw, Ch.refl _ _, trivial⟩)
  clear hr hw HKW
  go_enter Tryz.func58, Tryz.ntmps58
  go_wp2_with fail
  have HF1 := Lib.hid (HF0.out.box #[.int .i64 0, .string ⟨#[]⟩, .int .u64 0, .int .i64 0] 36 (n := w.heap.size) (by rfl))
  clear HF0
  have hRun := run_t _ numC digit_t R T p (.map (some b)) _ (HF1.out.blk 1 rfl) (by omega) hp
  generalize hwd : (T.drop p).takeWhile numC = wd at *
  have HWD := Lib.hid hwd
  clear hwd
  have H0 := Lib.hid h0
  clear h0
  have hw1 : 1 ≤ wd.length := by rcases Nat.eq_zero_or_pos wd.length with h | h; exact absurd (List.length_eq_zero_iff.1 h) H0.out; exact h
  refine (hRun).mono ?_
  rintro e w1 ⟨rfl, hr, ho⟩
  have HF2 := Lib.hid (HF1.out.call 1 ho hr (by refine ⟨?_, ?_, ?_, trivial⟩ <;> (simp only [Fq.apart]; first | omega | (intro b h1 h2; omega) | (intro b h1 h2 h3; omega))))
  have hz1 : w.heap.size + 1 ≤ w1.heap.size := by have := ho.size; first | omega | (simp at this; omega)
  clear HF1 ho hr
  clear hRun
  obtain ⟨P, hP⟩ : ∃ P, P = p + wd.length := ⟨_, rfl⟩
  have HP := Lib.hid hP
  have hPb : P ≤ T.length := by omega
  have hpP : p ≤ P := by omega
  have hPe : ((P : Int) < (T.length : Int)) = False := by apply eq_false; omega
  have hPn : (P < T.length) = False := by apply eq_false; omega
  have HF2p := Lib.hid (show Bq w1 [.blk R #[.string (ba T), .int .i64 ((P : Int)), .map (some b)] 43, .blk (w.heap.size) #[.int .i64 0, .string ⟨#[]⟩, .int .u64 0, .int .i64 0] 36, .any (fun k => k = b) (Wds b) (fun _ _ h hk hz => Wds.keep h hk hz), .base (fun k => k = R) w] from hP ▸ HF2.out)
  clear HF2 hP
  have HV1 := Lib.hid h1
  clear h1
  have s1 : (ba wd).size = wd.length := ba_size _
  go_wp2_with fail
  refine (parse_ok wd H0.out HAL.out (by omega) (by omega) _).mono ?_
  rintro e w2 ⟨rfl, hb⟩
  have HF3 := Lib.hid (HF2p.out.below hb)
  clear HF2p
  have hz2 : w1.heap.size ≤ w2.heap.size := by have := hb.size; first | omega | (simp at this; omega)
  clear hb
  have d0 := cells_of (HF3.out.blk 0 rfl) 0
  have d1 := cells_of (HF3.out.blk 0 rfl) 1
  have d2 := cells_of (HF3.out.blk 0 rfl) 2
  have HG := Lib.hid (show (ba T).size = T.length from ba_size T)
  have hTs : ((ba T).size : Int) = (T.length : Int) := by rw [ba_size]
  have x1 : ¬ (9223372036854775808 : Int) < (numV wd : Int) := by omega
  have h00 : 0 < (ba wd).size := by omega
  have h01 : 0 < wd.length := by omega
  by_cases h2 : 1 < wd.length
  · skip
    have x2 : (1 : Int) < (wd.length : Int) := by omega
    have x3 : ((((ba wd)[0]'h00).toNat : Int) == 48) = false := head_ne (fun h => HV1.out ⟨h2, h⟩)
    clear h2
    go_upto_region 3 with (fail)
    refine wp_region_still_lit (by kernel_rfl) (by kernel_rfl) ?_
    refine Shut.out ?_
    iterate 40 (refine stH_step (fun K hK => ?_); go_simp; refine hK _ ?_; clear hK K)
    refine stH_nil ?_
    have HDr := Lib.hid (show Bq ({ w2 with drawn := w2.drawn + 1 } : World) [.blk R #[.string (ba T), .int .i64 ((P : Int)), .map (some b)] 43, .blk (w.heap.size) #[.int .i64 0, .string ⟨#[]⟩, .int .u64 0, .int .i64 0] 36, .any (fun k => k = b) (Wds b) (fun _ _ h hk hz => Wds.keep h hk hz), .base (fun k => k = R) w] from HF3.out.dr)
    clear d0 d1 d2
    generalize ({ w2 with drawn := w2.drawn + 1 } : World) = w3 at HDr ⊢
    obtain ⟨c0, c1, c2, c3, fr⟩ := four_cells (HDr.out.blk 1 rfl)
    have hb0 := lt_of_block (HDr.out.blk 1 rfl)
    go_wp2_with fail
    have HF4 := Lib.hid (HDr.out.put 1 rfl (by refine ⟨?_, ?_, ?_, trivial⟩ <;> (simp only [Fq.apart]; first | omega | (intro b h1 h2; omega) | (intro b h1 h2 h3; omega))) (.int .i64 3) (.string ⟨#[]⟩) (.int .u64 (numV wd : Int)) (.int .i64 0))
    clear HDr
    refine bodyPost_ret (results_tok rfl _ _ _ _ _ _ _ rfl (HF4.out.blk 0 rfl)) rfl ?_
    exact ⟨rfl, P, hpP, hPb, by rw [HP.out]; exact HD1.out, (HF4.out.blk 1 rfl), (HF4.out.base 3 rfl)⟩
  · skip
    have x2 : ((1 : Int) < (wd.length : Int)) = False := by apply eq_false; omega
    have x2b : decide ((1 : Int) < (wd.length : Int)) = false := by rw [decide_eq_false_iff_not]; omega
    clear h2
    go_upto_region 3 with (fail)
    refine wp_region_still_lit (by kernel_rfl) (by kernel_rfl) ?_
    refine Shut.out ?_
    iterate 40 (refine stH_step (fun K hK => ?_); go_simp; refine hK _ ?_; clear hK K)
    refine stH_nil ?_
    have HDr := Lib.hid (show Bq ({ w2 with drawn := w2.drawn + 1 } : World) [.blk R #[.string (ba T), .int .i64 ((P : Int)), .map (some b)] 43, .blk (w.heap.size) #[.int .i64 0, .string ⟨#[]⟩, .int .u64 0, .int .i64 0] 36, .any (fun k => k = b) (Wds b) (fun _ _ h hk hz => Wds.keep h hk hz), .base (fun k => k = R) w] from HF3.out.dr)
    clear d0 d1 d2
    generalize ({ w2 with drawn := w2.drawn + 1 } : World) = w3 at HDr ⊢
    obtain ⟨c0, c1, c2, c3, fr⟩ := four_cells (HDr.out.blk 1 rfl)
    have hb0 := lt_of_block (HDr.out.blk 1 rfl)
    go_wp2_with fail
    have HF4 := Lib.hid (HDr.out.put 1 rfl (by refine ⟨?_, ?_, ?_, trivial⟩ <;> (simp only [Fq.apart]; first | omega | (intro b h1 h2; omega) | (intro b h1 h2 h3; omega))) (.int .i64 3) (.string ⟨#[]⟩) (.int .u64 (numV wd : Int)) (.int .i64 0))
    clear HDr
    refine bodyPost_ret (results_tok rfl _ _ _ _ _ _ _ rfl (HF4.out.blk 0 rfl)) rfl ?_
    exact ⟨rfl, P, hpP, hPb, by rw [HP.out]; exact HD1.out, (HF4.out.blk 1 rfl), (HF4.out.base 3 rfl)⟩
set_option maxRecDepth 100000 in
set_option maxHeartbeats 4000000 in
theorem number_named (R : Nat) (T : List UInt8) (p : Nat) (b : Nat) (w : World) (hr : Sc R T p (.map (some b)) w) (hw : Wds b w) (hbR : ¬ b = R) (hT : T.length ≤ 1000000) (hp : p ≤ T.length) (hv : numV ((T.drop p).takeWhile numC) ≤ 9223372036854775808) (h1 : ¬ (1 < ((T.drop p).takeWhile numC).length ∧ ((T.drop p).takeWhile numC).head? = some 48)) (he : p + ((T.drop p).takeWhile numC).length < T.length) (hn : namC (T[p + ((T.drop p).takeWhile numC).length]) = true) (h0 : ((T.drop p).takeWhile numC) ≠ []) :
    Calls Tryz.prog 58 #[.pointer (some ⟨R, 0, none⟩)] w (TokP (.bad 92) R T p (.map (some b)) w) := by
  have hb1 := tw_bound numC hp
  have hd1 := drop_tw numC T p
  have HD1 := Lib.hid hd1
  clear hd1
  have hln := tw_le numC (T.drop p)
  rw [List.length_drop] at hln
  have HAL := Lib.hid (tw_all numC (T.drop p))
  have hRw : R < w.heap.size := lt_of_block hr
  obtain ⟨hbw, HKW⟩ : b < w.heap.size ∧ True := ⟨World.ownsMap.lt hw, trivial⟩
  have HF0 := Lib.hid (show Bq w [.blk R #[.string (ba T), .int .i64 ((p : Nat)), .map (some b)] 43, .any (fun k => k = b) (Wds b) (fun _ _ h hk hz => Wds.keep h hk hz), .base (fun k => k = R) w] from ⟨hr, hw, Ch.refl _ _, trivial⟩)
  clear hr hw HKW
  go_enter Tryz.func58, Tryz.ntmps58
  go_wp2_with fail
  have HF1 := Lib.hid (HF0.out.box #[.int .i64 0, .string ⟨#[]⟩, .int .u64 0, .int .i64 0] 36 (n := w.heap.size) (by rfl))
  clear HF0
  have hRun := run_t _ numC digit_t R T p (.map (some b)) _ (HF1.out.blk 1 rfl) (by omega) hp
  generalize hwd : (T.drop p).takeWhile numC = wd at *
  have HWD := Lib.hid hwd
  clear hwd
  have H0 := Lib.hid h0
  clear h0
  have hw1 : 1 ≤ wd.length := by rcases Nat.eq_zero_or_pos wd.length with h | h; exact absurd (List.length_eq_zero_iff.1 h) H0.out; exact h
  refine (hRun).mono ?_
  rintro e w1 ⟨rfl, hr, ho⟩
  have HF2 := Lib.hid (HF1.out.call 1 ho hr (by refine ⟨?_, ?_, ?_, trivial⟩ <;> (simp only [Fq.apart]; first | omega | (intro b h1 h2; omega) | (intro b h1 h2 h3; omega))))
  have hz1 : w.heap.size + 1 ≤ w1.heap.size := by have := ho.size; first | omega | (simp at this; omega)
  clear HF1 ho hr
  clear hRun
  obtain ⟨P, hP⟩ : ∃ P, P = p + wd.length := ⟨_, rfl⟩
  have hPl : P < T.length := by omega
  have hn2 : namC (T[P]) = true := by subst hP; exact hn
  have HN2 := Lib.hid hn2
  clear hn hn2
  have HP := Lib.hid hP
  have hPb : P ≤ T.length := by omega
  have hpP : p ≤ P := by omega
  have HF2p := Lib.hid (show Bq w1 [.blk R #[.string (ba T), .int .i64 ((P : Int)), .map (some b)] 43, .blk (w.heap.size) #[.int .i64 0, .string ⟨#[]⟩, .int .u64 0, .int .i64 0] 36, .any (fun k => k = b) (Wds b) (fun _ _ h hk hz => Wds.keep h hk hz), .base (fun k => k = R) w] from hP ▸ HF2.out)
  clear HF2 hP
  have HV1 := Lib.hid h1
  clear h1
  have s1 : (ba wd).size = wd.length := ba_size _
  go_wp2_with fail
  refine (parse_ok wd H0.out HAL.out (by omega) (by omega) _).mono ?_
  rintro e w2 ⟨rfl, hb⟩
  have HF3 := Lib.hid (HF2p.out.below hb)
  clear HF2p
  have hz2 : w1.heap.size ≤ w2.heap.size := by have := hb.size; first | omega | (simp at this; omega)
  clear hb
  have d0 := cells_of (HF3.out.blk 0 rfl) 0
  have d1 := cells_of (HF3.out.blk 0 rfl) 1
  have d2 := cells_of (HF3.out.blk 0 rfl) 2
  have HG := Lib.hid (show (ba T).size = T.length from ba_size T)
  have hTs : ((ba T).size : Int) = (T.length : Int) := by rw [ba_size]
  have x1 : ¬ (9223372036854775808 : Int) < (numV wd : Int) := by omega
  have h00 : 0 < (ba wd).size := by omega
  have h01 : 0 < wd.length := by omega
  have HNm := Lib.hid fun W => (named_p (T[P]) W).mono fun e w' h => (show e = .returned (.bool true) ∧ w' = W by rw [HN2.out] at h; exact h)
  have x5 : (P : Int) < (T.length : Int) := by omega
  by_cases h2 : 1 < wd.length
  · skip
    have x2 : (1 : Int) < (wd.length : Int) := by omega
    have x3 : ((((ba wd)[0]'h00).toNat : Int) == 48) = false := head_ne (fun h => HV1.out ⟨h2, h⟩)
    clear h2
    go_upto_region 3 with (fail)
    refine wp_region_still_lit (by kernel_rfl) (by kernel_rfl) ?_
    refine Shut.out ?_
    iterate 37 (refine stH_step (fun K hK => ?_); go_simp; refine hK _ ?_; clear hK K)
    refine stH_step (fun K hK => ?_)
    go_simp
    refine ⟨_, HNm.out _, hK _ ?_⟩
    clear hK K
    iterate 2 (refine stH_step (fun K hK => ?_); go_simp; refine hK _ ?_; clear hK K)
    refine stH_nil ?_
    have HDr := Lib.hid (show Bq ({ w2 with drawn := w2.drawn + 1 } : World) [.blk R #[.string (ba T), .int .i64 ((P : Int)), .map (some b)] 43, .blk (w.heap.size) #[.int .i64 0, .string ⟨#[]⟩, .int .u64 0, .int .i64 0] 36, .any (fun k => k = b) (Wds b) (fun _ _ h hk hz => Wds.keep h hk hz), .base (fun k => k = R) w] from HF3.out.dr)
    clear d0 d1 d2
    generalize ({ w2 with drawn := w2.drawn + 1 } : World) = w3 at HDr ⊢
    obtain ⟨c0, c1, c2, c3, fr⟩ := four_cells (HDr.out.blk 1 rfl)
    have hb0 := lt_of_block (HDr.out.blk 1 rfl)
    go_wp2_with fail
    have HF4 := Lib.hid (HDr.out.put 1 rfl (by refine ⟨?_, ?_, ?_, trivial⟩ <;> (simp only [Fq.apart]; first | omega | (intro b h1 h2; omega) | (intro b h1 h2 h3; omega))) (.int .i64 0) (.string ⟨#[]⟩) (.int .u64 0) (.int .i64 0))
    clear HDr
    refine bodyPost_ret (results_tok rfl _ _ _ _ _ _ _ rfl (HF4.out.blk 0 rfl)) rfl ?_
    exact ⟨rfl, P, hpP, hPb, trivial, (HF4.out.blk 1 rfl), (HF4.out.base 3 rfl)⟩
  · skip
    have x2 : ((1 : Int) < (wd.length : Int)) = False := by apply eq_false; omega
    have x2b : decide ((1 : Int) < (wd.length : Int)) = false := by rw [decide_eq_false_iff_not]; omega
    clear h2
    go_upto_region 3 with (fail)
    refine wp_region_still_lit (by kernel_rfl) (by kernel_rfl) ?_
    refine Shut.out ?_
    iterate 37 (refine stH_step (fun K hK => ?_); go_simp; refine hK _ ?_; clear hK K)
    refine stH_step (fun K hK => ?_)
    go_simp
    refine ⟨_, HNm.out _, hK _ ?_⟩
    clear hK K
    iterate 2 (refine stH_step (fun K hK => ?_); go_simp; refine hK _ ?_; clear hK K)
    refine stH_nil ?_
    have HDr := Lib.hid (show Bq ({ w2 with drawn := w2.drawn + 1 } : World) [.blk R #[.string (ba T), .int .i64 ((P : Int)), .map (some b)] 43, .blk (w.heap.size) #[.int .i64 0, .string ⟨#[]⟩, .int .u64 0, .int .i64 0] 36, .any (fun k => k = b) (Wds b) (fun _ _ h hk hz => Wds.keep h hk hz), .base (fun k => k = R) w] from HF3.out.dr)
    clear d0 d1 d2
    generalize ({ w2 with drawn := w2.drawn + 1 } : World) = w3 at HDr ⊢
    obtain ⟨c0, c1, c2, c3, fr⟩ := four_cells (HDr.out.blk 1 rfl)
    have hb0 := lt_of_block (HDr.out.blk 1 rfl)
    go_wp2_with fail
    have HF4 := Lib.hid (HDr.out.put 1 rfl (by refine ⟨?_, ?_, ?_, trivial⟩ <;> (simp only [Fq.apart]; first | omega | (intro b h1 h2; omega) | (intro b h1 h2 h3; omega))) (.int .i64 0) (.string ⟨#[]⟩) (.int .u64 0) (.int .i64 0))
    clear HDr
    refine bodyPost_ret (results_tok rfl _ _ _ _ _ _ _ rfl (HF4.out.blk 0 rfl)) rfl ?_
    exact ⟨rfl, P, hpP, hPb, trivial, (HF4.out.blk 1 rfl), (HF4.out.base 3 rfl)⟩
set_option maxRecDepth 100000 in
set_option maxHeartbeats 4000000 in
theorem number_ok (R : Nat) (T : List UInt8) (p : Nat) (b : Nat) (w : World) (hr : Sc R T p (.map (some b)) w) (hw : Wds b w) (hbR : ¬ b = R) (hT : T.length ≤ 1000000) (hp : p ≤ T.length) (hv : numV ((T.drop p).takeWhile numC) ≤ 9223372036854775808) (h1 : ¬ (1 < ((T.drop p).takeWhile numC).length ∧ ((T.drop p).takeWhile numC).head? = some 48)) (he : p + ((T.drop p).takeWhile numC).length < T.length) (hn : namC (T[p + ((T.drop p).takeWhile numC).length]) = false) (h0 : ((T.drop p).takeWhile numC) ≠ []) :
    Calls Tryz.prog 58 #[.pointer (some ⟨R, 0, none⟩)] w (TokP (.tok 3 [] (numV ((T.drop p).takeWhile numC)) ((T.drop p).dropWhile numC)) R T p (.map (some b)) w) := by
  have hb1 := tw_bound numC hp
  have hd1 := drop_tw numC T p
  have HD1 := Lib.hid hd1
  clear hd1
  have hln := tw_le numC (T.drop p)
  rw [List.length_drop] at hln
  have HAL := Lib.hid (tw_all numC (T.drop p))
  have hRw : R < w.heap.size := lt_of_block hr
  obtain ⟨hbw, HKW⟩ : b < w.heap.size ∧ True := ⟨World.ownsMap.lt hw, trivial⟩
  have HF0 := Lib.hid (show Bq w [.blk R #[.string (ba T), .int .i64 ((p : Nat)), .map (some b)] 43, .any (fun k => k = b) (Wds b) (fun _ _ h hk hz => Wds.keep h hk hz), .base (fun k => k = R) w] from ⟨hr, hw, Ch.refl _ _, trivial⟩)
  clear hr hw HKW
  go_enter Tryz.func58, Tryz.ntmps58
  go_wp2_with fail
  have HF1 := Lib.hid (HF0.out.box #[.int .i64 0, .string ⟨#[]⟩, .int .u64 0, .int .i64 0] 36 (n := w.heap.size) (by rfl))
  clear HF0
  have hRun := run_t _ numC digit_t R T p (.map (some b)) _ (HF1.out.blk 1 rfl) (by omega) hp
  generalize hwd : (T.drop p).takeWhile numC = wd at *
  have HWD := Lib.hid hwd
  clear hwd
  have H0 := Lib.hid h0
  clear h0
  have hw1 : 1 ≤ wd.length := by rcases Nat.eq_zero_or_pos wd.length with h | h; exact absurd (List.length_eq_zero_iff.1 h) H0.out; exact h
  refine (hRun).mono ?_
  rintro e w1 ⟨rfl, hr, ho⟩
  have HF2 := Lib.hid (HF1.out.call 1 ho hr (by refine ⟨?_, ?_, ?_, trivial⟩ <;> (simp only [Fq.apart]; first | omega | (intro b h1 h2; omega) | (intro b h1 h2 h3; omega))))
  have hz1 : w.heap.size + 1 ≤ w1.heap.size := by have := ho.size; first | omega | (simp at this; omega)
  clear HF1 ho hr
  clear hRun
  obtain ⟨P, hP⟩ : ∃ P, P = p + wd.length := ⟨_, rfl⟩
  have hPl : P < T.length := by omega
  have hn2 : namC (T[P]) = false := by subst hP; exact hn
  have HN2 := Lib.hid hn2
  clear hn hn2
  have HP := Lib.hid hP
  have hPb : P ≤ T.length := by omega
  have hpP : p ≤ P := by omega
  have HF2p := Lib.hid (show Bq w1 [.blk R #[.string (ba T), .int .i64 ((P : Int)), .map (some b)] 43, .blk (w.heap.size) #[.int .i64 0, .string ⟨#[]⟩, .int .u64 0, .int .i64 0] 36, .any (fun k => k = b) (Wds b) (fun _ _ h hk hz => Wds.keep h hk hz), .base (fun k => k = R) w] from hP ▸ HF2.out)
  clear HF2 hP
  have HV1 := Lib.hid h1
  clear h1
  have s1 : (ba wd).size = wd.length := ba_size _
  go_wp2_with fail
  refine (parse_ok wd H0.out HAL.out (by omega) (by omega) _).mono ?_
  rintro e w2 ⟨rfl, hb⟩
  have HF3 := Lib.hid (HF2p.out.below hb)
  clear HF2p
  have hz2 : w1.heap.size ≤ w2.heap.size := by have := hb.size; first | omega | (simp at this; omega)
  clear hb
  have d0 := cells_of (HF3.out.blk 0 rfl) 0
  have d1 := cells_of (HF3.out.blk 0 rfl) 1
  have d2 := cells_of (HF3.out.blk 0 rfl) 2
  have HG := Lib.hid (show (ba T).size = T.length from ba_size T)
  have hTs : ((ba T).size : Int) = (T.length : Int) := by rw [ba_size]
  have x1 : ¬ (9223372036854775808 : Int) < (numV wd : Int) := by omega
  have h00 : 0 < (ba wd).size := by omega
  have h01 : 0 < wd.length := by omega
  have HNm := Lib.hid fun W => (named_p (T[P]) W).mono fun e w' h => (show e = .returned (.bool false) ∧ w' = W by rw [HN2.out] at h; exact h)
  have x5 : (P : Int) < (T.length : Int) := by omega
  by_cases h2 : 1 < wd.length
  · skip
    have x2 : (1 : Int) < (wd.length : Int) := by omega
    have x3 : ((((ba wd)[0]'h00).toNat : Int) == 48) = false := head_ne (fun h => HV1.out ⟨h2, h⟩)
    clear h2
    go_upto_region 3 with (fail)
    refine wp_region_still_lit (by kernel_rfl) (by kernel_rfl) ?_
    refine Shut.out ?_
    iterate 37 (refine stH_step (fun K hK => ?_); go_simp; refine hK _ ?_; clear hK K)
    refine stH_step (fun K hK => ?_)
    go_simp
    refine ⟨_, HNm.out _, hK _ ?_⟩
    clear hK K
    iterate 2 (refine stH_step (fun K hK => ?_); go_simp; refine hK _ ?_; clear hK K)
    refine stH_nil ?_
    have HDr := Lib.hid (show Bq ({ w2 with drawn := w2.drawn + 1 } : World) [.blk R #[.string (ba T), .int .i64 ((P : Int)), .map (some b)] 43, .blk (w.heap.size) #[.int .i64 0, .string ⟨#[]⟩, .int .u64 0, .int .i64 0] 36, .any (fun k => k = b) (Wds b) (fun _ _ h hk hz => Wds.keep h hk hz), .base (fun k => k = R) w] from HF3.out.dr)
    clear d0 d1 d2
    generalize ({ w2 with drawn := w2.drawn + 1 } : World) = w3 at HDr ⊢
    obtain ⟨c0, c1, c2, c3, fr⟩ := four_cells (HDr.out.blk 1 rfl)
    have hb0 := lt_of_block (HDr.out.blk 1 rfl)
    go_wp2_with fail
    have HF4 := Lib.hid (HDr.out.put 1 rfl (by refine ⟨?_, ?_, ?_, trivial⟩ <;> (simp only [Fq.apart]; first | omega | (intro b h1 h2; omega) | (intro b h1 h2 h3; omega))) (.int .i64 3) (.string ⟨#[]⟩) (.int .u64 (numV wd : Int)) (.int .i64 0))
    clear HDr
    refine bodyPost_ret (results_tok rfl _ _ _ _ _ _ _ rfl (HF4.out.blk 0 rfl)) rfl ?_
    exact ⟨rfl, P, hpP, hPb, by rw [HP.out]; exact HD1.out, (HF4.out.blk 1 rfl), (HF4.out.base 3 rfl)⟩
  · skip
    have x2 : ((1 : Int) < (wd.length : Int)) = False := by apply eq_false; omega
    have x2b : decide ((1 : Int) < (wd.length : Int)) = false := by rw [decide_eq_false_iff_not]; omega
    clear h2
    go_upto_region 3 with (fail)
    refine wp_region_still_lit (by kernel_rfl) (by kernel_rfl) ?_
    refine Shut.out ?_
    iterate 37 (refine stH_step (fun K hK => ?_); go_simp; refine hK _ ?_; clear hK K)
    refine stH_step (fun K hK => ?_)
    go_simp
    refine ⟨_, HNm.out _, hK _ ?_⟩
    clear hK K
    iterate 2 (refine stH_step (fun K hK => ?_); go_simp; refine hK _ ?_; clear hK K)
    refine stH_nil ?_
    have HDr := Lib.hid (show Bq ({ w2 with drawn := w2.drawn + 1 } : World) [.blk R #[.string (ba T), .int .i64 ((P : Int)), .map (some b)] 43, .blk (w.heap.size) #[.int .i64 0, .string ⟨#[]⟩, .int .u64 0, .int .i64 0] 36, .any (fun k => k = b) (Wds b) (fun _ _ h hk hz => Wds.keep h hk hz), .base (fun k => k = R) w] from HF3.out.dr)
    clear d0 d1 d2
    generalize ({ w2 with drawn := w2.drawn + 1 } : World) = w3 at HDr ⊢
    obtain ⟨c0, c1, c2, c3, fr⟩ := four_cells (HDr.out.blk 1 rfl)
    have hb0 := lt_of_block (HDr.out.blk 1 rfl)
    go_wp2_with fail
    have HF4 := Lib.hid (HDr.out.put 1 rfl (by refine ⟨?_, ?_, ?_, trivial⟩ <;> (simp only [Fq.apart]; first | omega | (intro b h1 h2; omega) | (intro b h1 h2 h3; omega))) (.int .i64 3) (.string ⟨#[]⟩) (.int .u64 (numV wd : Int)) (.int .i64 0))
    clear HDr
    refine bodyPost_ret (results_tok rfl _ _ _ _ _ _ _ rfl (HF4.out.blk 0 rfl)) rfl ?_
    exact ⟨rfl, P, hpP, hPb, by rw [HP.out]; exact HD1.out, (HF4.out.blk 1 rfl), (HF4.out.base 3 rfl)⟩
end Go.Proofs.YtmcnhggpmlhgeaaGreatDoor
