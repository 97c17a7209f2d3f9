/-
  Walks: Replace of a built replacer.
-/
import Derived.Test.YtmcnhggpmlhgeaaGreatDoorRpa
import Derived.Test.YtmcnhggpmlhgeaaGreatDoorFix
import Derived.Test.YtmcnhggpmlhgeaaGreatDoorLc
import Derived.Laws.IdiomCopy
import Derived.Laws.MakeOwn
namespace Go.Proofs.YtmcnhggpmlhgeaaGreatDoor
open Go.RowKit
def escB (c : UInt8) : Bool := decide (c.toNat = 92) || decide (c.toNat = 34) || decide (c.toNat = 10)
theorem escB_iff (c : UInt8) : escB c = true ↔ doneP 3 c.toNat := by
  unfold escB doneP
  simp only [Bool.or_eq_true, decide_eq_true_eq]; omega
def escW (c : UInt8) : List UInt8 := if escB c then [92, if c.toNat = 10 then 110 else c] else [c]
theorem escT_flat : ∀ s : List UInt8, escT s = s.flatMap escW
  | [] => rfl
  | c :: r => by
    rw [escT, List.flatMap_cons, ← escT_flat r]
    unfold escW escB
    by_cases h1 : c.toNat = 92 ∨ c.toNat = 34
    · rw [if_pos h1]
      have h10 : ¬ c.toNat = 10 := by omega
      rw [if_pos (by simp only [Bool.or_eq_true, decide_eq_true_eq]; omega), if_neg h10]
      rfl
    · rw [if_neg h1]
      by_cases h10 : c.toNat = 10
      · rw [if_pos h10, if_pos (by simp only [Bool.or_eq_true, decide_eq_true_eq]; omega), if_pos h10]
        rfl
      · rw [if_neg h10, if_neg (by simp only [Bool.or_eq_true, decide_eq_true_eq]; omega)]
        rfl
def escN (s : List UInt8) : Nat := s.countP escB
theorem escT_snoc (s : List UInt8) (i : Nat) (h : i < s.length) : escT (s.take (i + 1)) = escT (s.take i) ++ escW s[i] := by
  rw [escT_flat, escT_flat, List.take_succ_eq_append_getElem h, List.flatMap_append]
  simp
theorem escN_snoc (s : List UInt8) (i : Nat) (h : i < s.length) : escN (s.take (i + 1)) = escN (s.take i) + (if escB s[i] then 1 else 0) := by
  unfold escN
  rw [List.take_succ_eq_append_getElem h, List.countP_append]
  simp [List.countP_cons]
theorem escW_len (c : UInt8) : (escW c).length = 1 + if escB c then 1 else 0 := by
  unfold escW; split <;> rfl
theorem escT_len : ∀ s : List UInt8, (escT s).length = s.length + escN s
  | [] => rfl
  | c :: r => by
    have h : escT (c :: r) = escW c ++ escT r := by rw [escT_flat, escT_flat, List.flatMap_cons]
    have h2 : escN (c :: r) = escN r + if escB c then 1 else 0 := List.countP_cons
    rw [h, List.length_append, escW_len, escT_len r, h2, List.length_cons]; omega
theorem escT_none : ∀ s : List UInt8, escN s = 0 → escT s = s
  | [], _ => rfl
  | c :: r, h => by
    have h2 : escN (c :: r) = escN r + if escB c then 1 else 0 := List.countP_cons
    rw [h] at h2
    have hb : escB c = false := by
      cases hb : escB c with
      | true => rw [hb] at h2; simp at h2
      | false => rfl
    have hr : escN r = 0 := by omega
    have h : escT (c :: r) = escW c ++ escT r := by rw [escT_flat, escT_flat, List.flatMap_cons]
    rw [h, escT_none r hr]
    unfold escW
    rw [hb]; rfl
theorem escN_count : ∀ s : List UInt8, escN s = s.count 10 + s.count 34 + s.count 92
  | [] => rfl
  | c :: r => by
    have h2 : escN (c :: r) = escN r + if escB c then 1 else 0 := List.countP_cons
    rw [h2, escN_count r, List.count_cons, List.count_cons, List.count_cons]
    have e : ∀ x : UInt8, (c == x) = decide (c.toNat = x.toNat) := fun x => by
      rw [Bool.eq_iff_iff, beq_iff_eq, decide_eq_true_eq, UInt8.toNat_inj]
    rw [e 10, e 34, e 92]
    unfold escB
    have t1 : (10 : UInt8).toNat = 10 := rfl
    have t2 : (34 : UInt8).toNat = 34 := rfl
    have t3 : (92 : UInt8).toNat = 92 := rfl
    rw [t1, t2, t3]
    by_cases h1 : c.toNat = 10
    · simp [h1]; omega
    · by_cases h2 : c.toNat = 34
      · simp [h2]; omega
      · by_cases h3 : c.toNat = 92
        · simp [h3]; omega
        · simp [h1, h2, h3]
def u8V (b : UInt8) : Value := .int .u8 (b.toNat : Int)
/-- a buffer of these bytes -/
def Buf (w : World) (N : Nat) (l : List UInt8) : Prop := w.heap[N]? = some (.cells (l.map u8V).toArray 5 (0, 0))
theorem Buf.set {w : World} {N : Nat} {l : List UInt8} (h : Buf w N l) (j : Nat) (b : UInt8) : Buf (w.setCell ⟨N, j, none⟩ (u8V b)) N (l.set j b) := by
  unfold Buf
  rw [List.map_set]
  exact blk_set h j (u8V b)
theorem fill_one (d : List UInt8) (c : UInt8) (n : Nat) (h : d.length < n) : (d ++ List.replicate (n - d.length) 0).set d.length c = (d ++ [c]) ++ List.replicate (n - (d ++ [c]).length) 0 := by
  obtain ⟨m, hm⟩ : ∃ m, n - d.length = m + 1 := ⟨n - d.length - 1, by omega⟩
  rw [hm, List.replicate_succ, List.set_append_right _ _ (Nat.le_refl _), Nat.sub_self, List.set_cons_zero, List.append_assoc, List.length_append, List.length_singleton]
  rw [show n - (d.length + 1) = m by omega]
  rfl
theorem fill_two (d : List UInt8) (a b : UInt8) (n : Nat) (h : d.length + 2 ≤ n) : ((d ++ List.replicate (n - d.length) 0).set d.length a).set (d.length + 1) b = (d ++ [a, b]) ++ List.replicate (n - (d ++ [a, b]).length) 0 := by
  rw [fill_one d a n (by omega)]
  have h2 := fill_one (d ++ [a]) b n (by rw [List.length_append, List.length_singleton]; omega)
  rw [show (d ++ [a]).length = d.length + 1 by rw [List.length_append, List.length_singleton]] at h2 ⊢
  rw [h2, List.append_assoc d [a] [b]]
  rfl
theorem copy_src {w w' : World} {b : Nat} {x : UInt8} (h0 : w'.cell? ⟨b, 0, none⟩ = w.cell? ⟨b, 0, none⟩) (h1 : w'.cell? ⟨b, 1, none⟩ = w.cell? ⟨b, 1, none⟩) (e0 : w.cell? ⟨b, 0, none⟩ = some (.int .u8 92)) (e1 : w.cell? ⟨b, 1, none⟩ = some (u8V x)) {j : Nat} {v : Value} (hj : [u8V 92, u8V x][j]? = some v) : w'.cell? ⟨b, j, none⟩ = some v := by
  match j, hj with
  | 0, hj =>
    injection hj with hj
    rw [h0, e0, ← hj]; rfl
  | 1, hj =>
    injection hj with hj
    rw [h1, e1, ← hj]
  | j + 2, hj => simp at hj
theorem pb_cell {M : Nat} {w : World} (h : PB M 3 w) (c : UInt8) : (escB c = true ∧ ∃ b cap, w.cell? ⟨M + 1, c.toNat, none⟩ = some (.slice (some ⟨b, 0, none⟩) 2 cap) ∧ M + 1 < b ∧ b < w.heap.size ∧ w.cell? ⟨b, 0, none⟩ = some (.int .u8 92) ∧ w.cell? ⟨b, 1, none⟩ = some (u8V (if c.toNat = 10 then 110 else c))) ∨ (escB c = false ∧ w.cell? ⟨M + 1, c.toNat, none⟩ = some (.slice none 0 0)) := by
  obtain ⟨f, hT, hR, hD, hN⟩ := h
  have hc := hT.cell c.toNat c.toNat_lt
  cases he : escB c with
  | true =>
    obtain ⟨b, cap, h1, h2, h3, h4, h5⟩ := hD _ ((escB_iff c).1 he)
    refine .inl ⟨rfl, b, cap, by rw [hc, h1], h2, h3, h4, ?_⟩
    rw [h5]
    unfold secB u8V
    split <;> rfl
  | false =>
    refine .inr ⟨rfl, ?_⟩
    rw [hc, hN _ c.toNat_lt (fun h => by rw [(escB_iff c).2 h] at he; exact Bool.noConfusion he)]
set_option maxRecDepth 100000 in
set_option maxHeartbeats 16000000 in
theorem repB (M : Nat) (s : List UInt8) (w : World) (hs : s.length ≤ 1000000) (hk : PB M 3 w) (hlt : s.length < 24) :
    Calls Tryz.prog 179 #[.pointer (some ⟨M + 1, 0, none⟩), .string (ba s)] w fun e w' => e = .returned (.string (ba (escT s))) ∧ Below w.heap.size w w' := by
  have HP := Lib.hid hk
  clear hk
  have s1 : ((ba s).size : Int) = (s.length : Int) := by rw [ba_size]
  have s2 : (ba s).size = s.length := by rw [ba_size]
  have hMw : M + 1 < w.heap.size := by obtain ⟨f, hT, -⟩ := HP.out; exact hT.lt
  have hsn : ∀ W : World, (binOp .neq 50 (.slice none 0 0) (.slice none 0 0)).run Tryz.prog W = .ok (.bool false) W := fun W => by kernel_rfl
  have hss : ∀ (W : World) (a : Addr) (n c : Nat), (binOp .neq 50 (.slice (some a) n c) (.slice none 0 0)).run Tryz.prog W = .ok (.bool true) W := fun W a n c => by kernel_rfl
  obtain ⟨i0, hi0, hk0⟩ := Option.map_eq_some_iff.1 Tryz.info5
  simp only [Prod.mk.injEq] at hk0
  obtain ⟨iz0, iz1, iz2⟩ := hk0
  have hmk : ∀ (W : World) (n : Nat), n ≤ 2000000 → (Instr.makeSlice 50 (.int .i64 (n : Int)) (.int .i64 (n : Int))).run Tryz.prog W = .ok (.slice (some ⟨W.heap.size, 0, none⟩) n n) (W.alloc (.cells (Array.replicate n (u8V 0)) 5 (0, 0))) := fun W n hn => by
    rw [run_makeSlice (w := W) 50 5 i0 (.int .u8 0) Tryz.underlying50 hi0 iz0 .i64 .i64 n n (by omega) (by omega) (by rw [iz1]; omega) (by rw [iz2]; omega) (by omega), iz1]
    have e : madeCells (Value.int .u8 0).cells ((n : Int).toNat * 1) = Array.replicate n (u8V 0) := by
      apply Array.toList_inj.1
      rw [Nat.mul_one, Int.toNat_natCast, show (Value.int .u8 0).cells = #[Value.int .u8 0] from rfl, toList_madeCells_one, Array.toList_replicate]
      rfl
    rw [e]
    rfl
  have HMk := Lib.hid hmk
  clear hmk hi0 iz0 iz1 iz2
  go_enter Tryz.func179, Tryz.ntmps179
  have x24 : ¬ (24 : Int) ≤ (s.length : Int) := by omega
  have cr : w.cell? ⟨M + 1, 256, none⟩ = some (.slice (some ⟨M, 0, none⟩) 3 3) := by obtain ⟨f, hT, -⟩ := HP.out; exact hT.row
  go_wp2_with fail
  go_loop [5, 6, 10] (fun n a i => ∃ k : Nat, k ≤ s.length ∧ i = .int .i64 k ∧ n = .int .i64 ((s.length + escN (s.take k) : Nat) : Int) ∧ a = .bool (decide (0 < escN (s.take k)))) (fun _ _ i => s.length - (intOf i).toNat)
  case atStart => exact ⟨0, Nat.zero_le _, rfl, rfl, rfl⟩
  case round =>
    obtain ⟨k, hk, rfl, rfl, rfl⟩ := hrel
    by_cases hlk : k < s.length
    · have x1 : (k : Int) < (s.length : Int) := by omega
      have hks : k < (ba s).size := by rw [ba_size]; exact hlk
      obtain ⟨c, hc⟩ : ∃ c, (ba s)[k]'hks = c := ⟨_, rfl⟩
      have hsn2 := escN_snoc s k hlk
      rw [show s[k]'hlk = c from hc] at hsn2
      have HC := Lib.hid hc
      clear hc
      go_upto_region 16 with (fail)
      have hcc := HC.out.symm
      generalize (ba s)[k]'hks = c' at hcc ⊢
      subst hcc
      clear hks HC
      have c256 : (c.toNat : Int) < 256 := by have := c.toNat_lt; omega
      generalize hn : s.length + escN (s.take k) = n
      have hnl : n ≤ 2 * s.length := by have := List.countP_le_length (p := escB) (l := s.take k); unfold escN at hn; rw [List.length_take] at this; omega
      rcases pb_cell HP.out c with ⟨he, b, cap, c0, -⟩ | ⟨he, c0⟩
      · rw [he, if_pos rfl] at hsn2
        have HE := Lib.hid (show s.length + escN (s.take (k + 1)) = n + 1 by omega)
        have HE2 := Lib.hid (show decide (0 < escN (s.take (k + 1))) = true by simp; omega)
        clear hsn2 hn he
        go_wp2_with fail
        go_round
        case rel => exact ⟨k + 1, by omega, by go_num, by rw [HE.out]; go_num, by rw [HE2.out]⟩
        case measure => simp only [intOf]; omega
      · rw [he, if_neg Bool.false_ne_true] at hsn2
        have HE := Lib.hid (show s.length + escN (s.take (k + 1)) = n by omega)
        have HE2 := Lib.hid (show decide (0 < escN (s.take (k + 1))) = decide (0 < escN (s.take k)) by rw [hsn2]; rfl)
        clear hsn2 hn he
        go_wp2_with fail
        go_round
        case rel => exact ⟨k + 1, by omega, by go_num, by rw [HE.out], by rw [HE2.out]⟩
        case measure => simp only [intOf]; omega
    · have x1 : ¬ (k : Int) < (s.length : Int) := by omega
      obtain rfl : k = s.length := by omega
      rw [List.take_length]
      have hel := escT_len s
      generalize hN : s.length + escN s = n at hel ⊢
      have hnl : n ≤ 2000000 := by have := List.countP_le_length (p := escB) (l := s); unfold escN at hN; omega
      by_cases h0 : escN s = 0
      · rw [show decide (0 < escN s) = false by simp [h0]]
        have HES := Lib.hid (escT_none s h0)
        clear h0 hN hel
        go_wp2_with fail
        go_ret
        exact ⟨by rw [HES.out]; rfl, Below.refl _ _⟩
      · rw [show decide (0 < escN s) = true by simp; omega]
        have HEL := Lib.hid hel
        have hmk := HMk.out w n hnl
        clear h0 hN hel
        have hnn : n < 140737488355328 := by omega
        have HB0 := Lib.hid (show Buf (w.alloc (.cells (Array.replicate n (u8V 0)) 5 (0, 0))) w.heap.size (List.replicate n 0) from by unfold Buf; rw [heap_alloc_new, List.map_replicate]; simp)
        have HW0 := Lib.hid (below_alloc w (.cells (Array.replicate n (u8V 0)) 5 (0, 0)))
        go_upto_region 22 with (fail)
        clear hmk
        generalize w.alloc (.cells (Array.replicate n (u8V 0)) 5 (0, 0)) = w1 at HB0 HW0 ⊢
        go_wp2_with fail
        go_loopw [13, 14] (fun j i wr => ∃ k : Nat, k ≤ s.length ∧ i = .int .i64 k ∧ j = .int .i64 ((escT (s.take k)).length : Int) ∧ Hid (Buf wr w.heap.size (escT (s.take k) ++ List.replicate (n - (escT (s.take k)).length) 0)) ∧ Hid (Below w.heap.size w wr)) (fun _ i _ => s.length - (intOf i).toNat)
        case atStart => exact ⟨0, Nat.zero_le _, rfl, rfl, HB0, HW0⟩
        case round =>
          obtain ⟨k, hk, rfl, rfl, HB, HW⟩ := hrel
          clear HB0 HW0
          have hzw := HW.out.size
          have hbw := lt_of_block HB.out
          by_cases hlk : k < s.length
          · have x1 : (k : Int) < (s.length : Int) := by omega
            have hks : k < (ba s).size := by rw [ba_size]; exact hlk
            obtain ⟨c, hc⟩ : ∃ c, (ba s)[k]'hks = c := ⟨_, rfl⟩
            have hst := escT_snoc s k hlk
            rw [show s[k]'hlk = c from hc] at hst
            have HC := Lib.hid hc
            clear hc
            have hpre : (escT (s.take (k + 1))).length ≤ n := by
              rw [← HEL.out, escT_len, escT_len, List.length_take]
              have := List.Sublist.countP_le (p := escB) (List.take_sublist (k + 1) s)
              unfold escN; omega
            generalize hd : escT (s.take k) = d at *
            have HD := Lib.hid hd
            clear hd
            go_upto_region 27 with (fail)
            have hcc := HC.out.symm
            generalize (ba s)[k]'hks = c' at hcc ⊢
            subst hcc
            clear hks HC
            have c256 : (c.toNat : Int) < 256 := by have := c.toNat_lt; omega
            rcases pb_cell HP.out c with ⟨he, b, cap, c0w, hMb, hbw1, e0w, e1w⟩ | ⟨he, c0w⟩
            · have c0 := (cellsB HW.out (Nat.le_refl _) (M + 1) c.toNat hMw).trans c0w
              have e0 := (cellsB HW.out (Nat.le_refl _) b 0 hbw1).trans e0w
              have e1 := (cellsB HW.out (Nat.le_refl _) b 1 hbw1).trans e1w
              have hbw2 : b < wr.heap.size := by omega
              clear c0w e0w e1w
              have hwE : escW c = [92, if c.toNat = 10 then 110 else c] := by unfold escW; rw [he]; rfl
              rw [hwE] at hst
              generalize hx : (if c.toNat = 10 then 110 else c) = x at *
              clear hx hwE he
              rw [hst, List.length_append] at hpre
              have hpre2 : d.length + 2 ≤ n := hpre
              have HST := Lib.hid hst
              clear hst hpre
              have hj0 : (d.length : Int) ≤ (n : Int) := by omega
              have hj1 : (0 : Int) ≤ (d.length : Int) := by omega
              go_upto_region 28 with (fail)
              have HE0 := Lib.hid e0
              have HE1 := Lib.hid e1
              clear e0 e1
              have hnd : ¬ n = d.length := by omega
              have HB1 := Lib.hid HB.out
              have hMN : ¬ M + 1 = w.heap.size := by omega
              have HL1 := Lib.hid (fill_two d 92 x n hpre2)
              have HJ0 := Lib.hid (show Hid (Ch (fun b => b = w.heap.size) wr wr.drew) ∧ Hid (Buf wr.drew w.heap.size (if [false] = [true] then (d ++ [92, x]) ++ List.replicate (n - (d ++ [92, x]).length) 0 else d ++ List.replicate (n - d.length) 0)) from ⟨Lib.hid ⟨rfl, rfl, rfl, Nat.le_refl _, fun _ _ _ => rfl⟩, Lib.hid (by rw [if_neg (by decide)]; exact HB1.out)⟩)
              refine' wp_region_fix (by kernel_rfl) 12 [some 102, some 103, some 104, some 105, some 106, some 107, some 108, some 109, some 110, some 111, some 112, some 113] [_, _, _, _, _, _, _, _, _, _, _, _] [10] (fun (fs : List Bool) (W : World) => Hid (Ch (fun b => b = w.heap.size) wr W) ∧ Hid (Buf W w.heap.size (if fs = [true] then (d ++ [92, x]) ++ List.replicate (n - (d ++ [92, x]).length) 0 else d ++ List.replicate (n - d.length) 0))) (by kernel_rfl) (by decide) (by kernel_rfl) (by decide) (by rfl) (by decide) (HJ0.out) ?_ ?_
              rotate_left 12
              · refine all_cons 0 ?_ (all_cons 1 ?_ (all_cons 2 ?_ (all_cons 3 ?_ (all_cons 4 ?_ (all_cons 5 ?_ (all_cons 6 ?_ (all_cons 7 ?_ (all_cons 8 ?_ (all_cons 9 ?_ (all_cons 10 ?_ (all_cons 11 ?_ (all_done 12))))))))))))
                · intro o ho fs W HFi HAf HJ A HA HZ K' HK
                  have z13 : A.tmps[13]? = some _ := HZ.out 13 (by decide)
                  clear HAf HA HZ
                  cases ho
                  go_simp
                  exact HK.out _ (by rw [upd_map fs (by decide)]; exact HJ.out)
                · intro o ho fs W HFi HAf HJ A HA HZ K' HK
                  have z12 : A.tmps[12]? = some _ := HZ.out 12 (by decide)
                  clear HAf HA HZ
                  cases ho
                  go_simp
                  exact HK.out _ (by rw [upd_map fs (by decide)]; exact HJ.out)
                · intro o ho fs W HFi HAf HJ A HA HZ K' HK
                  have z13 : A.tmps[13]? = some _ := HZ.out 13 (by decide)
                  clear HAf HA HZ
                  cases ho
                  go_simp
                  exact HK.out _ (by rw [upd_map fs (by decide)]; exact HJ.out)
                · intro o ho fs W HFi HAf HJ A HA HZ K' HK
                  have f1 : fs 1 = true := by cases ho; exact HAf.out ⟨1, .data⟩ (by simp) rfl
                  have s1 := HA.out 1 103 (by decide) f1 rfl
                  simp only [List.getD_cons_succ, List.getD_cons_zero] at s1
                  have f2 : fs 2 = true := by cases ho; exact HAf.out ⟨2, .data⟩ (by simp) rfl
                  have s2 := HA.out 2 104 (by decide) f2 rfl
                  simp only [List.getD_cons_succ, List.getD_cons_zero] at s2
                  clear HAf HA HZ f1 f2
                  cases ho
                  go_simp
                  exact HK.out _ (by rw [upd_map fs (by decide)]; exact HJ.out)
                · intro o ho fs W HFi HAf HJ A HA HZ K' HK
                  have z0 : A.tmps[0]? = some _ := HZ.out 0 (by decide)
                  clear HAf HA HZ
                  cases ho
                  go_simp
                  exact HK.out _ (by rw [upd_map fs (by decide)]; exact HJ.out)
                · intro o ho fs W HFi HAf HJ A HA HZ K' HK
                  have z15 : A.tmps[15]? = some _ := HZ.out 15 (by decide)
                  clear HAf HA HZ
                  cases ho
                  go_simp
                  exact HK.out _ (by rw [upd_map fs (by decide)]; exact HJ.out)
                · intro o ho fs W HFi HAf HJ A HA HZ K' HK
                  have f4 : fs 4 = true := by cases ho; exact HAf.out ⟨4, .data⟩ (by simp) rfl
                  have s4 := HA.out 4 106 (by decide) f4 rfl
                  simp only [List.getD_cons_succ, List.getD_cons_zero] at s4
                  clear HAf HA HZ f4
                  cases ho
                  go_simp
                  exact HK.out _ (by rw [upd_map fs (by decide)]; exact HJ.out)
                · intro o ho fs W HFi HAf HJ A HA HZ K' HK
                  have f6 : fs 6 = true := by cases ho; exact HAf.out ⟨6, .data⟩ (by simp) rfl
                  have s6 := HA.out 6 108 (by decide) f6 rfl
                  simp only [List.getD_cons_succ, List.getD_cons_zero] at s6
                  clear HAf HA HZ f6
                  cases ho
                  go_simp
                  exact HK.out _ (by rw [upd_map fs (by decide)]; exact HJ.out)
                · intro o ho fs W HFi HAf HJ A HA HZ K' HK
                  have f7 : fs 7 = true := by cases ho; exact HAf.out ⟨7, .data⟩ (by simp) rfl
                  have s7 := HA.out 7 109 (by decide) f7 rfl
                  simp only [List.getD_cons_succ, List.getD_cons_zero] at s7
                  have f5 : fs 5 = true := by cases ho; exact HAf.out ⟨5, .data⟩ (by simp) rfl
                  have s5 := HA.out 5 107 (by decide) f5 rfl
                  simp only [List.getD_cons_succ, List.getD_cons_zero] at s5
                  clear HAf HA HZ f7 f5
                  cases ho
                  go_simp
                  exact HK.out _ (by rw [upd_map fs (by decide)]; exact HJ.out)
                · intro o ho fs W HFi HAf HJ A HA HZ K' HK
                  have f8 : fs 8 = true := by cases ho; exact HAf.out ⟨8, .data⟩ (by simp) rfl
                  have s8 := HA.out 8 110 (by decide) f8 rfl
                  simp only [List.getD_cons_succ, List.getD_cons_zero] at s8
                  clear HAf HA HZ f8
                  have hcW := (cell_eq (HJ.out.1.out.block (M + 1) (by omega) hMN) c.toNat).trans c0
                  cases ho
                  go_simp
                  exact HK.out _ (by rw [upd_map fs (by decide)]; exact HJ.out)
                · intro o ho fs W HFi HAf HJ A HA HZ K' HK
                  have f3 : fs 3 = true := by cases ho; exact HAf.out ⟨3, .data⟩ (by simp) rfl
                  have s3 := HA.out 3 105 (by decide) f3 rfl
                  simp only [List.getD_cons_succ, List.getD_cons_zero] at s3
                  have f9 : fs 9 = true := by cases ho; exact HAf.out ⟨9, .data⟩ (by simp) rfl
                  have s9 := HA.out 9 111 (by decide) f9 rfl
                  simp only [List.getD_cons_succ, List.getD_cons_zero] at s9
                  clear HAf HA HZ f3 f9
                  cases ho
                  have hfi := HFi.out
                  have hBW : Buf W w.heap.size (d ++ List.replicate (n - d.length) 0) := by have h := HJ.out.2.out; rw [List.map_singleton, hfi, if_neg (by decide)] at h; exact h
                  have hbe := HJ.out.1.out.block b hbw2 (by omega)
                  have hcp := run_copy_cells (P := Tryz.prog) W 50 50 3 5 w.heap.size d.length (n - d.length) (n - d.length) ⟨b, 0, none⟩ 2 cap [u8V 92, u8V x] Tryz.underlying50 (by kernel_rfl) (by show 2 = min 2 (n - d.length); omega) (by intro j v hj; rw [Lib.add_plain, Nat.zero_add]; exact copy_src (cell_eq hbe 0) (cell_eq hbe 1) HE0.out HE1.out hj) (by intro j hj; rw [cells_of hBW]; simp at hj ⊢; omega) (fun j _ => frees_of hBW _) (by intro v hv; simp only [List.mem_cons, List.not_mem_nil, or_false] at hv; rcases hv with rfl | rfl <;> rfl)
                  have hBN := (hBW.set d.length 92).set (d.length + 1) x
                  rw [HL1.out] at hBN
                  have hCN : Ch (fun b => b = w.heap.size) wr (W.setCells w.heap.size d.length [u8V 92, u8V x]) := Ch.trans (E := fun b => b = w.heap.size) HJ.out.1.out (Ch.trans (E := fun b => b = w.heap.size) (Ch.of_set W w.heap.size d.length (u8V 92)) (Ch.of_set _ w.heap.size (d.length + 1) (u8V x)) (fun i _ h => ⟨h, h⟩)) (fun i _ h => ⟨h, h⟩)
                  have HBN := Lib.hid hBN
                  have HCN := Lib.hid hCN
                  clear hBW hbe hfi hBN hCN
                  go_simp
                  exact HK.out _ ⟨Lib.hid HCN.out, Lib.hid (by rw [List.map_singleton, upd_at, if_pos rfl]; exact HBN.out)⟩
                · intro o ho fs W HFi HAf HJ A HA HZ K' HK
                  have f0 : fs 0 = true := by cases ho; exact HAf.out ⟨0, .data⟩ (by simp) rfl
                  have s0 := HA.out 0 102 (by decide) f0 rfl
                  simp only [List.getD_cons_zero] at s0
                  have f10 : fs 10 = true := by cases ho; exact HAf.out ⟨10, .data⟩ (by simp) rfl
                  have s10 := HA.out 10 112 (by decide) f10 rfl
                  simp only [List.getD_cons_succ, List.getD_cons_zero] at s10
                  clear HAf HA HZ f0 f10
                  cases ho
                  go_simp
                  exact HK.out _ (by rw [upd_map fs (by decide)]; exact HJ.out)
              · intro W hJ
                simp only [canon, Act.put, List.getD_cons_succ, List.getD_cons_zero, List.drop_succ_cons, List.drop_zero, List.setIfInBounds_toArray, List.set_cons_zero, List.set_cons_succ]
                have hwr : IntKind.i64.wrap ((d.length : Int) + 2) = (d.length : Int) + 2 := by rw [IntKind.wrap_i64]; omega
                have HCW := Lib.hid hJ.1.out
                have HBW := Lib.hid (show Buf W w.heap.size ((d ++ [92, x]) ++ List.replicate (n - (d ++ [92, x]).length) 0) from by have h := hJ.2.out; rw [List.map_singleton, if_pos rfl] at h; exact h)
                clear hJ
                go_wp2_with fail
                go_roundw
                case rel => exact ⟨k + 1, by omega, by go_num, by rw [HST.out, List.length_append, show ([92, x] : List UInt8).length = 2 from rfl]; go_num, by rw [HST.out]; exact HBW, Lib.hid (HW.out.trans (HCW.out.below hzw (fun j h1 h2 => by omega)))⟩
                case measure => simp only [intOf]; omega
            · have c0 := (cellsB HW.out (Nat.le_refl _) (M + 1) c.toNat hMw).trans c0w
              clear c0w
              have hwE : escW c = [c] := by unfold escW; rw [he]; rfl
              rw [hwE] at hst
              clear hwE he
              rw [hst, List.length_append, List.length_singleton] at hpre
              have HST := Lib.hid hst
              clear hst
              have hj0 : (d.length : Int) < (n : Int) := by omega
              have hj1 : d.length < n := by omega
              have cN : wr.cell? ⟨w.heap.size, d.length, none⟩ = some (u8V 0) := by
                rw [cells_of HB.out, List.getElem?_toArray, List.getElem?_map, List.getElem?_append_right (Nat.le_refl _), Nat.sub_self, List.getElem?_replicate, if_pos (by omega)]
                rfl
              have fN := frees_of HB.out
              have HBN := Lib.hid (HB.out.set d.length c)
              rw [fill_one d c n hj1] at HBN
              have HWN := Lib.hid (HW.out.setCell (p := ⟨w.heap.size, d.length, none⟩) (Nat.le_refl _) (u8V c))
              go_wp2_with fail
              go_roundw
              case rel => exact ⟨k + 1, by omega, by go_num, by rw [HST.out, List.length_append, List.length_singleton]; go_num, by rw [HST.out]; exact HBN, HWN⟩
              case measure => simp only [intOf]; omega
          · have x1 : ¬ (k : Int) < (s.length : Int) := by omega
            obtain rfl : k = s.length := by omega
            have hB2 := HB.out
            rw [List.take_length, HEL.out, Nat.sub_self, List.replicate_zero, List.append_nil] at hB2
            have hcv : (convert 50 9 (.slice (some ⟨w.heap.size, 0, none⟩) n n)).run Tryz.prog wr = .ok (.string (ba (escT s))) wr := by
              have h := run_convert_bytes_back (P := Tryz.prog) wr 50 9 5 ⟨w.heap.size, 0, none⟩ n (escT s) Tryz.underlying50 Tryz.underlying5 Tryz.underlying9 (fun j hj => by
                rw [Lib.add_plain, Nat.zero_add, cells_of hB2, List.getElem?_toArray, List.getElem?_map, List.getElem?_eq_getElem hj]
                rfl)
              rw [HEL.out] at h
              exact h
            clear hB2
            go_wp2_with fail
            go_ret
            exact ⟨rfl, HW.out⟩
end Go.Proofs.YtmcnhggpmlhgeaaGreatDoor
