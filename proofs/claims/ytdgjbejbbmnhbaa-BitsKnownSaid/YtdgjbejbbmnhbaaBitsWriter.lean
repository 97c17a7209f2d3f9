/-
  Walks over the writer of package bits: add, done.
-/
import Derived.Test.YtdgjbejbbmnhbaaBitsLeaf
import Derived.StillTailTactics
import Derived.Deep.LoopGhost
namespace Go.Proofs.Ytdgjbejbbmnhbaa
open Go.RowKit Go.Proofs.BitsM
def u8s (o : List Nat) : List Value := o.map fun b : Nat => Value.int .u8 (b : Int)
/-- block B holds a writer: the string sb, the number of bits, the bytes, whose array is the call's own -/
def Wr (w : World) (base B : Nat) (sb : ByteArray) (L : List Bool) : Prop :=
  ∃ v, w.heap[B]? = some (.cells #[.string sb, .int .i64 (L.length : Int), v] 58 (0, 0)) ∧ w.ownsRow base 5 1 v (packN L).length (u8s (packN L)) ∧ base ≤ B
theorem cell3 {w : World} {B : Nat} {c : Array Value} {t : TypeId} (h : w.heap[B]? = some (.cells c t (0, 0))) (k : Nat) : w.cell? ⟨B, k, none⟩ = c[k]? := by simp [World.cell?, h]
theorem free3 {w : World} {B : Nat} {c : Array Value} {t : TypeId} (h : w.heap[B]? = some (.cells c t (0, 0))) (k : Nat) : w.frozen? ⟨B, k, none⟩ = false := by simp [World.frozen?, h]
theorem block_setCell {w : World} {B : Nat} {c : Array Value} {t : TypeId} (h : w.heap[B]? = some (.cells c t (0, 0))) (k : Nat) (u : Value) : (w.setCell ⟨B, k, none⟩ u).heap[B]? = some (.cells (c.setIfInBounds k u) t (0, 0)) := by
  simp [World.setCell, Array.getElem?_modify, h]
theorem maxLen_val : maxLen = 9223372036854775807 := rfl
theorem own_shape {w : World} {base e size : Nat} {v : Value} {n : Nat} {xs : List Value} (h : w.ownsRow base e size v n xs) (hn : 0 < n) : ∃ g cap, v = .slice (some ⟨g, 0, none⟩) n cap := by
  rcases h.2 with ⟨_, h0⟩ | ⟨g, cap, cur, rfl, _⟩
  · omega
  · exact ⟨g, cap, rfl⟩
theorem own_ne {w : World} {base e size : Nat} {v : Value} {n : Nat} {xs : List Value} {B : Nat} {c : Array Value} {t : TypeId} {f : Nat × Nat} (h : w.ownsRow base e size v n xs) (hh : w.heap[B]? = some (.cells c t f)) (ht : t ≠ e) : v.ownBlock ≠ some B := by
  rcases h.2 with ⟨rfl, h0⟩ | ⟨g, cap, cur, rfl, _, hg, _⟩
  · simp [Value.ownBlock]
  · simp only [Value.ownBlock, ne_eq, Option.some.injEq]
    rintro rfl
    rw [hh] at hg
    simp at hg
    exact ht hg.2.1
theorem Wr_close {w1 : World} {base B : Nat} {sb : ByteArray} {vold v' : Value} {x y : Int} {L2 : List Bool} {xs : List Value} {k : Nat} (hh : w1.heap[B]? = some (.cells #[.string sb, .int .i64 x, vold] 58 (0, 0))) (hown : w1.ownsRow base 5 1 v' k xs)
    (hxs : xs = u8s (packN L2)) (hk : k = (packN L2).length) (hy : y = L2.length) (hB : base ≤ B) : Wr ((w1.setCell ⟨B, 2, none⟩ v').setCell ⟨B, 1, none⟩ (.int .i64 y)) base B sb L2 := by
  subst hxs hk hy
  have hne := own_ne hown hh (by decide)
  refine ⟨v', ?_, ownsRow_setCell_other (ownsRow_setCell_other hown hne _) hne _, hB⟩
  rw [block_setCell (block_setCell hh _ _)]
  rfl
theorem Wr_same {w1 : World} {base B : Nat} {sb : ByteArray} {v : Value} {x y : Int} {L2 : List Bool} {xs : List Value} {k : Nat} (hh : w1.heap[B]? = some (.cells #[.string sb, .int .i64 x, v] 58 (0, 0))) (hown : w1.ownsRow base 5 1 v k xs)
    (hxs : xs = u8s (packN L2)) (hk : k = (packN L2).length) (hy : y = L2.length) (hB : base ≤ B) : Wr (w1.setCell ⟨B, 1, none⟩ (.int .i64 y)) base B sb L2 := by
  subst hxs hk hy
  have hne := own_ne hown hh (by decide)
  refine ⟨v, ?_, ownsRow_setCell_other hown hne _, hB⟩
  rw [block_setCell hh _ _]
  rfl
theorem take_mask (s : ByteArray) (i m : Nat) : bits BinOp.and IntKind.u8 (↑(eightN s i)) (255 * 2 ^ (8 - m) % 256) = ((takeN s i m : Nat) : Int) := by
  have e : (255 : Int) * 2 ^ (8 - m) % 256 = ((255 * 2 ^ (8 - m) % 256 : Nat) : Int) := by simp
  rw [e, u8_and_nat _ _ (eightN_lt _ _) (Nat.mod_lt _ (by omega))]
  rfl
theorem take_mask8 (s : ByteArray) (i : Nat) : bits BinOp.and IntKind.u8 (↑(eightN s i)) 255 = ((takeN s i 8 : Nat) : Int) := take_mask s i 8
theorem Try.info5 : (Try.prog.info? 5).map (fun i => (i.zero, i.size, i.bytes)) = some (some (.int .u8 0), 1, 1) := by kernel_rfl
theorem one_cell_at {w : World} {u : Value} : ∀ (j : Nat) (u' : Value), [u][j]? = some u' → (w.alloc (.cells #[u] 5)).cell? ((⟨w.heap.size, 0, none⟩ : Addr).add j) = some u' := by
  intro j u' hj
  match j, hj with
  | 0, hj => simp at hj; subst hj; simp [Addr.add]
theorem one_cell_drew {w : World} {u : Value} {k : Nat} (hk : k = w.heap.size) : ∀ (j : Nat) (u' : Value), [u][j]? = some u' → (w.alloc (.cells #[u] 5)).drew.cell? ((⟨k, 0, none⟩ : Addr).add j) = some u' := by
  subst hk
  exact one_cell_at
theorem undrew {w w1 : World} {row : Option Nat} (h : w.drew.grownBy w1 row) : w.grownBy w1 row := ⟨h.os, h.tape, h.output, h.size, h.block⟩
theorem u8s_get (o : List Nat) (i : Nat) (h : i < o.length) : (u8s o)[i]? = some (.int .u8 ((o.getD i 0 : Nat) : Int)) := by simp [u8s, List.getD, h]
theorem getD_lt256 (o : List Nat) (h : ∀ x ∈ o, x < 256) (i : Nat) : o.getD i 0 < 256 := by
  simp only [List.getD]
  cases e : o[i]? with
  | none => simp
  | some x => exact h x (List.mem_of_getElem? e)
theorem u8s_set (o : List Nat) (i c : Nat) : (u8s o).set i (.int .u8 (c : Int)) = u8s (o.set i c) := by simp [u8s, List.map_set]
theorem u8_or_shift (x c u : Nat) (hx : x < 256) (hc : c < 256) : bits BinOp.or IntKind.u8 (↑x) ((c : Int) / 2 ^ u) = ((x ||| c / 2 ^ u : Nat) : Int) := by
  rw [cast_shr, u8_or_nat _ _ hx (div_lt_byte hc)]
theorem u8s_snoc (o : List Nat) (c : Nat) : u8s (o ++ [c]) = u8s o ++ [.int .u8 (c : Int)] := by simp [u8s]
theorem hsize_set (w : World) (a : Addr) (u : Value) : (w.setCell a u).heap.size = w.heap.size := by simp [World.setCell]
theorem grown_block {w w1 : World} {o : Obj} {v : Value} {base e size n : Nat} {xs : List Value} (hown : w.ownsRow base e size v n xs) (hg : (w.alloc o).grownBy w1 v.ownBlock) {B : Nat} {c : Array Value} {t : TypeId} {f : Nat × Nat}
    (hh : w.heap[B]? = some (.cells c t f)) (ht : t ≠ e) : w1.heap[B]? = some (.cells c t f) := by
  have hlt : B < w.heap.size := lt_of_block hh
  rw [hg.block B (by simp; omega) (fun h => own_ne hown hh ht h.symm), Below.heap_alloc _ _ _ hlt]
  exact hh
theorem grown_below {w0 w w1 : World} {o : Obj} {v : Value} {base e size n : Nat} {xs : List Value} (hb : Below base w0 w) (hown : w.ownsRow base e size v n xs) (hg : (w.alloc o).grownBy w1 v.ownBlock) (hB : base ≤ w.heap.size) : Below base w0 w1 :=
  (hb.alloc hB o).grown hg (by simp; omega) fun k hk => (hown.lt k hk).1
set_option maxRecDepth 100000 in
set_option maxHeartbeats 2000000 in
theorem add_any (s : ByteArray) (a n B base : Nat) (sb : ByteArray) (L : List Bool) (w : World) (hs : s.size ≤ 140737488351232) (ha : a + n ≤ 8 * s.size) (hL : L.length + n ≤ 562949953421312) (hW : Wr w base B sb L) :
    Calls Try.prog 35 #[.pointer (some ⟨B, 0, none⟩), .string s, .int .i64 a, .int .i64 n] w fun e w' => e = .returned (.tuple #[]) ∧ Wr w' base B sb (L ++ bitsB s a n) ∧ Below base w w' := by
  have hBw : B < w.heap.size := by obtain ⟨v, h, _⟩ := hW; exact lt_of_block h
  have hbB : base ≤ B := by obtain ⟨v, h, _, h2⟩ := hW; exact h2
  have HW := Lib.hid hW
  clear hW
  obtain ⟨i0, hi, hz0, hz1, hz2⟩ := info_parts Try.info5
  go_enter Try.func35, Try.ntmps35
  go_wp2_with fail
  go_loopw [2, 3] (fun f m wr => ∃ j : Nat, j ≤ n ∧ f = .int .i64 (a + j : Nat) ∧ m = .int .i64 (n - j : Nat) ∧ Hid (Wr wr base B sb (L ++ bitsB s a j)) ∧ Hid (wr.heap[w.heap.size]? = some (.cells #[.string s] 9 (0, 0))) ∧ Hid (Below base w wr)) (fun _ m _ => (intOf m).toNat)
  case atStart =>
    refine ⟨0, by omega, by go_num, by go_num, Lib.hid ?_, Lib.hid ?_, Lib.hid ?_⟩
    · obtain ⟨v, h1, h2, h3⟩ := HW.out
      rw [bitsB_zero, List.append_nil]
      exact ⟨v, by rw [Below.heap_alloc _ _ _ hBw]; exact h1, h2.alloc _, h3⟩
    · exact heap_alloc_new _ _
    · exact (Below.refl _ _).alloc (by omega) _
  case round =>
    obtain ⟨j, hj, rfl, rfl, HWr, HX, HB⟩ := hrel
    by_cases hjn : j < n
    · skip
      obtain ⟨v, hh, hown, _⟩ := HWr.out
      have c1 := cell3 hh 1
      have c2 := cell3 hh 2
      have f1 := free3 hh 1
      have f2 := free3 hh 2
      have hcs := cell_of_one HX.out
      simp only [List.getElem?_toArray, List.getElem?_cons_succ, List.getElem?_cons_zero] at c1 c2
      have HH := Lib.hid hh
      have HO := Lib.hid hown
      clear hh hown
      have hjn' : (0 : Int) < ((n - j : Nat) : Int) := by omega
      have hLl : (L ++ bitsB s a j).length ≤ 562949953421312 := by simp; omega
      have hin : (a + j) / 8 < s.size := by omega
      have hLM : ∀ m, L ++ bitsB s a (j + m) = (L ++ bitsB s a j) ++ bitsB s (a + j) m := fun m => by rw [bitsB_add, List.append_assoc]
      have HLM := Lib.hid hLM
      clear hLM
      generalize L ++ bitsB s a j = L1 at *
      have hs' : s.size ≤ maxLen := by unfold maxLen; omega
      by_cases hu : L1.length % 8 = 0
      · by_cases hm : n - j ≤ 8
        · skip
          have htk := Lib.hid (take_mask s (a + j) (n - j))
          have hst := Lib.hid (stepO_take s L1 (a + j) (n - j) (by omega) (by omega))
          have hu0 : ((L1.length : Int) % 8 == 0) = true := by simp; omega
          go_wp2_with (first
            | (go_at_call 45; refine (eight_any s (a + j) hs' (by omega) hin _ _ hcs).mono ?_; rintro e w1 ⟨rfl, rfl⟩)
            | (at_builtin; refine wpList_append_own _ rfl (.tmp 39) (.tmp 41) 56 rfl base 5 i0 (.int .u8 0) 1 1 Try.underlying56 hi hz0 hz1 hz2 rfl (by decide) _ _ _ rfl (HO.out.alloc _) ⟨wr.heap.size, 0, none⟩ 1 1 [.int .u8 (bits BinOp.and IntKind.u8 (↑(eightN s (a + j))) (255 * 2 ^ (8 - (n - j)) % 256))] rfl rfl ?c1 ?c2 ?c3 ?c4 ?c5 ?_))
          case c1 => exact one_cell_at
          case c2 => intro u hu; simp at hu; subst hu; rfl
          case c3 => rw [packN_length, maxLen_val]; omega
          case c4 => rw [packN_length]; omega
          case c5 => have := lt_of_block HX.out; simp; omega
          · intro v' w1 hown' hgrow _
            have hh1 := grown_block HO.out hgrow HH.out (by decide)
            have hx1 := grown_block HO.out hgrow HX.out (by decide)
            have hb1 := grown_below HB.out HO.out hgrow (by have := lt_of_block HX.out; omega)
            obtain ⟨g, cap, hv⟩ := own_shape hown' (by omega)
            rw [hv] at hown' ⊢
            clear hgrow hv
            have d1 := cell3 hh1 1
            have d2 := cell3 hh1 2
            have e1 := free3 hh1 1
            have e2 := free3 hh1 2
            simp only [List.getElem?_toArray, List.getElem?_cons_succ, List.getElem?_cons_zero] at d1 d2
            have HN := Lib.hid hown'
            have HH1 := Lib.hid hh1
            have HX1 := Lib.hid hx1
            have HB1 := Lib.hid hb1
            clear hown' hh1 hx1 hb1
            go_wp2_with fail
            go_roundw
            case rel =>
              refine ⟨j + (n - j), by omega, by go_num, by go_num, ?_, ?_, ?_⟩
              · refine Lib.hid ?_
                have h := hst.out
                rw [stepO, if_pos (by omega)] at h
                rw [HLM.out]
                refine Wr_close HH1.out HN.out ?_ ?_ ?_ (by omega)
                · rw [← h, u8s_snoc, htk.out]
                · rw [← h]; simp
                · simp
              · refine Lib.hid ?_
                rw [Below.heap_setCell _ _ _ _ (by simp; omega), Below.heap_setCell _ _ _ _ (by simp; omega)]
                exact HX1.out
              · exact Lib.hid ((HB1.out.setCell (by simp; omega) _).setCell (by simp; omega) _)
            case measure => simp only [intOf]; omega
        · skip
          have htk := Lib.hid (take_mask8 s (a + j))
          have hst := Lib.hid (stepO_take s L1 (a + j) 8 (by omega) (by omega))
          have hu0 : ((L1.length : Int) % 8 == 0) = true := by simp; omega
          go_wp2_with (first
            | (go_at_call 45; refine (eight_any s (a + j) hs' (by omega) hin _ _ hcs).mono ?_; rintro e w1 ⟨rfl, rfl⟩)
            | (at_builtin; refine wpList_append_own _ rfl (.tmp 39) (.tmp 41) 56 rfl base 5 i0 (.int .u8 0) 1 1 Try.underlying56 hi hz0 hz1 hz2 rfl (by decide) _ _ _ rfl (HO.out.alloc _) ⟨wr.heap.size, 0, none⟩ 1 1 [.int .u8 (bits BinOp.and IntKind.u8 (↑(eightN s (a + j))) 255)] rfl rfl ?c1 ?c2 ?c3 ?c4 ?c5 ?_))
          case c1 => exact one_cell_at
          case c2 => intro u hu; simp at hu; subst hu; rfl
          case c3 => rw [packN_length, maxLen_val]; omega
          case c4 => rw [packN_length]; omega
          case c5 => have := lt_of_block HX.out; simp; omega
          · intro v' w1 hown' hgrow _
            have hh1 := grown_block HO.out hgrow HH.out (by decide)
            have hx1 := grown_block HO.out hgrow HX.out (by decide)
            have hb1 := grown_below HB.out HO.out hgrow (by have := lt_of_block HX.out; omega)
            obtain ⟨g, cap, hv⟩ := own_shape hown' (by omega)
            rw [hv] at hown' ⊢
            clear hgrow hv
            have d1 := cell3 hh1 1
            have d2 := cell3 hh1 2
            have e1 := free3 hh1 1
            have e2 := free3 hh1 2
            simp only [List.getElem?_toArray, List.getElem?_cons_succ, List.getElem?_cons_zero] at d1 d2
            have HN := Lib.hid hown'
            have HH1 := Lib.hid hh1
            have HX1 := Lib.hid hx1
            have HB1 := Lib.hid hb1
            clear hown' hh1 hx1 hb1
            go_wp2_with fail
            go_roundw
            case rel =>
              refine ⟨j + 8, by omega, by go_num, by go_num, ?_, ?_, ?_⟩
              · refine Lib.hid ?_
                have h := hst.out
                rw [stepO, if_pos (by omega)] at h
                rw [HLM.out]
                refine Wr_close HH1.out HN.out ?_ ?_ ?_ (by omega)
                · rw [← h, u8s_snoc, htk.out]
                · rw [← h]; simp
                · simp
              · refine Lib.hid ?_
                rw [Below.heap_setCell _ _ _ _ (by simp; omega), Below.heap_setCell _ _ _ _ (by simp; omega)]
                exact HX1.out
              · exact Lib.hid ((HB1.out.setCell (by simp; omega) _).setCell (by simp; omega) _)
            case measure => simp only [intOf]; omega
      · have hq : 0 < (packN L1).length := by rw [packN_length]; omega
        obtain ⟨g, cap, hv⟩ := own_shape HO.out hq
        have HV := Lib.hid hv
        have HO2 := HO.out
        rw [hv] at HO2
        have hlc := HO2.cellAt ((packN L1).length - 1) (by omega)
        have hlf := HO2.frozenAt ((packN L1).length - 1)
        have hgb := (HO2.lt g rfl)
        have hlast : (u8s (packN L1))[(packN L1).length - 1]? = some (.int .u8 ((packN L1).getD ((packN L1).length - 1) 0 : Nat)) := u8s_get _ _ (by omega)
        rw [hlast] at hlc
        have hlb : (packN L1).getD ((packN L1).length - 1) 0 < 256 := getD_lt256 _ (packN_lt L1) _
        rw [hv] at c2
        have HO3 := Lib.hid HO2
        have hql : (packN L1).length = (L1.length + 7) / 8 := packN_length L1
        clear hlast HO2 hv HO
        generalize hQ : (packN L1).length = q at *
        have HQ := Lib.hid hQ
        clear hQ
        generalize hX : (packN L1).getD (q - 1) 0 = x at *
        have HX0 := Lib.hid hX
        clear hX
        have hu' : (0 : Int) < (L1.length : Int) % 8 := by omega
        have hu0 : ((L1.length : Int) % 8 == 0) = false := by simp; omega
        have hqq : (q : Int) ≤ 140737488355320 := by omega
        have hq1 : (1 : Int) ≤ (q : Int) := by omega
        have HQL := Lib.hid hql
        clear hql
        have hgB : ¬ g = B := fun h => own_ne HO3.out HH.out (by decide) (by rw [h]; rfl)
        have hgX : Hid (¬ g = w.heap.size) := Lib.hid (fun h => own_ne HO3.out HX.out (by decide) (by rw [h]; rfl))
        have HV2 := Lib.hid (show wr.heap[B]? = some (.cells #[.string sb, .int .i64 (L1.length : Int), .slice (some ⟨g, 0, none⟩) q cap] 58 (0, 0)) by rw [← HV.out]; exact HH.out)
        by_cases hm : n - j ≤ 8
        · by_cases ho : 8 - L1.length % 8 < n - j
          · skip
            have htk := Lib.hid (take_mask s (a + j) (n - j))
            have hst := Lib.hid (stepO_take s L1 (a + j) (n - j) (by omega) (by omega))
            have hov : (8 : Int) - (L1.length : Int) % 8 < ((n - j : Nat) : Int) := by omega
            have hor := Lib.hid (u8_or_shift x (takeN s (a + j) (n - j)) (L1.length % 8) hlb (takeN_lt _ _ _))
            go_wp2_with (first
              | (go_at_call 45; refine (eight_any s (a + j) hs' (by omega) hin _ _ hcs).mono ?_; rintro e w1 ⟨rfl, rfl⟩))
            go_region
            have HS := Lib.hid (HO3.out.stored (q - 1) (.int .u8 (bits BinOp.or IntKind.u8 (↑x) ((bits BinOp.and IntKind.u8 (↑(eightN s (a + j))) (255 * 2 ^ (8 - (n - j)) % 256)) / 2 ^ (L1.length % 8)))))
            go_wp2_with (first
              | (at_builtin; refine wpList_append_own _ rfl (.tmp 71) (.tmp 76) 56 rfl base 5 i0 (.int .u8 0) 1 1 Try.underlying56 hi hz0 hz1 hz2 rfl (by decide) _ _ _ rfl (HS.out.1.alloc _) ⟨wr.heap.size, 0, none⟩ 1 1 [.int .u8 ((bits BinOp.and IntKind.u8 (↑(eightN s (a + j))) (255 * 2 ^ (8 - (n - j)) % 256)) * 2 ^ (8 - L1.length % 8) % 256)] rfl rfl ?c1 ?c2 ?c3 ?c4 ?c5 ?_))
            case c1 => exact one_cell_drew (by rw [hsize_set])
            case c2 => intro u hu; simp at hu; subst hu; rfl
            case c3 => rw [maxLen_val]; omega
            case c4 => omega
            case c5 => have := lt_of_block HX.out; simp; omega
            · intro v' w1 hown' hgrow0 _
              have hgrow := undrew hgrow0
              clear hgrow0
              have hh1 := grown_block HS.out.1 hgrow (by rw [Below.heap_setCell _ _ _ _ (Ne.symm hgB)]; exact HH.out) (by decide)
              have hx1 := grown_block HS.out.1 hgrow (by rw [Below.heap_setCell _ _ _ _ (Ne.symm hgX.out)]; exact HX.out) (by decide)
              have hb1 := grown_below (HB.out.setCell (by exact hgb.1) _) HS.out.1 hgrow (by rw [hsize_set]; have := lt_of_block HX.out; simp; omega)
              obtain ⟨g', cap', hv⟩ := own_shape hown' (by omega)
              rw [hv] at hown' ⊢
              clear hgrow hv
              have d1 := cell3 hh1 1
              have d2 := cell3 hh1 2
              have e1 := free3 hh1 1
              have e2 := free3 hh1 2
              simp only [List.getElem?_toArray, List.getElem?_cons_succ, List.getElem?_cons_zero] at d1 d2
              have HN := Lib.hid hown'
              have HH1 := Lib.hid hh1
              have HX1 := Lib.hid hx1
              have HB1 := Lib.hid hb1
              clear hown' hh1 hx1 hb1
              go_wp2_with fail
              go_roundw
              case rel =>
                refine ⟨j + (n - j), by omega, by go_num, by go_num, ?_, ?_, ?_⟩
                · refine Lib.hid ?_
                  have h := hst.out
                  rw [stepO, if_neg (by omega), if_pos (by omega), HQ.out, HX0.out] at h
                  rw [HLM.out]
                  refine Wr_close HH1.out HN.out ?_ ?_ ?_ (by omega)
                  · rw [← h, u8s_snoc, ← u8s_set, htk.out, hor.out, cast_shl]
                  · rw [← h]; simp [HQ.out]
                  · simp
                · refine Lib.hid ?_
                  rw [Below.heap_setCell _ _ _ _ (by simp; omega), Below.heap_setCell _ _ _ _ (by simp; omega)]
                  exact HX1.out
                · exact Lib.hid ((HB1.out.setCell (by simp; omega) _).setCell (by simp; omega) _)
              case measure => simp only [intOf]; omega
          · skip
            have htk := Lib.hid (take_mask s (a + j) (n - j))
            have hst := Lib.hid (stepO_take s L1 (a + j) (n - j) (by omega) (by omega))
            have hov : ¬ (8 : Int) - (L1.length : Int) % 8 < ((n - j : Nat) : Int) := by omega
            have hor := Lib.hid (u8_or_shift x (takeN s (a + j) (n - j)) (L1.length % 8) hlb (takeN_lt _ _ _))
            go_wp2_with (first
              | (go_at_call 45; refine (eight_any s (a + j) hs' (by omega) hin _ _ hcs).mono ?_; rintro e w1 ⟨rfl, rfl⟩))
            go_region
            have HS := Lib.hid (HO3.out.stored (q - 1) (.int .u8 (bits BinOp.or IntKind.u8 (↑x) ((bits BinOp.and IntKind.u8 (↑(eightN s (a + j))) (255 * 2 ^ (8 - (n - j)) % 256)) / 2 ^ (L1.length % 8)))))
            go_wp2_with fail
            go_roundw
            case rel =>
              refine ⟨j + (n - j), by omega, by go_num, by go_num, ?_, ?_, ?_⟩
              · refine Lib.hid ?_
                have h := hst.out
                rw [stepO, if_neg (by omega), if_neg (by omega), HQ.out, HX0.out] at h
                rw [HLM.out]
                refine Wr_same (by rw [Below.heap_setCell _ _ _ _ (Ne.symm hgB)]; exact HV2.out) HS.out.1 ?_ ?_ ?_ (by omega)
                · rw [← h, ← u8s_set, htk.out, hor.out]
                · rw [← h]; simp [HQ.out]
                · simp
              · refine Lib.hid ?_
                show ((wr.setCell _ _).setCell _ _).heap[_]? = _
                rw [Below.heap_setCell _ _ _ _ (by simp; omega), Below.heap_setCell _ _ _ _ (Ne.symm hgX.out)]
                exact HX.out
              · exact Lib.hid ((HB.out.drew.setCell (by exact hgb.1) _).setCell (by simp; omega) _)
            case measure => simp only [intOf]; omega
        · by_cases ho : 8 - L1.length % 8 < 8
          · skip
            have htk := Lib.hid (take_mask8 s (a + j))
            have hst := Lib.hid (stepO_take s L1 (a + j) 8 (by omega) (by omega))
            have hov : (8 : Int) - (L1.length : Int) % 8 < 8 := by omega
            have hor := Lib.hid (u8_or_shift x (takeN s (a + j) 8) (L1.length % 8) hlb (takeN_lt _ _ _))
            go_wp2_with (first
              | (go_at_call 45; refine (eight_any s (a + j) hs' (by omega) hin _ _ hcs).mono ?_; rintro e w1 ⟨rfl, rfl⟩))
            go_region
            have HS := Lib.hid (HO3.out.stored (q - 1) (.int .u8 (bits BinOp.or IntKind.u8 (↑x) ((bits BinOp.and IntKind.u8 (↑(eightN s (a + j))) 255) / 2 ^ (L1.length % 8)))))
            go_wp2_with (first
              | (at_builtin; refine wpList_append_own _ rfl (.tmp 71) (.tmp 76) 56 rfl base 5 i0 (.int .u8 0) 1 1 Try.underlying56 hi hz0 hz1 hz2 rfl (by decide) _ _ _ rfl (HS.out.1.alloc _) ⟨wr.heap.size, 0, none⟩ 1 1 [.int .u8 ((bits BinOp.and IntKind.u8 (↑(eightN s (a + j))) 255) * 2 ^ (8 - L1.length % 8) % 256)] rfl rfl ?c1 ?c2 ?c3 ?c4 ?c5 ?_))
            case c1 => exact one_cell_drew (by rw [hsize_set])
            case c2 => intro u hu; simp at hu; subst hu; rfl
            case c3 => rw [maxLen_val]; omega
            case c4 => omega
            case c5 => have := lt_of_block HX.out; simp; omega
            · intro v' w1 hown' hgrow0 _
              have hgrow := undrew hgrow0
              clear hgrow0
              have hh1 := grown_block HS.out.1 hgrow (by rw [Below.heap_setCell _ _ _ _ (Ne.symm hgB)]; exact HH.out) (by decide)
              have hx1 := grown_block HS.out.1 hgrow (by rw [Below.heap_setCell _ _ _ _ (Ne.symm hgX.out)]; exact HX.out) (by decide)
              have hb1 := grown_below (HB.out.setCell (by exact hgb.1) _) HS.out.1 hgrow (by rw [hsize_set]; have := lt_of_block HX.out; simp; omega)
              obtain ⟨g', cap', hv⟩ := own_shape hown' (by omega)
              rw [hv] at hown' ⊢
              clear hgrow hv
              have d1 := cell3 hh1 1
              have d2 := cell3 hh1 2
              have e1 := free3 hh1 1
              have e2 := free3 hh1 2
              simp only [List.getElem?_toArray, List.getElem?_cons_succ, List.getElem?_cons_zero] at d1 d2
              have HN := Lib.hid hown'
              have HH1 := Lib.hid hh1
              have HX1 := Lib.hid hx1
              have HB1 := Lib.hid hb1
              clear hown' hh1 hx1 hb1
              go_wp2_with fail
              go_roundw
              case rel =>
                refine ⟨j + 8, by omega, by go_num, by go_num, ?_, ?_, ?_⟩
                · refine Lib.hid ?_
                  have h := hst.out
                  rw [stepO, if_neg (by omega), if_pos (by omega), HQ.out, HX0.out] at h
                  rw [HLM.out]
                  refine Wr_close HH1.out HN.out ?_ ?_ ?_ (by omega)
                  · rw [← h, u8s_snoc, ← u8s_set, htk.out, hor.out, cast_shl]
                  · rw [← h]; simp [HQ.out]
                  · simp
                · refine Lib.hid ?_
                  rw [Below.heap_setCell _ _ _ _ (by simp; omega), Below.heap_setCell _ _ _ _ (by simp; omega)]
                  exact HX1.out
                · exact Lib.hid ((HB1.out.setCell (by simp; omega) _).setCell (by simp; omega) _)
              case measure => simp only [intOf]; omega
          · omega
    · have hjn' : ¬ (0 : Int) < ((n - j : Nat) : Int) := by omega
      obtain rfl : j = n := by omega
      have HWr' := HWr
      go_wp2_with fail
      go_end0
      exact ⟨rfl, HWr'.out, HB.out⟩
end Go.Proofs.Ytdgjbejbbmnhbaa
