/-
  Walks: turn, PutInt.
-/
import Derived.Test.YtdgjbejbbmnhbaaBitsJoin
import Derived.Test.YtdgjbejbbmnhbaaBitsMath2
namespace Go.Proofs.Ytdgjbejbbmnhbaa
open Go.RowKit Go.Proofs.BitsM
theorem u8s_length (o : List Nat) : (u8s o).length = o.length := by simp [u8s]
theorem grown_set {w w1 : World} {g : Nat} (h : w.grownBy w1 (some g)) (k : Nat) (u : Value) : w.grownBy (w1.setCell ⟨g, k, none⟩ u) (some g) :=
  ⟨h.os, h.tape, h.output, by rw [hsize_set]; exact h.size, fun j hj hne => (Below.heap_setCell _ _ _ _ (fun e => hne (by rw [e]))).trans (h.block j hj hne)⟩
theorem grown_drew {w w1 : World} {g : Nat} (h : w.grownBy w1 (some g)) : w.grownBy w1.drew (some g) := ⟨h.os, h.tape, h.output, h.size, h.block⟩
set_option maxHeartbeats 2000000 in
theorem turn_any (g cap base : Nat) (o : List Nat) (n : Nat) (hn : o.length = n) (ho : n ≤ 100000) (w : World) (hown : w.ownsRow base 5 1 (.slice (some ⟨g, 0, none⟩) n cap) n (u8s o)) :
    Calls Try.prog 42 #[.slice (some ⟨g, 0, none⟩) n cap] w fun e w' => e = .returned (.tuple #[]) ∧ w'.ownsRow base 5 1 (.slice (some ⟨g, 0, none⟩) n cap) n (u8s o.reverse) ∧ w.grownBy w' (some g) := by
  have HN := Lib.hid hn
  have HO := Lib.hid hown
  clear hn hown
  go_enter Try.func42, Try.ntmps42
  go_wp2_with fail
  go_loopw [2, 3] (fun i j wr => ∃ k : Nat, 2 * k ≤ n + 1 ∧ i = .int .i64 k ∧ j = .int .i64 ((n : Int) - 1 - k) ∧ Hid (wr.ownsRow base 5 1 (.slice (some ⟨g, 0, none⟩) n cap) n (u8s (rvRow o k))) ∧ Hid (w.grownBy wr (some g))) (fun i _ _ => n + 1 - (intOf i).toNat)
  case atStart => exact ⟨0, by omega, rfl, by go_num, Lib.hid (by rw [rvRow_zero]; exact HO.out), Lib.hid (World.grownBy.refl _ _)⟩
  case round =>
    obtain ⟨k, hk, rfl, rfl, HR, HG⟩ := hrel
    by_cases hlt : 2 * k + 1 < n
    · have c1 := HR.out.cellAt k (by omega)
      have c2 := HR.out.cellAt (n - 1 - k) (by omega)
      have f1 := HR.out.frozenAt k
      have f2 := HR.out.frozenAt (n - 1 - k)
      rw [u8s_get _ _ (by rw [rvRow_length, HN.out]; omega), rvRow_getD _ _ _ (by omega) (by rw [HN.out]; omega)] at c1 c2
      have hlt' : (k : Int) < (n : Int) - 1 - (k : Int) := by omega
      have hne : ¬ n - 1 - k = k := by omega
      have hne' : ¬ k = n - 1 - k := by omega
      generalize hx : o.getD k 0 = x at *
      generalize hy : o.getD (n - 1 - k) 0 = y at *
      have HX := Lib.hid hx
      have HY := Lib.hid hy
      clear hx hy
      have hidx : ((n : Int) - 1 - (k : Int)).toNat = n - 1 - k := by omega
      go_wp2_with fail
      go_region
      go_wp2_with fail
      go_roundw
      case rel =>
        refine ⟨k + 1, by omega, by go_num, by go_num, Lib.hid ?_, Lib.hid ?_⟩
        · rw [rvRow_succ o k (by rw [HN.out]; omega), HN.out, HX.out, HY.out, ← u8s_set, ← u8s_set]
          exact ((HR.out.stored k (.int .u8 y)).1.stored (n - 1 - k) (.int .u8 x)).1
        · exact grown_drew (grown_set (grown_set HG.out _ _) _ _)
      case measure => simp only [intOf]; omega
    · have hlt' : ¬ (k : Int) < (n : Int) - 1 - (k : Int) := by omega
      have HR' := HR
      go_wp2_with fail
      go_end0
      refine ⟨rfl, ?_, HG.out⟩
      have h := HR.out
      rw [rvRow_all _ _ (by rw [HN.out]; omega)] at h
      exact h

/-- the bytes of an integer -/
def putBytes (v : Int) (size : Nat) (little : Bool) : List Nat := if little then (packN (vbits v size)).reverse else packN (vbits v size)
/-- bytes as a string -/
def bytesS (o : List Nat) : ByteArray := strOfNums (o.map fun b : Nat => (b : Int))
theorem packS_eq (L : List Bool) : packS L = bytesS (packN L) := rfl
def putBad (size : Int) (little : Bool) : Bool := decide (size < 0) || decide (64 < size) || (little && !decide (size % 8 = 0))
def putR (v size : Int) (little : Bool) : ByteArray × Int × Int :=
  if putBad size little = true then (⟨#[]⟩, 0, 2) else (bytesS (putBytes v size.toNat little), size, 0)
theorem conv_row {w : World} {base : Nat} {v : Value} {o : List Nat} {n : Nat} (hn : o.length = n) (h : w.ownsRow base 5 1 v n (u8s o)) :
    (convert 56 9 v).run Try.prog w = .ok (.string (bytesS o)) w := by
  subst hn
  rcases h.2 with ⟨rfl, h0⟩ | ⟨g, cap, cur, rfl, hb, hg, hn, hcap, hsz, htake⟩
  · have e : o = [] := List.length_eq_zero_iff.1 h0
    subst e
    exact run_convert_bytes_nil w 56 5 Try.underlying56 Try.underlying5 _ _ _ Try.underlying9
  · refine run_convert_bytes_arg w 56 5 Try.underlying56 Try.underlying5 g 0 _ cap (o.map fun b : Nat => (b : Int)) (by simp) ?_ _ Try.underlying9
    intro i hi
    rw [Nat.zero_add, h.cellAt i (by omega)]
    rw [u8s_get _ _ hi]
    simp only [List.getD, List.getElem?_map, List.getElem?_eq_getElem hi, Option.map_some, Option.getD_some]
theorem made_row (n : Nat) : (madeCells #[Value.int .u8 0] n).toList = u8s (putRow 0 0 n 0) := by
  rw [putRow_zero, toList_madeCells_one]
  simp [u8s]
theorem putRow_zero' (v : Int) (size n : Nat) : putRow v size n 0 = putRow 0 0 n 0 := by rw [putRow_zero, putRow_zero]
theorem u64_wrap_nat (u k : Nat) : IntKind.u64.wrap ((u : Int) * 2 ^ k) = ((u * 2 ^ k % 2 ^ 64 : Nat) : Int) := by
  have h : IntKind.u64.wrap ((u : Int) * 2 ^ k) = ((u : Int) * 2 ^ k) % 18446744073709551616 := by simp [IntKind.wrap, IntKind.bits, IntKind.signed]
  rw [h]; simp
theorem u64_wrap_low (v : Int) : IntKind.u64.wrap v = ((lowU v : Nat) : Int) := by
  have h : IntKind.u64.wrap v = v % 18446744073709551616 := by simp [IntKind.wrap, IntKind.bits, IntKind.signed]
  rw [h]; unfold lowU; omega
theorem putU64 (v : Int) : putU v 64 = lowU v := by unfold putU; simp; exact lowU_lt v
set_option maxHeartbeats 2000000 in
theorem Put_ok (v : Int) (size : Nat) (little : Bool) (hv : i64ok v) (hb : putBad size little = false) (w : World) :
    Calls Try.prog 28 #[.int .i64 v, .int .i64 size, .bool little] w fun e w' => e = bitsRet (putR v size little) ∧ Below w.heap.size w w' := by
  obtain ⟨v0, v1⟩ := hv
  have hs64 : size ≤ 64 := by simp [putBad] at hb; omega
  have hs8 : little = true → size % 8 = 0 := by intro h; subst h; simp [putBad] at hb; omega
  have hfin := Lib.hid (show putR v size little = (bytesS (putBytes v size little), (size : Int), 0) by simp [putR, hb])
  obtain ⟨i0, hi, hz0, hz1, hz2⟩ := info_parts Try.info5
  have hlo := u64_wrap_low v
  have HL := Lib.hid (show lenB size = (((size + 7) / 8 : Nat) : Int) by unfold lenB; omega)
  have hU : (size < 64 ∧ Hid (IntKind.u64.wrap ((lowU v : Int) * 2 ^ (64 - size)) = ((putU v size : Nat) : Int))) ∨ (¬ size < 64 ∧ Hid (putU v size = lowU v)) := by
    by_cases h : size < 64
    · exact .inl ⟨h, Lib.hid (u64_wrap_nat _ _)⟩
    · obtain rfl : size = 64 := by omega
      exact .inr ⟨h, Lib.hid (putU64 v)⟩
  clear hb
  have hq : (size + 7) / 8 ≤ 8 := by omega
  have HS8 := Lib.hid hs8
  clear hs8
  rcases hU with ⟨hlt, HU⟩ | ⟨hge, HU⟩ <;> cases little
  · skip
    have hu := HU.out
    go_enter Try.func28, Try.ntmps28
    go_wp2_with fail
    all_goals (try (exfalso; omega))
    refine (length_any _ (by omega) (by omega) _).mono ?_
    rintro e w' ⟨rfl, rfl⟩
    go_wp2_with (first
      | (refine wpList_make_full _ rfl _ _ 56 rfl (w.heap.size + 1) 5 i0 (.int .u8 0) 1 Try.underlying56 hi hz0 hz1 .i64 .i64 _ _ ((size + 7) / 8) rfl rfl HL.out HL.out (by rw [hz2]; omega) (by rw [maxLen_val]; omega) (by simp) ?_))
    intro w1 hown hgrow
    rw [made_row, ← putRow_zero' v size] at hown
    have HO1 := Lib.hid hown
    have HR1 := Lib.hid ((hgrow.block w.heap.size (by simp) (by simp)).trans (new1_0 _ _))
    have HB1 := Lib.hid ((below_alloc _ _).grown hgrow (by simp) (by simp))
    clear hown hgrow hu
    go_wp2_with fail
    go_loopw [8, 40] (fun u i wr => ∃ k u0 : Nat, k ≤ (size + 7) / 8 ∧ i = .int .i64 k ∧ u = .int .u64 u0 ∧ Hid (u0 = putV v size k) ∧ Hid (wr.ownsRow (w.heap.size + 1) 5 1 (.slice (some ⟨w.heap.size + 1, 0, none⟩) ((size + 7) / 8) ((size + 7) / 8)) ((size + 7) / 8) (u8s (putRow v size ((size + 7) / 8) k))) ∧ Hid (wr.heap[w.heap.size]? = some (.cells #[.string ⟨#[]⟩, .int .i64 0] 25 (0, 0))) ∧ Hid (Below w.heap.size w wr)) (fun _ i _ => (size + 7) / 8 - (intOf i).toNat)
    case atStart => exact ⟨0, putU v size, by omega, rfl, rfl, Lib.hid (by rw [putV_zero]), HO1, HR1, HB1⟩
    case round =>
      obtain ⟨k, u0, hk, rfl, rfl, HV, HO, HR, HB⟩ := hrel
      by_cases hkn : k < (size + 7) / 8
      · have c1 := HO.out.cellAt k (by omega)
        have f1 := HO.out.frozenAt k
        rw [u8s_get _ _ (by simpa using hkn)] at c1
        have hkn' : (k : Int) < ((size : Int) + 7) / 8 := by omega
        go_wp2_with fail
        go_roundw
        case rel =>
          refine ⟨k + 1, putV v size (k + 1), by omega, by go_num, ?_, Lib.hid rfl, Lib.hid ?_, Lib.hid ?_, Lib.hid ?_⟩
          · rw [putV_succ, ← HV.out]
            exact congrArg _ (u64_wrap_nat u0 8)
          · rw [putRow_succ _ _ _ _ hkn, ← u8s_set]
            have e : (u0 : Int) / 72057594037927936 % 256 = ((putB v size k : Nat) : Int) := by
              have h1 : putB v size k = u0 / 72057594037927936 := by rw [HV.out]; rfl
              have h2 := putB_lt v size k
              omega
            rw [e]
            exact (HO.out.stored k _).1
          · rw [Below.heap_setCell _ _ _ _ (by simp)]; exact HR.out
          · exact HB.out.setCell (by simp) _
        case measure => simp only [intOf]; omega
      · have hkn' : ¬ (k : Int) < ((size : Int) + 7) / 8 := by omega
        have hkk : k = (size + 7) / 8 := by omega
        have hown := HO.out
        rw [hkk, putRow_all, putB_pack _ _ hs64] at hown
        have HP := Lib.hid hown
        clear hkk hown
        have hR := HR.out
        have HB2 := HB
        have hconv := conv_row (by rw [packN_length, vbits_length]) HP.out
        have HR2 := Lib.hid hR
        have g0 := cell3 hR 0
        have g1 := cell3 hR 1
        have f0 := free3 hR 0
        have f1 := free3 hR 1
        clear hR
        go_wp2_with fail
        obtain ⟨q0, q1⟩ := two_set HR2.out (.string (bytesS (packN (vbits v size)))) (.int .i64 size)
        refine bodyPost_ret (v := .tuple #[.agg #[.string (bytesS (packN (vbits v size))), .int .i64 size], .int .i64 0]) (by simp [results, Try.results28, go_sem, q0, q1]) rfl ⟨?_, ?_⟩
        · rw [hfin.out]; rfl
        · exact (HB2.out.setCell (by exact Nat.le_refl _) _).setCell (by exact Nat.le_refl _) _
  · skip
    have hu := HU.out
    have hs8 : ((size : Int) % 8 != 0) = false := by have := HS8.out rfl; simp; omega
    go_enter Try.func28, Try.ntmps28
    go_wp2_with fail
    all_goals (try (exfalso; omega))
    refine (length_any _ (by omega) (by omega) _).mono ?_
    rintro e w' ⟨rfl, rfl⟩
    go_wp2_with (first
      | (refine wpList_make_full _ rfl _ _ 56 rfl (w.heap.size + 1) 5 i0 (.int .u8 0) 1 Try.underlying56 hi hz0 hz1 .i64 .i64 _ _ ((size + 7) / 8) rfl rfl HL.out HL.out (by rw [hz2]; omega) (by rw [maxLen_val]; omega) (by simp) ?_))
    intro w1 hown hgrow
    rw [made_row, ← putRow_zero' v size] at hown
    have HO1 := Lib.hid hown
    have HR1 := Lib.hid ((hgrow.block w.heap.size (by simp) (by simp)).trans (new1_0 _ _))
    have HB1 := Lib.hid ((below_alloc _ _).grown hgrow (by simp) (by simp))
    clear hown hgrow hu
    go_wp2_with fail
    go_loopw [8, 40] (fun u i wr => ∃ k u0 : Nat, k ≤ (size + 7) / 8 ∧ i = .int .i64 k ∧ u = .int .u64 u0 ∧ Hid (u0 = putV v size k) ∧ Hid (wr.ownsRow (w.heap.size + 1) 5 1 (.slice (some ⟨w.heap.size + 1, 0, none⟩) ((size + 7) / 8) ((size + 7) / 8)) ((size + 7) / 8) (u8s (putRow v size ((size + 7) / 8) k))) ∧ Hid (wr.heap[w.heap.size]? = some (.cells #[.string ⟨#[]⟩, .int .i64 0] 25 (0, 0))) ∧ Hid (Below w.heap.size w wr)) (fun _ i _ => (size + 7) / 8 - (intOf i).toNat)
    case atStart => exact ⟨0, putU v size, by omega, rfl, rfl, Lib.hid (by rw [putV_zero]), HO1, HR1, HB1⟩
    case round =>
      obtain ⟨k, u0, hk, rfl, rfl, HV, HO, HR, HB⟩ := hrel
      by_cases hkn : k < (size + 7) / 8
      · have c1 := HO.out.cellAt k (by omega)
        have f1 := HO.out.frozenAt k
        rw [u8s_get _ _ (by simpa using hkn)] at c1
        have hkn' : (k : Int) < ((size : Int) + 7) / 8 := by omega
        go_wp2_with fail
        go_roundw
        case rel =>
          refine ⟨k + 1, putV v size (k + 1), by omega, by go_num, ?_, Lib.hid rfl, Lib.hid ?_, Lib.hid ?_, Lib.hid ?_⟩
          · rw [putV_succ, ← HV.out]
            exact congrArg _ (u64_wrap_nat u0 8)
          · rw [putRow_succ _ _ _ _ hkn, ← u8s_set]
            have e : (u0 : Int) / 72057594037927936 % 256 = ((putB v size k : Nat) : Int) := by
              have h1 : putB v size k = u0 / 72057594037927936 := by rw [HV.out]; rfl
              have h2 := putB_lt v size k
              omega
            rw [e]
            exact (HO.out.stored k _).1
          · rw [Below.heap_setCell _ _ _ _ (by simp)]; exact HR.out
          · exact HB.out.setCell (by simp) _
        case measure => simp only [intOf]; omega
      · have hkn' : ¬ (k : Int) < ((size : Int) + 7) / 8 := by omega
        have hkk : k = (size + 7) / 8 := by omega
        have hown := HO.out
        rw [hkk, putRow_all, putB_pack _ _ hs64] at hown
        have HP := Lib.hid hown
        clear hkk hown
        go_wp2_with fail
        refine (turn_any (w.heap.size + 1) _ (w.heap.size + 1) (packN (vbits v size)) ((size + 7) / 8) (by rw [packN_length, vbits_length]) (by omega) _ HP.out).mono ?_
        rintro e w2 ⟨rfl, hown2, hg2⟩
        have hR := (hg2.block w.heap.size (lt_of_block HR.out) (by simp)).trans HR.out
        have HB2 := Lib.hid (HB.out.grown (row := some (w.heap.size + 1)) ⟨hg2.os, hg2.tape, hg2.output, hg2.size, hg2.block⟩ (Nat.le_of_lt (lt_of_block HR.out)) (by intro k h; simp at h; omega))
        have hconv := conv_row (by rw [List.length_reverse, packN_length, vbits_length]) hown2
        clear hown2 hg2
        have HR2 := Lib.hid hR
        have g0 := cell3 hR 0
        have g1 := cell3 hR 1
        have f0 := free3 hR 0
        have f1 := free3 hR 1
        clear hR
        go_wp2_with fail
        obtain ⟨q0, q1⟩ := two_set HR2.out (.string (bytesS ((packN (vbits v size)).reverse))) (.int .i64 size)
        refine bodyPost_ret (v := .tuple #[.agg #[.string (bytesS ((packN (vbits v size)).reverse)), .int .i64 size], .int .i64 0]) (by simp [results, Try.results28, go_sem, q0, q1]) rfl ⟨?_, ?_⟩
        · rw [hfin.out]; rfl
        · exact (HB2.out.setCell (by exact Nat.le_refl _) _).setCell (by exact Nat.le_refl _) _
  · skip
    have hge : ¬ (size : Int) < 64 := by omega
    go_enter Try.func28, Try.ntmps28
    go_wp2_with fail
    all_goals (try (exfalso; omega))
    refine (length_any _ (by omega) (by omega) _).mono ?_
    rintro e w' ⟨rfl, rfl⟩
    go_wp2_with (first
      | (refine wpList_make_full _ rfl _ _ 56 rfl (w.heap.size + 1) 5 i0 (.int .u8 0) 1 Try.underlying56 hi hz0 hz1 .i64 .i64 _ _ ((size + 7) / 8) rfl rfl HL.out HL.out (by rw [hz2]; omega) (by rw [maxLen_val]; omega) (by simp) ?_))
    intro w1 hown hgrow
    rw [made_row, ← putRow_zero' v size] at hown
    have HO1 := Lib.hid hown
    have HR1 := Lib.hid ((hgrow.block w.heap.size (by simp) (by simp)).trans (new1_0 _ _))
    have HB1 := Lib.hid ((below_alloc _ _).grown hgrow (by simp) (by simp))
    clear hown hgrow
    go_wp2_with fail
    go_loopw [8, 40] (fun u i wr => ∃ k u0 : Nat, k ≤ (size + 7) / 8 ∧ i = .int .i64 k ∧ u = .int .u64 u0 ∧ Hid (u0 = putV v size k) ∧ Hid (wr.ownsRow (w.heap.size + 1) 5 1 (.slice (some ⟨w.heap.size + 1, 0, none⟩) ((size + 7) / 8) ((size + 7) / 8)) ((size + 7) / 8) (u8s (putRow v size ((size + 7) / 8) k))) ∧ Hid (wr.heap[w.heap.size]? = some (.cells #[.string ⟨#[]⟩, .int .i64 0] 25 (0, 0))) ∧ Hid (Below w.heap.size w wr)) (fun _ i _ => (size + 7) / 8 - (intOf i).toNat)
    case atStart => exact ⟨0, lowU v, by omega, rfl, rfl, Lib.hid (by rw [putV_zero]; exact HU.out.symm), HO1, HR1, HB1⟩
    case round =>
      obtain ⟨k, u0, hk, rfl, rfl, HV, HO, HR, HB⟩ := hrel
      by_cases hkn : k < (size + 7) / 8
      · have c1 := HO.out.cellAt k (by omega)
        have f1 := HO.out.frozenAt k
        rw [u8s_get _ _ (by simpa using hkn)] at c1
        have hkn' : (k : Int) < ((size : Int) + 7) / 8 := by omega
        go_wp2_with fail
        go_roundw
        case rel =>
          refine ⟨k + 1, putV v size (k + 1), by omega, by go_num, ?_, Lib.hid rfl, Lib.hid ?_, Lib.hid ?_, Lib.hid ?_⟩
          · rw [putV_succ, ← HV.out]
            exact congrArg _ (u64_wrap_nat u0 8)
          · rw [putRow_succ _ _ _ _ hkn, ← u8s_set]
            have e : (u0 : Int) / 72057594037927936 % 256 = ((putB v size k : Nat) : Int) := by
              have h1 : putB v size k = u0 / 72057594037927936 := by rw [HV.out]; rfl
              have h2 := putB_lt v size k
              omega
            rw [e]
            exact (HO.out.stored k _).1
          · rw [Below.heap_setCell _ _ _ _ (by simp)]; exact HR.out
          · exact HB.out.setCell (by simp) _
        case measure => simp only [intOf]; omega
      · have hkn' : ¬ (k : Int) < ((size : Int) + 7) / 8 := by omega
        have hkk : k = (size + 7) / 8 := by omega
        have hown := HO.out
        rw [hkk, putRow_all, putB_pack _ _ hs64] at hown
        have HP := Lib.hid hown
        clear hkk hown
        have hR := HR.out
        have HB2 := HB
        have hconv := conv_row (by rw [packN_length, vbits_length]) HP.out
        have HR2 := Lib.hid hR
        have g0 := cell3 hR 0
        have g1 := cell3 hR 1
        have f0 := free3 hR 0
        have f1 := free3 hR 1
        clear hR
        go_wp2_with fail
        obtain ⟨q0, q1⟩ := two_set HR2.out (.string (bytesS (packN (vbits v size)))) (.int .i64 size)
        refine bodyPost_ret (v := .tuple #[.agg #[.string (bytesS (packN (vbits v size))), .int .i64 size], .int .i64 0]) (by simp [results, Try.results28, go_sem, q0, q1]) rfl ⟨?_, ?_⟩
        · rw [hfin.out]; rfl
        · exact (HB2.out.setCell (by exact Nat.le_refl _) _).setCell (by exact Nat.le_refl _) _
  · skip
    have hge : ¬ (size : Int) < 64 := by omega
    have hs8 : ((size : Int) % 8 != 0) = false := by have := HS8.out rfl; simp; omega
    go_enter Try.func28, Try.ntmps28
    go_wp2_with fail
    all_goals (try (exfalso; omega))
    refine (length_any _ (by omega) (by omega) _).mono ?_
    rintro e w' ⟨rfl, rfl⟩
    go_wp2_with (first
      | (refine wpList_make_full _ rfl _ _ 56 rfl (w.heap.size + 1) 5 i0 (.int .u8 0) 1 Try.underlying56 hi hz0 hz1 .i64 .i64 _ _ ((size + 7) / 8) rfl rfl HL.out HL.out (by rw [hz2]; omega) (by rw [maxLen_val]; omega) (by simp) ?_))
    intro w1 hown hgrow
    rw [made_row, ← putRow_zero' v size] at hown
    have HO1 := Lib.hid hown
    have HR1 := Lib.hid ((hgrow.block w.heap.size (by simp) (by simp)).trans (new1_0 _ _))
    have HB1 := Lib.hid ((below_alloc _ _).grown hgrow (by simp) (by simp))
    clear hown hgrow
    go_wp2_with fail
    go_loopw [8, 40] (fun u i wr => ∃ k u0 : Nat, k ≤ (size + 7) / 8 ∧ i = .int .i64 k ∧ u = .int .u64 u0 ∧ Hid (u0 = putV v size k) ∧ Hid (wr.ownsRow (w.heap.size + 1) 5 1 (.slice (some ⟨w.heap.size + 1, 0, none⟩) ((size + 7) / 8) ((size + 7) / 8)) ((size + 7) / 8) (u8s (putRow v size ((size + 7) / 8) k))) ∧ Hid (wr.heap[w.heap.size]? = some (.cells #[.string ⟨#[]⟩, .int .i64 0] 25 (0, 0))) ∧ Hid (Below w.heap.size w wr)) (fun _ i _ => (size + 7) / 8 - (intOf i).toNat)
    case atStart => exact ⟨0, lowU v, by omega, rfl, rfl, Lib.hid (by rw [putV_zero]; exact HU.out.symm), HO1, HR1, HB1⟩
    case round =>
      obtain ⟨k, u0, hk, rfl, rfl, HV, HO, HR, HB⟩ := hrel
      by_cases hkn : k < (size + 7) / 8
      · have c1 := HO.out.cellAt k (by omega)
        have f1 := HO.out.frozenAt k
        rw [u8s_get _ _ (by simpa using hkn)] at c1
        have hkn' : (k : Int) < ((size : Int) + 7) / 8 := by omega
        go_wp2_with fail
        go_roundw
        case rel =>
          refine ⟨k + 1, putV v size (k + 1), by omega, by go_num, ?_, Lib.hid rfl, Lib.hid ?_, Lib.hid ?_, Lib.hid ?_⟩
          · rw [putV_succ, ← HV.out]
            exact congrArg _ (u64_wrap_nat u0 8)
          · rw [putRow_succ _ _ _ _ hkn, ← u8s_set]
            have e : (u0 : Int) / 72057594037927936 % 256 = ((putB v size k : Nat) : Int) := by
              have h1 : putB v size k = u0 / 72057594037927936 := by rw [HV.out]; rfl
              have h2 := putB_lt v size k
              omega
            rw [e]
            exact (HO.out.stored k _).1
          · rw [Below.heap_setCell _ _ _ _ (by simp)]; exact HR.out
          · exact HB.out.setCell (by simp) _
        case measure => simp only [intOf]; omega
      · have hkn' : ¬ (k : Int) < ((size : Int) + 7) / 8 := by omega
        have hkk : k = (size + 7) / 8 := by omega
        have hown := HO.out
        rw [hkk, putRow_all, putB_pack _ _ hs64] at hown
        have HP := Lib.hid hown
        clear hkk hown
        go_wp2_with fail
        refine (turn_any (w.heap.size + 1) _ (w.heap.size + 1) (packN (vbits v size)) ((size + 7) / 8) (by rw [packN_length, vbits_length]) (by omega) _ HP.out).mono ?_
        rintro e w2 ⟨rfl, hown2, hg2⟩
        have hR := (hg2.block w.heap.size (lt_of_block HR.out) (by simp)).trans HR.out
        have HB2 := Lib.hid (HB.out.grown (row := some (w.heap.size + 1)) ⟨hg2.os, hg2.tape, hg2.output, hg2.size, hg2.block⟩ (Nat.le_of_lt (lt_of_block HR.out)) (by intro k h; simp at h; omega))
        have hconv := conv_row (by rw [List.length_reverse, packN_length, vbits_length]) hown2
        clear hown2 hg2
        have HR2 := Lib.hid hR
        have g0 := cell3 hR 0
        have g1 := cell3 hR 1
        have f0 := free3 hR 0
        have f1 := free3 hR 1
        clear hR
        go_wp2_with fail
        obtain ⟨q0, q1⟩ := two_set HR2.out (.string (bytesS ((packN (vbits v size)).reverse))) (.int .i64 size)
        refine bodyPost_ret (v := .tuple #[.agg #[.string (bytesS ((packN (vbits v size)).reverse)), .int .i64 size], .int .i64 0]) (by simp [results, Try.results28, go_sem, q0, q1]) rfl ⟨?_, ?_⟩
        · rw [hfin.out]; rfl
        · exact (HB2.out.setCell (by exact Nat.le_refl _) _).setCell (by exact Nat.le_refl _) _
theorem putBad_iff {size : Int} {little : Bool} : putBad size little = true ↔ size < 0 ∨ 64 < size ∨ (little = true ∧ ¬ size % 8 = 0) := by
  simp [putBad, or_assoc]
set_option maxHeartbeats 1000000 in
theorem Put_bad (v size : Int) (little : Bool) (hv : i64ok v) (hs : i64ok size) (hb : putBad size little = true) (w : World) :
    Calls Try.prog 28 #[.int .i64 v, .int .i64 size, .bool little] w fun e w' => e = bitsRet (putR v size little) ∧ Below w.heap.size w w' := by
  obtain ⟨v0, v1⟩ := hv
  obtain ⟨s0, s1⟩ := hs
  have hfin := Lib.hid (show putR v size little = (⟨#[]⟩, 0, 2) by simp [putR, hb])
  have hbb := putBad_iff.1 hb
  clear hb
  by_cases h0 : size < 0
  · clear hbb
    go_enter Try.func28, Try.ntmps28
    go_wp2_with fail
    exact bodyPost_ret (v := .tuple #[.agg #[.string ⟨#[]⟩, .int .i64 0], .int .i64 2]) (by simp [results, Try.results28, go_sem]) rfl ⟨by rw [hfin.out]; rfl, below_alloc _ _⟩
  · by_cases h1 : 64 < size
    · clear hbb
      go_enter Try.func28, Try.ntmps28
      go_wp2_with fail
      all_goals exact bodyPost_ret (v := .tuple #[.agg #[.string ⟨#[]⟩, .int .i64 0], .int .i64 2]) (by simp [results, Try.results28, go_sem]) rfl ⟨by rw [hfin.out]; rfl, below_alloc _ _⟩
    · obtain ⟨rfl, h8⟩ : little = true ∧ ¬ size % 8 = 0 := hbb.elim (fun h => absurd h h0) fun h => h.elim (fun h => absurd h h1) id
      have h8' : (size % 8 != 0) = true := by simpa using h8
      clear hbb h8
      go_enter Try.func28, Try.ntmps28
      go_wp2_with fail
      all_goals exact bodyPost_ret (v := .tuple #[.agg #[.string ⟨#[]⟩, .int .i64 0], .int .i64 2]) (by simp [results, Try.results28, go_sem]) rfl ⟨by rw [hfin.out]; rfl, below_alloc _ _⟩
end Go.Proofs.Ytdgjbejbbmnhbaa
