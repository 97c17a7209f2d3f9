/-
  Walks: turn of a row whose cells are known, GetInt.
-/
import Derived.Test.YtdgjbejbbmnhbaaBitsRPut
import Derived.Test.YtdgjbejbbmnhbaaBitsMath5
import Derived.Lib.ConvBytes
namespace Go.Proofs.Ytdgjbejbbmnhbaa
open Go.RowKit Go.Proofs.BitsM
/-- the cells of block g are these bytes, and may be written -/
def ByRow (w : World) (g n : Nat) (o : List Nat) : Prop := ∀ i, i < n → w.cell? ⟨g, i, none⟩ = some (.int .u8 ((o.getD i 0 : Nat) : Int)) ∧ w.frozen? ⟨g, i, none⟩ = false
theorem frozen_set (w : World) (p a : Addr) (u : Value) : (w.setCell p u).frozen? a = w.frozen? a := by simp
theorem ByRow.set {w : World} {g n : Nat} {o : List Nat} (h : ByRow w g n o) {k x : Nat} (hk : k < n) (ho : o.length = n) : ByRow (w.setCell ⟨g, k, none⟩ (.int .u8 (x : Int))) g n (o.set k x) := by
  intro i hi
  refine ⟨?_, by rw [frozen_set]; exact (h i hi).2⟩
  by_cases e : k = i
  · subst e
    rw [World.cell?_setCell_same w _ _ (h k hk).1]
    simp [List.getD, ho, hk]
  · rw [World.cell?_setCell_other w ⟨g, k, none⟩ ⟨g, i, none⟩ _ (by intro q; injection q with _ q _; exact e q)]
    rw [(h i hi).1]
    simp [List.getD, e]
theorem ByRow.keep {w w' : World} {g n : Nat} {o : List Nat} (h : ByRow w g n o) (hk : w'.heap[g]? = w.heap[g]?) : ByRow w' g n o := fun i hi => by
  rw [World.cell?_of_block (w := w) hk, World.frozen?_of_block (w := w) hk]; exact h i hi
set_option maxHeartbeats 2000000 in
theorem turn2_any (g cap : Nat) (o : List Nat) (n : Nat) (hn : o.length = n) (ho : n ≤ 100000) (w : World) (hown : ByRow w g n o) :
    Calls Try.prog 42 #[.slice (some ⟨g, 0, none⟩) n cap] w fun e w' => e = .returned (.tuple #[]) ∧ ByRow w' g n o.reverse ∧ w.grownBy w' (some g) := by
  have HN := Lib.hid hn
  have HO := Lib.hid hown
  clear hn hown
  go_enter Try.func42, Try.ntmps42
  go_wp2_with fail
  go_loopw [2, 3] (fun i j wr => ∃ k : Nat, 2 * k ≤ n + 1 ∧ i = .int .i64 k ∧ j = .int .i64 ((n : Int) - 1 - k) ∧ Hid (ByRow wr g n (rvRow o k)) ∧ Hid (w.grownBy wr (some g))) (fun i _ _ => n + 1 - (intOf i).toNat)
  case atStart => exact ⟨0, by omega, rfl, by go_num, Lib.hid (by rw [rvRow_zero]; exact HO.out), Lib.hid (World.grownBy.refl _ _)⟩
  case round =>
    obtain ⟨k, hk, rfl, rfl, HR, HG⟩ := hrel
    by_cases hlt : 2 * k + 1 < n
    · have c1 := (HR.out k (by omega)).1
      have c2 := (HR.out (n - 1 - k) (by omega)).1
      have f1 := (HR.out k (by omega)).2
      have f2 := (HR.out (n - 1 - k) (by omega)).2
      rw [rvRow_getD _ _ _ (by omega) (by rw [HN.out]; omega)] at c1 c2
      have hlt' : (k : Int) < (n : Int) - 1 - (k : Int) := by omega
      have hne : ¬ n - 1 - k = k := by omega
      have hne' : ¬ k = n - 1 - k := by omega
      generalize hx : o.getD k 0 = x at *
      generalize hy : o.getD (n - 1 - k) 0 = y at *
      have HX := Lib.hid hx
      have HY := Lib.hid hy
      clear hx hy
      have hidx : ((n : Int) - 1 - (k : Int)).toNat = n - 1 - k := by omega
      go_wp2_with fail
      go_region
      go_wp2_with fail
      go_roundw
      case rel =>
        refine ⟨k + 1, by omega, by go_num, by go_num, Lib.hid ?_, Lib.hid ?_⟩
        · rw [rvRow_succ o k (by rw [HN.out]; omega), HN.out, HX.out, HY.out]
          exact (HR.out.set (by omega) (by rw [rvRow_length, HN.out])).set (by omega) (by rw [List.length_set, rvRow_length, HN.out])
        · exact grown_drew (grown_set (grown_set HG.out _ _) _ _)
      case measure => simp only [intOf]; omega
    · have hlt' : ¬ (k : Int) < (n : Int) - 1 - (k : Int) := by omega
      have HR' := HR
      go_wp2_with fail
      go_end0
      refine ⟨rfl, ?_, HG.out⟩
      have h := HR.out
      rw [rvRow_all _ _ (by rw [HN.out]; omega)] at h
      exact h
def getRet (r : Int × Int) : Ending := .returned (.tuple #[.int .i64 r.1, .int .i64 r.2])
/-- a string turned into bytes: the world behind it, by what is known of it -/
theorem conv_bytes (L : List Bool) : ∃ (F : World → World) (C : World → Nat), (∀ W, (convert 9 56 (.string (packS L))).run Try.prog W = .ok (.slice (some ⟨W.heap.size, 0, none⟩) (packS L).size (C W)) (F W)) ∧
    Hid (∀ W, Below W.heap.size W (F W) ∧ W.heap.size < (F W).heap.size ∧ ByRow (F W) W.heap.size (packS L).size (packN L)) := by
  refine ⟨fun W => Go.Lib.bytesWorld W 5 (packS L), fun W => grownCap W (packS L).size 0 5, fun W => Go.Lib.run_convert_string_bytes W _ _ _ _ Try.underlying9 Try.underlying56 Try.underlying5, Lib.hid fun W => ⟨?_, by rw [Go.Lib.bytesWorld_size]; omega, ?_⟩⟩
  · exact ⟨rfl, rfl, rfl, by rw [Go.Lib.bytesWorld_size]; omega, fun k hk => Go.Lib.bytesWorld_at_old W _ _ k hk⟩
  · intro i hi
    refine ⟨?_, ?_⟩
    · rw [Go.Lib.bytesWorld_cell _ _ _ _ hi]
      have e : ((packS L).data.toList.getD i 0).toNat = (packN L).getD i 0 := by
        rw [← packS_byte, ← byteAt_eq hi]
        have hi' : i < (packS L).data.size := hi
        simp only [List.getD, Array.getElem?_toList, Array.getElem?_eq_getElem hi', Option.getD_some]
        rfl
      rw [e]
    · have h := Go.Lib.bytesWorld_at_new W 5 (packS L)
      have hsz : (packS L).size ≤ (Go.Lib.bytesCells W 5 (packS L)).size := by
        simp only [Go.Lib.bytesCells, Array.size_append, Array.size_map]
        show (packS L).data.size ≤ _
        omega
      simp only [World.frozen?, h]
      simp
      omega
theorem keepB {W W' : World} (hb : Below W.heap.size W W') {k : Nat} {o : Obj} (h : W.heap[k]? = some o) : W'.heap[k]? = some o := (hb.block k (lt_of_block h)).trans h
set_option maxHeartbeats 4000000 in
theorem Get_ff (L : List Bool) (N q : Nat) (hN : L.length = N) (h1 : 1 ≤ N) (h64 : N ≤ 64) (hq : q = (N + 7) / 8) (w : World) :
    Calls Try.prog 30 #[.agg #[.string (packS L), .int .i64 N], .bool false, .bool false] w fun e w' => e = getRet (getV L false) ∧ Below w.heap.size w w' := by
  have hV := fun W => Valid_any (packS L) N (by rw [packS_size, maxLen_val]; omega) (by omega) (by omega) W
  rw [← hN, pack_valid L, hN] at hV
  obtain ⟨F, C, hF, HF⟩ := conv_bytes L
  have hsz : (packS L).size = q := by rw [packS_size, hN, hq]
  rw [hsz] at hF HF
  have HV := Lib.hid hV
  have HN := Lib.hid (show L.length = N by simpa using hN)
  have hq8 : q ≤ 8 := by omega
  have HQ := Lib.hid hq
  have hne : ((N : Int) == 0) = false := by simp; omega
  have hle : ¬ (64 : Int) < (N : Int) := by omega
  generalize packS L = s at *
  clear hV hN hq hsz
  go_enter Try.func30, Try.ntmps30
  go_wp2_with fail
  refine (HV.out _).mono ?_
  rintro e w1 ⟨rfl, hb1⟩
  have hz1 := hb1.size
  simp at hz1
  have HX1 := Lib.hid (keepB hb1 (new1_0 _ _))
  have HB1 := Lib.hid (bstep (below_alloc _ _) hb1)
  obtain ⟨hF1, hF2, hF3⟩ := HF.out w1
  have HXF := Lib.hid (keepB hF1 HX1.out)
  have HBF := Lib.hid (bstep HB1.out hF1)
  have HRF := Lib.hid hF3
  have c1 := cells_of HX1.out 1
  have c0 := cells_of HX1.out 0
  have d1 := cells_of HXF.out 1
  simp only [List.getElem?_toArray, List.getElem?_cons_succ, List.getElem?_cons_zero] at c0 c1 d1
  have hg : w.heap.size < w1.heap.size := by omega
  clear hb1 hF1 hF3
  have HR2 := HRF
  have HB2 := HBF
  go_wp2_with fail
  all_goals (try (exfalso; omega))
  go_loop [9, 41] (fun u i => ∃ k u0 : Nat, k ≤ q ∧ i = .int .i64 k ∧ u = .int .u64 u0 ∧ Hid (u0 = accU L k)) (fun _ i => q - (intOf i).toNat)
  case atStart => exact ⟨0, 0, by omega, rfl, rfl, Lib.hid (by simp [accU, accN])⟩
  case round =>
    obtain ⟨k, u0, hk, rfl, rfl, HU⟩ := hrel
    by_cases hlt : k < q
    · have a1 := (HR2.out k hlt).1
      have hbl := getD_lt256 _ (packN_lt L) k
      generalize hx : (packN L).getD k 0 = x at a1 hbl
      have HXx := Lib.hid hx
      clear hx
      have hlt' : (k : Int) < (q : Int) := by omega
      go_wp2_with fail
      go_round
      case rel => exact ⟨k + 1, accU L (k + 1), by omega, by go_num, by rw [acc_step L k x u0 (by omega) HU.out HXx.out], Lib.hid rfl⟩
      case measure => simp only [intOf]; omega
    · obtain rfl : k = q := by omega
      have hlt' : ¬ (k : Int) < (k : Int) := by omega
      have hd := acc_div L k u0 (by rw [HN.out]; omega) (by rw [HN.out]; exact HQ.out) HU.out
      have hfin := getV_u L (by rw [HN.out]; omega) (by rw [HN.out]; omega)
      rw [HN.out] at hd
      rw [← hd] at hfin
      have HY := Lib.hid (fun h : 9223372036854775807 < (u0 : Int) / 2 ^ (64 - N) => show getRet (getV L false) = .returned (.tuple #[.int .i64 0, .int .i64 7]) by rw [hfin, if_pos h]; rfl)
      have HNo := Lib.hid (fun h : ¬ 9223372036854775807 < (u0 : Int) / 2 ^ (64 - N) => show getRet (getV L false) = .returned (.tuple #[.int .i64 (wrap64 ((u0 : Int) / 2 ^ (64 - N))), .int .i64 0]) by rw [hfin, if_neg h]; rfl)
      clear hd hfin
      go_wp2_with fail
      all_goals
        go_ret2
        first
          | exact ⟨(HY.out (by assumption)).symm, HB2.out⟩
          | exact ⟨(HNo.out (by omega)).symm, HB2.out⟩
set_option maxHeartbeats 4000000 in
theorem Get_tf (L : List Bool) (N q : Nat) (hN : L.length = N) (h1 : 1 ≤ N) (h64 : N ≤ 64) (hq : q = (N + 7) / 8) (w : World) :
    Calls Try.prog 30 #[.agg #[.string (packS L), .int .i64 N], .bool true, .bool false] w fun e w' => e = getRet (getV L true) ∧ Below w.heap.size w w' := by
  have hV := fun W => Valid_any (packS L) N (by rw [packS_size, maxLen_val]; omega) (by omega) (by omega) W
  rw [← hN, pack_valid L, hN] at hV
  obtain ⟨F, C, hF, HF⟩ := conv_bytes L
  have hsz : (packS L).size = q := by rw [packS_size, hN, hq]
  rw [hsz] at hF HF
  have HV := Lib.hid hV
  have HN := Lib.hid (show L.length = N by simpa using hN)
  have hq8 : q ≤ 8 := by omega
  have HQ := Lib.hid hq
  have hne : ((N : Int) == 0) = false := by simp; omega
  have hle : ¬ (64 : Int) < (N : Int) := by omega
  generalize packS L = s at *
  clear hV hN hq hsz
  go_enter Try.func30, Try.ntmps30
  go_wp2_with fail
  refine (HV.out _).mono ?_
  rintro e w1 ⟨rfl, hb1⟩
  have hz1 := hb1.size
  simp at hz1
  have HX1 := Lib.hid (keepB hb1 (new1_0 _ _))
  have HB1 := Lib.hid (bstep (below_alloc _ _) hb1)
  obtain ⟨hF1, hF2, hF3⟩ := HF.out w1
  have HXF := Lib.hid (keepB hF1 HX1.out)
  have HBF := Lib.hid (bstep HB1.out hF1)
  have HRF := Lib.hid hF3
  have c1 := cells_of HX1.out 1
  have c0 := cells_of HX1.out 0
  have d1 := cells_of HXF.out 1
  simp only [List.getElem?_toArray, List.getElem?_cons_succ, List.getElem?_cons_zero] at c0 c1 d1
  have hg : w.heap.size < w1.heap.size := by omega
  clear hb1 hF1 hF3
  have HR2 := HRF
  have HB2 := HBF
  go_wp2_with fail
  all_goals (try (exfalso; omega))
  go_loop [9, 41] (fun u i => ∃ k u0 : Nat, k ≤ q ∧ i = .int .i64 k ∧ u = .int .u64 u0 ∧ Hid (u0 = accU L k)) (fun _ i => q - (intOf i).toNat)
  case atStart => exact ⟨0, 0, by omega, rfl, rfl, Lib.hid (by simp [accU, accN])⟩
  case round =>
    obtain ⟨k, u0, hk, rfl, rfl, HU⟩ := hrel
    by_cases hlt : k < q
    · have a1 := (HR2.out k hlt).1
      have hbl := getD_lt256 _ (packN_lt L) k
      generalize hx : (packN L).getD k 0 = x at a1 hbl
      have HXx := Lib.hid hx
      clear hx
      have hlt' : (k : Int) < (q : Int) := by omega
      go_wp2_with fail
      go_round
      case rel => exact ⟨k + 1, accU L (k + 1), by omega, by go_num, by rw [acc_step L k x u0 (by omega) HU.out HXx.out], Lib.hid rfl⟩
      case measure => simp only [intOf]; omega
    · obtain rfl : k = q := by omega
      have hlt' : ¬ (k : Int) < (k : Int) := by omega
      have hfin := Lib.hid (show getRet (getV L true) = .returned (.tuple #[.int .i64 (wrap64 (u0 : Int) / 2 ^ (64 - N)), .int .i64 0]) by
        unfold getRet; rw [getV_s2, HU.out, HQ.out, ← HN.out, getV_s L (by rw [HN.out]; omega) (by rw [HN.out]; omega)])
      go_wp2_with fail
      go_ret2
      exact ⟨hfin.out.symm, HB2.out⟩
set_option maxHeartbeats 4000000 in
theorem Get_ft (L : List Bool) (N q : Nat) (hN : L.length = N) (h1 : 1 ≤ N) (h64 : N ≤ 64) (hq : q = (N + 7) / 8) (h8 : N % 8 = 0) (w : World) :
    Calls Try.prog 30 #[.agg #[.string (packS L), .int .i64 N], .bool false, .bool true] w fun e w' => e = getRet (getV (turnB L) false) ∧ Below w.heap.size w w' := by
  have hV := fun W => Valid_any (packS L) N (by rw [packS_size, maxLen_val]; omega) (by omega) (by omega) W
  rw [← hN, pack_valid L, hN] at hV
  obtain ⟨F, C, hF, HF⟩ := conv_bytes L
  have hsz : (packS L).size = q := by rw [packS_size, hN, hq]
  rw [hsz] at hF HF
  have HV := Lib.hid hV
  have HN := Lib.hid (show (turnB L).length = N by simpa using hN)
  have hq8 : q ≤ 8 := by omega
  have HQ := Lib.hid hq
  have hne : ((N : Int) == 0) = false := by simp; omega
  have hle : ¬ (64 : Int) < (N : Int) := by omega
  have h8i : ((N : Int) % 8 != 0) = false := by simp; omega
  have H8 := Lib.hid h8
  clear h8
  generalize packS L = s at *
  clear hV hN hq hsz
  go_enter Try.func30, Try.ntmps30
  go_wp2_with fail
  refine (HV.out _).mono ?_
  rintro e w1 ⟨rfl, hb1⟩
  have hz1 := hb1.size
  simp at hz1
  have HX1 := Lib.hid (keepB hb1 (new1_0 _ _))
  have HB1 := Lib.hid (bstep (below_alloc _ _) hb1)
  obtain ⟨hF1, hF2, hF3⟩ := HF.out w1
  have HXF := Lib.hid (keepB hF1 HX1.out)
  have HBF := Lib.hid (bstep HB1.out hF1)
  have HRF := Lib.hid hF3
  have c1 := cells_of HX1.out 1
  have c0 := cells_of HX1.out 0
  have d1 := cells_of HXF.out 1
  simp only [List.getElem?_toArray, List.getElem?_cons_succ, List.getElem?_cons_zero] at c0 c1 d1
  have hg : w.heap.size < w1.heap.size := by omega
  clear hb1 hF1 hF3
  go_wp2_with fail
  all_goals (try (exfalso; omega))
  refine (turn2_any w1.heap.size _ (packN L) q (by rw [packN_length]; have := HN.out; have := HQ.out; simp at *; omega) (by omega) _ HRF.out).mono ?_
  rintro e w2 ⟨rfl, hr2, hg2⟩
  rw [packN_turn L (N / 8) (by have := HN.out; have := H8.out; simp at *; omega)] at hr2
  have HR2 := Lib.hid hr2
  have HX2 := Lib.hid ((hg2.block w.heap.size (by omega) (by intro e; injection e; omega)).trans HXF.out)
  have HB2 := Lib.hid (HBF.out.grown hg2 HBF.out.size (fun k hk => by injection hk; omega))
  clear hr2 hg2 hF2 d1
  have d1 := cells_of HX2.out 1
  simp only [List.getElem?_toArray, List.getElem?_cons_succ, List.getElem?_cons_zero] at d1
  go_wp2_with fail
  go_loop [9, 41] (fun u i => ∃ k u0 : Nat, k ≤ q ∧ i = .int .i64 k ∧ u = .int .u64 u0 ∧ Hid (u0 = accU (turnB L) k)) (fun _ i => q - (intOf i).toNat)
  case atStart => exact ⟨0, 0, by omega, rfl, rfl, Lib.hid (by simp [accU, accN])⟩
  case round =>
    obtain ⟨k, u0, hk, rfl, rfl, HU⟩ := hrel
    by_cases hlt : k < q
    · have a1 := (HR2.out k hlt).1
      have hbl := getD_lt256 _ (packN_lt (turnB L)) k
      generalize hx : (packN (turnB L)).getD k 0 = x at a1 hbl
      have HXx := Lib.hid hx
      clear hx
      have hlt' : (k : Int) < (q : Int) := by omega
      go_wp2_with fail
      go_round
      case rel => exact ⟨k + 1, accU (turnB L) (k + 1), by omega, by go_num, by rw [acc_step (turnB L) k x u0 (by omega) HU.out HXx.out], Lib.hid rfl⟩
      case measure => simp only [intOf]; omega
    · obtain rfl : k = q := by omega
      have hlt' : ¬ (k : Int) < (k : Int) := by omega
      have hd := acc_div (turnB L) k u0 (by rw [HN.out]; omega) (by rw [HN.out]; exact HQ.out) HU.out
      have hfin := getV_u (turnB L) (by rw [HN.out]; omega) (by rw [HN.out]; omega)
      rw [HN.out] at hd
      rw [← hd] at hfin
      have HY := Lib.hid (fun h : 9223372036854775807 < (u0 : Int) / 2 ^ (64 - N) => show getRet (getV (turnB L) false) = .returned (.tuple #[.int .i64 0, .int .i64 7]) by rw [hfin, if_pos h]; rfl)
      have HNo := Lib.hid (fun h : ¬ 9223372036854775807 < (u0 : Int) / 2 ^ (64 - N) => show getRet (getV (turnB L) false) = .returned (.tuple #[.int .i64 (wrap64 ((u0 : Int) / 2 ^ (64 - N))), .int .i64 0]) by rw [hfin, if_neg h]; rfl)
      clear hd hfin
      go_wp2_with fail
      all_goals
        go_ret2
        first
          | exact ⟨(HY.out (by assumption)).symm, HB2.out⟩
          | exact ⟨(HNo.out (by omega)).symm, HB2.out⟩
set_option maxHeartbeats 4000000 in
theorem Get_tt (L : List Bool) (N q : Nat) (hN : L.length = N) (h1 : 1 ≤ N) (h64 : N ≤ 64) (hq : q = (N + 7) / 8) (h8 : N % 8 = 0) (w : World) :
    Calls Try.prog 30 #[.agg #[.string (packS L), .int .i64 N], .bool true, .bool true] w fun e w' => e = getRet (getV (turnB L) true) ∧ Below w.heap.size w w' := by
  have hV := fun W => Valid_any (packS L) N (by rw [packS_size, maxLen_val]; omega) (by omega) (by omega) W
  rw [← hN, pack_valid L, hN] at hV
  obtain ⟨F, C, hF, HF⟩ := conv_bytes L
  have hsz : (packS L).size = q := by rw [packS_size, hN, hq]
  rw [hsz] at hF HF
  have HV := Lib.hid hV
  have HN := Lib.hid (show (turnB L).length = N by simpa using hN)
  have hq8 : q ≤ 8 := by omega
  have HQ := Lib.hid hq
  have hne : ((N : Int) == 0) = false := by simp; omega
  have hle : ¬ (64 : Int) < (N : Int) := by omega
  have h8i : ((N : Int) % 8 != 0) = false := by simp; omega
  have H8 := Lib.hid h8
  clear h8
  generalize packS L = s at *
  clear hV hN hq hsz
  go_enter Try.func30, Try.ntmps30
  go_wp2_with fail
  refine (HV.out _).mono ?_
  rintro e w1 ⟨rfl, hb1⟩
  have hz1 := hb1.size
  simp at hz1
  have HX1 := Lib.hid (keepB hb1 (new1_0 _ _))
  have HB1 := Lib.hid (bstep (below_alloc _ _) hb1)
  obtain ⟨hF1, hF2, hF3⟩ := HF.out w1
  have HXF := Lib.hid (keepB hF1 HX1.out)
  have HBF := Lib.hid (bstep HB1.out hF1)
  have HRF := Lib.hid hF3
  have c1 := cells_of HX1.out 1
  have c0 := cells_of HX1.out 0
  have d1 := cells_of HXF.out 1
  simp only [List.getElem?_toArray, List.getElem?_cons_succ, List.getElem?_cons_zero] at c0 c1 d1
  have hg : w.heap.size < w1.heap.size := by omega
  clear hb1 hF1 hF3
  go_wp2_with fail
  all_goals (try (exfalso; omega))
  refine (turn2_any w1.heap.size _ (packN L) q (by rw [packN_length]; have := HN.out; have := HQ.out; simp at *; omega) (by omega) _ HRF.out).mono ?_
  rintro e w2 ⟨rfl, hr2, hg2⟩
  rw [packN_turn L (N / 8) (by have := HN.out; have := H8.out; simp at *; omega)] at hr2
  have HR2 := Lib.hid hr2
  have HX2 := Lib.hid ((hg2.block w.heap.size (by omega) (by intro e; injection e; omega)).trans HXF.out)
  have HB2 := Lib.hid (HBF.out.grown hg2 HBF.out.size (fun k hk => by injection hk; omega))
  clear hr2 hg2 hF2 d1
  have d1 := cells_of HX2.out 1
  simp only [List.getElem?_toArray, List.getElem?_cons_succ, List.getElem?_cons_zero] at d1
  go_wp2_with fail
  go_loop [9, 41] (fun u i => ∃ k u0 : Nat, k ≤ q ∧ i = .int .i64 k ∧ u = .int .u64 u0 ∧ Hid (u0 = accU (turnB L) k)) (fun _ i => q - (intOf i).toNat)
  case atStart => exact ⟨0, 0, by omega, rfl, rfl, Lib.hid (by simp [accU, accN])⟩
  case round =>
    obtain ⟨k, u0, hk, rfl, rfl, HU⟩ := hrel
    by_cases hlt : k < q
    · have a1 := (HR2.out k hlt).1
      have hbl := getD_lt256 _ (packN_lt (turnB L)) k
      generalize hx : (packN (turnB L)).getD k 0 = x at a1 hbl
      have HXx := Lib.hid hx
      clear hx
      have hlt' : (k : Int) < (q : Int) := by omega
      go_wp2_with fail
      go_round
      case rel => exact ⟨k + 1, accU (turnB L) (k + 1), by omega, by go_num, by rw [acc_step (turnB L) k x u0 (by omega) HU.out HXx.out], Lib.hid rfl⟩
      case measure => simp only [intOf]; omega
    · obtain rfl : k = q := by omega
      have hlt' : ¬ (k : Int) < (k : Int) := by omega
      have hfin := Lib.hid (show getRet (getV (turnB L) true) = .returned (.tuple #[.int .i64 (wrap64 (u0 : Int) / 2 ^ (64 - N)), .int .i64 0]) by
        unfold getRet; rw [getV_s2, HU.out, HQ.out, ← HN.out, getV_s (turnB L) (by rw [HN.out]; omega) (by rw [HN.out]; omega)])
      go_wp2_with fail
      go_ret2
      exact ⟨hfin.out.symm, HB2.out⟩
theorem getBad_iff {s : ByteArray} {n : Int} {little : Bool} : getBad s n little = true ↔ validB s n = false ∨ (validB s n = true ∧ 64 < n) ∨ (validB s n = true ∧ ¬ 64 < n ∧ little = true ∧ ¬ n % 8 = 0) := by
  unfold getBad
  cases validB s n <;> cases little <;> by_cases h1 : 64 < n <;> by_cases h2 : n % 8 = 0 <;> simp [h1, h2]
set_option maxHeartbeats 1000000 in
theorem Get_bad (s : ByteArray) (n : Int) (signed little : Bool) (hs : s.size ≤ maxLen) (hn : i64ok n) (hb : getBad s n little = true) (w : World) :
    Calls Try.prog 30 #[.agg #[.string s, .int .i64 n], .bool signed, .bool little] w fun e w' => e = .returned (.tuple #[.int .i64 0, .int .i64 2]) ∧ Below w.heap.size w w' := by
  have hV := fun W => Valid_any s n hs hn.1 hn.2 W
  rcases getBad_iff.1 hb with h | ⟨h, h1⟩ | ⟨h, h1, rfl, h2⟩
  · rw [h] at hV
    have HV := Lib.hid hV
    clear hV hb h
    go_enter Try.func30, Try.ntmps30
    go_wp2_with fail
    refine (HV.out _).mono ?_
    rintro e w1 ⟨rfl, hb1⟩
    have HB1 := Lib.hid (bstep (below_alloc _ _) hb1)
    go_wp2_with fail
    go_ret2
    exact ⟨rfl, HB1.out⟩
  · rw [h] at hV
    have HV := Lib.hid hV
    clear hV hb h
    go_enter Try.func30, Try.ntmps30
    go_wp2_with fail
    refine (HV.out _).mono ?_
    rintro e w1 ⟨rfl, hb1⟩
    have HX1 := Lib.hid (keepB hb1 (new1_0 _ _))
    have HB1 := Lib.hid (bstep (below_alloc _ _) hb1)
    have c1 := cells_of HX1.out 1
    simp only [List.getElem?_toArray, List.getElem?_cons_succ, List.getElem?_cons_zero] at c1
    go_wp2_with fail
    all_goals (try (exfalso; omega))
    go_ret2
    exact ⟨rfl, HB1.out⟩
  · have h0 : 0 ≤ n := (valid_size h).1
    rw [h] at hV
    have HV := Lib.hid hV
    have h8 : (n % 8 != 0) = true := by simpa using h2
    clear hV hb h h2
    go_enter Try.func30, Try.ntmps30
    go_wp2_with fail
    refine (HV.out _).mono ?_
    rintro e w1 ⟨rfl, hb1⟩
    have HX1 := Lib.hid (keepB hb1 (new1_0 _ _))
    have HB1 := Lib.hid (bstep (below_alloc _ _) hb1)
    have c1 := cells_of HX1.out 1
    simp only [List.getElem?_toArray, List.getElem?_cons_succ, List.getElem?_cons_zero] at c1
    go_wp2_with fail
    all_goals (try (exfalso; omega))
    all_goals
      go_ret2
      exact ⟨rfl, HB1.out⟩
set_option maxHeartbeats 1000000 in
theorem Get_zero (s : ByteArray) (signed little : Bool) (hs : s.size ≤ maxLen) (h : validB s 0 = true) (w : World) :
    Calls Try.prog 30 #[.agg #[.string s, .int .i64 0], .bool signed, .bool little] w fun e w' => e = .returned (.tuple #[.int .i64 0, .int .i64 0]) ∧ Below w.heap.size w w' := by
  have hV := fun W => Valid_any s 0 hs (by omega) (by omega) W
  rw [h] at hV
  have HV := Lib.hid hV
  clear hV h
  cases little
  all_goals
    go_enter Try.func30, Try.ntmps30
    go_wp2_with fail
    refine (HV.out _).mono ?_
    rintro e w1 ⟨rfl, hb1⟩
    have HX1 := Lib.hid (keepB hb1 (new1_0 _ _))
    have HB1 := Lib.hid (bstep (below_alloc _ _) hb1)
    have c1 := cells_of HX1.out 1
    simp only [List.getElem?_toArray, List.getElem?_cons_succ, List.getElem?_cons_zero] at c1
    go_wp2_with fail
    all_goals (try (exfalso; omega))
    go_ret2
    exact ⟨rfl, HB1.out⟩
theorem getV_nil (signed : Bool) : getV [] signed = (0, 0) := by cases signed <;> rfl
theorem getR_good {s : ByteArray} {n : Int} {signed little : Bool} (hb : ¬ getBad s n little = true) : validB s n = true ∧ n ≤ 64 ∧ (little = true → n % 8 = 0) ∧ 0 ≤ n ∧ getR s n signed little = getV (endB little (bitsB s 0 n.toNat)) signed := by
  have h := mt getBad_iff.2 hb
  have hv : validB s n = true := by cases hh : validB s n <;> simp_all
  refine ⟨hv, ?_, ?_, (valid_size hv).1, by unfold getR; rw [if_neg hb]⟩
  · rcases Int.lt_or_le 64 n with h1 | h1
    · exact absurd (.inr (.inl ⟨hv, h1⟩)) h
    · exact h1
  · intro hl
    by_cases h8 : n % 8 = 0
    · exact h8
    · refine absurd (.inr ?_) h
      by_cases h1 : 64 < n
      · exact .inl ⟨hv, h1⟩
      · exact .inr ⟨hv, h1, hl, h8⟩
theorem Get_any (s : ByteArray) (n : Int) (signed little : Bool) (hs : s.size ≤ maxLen) (hn : i64ok n) (w : World) :
    Calls Try.prog 30 #[.agg #[.string s, .int .i64 n], .bool signed, .bool little] w fun e w' => e = getRet (getR s n signed little) ∧ Below w.heap.size w w' := by
  by_cases hb : getBad s n little = true
  · rw [show getR s n signed little = (0, 2) by unfold getR; rw [if_pos hb]]
    exact Get_bad s n signed little hs hn hb w
  · obtain ⟨hv, h64, h8, h0, e⟩ := getR_good (signed := signed) hb
    rw [e]
    by_cases hz : n = 0
    · subst hz
      have e2 : endB little (bitsB s 0 (0 : Int).toNat) = [] := List.eq_nil_of_length_eq_zero (by simp)
      rw [e2, getV_nil]
      exact Get_zero s signed little hs hv w
    · obtain ⟨N, rfl⟩ := Int.eq_ofNat_of_zero_le h0
      have hp := valid_pack hv
      rw [Int.toNat_natCast] at hp ⊢
      have hl : (bitsB s 0 N).length = N := by simp
      generalize bitsB s 0 N = L at *
      rw [← hp]
      have h1 : 1 ≤ N := by omega
      have h64' : N ≤ 64 := by omega
      cases little <;> cases signed
      · exact Get_ff L N _ hl h1 h64' rfl w
      · exact Get_tf L N _ hl h1 h64' rfl w
      · exact Get_ft L N _ hl h1 h64' rfl (by have := h8 rfl; omega) w
      · exact Get_tt L N _ hl h1 h64' rfl (by have := h8 rfl; omega) w
end Go.Proofs.Ytdgjbejbbmnhbaa
