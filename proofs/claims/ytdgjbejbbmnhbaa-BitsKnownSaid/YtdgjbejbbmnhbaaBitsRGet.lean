/-
  Walks: the reference's GetInt.
-/
import Derived.Test.YtdgjbejbbmnhbaaBitsGet
namespace Go.Proofs.Ytdgjbejbbmnhbaa
open Go.RowKit Go.Proofs.BitsM
theorem u64_wrap_small (x : Nat) (h : x < 2 ^ 64) : IntKind.u64.wrap (x : Int) = x := by
  simp [IntKind.wrap, IntKind.bits, IntKind.signed]; omega
theorem acc_bit (M : List Bool) (k x u0 : Nat) (hk : k < 64) (hu : u0 = accN M 0 k) (hx : (M.getD k false).toNat = x) : IntKind.u64.wrap (IntKind.u64.wrap (2 * (u0 : Int)) + (x : Int)) = ((accN M 0 (k + 1) : Nat) : Int) := by
  have h := accN_lt M 0 (k + 1)
  have h2 : 2 ^ (k + 1) ≤ 2 ^ 64 := Nat.pow_le_pow_right (by omega) (by omega)
  have e : ((2 * u0 : Nat) : Int) + (x : Int) = ((accN M 0 (k + 1) : Nat) : Int) := by rw [accN, hu, ← hx, Nat.zero_add]; simp
  have hk0 := accN_lt M 0 k
  have h3 : 2 * 2 ^ k ≤ 2 ^ 64 := by rw [Nat.pow_succ] at h2; omega
  rw [show 2 * (u0 : Int) = ((2 * u0 : Nat) : Int) by simp, u64_wrap_small (2 * u0) (by omega), e, u64_wrap_small _ (by omega)]
theorem add_bit (u1 u0 k j : Nat) (hu : u0 < 2 ^ k) (hj : j < 64) (h : u1 + 2 ^ k = u0 + 2 ^ j) : IntKind.u64.wrap ((u1 : Int) + IntKind.u64.wrap (2 ^ j)) = ((u1 + 2 ^ j : Nat) : Int) := by
  have h2 : 2 ^ (j + 1) ≤ 2 ^ 64 := Nat.pow_le_pow_right (by omega) (by omega)
  rw [Nat.pow_succ] at h2
  have e : (2 : Int) ^ j = ((2 ^ j : Nat) : Int) := by simp
  rw [e, u64_wrap_small _ (by omega)]
  have e2 : (u1 : Int) + ((2 ^ j : Nat) : Int) = ((u1 + 2 ^ j : Nat) : Int) := by simp
  rw [e2, u64_wrap_small _ (by omega)]
theorem getV_sh (M : List Bool) (N : Nat) (hM : M.length = N) (h1 : 1 ≤ N) (h64 : N ≤ 64) (hb : M.getD 0 false = true) : getV M true = ((accN M 0 N : Int) - 2 ^ N, 0) ∧ 2 ^ (N - 1) ≤ accN M 0 N := by
  subst hM
  refine ⟨by unfold getV; rw [if_pos rfl, if_pos hb]; rfl, ?_⟩
  obtain ⟨n, hn⟩ : ∃ n, M.length = n + 1 := ⟨M.length - 1, by omega⟩
  have := (high_iff M n hn).1 hb
  rw [show M.length - 1 = n by omega]
  exact this
theorem getV_sh2 (u0 u1 N : Nat) (h : u1 + 2 ^ N = u0 + 2 ^ 64) (hu : u0 < 2 ^ N) (h1 : 1 ≤ N) (h64 : N ≤ 64) (hv : 2 ^ (N - 1) ≤ u0) : ((u0 : Int) - 2 ^ N) = wrap64 (u1 : Int) := by
  obtain ⟨n, rfl⟩ : ∃ n, N = n + 1 := ⟨N - 1, by omega⟩
  have hle2 : (2 : Nat) ^ n ≤ 2 ^ 63 := Nat.pow_le_pow_right (by omega) (by omega)
  have hpow2 : (2 : Int) ^ (n + 1) = ((2 ^ (n + 1) : Nat) : Int) := by simp
  rw [hpow2]
  rw [show n + 1 - 1 = n by omega] at hv
  rw [Nat.pow_succ] at *
  generalize (2 : Nat) ^ n = B at *
  unfold wrap64
  omega
theorem getV_sl (M : List Bool) (N : Nat) (hM : M.length = N) (h1 : 1 ≤ N) (h64 : N ≤ 64) (hb : M.getD 0 false = false) : getV M true = (wrap64 (accN M 0 N : Int), 0) := by
  subst hM
  have := val_small M h1 h64 (fun e => by rw [hb] at e; cases e.2)
  unfold getV
  rw [if_pos rfl, if_neg (by rw [hb]; decide)]
  show ((valN M : Int), (0 : Int)) = (wrap64 (valN M : Int), 0)
  rw [this]
theorem getV_un (M : List Bool) (N : Nat) (hM : M.length = N) (h1 : 1 ≤ N) (h64 : N ≤ 64) (hi : Bool) (hb : M.getD 0 false = hi) : getV M false = if N = 64 ∧ hi = true then (0, 7) else (wrap64 (accN M 0 N : Int), 0) := by
  subst hM hb
  unfold getV
  rw [if_neg (by decide)]
  by_cases hr : M.length = 64 ∧ M.getD 0 false = true
  · rw [if_pos hr, if_pos hr]
  · rw [if_neg hr, if_neg hr]
    show ((valN M : Int), (0 : Int)) = (wrap64 (valN M : Int), 0)
    rw [val_small M h1 h64 hr]
set_option maxHeartbeats 4000000 in
theorem rGet_ffz (L : List Bool) (N : Nat) (hN : L.length = N) (h64 : N ≤ 64) (h0 : N = 0) (w : World) :
    Calls Try.prog 31 #[.agg #[.string (packS L), .int .i64 N], .bool false, .bool false] w fun e w' => e = getRet (getV L false) ∧ Below w.heap.size w w' := by
  have hV := fun W => rValid_any (packS L) N (by rw [packS_size, maxLen_val]; omega) (by omega) (by omega) W
  rw [← hN, pack_valid L, hN] at hV
  have hLs := fun W => List_any (packS L) N (by rw [packS_size]; omega) (by rw [packS_size]; omega) W
  have hall := bitsB_all L
  rw [hN] at hall
  rw [hall] at hLs
  have hMl : L.length = N := by simpa using hN
  have hfin : getV L false = (0, 0) := by
    have : L = [] := List.eq_nil_of_length_eq_zero (by omega)
    rw [this]; exact getV_nil _
  have HFin := Lib.hid hfin
  have HV := Lib.hid hV
  have HLs := Lib.hid hLs
  have HM := Lib.hid hMl
  have HN := Lib.hid hN
  have hle : ¬ (64 : Int) < (N : Int) := by omega
  subst h0
  generalize packS L = s at *
  clear hV hLs hall hMl hfin hN
  go_enter Try.func31, Try.ntmps31
  go_wp2_with fail
  refine (HV.out _).mono ?_
  rintro e w1 ⟨rfl, hb1⟩
  have HX1 := Lib.hid (keepB hb1 (new1_0 _ _))
  have HB1 := Lib.hid (bstep (below_alloc _ _) hb1)
  have c1 := cells_of HX1.out 1
  have c0 := cells_of HX1.out 0
  simp only [List.getElem?_toArray, List.getElem?_cons_succ, List.getElem?_cons_zero] at c0 c1
  clear hb1
  go_wp2_with fail
  all_goals (try (exfalso; omega))
  refine (HLs.out _).mono ?_
  rintro e w2 ⟨v2, rfl, ho2, hb2⟩
  have HB2 := Lib.hid (bstep HB1.out hb2)
  have HO2 := Lib.hid ho2
  clear hb2 ho2
  obtain ⟨ao, cap, rfl, -, -, -⟩ := own_shape2 HO2.out
  go_wp2_with fail
  go_loop [9, 10] (fun u i => i = .int .i64 0 ∧ u = .int .u64 0) (fun _ i => 1)
  case atStart => exact ⟨rfl, rfl⟩
  case round =>
    obtain ⟨rfl, rfl⟩ := hrel
    go_wp2_with fail
    go_ret2
    exact ⟨by rw [HFin.out]; rfl, HB2.out⟩
set_option maxHeartbeats 4000000 in
theorem rGet_fff (L : List Bool) (N : Nat) (hN : L.length = N) (h64 : N ≤ 64) (h1 : 1 ≤ N) (hbit : L.getD 0 false = false) (w : World) :
    Calls Try.prog 31 #[.agg #[.string (packS L), .int .i64 N], .bool false, .bool false] w fun e w' => e = getRet (getV L false) ∧ Below w.heap.size w w' := by
  have hV := fun W => rValid_any (packS L) N (by rw [packS_size, maxLen_val]; omega) (by omega) (by omega) W
  rw [← hN, pack_valid L, hN] at hV
  have hLs := fun W => List_any (packS L) N (by rw [packS_size]; omega) (by rw [packS_size]; omega) W
  have hall := bitsB_all L
  rw [hN] at hall
  rw [hall] at hLs
  have hMl : L.length = N := by simpa using hN
  have hfin := getV_un L N hMl h1 h64 false hbit
  have HFin := Lib.hid hfin
  have HV := Lib.hid hV
  have HLs := Lib.hid hLs
  have HM := Lib.hid hMl
  have HN := Lib.hid hN
  have hle : ¬ (64 : Int) < (N : Int) := by omega
  have HBit := Lib.hid hbit
  clear hbit
  generalize packS L = s at *
  clear hV hLs hall hMl hfin hN
  go_enter Try.func31, Try.ntmps31
  go_wp2_with fail
  refine (HV.out _).mono ?_
  rintro e w1 ⟨rfl, hb1⟩
  have HX1 := Lib.hid (keepB hb1 (new1_0 _ _))
  have HB1 := Lib.hid (bstep (below_alloc _ _) hb1)
  have c1 := cells_of HX1.out 1
  have c0 := cells_of HX1.out 0
  simp only [List.getElem?_toArray, List.getElem?_cons_succ, List.getElem?_cons_zero] at c0 c1
  clear hb1
  go_wp2_with fail
  all_goals (try (exfalso; omega))
  refine (HLs.out _).mono ?_
  rintro e w2 ⟨v2, rfl, ho2, hb2⟩
  have HB2 := Lib.hid (bstep HB1.out hb2)
  have HO2 := Lib.hid ho2
  clear hb2 ho2
  obtain ⟨ao, cap, rfl, -, -, hao⟩ := own_shape2 HO2.out
  obtain ⟨g, rfl, -⟩ := hao (by omega)
  clear hao
  have hc : Hid (∀ i, i < N → w2.cell? ⟨g, i, none⟩ = some (.int .i64 ((L.getD i false).toNat : Nat))) := Lib.hid fun i hi => by
    rw [own_cell HO2.out i hi]
    simp only [b01, List.map_map, List.getElem?_map]
    rw [List.getElem?_eq_getElem (by rw [HM.out]; exact hi)]
    simp only [Option.map_some, Function.comp, List.getD, List.getElem?_eq_getElem (show i < L.length by rw [HM.out]; exact hi), Option.getD_some]
  have ch := hc.out 0 (by omega)
  rw [HBit.out] at ch
  simp only [Bool.toNat_false] at ch
  go_wp2_with fail
  go_loop [9, 10] (fun u i => ∃ k u0 : Nat, k ≤ N ∧ i = .int .i64 k ∧ u = .int .u64 u0 ∧ Hid (u0 = accN L 0 k)) (fun _ i => N - (intOf i).toNat)
  case atStart => exact ⟨0, 0, by omega, rfl, rfl, Lib.hid rfl⟩
  case round =>
    obtain ⟨k, u0, hk, rfl, rfl, HU⟩ := hrel
    by_cases hlt : k < N
    · have a1 := hc.out k hlt
      have hb1 : (L.getD k false).toNat ≤ 1 := by cases L.getD k false <;> simp
      generalize hx : (L.getD k false).toNat = x at a1 hb1
      have HXx := Lib.hid hx
      clear hx ch
      have hlt' : (k : Int) < (N : Int) := by omega
      go_wp2_with fail
      go_round
      case rel => exact ⟨k + 1, accN L 0 (k + 1), by omega, by go_num, by rw [acc_bit L k x u0 (by omega) HU.out HXx.out], Lib.hid rfl⟩
      case measure => simp only [intOf]; omega
    · obtain rfl : k = N := by omega
      have hlt' : ¬ (k : Int) < (k : Int) := by omega
      have hpos : (0 : Int) < (k : Int) := by omega
      go_wp2_with fail
      go_ret2
      exact ⟨by rw [HFin.out, if_neg (fun e => by cases e.2), HU.out]; rfl, HB2.out⟩
set_option maxHeartbeats 4000000 in
theorem rGet_fft (L : List Bool) (N : Nat) (hN : L.length = N) (h64 : N ≤ 64) (h1 : 1 ≤ N) (hbit : L.getD 0 false = true) (w : World) :
    Calls Try.prog 31 #[.agg #[.string (packS L), .int .i64 N], .bool false, .bool false] w fun e w' => e = getRet (getV L false) ∧ Below w.heap.size w w' := by
  have hV := fun W => rValid_any (packS L) N (by rw [packS_size, maxLen_val]; omega) (by omega) (by omega) W
  rw [← hN, pack_valid L, hN] at hV
  have hLs := fun W => List_any (packS L) N (by rw [packS_size]; omega) (by rw [packS_size]; omega) W
  have hall := bitsB_all L
  rw [hN] at hall
  rw [hall] at hLs
  have hMl : L.length = N := by simpa using hN
  have hfin := getV_un L N hMl h1 h64 true hbit
  have HFin := Lib.hid hfin
  have HV := Lib.hid hV
  have HLs := Lib.hid hLs
  have HM := Lib.hid hMl
  have HN := Lib.hid hN
  have hle : ¬ (64 : Int) < (N : Int) := by omega
  have HBit := Lib.hid hbit
  clear hbit
  generalize packS L = s at *
  clear hV hLs hall hMl hfin hN
  go_enter Try.func31, Try.ntmps31
  go_wp2_with fail
  refine (HV.out _).mono ?_
  rintro e w1 ⟨rfl, hb1⟩
  have HX1 := Lib.hid (keepB hb1 (new1_0 _ _))
  have HB1 := Lib.hid (bstep (below_alloc _ _) hb1)
  have c1 := cells_of HX1.out 1
  have c0 := cells_of HX1.out 0
  simp only [List.getElem?_toArray, List.getElem?_cons_succ, List.getElem?_cons_zero] at c0 c1
  clear hb1
  go_wp2_with fail
  all_goals (try (exfalso; omega))
  refine (HLs.out _).mono ?_
  rintro e w2 ⟨v2, rfl, ho2, hb2⟩
  have HB2 := Lib.hid (bstep HB1.out hb2)
  have HO2 := Lib.hid ho2
  clear hb2 ho2
  obtain ⟨ao, cap, rfl, -, -, hao⟩ := own_shape2 HO2.out
  obtain ⟨g, rfl, -⟩ := hao (by omega)
  clear hao
  have hc : Hid (∀ i, i < N → w2.cell? ⟨g, i, none⟩ = some (.int .i64 ((L.getD i false).toNat : Nat))) := Lib.hid fun i hi => by
    rw [own_cell HO2.out i hi]
    simp only [b01, List.map_map, List.getElem?_map]
    rw [List.getElem?_eq_getElem (by rw [HM.out]; exact hi)]
    simp only [Option.map_some, Function.comp, List.getD, List.getElem?_eq_getElem (show i < L.length by rw [HM.out]; exact hi), Option.getD_some]
  have ch := hc.out 0 (by omega)
  rw [HBit.out] at ch
  simp only [Bool.toNat_true] at ch
  go_wp2_with fail
  go_loop [9, 10] (fun u i => ∃ k u0 : Nat, k ≤ N ∧ i = .int .i64 k ∧ u = .int .u64 u0 ∧ Hid (u0 = accN L 0 k)) (fun _ i => N - (intOf i).toNat)
  case atStart => exact ⟨0, 0, by omega, rfl, rfl, Lib.hid rfl⟩
  case round =>
    obtain ⟨k, u0, hk, rfl, rfl, HU⟩ := hrel
    by_cases hlt : k < N
    · have a1 := hc.out k hlt
      have hb1 : (L.getD k false).toNat ≤ 1 := by cases L.getD k false <;> simp
      generalize hx : (L.getD k false).toNat = x at a1 hb1
      have HXx := Lib.hid hx
      clear hx ch
      have hlt' : (k : Int) < (N : Int) := by omega
      go_wp2_with fail
      go_round
      case rel => exact ⟨k + 1, accN L 0 (k + 1), by omega, by go_num, by rw [acc_bit L k x u0 (by omega) HU.out HXx.out], Lib.hid rfl⟩
      case measure => simp only [intOf]; omega
    · obtain rfl : k = N := by omega
      have hlt' : ¬ (k : Int) < (k : Int) := by omega
      have hpos : (0 : Int) < (k : Int) := by omega
      by_cases h6 : k = 64
      · subst h6
        go_wp2_with fail
        go_ret2
        exact ⟨by rw [HFin.out]; rfl, HB2.out⟩
      · have h6' : ((k : Int) == 64) = false := by simp; omega
        have HK := Lib.hid h6
        clear h6
        go_wp2_with fail
        go_ret2
        exact ⟨by rw [HFin.out, if_neg (fun e => HK.out e.1), HU.out]; rfl, HB2.out⟩
set_option maxHeartbeats 4000000 in
theorem rGet_ftz (L : List Bool) (N : Nat) (hN : L.length = N) (h64 : N ≤ 64) (h0 : N = 0) (w : World) :
    Calls Try.prog 31 #[.agg #[.string (packS L), .int .i64 N], .bool true, .bool false] w fun e w' => e = getRet (getV L true) ∧ Below w.heap.size w w' := by
  have hV := fun W => rValid_any (packS L) N (by rw [packS_size, maxLen_val]; omega) (by omega) (by omega) W
  rw [← hN, pack_valid L, hN] at hV
  have hLs := fun W => List_any (packS L) N (by rw [packS_size]; omega) (by rw [packS_size]; omega) W
  have hall := bitsB_all L
  rw [hN] at hall
  rw [hall] at hLs
  have hMl : L.length = N := by simpa using hN
  have hfin : getV L true = (0, 0) := by
    have : L = [] := List.eq_nil_of_length_eq_zero (by omega)
    rw [this]; exact getV_nil _
  have HFin := Lib.hid hfin
  have HV := Lib.hid hV
  have HLs := Lib.hid hLs
  have HM := Lib.hid hMl
  have HN := Lib.hid hN
  have hle : ¬ (64 : Int) < (N : Int) := by omega
  subst h0
  generalize packS L = s at *
  clear hV hLs hall hMl hfin hN
  go_enter Try.func31, Try.ntmps31
  go_wp2_with fail
  refine (HV.out _).mono ?_
  rintro e w1 ⟨rfl, hb1⟩
  have HX1 := Lib.hid (keepB hb1 (new1_0 _ _))
  have HB1 := Lib.hid (bstep (below_alloc _ _) hb1)
  have c1 := cells_of HX1.out 1
  have c0 := cells_of HX1.out 0
  simp only [List.getElem?_toArray, List.getElem?_cons_succ, List.getElem?_cons_zero] at c0 c1
  clear hb1
  go_wp2_with fail
  all_goals (try (exfalso; omega))
  refine (HLs.out _).mono ?_
  rintro e w2 ⟨v2, rfl, ho2, hb2⟩
  have HB2 := Lib.hid (bstep HB1.out hb2)
  have HO2 := Lib.hid ho2
  clear hb2 ho2
  obtain ⟨ao, cap, rfl, -, -, -⟩ := own_shape2 HO2.out
  go_wp2_with fail
  go_loop [9, 10] (fun u i => i = .int .i64 0 ∧ u = .int .u64 0) (fun _ i => 1)
  case atStart => exact ⟨rfl, rfl⟩
  case round =>
    obtain ⟨rfl, rfl⟩ := hrel
    go_wp2_with fail
    go_ret2
    exact ⟨by rw [HFin.out]; rfl, HB2.out⟩
set_option maxHeartbeats 4000000 in
theorem rGet_ftf (L : List Bool) (N : Nat) (hN : L.length = N) (h64 : N ≤ 64) (h1 : 1 ≤ N) (hbit : L.getD 0 false = false) (w : World) :
    Calls Try.prog 31 #[.agg #[.string (packS L), .int .i64 N], .bool true, .bool false] w fun e w' => e = getRet (getV L true) ∧ Below w.heap.size w w' := by
  have hV := fun W => rValid_any (packS L) N (by rw [packS_size, maxLen_val]; omega) (by omega) (by omega) W
  rw [← hN, pack_valid L, hN] at hV
  have hLs := fun W => List_any (packS L) N (by rw [packS_size]; omega) (by rw [packS_size]; omega) W
  have hall := bitsB_all L
  rw [hN] at hall
  rw [hall] at hLs
  have hMl : L.length = N := by simpa using hN
  have hfin := getV_sl L N hMl h1 h64 hbit
  have HFin := Lib.hid hfin
  have HV := Lib.hid hV
  have HLs := Lib.hid hLs
  have HM := Lib.hid hMl
  have HN := Lib.hid hN
  have hle : ¬ (64 : Int) < (N : Int) := by omega
  have HBit := Lib.hid hbit
  clear hbit
  generalize packS L = s at *
  clear hV hLs hall hMl hfin hN
  go_enter Try.func31, Try.ntmps31
  go_wp2_with fail
  refine (HV.out _).mono ?_
  rintro e w1 ⟨rfl, hb1⟩
  have HX1 := Lib.hid (keepB hb1 (new1_0 _ _))
  have HB1 := Lib.hid (bstep (below_alloc _ _) hb1)
  have c1 := cells_of HX1.out 1
  have c0 := cells_of HX1.out 0
  simp only [List.getElem?_toArray, List.getElem?_cons_succ, List.getElem?_cons_zero] at c0 c1
  clear hb1
  go_wp2_with fail
  all_goals (try (exfalso; omega))
  refine (HLs.out _).mono ?_
  rintro e w2 ⟨v2, rfl, ho2, hb2⟩
  have HB2 := Lib.hid (bstep HB1.out hb2)
  have HO2 := Lib.hid ho2
  clear hb2 ho2
  obtain ⟨ao, cap, rfl, -, -, hao⟩ := own_shape2 HO2.out
  obtain ⟨g, rfl, -⟩ := hao (by omega)
  clear hao
  have hc : Hid (∀ i, i < N → w2.cell? ⟨g, i, none⟩ = some (.int .i64 ((L.getD i false).toNat : Nat))) := Lib.hid fun i hi => by
    rw [own_cell HO2.out i hi]
    simp only [b01, List.map_map, List.getElem?_map]
    rw [List.getElem?_eq_getElem (by rw [HM.out]; exact hi)]
    simp only [Option.map_some, Function.comp, List.getD, List.getElem?_eq_getElem (show i < L.length by rw [HM.out]; exact hi), Option.getD_some]
  have ch := hc.out 0 (by omega)
  rw [HBit.out] at ch
  simp only [Bool.toNat_false] at ch
  go_wp2_with fail
  go_loop [9, 10] (fun u i => ∃ k u0 : Nat, k ≤ N ∧ i = .int .i64 k ∧ u = .int .u64 u0 ∧ Hid (u0 = accN L 0 k)) (fun _ i => N - (intOf i).toNat)
  case atStart => exact ⟨0, 0, by omega, rfl, rfl, Lib.hid rfl⟩
  case round =>
    obtain ⟨k, u0, hk, rfl, rfl, HU⟩ := hrel
    by_cases hlt : k < N
    · have a1 := hc.out k hlt
      have hb1 : (L.getD k false).toNat ≤ 1 := by cases L.getD k false <;> simp
      generalize hx : (L.getD k false).toNat = x at a1 hb1
      have HXx := Lib.hid hx
      clear hx ch
      have hlt' : (k : Int) < (N : Int) := by omega
      go_wp2_with fail
      go_round
      case rel => exact ⟨k + 1, accN L 0 (k + 1), by omega, by go_num, by rw [acc_bit L k x u0 (by omega) HU.out HXx.out], Lib.hid rfl⟩
      case measure => simp only [intOf]; omega
    · obtain rfl : k = N := by omega
      have hlt' : ¬ (k : Int) < (k : Int) := by omega
      have hpos : (0 : Int) < (k : Int) := by omega
      go_wp2_with fail
      go_ret2
      exact ⟨by rw [HFin.out, HU.out]; rfl, HB2.out⟩
set_option maxHeartbeats 4000000 in
theorem rGet_ftt (L : List Bool) (N : Nat) (hN : L.length = N) (h64 : N ≤ 64) (h1 : 1 ≤ N) (hbit : L.getD 0 false = true) (w : World) :
    Calls Try.prog 31 #[.agg #[.string (packS L), .int .i64 N], .bool true, .bool false] w fun e w' => e = getRet (getV L true) ∧ Below w.heap.size w w' := by
  have hV := fun W => rValid_any (packS L) N (by rw [packS_size, maxLen_val]; omega) (by omega) (by omega) W
  rw [← hN, pack_valid L, hN] at hV
  have hLs := fun W => List_any (packS L) N (by rw [packS_size]; omega) (by rw [packS_size]; omega) W
  have hall := bitsB_all L
  rw [hN] at hall
  rw [hall] at hLs
  have hMl : L.length = N := by simpa using hN
  have hfin := getV_sh L N hMl h1 h64 hbit
  have HFin := Lib.hid hfin
  have HV := Lib.hid hV
  have HLs := Lib.hid hLs
  have HM := Lib.hid hMl
  have HN := Lib.hid hN
  have hle : ¬ (64 : Int) < (N : Int) := by omega
  have HBit := Lib.hid hbit
  clear hbit
  generalize packS L = s at *
  clear hV hLs hall hMl hfin hN
  go_enter Try.func31, Try.ntmps31
  go_wp2_with fail
  refine (HV.out _).mono ?_
  rintro e w1 ⟨rfl, hb1⟩
  have HX1 := Lib.hid (keepB hb1 (new1_0 _ _))
  have HB1 := Lib.hid (bstep (below_alloc _ _) hb1)
  have c1 := cells_of HX1.out 1
  have c0 := cells_of HX1.out 0
  simp only [List.getElem?_toArray, List.getElem?_cons_succ, List.getElem?_cons_zero] at c0 c1
  clear hb1
  go_wp2_with fail
  all_goals (try (exfalso; omega))
  refine (HLs.out _).mono ?_
  rintro e w2 ⟨v2, rfl, ho2, hb2⟩
  have HB2 := Lib.hid (bstep HB1.out hb2)
  have HO2 := Lib.hid ho2
  clear hb2 ho2
  obtain ⟨ao, cap, rfl, -, -, hao⟩ := own_shape2 HO2.out
  obtain ⟨g, rfl, -⟩ := hao (by omega)
  clear hao
  have hc : Hid (∀ i, i < N → w2.cell? ⟨g, i, none⟩ = some (.int .i64 ((L.getD i false).toNat : Nat))) := Lib.hid fun i hi => by
    rw [own_cell HO2.out i hi]
    simp only [b01, List.map_map, List.getElem?_map]
    rw [List.getElem?_eq_getElem (by rw [HM.out]; exact hi)]
    simp only [Option.map_some, Function.comp, List.getD, List.getElem?_eq_getElem (show i < L.length by rw [HM.out]; exact hi), Option.getD_some]
  have ch := hc.out 0 (by omega)
  rw [HBit.out] at ch
  simp only [Bool.toNat_true] at ch
  go_wp2_with fail
  go_loop [9, 10] (fun u i => ∃ k u0 : Nat, k ≤ N ∧ i = .int .i64 k ∧ u = .int .u64 u0 ∧ Hid (u0 = accN L 0 k)) (fun _ i => N - (intOf i).toNat)
  case atStart => exact ⟨0, 0, by omega, rfl, rfl, Lib.hid rfl⟩
  case round =>
    obtain ⟨k, u0, hk, rfl, rfl, HU⟩ := hrel
    by_cases hlt : k < N
    · have a1 := hc.out k hlt
      have hb1 : (L.getD k false).toNat ≤ 1 := by cases L.getD k false <;> simp
      generalize hx : (L.getD k false).toNat = x at a1 hb1
      have HXx := Lib.hid hx
      clear hx ch
      have hlt' : (k : Int) < (N : Int) := by omega
      go_wp2_with fail
      go_round
      case rel => exact ⟨k + 1, accN L 0 (k + 1), by omega, by go_num, by rw [acc_bit L k x u0 (by omega) HU.out HXx.out], Lib.hid rfl⟩
      case measure => simp only [intOf]; omega
    · obtain rfl : k = N := by omega
      have hlt' : ¬ (k : Int) < (k : Int) := by omega
      have hpos : (0 : Int) < (k : Int) := by omega
      go_wp2_with fail
      go_loop [9, 12] (fun u i => ∃ j u1 : Nat, k ≤ j ∧ j ≤ 64 ∧ i = .int .i64 j ∧ u = .int .u64 u1 ∧ Hid (u1 + 2 ^ k = u0 + 2 ^ j)) (fun _ i => 64 - (intOf i).toNat)
      case atStart => exact ⟨k, u0, by omega, h64, rfl, rfl, Lib.hid rfl⟩
      case round =>
        obtain ⟨j, u1, hkj, hj, rfl, rfl, HJ⟩ := hrel
        by_cases hlt2 : j < 64
        · have hlt2' : (j : Int) < 64 := by omega
          go_wp2_with fail
          go_round
          case rel => exact ⟨j + 1, u1 + 2 ^ j, by omega, by omega, by go_num, by rw [add_bit u1 u0 k j (by rw [HU.out]; exact accN_lt _ _ _) hlt2 HJ.out], Lib.hid (by have := HJ.out; rw [Nat.pow_succ]; omega)⟩
          case measure => simp only [intOf]; omega
        · obtain rfl : j = 64 := by omega
          have hlt2' : ¬ (64 : Int) < 64 := by omega
          have he := getV_sh2 u0 u1 k HJ.out (by rw [HU.out]; exact accN_lt _ _ _) (by omega) h64 (by rw [HU.out]; exact HFin.out.2)
          rw [HU.out] at he
          have HE := Lib.hid he
          clear he
          go_wp2_with fail
          go_ret2
          exact ⟨by rw [HFin.out.1, HE.out]; rfl, HB2.out⟩
set_option maxHeartbeats 4000000 in
theorem rGet_tfz (L : List Bool) (N : Nat) (hN : L.length = N) (h64 : N ≤ 64) (h8 : N % 8 = 0) (h0 : N = 0) (w : World) :
    Calls Try.prog 31 #[.agg #[.string (packS L), .int .i64 N], .bool false, .bool true] w fun e w' => e = getRet (getV (turnB L) false) ∧ Below w.heap.size w w' := by
  have hV := fun W => rValid_any (packS L) N (by rw [packS_size, maxLen_val]; omega) (by omega) (by omega) W
  rw [← hN, pack_valid L, hN] at hV
  have hLs := fun W => List_any (packS L) N (by rw [packS_size]; omega) (by rw [packS_size]; omega) W
  have hall := bitsB_all L
  rw [hN] at hall
  rw [hall] at hLs
  have hMl : (turnB L).length = N := by simpa using hN
  have hfin : getV (turnB L) false = (0, 0) := by
    have : (turnB L) = [] := List.eq_nil_of_length_eq_zero (by omega)
    rw [this]; exact getV_nil _
  have HFin := Lib.hid hfin
  have HV := Lib.hid hV
  have HLs := Lib.hid hLs
  have HM := Lib.hid hMl
  have HN := Lib.hid hN
  have hle : ¬ (64 : Int) < (N : Int) := by omega
  have h8i : ((N : Int) % 8 != 0) = false := by simp; omega
  have H8 := Lib.hid h8
  clear h8
  subst h0
  generalize packS L = s at *
  clear hV hLs hall hMl hfin hN
  go_enter Try.func31, Try.ntmps31
  go_wp2_with fail
  refine (HV.out _).mono ?_
  rintro e w1 ⟨rfl, hb1⟩
  have HX1 := Lib.hid (keepB hb1 (new1_0 _ _))
  have HB1 := Lib.hid (bstep (below_alloc _ _) hb1)
  have c1 := cells_of HX1.out 1
  have c0 := cells_of HX1.out 0
  simp only [List.getElem?_toArray, List.getElem?_cons_succ, List.getElem?_cons_zero] at c0 c1
  clear hb1
  go_wp2_with fail
  all_goals (try (exfalso; omega))
  refine (HLs.out _).mono ?_
  rintro e w2 ⟨v2, rfl, ho2, hb2⟩
  have HB2 := Lib.hid (bstep HB1.out hb2)
  have HO2 := Lib.hid ho2
  clear hb2 ho2
  go_wp2_with fail
  refine (turned_any w1.heap.size v2 L 0 (by have := HN.out; omega) (by omega) w2 HO2.out).mono ?_
  rintro e w3 ⟨v3, rfl, ho3, hb3⟩
  have HB3 := Lib.hid (bstep HB2.out hb3)
  have HO3 := Lib.hid (show w3.ownsRow w2.heap.size 3 1 v3 0 (iv (turnB L)) from ho3)
  clear hb3 ho3
  obtain ⟨ao, cap, rfl, -, -, -⟩ := own_shape2 HO3.out
  go_wp2_with fail
  go_loop [9, 10] (fun u i => i = .int .i64 0 ∧ u = .int .u64 0) (fun _ i => 1)
  case atStart => exact ⟨rfl, rfl⟩
  case round =>
    obtain ⟨rfl, rfl⟩ := hrel
    go_wp2_with fail
    go_ret2
    exact ⟨by rw [HFin.out]; rfl, HB3.out⟩
set_option maxHeartbeats 4000000 in
theorem rGet_tff (L : List Bool) (N : Nat) (hN : L.length = N) (h64 : N ≤ 64) (h8 : N % 8 = 0) (h1 : 1 ≤ N) (hbit : (turnB L).getD 0 false = false) (w : World) :
    Calls Try.prog 31 #[.agg #[.string (packS L), .int .i64 N], .bool false, .bool true] w fun e w' => e = getRet (getV (turnB L) false) ∧ Below w.heap.size w w' := by
  have hV := fun W => rValid_any (packS L) N (by rw [packS_size, maxLen_val]; omega) (by omega) (by omega) W
  rw [← hN, pack_valid L, hN] at hV
  have hLs := fun W => List_any (packS L) N (by rw [packS_size]; omega) (by rw [packS_size]; omega) W
  have hall := bitsB_all L
  rw [hN] at hall
  rw [hall] at hLs
  have hMl : (turnB L).length = N := by simpa using hN
  have hfin := getV_un (turnB L) N hMl h1 h64 false hbit
  have HFin := Lib.hid hfin
  have HV := Lib.hid hV
  have HLs := Lib.hid hLs
  have HM := Lib.hid hMl
  have HN := Lib.hid hN
  have hle : ¬ (64 : Int) < (N : Int) := by omega
  have HBit := Lib.hid hbit
  clear hbit
  have h8i : ((N : Int) % 8 != 0) = false := by simp; omega
  have H8 := Lib.hid h8
  clear h8
  generalize packS L = s at *
  clear hV hLs hall hMl hfin hN
  go_enter Try.func31, Try.ntmps31
  go_wp2_with fail
  refine (HV.out _).mono ?_
  rintro e w1 ⟨rfl, hb1⟩
  have HX1 := Lib.hid (keepB hb1 (new1_0 _ _))
  have HB1 := Lib.hid (bstep (below_alloc _ _) hb1)
  have c1 := cells_of HX1.out 1
  have c0 := cells_of HX1.out 0
  simp only [List.getElem?_toArray, List.getElem?_cons_succ, List.getElem?_cons_zero] at c0 c1
  clear hb1
  go_wp2_with fail
  all_goals (try (exfalso; omega))
  refine (HLs.out _).mono ?_
  rintro e w2 ⟨v2, rfl, ho2, hb2⟩
  have HB2 := Lib.hid (bstep HB1.out hb2)
  have HO2 := Lib.hid ho2
  clear hb2 ho2
  go_wp2_with fail
  refine (turned_any w1.heap.size v2 L (N / 8) (by have := HN.out; have := H8.out; omega) (by omega) w2 (by have := H8.out; rw [show 8 * (N / 8) = N by omega]; exact HO2.out)).mono ?_
  rintro e w3 ⟨v3, rfl, ho3, hb3⟩
  have HB3 := Lib.hid (bstep HB2.out hb3)
  have HO3 := Lib.hid (show w3.ownsRow w2.heap.size 3 1 v3 N (iv (turnB L)) by have := H8.out; rw [show 8 * (N / 8) = N by omega] at ho3; exact ho3)
  clear hb3 ho3
  obtain ⟨ao, cap, rfl, -, -, hao⟩ := own_shape2 HO3.out
  obtain ⟨g, rfl, -⟩ := hao (by omega)
  clear hao
  have hc : Hid (∀ i, i < N → w3.cell? ⟨g, i, none⟩ = some (.int .i64 (((turnB L).getD i false).toNat : Nat))) := Lib.hid fun i hi => by
    rw [own_cell HO3.out i hi]
    simp only [iv, b01, List.map_map, List.getElem?_map]
    rw [List.getElem?_eq_getElem (by rw [HM.out]; exact hi)]
    simp only [Option.map_some, Function.comp, List.getD, List.getElem?_eq_getElem (show i < (turnB L).length by rw [HM.out]; exact hi), Option.getD_some]
  have ch := hc.out 0 (by omega)
  rw [HBit.out] at ch
  simp only [Bool.toNat_false] at ch
  go_wp2_with fail
  go_loop [9, 10] (fun u i => ∃ k u0 : Nat, k ≤ N ∧ i = .int .i64 k ∧ u = .int .u64 u0 ∧ Hid (u0 = accN (turnB L) 0 k)) (fun _ i => N - (intOf i).toNat)
  case atStart => exact ⟨0, 0, by omega, rfl, rfl, Lib.hid rfl⟩
  case round =>
    obtain ⟨k, u0, hk, rfl, rfl, HU⟩ := hrel
    by_cases hlt : k < N
    · have a1 := hc.out k hlt
      have hb1 : ((turnB L).getD k false).toNat ≤ 1 := by cases (turnB L).getD k false <;> simp
      generalize hx : ((turnB L).getD k false).toNat = x at a1 hb1
      have HXx := Lib.hid hx
      clear hx ch
      have hlt' : (k : Int) < (N : Int) := by omega
      go_wp2_with fail
      go_round
      case rel => exact ⟨k + 1, accN (turnB L) 0 (k + 1), by omega, by go_num, by rw [acc_bit (turnB L) k x u0 (by omega) HU.out HXx.out], Lib.hid rfl⟩
      case measure => simp only [intOf]; omega
    · obtain rfl : k = N := by omega
      have hlt' : ¬ (k : Int) < (k : Int) := by omega
      have hpos : (0 : Int) < (k : Int) := by omega
      go_wp2_with fail
      go_ret2
      exact ⟨by rw [HFin.out, if_neg (fun e => by cases e.2), HU.out]; rfl, HB3.out⟩
set_option maxHeartbeats 4000000 in
theorem rGet_tft (L : List Bool) (N : Nat) (hN : L.length = N) (h64 : N ≤ 64) (h8 : N % 8 = 0) (h1 : 1 ≤ N) (hbit : (turnB L).getD 0 false = true) (w : World) :
    Calls Try.prog 31 #[.agg #[.string (packS L), .int .i64 N], .bool false, .bool true] w fun e w' => e = getRet (getV (turnB L) false) ∧ Below w.heap.size w w' := by
  have hV := fun W => rValid_any (packS L) N (by rw [packS_size, maxLen_val]; omega) (by omega) (by omega) W
  rw [← hN, pack_valid L, hN] at hV
  have hLs := fun W => List_any (packS L) N (by rw [packS_size]; omega) (by rw [packS_size]; omega) W
  have hall := bitsB_all L
  rw [hN] at hall
  rw [hall] at hLs
  have hMl : (turnB L).length = N := by simpa using hN
  have hfin := getV_un (turnB L) N hMl h1 h64 true hbit
  have HFin := Lib.hid hfin
  have HV := Lib.hid hV
  have HLs := Lib.hid hLs
  have HM := Lib.hid hMl
  have HN := Lib.hid hN
  have hle : ¬ (64 : Int) < (N : Int) := by omega
  have HBit := Lib.hid hbit
  clear hbit
  have h8i : ((N : Int) % 8 != 0) = false := by simp; omega
  have H8 := Lib.hid h8
  clear h8
  generalize packS L = s at *
  clear hV hLs hall hMl hfin hN
  go_enter Try.func31, Try.ntmps31
  go_wp2_with fail
  refine (HV.out _).mono ?_
  rintro e w1 ⟨rfl, hb1⟩
  have HX1 := Lib.hid (keepB hb1 (new1_0 _ _))
  have HB1 := Lib.hid (bstep (below_alloc _ _) hb1)
  have c1 := cells_of HX1.out 1
  have c0 := cells_of HX1.out 0
  simp only [List.getElem?_toArray, List.getElem?_cons_succ, List.getElem?_cons_zero] at c0 c1
  clear hb1
  go_wp2_with fail
  all_goals (try (exfalso; omega))
  refine (HLs.out _).mono ?_
  rintro e w2 ⟨v2, rfl, ho2, hb2⟩
  have HB2 := Lib.hid (bstep HB1.out hb2)
  have HO2 := Lib.hid ho2
  clear hb2 ho2
  go_wp2_with fail
  refine (turned_any w1.heap.size v2 L (N / 8) (by have := HN.out; have := H8.out; omega) (by omega) w2 (by have := H8.out; rw [show 8 * (N / 8) = N by omega]; exact HO2.out)).mono ?_
  rintro e w3 ⟨v3, rfl, ho3, hb3⟩
  have HB3 := Lib.hid (bstep HB2.out hb3)
  have HO3 := Lib.hid (show w3.ownsRow w2.heap.size 3 1 v3 N (iv (turnB L)) by have := H8.out; rw [show 8 * (N / 8) = N by omega] at ho3; exact ho3)
  clear hb3 ho3
  obtain ⟨ao, cap, rfl, -, -, hao⟩ := own_shape2 HO3.out
  obtain ⟨g, rfl, -⟩ := hao (by omega)
  clear hao
  have hc : Hid (∀ i, i < N → w3.cell? ⟨g, i, none⟩ = some (.int .i64 (((turnB L).getD i false).toNat : Nat))) := Lib.hid fun i hi => by
    rw [own_cell HO3.out i hi]
    simp only [iv, b01, List.map_map, List.getElem?_map]
    rw [List.getElem?_eq_getElem (by rw [HM.out]; exact hi)]
    simp only [Option.map_some, Function.comp, List.getD, List.getElem?_eq_getElem (show i < (turnB L).length by rw [HM.out]; exact hi), Option.getD_some]
  have ch := hc.out 0 (by omega)
  rw [HBit.out] at ch
  simp only [Bool.toNat_true] at ch
  go_wp2_with fail
  go_loop [9, 10] (fun u i => ∃ k u0 : Nat, k ≤ N ∧ i = .int .i64 k ∧ u = .int .u64 u0 ∧ Hid (u0 = accN (turnB L) 0 k)) (fun _ i => N - (intOf i).toNat)
  case atStart => exact ⟨0, 0, by omega, rfl, rfl, Lib.hid rfl⟩
  case round =>
    obtain ⟨k, u0, hk, rfl, rfl, HU⟩ := hrel
    by_cases hlt : k < N
    · have a1 := hc.out k hlt
      have hb1 : ((turnB L).getD k false).toNat ≤ 1 := by cases (turnB L).getD k false <;> simp
      generalize hx : ((turnB L).getD k false).toNat = x at a1 hb1
      have HXx := Lib.hid hx
      clear hx ch
      have hlt' : (k : Int) < (N : Int) := by omega
      go_wp2_with fail
      go_round
      case rel => exact ⟨k + 1, accN (turnB L) 0 (k + 1), by omega, by go_num, by rw [acc_bit (turnB L) k x u0 (by omega) HU.out HXx.out], Lib.hid rfl⟩
      case measure => simp only [intOf]; omega
    · obtain rfl : k = N := by omega
      have hlt' : ¬ (k : Int) < (k : Int) := by omega
      have hpos : (0 : Int) < (k : Int) := by omega
      by_cases h6 : k = 64
      · subst h6
        go_wp2_with fail
        go_ret2
        exact ⟨by rw [HFin.out]; rfl, HB3.out⟩
      · have h6' : ((k : Int) == 64) = false := by simp; omega
        have HK := Lib.hid h6
        clear h6
        go_wp2_with fail
        go_ret2
        exact ⟨by rw [HFin.out, if_neg (fun e => HK.out e.1), HU.out]; rfl, HB3.out⟩
set_option maxHeartbeats 4000000 in
theorem rGet_ttz (L : List Bool) (N : Nat) (hN : L.length = N) (h64 : N ≤ 64) (h8 : N % 8 = 0) (h0 : N = 0) (w : World) :
    Calls Try.prog 31 #[.agg #[.string (packS L), .int .i64 N], .bool true, .bool true] w fun e w' => e = getRet (getV (turnB L) true) ∧ Below w.heap.size w w' := by
  have hV := fun W => rValid_any (packS L) N (by rw [packS_size, maxLen_val]; omega) (by omega) (by omega) W
  rw [← hN, pack_valid L, hN] at hV
  have hLs := fun W => List_any (packS L) N (by rw [packS_size]; omega) (by rw [packS_size]; omega) W
  have hall := bitsB_all L
  rw [hN] at hall
  rw [hall] at hLs
  have hMl : (turnB L).length = N := by simpa using hN
  have hfin : getV (turnB L) true = (0, 0) := by
    have : (turnB L) = [] := List.eq_nil_of_length_eq_zero (by omega)
    rw [this]; exact getV_nil _
  have HFin := Lib.hid hfin
  have HV := Lib.hid hV
  have HLs := Lib.hid hLs
  have HM := Lib.hid hMl
  have HN := Lib.hid hN
  have hle : ¬ (64 : Int) < (N : Int) := by omega
  have h8i : ((N : Int) % 8 != 0) = false := by simp; omega
  have H8 := Lib.hid h8
  clear h8
  subst h0
  generalize packS L = s at *
  clear hV hLs hall hMl hfin hN
  go_enter Try.func31, Try.ntmps31
  go_wp2_with fail
  refine (HV.out _).mono ?_
  rintro e w1 ⟨rfl, hb1⟩
  have HX1 := Lib.hid (keepB hb1 (new1_0 _ _))
  have HB1 := Lib.hid (bstep (below_alloc _ _) hb1)
  have c1 := cells_of HX1.out 1
  have c0 := cells_of HX1.out 0
  simp only [List.getElem?_toArray, List.getElem?_cons_succ, List.getElem?_cons_zero] at c0 c1
  clear hb1
  go_wp2_with fail
  all_goals (try (exfalso; omega))
  refine (HLs.out _).mono ?_
  rintro e w2 ⟨v2, rfl, ho2, hb2⟩
  have HB2 := Lib.hid (bstep HB1.out hb2)
  have HO2 := Lib.hid ho2
  clear hb2 ho2
  go_wp2_with fail
  refine (turned_any w1.heap.size v2 L 0 (by have := HN.out; omega) (by omega) w2 HO2.out).mono ?_
  rintro e w3 ⟨v3, rfl, ho3, hb3⟩
  have HB3 := Lib.hid (bstep HB2.out hb3)
  have HO3 := Lib.hid (show w3.ownsRow w2.heap.size 3 1 v3 0 (iv (turnB L)) from ho3)
  clear hb3 ho3
  obtain ⟨ao, cap, rfl, -, -, -⟩ := own_shape2 HO3.out
  go_wp2_with fail
  go_loop [9, 10] (fun u i => i = .int .i64 0 ∧ u = .int .u64 0) (fun _ i => 1)
  case atStart => exact ⟨rfl, rfl⟩
  case round =>
    obtain ⟨rfl, rfl⟩ := hrel
    go_wp2_with fail
    go_ret2
    exact ⟨by rw [HFin.out]; rfl, HB3.out⟩
set_option maxHeartbeats 4000000 in
theorem rGet_ttf (L : List Bool) (N : Nat) (hN : L.length = N) (h64 : N ≤ 64) (h8 : N % 8 = 0) (h1 : 1 ≤ N) (hbit : (turnB L).getD 0 false = false) (w : World) :
    Calls Try.prog 31 #[.agg #[.string (packS L), .int .i64 N], .bool true, .bool true] w fun e w' => e = getRet (getV (turnB L) true) ∧ Below w.heap.size w w' := by
  have hV := fun W => rValid_any (packS L) N (by rw [packS_size, maxLen_val]; omega) (by omega) (by omega) W
  rw [← hN, pack_valid L, hN] at hV
  have hLs := fun W => List_any (packS L) N (by rw [packS_size]; omega) (by rw [packS_size]; omega) W
  have hall := bitsB_all L
  rw [hN] at hall
  rw [hall] at hLs
  have hMl : (turnB L).length = N := by simpa using hN
  have hfin := getV_sl (turnB L) N hMl h1 h64 hbit
  have HFin := Lib.hid hfin
  have HV := Lib.hid hV
  have HLs := Lib.hid hLs
  have HM := Lib.hid hMl
  have HN := Lib.hid hN
  have hle : ¬ (64 : Int) < (N : Int) := by omega
  have HBit := Lib.hid hbit
  clear hbit
  have h8i : ((N : Int) % 8 != 0) = false := by simp; omega
  have H8 := Lib.hid h8
  clear h8
  generalize packS L = s at *
  clear hV hLs hall hMl hfin hN
  go_enter Try.func31, Try.ntmps31
  go_wp2_with fail
  refine (HV.out _).mono ?_
  rintro e w1 ⟨rfl, hb1⟩
  have HX1 := Lib.hid (keepB hb1 (new1_0 _ _))
  have HB1 := Lib.hid (bstep (below_alloc _ _) hb1)
  have c1 := cells_of HX1.out 1
  have c0 := cells_of HX1.out 0
  simp only [List.getElem?_toArray, List.getElem?_cons_succ, List.getElem?_cons_zero] at c0 c1
  clear hb1
  go_wp2_with fail
  all_goals (try (exfalso; omega))
  refine (HLs.out _).mono ?_
  rintro e w2 ⟨v2, rfl, ho2, hb2⟩
  have HB2 := Lib.hid (bstep HB1.out hb2)
  have HO2 := Lib.hid ho2
  clear hb2 ho2
  go_wp2_with fail
  refine (turned_any w1.heap.size v2 L (N / 8) (by have := HN.out; have := H8.out; omega) (by omega) w2 (by have := H8.out; rw [show 8 * (N / 8) = N by omega]; exact HO2.out)).mono ?_
  rintro e w3 ⟨v3, rfl, ho3, hb3⟩
  have HB3 := Lib.hid (bstep HB2.out hb3)
  have HO3 := Lib.hid (show w3.ownsRow w2.heap.size 3 1 v3 N (iv (turnB L)) by have := H8.out; rw [show 8 * (N / 8) = N by omega] at ho3; exact ho3)
  clear hb3 ho3
  obtain ⟨ao, cap, rfl, -, -, hao⟩ := own_shape2 HO3.out
  obtain ⟨g, rfl, -⟩ := hao (by omega)
  clear hao
  have hc : Hid (∀ i, i < N → w3.cell? ⟨g, i, none⟩ = some (.int .i64 (((turnB L).getD i false).toNat : Nat))) := Lib.hid fun i hi => by
    rw [own_cell HO3.out i hi]
    simp only [iv, b01, List.map_map, List.getElem?_map]
    rw [List.getElem?_eq_getElem (by rw [HM.out]; exact hi)]
    simp only [Option.map_some, Function.comp, List.getD, List.getElem?_eq_getElem (show i < (turnB L).length by rw [HM.out]; exact hi), Option.getD_some]
  have ch := hc.out 0 (by omega)
  rw [HBit.out] at ch
  simp only [Bool.toNat_false] at ch
  go_wp2_with fail
  go_loop [9, 10] (fun u i => ∃ k u0 : Nat, k ≤ N ∧ i = .int .i64 k ∧ u = .int .u64 u0 ∧ Hid (u0 = accN (turnB L) 0 k)) (fun _ i => N - (intOf i).toNat)
  case atStart => exact ⟨0, 0, by omega, rfl, rfl, Lib.hid rfl⟩
  case round =>
    obtain ⟨k, u0, hk, rfl, rfl, HU⟩ := hrel
    by_cases hlt : k < N
    · have a1 := hc.out k hlt
      have hb1 : ((turnB L).getD k false).toNat ≤ 1 := by cases (turnB L).getD k false <;> simp
      generalize hx : ((turnB L).getD k false).toNat = x at a1 hb1
      have HXx := Lib.hid hx
      clear hx ch
      have hlt' : (k : Int) < (N : Int) := by omega
      go_wp2_with fail
      go_round
      case rel => exact ⟨k + 1, accN (turnB L) 0 (k + 1), by omega, by go_num, by rw [acc_bit (turnB L) k x u0 (by omega) HU.out HXx.out], Lib.hid rfl⟩
      case measure => simp only [intOf]; omega
    · obtain rfl : k = N := by omega
      have hlt' : ¬ (k : Int) < (k : Int) := by omega
      have hpos : (0 : Int) < (k : Int) := by omega
      go_wp2_with fail
      go_ret2
      exact ⟨by rw [HFin.out, HU.out]; rfl, HB3.out⟩
set_option maxHeartbeats 4000000 in
theorem rGet_ttt (L : List Bool) (N : Nat) (hN : L.length = N) (h64 : N ≤ 64) (h8 : N % 8 = 0) (h1 : 1 ≤ N) (hbit : (turnB L).getD 0 false = true) (w : World) :
    Calls Try.prog 31 #[.agg #[.string (packS L), .int .i64 N], .bool true, .bool true] w fun e w' => e = getRet (getV (turnB L) true) ∧ Below w.heap.size w w' := by
  have hV := fun W => rValid_any (packS L) N (by rw [packS_size, maxLen_val]; omega) (by omega) (by omega) W
  rw [← hN, pack_valid L, hN] at hV
  have hLs := fun W => List_any (packS L) N (by rw [packS_size]; omega) (by rw [packS_size]; omega) W
  have hall := bitsB_all L
  rw [hN] at hall
  rw [hall] at hLs
  have hMl : (turnB L).length = N := by simpa using hN
  have hfin := getV_sh (turnB L) N hMl h1 h64 hbit
  have HFin := Lib.hid hfin
  have HV := Lib.hid hV
  have HLs := Lib.hid hLs
  have HM := Lib.hid hMl
  have HN := Lib.hid hN
  have hle : ¬ (64 : Int) < (N : Int) := by omega
  have HBit := Lib.hid hbit
  clear hbit
  have h8i : ((N : Int) % 8 != 0) = false := by simp; omega
  have H8 := Lib.hid h8
  clear h8
  generalize packS L = s at *
  clear hV hLs hall hMl hfin hN
  go_enter Try.func31, Try.ntmps31
  go_wp2_with fail
  refine (HV.out _).mono ?_
  rintro e w1 ⟨rfl, hb1⟩
  have HX1 := Lib.hid (keepB hb1 (new1_0 _ _))
  have HB1 := Lib.hid (bstep (below_alloc _ _) hb1)
  have c1 := cells_of HX1.out 1
  have c0 := cells_of HX1.out 0
  simp only [List.getElem?_toArray, List.getElem?_cons_succ, List.getElem?_cons_zero] at c0 c1
  clear hb1
  go_wp2_with fail
  all_goals (try (exfalso; omega))
  refine (HLs.out _).mono ?_
  rintro e w2 ⟨v2, rfl, ho2, hb2⟩
  have HB2 := Lib.hid (bstep HB1.out hb2)
  have HO2 := Lib.hid ho2
  clear hb2 ho2
  go_wp2_with fail
  refine (turned_any w1.heap.size v2 L (N / 8) (by have := HN.out; have := H8.out; omega) (by omega) w2 (by have := H8.out; rw [show 8 * (N / 8) = N by omega]; exact HO2.out)).mono ?_
  rintro e w3 ⟨v3, rfl, ho3, hb3⟩
  have HB3 := Lib.hid (bstep HB2.out hb3)
  have HO3 := Lib.hid (show w3.ownsRow w2.heap.size 3 1 v3 N (iv (turnB L)) by have := H8.out; rw [show 8 * (N / 8) = N by omega] at ho3; exact ho3)
  clear hb3 ho3
  obtain ⟨ao, cap, rfl, -, -, hao⟩ := own_shape2 HO3.out
  obtain ⟨g, rfl, -⟩ := hao (by omega)
  clear hao
  have hc : Hid (∀ i, i < N → w3.cell? ⟨g, i, none⟩ = some (.int .i64 (((turnB L).getD i false).toNat : Nat))) := Lib.hid fun i hi => by
    rw [own_cell HO3.out i hi]
    simp only [iv, b01, List.map_map, List.getElem?_map]
    rw [List.getElem?_eq_getElem (by rw [HM.out]; exact hi)]
    simp only [Option.map_some, Function.comp, List.getD, List.getElem?_eq_getElem (show i < (turnB L).length by rw [HM.out]; exact hi), Option.getD_some]
  have ch := hc.out 0 (by omega)
  rw [HBit.out] at ch
  simp only [Bool.toNat_true] at ch
  go_wp2_with fail
  go_loop [9, 10] (fun u i => ∃ k u0 : Nat, k ≤ N ∧ i = .int .i64 k ∧ u = .int .u64 u0 ∧ Hid (u0 = accN (turnB L) 0 k)) (fun _ i => N - (intOf i).toNat)
  case atStart => exact ⟨0, 0, by omega, rfl, rfl, Lib.hid rfl⟩
  case round =>
    obtain ⟨k, u0, hk, rfl, rfl, HU⟩ := hrel
    by_cases hlt : k < N
    · have a1 := hc.out k hlt
      have hb1 : ((turnB L).getD k false).toNat ≤ 1 := by cases (turnB L).getD k false <;> simp
      generalize hx : ((turnB L).getD k false).toNat = x at a1 hb1
      have HXx := Lib.hid hx
      clear hx ch
      have hlt' : (k : Int) < (N : Int) := by omega
      go_wp2_with fail
      go_round
      case rel => exact ⟨k + 1, accN (turnB L) 0 (k + 1), by omega, by go_num, by rw [acc_bit (turnB L) k x u0 (by omega) HU.out HXx.out], Lib.hid rfl⟩
      case measure => simp only [intOf]; omega
    · obtain rfl : k = N := by omega
      have hlt' : ¬ (k : Int) < (k : Int) := by omega
      have hpos : (0 : Int) < (k : Int) := by omega
      go_wp2_with fail
      go_loop [9, 12] (fun u i => ∃ j u1 : Nat, k ≤ j ∧ j ≤ 64 ∧ i = .int .i64 j ∧ u = .int .u64 u1 ∧ Hid (u1 + 2 ^ k = u0 + 2 ^ j)) (fun _ i => 64 - (intOf i).toNat)
      case atStart => exact ⟨k, u0, by omega, h64, rfl, rfl, Lib.hid rfl⟩
      case round =>
        obtain ⟨j, u1, hkj, hj, rfl, rfl, HJ⟩ := hrel
        by_cases hlt2 : j < 64
        · have hlt2' : (j : Int) < 64 := by omega
          go_wp2_with fail
          go_round
          case rel => exact ⟨j + 1, u1 + 2 ^ j, by omega, by omega, by go_num, by rw [add_bit u1 u0 k j (by rw [HU.out]; exact accN_lt _ _ _) hlt2 HJ.out], Lib.hid (by have := HJ.out; rw [Nat.pow_succ]; omega)⟩
          case measure => simp only [intOf]; omega
        · obtain rfl : j = 64 := by omega
          have hlt2' : ¬ (64 : Int) < 64 := by omega
          have he := getV_sh2 u0 u1 k HJ.out (by rw [HU.out]; exact accN_lt _ _ _) (by omega) h64 (by rw [HU.out]; exact HFin.out.2)
          rw [HU.out] at he
          have HE := Lib.hid he
          clear he
          go_wp2_with fail
          go_ret2
          exact ⟨by rw [HFin.out.1, HE.out]; rfl, HB3.out⟩
set_option maxHeartbeats 1000000 in
theorem rGet_bad (s : ByteArray) (n : Int) (signed little : Bool) (hs : s.size ≤ maxLen) (hn : i64ok n) (hb : getBad s n little = true) (w : World) :
    Calls Try.prog 31 #[.agg #[.string s, .int .i64 n], .bool signed, .bool little] w fun e w' => e = .returned (.tuple #[.int .i64 0, .int .i64 2]) ∧ Below w.heap.size w w' := by
  have hV := fun W => rValid_any s n hs hn.1 hn.2 W
  rcases getBad_iff.1 hb with h | ⟨h, h1⟩ | ⟨h, h1, rfl, h2⟩
  · rw [h] at hV
    have HV := Lib.hid hV
    clear hV hb h
    go_enter Try.func31, Try.ntmps31
    go_wp2_with fail
    refine (HV.out _).mono ?_
    rintro e w1 ⟨rfl, hb1⟩
    have HB1 := Lib.hid (bstep (below_alloc _ _) hb1)
    go_wp2_with fail
    go_ret2
    exact ⟨rfl, HB1.out⟩
  · rw [h] at hV
    have HV := Lib.hid hV
    clear hV hb h
    go_enter Try.func31, Try.ntmps31
    go_wp2_with fail
    refine (HV.out _).mono ?_
    rintro e w1 ⟨rfl, hb1⟩
    have HX1 := Lib.hid (keepB hb1 (new1_0 _ _))
    have HB1 := Lib.hid (bstep (below_alloc _ _) hb1)
    have c1 := cells_of HX1.out 1
    simp only [List.getElem?_toArray, List.getElem?_cons_succ, List.getElem?_cons_zero] at c1
    go_wp2_with fail
    all_goals (try (exfalso; omega))
    go_ret2
    exact ⟨rfl, HB1.out⟩
  · have h0 : 0 ≤ n := (valid_size h).1
    rw [h] at hV
    have HV := Lib.hid hV
    have h8 : (n % 8 != 0) = true := by simpa using h2
    clear hV hb h h2
    go_enter Try.func31, Try.ntmps31
    go_wp2_with fail
    refine (HV.out _).mono ?_
    rintro e w1 ⟨rfl, hb1⟩
    have HX1 := Lib.hid (keepB hb1 (new1_0 _ _))
    have HB1 := Lib.hid (bstep (below_alloc _ _) hb1)
    have c1 := cells_of HX1.out 1
    simp only [List.getElem?_toArray, List.getElem?_cons_succ, List.getElem?_cons_zero] at c1
    go_wp2_with fail
    all_goals (try (exfalso; omega))
    all_goals
      go_ret2
      exact ⟨rfl, HB1.out⟩
theorem rGet_any (s : ByteArray) (n : Int) (signed little : Bool) (hs : s.size ≤ maxLen) (hn : i64ok n) (w : World) :
    Calls Try.prog 31 #[.agg #[.string s, .int .i64 n], .bool signed, .bool little] w fun e w' => e = getRet (getR s n signed little) ∧ Below w.heap.size w w' := by
  by_cases hb : getBad s n little = true
  · rw [show getR s n signed little = (0, 2) by unfold getR; rw [if_pos hb]]
    exact rGet_bad s n signed little hs hn hb w
  · obtain ⟨hv, h64, h8, h0, e⟩ := getR_good (signed := signed) hb
    rw [e]
    obtain ⟨N, rfl⟩ := Int.eq_ofNat_of_zero_le h0
    have hp := valid_pack hv
    rw [Int.toNat_natCast] at hp ⊢
    have hl : (bitsB s 0 N).length = N := by simp
    generalize bitsB s 0 N = L at *
    rw [← hp]
    have h64' : N ≤ 64 := by omega
    by_cases hz : N = 0
    · cases little <;> cases signed
      · exact rGet_ffz L N hl h64' hz w
      · exact rGet_ftz L N hl h64' hz w
      · exact rGet_tfz L N hl h64' (by omega) hz w
      · exact rGet_ttz L N hl h64' (by omega) hz w
    · have h1 : 1 ≤ N := by omega
      cases little <;> cases signed
      · cases hb : L.getD 0 false
        · exact rGet_fff L N hl h64' h1 hb w
        · exact rGet_fft L N hl h64' h1 hb w
      · cases hb : L.getD 0 false
        · exact rGet_ftf L N hl h64' h1 hb w
        · exact rGet_ftt L N hl h64' h1 hb w
      · cases hb : (turnB L).getD 0 false
        · exact rGet_tff L N hl h64' (by have := h8 rfl; omega) h1 hb w
        · exact rGet_tft L N hl h64' (by have := h8 rfl; omega) h1 hb w
      · cases hb : (turnB L).getD 0 false
        · exact rGet_ttf L N hl h64' (by have := h8 rfl; omega) h1 hb w
        · exact rGet_ttt L N hl h64' (by have := h8 rfl; omega) h1 hb w
end Go.Proofs.Ytdgjbejbbmnhbaa
