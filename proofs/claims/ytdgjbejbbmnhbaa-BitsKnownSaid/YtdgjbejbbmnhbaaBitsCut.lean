/-
  Walks: done, List, Make, Cut and the reference's Cut.
-/
import Derived.Test.YtdgjbejbbmnhbaaBitsWriter
namespace Go.Proofs.Ytdgjbejbbmnhbaa
open Go.RowKit Go.Proofs.BitsM
/-- the string of packed bits -/
def packS (L : List Bool) : ByteArray := strOfNums ((packN L).map fun b : Nat => (b : Int))
theorem packS_size (L : List Bool) : (packS L).size = (L.length + 7) / 8 := by simp [packS, strOfNums_size]
/-- an owned row of bytes, converted to a string -/
theorem conv_own {w : World} {base : Nat} {v : Value} {L : List Bool} (h : w.ownsRow base 5 1 v (packN L).length (u8s (packN L))) :
    (convert 56 9 v).run Try.prog w = .ok (.string (packS L)) w := by
  rcases h.2 with ⟨rfl, h0⟩ | ⟨g, cap, cur, rfl, hb, hg, hn, hcap, hsz, htake⟩
  · have e : packN L = [] := List.length_eq_zero_iff.1 h0
    have : packS L = ByteArray.empty := by simp only [packS, e]; rfl
    rw [this]
    exact run_convert_bytes_nil w 56 5 Try.underlying56 Try.underlying5 _ _ _ Try.underlying9
  · refine run_convert_bytes_arg w 56 5 Try.underlying56 Try.underlying5 g 0 _ cap ((packN L).map fun b : Nat => (b : Int)) (by simp) ?_ _ Try.underlying9
    intro i hi
    rw [Nat.zero_add, h.cellAt i (by omega)]
    rw [u8s_get _ _ hi]
    simp only [List.getD, List.getElem?_map, List.getElem?_eq_getElem hi, Option.map_some, Option.getD_some]
set_option maxHeartbeats 400000 in
theorem done_any (B base : Nat) (sb : ByteArray) (L : List Bool) (w : World) (hbase : base ≤ w.heap.size) (hW : Wr w base B sb L) :
    Calls Try.prog 36 #[.pointer (some ⟨B, 0, none⟩)] w fun e w' => e = .returned (.agg #[.string (packS L), .int .i64 (L.length : Int)]) ∧ Below base w w' := by
  obtain ⟨v, hh, hown, hB⟩ := hW
  have hBw := lt_of_block hh
  have hconv := fun o => conv_own (hown.alloc o)
  have c0 := cell3 hh 0
  have c1 := cell3 hh 1
  have c2 := cell3 hh 2
  have f0 := free3 hh 0
  simp only [List.getElem?_toArray, List.getElem?_cons_succ, List.getElem?_cons_zero] at c0 c1 c2
  clear hown hh
  go_enter Try.func36, Try.ntmps36
  go_wp2
  refine bodyPost_ret (v := .agg #[.string (packS L), .int .i64 (L.length : Int)]) (by simp [results, Try.results36, go_sem]) rfl ⟨rfl, ?_⟩
  exact ((Below.refl _ _).setCell hB _).alloc (by simp; omega) _
def b01 (L : List Bool) : List Int := L.map fun b => ((b.toNat : Nat) : Int)
/-- the call returns a row of its own -/
def OwnRet (w : World) (E : TypeId) (n : Nat) (xs : List Value) (e : Ending) (w' : World) : Prop := ∃ v, e = .returned v ∧ w'.ownsRow w.heap.size E 1 v n xs ∧ Below w.heap.size w w'
theorem Try.info3 : (Try.prog.info? 3).map (fun i => (i.zero, i.size, i.bytes)) = some (some (.int .i64 0), 1, 8) := by kernel_rfl
theorem one_cell_at' {E : TypeId} {w : World} {u : Value} : ∀ (j : Nat) (u' : Value), [u][j]? = some u' → (w.alloc (.cells #[u] E)).cell? ((⟨w.heap.size, 0, none⟩ : Addr).add j) = some u' := by
  intro j u' hj
  match j, hj with
  | 0, hj => simp at hj; subst hj; simp [Addr.add]
theorem bitsB_snoc (s : ByteArray) (a k : Nat) : bitsB s a (k + 1) = bitsB s a k ++ [bitB s (a + k)] := by rw [bitsB_add]; rfl
theorem grown_below' {w0 w w1 : World} {o : Obj} {v : Value} {base b' e size n : Nat} {xs : List Value} (hb : Below b' w0 w) (hown : w.ownsRow base e size v n xs) (hg : (w.alloc o).grownBy w1 v.ownBlock) (hB : base ≤ w.heap.size) (hb' : b' ≤ base) : Below b' w0 w1 :=
  (hb.alloc (by omega) o).grown hg (by simp; omega) fun k hk => Nat.le_trans hb' (hown.lt k hk).1
theorem b01_snoc (s : ByteArray) (k : Nat) : (b01 (bitsB s 0 (k + 1))).map (Value.int .i64) = (b01 (bitsB s 0 k)).map (Value.int .i64) ++ [.int .i64 ((bitN s k : Nat) : Int)] := by
  rw [bitsB_snoc, b01, List.map_append, List.map_append]
  simp [b01, bitN]
set_option maxHeartbeats 1000000 in
theorem List_any (s : ByteArray) (n : Nat) (hs : s.size ≤ 4096) (hn : n ≤ 8 * s.size) (w : World) :
    Calls Try.prog 37 #[.agg #[.string s, .int .i64 n]] w (OwnRet w 3 n ((b01 (bitsB s 0 n)).map (Value.int .i64))) := by
  obtain ⟨i0, hi, hz0, hz1, hz2⟩ := info_parts Try.info3
  go_enter Try.func37, Try.ntmps37
  go_wp2
  go_loopw [3, 4] (fun v i wr => ∃ k : Nat, k ≤ n ∧ i = .int .i64 k ∧ Hid (wr.ownsRow w.heap.size 3 1 v k ((b01 (bitsB s 0 k)).map (Value.int .i64))) ∧ wr.heap[w.heap.size]? = some (.cells #[.string s, .int .i64 n] 25 (0, 0)) ∧ Hid (Below w.heap.size w wr)) (fun _ i _ => n - (intOf i).toNat)
  case atStart => exact ⟨0, by omega, rfl, Lib.hid (World.ownsRow_nil _ _ _ _), heap_alloc_new _ _, Lib.hid (below_alloc _ _)⟩
  case round =>
    obtain ⟨k, hk, rfl, HO, hX, HB⟩ := hrel
    have c0 := cell3 hX 0
    have c1 := cell3 hX 1
    simp only [List.getElem?_toArray, List.getElem?_cons_succ, List.getElem?_cons_zero] at c0 c1
    have HX := Lib.hid hX
    clear hX
    by_cases hlt : k < n
    · have hin : k / 8 < s.size := by omega
      have hb8 := Lib.hid (byteAt_eq hin)
      have hrb := Lib.hid ((refbit _ (byteAt_lt s (k / 8)) (7 - k % 8)).trans (by rw [← bitN_eq]))
      go_wp2_with (first
        | (at_builtin; refine wpList_append_own _ rfl (.tmp 11) (.tmp 24) 61 rfl w.heap.size 3 i0 (.int .i64 0) 1 8 Try.underlying61 hi hz0 hz1 hz2 rfl (by decide) _ _ _ rfl (HO.out.alloc _) ⟨wr.heap.size, 0, none⟩ 1 1 [.int .i64 ((wrap64 ↑s[k / 8].toNat / 2 ^ (7 - k % 8)).tmod 2)] rfl rfl ?c1 ?c2 ?c3 ?c4 ?c5 ?_))
      case c1 => exact one_cell_at'
      case c2 => intro u hu; simp at hu; subst hu; rfl
      case c3 => rw [maxLen_val]; omega
      case c4 => omega
      case c5 => have := lt_of_block HX.out; simp; omega
      · intro v' w1 hown' hgrow _
        have hx1 := grown_block HO.out hgrow HX.out (by decide)
        have hb1 := grown_below HB.out HO.out hgrow (by have := lt_of_block HX.out; omega)
        clear hgrow
        have HN := Lib.hid hown'
        have HX1 := Lib.hid hx1
        have HB1 := Lib.hid hb1
        clear hown' hx1 hb1
        go_wp2_with fail
        go_roundw
        case rel =>
          refine ⟨k + 1, by omega, by go_num, Lib.hid ?_, HX1.out, HB1⟩
          have h := HN.out
          rw [hb8.out, hrb.out] at h
          rw [b01_snoc]
          exact h
        case measure => simp only [intOf]; omega
    · obtain rfl : k = n := by omega
      go_wp2_with fail
      go_ret
      exact ⟨_, rfl, HO.out, HB.out⟩

/-- a slice that reads as these integers -/
def SlI (w : World) (v : Value) (xs : List Int) : Prop :=
  ∃ ao cap, v = .slice ao xs.length cap ∧ (xs ≠ [] → ∃ b off, ao = some ⟨b, off, none⟩ ∧ ∀ i, i < xs.length → w.cell? ⟨b, off + i, none⟩ = some (.int .i64 (xs.getD i 0)))
def accN (L : List Bool) (i : Nat) : Nat → Nat
  | 0 => 0
  | k + 1 => 2 * accN L i k + (L.getD (i + k) false).toNat
theorem accN_lt (L : List Bool) (i k : Nat) : accN L i k < 2 ^ k := by
  induction k with
  | zero => simp [accN]
  | succ k ih => have : (L.getD (i + k) false).toNat ≤ 1 := by cases L.getD (i + k) false <;> simp
                 rw [accN, Nat.pow_succ]; omega
theorem accN_eight (L : List Bool) (i : Nat) : accN L i 8 = byteN fun k => L.getD (i + k) false := by
  simp only [accN, byteN]; omega
theorem packN_take (L : List Bool) (j : Nat) (h : 8 * j < L.length) : packN (L.take (8 * (j + 1))) = packN (L.take (8 * j)) ++ [accN L (8 * j) 8] := by
  symm
  have hlen : (packN (L.take (8 * j))).length = j := by rw [packN_length, List.length_take]; omega
  apply packN_unique
  · rw [List.length_append, hlen, List.length_take]; simp; omega
  · intro x hx
    rcases List.mem_append.1 hx with h1 | h1
    · exact packN_lt _ x h1
    · simp at h1; rw [h1]; exact accN_lt L (8 * j) 8
  · intro i hi
    rw [lbit_snoc, hlen]
    rw [List.length_append, hlen] at hi
    simp at hi
    have ht : ∀ m, i < m → (L.take m).getD i false = L.getD i false := by
      intro m hm
      simp only [List.getD, List.getElem?_take, if_pos hm]
    by_cases h1 : i < 8 * j
    · rw [if_pos h1, packN_lbit, ht _ h1, ht _ (by omega)]
    · rw [if_neg h1, if_pos (by omega), accN_eight, byteN_testBit _ _ (by omega), ht _ (by omega)]
      congr 1; omega
theorem b01_getD (L : List Bool) (i : Nat) (h : i < L.length) : (b01 L).getD i 0 = (((L.getD i false).toNat : Nat) : Int) := by
  simp [b01, List.getD, h]
set_option maxHeartbeats 1000000 in
theorem Make_any (v : Value) (L : List Bool) (hL : L.length ≤ 1000000) (w : World) (hv : SlI w v (b01 L)) :
    Calls Try.prog 38 #[v] w fun e w' => e = .returned (.agg #[.string (packS L), .int .i64 (L.length : Int)]) ∧ Below w.heap.size w w' := by
  obtain ⟨ao, cap, rfl, hc⟩ := hv
  have hlen : (b01 L).length = L.length := by simp [b01]
  rw [hlen] at hc ⊢
  have HC := Lib.hid hc
  clear hc hlen
  obtain ⟨i0, hi, hz0, hz1, hz2⟩ := info_parts Try.info5
  go_enter Try.func38, Try.ntmps38
  go_wp2
  go_loopw [3, 4] (fun b i wr => ∃ j : Nat, 8 * j ≤ L.length + 7 ∧ i = .int .i64 (8 * j : Nat) ∧ Hid (wr.ownsRow (w.heap.size + 1) 5 1 b (packN (L.take (8 * j))).length (u8s (packN (L.take (8 * j))))) ∧ Hid (wr.heap[w.heap.size]? = some (.cells #[.string ⟨#[]⟩, .int .i64 0] 25 (0, 0))) ∧ Hid (Below w.heap.size w wr)) (fun _ i _ => L.length + 7 - (intOf i).toNat)
  case atStart => exact ⟨0, by omega, by go_num, Lib.hid (by rw [show L.take (8 * 0) = [] from rfl, packN_nil]; exact World.ownsRow_nil _ _ _ _), Lib.hid (heap_alloc_new _ _), Lib.hid (below_alloc _ _)⟩
  case round =>
    obtain ⟨j, hj, rfl, HO, HX, HB⟩ := hrel
    obtain ⟨P, hP⟩ : ∃ P, P = packN (L.take (8 * j)) := ⟨_, rfl⟩
    rw [← hP] at HO
    have hPl : P.length ≤ 200000 := by rw [hP, packN_length, List.length_take]; omega
    have HP := Lib.hid hP
    clear hP
    by_cases hlt : 8 * j < L.length
    · have hlt' : ((8 * j : Nat) : Int) < (L.length : Int) := by omega
      have hne : b01 L ≠ [] := by
        intro h
        have h2 := congrArg List.length h
        simp only [b01, List.length_map, List.length_nil] at h2
        omega
      obtain ⟨b, off, rfl, hcell⟩ := HC.out hne
      have hbw : b < w.heap.size := by
        have h0 := hcell 0 (by omega)
        rcases Nat.lt_or_ge b w.heap.size with h | h
        · exact h
        · simp [World.cell?, Array.getElem?_eq_none h] at h0
      have hcr : Hid (∀ i, i < L.length → wr.cell? ⟨b, off + i, none⟩ = some (.int .i64 (((L.getD i false).toNat : Nat) : Int))) := Lib.hid fun i hi => by
        rw [HB.out.cell (p := ⟨b, off + i, none⟩) hbw, hcell i hi, b01_getD L i hi]
      clear hcell hne
      go_wp2_with fail
      go_loop [5, 6] (fun c i => ∃ k c0 : Nat, k ≤ 8 ∧ c0 < 2 ^ k ∧ c = .int .i64 c0 ∧ i = .int .i64 (8 * j + k : Nat) ∧ Hid (c0 = accN L (8 * j) k)) (fun _ i => 8 * j + 8 - (intOf i).toNat)
      case atStart => exact ⟨0, 0, by omega, by simp, rfl, by go_num, Lib.hid rfl⟩
      case round =>
        obtain ⟨k, c0, hk, hc0, rfl, rfl, HA⟩ := hrel
        have hc1 : c0 < 256 := Nat.lt_of_lt_of_le hc0 (Nat.pow_le_pow_right (by omega) hk)
        clear hc0
        by_cases hk8 : k < 8
        · have hk8' : ((8 * j + k : Nat) : Int) < ((8 * j : Nat) : Int) + 8 := by omega
          by_cases hin : 8 * j + k < L.length
          · have hin' : ((8 * j + k : Nat) : Int) < (L.length : Int) := by omega
            have hcc := hcr.out (8 * j + k) hin
            have hbit : (L.getD (8 * j + k) false).toNat ≤ 1 := by cases L.getD (8 * j + k) false <;> simp
            generalize hg : (L.getD (8 * j + k) false).toNat = bt at *
            have HG := Lib.hid hg
            clear hg
            go_wp2_with fail
            go_round
            case rel =>
              refine ⟨k + 1, 2 * c0 + bt, by omega, ?_, by go_num, by go_num, Lib.hid ?_⟩
              · rw [HA.out, ← HG.out]; exact accN_lt L (8 * j) (k + 1)
              · rw [HA.out, ← HG.out]; rfl
            case measure => simp only [intOf]; omega
          · have hin' : ¬ ((8 * j + k : Nat) : Int) < (L.length : Int) := by omega
            have HI := Lib.hid (getD_ge L (8 * j + k) (by omega))
            go_wp2_with fail
            go_round
            case rel =>
              have e : accN L (8 * j) (k + 1) = 2 * accN L (8 * j) k := by rw [accN, HI.out]; rfl
              refine ⟨k + 1, 2 * c0, by omega, ?_, by go_num, by go_num, Lib.hid ?_⟩
              · rw [HA.out, ← e]; exact accN_lt L (8 * j) (k + 1)
              · rw [HA.out, e]
            case measure => simp only [intOf]; omega
        · have hk8' : ¬ ((8 * j + k : Nat) : Int) < ((8 * j : Nat) : Int) + 8 := by omega
          obtain rfl : k = 8 := by omega
          go_wp2_with (first
            | (at_builtin; refine wpList_append_own _ rfl (.tmp 32) (.tmp 35) 56 rfl (w.heap.size + 1) 5 i0 (.int .u8 0) 1 1 Try.underlying56 hi hz0 hz1 hz2 rfl (by decide) _ _ _ rfl (HO.out.alloc _) ⟨wr.heap.size, 0, none⟩ 1 1 [.int .u8 c0] rfl rfl (by exact one_cell_at') (by intro u hu; simp at hu; subst hu; rfl) ?k3 ?k4 ?k5 ?_))
          case k3 => rw [maxLen_val]; omega
          case k4 => omega
          case k5 => have := lt_of_block HX.out; simp; omega
          · intro v' w1 hown' hgrow _
            have hx1 := grown_block HO.out hgrow HX.out (by decide)
            have hb1 := grown_below' HB.out HO.out hgrow (by have := lt_of_block HX.out; omega) (by omega)
            clear hgrow
            have HN := Lib.hid hown'
            have HX1 := Lib.hid hx1
            have HB1 := Lib.hid hb1
            clear hown' hx1 hb1
            go_wp2_with fail
            go_roundw
            case rel =>
              refine ⟨j + 1, by omega, by go_num, Lib.hid ?_, HX1, HB1⟩
              have h := HN.out
              have hp := HP.out
              rw [HA.out, ← u8s_snoc] at h
              rw [packN_take L j hlt, ← hp, List.length_append]
              exact h
            case measure => simp only [intOf]; omega
    · have hlt' : ¬ ((8 * j : Nat) : Int) < (L.length : Int) := by omega
      have hown := HO.out
      rw [HP.out, List.take_of_length_le (by omega)] at hown
      have hconv := conv_own hown
      have hX := HX.out
      have e0 := cell3 hX 0
      have e1 := cell3 hX 1
      have f0 := free3 hX 0
      have f1 := free3 hX 1
      simp only [List.getElem?_toArray, List.getElem?_cons_succ, List.getElem?_cons_zero] at e0 e1
      clear hX hown
      go_wp2_with fail
      have hq := block_setCell (block_setCell HX.out 0 (.string (packS L))) 1 (.int .i64 (L.length : Int))
      have q0 := cell3 hq 0
      have q1 := cell3 hq 1
      simp only [Array.setIfInBounds] at q0 q1
      refine bodyPost_ret (v := .agg #[.string (packS L), .int .i64 (L.length : Int)]) (by simp [results, Try.results38, go_sem, q0, q1]) rfl ⟨rfl, ?_⟩
      exact (HB.out.setCell (by exact Nat.le_refl _) _).setCell (by exact Nat.le_refl _) _
end Go.Proofs.Ytdgjbejbbmnhbaa
