/-
  Walks: the reference's texts of numbers. Walks: the reference's texts: a row of terms. Walks: the reference's texts: bits. Walks: the reference's texts: text, kind by kind. Walks: the reference's text, all kinds; Term of the reference. Walks: List of the reference.
-/
import Derived.Test.YtgfodedmcjkmaaaGreatDoorWrB
import Derived.Laws.IdiomStrings
namespace Go.Proofs.YtgfodedmcjkmaaaGreatDoor
open Go.RowKit Go.Proofs.BitsM
def dgc (d : Nat) : UInt8 := UInt8.ofNat (48 + d)
theorem conv_digit (w : World) (d : Nat) (hd : d < 10) (x : Int) (hx : x = ((48 + d : Nat) : Int)) : (convert 45 9 (.slice (some ⟨w.heap.size, 0, none⟩) 1 1)).run Tryz.prog (w.alloc (.cells #[.int .u8 x] 5 (0, 0))) = .ok (.string (ba [dgc d])) (w.alloc (.cells #[.int .u8 x] 5 (0, 0))) := by
  subst hx
  refine run_convert_bytes_back _ _ _ 5 _ _ [dgc d] Tryz.underlying45 Tryz.underlying5 Tryz.underlying9 fun j hj => ?_
  match j, hj with
  | 0, _ =>
    have e : ((dgc d).toNat : Int) = ((48 + d : Nat) : Int) := by unfold dgc; rw [UInt8.toNat_ofNat']; omega
    show _ = some (Value.int .u8 ((dgc d).toNat : Int))
    rw [e]; simp [Addr.add]
theorem dec_small {u : Nat} (h : u / 10 = 0) (s : List UInt8) : Lib.decDigits u ++ s = dgc (u % 10) :: s := by
  rw [Lib.decDigits, dif_pos (by omega), show u % 10 = u by omega]; rfl
theorem dec_big {u : Nat} (h : ¬ u / 10 = 0) (s : List UInt8) : Lib.decDigits u ++ s = Lib.decDigits (u / 10) ++ dgc (u % 10) :: s := by
  rw [Lib.decDigits, dif_neg (by omega), List.append_assoc]; rfl
theorem ba_app (x y : List UInt8) : ba x ++ ba y = ba (x ++ y) := by
  apply ByteArray.ext; simp [ba, ByteArray.data_append]
set_option maxRecDepth 100000 in
set_option maxHeartbeats 4000000 in
theorem rText_pos (u0 : Nat) (w : World) (h : u0 ≤ 9223372036854775807) :
    Calls Tryz.prog 67 #[.int .i64 (u0 : Int)] w fun e w' => e = .returned (.string (ba (Lib.decDigits u0))) ∧ Below w.heap.size w w' := by
  have x0 : ¬ (u0 : Int) < 0 := by omega
  go_enter Tryz.func67, Tryz.ntmps67
  go_wp2_with fail
  clear x0
  go_loopw [0, 4] (fun nv ov wr => ∃ (u : Nat) (s : List UInt8), u ≤ 9223372036854775807 ∧ s.length + u ≤ 9223372036854775807 ∧ (u = 0 → s.length = 0) ∧ nv = .int .i64 (u : Int) ∧ ov = .string (ba s) ∧ Hid (Below w.heap.size w wr) ∧ Hid (Lib.decDigits u0 = Lib.decDigits u ++ s)) (fun nv _ _ => (intOf nv).toNat)
  case atStart => exact ⟨u0, [], h, by simpa using h, fun _ => rfl, rfl, rfl, Lib.hid (Below.refl _ _), Lib.hid (by simp)⟩
  case round =>
    obtain ⟨u, s, hu, hsl, hz, rfl, rfl, HB, HD⟩ := hrel
    go_wp2_with fail
    rw [conv_digit _ (u % 10) (by omega) _ (by omega)]
    simp only [Result.andThen]
    rw [Oper.upon_value]
    have hq : ¬ (9223372036854775807 < 1 + s.length) := by
      by_cases h : u = 0
      · have := hz h; omega
      · omega
    clear hz
    have hq2 : (ba s).size = s.length := ba_size s
    have hq3 : (ba [dgc (u % 10)]).size = 1 := rfl
    have hq4 := ba_app [dgc (u % 10)] s
    have hq5 : (ba (dgc (u % 10) :: s)).size = s.length + 1 := ba_size _
    have hq6 : ¬ (9223372036854775807 < s.length + 1) := by omega
    have hq7 : (⟨#[]⟩ : ByteArray) ++ ba (dgc (u % 10) :: s) = ba (dgc (u % 10) :: s) := ba_app [] _
    by_cases h0 : u / 10 = 0
    · have HD2 := Lib.hid (HD.out.trans (dec_small h0 s))
      have h0' : ((u : Int) / 10 == 0) = true := by simp; omega
      clear h0
      go_wp2_with fail
      go_ret
      exact ⟨by rw [HD2.out]; rfl, balloc HB.out _⟩
    · have HD2 := Lib.hid (HD.out.trans (dec_big h0 s))
      have h0' : ((u : Int) / 10 == 0) = false := by simp; omega
      have H0 := Lib.hid h0
      clear h0
      go_wp2_with fail
      go_roundw
      case rel => exact ⟨u / 10, dgc (u % 10) :: s, by omega, by have := H0.out; simp only [List.length_cons]; omega, fun h => absurd h H0.out, by go_num, rfl, Lib.hid (balloc HB.out _), Lib.hid HD2.out⟩
      case measure => have := H0.out; simp only [intOf]; omega
set_option maxRecDepth 100000 in
set_option maxHeartbeats 4000000 in
theorem rText_neg (u0 : Nat) (w : World) (h : u0 ≤ 9223372036854775808) (h1 : 1 ≤ u0) :
    Calls Tryz.prog 67 #[.int .i64 (-(u0 : Int))] w fun e w' => e = .returned (.string (ba (45 :: Lib.decDigits u0))) ∧ Below w.heap.size w w' := by
  have x1 : 0 < u0 := h1
  go_enter Tryz.func67, Tryz.ntmps67
  go_wp2_with fail
  go_loopw [0, 4] (fun nv ov wr => ∃ (u : Nat) (s : List UInt8), u ≤ 9223372036854775808 ∧ ((s.length = 0 ∧ u = u0) ∨ s.length + u ≤ u0 / 10 + 1) ∧ 1 ≤ u ∧ nv = .int .i64 (-(u : Int)) ∧ ov = .string (ba s) ∧ Hid (Below w.heap.size w wr) ∧ Hid (Lib.decDigits u0 = Lib.decDigits u ++ s)) (fun nv _ _ => (-(intOf nv)).toNat)
  case atStart => exact ⟨u0, [], h, .inl ⟨rfl, rfl⟩, h1, rfl, rfl, Lib.hid (Below.refl _ _), Lib.hid (by simp)⟩
  case round =>
    obtain ⟨u, s, hu, hsl, hz, rfl, rfl, HB, HD⟩ := hrel
    have hq : ¬ (9223372036854775807 < 1 + s.length) := by omega
    have hq2 : (ba s).size = s.length := ba_size s
    have hq3 : (ba [dgc (u % 10)]).size = 1 := rfl
    have hq4 := ba_app [dgc (u % 10)] s
    have hq5 : (ba (dgc (u % 10) :: s)).size = s.length + 1 := ba_size _
    have hq6 : ¬ (9223372036854775807 < 1 + (s.length + 1)) := by omega
    have hq7 : (⟨#[45]⟩ : ByteArray) ++ ba (dgc (u % 10) :: s) = ba (45 :: dgc (u % 10) :: s) := ba_app [45] _
    by_cases hd : u % 10 = 0
    · have hdt : ¬ (0 : Int) < (u : Int) % 10 := by omega
      clear hd
      go_wp2_with fail
      rw [conv_digit _ (u % 10) (by omega) _ (by omega)]
      simp only [Result.andThen]
      rw [Oper.upon_value]
      by_cases h0 : u / 10 = 0
      · have HD2 := Lib.hid (HD.out.trans (dec_small h0 s))
        have h0' : ((u : Int) / 10 == 0) = true := by simp; omega
        have h0'' : (-((u : Int) / 10) == 0) = true := by simp; omega
        clear h0
        go_wp2_with fail
        go_ret
        exact ⟨by rw [HD2.out]; rfl, balloc HB.out _⟩
      · have HD2 := Lib.hid (HD.out.trans (dec_big h0 s))
        have h0' : ((u : Int) / 10 == 0) = false := by simp; omega
        have h0'' : (-((u : Int) / 10) == 0) = false := by simp; omega
        have H0 := Lib.hid h0
        have HSL := Lib.hid hsl
        clear h0 hsl
        go_wp2_with fail
        go_roundw
        case rel => exact ⟨u / 10, dgc (u % 10) :: s, by omega, by have := H0.out; have := HSL.out; simp only [List.length_cons]; right; omega, by have := H0.out; omega, by go_num, rfl, Lib.hid (balloc HB.out _), Lib.hid HD2.out⟩
        case measure => have := H0.out; simp only [intOf]; omega
    · have hdt : (0 : Int) < (u : Int) % 10 := by omega
      clear hd
      go_wp2_with fail
      rw [conv_digit _ (u % 10) (by omega) _ (by omega)]
      simp only [Result.andThen]
      rw [Oper.upon_value]
      by_cases h0 : u / 10 = 0
      · have HD2 := Lib.hid (HD.out.trans (dec_small h0 s))
        have h0' : ((u : Int) / 10 == 0) = true := by simp; omega
        have h0'' : (-((u : Int) / 10) == 0) = true := by simp; omega
        clear h0
        go_wp2_with fail
        go_ret
        exact ⟨by rw [HD2.out]; rfl, balloc HB.out _⟩
      · have HD2 := Lib.hid (HD.out.trans (dec_big h0 s))
        have h0' : ((u : Int) / 10 == 0) = false := by simp; omega
        have h0'' : (-((u : Int) / 10) == 0) = false := by simp; omega
        have H0 := Lib.hid h0
        have HSL := Lib.hid hsl
        clear h0 hsl
        go_wp2_with fail
        go_roundw
        case rel => exact ⟨u / 10, dgc (u % 10) :: s, by omega, by have := H0.out; have := HSL.out; simp only [List.length_cons]; right; omega, by have := H0.out; omega, by go_num, rfl, Lib.hid (balloc HB.out _), Lib.hid HD2.out⟩
        case measure => have := H0.out; simp only [intOf]; omega
theorem number_any (n : Int) (w : World) (h0 : -9223372036854775808 ≤ n) (h1 : n ≤ 9223372036854775807) :
    Calls Tryz.prog 42 #[.int .i64 n] w fun e w' => e = .returned (.string (ba (Lib.itoa n))) ∧ Below w.heap.size w w' := by
  have HT := Lib.hid (show Calls Tryz.prog 67 #[.int .i64 n] w fun e w' => e = .returned (.string (ba (Lib.itoa n))) ∧ Below w.heap.size w w' by
    unfold Lib.itoa
    by_cases hn : n < 0
    · rw [if_pos hn]
      have := rText_neg n.natAbs w (by omega) (by omega)
      rw [show -(n.natAbs : Int) = n by omega] at this
      exact this
    · rw [if_neg hn]
      have := rText_pos n.toNat w (by omega)
      rw [show (n.toNat : Int) = n by omega] at this
      exact this)
  clear h0 h1
  go_enter Tryz.func42, Tryz.ntmps42
  go_wp2_with fail
  refine HT.out.mono ?_
  rintro e w1 ⟨rfl, hb⟩
  have HB := Lib.hid hb
  clear hb
  go_wp2_with fail
  go_ret
  exact ⟨rfl, HB.out⟩
end Go.Proofs.YtgfodedmcjkmaaaGreatDoor
namespace Go.Proofs.YtgfodedmcjkmaaaGreatDoor
open Go.RowKit Go.Proofs.BitsM
/-- what the reference's text answers of terms with fewer than m parts -/
def TextR (m : Nat) : Prop := ∀ (f : Fd) (it : TL) (iv : Value) (A B : Nat) (w : World), it.cnt < m → formT f it = true → f.iok → it.iok → (textT f it).length ≤ 1000000000 → RdS w A B it iv → B ≤ w.heap.size →
  Calls Tryz.prog 27 #[.agg #[.int .i64 f.k, .int .i64 f.i, .int .i64 f.g, .string f.nm, .string f.fn, .int .i64 f.ar, iv, .string f.bs, .int .i64 f.n]] w fun e w' => e = .returned (.string (ba (textT f it))) ∧ Below w.heap.size w w'
theorem joinC_at_le (ts : List (List UInt8)) (k : Nat) (x : List UInt8) (h : ts[k]? = some x) : x.length ≤ (joinC ts).length := by
  have a := joinC_take ts k x h
  have b := joinC_take_le ts (k + 1)
  rw [a] at b
  simp only [List.length_append] at b
  omega
set_option maxRecDepth 100000 in
set_option maxHeartbeats 4000000 in
theorem joined_r (m : Nat) (hT : TextR m) (l : TL) (v : Value) (A B : Nat) (w : World) (hm : l.cnt ≤ m) (hf : formL l = true) (hi : l.iok) (hlen : (joinC l.texts).length ≤ 1000000000) (hs : RdS w A B l v) (hB : B ≤ w.heap.size) :
    Calls Tryz.prog 43 #[v] w fun e w' => e = .returned (.string (ba (joinC l.texts))) ∧ Below w.heap.size w w' := by
  have HT := Lib.hid hT
  have HFI := Lib.hid fun k f it r (e : l.drop k = .cons f it r) => formL_at hf hi e
  have HL := Lib.hid hlen
  obtain ⟨ao, cap, rfl, hcap, hmax, hr⟩ := hs
  unfold maxLen at hmax
  have HR := Lib.hid hr
  clear hr hT hf hi hlen
  go_enter Tryz.func43, Tryz.ntmps43
  go_wp2_with fail
  go_loopw [3, 4] (fun ov i wr => ∃ (k : Nat) (acc : List UInt8), k ≤ l.len ∧ i = .int .i64 k ∧ ov = .string (ba acc) ∧ Hid (Below w.heap.size w wr) ∧ Hid (joinC (l.texts.take k) = acc)) (fun _ i _ => l.len - (intOf i).toNat)
  case atStart => exact ⟨0, [], Nat.zero_le _, rfl, rfl, Lib.hid (Below.refl _ _), Lib.hid (by rw [List.take_zero]; rfl)⟩
  case round =>
    obtain ⟨k, acc, hk, rfl, rfl, HB, HA⟩ := hrel
    by_cases hlt : k < l.len
    · have hlt' : (k : Int) < (l.len : Int) := by omega
      obtain ⟨f, it, e1⟩ := TL.drop_at l k hlt
      obtain ⟨ob, o, rfl, hrd⟩ := HR.out (by intro e; rw [e] at hlt; simp [TL.len] at hlt)
      obtain ⟨-, hb, iv, hcl, hit⟩ := Rd.at_ l ob o k f it _ hrd e1
      have HIT := Lib.hid hit
      obtain ⟨ai, ci, rfl, -, -, -⟩ := HIT.out
      have hcw : ∀ j v, (f.cells (.slice ai it.len ci))[j]? = some v → wr.cell? ⟨ob, o + 9 * k + j, none⟩ = some v := fun j v hj => (HB.out.cell (p := ⟨ob, o + 9 * k + j, none⟩) (by exact Nat.lt_of_lt_of_le hb hB)).trans (hcl j v hj)
      have c0 : wr.cell? ⟨ob, o + k * 9, none⟩ = some (.int .i64 f.k) := by have h := hcw 0 _ rfl; rw [Nat.mul_comm 9 k] at h; exact h
      have c1 : wr.cell? ⟨ob, o + k * 9 + 1, none⟩ = some (.int .i64 f.i) := by have h := hcw 1 _ rfl; rw [Nat.mul_comm 9 k] at h; exact h
      have c2 : wr.cell? ⟨ob, o + k * 9 + 2, none⟩ = some (.int .i64 f.g) := by have h := hcw 2 _ rfl; rw [Nat.mul_comm 9 k] at h; exact h
      have c3 : wr.cell? ⟨ob, o + k * 9 + 3, none⟩ = some (.string f.nm) := by have h := hcw 3 _ rfl; rw [Nat.mul_comm 9 k] at h; exact h
      have c4 : wr.cell? ⟨ob, o + k * 9 + 4, none⟩ = some (.string f.fn) := by have h := hcw 4 _ rfl; rw [Nat.mul_comm 9 k] at h; exact h
      have c5 : wr.cell? ⟨ob, o + k * 9 + 5, none⟩ = some (.int .i64 f.ar) := by have h := hcw 5 _ rfl; rw [Nat.mul_comm 9 k] at h; exact h
      have c6 : wr.cell? ⟨ob, o + k * 9 + 6, none⟩ = some (.slice ai it.len ci) := by have h := hcw 6 _ rfl; rw [Nat.mul_comm 9 k] at h; exact h
      have c7 : wr.cell? ⟨ob, o + k * 9 + 7, none⟩ = some (.string f.bs) := by have h := hcw 7 _ rfl; rw [Nat.mul_comm 9 k] at h; exact h
      have c8 : wr.cell? ⟨ob, o + k * 9 + 8, none⟩ = some (.int .i64 f.n) := by have h := hcw 8 _ rfl; rw [Nat.mul_comm 9 k] at h; exact h
      have hcnt : it.cnt < m := by
        have h1 := TL.cnt_drop l k
        rw [e1] at h1
        simp only [TL.cnt] at h1
        omega
      have HFT := Lib.hid (HFI.out k f it _ e1)
      have HJ := Lib.hid (joinC_take _ _ _ (texts_at e1))
      have hjl := joinC_take_le l.texts (k + 1)
      rw [HJ.out, HA.out] at hjl
      simp only [List.length_append] at hjl
      have hX := joinC_at_le _ _ _ (texts_at e1)
      have hll := HL.out
      have HCall := Lib.hid fun W (hbW : Below w.heap.size w W) => HT.out f it (.slice ai it.len ci) A B W hcnt HFT.out.1 HFT.out.2.1 HFT.out.2.2 (Nat.le_trans hX hll) (HIT.out.below hbW hB) (Nat.le_trans hB hbW.size)
      generalize textT f it = tx at HCall HJ hjl hX
      have s1 : (ba acc).size = acc.length := ba_size _
      have s2 : (ba tx).size = tx.length := ba_size _
      clear hcl hcw hrd e1 hit hX
      by_cases hk0 : k = 0
      · subst hk0
        rw [if_pos rfl] at hjl
        simp only [Nat.zero_mul, Nat.add_zero] at c0 c1 c2 c3 c4 c5 c6 c7 c8
        have q2 : ¬ (9223372036854775807 < acc.length + tx.length) := by omega
        have a2 := ba_app acc tx
        clear hjl hll
        go_wp2_with fail
        refine (HCall.out _ HB.out).mono ?_
        rintro e w1 ⟨rfl, hb1⟩
        have HB1 := Lib.hid (bstep HB.out hb1)
        clear hb1 c0 c1 c2 c3 c4 c5 c6 c7 c8
        go_wp2_with fail
        go_roundw
        case rel => exact ⟨0 + 1, acc ++ tx, by omega, by go_num, rfl, HB1, Lib.hid (by rw [HJ.out, HA.out]; simp)⟩
        case measure => simp only [intOf]; omega
      · rw [if_neg hk0] at hjl
        simp only [List.length_cons, List.length_nil] at hjl
        have x1 : (0 : Int) < (k : Int) := by omega
        have q1 : ¬ (9223372036854775807 < acc.length + 1) := by omega
        have q2 : ¬ (9223372036854775807 < acc.length + 1 + tx.length) := by omega
        have a1 : ba acc ++ (⟨#[44]⟩ : ByteArray) = ba (acc ++ [44]) := ba_app acc [44]
        have s3 : (ba (acc ++ [44])).size = acc.length + 1 := by rw [ba_size, List.length_append]; rfl
        have a2 : ba (acc ++ [44]) ++ ba tx = ba (acc ++ 44 :: tx) := by rw [ba_app, List.append_assoc]; rfl
        clear hjl hll
        go_wp2_with fail
        refine (HCall.out _ HB.out).mono ?_
        rintro e w1 ⟨rfl, hb1⟩
        have HB1 := Lib.hid (bstep HB.out hb1)
        clear hb1 c0 c1 c2 c3 c4 c5 c6 c7 c8
        go_wp2_with fail
        go_roundw
        case rel => exact ⟨k + 1, acc ++ 44 :: tx, by omega, by go_num, rfl, HB1, Lib.hid (by rw [HJ.out, HA.out, if_neg hk0]; simp)⟩
        case measure => simp only [intOf]; omega
    · have x1 : ¬ (k : Int) < (l.len : Int) := by omega
      obtain rfl : k = l.len := by omega
      have hA := HA.out
      rw [← texts_len, List.take_length] at hA
      have HE := Lib.hid hA
      clear hA
      go_wp2_with fail
      go_ret
      exact ⟨by rw [HE.out]; rfl, HB.out⟩
end Go.Proofs.YtgfodedmcjkmaaaGreatDoor
namespace Go.Proofs.YtgfodedmcjkmaaaGreatDoor
open Go.RowKit Go.Proofs.BitsM
theorem number_b {W : World} {fs : List Fq} (h : Bq W fs) (n : Int) (h0 : -9223372036854775808 ≤ n) (h1 : n ≤ 9223372036854775807) :
    Calls Tryz.prog 42 #[.int .i64 n] W fun e w' => e = .returned (.string (ba (Lib.itoa n))) ∧ Bq w' fs :=
  (number_any n W h0 h1).mono fun _ _ hh => ⟨hh.1, h.below hh.2⟩
set_option maxRecDepth 100000 in
set_option maxHeartbeats 8000000 in
theorem bits_r (f : Fd) (iv : Value) (w : World) (hn0 : 0 ≤ f.n) (hn1 : f.n ≤ 16384) (hsz : (f.bs.size : Int) = (f.n + 7) / 8) (hlen : (joinC (segs (bl f.bs) f.n)).length ≤ 1000000000) :
    Calls Tryz.prog 44 #[.agg #[.int .i64 f.k, .int .i64 f.i, .int .i64 f.g, .string f.nm, .string f.fn, .int .i64 f.ar, iv, .string f.bs, .int .i64 f.n]] w fun e w' => e = .returned (.string (ba (joinC (segs (bl f.bs) f.n)))) ∧ Below w.heap.size w w' := by
  have HL := Lib.hid hlen
  have HSz := Lib.hid hsz
  have hs1 : f.bs.size ≤ 3000 := by omega
  have hbl : (bl f.bs).length = f.bs.size := Array.length_toList
  have HBl := Lib.hid hbl
  have HF := Lib.hid ((show Bq w [.base (fun _ => False) w] from ⟨Ch.refl _ _, trivial⟩).box #[.int .i64 f.k, .int .i64 f.i, .int .i64 f.g, .string f.nm, .string f.fn, .int .i64 f.ar, iv, .string f.bs, .int .i64 f.n] 24 (n := w.heap.size) rfl)
  clear hlen hbl hsz
  go_enter Tryz.func44, Tryz.ntmps44
  go_upto_region 1 with (fail)
  generalize w.alloc _ = w0 at HF ⊢
  generalize Value.agg #[.int .i64 f.k, .int .i64 f.i, .int .i64 f.g, .string f.nm, .string f.fn, .int .i64 f.ar, iv, .string f.bs, .int .i64 f.n] = V
  go_wp2_with fail
  go_loopw [3, 4] (fun ov i wr => ∃ (k : Nat) (acc : List UInt8), k ≤ f.bs.size ∧ i = .int .i64 k ∧ ov = .string (ba acc) ∧ Hid (Bq wr [.blk w.heap.size #[.int .i64 f.k, .int .i64 f.i, .int .i64 f.g, .string f.nm, .string f.fn, .int .i64 f.ar, iv, .string f.bs, .int .i64 f.n] 24, .base (fun _ => False) w]) ∧ Hid (joinC ((segs (bl f.bs) f.n).take k) = acc)) (fun _ i _ => f.bs.size - (intOf i).toNat)
  case atStart => exact ⟨0, [], Nat.zero_le _, rfl, rfl, HF, Lib.hid (by rw [List.take_zero]; rfl)⟩
  case round =>
    obtain ⟨k, acc, hk, rfl, rfl, HB, HA⟩ := hrel
    have c7 := cells_of (HB.out.blk 0 rfl) 7
    have c8 := cells_of (HB.out.blk 0 rfl) 8
    by_cases hlt : k < f.bs.size
    · have hlt' : (k : Int) < (f.bs.size : Int) := by omega
      have hat : (bl f.bs)[k]? = some (f.bs[k]'hlt) := by
        have : k < (bl f.bs).length := by rw [HBl.out]; exact hlt
        rw [List.getElem?_eq_getElem this]; rfl
      have HJ := Lib.hid (joinC_take _ _ _ (segs_at _ f.n _ _ hat))
      have hjl := joinC_take_le (segs (bl f.bs) f.n) (k + 1)
      rw [HJ.out, HA.out] at hjl
      have hll := HL.out
      clear hat
      obtain ⟨L, hLn⟩ : ∃ L, L = f.n - 8 * (k : Int) := ⟨_, rfl⟩
      have hL : 1 ≤ L := by have := HSz.out; omega
      have hL2 : L ≤ 16384 := by omega
      rw [← hLn] at HJ hjl
      have HLn := Lib.hid hLn
      clear hLn
      have hxb : (f.bs[k]'hlt).toNat < 256 := (f.bs[k]'hlt).toNat_lt
      generalize hx : f.bs[k]'hlt = X at HJ hjl hxb
      have s1 : (ba acc).size = acc.length := ba_size _
      by_cases hk0 : k = 0
      · subst hk0
        go_upto_region 9 with (fail)
        rw [show f.n = L by have := HLn.out; omega]
        by_cases h8 : L < 8
        · have HG := Lib.hid (show segOne X L = Lib.itoa ((X.toNat / 2 ^ (8 - L.toNat) : Nat) : Int) ++ 58 :: Lib.itoa L by unfold segOne; rw [if_pos h8])
          obtain ⟨ln, rfl⟩ : ∃ ln : Nat, L = (ln : Int) := ⟨L.toNat, by omega⟩
          have x8 : ¬ (8 : Int) ≤ (ln : Int) := by omega
          rw [HG.out] at hjl
          have HJ := Lib.hid (HJ.out.trans (by rw [HG.out]))
          have hjl := Lib.hid hjl
          go_wp2_with fail
          go_loopw [5, 7] (fun bv jv wr2 => ∃ (j c : Nat), ln ≤ j ∧ j ≤ 8 ∧ jv = .int .i64 j ∧ bv = .int .i64 (c : Int) ∧ c < 256 ∧ Hid (c = X.toNat / 2 ^ (j - ln)) ∧ wr2 = wr) (fun _ jv _ => 8 - (intOf jv).toNat)
          case atStart => exact ⟨ln, X.toNat, Nat.le_refl _, by omega, rfl, rfl, hxb, Lib.hid (by rw [Nat.sub_self]; simp), rfl⟩
          case round =>
            obtain ⟨j, c, hj1, hj2, rfl, rfl, hc, HC, rfl⟩ := hrel
            by_cases hj : j < 8
            · have xj : (j : Int) < 8 := by omega
              go_wp2_with fail
              go_roundw
              case rel => exact ⟨j + 1, c / 2, by omega, by omega, by go_num, by go_num, by omega, Lib.hid (by rw [HC.out, Nat.div_div_eq_div_mul, ← Nat.pow_succ]; congr 2; omega), trivial⟩
              case measure => simp only [intOf]; omega
            · have xj : ¬ (j : Int) < 8 := by omega
              obtain rfl : j = 8 := by omega
              have HC := Lib.hid (show c = X.toNat / 2 ^ (8 - (ln : Int).toNat) by rw [Int.toNat_natCast]; exact HC.out)
              rw [← HC.out] at HJ
              have hjl := hjl.out
              rw [← HC.out] at hjl
              clear HC HG
              generalize hta : Lib.itoa (c : Int) = ta at HJ hjl
              generalize htb : Lib.itoa (ln : Int) = tb at HJ hjl
              have HTA := Lib.hid hta
              have HTB := Lib.hid htb
              clear hta htb
              simp at hjl
              have s2 : (ba ta).size = ta.length := ba_size _
              have s3 : (ba tb).size = tb.length := ba_size _
              have q2 : ¬ (9223372036854775807 < acc.length + ta.length) := by omega
              have q3 : ¬ (9223372036854775807 < acc.length + ta.length + 1) := by omega
              have q4 : ¬ (9223372036854775807 < acc.length + ta.length + 1 + tb.length) := by omega
              have a2 : ba (acc) ++ ba ta = ba ((acc) ++ ta) := ba_app _ _
              generalize hz1 : (acc) ++ ta = z1 at a2
              have s4 : (ba z1).size = acc.length + ta.length := by have e := congrArg List.length hz1; simp at e; rw [ba_size]; omega
              have a3 : ba z1 ++ (⟨#[58]⟩ : ByteArray) = ba (z1 ++ [58]) := ba_app _ [58]
              generalize hz2 : z1 ++ [58] = z2 at a3
              have s5 : (ba z2).size = acc.length + ta.length + 1 := by have e := congrArg List.length hz1; have e2 := congrArg List.length hz2; simp at e e2; rw [ba_size]; omega
              have a4 : ba z2 ++ ba tb = ba (z2 ++ tb) := ba_app _ _
              have HZ1 := Lib.hid hz1
              have HZ2 := Lib.hid hz2
              clear hz1 hz2 hjl hll
              go_wp2_with fail
              refine (number_b HB.out _ (by omega) (by omega)).mono ?_
              rw [HTA.out]
              rintro e w2 ⟨rfl, hb⟩
              have HB := Lib.hid hb
              clear hb
              go_wp2_with fail
              refine (number_b HB.out _ (by omega) (by omega)).mono ?_
              rw [HTB.out]
              rintro e w3 ⟨rfl, hb⟩
              have HB := Lib.hid hb
              clear hb c7 c8
              go_wp2_with fail
              go_roundw
              case rel => exact ⟨0 + 1, z2 ++ tb, by omega, by go_num, rfl, HB, Lib.hid (by rw [HJ.out, HA.out, ← HZ2.out, ← HZ1.out]; simp)⟩
              case measure => simp only [intOf]; omega
        · have HG := Lib.hid (segOne_ge X L h8)
          have x8 : (8 : Int) ≤ L := by omega
          rw [HG.out] at hjl
          have HJ := Lib.hid (HJ.out.trans (by rw [HG.out]))
          clear HG
          generalize hta : Lib.itoa (X.toNat : Int) = ta at HJ hjl
          have HTA := Lib.hid hta
          clear hta
          simp at hjl
          have s2 : (ba ta).size = ta.length := ba_size _
          have q2 : ¬ (9223372036854775807 < acc.length + ta.length) := by omega
          have a2 : ba (acc) ++ ba ta = ba ((acc) ++ ta) := ba_app _ _
          generalize hz1 : (acc) ++ ta = z1 at a2
          have HZ1 := Lib.hid hz1
          clear hz1 hjl hll
          go_wp2_with fail
          refine (number_b HB.out _ (by omega) (by omega)).mono ?_
          rw [HTA.out]
          rintro e w2 ⟨rfl, hb⟩
          have HB := Lib.hid hb
          clear hb c7 c8
          go_wp2_with fail
          go_roundw
          case rel => exact ⟨0 + 1, z1, by omega, by go_num, rfl, HB, Lib.hid (by rw [HJ.out, HA.out, ← HZ1.out]; simp)⟩
          case measure => simp only [intOf]; omega
      · have x0 : (0 : Int) < (k : Int) := by omega
        have q1 : ¬ (9223372036854775807 < acc.length + 1) := by simp only [List.length_append] at hjl; omega
        have a1 : ba acc ++ (⟨#[44]⟩ : ByteArray) = ba (acc ++ [44]) := ba_app acc [44]
        have sa : (ba (acc ++ [44])).size = acc.length + 1 := by rw [ba_size, List.length_append]; rfl
        go_upto_region 9 with (fail)
        rw [← HLn.out]
        by_cases h8 : L < 8
        · have HG := Lib.hid (show segOne X L = Lib.itoa ((X.toNat / 2 ^ (8 - L.toNat) : Nat) : Int) ++ 58 :: Lib.itoa L by unfold segOne; rw [if_pos h8])
          obtain ⟨ln, rfl⟩ : ∃ ln : Nat, L = (ln : Int) := ⟨L.toNat, by omega⟩
          have x8 : ¬ (8 : Int) ≤ (ln : Int) := by omega
          rw [HG.out] at hjl
          have HJ := Lib.hid (HJ.out.trans (by rw [HG.out]))
          have hjl := Lib.hid hjl
          go_wp2_with fail
          go_loopw [5, 7] (fun bv jv wr2 => ∃ (j c : Nat), ln ≤ j ∧ j ≤ 8 ∧ jv = .int .i64 j ∧ bv = .int .i64 (c : Int) ∧ c < 256 ∧ Hid (c = X.toNat / 2 ^ (j - ln)) ∧ wr2 = wr) (fun _ jv _ => 8 - (intOf jv).toNat)
          case atStart => exact ⟨ln, X.toNat, Nat.le_refl _, by omega, rfl, rfl, hxb, Lib.hid (by rw [Nat.sub_self]; simp), rfl⟩
          case round =>
            obtain ⟨j, c, hj1, hj2, rfl, rfl, hc, HC, rfl⟩ := hrel
            by_cases hj : j < 8
            · have xj : (j : Int) < 8 := by omega
              go_wp2_with fail
              go_roundw
              case rel => exact ⟨j + 1, c / 2, by omega, by omega, by go_num, by go_num, by omega, Lib.hid (by rw [HC.out, Nat.div_div_eq_div_mul, ← Nat.pow_succ]; congr 2; omega), trivial⟩
              case measure => simp only [intOf]; omega
            · have xj : ¬ (j : Int) < 8 := by omega
              obtain rfl : j = 8 := by omega
              have HC := Lib.hid (show c = X.toNat / 2 ^ (8 - (ln : Int).toNat) by rw [Int.toNat_natCast]; exact HC.out)
              rw [← HC.out] at HJ
              have hjl := hjl.out
              rw [← HC.out] at hjl
              clear HC HG
              generalize hta : Lib.itoa (c : Int) = ta at HJ hjl
              generalize htb : Lib.itoa (ln : Int) = tb at HJ hjl
              have HTA := Lib.hid hta
              have HTB := Lib.hid htb
              clear hta htb
              rw [if_neg hk0] at hjl; simp at hjl
              have s2 : (ba ta).size = ta.length := ba_size _
              have s3 : (ba tb).size = tb.length := ba_size _
              have q2 : ¬ (9223372036854775807 < acc.length + 1 + ta.length) := by omega
              have q3 : ¬ (9223372036854775807 < acc.length + 1 + ta.length + 1) := by omega
              have q4 : ¬ (9223372036854775807 < acc.length + 1 + ta.length + 1 + tb.length) := by omega
              have a2 : ba (acc ++ [44]) ++ ba ta = ba ((acc ++ [44]) ++ ta) := ba_app _ _
              generalize hz1 : (acc ++ [44]) ++ ta = z1 at a2
              have s4 : (ba z1).size = acc.length + 1 + ta.length := by have e := congrArg List.length hz1; simp at e; rw [ba_size]; omega
              have a3 : ba z1 ++ (⟨#[58]⟩ : ByteArray) = ba (z1 ++ [58]) := ba_app _ [58]
              generalize hz2 : z1 ++ [58] = z2 at a3
              have s5 : (ba z2).size = acc.length + 1 + ta.length + 1 := by have e := congrArg List.length hz1; have e2 := congrArg List.length hz2; simp at e e2; rw [ba_size]; omega
              have a4 : ba z2 ++ ba tb = ba (z2 ++ tb) := ba_app _ _
              have HZ1 := Lib.hid hz1
              have HZ2 := Lib.hid hz2
              clear hz1 hz2 hjl hll
              go_wp2_with fail
              refine (number_b HB.out _ (by omega) (by omega)).mono ?_
              rw [HTA.out]
              rintro e w2 ⟨rfl, hb⟩
              have HB := Lib.hid hb
              clear hb
              go_wp2_with fail
              refine (number_b HB.out _ (by omega) (by omega)).mono ?_
              rw [HTB.out]
              rintro e w3 ⟨rfl, hb⟩
              have HB := Lib.hid hb
              clear hb c7 c8
              go_wp2_with fail
              go_roundw
              case rel => exact ⟨k + 1, z2 ++ tb, by omega, by go_num, rfl, HB, Lib.hid (by rw [HJ.out, HA.out, ← HZ2.out, ← HZ1.out]; rw [if_neg hk0]; simp)⟩
              case measure => simp only [intOf]; omega
        · have HG := Lib.hid (segOne_ge X L h8)
          have x8 : (8 : Int) ≤ L := by omega
          rw [HG.out] at hjl
          have HJ := Lib.hid (HJ.out.trans (by rw [HG.out]))
          clear HG
          generalize hta : Lib.itoa (X.toNat : Int) = ta at HJ hjl
          have HTA := Lib.hid hta
          clear hta
          rw [if_neg hk0] at hjl; simp at hjl
          have s2 : (ba ta).size = ta.length := ba_size _
          have q2 : ¬ (9223372036854775807 < acc.length + 1 + ta.length) := by omega
          have a2 : ba (acc ++ [44]) ++ ba ta = ba ((acc ++ [44]) ++ ta) := ba_app _ _
          generalize hz1 : (acc ++ [44]) ++ ta = z1 at a2
          have HZ1 := Lib.hid hz1
          clear hz1 hjl hll
          go_wp2_with fail
          refine (number_b HB.out _ (by omega) (by omega)).mono ?_
          rw [HTA.out]
          rintro e w2 ⟨rfl, hb⟩
          have HB := Lib.hid hb
          clear hb c7 c8
          go_wp2_with fail
          go_roundw
          case rel => exact ⟨k + 1, z1, by omega, by go_num, rfl, HB, Lib.hid (by rw [HJ.out, HA.out, ← HZ1.out]; rw [if_neg hk0]; simp)⟩
          case measure => simp only [intOf]; omega
    · have x1 : ¬ (k : Int) < (f.bs.size : Int) := by omega
      obtain rfl : k = f.bs.size := by omega
      have e := HA.out
      rw [List.take_of_length_le (by rw [segs_length, HBl.out]; exact Nat.le_refl _)] at e
      have HE := Lib.hid e
      clear e
      go_wp2_with fail
      go_ret
      exact ⟨by rw [HE.out]; rfl, (HB.out.base 1 rfl).below (Nat.le_refl _) fun _ _ h => h⟩
end Go.Proofs.YtgfodedmcjkmaaaGreatDoor
namespace Go.Proofs.YtgfodedmcjkmaaaGreatDoor
open Go.RowKit Go.Proofs.BitsM
theorem ba_bl2 (s : ByteArray) : ba (bl s) = s := rfl
theorem bl_size (s : ByteArray) : s.size = (bl s).length := Array.length_toList.symm
set_option maxRecDepth 100000 in
set_option maxHeartbeats 8000000 in
theorem t_k3 (fi fg far fnn : Int) (fnm ffn fbs : ByteArray) (it : TL) (ai : Option Addr) (ci : Nat) (w : World) (hi : -9223372036854775808 ≤ fi ∧ fi ≤ 9223372036854775807) (hg : -9223372036854775808 ≤ fg ∧ fg ≤ 9223372036854775807) (hlen : (textT (⟨3, fi, fg, fnm, ffn, far, fbs, fnn⟩ : Fd) it).length ≤ 1000000000) :
    Calls Tryz.prog 27 #[.agg #[.int .i64 3, .int .i64 fi, .int .i64 fg, .string fnm, .string ffn, .int .i64 far, (.slice ai it.len ci), .string fbs, .int .i64 fnn]] w fun e w' => e = .returned (.string (ba (textT (⟨3, fi, fg, fnm, ffn, far, fbs, fnn⟩ : Fd) it))) ∧ Below w.heap.size w w' := by
  have hx : textT (⟨3, fi, fg, fnm, ffn, far, fbs, fnn⟩ : Fd) it = [35, 82, 101, 102, 60] ++ ((bl fnm ++ 46 :: (Lib.itoa fg ++ 46 :: Lib.itoa fi)) ++ [62]) := textT_k3 (f := (⟨3, fi, fg, fnm, ffn, far, fbs, fnn⟩ : Fd)) (it := it) rfl
  rw [hx] at hlen ⊢
  clear hx
  have HF := Lib.hid ((show Bq w [.base (fun _ => False) w] from ⟨Ch.refl _ _, trivial⟩).box #[.int .i64 3, .int .i64 fi, .int .i64 fg, .string fnm, .string ffn, .int .i64 far, (.slice ai it.len ci), .string fbs, .int .i64 fnn] 24 (n := w.heap.size) rfl)
  have HI := Lib.hid hi
  clear hi
  have HG := Lib.hid hg
  clear hg
  have HNg := Lib.hid fun W (hbW : Below w.heap.size w W) => number_any fg W HG.out.1 HG.out.2
  have HNi := Lib.hid fun W (hbW : Below w.heap.size w W) => number_any fi W HI.out.1 HI.out.2
  generalize Lib.itoa fg = tg at HNg hlen ⊢
  generalize Lib.itoa fi = ti at HNi hlen ⊢
  have stg : (ba tg).size = tg.length := ba_size _
  have sti : (ba ti).size = ti.length := ba_size _
  have q0 : ¬ (9223372036854775807 < 5 + fnm.size) := by have := bl_size fnm; have := bl_size ffn; simp at hlen; omega
  have q1 : ¬ (9223372036854775807 < 5 + fnm.size + 1) := by have := bl_size fnm; have := bl_size ffn; simp at hlen; omega
  have q2 : ¬ (9223372036854775807 < 5 + fnm.size + 1 + tg.length) := by have := bl_size fnm; have := bl_size ffn; simp at hlen; omega
  have q3 : ¬ (9223372036854775807 < 5 + fnm.size + 1 + tg.length + 1) := by have := bl_size fnm; have := bl_size ffn; simp at hlen; omega
  have q4 : ¬ (9223372036854775807 < 5 + fnm.size + 1 + tg.length + 1 + ti.length) := by have := bl_size fnm; have := bl_size ffn; simp at hlen; omega
  have q5 : ¬ (9223372036854775807 < 5 + fnm.size + 1 + tg.length + 1 + ti.length + 1) := by have := bl_size fnm; have := bl_size ffn; simp at hlen; omega
  have HE := Lib.hid (show (⟨#[35, 82, 101, 102, 60]⟩ : ByteArray) ++ fnm ++ ⟨#[46]⟩ ++ ba tg ++ ⟨#[46]⟩ ++ ba ti ++ ⟨#[62]⟩ = ba ([35, 82, 101, 102, 60] ++ ((bl fnm ++ 46 :: (tg ++ 46 :: ti)) ++ [62])) by show ba _ ++ ba (bl fnm) ++ ba [46] ++ ba tg ++ ba [46] ++ ba ti ++ ba [62] = _; simp only [ba_app]; simp)
  clear hlen
  generalize [35, 82, 101, 102, 60] ++ ((bl fnm ++ 46 :: (tg ++ 46 :: ti)) ++ [62]) = TX at HE ⊢
  go_enter Tryz.func27, Tryz.ntmps27
  go_upto_region 1 with (fail)
  generalize w.alloc _ = w1 at HF ⊢
  have c0 : w1.cell? ⟨w.heap.size, 0, none⟩ = some (.int .i64 3) := cells_of (HF.out.blk 0 rfl) 0
  go_upto_region 7 with (fail)
  have c1 : w1.cell? ⟨w.heap.size, 1, none⟩ = some (.int .i64 fi) := cells_of (HF.out.blk 0 rfl) 1
  have c2 : w1.cell? ⟨w.heap.size, 2, none⟩ = some (.int .i64 fg) := cells_of (HF.out.blk 0 rfl) 2
  have c3 : w1.cell? ⟨w.heap.size, 3, none⟩ = some (.string fnm) := cells_of (HF.out.blk 0 rfl) 3
  have hb0 : Below w.heap.size w w1 := (HF.out.base 1 rfl).below (Nat.le_refl _) fun _ _ h => h
  have HNg := Lib.hid fun W (hb : Below w1.heap.size w1 W) => HNg.out W (bstep hb0 hb)
  have HNi := Lib.hid fun W (hb : Below w1.heap.size w1 W) => HNi.out W (bstep hb0 hb)
  clear hb0
  have HBc := Lib.hid (Below.refl w1.heap.size w1)
  go_region_held3 (fun w' => w'.cell? ⟨w.heap.size, 1, none⟩ = some (.int .i64 fi) ∧ w'.cell? ⟨w.heap.size, 2, none⟩ = some (.int .i64 fg) ∧ w'.cell? ⟨w.heap.size, 3, none⟩ = some (.string fnm))
    (first | (exact ⟨c1, c2, c3⟩) | (go_split_ands; refine ⟨?_, ?_, ?_⟩ <;> exact below_keep hb1 (by assumption)))
    (first | (go_at_call 42; ((with_reducible refine (HNg.out _ (by first | exact HBc.out | exact HBc.out.drew)).mono ?_); rintro e w2 ⟨rfl, hb1⟩); have HBc := Lib.hid (show Below w1.heap.size w1 w2 by first | exact bstep HBc.out hb1 | exact bstep HBc.out.drew hb1)) | (go_at_call 42; ((with_reducible refine (HNi.out _ (by first | exact HBc.out | exact HBc.out.drew)).mono ?_); rintro e w2 ⟨rfl, hb1⟩); have HBc := Lib.hid (show Below w1.heap.size w1 w2 by first | exact bstep HBc.out hb1 | exact bstep HBc.out.drew hb1)))
  have HF := Lib.hid (HF.out.below HBc.out)
  go_wp2_with fail
  go_ret
  exact ⟨congrArg (fun x => Ending.returned (Value.string x)) HE.out, (HF.out.base 1 rfl).below (Nat.le_refl _) fun _ _ h => h⟩
set_option maxRecDepth 100000 in
set_option maxHeartbeats 8000000 in
theorem t_k6 (fi fg far fnn : Int) (fnm ffn fbs : ByteArray) (it : TL) (ai : Option Addr) (ci : Nat) (w : World) (hi : -9223372036854775808 ≤ fi ∧ fi ≤ 9223372036854775807) (hg : -9223372036854775808 ≤ fg ∧ fg ≤ 9223372036854775807) (hlen : (textT (⟨6, fi, fg, fnm, ffn, far, fbs, fnn⟩ : Fd) it).length ≤ 1000000000) :
    Calls Tryz.prog 27 #[.agg #[.int .i64 6, .int .i64 fi, .int .i64 fg, .string fnm, .string ffn, .int .i64 far, (.slice ai it.len ci), .string fbs, .int .i64 fnn]] w fun e w' => e = .returned (.string (ba (textT (⟨6, fi, fg, fnm, ffn, far, fbs, fnn⟩ : Fd) it))) ∧ Below w.heap.size w w' := by
  have hx : textT (⟨6, fi, fg, fnm, ffn, far, fbs, fnn⟩ : Fd) it = [60] ++ ((bl fnm ++ 46 :: (Lib.itoa fg ++ 46 :: Lib.itoa fi)) ++ [62]) := textT_k6 (f := (⟨6, fi, fg, fnm, ffn, far, fbs, fnn⟩ : Fd)) (it := it) rfl
  rw [hx] at hlen ⊢
  clear hx
  have HF := Lib.hid ((show Bq w [.base (fun _ => False) w] from ⟨Ch.refl _ _, trivial⟩).box #[.int .i64 6, .int .i64 fi, .int .i64 fg, .string fnm, .string ffn, .int .i64 far, (.slice ai it.len ci), .string fbs, .int .i64 fnn] 24 (n := w.heap.size) rfl)
  have HI := Lib.hid hi
  clear hi
  have HG := Lib.hid hg
  clear hg
  have HNg := Lib.hid fun W (hbW : Below w.heap.size w W) => number_any fg W HG.out.1 HG.out.2
  have HNi := Lib.hid fun W (hbW : Below w.heap.size w W) => number_any fi W HI.out.1 HI.out.2
  generalize Lib.itoa fg = tg at HNg hlen ⊢
  generalize Lib.itoa fi = ti at HNi hlen ⊢
  have stg : (ba tg).size = tg.length := ba_size _
  have sti : (ba ti).size = ti.length := ba_size _
  have q0 : ¬ (9223372036854775807 < 1 + fnm.size) := by have := bl_size fnm; have := bl_size ffn; simp at hlen; omega
  have q1 : ¬ (9223372036854775807 < 1 + fnm.size + 1) := by have := bl_size fnm; have := bl_size ffn; simp at hlen; omega
  have q2 : ¬ (9223372036854775807 < 1 + fnm.size + 1 + tg.length) := by have := bl_size fnm; have := bl_size ffn; simp at hlen; omega
  have q3 : ¬ (9223372036854775807 < 1 + fnm.size + 1 + tg.length + 1) := by have := bl_size fnm; have := bl_size ffn; simp at hlen; omega
  have q4 : ¬ (9223372036854775807 < 1 + fnm.size + 1 + tg.length + 1 + ti.length) := by have := bl_size fnm; have := bl_size ffn; simp at hlen; omega
  have q5 : ¬ (9223372036854775807 < 1 + fnm.size + 1 + tg.length + 1 + ti.length + 1) := by have := bl_size fnm; have := bl_size ffn; simp at hlen; omega
  have HE := Lib.hid (show (⟨#[60]⟩ : ByteArray) ++ fnm ++ ⟨#[46]⟩ ++ ba tg ++ ⟨#[46]⟩ ++ ba ti ++ ⟨#[62]⟩ = ba ([60] ++ ((bl fnm ++ 46 :: (tg ++ 46 :: ti)) ++ [62])) by show ba _ ++ ba (bl fnm) ++ ba [46] ++ ba tg ++ ba [46] ++ ba ti ++ ba [62] = _; simp only [ba_app]; simp)
  clear hlen
  generalize [60] ++ ((bl fnm ++ 46 :: (tg ++ 46 :: ti)) ++ [62]) = TX at HE ⊢
  go_enter Tryz.func27, Tryz.ntmps27
  go_upto_region 1 with (fail)
  generalize w.alloc _ = w1 at HF ⊢
  have c0 : w1.cell? ⟨w.heap.size, 0, none⟩ = some (.int .i64 6) := cells_of (HF.out.blk 0 rfl) 0
  go_upto_region 13 with (fail)
  have c1 : w1.cell? ⟨w.heap.size, 1, none⟩ = some (.int .i64 fi) := cells_of (HF.out.blk 0 rfl) 1
  have c2 : w1.cell? ⟨w.heap.size, 2, none⟩ = some (.int .i64 fg) := cells_of (HF.out.blk 0 rfl) 2
  have c3 : w1.cell? ⟨w.heap.size, 3, none⟩ = some (.string fnm) := cells_of (HF.out.blk 0 rfl) 3
  have hb0 : Below w.heap.size w w1 := (HF.out.base 1 rfl).below (Nat.le_refl _) fun _ _ h => h
  have HNg := Lib.hid fun W (hb : Below w1.heap.size w1 W) => HNg.out W (bstep hb0 hb)
  have HNi := Lib.hid fun W (hb : Below w1.heap.size w1 W) => HNi.out W (bstep hb0 hb)
  clear hb0
  have HBc := Lib.hid (Below.refl w1.heap.size w1)
  go_region_held3 (fun w' => w'.cell? ⟨w.heap.size, 1, none⟩ = some (.int .i64 fi) ∧ w'.cell? ⟨w.heap.size, 2, none⟩ = some (.int .i64 fg) ∧ w'.cell? ⟨w.heap.size, 3, none⟩ = some (.string fnm))
    (first | (exact ⟨c1, c2, c3⟩) | (go_split_ands; refine ⟨?_, ?_, ?_⟩ <;> exact below_keep hb1 (by assumption)))
    (first | (go_at_call 42; ((with_reducible refine (HNg.out _ (by first | exact HBc.out | exact HBc.out.drew)).mono ?_); rintro e w2 ⟨rfl, hb1⟩); have HBc := Lib.hid (show Below w1.heap.size w1 w2 by first | exact bstep HBc.out hb1 | exact bstep HBc.out.drew hb1)) | (go_at_call 42; ((with_reducible refine (HNi.out _ (by first | exact HBc.out | exact HBc.out.drew)).mono ?_); rintro e w2 ⟨rfl, hb1⟩); have HBc := Lib.hid (show Below w1.heap.size w1 w2 by first | exact bstep HBc.out hb1 | exact bstep HBc.out.drew hb1)))
  have HF := Lib.hid (HF.out.below HBc.out)
  go_wp2_with fail
  go_ret
  exact ⟨congrArg (fun x => Ending.returned (Value.string x)) HE.out, (HF.out.base 1 rfl).below (Nat.le_refl _) fun _ _ h => h⟩
set_option maxRecDepth 100000 in
set_option maxHeartbeats 8000000 in
theorem t_k5 (fi fg far fnn : Int) (fnm ffn fbs : ByteArray) (it : TL) (ai : Option Addr) (ci : Nat) (w : World) (ha : -9223372036854775808 ≤ far ∧ far ≤ 9223372036854775807) (hlen : (textT (⟨5, fi, fg, fnm, ffn, far, fbs, fnn⟩ : Fd) it).length ≤ 1000000000) :
    Calls Tryz.prog 27 #[.agg #[.int .i64 5, .int .i64 fi, .int .i64 fg, .string fnm, .string ffn, .int .i64 far, (.slice ai it.len ci), .string fbs, .int .i64 fnn]] w fun e w' => e = .returned (.string (ba (textT (⟨5, fi, fg, fnm, ffn, far, fbs, fnn⟩ : Fd) it))) ∧ Below w.heap.size w w' := by
  have hx : textT (⟨5, fi, fg, fnm, ffn, far, fbs, fnn⟩ : Fd) it = [102, 117, 110, 32] ++ (bl fnm ++ 58 :: (bl ffn ++ 47 :: Lib.itoa far)) := textT_k5 (f := (⟨5, fi, fg, fnm, ffn, far, fbs, fnn⟩ : Fd)) (it := it) rfl
  rw [hx] at hlen ⊢
  clear hx
  have HF := Lib.hid ((show Bq w [.base (fun _ => False) w] from ⟨Ch.refl _ _, trivial⟩).box #[.int .i64 5, .int .i64 fi, .int .i64 fg, .string fnm, .string ffn, .int .i64 far, (.slice ai it.len ci), .string fbs, .int .i64 fnn] 24 (n := w.heap.size) rfl)
  have HA := Lib.hid ha
  clear ha
  have HNa := Lib.hid fun W (hbW : Below w.heap.size w W) => number_any far W HA.out.1 HA.out.2
  generalize Lib.itoa far = ta at HNa hlen ⊢
  have sta : (ba ta).size = ta.length := ba_size _
  have q0 : ¬ (9223372036854775807 < 4 + fnm.size) := by have := bl_size fnm; have := bl_size ffn; simp at hlen; omega
  have q1 : ¬ (9223372036854775807 < 4 + fnm.size + 1) := by have := bl_size fnm; have := bl_size ffn; simp at hlen; omega
  have q2 : ¬ (9223372036854775807 < 4 + fnm.size + 1 + ffn.size) := by have := bl_size fnm; have := bl_size ffn; simp at hlen; omega
  have q3 : ¬ (9223372036854775807 < 4 + fnm.size + 1 + ffn.size + 1) := by have := bl_size fnm; have := bl_size ffn; simp at hlen; omega
  have q4 : ¬ (9223372036854775807 < 4 + fnm.size + 1 + ffn.size + 1 + ta.length) := by have := bl_size fnm; have := bl_size ffn; simp at hlen; omega
  have HE := Lib.hid (show (⟨#[102, 117, 110, 32]⟩ : ByteArray) ++ fnm ++ ⟨#[58]⟩ ++ ffn ++ ⟨#[47]⟩ ++ ba ta = ba ([102, 117, 110, 32] ++ (bl fnm ++ 58 :: (bl ffn ++ 47 :: ta))) by show ba _ ++ ba (bl fnm) ++ ba [58] ++ ba (bl ffn) ++ ba [47] ++ ba ta = _; simp only [ba_app]; simp)
  clear hlen
  generalize [102, 117, 110, 32] ++ (bl fnm ++ 58 :: (bl ffn ++ 47 :: ta)) = TX at HE ⊢
  go_enter Tryz.func27, Tryz.ntmps27
  go_upto_region 1 with (fail)
  generalize w.alloc _ = w1 at HF ⊢
  have c0 : w1.cell? ⟨w.heap.size, 0, none⟩ = some (.int .i64 5) := cells_of (HF.out.blk 0 rfl) 0
  go_upto_region 11 with (fail)
  have c3 : w1.cell? ⟨w.heap.size, 3, none⟩ = some (.string fnm) := cells_of (HF.out.blk 0 rfl) 3
  have c4 : w1.cell? ⟨w.heap.size, 4, none⟩ = some (.string ffn) := cells_of (HF.out.blk 0 rfl) 4
  have c5 : w1.cell? ⟨w.heap.size, 5, none⟩ = some (.int .i64 far) := cells_of (HF.out.blk 0 rfl) 5
  have hb0 : Below w.heap.size w w1 := (HF.out.base 1 rfl).below (Nat.le_refl _) fun _ _ h => h
  have HNa := Lib.hid fun W (hb : Below w1.heap.size w1 W) => HNa.out W (bstep hb0 hb)
  clear hb0
  have HBc := Lib.hid (Below.refl w1.heap.size w1)
  go_region_held3 (fun w' => w'.cell? ⟨w.heap.size, 3, none⟩ = some (.string fnm) ∧ w'.cell? ⟨w.heap.size, 4, none⟩ = some (.string ffn) ∧ w'.cell? ⟨w.heap.size, 5, none⟩ = some (.int .i64 far))
    (first | (exact ⟨c3, c4, c5⟩) | (go_split_ands; refine ⟨?_, ?_, ?_⟩ <;> exact below_keep hb1 (by assumption)))
    (first | (go_at_call 42; ((with_reducible refine (HNa.out _ (by first | exact HBc.out | exact HBc.out.drew)).mono ?_); rintro e w2 ⟨rfl, hb1⟩); have HBc := Lib.hid (show Below w1.heap.size w1 w2 by first | exact bstep HBc.out hb1 | exact bstep HBc.out.drew hb1)))
  have HF := Lib.hid (HF.out.below HBc.out)
  go_wp2_with fail
  go_ret
  exact ⟨congrArg (fun x => Ending.returned (Value.string x)) HE.out, (HF.out.base 1 rfl).below (Nat.le_refl _) fun _ _ h => h⟩
set_option maxRecDepth 100000 in
set_option maxHeartbeats 8000000 in
theorem t_k4 (fi fg far fnn : Int) (fnm ffn fbs : ByteArray) (it : TL) (ai : Option Addr) (ci : Nat) (w : World) (hi : -9223372036854775808 ≤ fi ∧ fi ≤ 9223372036854775807) (hg : -9223372036854775808 ≤ fg ∧ fg ≤ 9223372036854775807) (ha : -9223372036854775808 ≤ far ∧ far ≤ 9223372036854775807) (A B m : Nat) (hT : TextR m) (hm : it.cnt ≤ m) (hf : formL it = true) (hii : it.iok) (hs : RdS w A B it (.slice ai it.len ci)) (hB : B ≤ w.heap.size) (hlen : (textT (⟨4, fi, fg, fnm, ffn, far, fbs, fnn⟩ : Fd) it).length ≤ 1000000000) :
    Calls Tryz.prog 27 #[.agg #[.int .i64 4, .int .i64 fi, .int .i64 fg, .string fnm, .string ffn, .int .i64 far, (.slice ai it.len ci), .string fbs, .int .i64 fnn]] w fun e w' => e = .returned (.string (ba (textT (⟨4, fi, fg, fnm, ffn, far, fbs, fnn⟩ : Fd) it))) ∧ Below w.heap.size w w' := by
  have hx : textT (⟨4, fi, fg, fnm, ffn, far, fbs, fnn⟩ : Fd) it = [35, 70, 117, 110, 60] ++ ((bl fnm ++ 46 :: (Lib.itoa fg ++ 46 :: Lib.itoa fi)) ++ 47 :: (Lib.itoa far ++ 62 :: 123 :: (joinC it.texts ++ [125]))) := textT_k4 (f := (⟨4, fi, fg, fnm, ffn, far, fbs, fnn⟩ : Fd)) (it := it) rfl
  rw [hx] at hlen ⊢
  clear hx
  have HF := Lib.hid ((show Bq w [.base (fun _ => False) w] from ⟨Ch.refl _ _, trivial⟩).box #[.int .i64 4, .int .i64 fi, .int .i64 fg, .string fnm, .string ffn, .int .i64 far, (.slice ai it.len ci), .string fbs, .int .i64 fnn] 24 (n := w.heap.size) rfl)
  have HI := Lib.hid hi
  clear hi
  have HG := Lib.hid hg
  clear hg
  have HA := Lib.hid ha
  clear ha
  have HT := Lib.hid hT
  clear hT
  have HM := Lib.hid hm
  clear hm
  have HFL := Lib.hid hf
  clear hf
  have HII := Lib.hid hii
  clear hii
  have HIT := Lib.hid hs
  clear hs
  have HB := Lib.hid hB
  clear hB
  have hjl := Lib.hid (show (joinC it.texts).length ≤ 1000000000 by simp at hlen; omega)
  have HNg := Lib.hid fun W (hbW : Below w.heap.size w W) => number_any fg W HG.out.1 HG.out.2
  have HNi := Lib.hid fun W (hbW : Below w.heap.size w W) => number_any fi W HI.out.1 HI.out.2
  have HNa := Lib.hid fun W (hbW : Below w.heap.size w W) => number_any far W HA.out.1 HA.out.2
  have HJo := Lib.hid fun W (hbW : Below w.heap.size w W) => joined_r m HT.out it (.slice ai it.len ci) A B W HM.out HFL.out HII.out (hjl.out) (HIT.out.below hbW HB.out) (Nat.le_trans HB.out hbW.size)
  generalize Lib.itoa fg = tg at HNg hlen ⊢
  generalize Lib.itoa fi = ti at HNi hlen ⊢
  generalize Lib.itoa far = ta at HNa hlen ⊢
  generalize joinC it.texts = tj at HJo hlen ⊢
  have stg : (ba tg).size = tg.length := ba_size _
  have sti : (ba ti).size = ti.length := ba_size _
  have sta : (ba ta).size = ta.length := ba_size _
  have stj : (ba tj).size = tj.length := ba_size _
  have q0 : ¬ (9223372036854775807 < 5 + fnm.size) := by have := bl_size fnm; have := bl_size ffn; simp at hlen; omega
  have q1 : ¬ (9223372036854775807 < 5 + fnm.size + 1) := by have := bl_size fnm; have := bl_size ffn; simp at hlen; omega
  have q2 : ¬ (9223372036854775807 < 5 + fnm.size + 1 + tg.length) := by have := bl_size fnm; have := bl_size ffn; simp at hlen; omega
  have q3 : ¬ (9223372036854775807 < 5 + fnm.size + 1 + tg.length + 1) := by have := bl_size fnm; have := bl_size ffn; simp at hlen; omega
  have q4 : ¬ (9223372036854775807 < 5 + fnm.size + 1 + tg.length + 1 + ti.length) := by have := bl_size fnm; have := bl_size ffn; simp at hlen; omega
  have q5 : ¬ (9223372036854775807 < 5 + fnm.size + 1 + tg.length + 1 + ti.length + 1) := by have := bl_size fnm; have := bl_size ffn; simp at hlen; omega
  have q6 : ¬ (9223372036854775807 < 5 + fnm.size + 1 + tg.length + 1 + ti.length + 1 + ta.length) := by have := bl_size fnm; have := bl_size ffn; simp at hlen; omega
  have q7 : ¬ (9223372036854775807 < 5 + fnm.size + 1 + tg.length + 1 + ti.length + 1 + ta.length + 2) := by have := bl_size fnm; have := bl_size ffn; simp at hlen; omega
  have q8 : ¬ (9223372036854775807 < 5 + fnm.size + 1 + tg.length + 1 + ti.length + 1 + ta.length + 2 + tj.length) := by have := bl_size fnm; have := bl_size ffn; simp at hlen; omega
  have q9 : ¬ (9223372036854775807 < 5 + fnm.size + 1 + tg.length + 1 + ti.length + 1 + ta.length + 2 + tj.length + 1) := by have := bl_size fnm; have := bl_size ffn; simp at hlen; omega
  have HE := Lib.hid (show (⟨#[35, 70, 117, 110, 60]⟩ : ByteArray) ++ fnm ++ ⟨#[46]⟩ ++ ba tg ++ ⟨#[46]⟩ ++ ba ti ++ ⟨#[47]⟩ ++ ba ta ++ ⟨#[62, 123]⟩ ++ ba tj ++ ⟨#[125]⟩ = ba ([35, 70, 117, 110, 60] ++ ((bl fnm ++ 46 :: (tg ++ 46 :: ti)) ++ 47 :: (ta ++ 62 :: 123 :: (tj ++ [125])))) by show ba _ ++ ba (bl fnm) ++ ba [46] ++ ba tg ++ ba [46] ++ ba ti ++ ba [47] ++ ba ta ++ ba [62, 123] ++ ba tj ++ ba [125] = _; simp only [ba_app]; simp)
  clear hlen
  generalize [35, 70, 117, 110, 60] ++ ((bl fnm ++ 46 :: (tg ++ 46 :: ti)) ++ 47 :: (ta ++ 62 :: 123 :: (tj ++ [125]))) = TX at HE ⊢
  go_enter Tryz.func27, Tryz.ntmps27
  go_upto_region 1 with (fail)
  generalize w.alloc _ = w1 at HF ⊢
  have c0 : w1.cell? ⟨w.heap.size, 0, none⟩ = some (.int .i64 4) := cells_of (HF.out.blk 0 rfl) 0
  go_upto_region 9 with (fail)
  have c1 : w1.cell? ⟨w.heap.size, 1, none⟩ = some (.int .i64 fi) := cells_of (HF.out.blk 0 rfl) 1
  have c2 : w1.cell? ⟨w.heap.size, 2, none⟩ = some (.int .i64 fg) := cells_of (HF.out.blk 0 rfl) 2
  have c3 : w1.cell? ⟨w.heap.size, 3, none⟩ = some (.string fnm) := cells_of (HF.out.blk 0 rfl) 3
  have c5 : w1.cell? ⟨w.heap.size, 5, none⟩ = some (.int .i64 far) := cells_of (HF.out.blk 0 rfl) 5
  have c6 : w1.cell? ⟨w.heap.size, 6, none⟩ = some ((.slice ai it.len ci)) := cells_of (HF.out.blk 0 rfl) 6
  have hb0 : Below w.heap.size w w1 := (HF.out.base 1 rfl).below (Nat.le_refl _) fun _ _ h => h
  have HNg := Lib.hid fun W (hb : Below w1.heap.size w1 W) => HNg.out W (bstep hb0 hb)
  have HNi := Lib.hid fun W (hb : Below w1.heap.size w1 W) => HNi.out W (bstep hb0 hb)
  have HNa := Lib.hid fun W (hb : Below w1.heap.size w1 W) => HNa.out W (bstep hb0 hb)
  have HJo := Lib.hid fun W (hb : Below w1.heap.size w1 W) => HJo.out W (bstep hb0 hb)
  clear hb0
  have HBc := Lib.hid (Below.refl w1.heap.size w1)
  go_region_held3 (fun w' => w'.cell? ⟨w.heap.size, 1, none⟩ = some (.int .i64 fi) ∧ w'.cell? ⟨w.heap.size, 2, none⟩ = some (.int .i64 fg) ∧ w'.cell? ⟨w.heap.size, 3, none⟩ = some (.string fnm) ∧ w'.cell? ⟨w.heap.size, 5, none⟩ = some (.int .i64 far) ∧ w'.cell? ⟨w.heap.size, 6, none⟩ = some ((.slice ai it.len ci)))
    (first | (exact ⟨c1, c2, c3, c5, c6⟩) | (go_split_ands; refine ⟨?_, ?_, ?_, ?_, ?_⟩ <;> exact below_keep hb1 (by assumption)))
    (first | (go_at_call 42; ((with_reducible refine (HNg.out _ (by first | exact HBc.out | exact HBc.out.drew)).mono ?_); rintro e w2 ⟨rfl, hb1⟩); have HBc := Lib.hid (show Below w1.heap.size w1 w2 by first | exact bstep HBc.out hb1 | exact bstep HBc.out.drew hb1)) | (go_at_call 42; ((with_reducible refine (HNi.out _ (by first | exact HBc.out | exact HBc.out.drew)).mono ?_); rintro e w2 ⟨rfl, hb1⟩); have HBc := Lib.hid (show Below w1.heap.size w1 w2 by first | exact bstep HBc.out hb1 | exact bstep HBc.out.drew hb1)) | (go_at_call 42; ((with_reducible refine (HNa.out _ (by first | exact HBc.out | exact HBc.out.drew)).mono ?_); rintro e w2 ⟨rfl, hb1⟩); have HBc := Lib.hid (show Below w1.heap.size w1 w2 by first | exact bstep HBc.out hb1 | exact bstep HBc.out.drew hb1)) | (go_at_call 43; ((with_reducible refine (HJo.out _ (by first | exact HBc.out | exact HBc.out.drew)).mono ?_); rintro e w2 ⟨rfl, hb1⟩); have HBc := Lib.hid (show Below w1.heap.size w1 w2 by first | exact bstep HBc.out hb1 | exact bstep HBc.out.drew hb1)))
  have HF := Lib.hid (HF.out.below HBc.out)
  go_wp2_with fail
  go_ret
  exact ⟨congrArg (fun x => Ending.returned (Value.string x)) HE.out, (HF.out.base 1 rfl).below (Nat.le_refl _) fun _ _ h => h⟩
set_option maxRecDepth 100000 in
set_option maxHeartbeats 8000000 in
theorem t_k1 (fi fg far fnn : Int) (fnm ffn fbs : ByteArray) (it : TL) (ai : Option Addr) (ci : Nat) (w : World) (hi : -9223372036854775808 ≤ fi ∧ fi ≤ 9223372036854775807) (_hlen : (textT (⟨1, fi, fg, fnm, ffn, far, fbs, fnn⟩ : Fd) it).length ≤ 1000000000) :
    Calls Tryz.prog 27 #[.agg #[.int .i64 1, .int .i64 fi, .int .i64 fg, .string fnm, .string ffn, .int .i64 far, (.slice ai it.len ci), .string fbs, .int .i64 fnn]] w fun e w' => e = .returned (.string (ba (textT (⟨1, fi, fg, fnm, ffn, far, fbs, fnn⟩ : Fd) it))) ∧ Below w.heap.size w w' := by
  have hx : textT (⟨1, fi, fg, fnm, ffn, far, fbs, fnn⟩ : Fd) it = Lib.itoa fi := textT_k1 (f := (⟨1, fi, fg, fnm, ffn, far, fbs, fnn⟩ : Fd)) (it := it) rfl
  rw [hx]
  clear hx
  have HF := Lib.hid ((show Bq w [.base (fun _ => False) w] from ⟨Ch.refl _ _, trivial⟩).box #[.int .i64 1, .int .i64 fi, .int .i64 fg, .string fnm, .string ffn, .int .i64 far, (.slice ai it.len ci), .string fbs, .int .i64 fnn] 24 (n := w.heap.size) rfl)
  have HI := Lib.hid hi
  clear hi
  have HNi := Lib.hid fun W (hbW : Below w.heap.size w W) => number_any fi W HI.out.1 HI.out.2
  generalize Lib.itoa fi = ti at HNi ⊢
  have sti : (ba ti).size = ti.length := ba_size _
  go_enter Tryz.func27, Tryz.ntmps27
  go_upto_region 1 with (fail)
  generalize w.alloc _ = w1 at HF ⊢
  have c0 : w1.cell? ⟨w.heap.size, 0, none⟩ = some (.int .i64 1) := cells_of (HF.out.blk 0 rfl) 0
  have c1 : w1.cell? ⟨w.heap.size, 1, none⟩ = some (.int .i64 fi) := cells_of (HF.out.blk 0 rfl) 1
  have hb0 : Below w.heap.size w w1 := (HF.out.base 1 rfl).below (Nat.le_refl _) fun _ _ h => h
  go_wp2_with fail
  refine (HNi.out _ hb0).mono ?_
  rintro e w2 ⟨rfl, hb⟩
  have HF := Lib.hid (HF.out.below hb)
  clear hb hb0 c0 c1
  go_wp2_with fail
  go_ret
  exact ⟨rfl, (HF.out.base 1 rfl).below (Nat.le_refl _) fun _ _ h => h⟩
set_option maxRecDepth 100000 in
set_option maxHeartbeats 8000000 in
theorem t_k2 (fi fg far fnn : Int) (fnm ffn fbs : ByteArray) (it : TL) (ai : Option Addr) (ci : Nat) (w : World)  (_hlen : (textT (⟨2, fi, fg, fnm, ffn, far, fbs, fnn⟩ : Fd) it).length ≤ 1000000000) :
    Calls Tryz.prog 27 #[.agg #[.int .i64 2, .int .i64 fi, .int .i64 fg, .string fnm, .string ffn, .int .i64 far, (.slice ai it.len ci), .string fbs, .int .i64 fnn]] w fun e w' => e = .returned (.string (ba (textT (⟨2, fi, fg, fnm, ffn, far, fbs, fnn⟩ : Fd) it))) ∧ Below w.heap.size w w' := by
  have hx : textT (⟨2, fi, fg, fnm, ffn, far, fbs, fnn⟩ : Fd) it = bl fnm := textT_k2 (f := (⟨2, fi, fg, fnm, ffn, far, fbs, fnn⟩ : Fd)) (it := it) rfl
  rw [hx]
  clear hx
  have HF := Lib.hid ((show Bq w [.base (fun _ => False) w] from ⟨Ch.refl _ _, trivial⟩).box #[.int .i64 2, .int .i64 fi, .int .i64 fg, .string fnm, .string ffn, .int .i64 far, (.slice ai it.len ci), .string fbs, .int .i64 fnn] 24 (n := w.heap.size) rfl)
  have HE := Lib.hid (show fnm = ba (bl fnm) by rfl)
  generalize bl fnm = TX at HE ⊢
  go_enter Tryz.func27, Tryz.ntmps27
  go_upto_region 1 with (fail)
  generalize w.alloc _ = w1 at HF ⊢
  have c0 : w1.cell? ⟨w.heap.size, 0, none⟩ = some (.int .i64 2) := cells_of (HF.out.blk 0 rfl) 0
  have c3 : w1.cell? ⟨w.heap.size, 3, none⟩ = some (.string fnm) := cells_of (HF.out.blk 0 rfl) 3
  have hb0 : Below w.heap.size w w1 := (HF.out.base 1 rfl).below (Nat.le_refl _) fun _ _ h => h
  go_wp2_with fail
  go_ret
  exact ⟨congrArg (fun x => Ending.returned (Value.string x)) HE.out, (HF.out.base 1 rfl).below (Nat.le_refl _) fun _ _ h => h⟩
set_option maxRecDepth 100000 in
set_option maxHeartbeats 8000000 in
theorem t_k8 (fi fg far fnn : Int) (fnm ffn fbs : ByteArray) (it : TL) (ai : Option Addr) (ci : Nat) (w : World)  (_hlen : (textT (⟨8, fi, fg, fnm, ffn, far, fbs, fnn⟩ : Fd) it).length ≤ 1000000000) :
    Calls Tryz.prog 27 #[.agg #[.int .i64 8, .int .i64 fi, .int .i64 fg, .string fnm, .string ffn, .int .i64 far, (.slice ai it.len ci), .string fbs, .int .i64 fnn]] w fun e w' => e = .returned (.string (ba (textT (⟨8, fi, fg, fnm, ffn, far, fbs, fnn⟩ : Fd) it))) ∧ Below w.heap.size w w' := by
  have hx : textT (⟨8, fi, fg, fnm, ffn, far, fbs, fnn⟩ : Fd) it = [91, 93] := textT_k8 (f := (⟨8, fi, fg, fnm, ffn, far, fbs, fnn⟩ : Fd)) (it := it) rfl
  rw [hx]
  clear hx
  have HF := Lib.hid ((show Bq w [.base (fun _ => False) w] from ⟨Ch.refl _ _, trivial⟩).box #[.int .i64 8, .int .i64 fi, .int .i64 fg, .string fnm, .string ffn, .int .i64 far, (.slice ai it.len ci), .string fbs, .int .i64 fnn] 24 (n := w.heap.size) rfl)
  have HE := Lib.hid (show (⟨#[91, 93]⟩ : ByteArray) = ba ([91, 93]) by rfl)
  generalize [91, 93] = TX at HE ⊢
  go_enter Tryz.func27, Tryz.ntmps27
  go_upto_region 1 with (fail)
  generalize w.alloc _ = w1 at HF ⊢
  have c0 : w1.cell? ⟨w.heap.size, 0, none⟩ = some (.int .i64 8) := cells_of (HF.out.blk 0 rfl) 0
  have hb0 : Below w.heap.size w w1 := (HF.out.base 1 rfl).below (Nat.le_refl _) fun _ _ h => h
  go_wp2_with fail
  go_ret
  exact ⟨congrArg (fun x => Ending.returned (Value.string x)) HE.out, (HF.out.base 1 rfl).below (Nat.le_refl _) fun _ _ h => h⟩
set_option maxRecDepth 100000 in
set_option maxHeartbeats 8000000 in
theorem t_k7 (fi fg far fnn : Int) (fnm ffn fbs : ByteArray) (it : TL) (ai : Option Addr) (ci : Nat) (w : World) (A B m : Nat) (hT : TextR m) (hm : it.cnt ≤ m) (hf : formL it = true) (hii : it.iok) (hs : RdS w A B it (.slice ai it.len ci)) (hB : B ≤ w.heap.size) (hlen : (textT (⟨7, fi, fg, fnm, ffn, far, fbs, fnn⟩ : Fd) it).length ≤ 1000000000) :
    Calls Tryz.prog 27 #[.agg #[.int .i64 7, .int .i64 fi, .int .i64 fg, .string fnm, .string ffn, .int .i64 far, (.slice ai it.len ci), .string fbs, .int .i64 fnn]] w fun e w' => e = .returned (.string (ba (textT (⟨7, fi, fg, fnm, ffn, far, fbs, fnn⟩ : Fd) it))) ∧ Below w.heap.size w w' := by
  have hx : textT (⟨7, fi, fg, fnm, ffn, far, fbs, fnn⟩ : Fd) it = [123] ++ (joinC it.texts ++ [125]) := textT_k7 (f := (⟨7, fi, fg, fnm, ffn, far, fbs, fnn⟩ : Fd)) (it := it) rfl
  rw [hx] at hlen ⊢
  clear hx
  have HF := Lib.hid ((show Bq w [.base (fun _ => False) w] from ⟨Ch.refl _ _, trivial⟩).box #[.int .i64 7, .int .i64 fi, .int .i64 fg, .string fnm, .string ffn, .int .i64 far, (.slice ai it.len ci), .string fbs, .int .i64 fnn] 24 (n := w.heap.size) rfl)
  have HT := Lib.hid hT
  clear hT
  have HM := Lib.hid hm
  clear hm
  have HFL := Lib.hid hf
  clear hf
  have HII := Lib.hid hii
  clear hii
  have HIT := Lib.hid hs
  clear hs
  have HB := Lib.hid hB
  clear hB
  have hjl := Lib.hid (show (joinC it.texts).length ≤ 1000000000 by simp at hlen; omega)
  have HJo := Lib.hid fun W (hbW : Below w.heap.size w W) => joined_r m HT.out it (.slice ai it.len ci) A B W HM.out HFL.out HII.out (hjl.out) (HIT.out.below hbW HB.out) (Nat.le_trans HB.out hbW.size)
  generalize joinC it.texts = tj at HJo hlen ⊢
  have stj : (ba tj).size = tj.length := ba_size _
  have q0 : ¬ (9223372036854775807 < 1 + tj.length) := by have := bl_size fnm; have := bl_size ffn; simp at hlen; omega
  have q1 : ¬ (9223372036854775807 < 1 + tj.length + 1) := by have := bl_size fnm; have := bl_size ffn; simp at hlen; omega
  have HE := Lib.hid (show (⟨#[123]⟩ : ByteArray) ++ ba tj ++ ⟨#[125]⟩ = ba ([123] ++ (tj ++ [125])) by show ba _ ++ ba tj ++ ba [125] = _; simp only [ba_app]; simp)
  clear hlen
  generalize [123] ++ (tj ++ [125]) = TX at HE ⊢
  go_enter Tryz.func27, Tryz.ntmps27
  go_upto_region 1 with (fail)
  generalize w.alloc _ = w1 at HF ⊢
  have c0 : w1.cell? ⟨w.heap.size, 0, none⟩ = some (.int .i64 7) := cells_of (HF.out.blk 0 rfl) 0
  have c6 : w1.cell? ⟨w.heap.size, 6, none⟩ = some ((.slice ai it.len ci)) := cells_of (HF.out.blk 0 rfl) 6
  have hb0 : Below w.heap.size w w1 := (HF.out.base 1 rfl).below (Nat.le_refl _) fun _ _ h => h
  go_wp2_with fail
  refine (HJo.out _ hb0).mono ?_
  rintro e w2 ⟨rfl, hb⟩
  have HF := Lib.hid (HF.out.below hb)
  clear hb hb0 c0 c6
  go_wp2_with fail
  go_ret
  exact ⟨congrArg (fun x => Ending.returned (Value.string x)) HE.out, (HF.out.base 1 rfl).below (Nat.le_refl _) fun _ _ h => h⟩
set_option maxRecDepth 100000 in
set_option maxHeartbeats 8000000 in
theorem t_k10 (fi fg far fnn : Int) (fnm ffn fbs : ByteArray) (it : TL) (ai : Option Addr) (ci : Nat) (w : World) (hn0 : 0 ≤ fnn) (hn1 : fnn ≤ 16384) (hsz : (fbs.size : Int) = (fnn + 7) / 8) (hlen : (textT (⟨10, fi, fg, fnm, ffn, far, fbs, fnn⟩ : Fd) it).length ≤ 1000000000) :
    Calls Tryz.prog 27 #[.agg #[.int .i64 10, .int .i64 fi, .int .i64 fg, .string fnm, .string ffn, .int .i64 far, (.slice ai it.len ci), .string fbs, .int .i64 fnn]] w fun e w' => e = .returned (.string (ba (textT (⟨10, fi, fg, fnm, ffn, far, fbs, fnn⟩ : Fd) it))) ∧ Below w.heap.size w w' := by
  have hx : textT (⟨10, fi, fg, fnm, ffn, far, fbs, fnn⟩ : Fd) it = [60, 60] ++ (joinC (segs (bl fbs) fnn) ++ [62, 62]) := textT_k10 (f := (⟨10, fi, fg, fnm, ffn, far, fbs, fnn⟩ : Fd)) (it := it) rfl
  rw [hx] at hlen ⊢
  clear hx
  have HF := Lib.hid ((show Bq w [.base (fun _ => False) w] from ⟨Ch.refl _ _, trivial⟩).box #[.int .i64 10, .int .i64 fi, .int .i64 fg, .string fnm, .string ffn, .int .i64 far, (.slice ai it.len ci), .string fbs, .int .i64 fnn] 24 (n := w.heap.size) rfl)
  have HN0 := Lib.hid hn0
  clear hn0
  have HN1 := Lib.hid hn1
  clear hn1
  have HSz := Lib.hid hsz
  clear hsz
  have hjl := Lib.hid (show (joinC (segs (bl fbs) fnn)).length ≤ 1000000000 by simp at hlen; omega)
  have HJo := Lib.hid fun W (hbW : Below w.heap.size w W) => bits_r (⟨10, fi, fg, fnm, ffn, far, fbs, fnn⟩ : Fd) (.slice ai it.len ci) W HN0.out HN1.out HSz.out hjl.out
  generalize joinC (segs (bl fbs) fnn) = tj at HJo hlen ⊢
  have stj : (ba tj).size = tj.length := ba_size _
  have q0 : ¬ (9223372036854775807 < 2 + tj.length) := by have := bl_size fnm; have := bl_size ffn; simp at hlen; omega
  have q1 : ¬ (9223372036854775807 < 2 + tj.length + 2) := by have := bl_size fnm; have := bl_size ffn; simp at hlen; omega
  have HE := Lib.hid (show (⟨#[60, 60]⟩ : ByteArray) ++ ba tj ++ ⟨#[62, 62]⟩ = ba ([60, 60] ++ (tj ++ [62, 62])) by show ba _ ++ ba tj ++ ba [62, 62] = _; simp only [ba_app]; simp)
  clear hlen
  generalize [60, 60] ++ (tj ++ [62, 62]) = TX at HE ⊢
  go_enter Tryz.func27, Tryz.ntmps27
  go_upto_region 1 with (fail)
  generalize w.alloc _ = w1 at HF ⊢
  have c0 : w1.cell? ⟨w.heap.size, 0, none⟩ = some (.int .i64 10) := cells_of (HF.out.blk 0 rfl) 0
  have c1 : w1.cell? ⟨w.heap.size, 1, none⟩ = some (.int .i64 fi) := cells_of (HF.out.blk 0 rfl) 1
  have c2 : w1.cell? ⟨w.heap.size, 2, none⟩ = some (.int .i64 fg) := cells_of (HF.out.blk 0 rfl) 2
  have c3 : w1.cell? ⟨w.heap.size, 3, none⟩ = some (.string fnm) := cells_of (HF.out.blk 0 rfl) 3
  have c4 : w1.cell? ⟨w.heap.size, 4, none⟩ = some (.string ffn) := cells_of (HF.out.blk 0 rfl) 4
  have c5 : w1.cell? ⟨w.heap.size, 5, none⟩ = some (.int .i64 far) := cells_of (HF.out.blk 0 rfl) 5
  have c6 : w1.cell? ⟨w.heap.size, 6, none⟩ = some ((.slice ai it.len ci)) := cells_of (HF.out.blk 0 rfl) 6
  have c7 : w1.cell? ⟨w.heap.size, 7, none⟩ = some (.string fbs) := cells_of (HF.out.blk 0 rfl) 7
  have c8 : w1.cell? ⟨w.heap.size, 8, none⟩ = some (.int .i64 fnn) := cells_of (HF.out.blk 0 rfl) 8
  have hb0 : Below w.heap.size w w1 := (HF.out.base 1 rfl).below (Nat.le_refl _) fun _ _ h => h
  go_wp2_with fail
  refine (HJo.out _ hb0).mono ?_
  rintro e w2 ⟨rfl, hb⟩
  have HF := Lib.hid (HF.out.below hb)
  clear hb hb0 c0 c1 c2 c3 c4 c5 c6 c7 c8
  go_wp2_with fail
  go_ret
  exact ⟨congrArg (fun x => Ending.returned (Value.string x)) HE.out, (HF.out.base 1 rfl).below (Nat.le_refl _) fun _ _ h => h⟩
set_option maxRecDepth 100000 in
set_option maxHeartbeats 8000000 in
theorem t_k9a (fi fg far fnn : Int) (fnm ffn fbs : ByteArray) (it : TL) (ai : Option Addr) (ci : Nat) (w : World) (A B m : Nat) (hT : TextR m) (hm : it.cnt ≤ m) (hf : formL it = true) (hii : it.iok) (hB : B ≤ w.heap.size) (l0 : TL) (f' : Fd) (it' : TL) (he : it = l0.app (.cons f' it' .nil)) (hs : RdS w A B it (.slice ai (l0.len + 1) ci)) (h8 : f'.k = 8) (hlen : (textT (⟨9, fi, fg, fnm, ffn, far, fbs, fnn⟩ : Fd) it).length ≤ 1000000000) :
    Calls Tryz.prog 27 #[.agg #[.int .i64 9, .int .i64 fi, .int .i64 fg, .string fnm, .string ffn, .int .i64 far, (.slice ai (l0.len + 1) ci), .string fbs, .int .i64 fnn]] w fun e w' => e = .returned (.string (ba (textT (⟨9, fi, fg, fnm, ffn, far, fbs, fnn⟩ : Fd) it))) ∧ Below w.heap.size w w' := by
  have hx : textT (⟨9, fi, fg, fnm, ffn, far, fbs, fnn⟩ : Fd) it = [91] ++ (joinC l0.texts ++ ([] ++ [93])) := by rw [textT_k9 rfl, he, lisT_snoc, if_pos h8]
  rw [hx] at hlen ⊢
  clear hx
  have HF := Lib.hid ((show Bq w [.base (fun _ => False) w] from ⟨Ch.refl _ _, trivial⟩).box #[.int .i64 9, .int .i64 fi, .int .i64 fg, .string fnm, .string ffn, .int .i64 far, (.slice ai (l0.len + 1) ci), .string fbs, .int .i64 fnn] 24 (n := w.heap.size) rfl)
  have q8 : (f'.k == 8) = true := by rw [h8]; rfl
  clear h8
  obtain ⟨ao, cap, hv, hcap, hmax, hr⟩ := hs
  have hlen2 : it.len = l0.len + 1 := by rw [he, TL.len_app]; rfl
  rw [hlen2] at hv hcap
  injection hv with hv1 hv2 hv3
  subst hv1; subst hv3
  unfold maxLen at hmax
  have hmx : ci ≤ 9223372036854775807 := by omega
  obtain ⟨ob, o, rfl, hrd⟩ := hr (by intro e; rw [e] at hlen2; simp [TL.len] at hlen2)
  rw [he] at hrd
  obtain ⟨-, hob, iv', hcl, hit⟩ := Rd.at_ _ ob o l0.len f' it' .nil hrd (drop_app l0 _)
  have HL0 := Lib.hid (show RdS w A B l0 (.slice (some ⟨ob, o, none⟩) l0.len ci) from ⟨_, _, rfl, by omega, by unfold maxLen; exact hmax, fun _ => ⟨ob, o, rfl, Rd.left l0 _ ob o hrd⟩⟩)
  have HIT := Lib.hid hit
  have HC := Lib.hid fun (W : World) (hW : Below w.heap.size w W) j v (hj : (f'.cells iv')[j]? = some v) => (show W.cell? ⟨ob, o + l0.len * 9 + j, none⟩ = some v by rw [Nat.mul_comm l0.len 9]; exact (hW.cell (p := ⟨ob, o + 9 * l0.len + j, none⟩) (by exact Nat.lt_of_lt_of_le hob hB)).trans (hcl j v hj))
  have hc9 : l0.cnt + (it'.cnt + 1) ≤ m := by rw [he, cnt_app] at hm; simp only [TL.cnt] at hm; omega
  have HM := Lib.hid (show l0.cnt ≤ m by omega)
  have HM1 := Lib.hid (show it'.cnt < m by omega)
  rw [he, formL_app, Bool.and_eq_true] at hf
  rw [he] at hii
  have HFL := Lib.hid hf.1
  have HF1 := Lib.hid (show formT f' it' = true by have := hf.2; rw [formL_cons, Bool.and_eq_true] at this; exact this.1)
  have HII := Lib.hid (iok_app.1 hii).1
  have HI1 := Lib.hid (show f'.iok ∧ it'.iok from ⟨(iok_app.1 hii).2.1, (iok_app.1 hii).2.2.1⟩)
  have HB := Lib.hid hB
  have HT := Lib.hid hT
  clear hrd hcl hit hc9 hf hii hm hr hlen2 hT hB
  have hjl := Lib.hid (show (joinC l0.texts).length ≤ 1000000000 by simp at hlen; omega)
  have HJo := Lib.hid fun W (hbW : Below w.heap.size w W) => joined_r m HT.out l0 (.slice (some ⟨ob, o, none⟩) l0.len ci) A B W HM.out HFL.out HII.out (hjl.out) (HL0.out.below hbW HB.out) (Nat.le_trans HB.out hbW.size)
  generalize joinC l0.texts = tj at HJo hlen ⊢
  have stj : (ba tj).size = tj.length := ba_size _
  have q0 : ¬ (9223372036854775807 < 1 + tj.length) := by have := bl_size fnm; have := bl_size ffn; simp at hlen; omega
  have q1 : ¬ (9223372036854775807 < 1 + tj.length + 1) := by have := bl_size fnm; have := bl_size ffn; simp at hlen; omega
  have HE := Lib.hid (show (⟨#[91]⟩ : ByteArray) ++ ba tj ++ ⟨#[93]⟩ = ba ([91] ++ (tj ++ ([] ++ [93]))) by show ba _ ++ ba tj ++ ba [93] = _; simp only [ba_app]; simp)
  clear hlen
  generalize [91] ++ (tj ++ ([] ++ [93])) = TX at HE ⊢
  go_enter Tryz.func27, Tryz.ntmps27
  go_upto_region 1 with (fail)
  generalize w.alloc _ = w1 at HF ⊢
  have c0 : w1.cell? ⟨w.heap.size, 0, none⟩ = some (.int .i64 9) := cells_of (HF.out.blk 0 rfl) 0
  have c6 : w1.cell? ⟨w.heap.size, 6, none⟩ = some ((.slice (some ⟨ob, o, none⟩) (l0.len + 1) ci)) := cells_of (HF.out.blk 0 rfl) 6
  have hb0 : Below w.heap.size w w1 := (HF.out.base 1 rfl).below (Nat.le_refl _) fun _ _ h => h
  have d0 : w1.cell? ⟨ob, o + l0.len * 9, none⟩ = some (.int .i64 f'.k) := HC.out _ hb0 0 _ rfl
  go_wp2_with fail
  all_goals (try (exfalso; omega))
  refine (HJo.out _ hb0).mono ?_
  rintro e w2 ⟨rfl, hb⟩
  have HF := Lib.hid (HF.out.below hb)
  clear hb hb0 c0 c6 d0
  go_wp2_with fail
  go_ret
  exact ⟨congrArg (fun x => Ending.returned (Value.string x)) HE.out, (HF.out.base 1 rfl).below (Nat.le_refl _) fun _ _ h => h⟩
set_option maxRecDepth 100000 in
set_option maxHeartbeats 8000000 in
theorem t_k9b (fi fg far fnn : Int) (fnm ffn fbs : ByteArray) (it : TL) (ai : Option Addr) (ci : Nat) (w : World) (A B m : Nat) (hT : TextR m) (hm : it.cnt ≤ m) (hf : formL it = true) (hii : it.iok) (hB : B ≤ w.heap.size) (l0 : TL) (f' : Fd) (it' : TL) (he : it = l0.app (.cons f' it' .nil)) (hs : RdS w A B it (.slice ai (l0.len + 1) ci)) (h8 : ¬ f'.k = 8) (hlen : (textT (⟨9, fi, fg, fnm, ffn, far, fbs, fnn⟩ : Fd) it).length ≤ 1000000000) :
    Calls Tryz.prog 27 #[.agg #[.int .i64 9, .int .i64 fi, .int .i64 fg, .string fnm, .string ffn, .int .i64 far, (.slice ai (l0.len + 1) ci), .string fbs, .int .i64 fnn]] w fun e w' => e = .returned (.string (ba (textT (⟨9, fi, fg, fnm, ffn, far, fbs, fnn⟩ : Fd) it))) ∧ Below w.heap.size w w' := by
  have hx : textT (⟨9, fi, fg, fnm, ffn, far, fbs, fnn⟩ : Fd) it = [91] ++ (joinC l0.texts ++ (124 :: textT f' it' ++ [93])) := by rw [textT_k9 rfl, he, lisT_snoc, if_neg h8]
  rw [hx] at hlen ⊢
  clear hx
  have HF := Lib.hid ((show Bq w [.base (fun _ => False) w] from ⟨Ch.refl _ _, trivial⟩).box #[.int .i64 9, .int .i64 fi, .int .i64 fg, .string fnm, .string ffn, .int .i64 far, (.slice ai (l0.len + 1) ci), .string fbs, .int .i64 fnn] 24 (n := w.heap.size) rfl)
  have q8 : (f'.k == 8) = false := by simpa using h8
  clear h8
  obtain ⟨ao, cap, hv, hcap, hmax, hr⟩ := hs
  have hlen2 : it.len = l0.len + 1 := by rw [he, TL.len_app]; rfl
  rw [hlen2] at hv hcap
  injection hv with hv1 hv2 hv3
  subst hv1; subst hv3
  unfold maxLen at hmax
  have hmx : ci ≤ 9223372036854775807 := by omega
  obtain ⟨ob, o, rfl, hrd⟩ := hr (by intro e; rw [e] at hlen2; simp [TL.len] at hlen2)
  rw [he] at hrd
  obtain ⟨-, hob, iv', hcl, hit⟩ := Rd.at_ _ ob o l0.len f' it' .nil hrd (drop_app l0 _)
  have HL0 := Lib.hid (show RdS w A B l0 (.slice (some ⟨ob, o, none⟩) l0.len ci) from ⟨_, _, rfl, by omega, by unfold maxLen; exact hmax, fun _ => ⟨ob, o, rfl, Rd.left l0 _ ob o hrd⟩⟩)
  have HIT := Lib.hid hit
  have HC := Lib.hid fun (W : World) (hW : Below w.heap.size w W) j v (hj : (f'.cells iv')[j]? = some v) => (show W.cell? ⟨ob, o + l0.len * 9 + j, none⟩ = some v by rw [Nat.mul_comm l0.len 9]; exact (hW.cell (p := ⟨ob, o + 9 * l0.len + j, none⟩) (by exact Nat.lt_of_lt_of_le hob hB)).trans (hcl j v hj))
  have hc9 : l0.cnt + (it'.cnt + 1) ≤ m := by rw [he, cnt_app] at hm; simp only [TL.cnt] at hm; omega
  have HM := Lib.hid (show l0.cnt ≤ m by omega)
  have HM1 := Lib.hid (show it'.cnt < m by omega)
  rw [he, formL_app, Bool.and_eq_true] at hf
  rw [he] at hii
  have HFL := Lib.hid hf.1
  have HF1 := Lib.hid (show formT f' it' = true by have := hf.2; rw [formL_cons, Bool.and_eq_true] at this; exact this.1)
  have HII := Lib.hid (iok_app.1 hii).1
  have HI1 := Lib.hid (show f'.iok ∧ it'.iok from ⟨(iok_app.1 hii).2.1, (iok_app.1 hii).2.2.1⟩)
  have HB := Lib.hid hB
  have HT := Lib.hid hT
  clear hrd hcl hit hc9 hf hii hm hr hlen2 hT hB
  have hjl := Lib.hid (show (joinC l0.texts).length ≤ 1000000000 by simp at hlen; omega)
  obtain ⟨ai', ci', hiv, -, -, -⟩ := id HIT.out
  subst hiv
  have htl := Lib.hid (show (textT f' it').length ≤ 1000000000 by simp at hlen; omega)
  have HJo := Lib.hid fun W (hbW : Below w.heap.size w W) => joined_r m HT.out l0 (.slice (some ⟨ob, o, none⟩) l0.len ci) A B W HM.out HFL.out HII.out (hjl.out) (HL0.out.below hbW HB.out) (Nat.le_trans HB.out hbW.size)
  have HTx := Lib.hid fun W (hbW : Below w.heap.size w W) => HT.out f' it' (.slice ai' it'.len ci') A B W HM1.out HF1.out HI1.out.1 HI1.out.2 htl.out (HIT.out.below hbW HB.out) (Nat.le_trans HB.out hbW.size)
  generalize joinC l0.texts = tj at HJo hlen ⊢
  generalize textT f' it' = tt at HTx hlen ⊢
  have stj : (ba tj).size = tj.length := ba_size _
  have stt : (ba tt).size = tt.length := ba_size _
  have q0 : ¬ (9223372036854775807 < 1 + tj.length) := by have := bl_size fnm; have := bl_size ffn; simp at hlen; omega
  have q1 : ¬ (9223372036854775807 < 1 + tj.length + 1) := by have := bl_size fnm; have := bl_size ffn; simp at hlen; omega
  have q2 : ¬ (9223372036854775807 < 1 + tj.length + 1 + tt.length) := by have := bl_size fnm; have := bl_size ffn; simp at hlen; omega
  have q3 : ¬ (9223372036854775807 < 1 + tj.length + 1 + tt.length + 1) := by have := bl_size fnm; have := bl_size ffn; simp at hlen; omega
  have HE := Lib.hid (show (⟨#[91]⟩ : ByteArray) ++ ba tj ++ ⟨#[124]⟩ ++ ba tt ++ ⟨#[93]⟩ = ba ([91] ++ (tj ++ (124 :: tt ++ [93]))) by show ba _ ++ ba tj ++ ba [124] ++ ba tt ++ ba [93] = _; simp only [ba_app]; simp)
  clear hlen
  generalize [91] ++ (tj ++ (124 :: tt ++ [93])) = TX at HE ⊢
  go_enter Tryz.func27, Tryz.ntmps27
  go_upto_region 1 with (fail)
  generalize w.alloc _ = w1 at HF ⊢
  have c0 : w1.cell? ⟨w.heap.size, 0, none⟩ = some (.int .i64 9) := cells_of (HF.out.blk 0 rfl) 0
  have c6 : w1.cell? ⟨w.heap.size, 6, none⟩ = some ((.slice (some ⟨ob, o, none⟩) (l0.len + 1) ci)) := cells_of (HF.out.blk 0 rfl) 6
  have hb0 : Below w.heap.size w w1 := (HF.out.base 1 rfl).below (Nat.le_refl _) fun _ _ h => h
  have d0 : w1.cell? ⟨ob, o + l0.len * 9, none⟩ = some (.int .i64 f'.k) := HC.out _ hb0 0 _ rfl
  go_upto_region 23 with (fail)
  all_goals (try (exfalso; omega))
  have d1 : w1.cell? ⟨ob, o + l0.len * 9 + 1, none⟩ = some (.int .i64 f'.i) := HC.out _ hb0 1 _ rfl
  have d2 : w1.cell? ⟨ob, o + l0.len * 9 + 2, none⟩ = some (.int .i64 f'.g) := HC.out _ hb0 2 _ rfl
  have d3 : w1.cell? ⟨ob, o + l0.len * 9 + 3, none⟩ = some (.string f'.nm) := HC.out _ hb0 3 _ rfl
  have d4 : w1.cell? ⟨ob, o + l0.len * 9 + 4, none⟩ = some (.string f'.fn) := HC.out _ hb0 4 _ rfl
  have d5 : w1.cell? ⟨ob, o + l0.len * 9 + 5, none⟩ = some (.int .i64 f'.ar) := HC.out _ hb0 5 _ rfl
  have d6 : w1.cell? ⟨ob, o + l0.len * 9 + 6, none⟩ = some (.slice ai' it'.len ci') := HC.out _ hb0 6 _ rfl
  have d7 : w1.cell? ⟨ob, o + l0.len * 9 + 7, none⟩ = some (.string f'.bs) := HC.out _ hb0 7 _ rfl
  have d8 : w1.cell? ⟨ob, o + l0.len * 9 + 8, none⟩ = some (.int .i64 f'.n) := HC.out _ hb0 8 _ rfl
  have HJo := Lib.hid fun W (hb : Below w1.heap.size w1 W) => HJo.out W (bstep hb0 hb)
  have HTx := Lib.hid fun W (hb : Below w1.heap.size w1 W) => HTx.out W (bstep hb0 hb)
  have hob1 : ob < w1.heap.size := by have := hb0.size; have := HB.out; omega
  clear hb0
  have b0 : l0.len ≤ ci := by omega
  have b1 : (l0.len : Int) ≤ (ci : Int) := by omega
  have b2 : ¬ (ci : Int) < (l0.len : Int) := by omega
  have b3 : ¬ ci < l0.len := by omega
  have b4 : (0 : Int) ≤ (l0.len : Int) := by omega
  have b5 : (l0.len : Int) < ((l0.len + 1 : Nat) : Int) := by omega
  have b6 : (l0.len : Int) < (l0.len : Int) + 1 := by omega
  have b7 : l0.len < l0.len + 1 := by omega
  have HBc := Lib.hid (Below.refl w1.heap.size w1)
  go_region_held3 (fun w' => w'.cell? ⟨w.heap.size, 6, none⟩ = some (.slice (some ⟨ob, o, none⟩) (l0.len + 1) ci) ∧ w'.cell? ⟨ob, o + l0.len * 9, none⟩ = some (.int .i64 f'.k) ∧ w'.cell? ⟨ob, o + l0.len * 9 + 1, none⟩ = some (.int .i64 f'.i) ∧ w'.cell? ⟨ob, o + l0.len * 9 + 2, none⟩ = some (.int .i64 f'.g) ∧ w'.cell? ⟨ob, o + l0.len * 9 + 3, none⟩ = some (.string f'.nm) ∧ w'.cell? ⟨ob, o + l0.len * 9 + 4, none⟩ = some (.string f'.fn) ∧ w'.cell? ⟨ob, o + l0.len * 9 + 5, none⟩ = some (.int .i64 f'.ar) ∧ w'.cell? ⟨ob, o + l0.len * 9 + 6, none⟩ = some (.slice ai' it'.len ci') ∧ w'.cell? ⟨ob, o + l0.len * 9 + 7, none⟩ = some (.string f'.bs) ∧ w'.cell? ⟨ob, o + l0.len * 9 + 8, none⟩ = some (.int .i64 f'.n))
    (first | (exact ⟨c6, d0, d1, d2, d3, d4, d5, d6, d7, d8⟩) | (go_split_ands; refine ⟨?_, ?_, ?_, ?_, ?_, ?_, ?_, ?_, ?_, ?_⟩ <;> exact below_keep hb1 (by assumption)))
    (first | (go_at_call 43; ((with_reducible refine (HJo.out _ (by first | exact HBc.out | exact HBc.out.drew)).mono ?_); rintro e w2 ⟨rfl, hb1⟩); have HBc := Lib.hid (show Below w1.heap.size w1 w2 by first | exact bstep HBc.out hb1 | exact bstep HBc.out.drew hb1)) | (go_at_call 27; ((with_reducible refine (HTx.out _ (by first | exact HBc.out | exact HBc.out.drew)).mono ?_); rintro e w2 ⟨rfl, hb1⟩); have HBc := Lib.hid (show Below w1.heap.size w1 w2 by first | exact bstep HBc.out hb1 | exact bstep HBc.out.drew hb1)))
  have HF := Lib.hid (HF.out.below HBc.out)
  go_wp2_with fail
  go_ret
  exact ⟨congrArg (fun x => Ending.returned (Value.string x)) HE.out, (HF.out.base 1 rfl).below (Nat.le_refl _) fun _ _ h => h⟩
end Go.Proofs.YtgfodedmcjkmaaaGreatDoor
namespace Go.Proofs.YtgfodedmcjkmaaaGreatDoor
open Go.RowKit Go.Proofs.BitsM
theorem text_step (m : Nat) (hT : TextR m) : TextR (m + 1) := by
  intro f it iv A B w hc hf hi hii hlen hs hB
  have hok := node_ok (form_node hf).1
  have hfl := (form_node hf).2
  obtain ⟨ai, ci, hiv, h4, h5, h6⟩ := id hs
  subst hiv
  rcases ok_kinds hok with hk | hk | hk | hk | hk | hk | hk | hk | hk | hk
  · obtain ⟨k, fi, fg, fnm, ffn, far, fbs, fnn⟩ := f
    simp only at hk; subst hk
    exact t_k1 fi fg far fnn fnm ffn fbs it ai ci w hi hlen
  · obtain ⟨k, fi, fg, fnm, ffn, far, fbs, fnn⟩ := f
    simp only at hk; subst hk
    exact t_k2 fi fg far fnn fnm ffn fbs it ai ci w hlen
  · obtain ⟨-, -, -, h1, h2⟩ := shape36 hf (.inl hk)
    obtain ⟨k, fi, fg, fnm, ffn, far, fbs, fnn⟩ := f
    simp only at hk h1 h2; subst hk
    exact t_k3 fi fg far fnn fnm ffn fbs it ai ci w hi ⟨by omega, by omega⟩ hlen
  · obtain ⟨-, -, h1, h2, h3⟩ := shape4 hf hk
    obtain ⟨k, fi, fg, fnm, ffn, far, fbs, fnn⟩ := f
    simp only at hk h1 h2 h3; subst hk
    exact t_k4 fi fg far fnn fnm ffn fbs it ai ci w hi ⟨by omega, by omega⟩ ⟨by omega, by omega⟩ A B m hT (by omega) hfl hii hs hB hlen
  · obtain ⟨-, -, -, -, h1⟩ := shape5 hf hk
    obtain ⟨k, fi, fg, fnm, ffn, far, fbs, fnn⟩ := f
    simp only at hk h1; subst hk
    exact t_k5 fi fg far fnn fnm ffn fbs it ai ci w ⟨by omega, by omega⟩ hlen
  · obtain ⟨-, -, -, h1, h2⟩ := shape36 hf (.inr hk)
    obtain ⟨k, fi, fg, fnm, ffn, far, fbs, fnn⟩ := f
    simp only at hk h1 h2; subst hk
    exact t_k6 fi fg far fnn fnm ffn fbs it ai ci w hi ⟨by omega, by omega⟩ hlen
  · obtain ⟨k, fi, fg, fnm, ffn, far, fbs, fnn⟩ := f
    simp only at hk; subst hk
    exact t_k7 fi fg far fnn fnm ffn fbs it ai ci w A B m hT (by omega) hfl hii hs hB hlen
  · obtain ⟨k, fi, fg, fnm, ffn, far, fbs, fnn⟩ := f
    simp only at hk; subst hk
    exact t_k8 fi fg far fnn fnm ffn fbs it ai ci w hlen
  · have h2 := (ok_list hok hk).1
    obtain ⟨l0, f', it', e, hl⟩ := snoc_of (l := it) (by intro e; rw [e] at h2; simp [TL.len] at h2)
    rw [hl] at hs ⊢
    obtain ⟨k, fi, fg, fnm, ffn, far, fbs, fnn⟩ := f
    simp only at hk; subst hk
    by_cases h8 : f'.k = 8
    · exact t_k9a fi fg far fnn fnm ffn fbs it ai ci w A B m hT (by omega) hfl hii hB l0 f' it' e hs h8 hlen
    · exact t_k9b fi fg far fnn fnm ffn fbs it ai ci w A B m hT (by omega) hfl hii hB l0 f' it' e hs h8 hlen
  · obtain ⟨h1, h2, h3⟩ := ok_bits hok hk
    obtain ⟨k, fi, fg, fnm, ffn, far, fbs, fnn⟩ := f
    simp only at hk h1 h2 h3; subst hk
    exact t_k10 fi fg far fnn fnm ffn fbs it ai ci w h1 h2 (valid_size h3) hlen
theorem text_r : ∀ m, TextR m
  | 0 => fun _ _ _ _ _ _ hc => absurd hc (by omega)
  | m + 1 => text_step m (text_r m)
set_option maxRecDepth 100000 in
set_option maxHeartbeats 4000000 in
theorem rTerm_any (f : Fd) (it : TL) (ai : Option Addr) (ci : Nat) (A B : Nat) (w : World) (ht : tame f it) (hi : f.iok) (hii : it.iok) (hs : RdS w A B it (.slice ai it.len ci)) (hB : B ≤ w.heap.size) :
    Calls Tryz.prog 10 #[.agg #[.int .i64 f.k, .int .i64 f.i, .int .i64 f.g, .string f.nm, .string f.fn, .int .i64 f.ar, .slice ai it.len ci, .string f.bs, .int .i64 f.n]] w fun e w' => e = .returned (termR f it) ∧ Below w.heap.size w w' := by
  unfold termR
  have HV0 := Lib.hid fun W (hb : Below w.heap.size w W) => (rValid_any f it (.slice ai it.len ci) W A B ht (hs.below hb hB) (Nat.le_trans hB hb.size))
  cases hv : validF f it with
  | false =>
    have HV := Lib.hid fun W (hb : Below w.heap.size w W) => (HV0.out W hb).mono fun e w' h => (show e = .returned (.bool false) ∧ Below W.heap.size W w' by rw [hv] at h; exact h)
    clear hv ht hs hi hii HV0
    go_enter Tryz.func10, Tryz.ntmps10
    go_wp2_with fail
    refine (HV.out _ (below_alloc _ _)).mono ?_
    rintro e w1 ⟨rfl, hb⟩
    have HB := Lib.hid (bstep (below_alloc _ _) hb)
    clear hb
    go_wp2_with fail
    go_ret2
    exact ⟨rfl, HB.out⟩
  | true =>
    have HV := Lib.hid fun W (hb : Below w.heap.size w W) => (HV0.out W hb).mono fun e w' h => (show e = .returned (.bool true) ∧ Below W.heap.size W w' by rw [hv] at h; exact h)
    have HT := Lib.hid fun W (hb : Below w.heap.size w W) => text_r (it.cnt + 1) f it (.slice ai it.len ci) A B W (by omega) (valid_form hv).1 hi hii (by have := textT_len hv hi hii; omega) (hs.below hb hB) (Nat.le_trans hB hb.size)
    clear hv ht hs hi hii HV0
    have HF := Lib.hid (show Bq w [.base (fun _ => False) w] from ⟨Ch.refl _ _, trivial⟩)
    go_enter Tryz.func10, Tryz.ntmps10
    go_upto_region 1 with (fail)
    have HF := Lib.hid (HF.out.box #[.int .i64 f.k, .int .i64 f.i, .int .i64 f.g, .string f.nm, .string f.fn, .int .i64 f.ar, .slice ai it.len ci, .string f.bs, .int .i64 f.n] 24 (n := w.heap.size) rfl)
    go_wp2_with fail
    refine (HV.out _ ((HF.out.base 1 rfl).below (Nat.le_refl _) fun _ _ h => h)).mono ?_
    rintro e w1 ⟨rfl, hb⟩
    have HF := Lib.hid (HF.out.below hb)
    clear hb
    obtain ⟨c0, c1, c2, c3, c4, c5, c6, c7, c8, -⟩ := nine_cells (HF.out.blk 0 rfl)
    go_wp2_with fail
    refine (HT.out _ ((HF.out.base 1 rfl).below (Nat.le_refl _) fun _ _ h => h)).mono ?_
    rintro e w2 ⟨rfl, hb⟩
    have HF := Lib.hid (HF.out.below hb)
    clear hb c0 c1 c2 c3 c4 c5 c6 c7 c8
    go_wp2_with fail
    go_ret2
    exact ⟨rfl, (HF.out.base 1 rfl).below (Nat.le_refl _) fun _ _ h => h⟩
end Go.Proofs.YtgfodedmcjkmaaaGreatDoor
namespace Go.Proofs.YtgfodedmcjkmaaaGreatDoor
open Go.RowKit Go.Proofs.BitsM
theorem join_take (ts : List (List UInt8)) (k : Nat) (x : List UInt8) (h : ts[k]? = some x) : Lib.join (ts.take (k + 1)) [32] = Lib.join (ts.take k) [32] ++ ((if k = 0 then [] else [32]) ++ x) := by
  cases ts with
  | nil => simp at h
  | cons y r =>
    cases k with
    | zero =>
      simp only [List.getElem?_cons_zero, Option.some.injEq] at h
      subst h
      rw [List.take_succ_cons, List.take_zero, List.take_zero, Lib.join_one, if_pos rfl]; rfl
    | succ k =>
      rw [List.getElem?_cons_succ] at h
      rw [List.take_succ_cons, List.take_succ_cons, Lib.join_cons, Lib.join_cons, Lib.joinTail_take_succ [32] r k x h, if_neg (by omega)]
      simp only [List.append_assoc]
set_option maxRecDepth 100000 in
set_option maxHeartbeats 8000000 in
theorem rList_any (l : TL) (v : Value) (A B : Nat) (w : World) (hm : l.cnt ≤ 1000000) (hsm : l.small 1000000) (hi : l.iok) (hs : RdS w A B l v) (hB : B ≤ w.heap.size) :
    Calls Tryz.prog 17 #[v] w fun e w' => e = .returned (listR l) ∧ Below w.heap.size w w' := by
  have hll := l.len_le_cnt
  have HX := Lib.hid fun k f it r (e : l.drop k = .cons f it r) => tame_at hm hsm hi e
  obtain ⟨ao, cap, rfl, hcap, hmax, hr⟩ := hs
  unfold maxLen at hmax
  have HR := Lib.hid hr
  have hl2 : l.len ≤ 1000000 := by omega
  clear hr hsm hi hm hll
  go_enter Tryz.func17, Tryz.ntmps17
  go_wp2_with fail
  go_loopw [4, 5] (fun ov i wr => ∃ (k : Nat) (acc : List UInt8), k ≤ l.len ∧ acc.length ≤ 440001 * k ∧ i = .int .i64 k ∧ ov = .string (ba acc) ∧ Hid (Below w.heap.size w wr) ∧ Hid (Lib.join (l.texts.take k) [32] = acc) ∧ Hid (validL l = validL (l.drop k))) (fun _ i _ => l.len - (intOf i).toNat)
  case atStart => exact ⟨0, [], Nat.zero_le _, Nat.zero_le _, rfl, rfl, Lib.hid (Below.refl _ _), Lib.hid (by rw [List.take_zero]; rfl), Lib.hid (by rw [TL.drop_zero])⟩
  case round =>
    obtain ⟨k, acc, hk, hac, rfl, rfl, HB, HA, HE⟩ := hrel
    by_cases hlt : k < l.len
    · have hlt' : (k : Int) < (l.len : Int) := by omega
      obtain ⟨f, it, e1⟩ := TL.drop_at l k hlt
      obtain ⟨ob, o, rfl, hrd⟩ := HR.out (by intro e; rw [e] at hlt; simp [TL.len] at hlt)
      obtain ⟨-, hb, iv, hcl, hit⟩ := Rd.at_ l ob o k f it _ hrd e1
      have HIT := Lib.hid hit
      obtain ⟨ai, ci, rfl, -, -, -⟩ := HIT.out
      have hcw : ∀ j v, (f.cells (.slice ai it.len ci))[j]? = some v → wr.cell? ⟨ob, o + 9 * k + j, none⟩ = some v := fun j v hj => (HB.out.cell (p := ⟨ob, o + 9 * k + j, none⟩) (by exact Nat.lt_of_lt_of_le hb hB)).trans (hcl j v hj)
      have c0 : wr.cell? ⟨ob, o + k * 9, none⟩ = some (.int .i64 f.k) := by have h := hcw 0 _ rfl; rw [Nat.mul_comm 9 k] at h; exact h
      have c1 : wr.cell? ⟨ob, o + k * 9 + 1, none⟩ = some (.int .i64 f.i) := by have h := hcw 1 _ rfl; rw [Nat.mul_comm 9 k] at h; exact h
      have c2 : wr.cell? ⟨ob, o + k * 9 + 2, none⟩ = some (.int .i64 f.g) := by have h := hcw 2 _ rfl; rw [Nat.mul_comm 9 k] at h; exact h
      have c3 : wr.cell? ⟨ob, o + k * 9 + 3, none⟩ = some (.string f.nm) := by have h := hcw 3 _ rfl; rw [Nat.mul_comm 9 k] at h; exact h
      have c4 : wr.cell? ⟨ob, o + k * 9 + 4, none⟩ = some (.string f.fn) := by have h := hcw 4 _ rfl; rw [Nat.mul_comm 9 k] at h; exact h
      have c5 : wr.cell? ⟨ob, o + k * 9 + 5, none⟩ = some (.int .i64 f.ar) := by have h := hcw 5 _ rfl; rw [Nat.mul_comm 9 k] at h; exact h
      have c6 : wr.cell? ⟨ob, o + k * 9 + 6, none⟩ = some (.slice ai it.len ci) := by have h := hcw 6 _ rfl; rw [Nat.mul_comm 9 k] at h; exact h
      have c7 : wr.cell? ⟨ob, o + k * 9 + 7, none⟩ = some (.string f.bs) := by have h := hcw 7 _ rfl; rw [Nat.mul_comm 9 k] at h; exact h
      have c8 : wr.cell? ⟨ob, o + k * 9 + 8, none⟩ = some (.int .i64 f.n) := by have h := hcw 8 _ rfl; rw [Nat.mul_comm 9 k] at h; exact h
      have HXK := Lib.hid (HX.out k f it _ e1)
      have HVL := Lib.hid (show validL l = (validF f it && validL (l.drop (k + 1))) by rw [HE.out, e1]; rfl)
      have HJ := Lib.hid (join_take _ _ _ (texts_at e1))
      have HCall := Lib.hid fun W (hbW : Below w.heap.size w W) => rTerm_any f it ai ci A B W HXK.out.1 HXK.out.2.1 HXK.out.2.2 (HIT.out.below hbW hB) (Nat.le_trans hB hbW.size)
      clear hcl hcw hrd e1 hit
      cases hv : validF f it with
      | false =>
        have HV := Lib.hid hv
        have HCall := Lib.hid fun W (hbW : Below w.heap.size w W) => (HCall.out W hbW).mono fun e w' h => (show e = .returned (.tuple #[.string ⟨#[]⟩, .int .i64 2]) ∧ Below W.heap.size W w' by unfold termR at h; rw [hv] at h; exact h)
        clear hv
        go_wp2_with fail
        refine (HCall.out _ HB.out).mono ?_
        rintro e w1 ⟨rfl, hb1⟩
        have HB1 := Lib.hid (bstep HB.out hb1)
        clear hb1 c0 c1 c2 c3 c4 c5 c6 c7 c8
        go_wp2_with fail
        go_ret2
        exact ⟨by unfold listR; rw [HVL.out, HV.out]; rfl, HB1.out⟩
      | true =>
        have HCall := Lib.hid fun W (hbW : Below w.heap.size w W) => (HCall.out W hbW).mono fun e w' h => (show e = .returned (.tuple #[.string (ba (textT f it)), .int .i64 0]) ∧ Below W.heap.size W w' by unfold termR at h; rw [hv] at h; exact h)
        have htx := textT_len hv HXK.out.2.1 HXK.out.2.2
        have HV := Lib.hid hv
        clear hv
        generalize textT f it = tx at HCall HJ htx
        have s1 : (ba acc).size = acc.length := ba_size _
        have s2 : (ba tx).size = tx.length := ba_size _
        by_cases hk0 : k = 0
        · subst hk0
          simp only [Nat.zero_mul, Nat.add_zero] at c0 c1 c2 c3 c4 c5 c6 c7 c8
          have q2 : ¬ (9223372036854775807 < acc.length + tx.length) := by omega
          have a2 := ba_app acc tx
          go_wp2_with fail
          refine (HCall.out _ HB.out).mono ?_
          rintro e w1 ⟨rfl, hb1⟩
          have HB1 := Lib.hid (bstep HB.out hb1)
          clear hb1 c0 c1 c2 c3 c4 c5 c6 c7 c8
          go_wp2_with fail
          go_roundw
          case rel => exact ⟨0 + 1, acc ++ tx, by omega, by simp only [List.length_append]; omega, by go_num, rfl, HB1, Lib.hid (by rw [HJ.out, HA.out]; rfl), Lib.hid (by rw [HVL.out, HV.out, Bool.true_and])⟩
          case measure => simp only [intOf]; omega
        · have x1 : (0 : Int) < (k : Int) := by omega
          have q1 : ¬ (9223372036854775807 < acc.length + 1) := by omega
          have q2 : ¬ (9223372036854775807 < acc.length + 1 + tx.length) := by omega
          have a1 : ba acc ++ (⟨#[32]⟩ : ByteArray) = ba (acc ++ [32]) := ba_app acc [32]
          have s3 : (ba (acc ++ [32])).size = acc.length + 1 := by rw [ba_size, List.length_append]; rfl
          have a2 : ba (acc ++ [32]) ++ ba tx = ba (acc ++ 32 :: tx) := by rw [ba_app, List.append_assoc]; rfl
          go_wp2_with fail
          refine (HCall.out _ HB.out).mono ?_
          rintro e w1 ⟨rfl, hb1⟩
          have HB1 := Lib.hid (bstep HB.out hb1)
          clear hb1 c0 c1 c2 c3 c4 c5 c6 c7 c8
          go_wp2_with fail
          go_roundw
          case rel => exact ⟨k + 1, acc ++ 32 :: tx, by omega, by simp only [List.length_append, List.length_cons]; omega, by go_num, rfl, HB1, Lib.hid (by rw [HJ.out, HA.out, if_neg hk0]; rfl), Lib.hid (by rw [HVL.out, HV.out, Bool.true_and])⟩
          case measure => simp only [intOf]; omega
    · have x1 : ¬ (k : Int) < (l.len : Int) := by omega
      obtain rfl : k = l.len := by omega
      have HVL := Lib.hid (show validL l = true by rw [HE.out, TL.drop_len l _ (Nat.le_refl _)]; rfl)
      have hA := HA.out
      rw [← texts_len, List.take_length] at hA
      have HJ := Lib.hid (show joinW l = acc from hA)
      clear hA
      go_wp2_with fail
      go_ret2
      exact ⟨by unfold listR; rw [HVL.out, HJ.out]; rfl, HB.out⟩
end Go.Proofs.YtgfodedmcjkmaaaGreatDoor
