/-
  Walks: left and Great: how many parts terms have.
-/
import Derived.Test.YtgfodedmcjkmaaaDoorKitSame
namespace Go.Proofs.YtgfodedmcjkmaaaDoor
open Go.RowKit
/-- what is left of so many parts -/
def leftF : TL → Int → Int
  | .nil, m => m
  | .cons f it r, m => if m < 0 then m else if m < (f.nm.size : Int) ∨ m < (f.fn.size : Int) ∨ m < (f.bs.size : Int) then -1 else leftF r (leftF it (m - 1 - (f.nm.size : Int) / 8 - (f.fn.size : Int) / 8 - (f.bs.size : Int) / 8))
theorem leftF_neg (l : TL) (m : Int) (h : m < 0) : leftF l m = m := by
  cases l with
  | nil => rfl
  | cons f it r => rw [leftF, if_pos h]
theorem leftF_range : ∀ (l : TL) (m : Int), -1 ≤ m → -1 ≤ leftF l m ∧ leftF l m ≤ m
  | .nil, m, h => ⟨h, Int.le_refl _⟩
  | .cons f it r, m, h => by
    rw [leftF]
    split
    · omega
    · split
      · omega
      · have h1 := leftF_range it (m - 1 - (f.nm.size : Int) / 8 - (f.fn.size : Int) / 8 - (f.bs.size : Int) / 8) (by omega)
        have h2 := leftF_range r _ h1.1
        omega
/-- every string and every row is small -/
def TL.small (m : Nat) : TL → Prop
  | .nil => True
  | .cons f it r => f.nm.size ≤ m ∧ f.fn.size ≤ m ∧ f.bs.size ≤ m ∧ it.small m ∧ r.small m
theorem TL.small_mono {m m' : Nat} (h : m ≤ m') : ∀ l : TL, l.small m → l.small m'
  | .nil, _ => trivial
  | .cons _ it r, ⟨a, b, c, d, e⟩ => ⟨by omega, by omega, by omega, TL.small_mono h it d, TL.small_mono h r e⟩
theorem leftF_cnt : ∀ (l : TL) (m : Int), 0 ≤ leftF l m → (l.cnt : Int) ≤ m - leftF l m ∧ l.small m.toNat
  | .nil, m, h => ⟨by simp [TL.cnt, leftF], trivial⟩
  | .cons f it r, m, h => by
    rw [leftF] at h ⊢
    by_cases h0 : m < 0
    · rw [if_pos h0] at h; omega
    · rw [if_neg h0] at h ⊢
      by_cases h1 : m < (f.nm.size : Int) ∨ m < (f.fn.size : Int) ∨ m < (f.bs.size : Int)
      · rw [if_pos h1] at h; omega
      · rw [if_neg h1] at h ⊢
        have r1 := leftF_range it (m - 1 - (f.nm.size : Int) / 8 - (f.fn.size : Int) / 8 - (f.bs.size : Int) / 8) (by omega)
        have hi : 0 ≤ leftF it (m - 1 - (f.nm.size : Int) / 8 - (f.fn.size : Int) / 8 - (f.bs.size : Int) / 8) := by
          rcases Int.lt_or_le (leftF it (m - 1 - (f.nm.size : Int) / 8 - (f.fn.size : Int) / 8 - (f.bs.size : Int) / 8)) 0 with hn | hn
          · rw [leftF_neg r _ hn] at h; omega
          · exact hn
        obtain ⟨a1, a2⟩ := leftF_cnt it _ hi
        obtain ⟨b1, b2⟩ := leftF_cnt r _ h
        refine ⟨by simp only [TL.cnt]; omega, by omega, by omega, by omega, TL.small_mono (by omega) _ a2, TL.small_mono (by omega) _ b2⟩
theorem bal1 {w W : World} (h : Below w.heap.size w W) (o : Obj) : Below w.heap.size w (W.alloc o) := balloc h o
def LeftC (m : Nat) : Prop := ∀ (l : TL) (v : Value) (w : World) (A B : Nat) (most : Int), l.cnt ≤ m → RdS w A B l v → B ≤ w.heap.size → -1 ≤ most → most ≤ 1000000 →
  Calls Tryd.prog 18 #[v, .int .i64 most] w fun e w' => e = .returned (.int .i64 (leftF l most)) ∧ Below w.heap.size w w'
set_option maxHeartbeats 4000000 in
theorem left_of (m : Nat) (hS : ∀ j, j < m → LeftC j) : LeftC m := by
  intro l v w A B most hm hv hB hm0 hm1
  obtain ⟨ao, cap, rfl, hcap, hmax, hr⟩ := hv
  unfold maxLen at hmax
  have HR := Lib.hid hr
  have HS := Lib.hid hS
  clear hr hS
  go_enter Tryd.func18, Tryd.ntmps18
  go_wp2_with fail
  go_loopw [1, 5] (fun mv i wr => ∃ (k : Nat) (ms : Int), k ≤ l.len ∧ i = .int .i64 k ∧ mv = .int .i64 ms ∧ -1 ≤ ms ∧ ms ≤ most ∧ Hid (leftF l most = leftF (l.drop k) ms) ∧ Hid (Below w.heap.size w wr)) (fun _ i _ => l.len - (intOf i).toNat)
  case atStart => exact ⟨0, most, Nat.zero_le _, rfl, rfl, hm0, Int.le_refl _, Lib.hid (by rw [TL.drop_zero]), Lib.hid (Below.refl _ _)⟩
  case round =>
    obtain ⟨k, ms, hk, rfl, rfl, hs0, hs1, HE, HB⟩ := hrel
    by_cases hlt : k < l.len ∧ 0 ≤ ms
    · obtain ⟨hlt, hms⟩ := hlt
      have hlt' : (k : Int) < (l.len : Int) := by omega
      obtain ⟨f, it, e1⟩ := TL.drop_at l k hlt
      obtain ⟨b, o, rfl, hrd⟩ := HR.out (by intro e; rw [e] at hlt; simp [TL.len] at hlt)
      obtain ⟨-, hb, iv, hcl, hit⟩ := Rd.at_ l b o k f it _ hrd e1
      have hcw : ∀ j v, (f.cells iv)[j]? = some v → wr.cell? ⟨b, o + 9 * k + j, none⟩ = some v := fun j v hj => (HB.out.cell (p := ⟨b, o + 9 * k + j, none⟩) (by exact Nat.lt_of_lt_of_le hb hB)).trans (hcl j v hj)
      have c0 : wr.cell? ⟨b, o + k * 9, none⟩ = some (.int .i64 f.k) := by have h := hcw 0 _ rfl; rw [Nat.mul_comm 9 k] at h; exact h
      have c1 : wr.cell? ⟨b, o + k * 9 + 1, none⟩ = some (.int .i64 f.i) := by have h := hcw 1 _ rfl; rw [Nat.mul_comm 9 k] at h; exact h
      have c2 : wr.cell? ⟨b, o + k * 9 + 2, none⟩ = some (.int .i64 f.g) := by have h := hcw 2 _ rfl; rw [Nat.mul_comm 9 k] at h; exact h
      have c3 : wr.cell? ⟨b, o + k * 9 + 3, none⟩ = some (.string f.nm) := by have h := hcw 3 _ rfl; rw [Nat.mul_comm 9 k] at h; exact h
      have c4 : wr.cell? ⟨b, o + k * 9 + 4, none⟩ = some (.string f.fn) := by have h := hcw 4 _ rfl; rw [Nat.mul_comm 9 k] at h; exact h
      have c5 : wr.cell? ⟨b, o + k * 9 + 5, none⟩ = some (.int .i64 f.ar) := by have h := hcw 5 _ rfl; rw [Nat.mul_comm 9 k] at h; exact h
      have c6 : wr.cell? ⟨b, o + k * 9 + 6, none⟩ = some (iv) := by have h := hcw 6 _ rfl; rw [Nat.mul_comm 9 k] at h; exact h
      have c7 : wr.cell? ⟨b, o + k * 9 + 7, none⟩ = some (.string f.bs) := by have h := hcw 7 _ rfl; rw [Nat.mul_comm 9 k] at h; exact h
      have c8 : wr.cell? ⟨b, o + k * 9 + 8, none⟩ = some (.int .i64 f.n) := by have h := hcw 8 _ rfl; rw [Nat.mul_comm 9 k] at h; exact h
      have hcnt : it.cnt < m := by
        have h1 := TL.cnt_drop l k
        rw [e1] at h1
        simp only [TL.cnt] at h1
        omega
      have HIT := Lib.hid hit
      have HD := Lib.hid e1
      clear hcl hcw hrd e1 hit
      obtain ⟨ai, ci, rfl, -, -, -⟩ := HIT.out
      by_cases q1 : ms < (f.nm.size : Int)
      · skip
        have hfin := Lib.hid (show leftF l most = -1 by rw [HE.out, HD.out, leftF, if_neg (by omega), if_pos (by omega)])
        go_wp2_with fail
        all_goals (try (exfalso; omega))
        all_goals
          go_ret
          exact ⟨by rw [hfin.out]; rfl, bal1 HB.out _⟩
      · by_cases q2 : ms < (f.fn.size : Int)
        · skip
          have hfin := Lib.hid (show leftF l most = -1 by rw [HE.out, HD.out, leftF, if_neg (by omega), if_pos (by omega)])
          go_wp2_with fail
          all_goals (try (exfalso; omega))
          all_goals
            go_ret
            exact ⟨by rw [hfin.out]; rfl, bal1 HB.out _⟩
        · by_cases q3 : ms < (f.bs.size : Int)
          · skip
            have hfin := Lib.hid (show leftF l most = -1 by rw [HE.out, HD.out, leftF, if_neg (by omega), if_pos (by omega)])
            go_wp2_with fail
            all_goals (try (exfalso; omega))
            all_goals
              go_ret
              exact ⟨by rw [hfin.out]; rfl, bal1 HB.out _⟩
          · have hcall := fun W (hb : Below w.heap.size w W) => HS.out it.cnt hcnt it (.slice ai it.len ci) W A B (ms - 1 - (f.nm.size : Int) / 8 - (f.fn.size : Int) / 8 - (f.bs.size : Int) / 8) (Nat.le_refl _) (HIT.out.below hb hB) (Nat.le_trans hB hb.size) (by omega) (by omega)
            have hrg := leftF_range it (ms - 1 - (f.nm.size : Int) / 8 - (f.fn.size : Int) / 8 - (f.bs.size : Int) / 8) (by omega)
            have hnext := (show leftF l most = leftF (l.drop (k + 1)) (leftF it (ms - 1 - (f.nm.size : Int) / 8 - (f.fn.size : Int) / 8 - (f.bs.size : Int) / 8)) by rw [HE.out, HD.out, leftF, if_neg (by omega), if_neg (by omega)])
            generalize leftF it (ms - 1 - (f.nm.size : Int) / 8 - (f.fn.size : Int) / 8 - (f.bs.size : Int) / 8) = ms2 at hcall hrg hnext
            have HCall := Lib.hid hcall
            have HNext := Lib.hid hnext
            clear hcall hnext
            obtain ⟨g1, g2⟩ := hrg
            go_wp2_with fail
            refine (HCall.out _ (balloc HB.out _)).mono ?_
            rintro e w1 ⟨rfl, hb1⟩
            have HB1 := Lib.hid (bstep (balloc HB.out _) hb1)
            clear hb1 c0 c1 c2 c3 c4 c5 c6 c7 c8
            go_wp2_with fail
            go_roundw
            case rel => exact ⟨k + 1, ms2, by omega, by go_num, rfl, g1, by omega, HNext, HB1⟩
            case measure => simp only [intOf]; omega
    · have hfin := Lib.hid (show leftF l most = ms by
        rw [HE.out]
        rcases Int.lt_or_le ms 0 with h | h
        · exact leftF_neg _ _ h
        · rw [TL.drop_len l k (by omega)]; rfl)
      by_cases hk2 : k < l.len
      · have hk3 : (k : Int) < (l.len : Int) := by omega
        have hms : ¬ 0 ≤ ms := by omega
        go_wp2_with fail
        go_ret
        exact ⟨by rw [hfin.out]; rfl, HB.out⟩
      · have hk3 : ¬ (k : Int) < (l.len : Int) := by omega
        go_wp2_with fail
        go_ret
        exact ⟨by rw [hfin.out]; rfl, HB.out⟩
theorem left_all (m : Nat) : LeftC m := by
  induction m using Nat.strongRecOn with
  | _ m ih => exact left_of m ih
set_option maxHeartbeats 1000000 in
theorem Great_any (l : TL) (v : Value) (w : World) (A B : Nat) (most : Int) (hv : RdS w A B l v) (hB : B ≤ w.heap.size) (h0 : -1 ≤ most) (h1 : most ≤ 1000000) :
    Calls Tryd.prog 7 #[v, .int .i64 most] w fun e w' => e = .returned (.bool (decide (leftF l most < 0))) ∧ Below w.heap.size w w' := by
  have hl := left_all l.cnt l v w A B most (Nat.le_refl _) hv hB h0 h1
  have HL := Lib.hid hl
  clear hl
  have hrg := leftF_range l most h0
  generalize leftF l most = ms at HL hrg ⊢
  obtain ⟨ao, cap, rfl, -, -, -⟩ := hv
  obtain ⟨g1, g2⟩ := hrg
  go_enter Tryd.func7, Tryd.ntmps7
  go_wp2_with fail
  refine HL.out.mono ?_
  rintro e w1 ⟨rfl, hb⟩
  go_wp2_with fail
  go_ret
  exact ⟨rfl, hb⟩
end Go.Proofs.YtgfodedmcjkmaaaDoor
