/-
  Walks: SpoilList and Spoil: only the blocks that hold the term are turned.
-/
import Derived.Test.YtgbaelkoblnlhaaNine
namespace Go.Proofs.Ytgbaelkoblnlhaa
open Go.RowKit
theorem SpW.set {A B g off : Nat} {u : Value} (w : World) (ga : A ≤ g) (gb : g < B) (h : off % 9 ≠ 6 ∨ u = .slice none 0 0) : SpW A B w (w.setCell ⟨g, off, none⟩ u) := by
  refine ⟨rfl, rfl, rfl, by simp [World.setCell], fun k hk ho => Below.heap_setCell _ _ _ _ (by simp only []; omega), fun k cur t ha hb hc => ?_⟩
  by_cases hk : k = g
  · subst hk
    refine ⟨_, block_setCell hc off u, by simp, fun i => ?_⟩
    rw [Array.getElem?_setIfInBounds]
    by_cases hi : off = i * 9 + 6
    · rw [if_pos hi]
      by_cases hs : off < cur.size
      · rw [if_pos hs]
        rcases h with h | h
        · omega
        · exact .inr ⟨by omega, by rw [h]⟩
      · rw [if_neg hs, ← hi]
        exact .inl (Array.getElem?_eq_none (by omega)).symm
    · rw [if_neg hi]; exact .inl rfl
  · exact ⟨cur, blk_oth hc hk off u, rfl, fun _ => .inl rfl⟩
def SpoilC (d : Nat) : Prop := ∀ (v : Value) (w : World) (A B : Nat), Sp w A B d v → B ≤ w.heap.size → Calls Try.prog 56 #[v] w fun e w' => e = .returned (.tuple #[]) ∧ SpW A B w w'
set_option maxHeartbeats 4000000 in
theorem spoil_none (ao : Option Addr) (cap : Nat) (w : World) : Calls Try.prog 56 #[.slice ao 0 cap] w fun e w' => e = .returned (.tuple #[]) ∧ w = w' := by
  go_enter Try.func56, Try.ntmps56
  go_wp2_with fail
  go_loopw [2] (fun i wr => i = .int .i64 0 ∧ w = wr) (fun _ _ => 0)
  case atStart => exact ⟨rfl, rfl⟩
  case round =>
    obtain ⟨rfl, rfl⟩ := hrel
    go_wp2_with fail
    exact bodyPost_end (results_none rfl _ _ _) rfl ⟨rfl, rfl⟩
set_option maxHeartbeats 8000000 in
theorem spoil_of (d : Nat) (hS : SpoilC d) : SpoilC (d + 1) := by
  intro v w A B hv hB
  have HV := Lib.hid hv
  obtain ⟨ao, n, cap, rfl, hv⟩ := hv
  by_cases hn0 : n = 0
  · subst hn0
    exact (spoil_none ao cap w).mono fun e w' h => ⟨h.1, h.2 ▸ SpW.refl _ _ _⟩
  obtain ⟨g, cur, rfl, ga, gb, -, -, hcap, hmax, -⟩ := hv.resolve_left hn0
  unfold maxLen at hmax
  clear hn0
  have HS := Lib.hid hS
  clear hS hv
  go_enter Try.func56, Try.ntmps56
  go_wp2_with fail
  go_loopw [2] (fun i wr => ∃ k : Nat, k ≤ n ∧ i = .int .i64 k ∧ Hid (SpW A B w wr)) (fun i _ => n - (intOf i).toNat)
  case atStart => exact ⟨0, Nat.zero_le _, rfl, Lib.hid (SpW.refl _ _ _)⟩
  case round =>
    obtain ⟨k, hk, rfl, HB⟩ := hrel
    by_cases hlt : k < n
    · have hlt' : (k : Int) < (n : Int) := by omega
      have hsp := HB.out.sp _ _ HV.out
      obtain ⟨ao, n', cap', e, hsp⟩ := hsp
      injection e with e1 e2 e3
      subst e1 e2 e3
      obtain ⟨g', c1, e, -, -, hh, hsz, -, -, hi⟩ := hsp.resolve_left (by omega)
      injection e with e
      injection e with e _ _
      subst e
      obtain ⟨iv, hiv, hsd⟩ := hi k hlt
      have c6 : wr.cell? ⟨g, k * 9 + 6, none⟩ = some iv := by rw [cells_of hh]; exact hiv
      have HCall := Lib.hid (HS.out iv wr A B hsd (Nat.le_trans hB HB.out.size))
      obtain ⟨bo, m, mc, rfl⟩ : ∃ bo m mc, iv = .slice bo m mc := by
        cases d with
        | zero => obtain ⟨a, b, h⟩ := hsd; exact ⟨a, 0, b, h⟩
        | succ d => obtain ⟨a, n, b, h, _⟩ := hsd; exact ⟨a, n, b, h⟩
      clear hsp hh hsz hi hiv hsd
      go_wp2_with fail
      refine HCall.out.mono ?_
      rintro e w2 ⟨rfl, hw2⟩
      have HB2 := Lib.hid (HB.out.trans hw2)
      have hsp := HB2.out.sp _ _ HV.out
      clear hw2 c6 HCall
      obtain ⟨ao, n', cap', e, hsp⟩ := hsp
      injection e with e1 e2 e3
      subst e1 e2 e3
      obtain ⟨g', c2, e, -, -, hh, hsz, -, -, -⟩ := hsp.resolve_left (by omega)
      injection e with e
      injection e with e _ _
      subst e
      have hx : ∀ j, j < 9 → w2.cell? ⟨g, k * 9 + j, none⟩ = some (c2.getD (k * 9 + j) undef) := fun j hj => by
        rw [cells_of hh, Array.getD_eq_getD_getElem?, Array.getElem?_eq_getElem (by omega)]; rfl
      have d0 : w2.cell? ⟨g, k * 9, none⟩ = some _ := hx 0 (by omega)
      have d1 : w2.cell? ⟨g, k * 9 + 1, none⟩ = some _ := hx 1 (by omega)
      have d2 : w2.cell? ⟨g, k * 9 + 2, none⟩ = some _ := hx 2 (by omega)
      have d3 : w2.cell? ⟨g, k * 9 + 3, none⟩ = some _ := hx 3 (by omega)
      have d4 : w2.cell? ⟨g, k * 9 + 4, none⟩ = some _ := hx 4 (by omega)
      have d5 : w2.cell? ⟨g, k * 9 + 5, none⟩ = some _ := hx 5 (by omega)
      have d6 : w2.cell? ⟨g, k * 9 + 6, none⟩ = some _ := hx 6 (by omega)
      have d7 : w2.cell? ⟨g, k * 9 + 7, none⟩ = some _ := hx 7 (by omega)
      have d8 : w2.cell? ⟨g, k * 9 + 8, none⟩ = some _ := hx 8 (by omega)
      have fz : ∀ k, w2.frozen? ⟨g, k, none⟩ = false := fun k => frees_of hh k
      clear hsp hh hsz hx
      go_wp2_with fail
      refine ⟨⟨k + 1, by omega, by go_num, Lib.hid (HB2.out.trans ?_)⟩, by simp only [intOf]; omega⟩
      repeat' (first | (with_reducible exact SpW.refl _ _ _) | (with_reducible refine SpW.trans ?_ (SpW.set _ ga gb ?_)))
      all_goals (first | exact SpW.refl _ _ _ | exact Or.inr rfl | (left; omega))
    · have hlt' : ¬ (k : Int) < (n : Int) := by omega
      go_wp2_with fail
      exact bodyPost_end (results_none rfl _ _ _) rfl ⟨rfl, HB.out⟩
theorem spoil_all (d : Nat) : SpoilC d := by
  induction d with
  | zero =>
    intro v w A B hv _
    obtain ⟨ao, cap, rfl⟩ := hv
    exact (spoil_none ao cap w).mono fun e w' h => ⟨h.1, h.2 ▸ SpW.refl _ _ _⟩
  | succ d ih => exact spoil_of d ih
set_option maxHeartbeats 4000000 in
theorem Spoil_any (f : Fd) (d n : Nat) (ai : Option Addr) (ci : Nat) (w : World) (A B : Nat) (h : Sp w A B d (.slice ai n ci)) (hB : B ≤ w.heap.size) :
    Calls Try.prog 31 #[.agg #[.int .i64 f.k, .int .i64 f.i, .int .i64 f.g, .string f.nm, .string f.fn, .int .i64 f.ar, .slice ai n ci, .string f.bs, .int .i64 f.n]] w fun e w' => e = .returned (.tuple #[]) ∧ SpW A B w w' := by
  have hc := fun W (hb : Below w.heap.size w W) => spoil_all d (.slice ai n ci) W A B (Sp.keep (fun k _ hk => hb.block k (by omega)) _ _ h) (Nat.le_trans hB hb.size)
  have HC := Lib.hid hc
  clear hc h
  go_enter Try.func31, Try.ntmps31
  go_wp2_with fail
  refine (HC.out _ (below_alloc _ _)).mono ?_
  rintro e w2 ⟨rfl, hw⟩
  go_wp2_with fail
  exact bodyPost_end (results_none rfl _ _ _) rfl ⟨rfl, (SpW.of_below (below_alloc _ _)).trans hw⟩
end Go.Proofs.Ytgbaelkoblnlhaa
