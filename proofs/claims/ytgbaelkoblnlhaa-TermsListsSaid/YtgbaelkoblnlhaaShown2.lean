/-
  Walks: shown: some known calls: it answers true.
-/
import Derived.Test.YtgbaelkoblnlhaaShown
import Derived.Deep.DeepCutAuto
namespace Go.Proofs.Ytgbaelkoblnlhaa
open Go.RowKit
/-- the words of region 2 of shown -/
def ShG (i : Nat) (v : Nat → Value) (lo hi : Nat → Nat) (w : World) : Prop :=
  match i with
  | 0 => v 0 = .agg #[.int .i64 2, .int .i64 0, .int .i64 0, .string ⟨#[97]⟩, .string ⟨#[]⟩, .int .i64 0, .slice none 0 0, .string ⟨#[]⟩, .int .i64 0]
  | 1 => v 1 = .agg #[.int .i64 1, .int .i64 1, .int .i64 0, .string ⟨#[]⟩, .string ⟨#[]⟩, .int .i64 0, .slice none 0 0, .string ⟨#[]⟩, .int .i64 0]
  | 2 => v 2 = .slice (some ⟨lo 2, 0, none⟩) 2 2 ∧ w.heap[lo 2]? = some (.cells #[.int .i64 2, .int .i64 0, .int .i64 0, .string ⟨#[97]⟩, .string ⟨#[]⟩, .int .i64 0, .slice none 0 0, .string ⟨#[]⟩, .int .i64 0, .int .i64 1, .int .i64 1, .int .i64 0, .string ⟨#[]⟩, .string ⟨#[]⟩, .int .i64 0, .slice none 0 0, .string ⟨#[]⟩, .int .i64 0] 24 (0, 0)) ∧ lo 2 < hi 2
  | 3 => ∃ ai ci, v 3 = .tuple #[.agg #[.int .i64 7, .int .i64 0, .int .i64 0, .string ⟨#[]⟩, .string ⟨#[]⟩, .int .i64 0, .slice ai 2 ci, .string ⟨#[]⟩, .int .i64 0], .int .i64 0] ∧ NwS w (lo 3) (hi 3) tL (.slice ai 2 ci)
  | 4 => v 4 = v 3 ∧ ∃ ai ci, v 4 = .tuple #[.agg #[.int .i64 7, .int .i64 0, .int .i64 0, .string ⟨#[]⟩, .string ⟨#[]⟩, .int .i64 0, .slice ai 2 ci, .string ⟨#[]⟩, .int .i64 0], .int .i64 0]
  | 5 => ∃ y, v 4 = .tuple #[v 5, y]
  | 6 => ∃ x, v 4 = .tuple #[x, v 6]
  | 7 => v 7 = .pointer (some ⟨lo 7, 0, none⟩) ∧ lo 7 < hi 7 ∧ ∃ c0 c1 c2 c3 c4 c5 c6 c7 c8, w.heap[lo 7]? = some (.cells #[c0, c1, c2, c3, c4, c5, c6, c7, c8] 24 (0, 0))
  | 8 => lo 7 < hi 7 ∧ ∃ ai ci, v 3 = .tuple #[.agg #[.int .i64 7, .int .i64 0, .int .i64 0, .string ⟨#[]⟩, .string ⟨#[]⟩, .int .i64 0, .slice ai 2 ci, .string ⟨#[]⟩, .int .i64 0], .int .i64 0] ∧ w.heap[lo 7]? = some (.cells #[.int .i64 7, .int .i64 0, .int .i64 0, .string ⟨#[]⟩, .string ⟨#[]⟩, .int .i64 0, .slice ai 2 ci, .string ⟨#[]⟩, .int .i64 0] 24 (0, 0))
  | _ => True
def ShD : List (List Nat) := [[], [], [0, 1], [2], [3], [4], [4], [], [7, 5, 3]]
def ShT (i : Nat) : Option Nat := if i = 8 then some 7 else none
theorem sh_none {i : Nat} {R : Nat → Prop} (h : i ≠ 8) : ∀ j, ShT i = some j → R j := fun j hj => by
  unfold ShT at hj
  rw [if_neg h] at hj
  cases hj
def Shd : List (Option Nat) := [some 16, some 17, some 18, some 19, some 15, some 20, some 21, some 3, none]
theorem ShG_keep (i : Nat) (v : Nat → Value) (lo hi : Nat → Nat) (w : World) (v' : Nat → Value) (lo' hi' : Nat → Nat) (w' : World) (hi9 : i < 9) (hsame : ∀ k, k = i ∨ k ∈ ShD.getD i [] → v' k = v k ∧ lo' k = lo k ∧ hi' k = hi k) (hb : ∀ k, k = i ∨ k ∈ ShD.getD i [] → ∀ b, lo k ≤ b → b < hi k → w'.heap[b]? = w.heap[b]?) (h : ShG i v lo hi w) : ShG i v' lo' hi' w' := by
  obtain ⟨e1, e2, e3⟩ := hsame i (.inl rfl)
  have hb0 := hb i (.inl rfl)
  match i, hi9 with
  | 0, _ => exact e1.trans h
  | 1, _ => exact e1.trans h
  | 2, _ =>
    obtain ⟨h1, h2, h3⟩ := h
    show v' 2 = .slice (some ⟨lo' 2, 0, none⟩) 2 2 ∧ w'.heap[lo' 2]? = _ ∧ lo' 2 < hi' 2
    rw [e1, e2, e3]
    exact ⟨h1, (hb0 _ (Nat.le_refl _) h3).trans h2, h3⟩
  | 3, _ =>
    obtain ⟨ai, ci, h1, h2⟩ := h
    refine ⟨ai, ci, e1.trans h1, ?_⟩
    rw [e2, e3]
    exact h2.keep hb0
  | 4, _ =>
    obtain ⟨e4, _, _⟩ := hsame 3 (.inr (by decide))
    show v' 4 = v' 3 ∧ ∃ ai ci, v' 4 = _
    rw [e1, e4]; exact h
  | 5, _ =>
    obtain ⟨e4, _, _⟩ := hsame 4 (.inr (by decide))
    obtain ⟨y, h⟩ := h
    exact ⟨y, by rw [e4, e1]; exact h⟩
  | 6, _ =>
    obtain ⟨e4, _, _⟩ := hsame 4 (.inr (by decide))
    obtain ⟨y, h⟩ := h
    exact ⟨y, by rw [e4, e1]; exact h⟩
  | 7, _ =>
    obtain ⟨h1, h2, c0, c1, c2, c3, c4, c5, c6, c7, c8, h3⟩ := h
    show v' 7 = .pointer (some ⟨lo' 7, 0, none⟩) ∧ lo' 7 < hi' 7 ∧ ∃ c0 c1 c2 c3 c4 c5 c6 c7 c8, w'.heap[lo' 7]? = _
    rw [e1, e2, e3]
    exact ⟨h1, h2, c0, c1, c2, c3, c4, c5, c6, c7, c8, (hb0 _ (Nat.le_refl _) h2).trans h3⟩
  | 8, _ =>
    obtain ⟨h2, ai, ci, h1, h3⟩ := h
    obtain ⟨_, e4, e5⟩ := hsame 7 (.inr (by decide))
    obtain ⟨e6, _, _⟩ := hsame 3 (.inr (by decide))
    show lo' 7 < hi' 7 ∧ ∃ ai ci, v' 3 = _ ∧ w'.heap[lo' 7]? = _
    rw [e4, e5, e6]
    exact ⟨h2, ai, ci, h1, (hb 7 (.inr (by decide)) _ (Nat.le_refl _) h2).trans h3⟩
theorem sh_store {v : Nat → Value} {lo hi : Nat → Nat} {W : World} {ai : Option Addr} {ci : Nat} {e0 e1 e2 e3 e4 e5 e6 e7 e8 : Value} (h7 : v 7 = .pointer (some ⟨lo 7, 0, none⟩)) (hl : lo 7 < hi 7) (hc : W.heap[lo 7]? = some (.cells #[e0, e1, e2, e3, e4, e5, e6, e7, e8] 24 (0, 0))) (h3 : v 3 = .tuple #[.agg #[.int .i64 7, .int .i64 0, .int .i64 0, .string ⟨#[]⟩, .string ⟨#[]⟩, .int .i64 0, .slice ai 2 ci, .string ⟨#[]⟩, .int .i64 0], .int .i64 0]) :
    ∃ W', W' = (((((((((W.setCell ⟨lo 7, 0, none⟩ (.int .i64 7)).setCell ⟨lo 7, 1, none⟩ (.int .i64 0)).setCell ⟨lo 7, 2, none⟩ (.int .i64 0)).setCell ⟨lo 7, 3, none⟩ (.string ⟨#[]⟩)).setCell ⟨lo 7, 4, none⟩ (.string ⟨#[]⟩)).setCell ⟨lo 7, 5, none⟩ (.int .i64 0)).setCell ⟨lo 7, 6, none⟩ (.slice ai 2 ci)).setCell ⟨lo 7, 7, none⟩ (.string ⟨#[]⟩)).setCell ⟨lo 7, 8, none⟩ (.int .i64 0)) ∧ Moves lo hi (ShT 8) W W' ∧ (∀ j, ShT 8 = some j → ∀ k, k < 9 → (k = j ∨ j ∈ ShD.getD k []) → ShG k v lo hi W') ∧ ∀ x y z, ShG 8 (updG v 8 x) (updG lo 8 y) (updG hi 8 z) W' := by
  obtain ⟨W', hW'⟩ : ∃ W', W' = (((((((((W.setCell ⟨lo 7, 0, none⟩ (.int .i64 7)).setCell ⟨lo 7, 1, none⟩ (.int .i64 0)).setCell ⟨lo 7, 2, none⟩ (.int .i64 0)).setCell ⟨lo 7, 3, none⟩ (.string ⟨#[]⟩)).setCell ⟨lo 7, 4, none⟩ (.string ⟨#[]⟩)).setCell ⟨lo 7, 5, none⟩ (.int .i64 0)).setCell ⟨lo 7, 6, none⟩ (.slice ai 2 ci)).setCell ⟨lo 7, 7, none⟩ (.string ⟨#[]⟩)).setCell ⟨lo 7, 8, none⟩ (.int .i64 0)) := ⟨_, rfl⟩
  have hB : Below (lo 7) W W' := by
    rw [hW']
    repeat (with_reducible refine bsetN ?_ (Nat.le_refl _))
    exact Below.refl _ _
  refine ⟨W', hW', ⟨hB.os, hB.tape, hB.output, hB.size, fun k hk hj => ?_⟩, ?_, ?_⟩
  · rw [hW']
    have hne : k ≠ lo 7 := by
      have := hj 7 rfl
      omega
    repeat (rw [Below.heap_setCell _ _ _ _ hne])
  · intro j hj k hk9 hkj
    have hj7 : j = 7 := by unfold ShT at hj; rw [if_pos rfl] at hj; injection hj with hj; exact hj.symm
    subst hj7
    rw [hW']
    have hn := nine_blk hc (.int .i64 7) (.int .i64 0) (.int .i64 0) (.string ⟨#[]⟩) (.string ⟨#[]⟩) (.int .i64 0) (.slice ai 2 ci) (.string ⟨#[]⟩) (.int .i64 0)
    have hk78 : k = 7 ∨ k = 8 := by
      rcases hkj with h | h
      · exact .inl h
      · match k, hk9, h with
        | 8, _, _ => exact .inr rfl
        | 0, _, h | 1, _, h | 2, _, h | 3, _, h | 4, _, h | 5, _, h | 6, _, h | 7, _, h => revert h; decide
    rcases hk78 with rfl | rfl
    · exact ⟨h7, hl, _, _, _, _, _, _, _, _, _, hn⟩
    · exact ⟨hl, ai, ci, h3, hn⟩
  · intro x y z
    rw [hW']
    have hn := nine_blk hc (.int .i64 7) (.int .i64 0) (.int .i64 0) (.string ⟨#[]⟩) (.string ⟨#[]⟩) (.int .i64 0) (.slice ai 2 ci) (.string ⟨#[]⟩) (.int .i64 0)
    refine ⟨?_, ai, ci, ?_, ?_⟩
    · rw [updG_ne _ _ (by decide), updG_ne _ _ (by decide)]; exact hl
    · rw [updG_ne _ _ (by decide)]; exact h3
    · rw [updG_ne _ _ (by decide)]; exact hn
set_option maxRecDepth 100000 in
set_option maxHeartbeats 1000000 in
theorem shown_any (w : World) : Calls Try.prog 16 #[] w (Yes w) := by
  have HA := Lib.hid Atom_a
  have HI := Lib.hid (fun W => pInt_any 1 W)
  have HT := Lib.hid Tuple_t
  have HN := Lib.hid pNil_any
  have HCo := Lib.hid Cons_l
  have HAA := Lib.hid Atom_A
  go_enter Try.func16, Try.ntmps16
  go_wp2_with fail
  refine (HA.out _).mono ?_
  rintro e w1 ⟨rfl, hb1⟩
  have HB1 := Lib.hid hb1
  clear hb1
  go_upto_region 2 with (fail)
  go_cut [3, 4] (fun s3 s4 wx => s4 = .int .i64 0 ∧ ∃ L ai ci, s3 = .pointer (some ⟨L, 0, none⟩) ∧ Hid (wx.heap[L]? = some (.cells #[.int .i64 7, .int .i64 0, .int .i64 0, .string ⟨#[]⟩, .string ⟨#[]⟩, .int .i64 0, .slice ai 2 ci, .string ⟨#[]⟩, .int .i64 0] 24 (0, 0)) ∧ RdS wx 0 wx.heap.size tL (.slice ai 2 ci) ∧ Below w.heap.size w wx))
  case first =>
    have HX := Lib.hid (heap_alloc_new w1 (.cells #[.int .i64 2, .int .i64 0, .int .i64 0, .string ⟨#[97]⟩, .string ⟨#[]⟩, .int .i64 0, .slice none 0 0, .string ⟨#[]⟩, .int .i64 0] 24 (0, 0)))
    have HB2 := Lib.hid (balloc HB1.out (.cells #[.int .i64 2, .int .i64 0, .int .i64 0, .string ⟨#[97]⟩, .string ⟨#[]⟩, .int .i64 0, .slice none 0 0, .string ⟨#[]⟩, .int .i64 0] 24 (0, 0)))
    clear HB1
    obtain ⟨W0, hW0⟩ : ∃ W0, W0 = w1.alloc (.cells #[.int .i64 2, .int .i64 0, .int .i64 0, .string ⟨#[97]⟩, .string ⟨#[]⟩, .int .i64 0, .slice none 0 0, .string ⟨#[]⟩, .int .i64 0] 24 (0, 0)) := ⟨_, rfl⟩
    rw [← hW0] at HX HB2 ⊢
    clear hW0
    refine wp_region_words (by kernel_rfl) 9 W0.heap.size (fun k => Shd.getD k none) (fun i => ShD.getD i []) ShT ShG (Nat.le_refl _) (by kernel_rfl) (by decide) (by kernel_rfl) (dist_of (by decide)) (dep_of (by kernel_rfl)) ?_ ShG_keep ?_ ?_
    · intro i j h1 h2
      unfold ShT at h2
      split at h2
      · rename_i e; subst e; injection h2 with h2; subst h2; decide
      · cases h2
    · intro i o hi9 ho f v lo hi W hk haft K' hK
      have HK := Lib.hid hK
      have HKn := Lib.hid hk
      have HAf := Lib.hid haft
      clear hK hk haft
      match i, hi9, ho with
      | 0, _, ho =>
        obtain ⟨c0, c1, c2, c3, c4, c5, c6, c7, c8, -⟩ := nine_cells (keepB HKn.out.below HX.out)
        cases ho
        simp only [canon, Shd, Act.put, List.getD_cons_succ, List.getD_cons_zero]
        go_simp
        have h := HK.out (.agg #[.int .i64 2, .int .i64 0, .int .i64 0, .string ⟨#[97]⟩, .string ⟨#[]⟩, .int .i64 0, .slice none 0 0, .string ⟨#[]⟩, .int .i64 0]) W (Moves.of_below (Below.refl _ _)) (sh_none (by decide)) (updG_at v 0 _)
        simp [canon, Shd, Act.put] at h
        exact h
      | 1, _, ho =>
        cases ho
        simp only [canon, Shd, Act.put, List.getD_cons_succ, List.getD_cons_zero]
        go_simp
        refine (HI.out W).mono ?_
        rintro e w2 ⟨rfl, hb2⟩
        have h := HK.out (.agg #[.int .i64 1, .int .i64 1, .int .i64 0, .string ⟨#[]⟩, .string ⟨#[]⟩, .int .i64 0, .slice none 0 0, .string ⟨#[]⟩, .int .i64 0]) w2 (Moves.of_below hb2) (sh_none (by decide)) (updG_at v 1 _)
        simp [canon, Shd, Act.put] at h
        exact h
      | 2, _, ho =>
        have f0 : f 0 = true := by cases ho; exact HAf.out ⟨0, .data⟩ (by simp) rfl
        have f1 : f 1 = true := by cases ho; exact HAf.out ⟨1, .data⟩ (by simp) rfl
        have h0 : v 0 = .agg #[.int .i64 2, .int .i64 0, .int .i64 0, .string ⟨#[97]⟩, .string ⟨#[]⟩, .int .i64 0, .slice none 0 0, .string ⟨#[]⟩, .int .i64 0] := HKn.out.word 0 (by decide) f0
        have h1 : v 1 = .agg #[.int .i64 1, .int .i64 1, .int .i64 0, .string ⟨#[]⟩, .string ⟨#[]⟩, .int .i64 0, .slice none 0 0, .string ⟨#[]⟩, .int .i64 0] := HKn.out.word 1 (by decide) f1
        clear HAf HKn
        cases ho
        simp only [canon, Shd, Act.put, List.getD_cons_succ, List.getD_cons_zero]
        go_simp
        have h := HK.out (.slice (some ⟨W.heap.size, 0, none⟩) 2 2) (W.alloc (.cells #[.int .i64 2, .int .i64 0, .int .i64 0, .string ⟨#[97]⟩, .string ⟨#[]⟩, .int .i64 0, .slice none 0 0, .string ⟨#[]⟩, .int .i64 0, .int .i64 1, .int .i64 1, .int .i64 0, .string ⟨#[]⟩, .string ⟨#[]⟩, .int .i64 0, .slice none 0 0, .string ⟨#[]⟩, .int .i64 0] 24 (0, 0))) (Moves.of_below (below_alloc _ _)) (sh_none (by decide)) ⟨by simp [updG], by simp only [updG_at]; exact heap_alloc_new _ _, by simp [updG]⟩
        simp [canon, Shd, Act.put, h0, h1] at h
        exact h
      | 3, _, ho =>
        have f2 : f 2 = true := by cases ho; exact HAf.out ⟨2, .data⟩ (by simp) rfl
        obtain ⟨h2, hg, -⟩ := HKn.out.word 2 (by decide) f2
        have HG := Lib.hid hg
        clear HAf HKn hg
        cases ho
        simp only [canon, Shd, Act.put, List.getD_cons_succ, List.getD_cons_zero]
        go_simp
        refine (HT.out W (lo 2) HG.out).mono ?_
        rintro e w2 ⟨ai, ci, rfl, hn, hb2⟩
        have h := HK.out (.tuple #[.agg #[.int .i64 7, .int .i64 0, .int .i64 0, .string ⟨#[]⟩, .string ⟨#[]⟩, .int .i64 0, .slice ai 2 ci, .string ⟨#[]⟩, .int .i64 0], .int .i64 0]) w2 (Moves.of_below hb2) (sh_none (by decide)) ⟨ai, ci, updG_at _ _ _, by simp only [updG_at]; exact hn⟩
        simp [canon, Shd, Act.put, h2] at h
        exact h
      | 4, _, ho =>
        have f3 : f 3 = true := by cases ho; exact HAf.out ⟨3, .data⟩ (by simp) rfl
        obtain ⟨ai, ci, h3, -⟩ := HKn.out.word 3 (by decide) f3
        clear HAf HKn
        cases ho
        simp only [canon, Shd, Act.put, List.getD_cons_succ, List.getD_cons_zero]
        go_simp
        have h := HK.out (v 3) W (Moves.of_below (Below.refl _ _)) (sh_none (by decide)) ⟨by simp [updG], ai, ci, by simp [updG, h3]⟩
        simp [canon, Shd, Act.put, h3] at h
        exact h
      | 5, _, ho =>
        have f4 : f 4 = true := by cases ho; exact HAf.out ⟨4, .data⟩ (by simp) rfl
        obtain ⟨-, ai, ci, h4⟩ := HKn.out.word 4 (by decide) f4
        clear HAf HKn
        cases ho
        simp only [canon, Shd, Act.put, List.getD_cons_succ, List.getD_cons_zero]
        go_simp
        have h := HK.out (.agg #[.int .i64 7, .int .i64 0, .int .i64 0, .string ⟨#[]⟩, .string ⟨#[]⟩, .int .i64 0, .slice ai 2 ci, .string ⟨#[]⟩, .int .i64 0]) W (Moves.of_below (Below.refl _ _)) (sh_none (by decide)) ⟨.int .i64 0, by simp [updG, h4]⟩
        simp [canon, Shd, Act.put, h4] at h
        exact h
      | 6, _, ho =>
        have f4 : f 4 = true := by cases ho; exact HAf.out ⟨4, .data⟩ (by simp) rfl
        obtain ⟨-, ai, ci, h4⟩ := HKn.out.word 4 (by decide) f4
        clear HAf HKn
        cases ho
        simp only [canon, Shd, Act.put, List.getD_cons_succ, List.getD_cons_zero]
        go_simp
        have h := HK.out (.int .i64 0) W (Moves.of_below (Below.refl _ _)) (sh_none (by decide)) ⟨.agg #[.int .i64 7, .int .i64 0, .int .i64 0, .string ⟨#[]⟩, .string ⟨#[]⟩, .int .i64 0, .slice ai 2 ci, .string ⟨#[]⟩, .int .i64 0], by simp [updG, h4]⟩
        simp [canon, Shd, Act.put, h4] at h
        exact h
      | 7, _, ho =>
        clear HAf HKn
        cases ho
        simp only [canon, Shd, Act.put, List.getD_cons_succ, List.getD_cons_zero]
        go_simp
        have h := HK.out (.pointer (some ⟨W.heap.size, 0, none⟩)) (W.alloc (.cells #[.int .i64 0, .int .i64 0, .int .i64 0, .string ⟨#[]⟩, .string ⟨#[]⟩, .int .i64 0, .slice none 0 0, .string ⟨#[]⟩, .int .i64 0] 24 (0, 0))) (Moves.of_below (below_alloc _ _)) (sh_none (by decide)) ⟨by simp [updG], by simp [updG], _, _, _, _, _, _, _, _, _, by simp only [updG_at]; exact heap_alloc_new _ _⟩
        simp [canon, Shd, Act.put] at h
        exact h
      | 8, _, ho =>
        have f7 : f 7 = true := by cases ho; exact HAf.out ⟨7, .data⟩ (by simp) rfl
        have f5 : f 5 = true := by cases ho; exact HAf.out ⟨5, .data⟩ (by simp) rfl
        have f3 : f 3 = true := by cases ho; exact HAf.out ⟨3, .chain⟩ (by simp) rfl
        have f4 : f 4 = true := by cases ho; exact HAf.out ⟨4, .phase⟩ (by simp) rfl
        obtain ⟨h7, hl7, e0, e1, e2, e3, e4, e5, e6, e7, e8, hc7⟩ := HKn.out.word 7 (by decide) f7
        obtain ⟨h43, -⟩ := HKn.out.word 4 (by decide) f4
        obtain ⟨ai, ci, h3, -⟩ := HKn.out.word 3 (by decide) f3
        obtain ⟨y, h5⟩ := HKn.out.word 5 (by decide) f5
        have h5' : v 5 = .agg #[.int .i64 7, .int .i64 0, .int .i64 0, .string ⟨#[]⟩, .string ⟨#[]⟩, .int .i64 0, .slice ai 2 ci, .string ⟨#[]⟩, .int .i64 0] := by
          rw [h43, h3] at h5
          injection h5 with h5
          have := congrArg (fun a : Array Value => a.toList) h5
          simp at this
          exact this.1.symm
        have HC := Lib.hid hc7
        have HL := Lib.hid hl7
        have H3 := Lib.hid h3
        obtain ⟨d0, d1, d2, d3, d4, d5, d6, d7, d8, fr⟩ := nine_cells hc7
        obtain ⟨W', hW', m1, m2, m3⟩ := sh_store h7 hl7 hc7 h3
        have hW' := Lib.hid hW'
        clear HAf HKn hc7 hl7 h43 h5 h3
        cases ho
        simp only [canon, Shd, Act.put, List.getD_cons_succ, List.getD_cons_zero]
        go_simp
        rw [← hW'.out]
        have h := HK.out undef W' m1 (fun j hj k hk9 _ hkj => m2 j hj k hk9 hkj) (m3 _ _ _)
        simp [canon, Shd, Act.put, h7, h5'] at h
        exact h
    · intro v lo hi W hk
      obtain ⟨h7, hl7, -⟩ := hk.word 7 (by decide) rfl
      obtain ⟨h43, -⟩ := hk.word 4 (by decide) rfl
      obtain ⟨ai, ci, h3, hn3⟩ := hk.word 3 (by decide) rfl
      obtain ⟨-, ai', ci', h3', h8⟩ := hk.word 8 (by decide) rfl
      obtain ⟨x, h6⟩ := hk.word 6 (by decide) rfl
      have hr := (hk.range 3 (by decide) rfl)
      have h6' : v 6 = .int .i64 0 := by
        rw [h43, h3] at h6
        injection h6 with h6
        have := congrArg (fun a : Array Value => a.toList) h6
        simp at this
        exact this.2.symm
      have he : ai' = ai ∧ ci' = ci := by
        rw [h3] at h3'
        injection h3' with h3'
        have := congrArg (fun a : Array Value => a.toList) h3'
        simp at this
        exact ⟨this.1.symm, this.2.symm⟩
      obtain ⟨rfl, rfl⟩ := he
      have HF := Lib.hid (show W.heap[lo 7]? = some (.cells #[.int .i64 7, .int .i64 0, .int .i64 0, .string ⟨#[]⟩, .string ⟨#[]⟩, .int .i64 0, .slice ai' 2 ci', .string ⟨#[]⟩, .int .i64 0] 24 (0, 0)) ∧ RdS W 0 W.heap.size tL (.slice ai' 2 ci') ∧ Below w.heap.size w W from ⟨h8, (hn3.rds.less (Nat.zero_le _)).more hr.2.2, bstep HB2.out hk.below⟩)
      clear hk h43 h3 hn3 h3' h8 h6 hr hl7
      simp only [canon, Shd, Act.put, List.getD_cons_succ, List.getD_cons_zero, List.drop_succ_cons, List.drop_zero]
      go_wp2_with fail
      go_meet
      exact ⟨rfl, lo 7, ai', ci', rfl, HF⟩
  case rest =>
    obtain ⟨rfl, L, ai, ci, rfl, HF⟩ := hcut
    have HL0 := Lib.hid HF.out.1
    have HRt := Lib.hid HF.out.2.1
    have HB0 := Lib.hid HF.out.2.2
    clear HF
    go_wp2_with fail
    refine (HI.out _).mono ?_
    rintro e w2 ⟨rfl, hb2⟩
    have HX2 := Lib.hid hb2
    clear hb2
    go_wp2_with fail
    refine (HN.out _).mono ?_
    rintro e w3 ⟨rfl, hb3⟩
    have HX3 := Lib.hid (bstep HX2.out hb3)
    clear hb3
    go_wp2_with fail
    refine (HCo.out _).mono ?_
    rintro e w4 ⟨ai4, ci4, rfl, hn4, hb4⟩
    have HX4 := Lib.hid (bstep HX3.out hb4)
    have HN4 := Lib.hid hn4
    clear hb4 hn4 HX2 HX3
    go_wp2_with fail
    have hz4 := HX4.out.size
    refine (Head_l _ _ _ ai4 ci4 (HN4.out.rds.below (below_alloc w4 _) (Nat.le_refl _)) (by simp)).mono ?_
    rintro e w5 ⟨ai5, ci5, rfl, hb5⟩
    have HL5 := Lib.hid (keepB hb5 (heap_alloc_new w4 _))
    have HX5 := Lib.hid (bstep (balloc HX4.out _) hb5)
    have HR5 := Lib.hid ((HN4.out.rds.below (below_alloc w4 _) (Nat.le_refl _)).below hb5 (by simp))
    have hz5 : w4.heap.size + 1 ≤ w5.heap.size := by have := hb5.size; simp at this; omega
    clear hb5 HN4 HX4
    go_wp2_with fail
    refine (HAA.out _).mono ?_
    rintro e w6 ⟨rfl, hb6⟩
    have HL7 := Lib.hid (keepB hb6 (heap_alloc_new w5 _))
    have HL6 := Lib.hid (keepB hb6 (heap_after HL5.out _))
    have HX6 := Lib.hid (bstep (balloc HX5.out _) hb6)
    have HR6 := Lib.hid ((HR5.out.below (below_alloc w5 _) (by omega)).below hb6 (by simp; omega))
    have hz6 : w5.heap.size + 1 ≤ w6.heap.size := by have := hb6.size; simp at this; omega
    clear hb6 HL5 HX5 HR5
    go_upto_region 6 with (fail)
    obtain ⟨a0, a1, a2, a3, a4, a5, a6, a7, a8, -⟩ := nine_cells (heap_after (keepB HX6.out HL0.out) (.cells #[.int .i64 0, .int .i64 0, .int .i64 0, .string ⟨#[]⟩, .string ⟨#[]⟩, .int .i64 0, .slice none 0 0, .string ⟨#[]⟩, .int .i64 0] 24 (0, 0)))
    obtain ⟨b0, b1, b2, b3, b4, b5, b6, b7, b8, -⟩ := nine_cells (heap_after HL6.out (.cells #[.int .i64 0, .int .i64 0, .int .i64 0, .string ⟨#[]⟩, .string ⟨#[]⟩, .int .i64 0, .slice none 0 0, .string ⟨#[]⟩, .int .i64 0] 24 (0, 0)))
    obtain ⟨c0, c1, -, -, -, -, -, -, -, -⟩ := nine_cells (heap_after HL7.out (.cells #[.int .i64 0, .int .i64 0, .int .i64 0, .string ⟨#[]⟩, .string ⟨#[]⟩, .int .i64 0, .slice none 0 0, .string ⟨#[]⟩, .int .i64 0] 24 (0, 0)))
    have HR1 := Lib.hid ((HRt.out.below HX6.out (Nat.le_refl _)).below (below_alloc w6 (.cells #[.int .i64 0, .int .i64 0, .int .i64 0, .string ⟨#[]⟩, .string ⟨#[]⟩, .int .i64 0, .slice none 0 0, .string ⟨#[]⟩, .int .i64 0] 24 (0, 0))) HX6.out.size)
    have HR2 := Lib.hid (HR6.out.below (below_alloc w6 (.cells #[.int .i64 0, .int .i64 0, .int .i64 0, .string ⟨#[]⟩, .string ⟨#[]⟩, .int .i64 0, .slice none 0 0, .string ⟨#[]⟩, .int .i64 0] 24 (0, 0))) (by omega))
    have HXf := Lib.hid (balloc (bstep HB0.out HX6.out) (.cells #[.int .i64 0, .int .i64 0, .int .i64 0, .string ⟨#[]⟩, .string ⟨#[]⟩, .int .i64 0, .slice none 0 0, .string ⟨#[]⟩, .int .i64 0] 24 (0, 0)))
    have hzx := HX6.out.size
    have hz7 : w6.heap.size < (w6.alloc (.cells #[.int .i64 0, .int .i64 0, .int .i64 0, .string ⟨#[]⟩, .string ⟨#[]⟩, .int .i64 0, .slice none 0 0, .string ⟨#[]⟩, .int .i64 0] 24 (0, 0))).heap.size := by simp
    clear HX6 HL0 HL6 HL7 HRt HR6 HB0
    obtain ⟨W6, hW6⟩ : ∃ W6, W6 = w6.alloc (.cells #[.int .i64 0, .int .i64 0, .int .i64 0, .string ⟨#[]⟩, .string ⟨#[]⟩, .int .i64 0, .slice none 0 0, .string ⟨#[]⟩, .int .i64 0] 24 (0, 0)) := ⟨_, rfl⟩
    rw [← hW6] at a0 a1 a2 a3 a4 a5 a6 a7 a8 b0 b1 b2 b3 b4 b5 b6 b7 b8 c0 c1 HR1 HR2 HXf hz7 ⊢
    clear hW6
    have HSz := Lib.hid fun W (hb : Below W6.heap.size W6 W) => Size_t W 0 _ ai ci (HR1.out.below hb (by omega)) (by have := hb.size; omega)
    have HVt := Lib.hid fun W (hb : Below W6.heap.size W6 W) => Valid_t W 0 _ ai ci (HR1.out.below hb (by omega)) (by have := hb.size; omega)
    have HVz := Lib.hid Valid_z
    have HCp := Lib.hid fun W (hb : Below W6.heap.size W6 W) => Copy_t W 0 _ ai ci (HR1.out.below hb (by omega)) (by have := hb.size; omega)
    have HS2 := Lib.hid fun W (hb : Below W6.heap.size W6 W) => Same_tl W 0 W.heap.size ai ai4 ci ci4 ((HR1.out.below hb (by omega)).more (by have := hb.size; omega)) (((HR2.out.below hb (by omega)).less (Nat.zero_le _)).more (by have := hb.size; omega)) (Nat.le_refl _)
    have HBc := Lib.hid (Below.refl W6.heap.size W6)
    go_region_held3 (fun w' => w'.cell? ⟨L, 0, none⟩ = some (.int .i64 7) ∧ w'.cell? ⟨L, 1, none⟩ = some (.int .i64 0) ∧ w'.cell? ⟨L, 2, none⟩ = some (.int .i64 0) ∧ w'.cell? ⟨L, 3, none⟩ = some (.string ⟨#[]⟩) ∧ w'.cell? ⟨L, 4, none⟩ = some (.string ⟨#[]⟩) ∧ w'.cell? ⟨L, 5, none⟩ = some (.int .i64 0) ∧ w'.cell? ⟨L, 6, none⟩ = some (.slice ai 2 ci) ∧ w'.cell? ⟨L, 7, none⟩ = some (.string ⟨#[]⟩) ∧ w'.cell? ⟨L, 8, none⟩ = some (.int .i64 0) ∧ w'.cell? ⟨w4.heap.size, 0, none⟩ = some (.int .i64 9) ∧ w'.cell? ⟨w4.heap.size, 1, none⟩ = some (.int .i64 0) ∧ w'.cell? ⟨w4.heap.size, 2, none⟩ = some (.int .i64 0) ∧ w'.cell? ⟨w4.heap.size, 3, none⟩ = some (.string ⟨#[]⟩) ∧ w'.cell? ⟨w4.heap.size, 4, none⟩ = some (.string ⟨#[]⟩) ∧ w'.cell? ⟨w4.heap.size, 5, none⟩ = some (.int .i64 0) ∧ w'.cell? ⟨w4.heap.size, 6, none⟩ = some (.slice ai4 2 ci4) ∧ w'.cell? ⟨w4.heap.size, 7, none⟩ = some (.string ⟨#[]⟩) ∧ w'.cell? ⟨w4.heap.size, 8, none⟩ = some (.int .i64 0) ∧ w'.cell? ⟨w5.heap.size, 0, none⟩ = some (.int .i64 1) ∧ w'.cell? ⟨w5.heap.size, 1, none⟩ = some (.int .i64 1))
      (first
        | (exact ⟨a0, a1, a2, a3, a4, a5, a6, a7, a8, b0, b1, b2, b3, b4, b5, b6, b7, b8, c0, c1⟩)
        | (go_split_ands; refine ⟨?_, ?_, ?_, ?_, ?_, ?_, ?_, ?_, ?_, ?_, ?_, ?_, ?_, ?_, ?_, ?_, ?_, ?_, ?_, ?_⟩ <;> exact below_keep hb1 (by assumption)))
      (first
        | (go_at_call 23; ((with_reducible refine (HSz.out _ (by first | exact HBc.out | exact HBc.out.drew)).mono ?_); rintro e w1 ⟨rfl, hb1⟩); have HBc := Lib.hid (show Below W6.heap.size W6 w1 by first | exact bstep HBc.out hb1 | exact bstep HBc.out.drew hb1))
        | (go_at_call 21; ((with_reducible refine (HVt.out _ (by first | exact HBc.out | exact HBc.out.drew)).mono ?_); rintro e w1 ⟨rfl, hb1⟩); have HBc := Lib.hid (show Below W6.heap.size W6 w1 by first | exact bstep HBc.out hb1 | exact bstep HBc.out.drew hb1))
        | (go_at_call 21; ((with_reducible refine (HVz.out _).mono ?_); rintro e w1 ⟨rfl, hb1⟩); have HBc := Lib.hid (show Below W6.heap.size W6 w1 by first | exact bstep HBc.out hb1 | exact bstep HBc.out.drew hb1))
        | (go_at_call 29; ((with_reducible refine (HCp.out _ HBc.out).mono ?_); rintro e w1 ⟨ai9, ci9, rfl, hn9, hb1⟩); have HBc := Lib.hid (bstep HBc.out hb1); have HS1 := Lib.hid (Same_tt w1 0 w1.heap.size ai ai9 ci ci9 ((HR1.out.below HBc.out (by omega)).more (by have := HBc.out.size; omega)) (hn9.rds.less (Nat.zero_le _)) (Nat.le_refl _)))
        | (go_at_call 27; ((with_reducible refine (HS1.out).mono ?_); rintro e w1 ⟨rfl, hb1⟩); have HBc := Lib.hid (show Below W6.heap.size W6 w1 by first | exact bstep HBc.out hb1 | exact bstep HBc.out.drew hb1))
        | (go_at_call 27; ((with_reducible refine (HS2.out _ HBc.out).mono ?_); rintro e w1 ⟨rfl, hb1⟩); have HBc := Lib.hid (show Below W6.heap.size W6 w1 by first | exact bstep HBc.out hb1 | exact bstep HBc.out.drew hb1)))
    go_wp2_with fail
    go_ret
    exact ⟨rfl, HXf.out.trans (HBc.out.mono HXf.out.size)⟩
end Go.Proofs.Ytgbaelkoblnlhaa
