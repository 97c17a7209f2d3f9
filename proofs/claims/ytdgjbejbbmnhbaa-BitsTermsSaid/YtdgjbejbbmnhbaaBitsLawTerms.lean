/-
  The law BitsTerms: the walk.
-/
import Derived.Test.YtdgjbejbbmnhbaaBitsSame
import Derived.Test.YtdgjbejbbmnhbaaInv
import Derived.Test.YtdgjbejbbmnhbaaBitsLawParts
namespace Go.Proofs.Ytdgjbejbbmnhbaa
open Go.RowKit Go.Proofs.BitsM
def ZT : Array Value := #[.int .i64 0, .int .i64 0, .int .i64 0, .string ⟨#[]⟩, .string ⟨#[]⟩, .int .i64 0, .slice none 0 0, .string ⟨#[]⟩, .int .i64 0]
/-- a box that was made: zero, or what was stored -/
def BoxT (w W : World) (T : Array Value) (b : Bool) (v : Value) (A : Nat) : Prop := v = .pointer (some ⟨A, 0, none⟩) ∧ w.heap.size + 2 ≤ A ∧ W.heap[A]? = some (.cells (if b = true then T else ZT) 40 (0, 0))
def R3 (w : World) (x y : Obj) (u : Value) (T : Array Value) (f : Nat → Bool) (v30 v31 v32 v33 v5 v6 : Value) (W : World) : Prop :=
  Below w.heap.size w W ∧ W.heap[w.heap.size]? = some x ∧ W.heap[w.heap.size + 1]? = some y ∧ (f 0 = true → v30 = u) ∧ (f 2 = true → v32 = u) ∧ (f 1 = true → v31 = .agg T) ∧ (f 3 = true → v33 = .agg T) ∧
  (f 4 = true → ∃ A, BoxT w W T (f 6) v5 A) ∧ (f 5 = true → ∃ A, BoxT w W T (f 7) v6 A) ∧ (f 4 = true → f 5 = true → v5 ≠ v6) ∧ (f 6 = true → f 4 = true) ∧ (f 7 = true → f 5 = true)
theorem BoxT.keep {w W W' : World} {T : Array Value} {b : Bool} {v : Value} {A : Nat} (h : BoxT w W T b v A) (hk : ∀ (k : Nat) (o : Obj), W.heap[k]? = some o → W'.heap[k]? = some o) : BoxT w W' T b v A := ⟨h.1, h.2.1, hk _ _ h.2.2⟩
theorem R3.keep {w W W' : World} {x y : Obj} {u : Value} {T : Array Value} {f : Nat → Bool} {v30 v31 v32 v33 v5 v6 : Value} (h : R3 w x y u T f v30 v31 v32 v33 v5 v6 W) (hb : Below w.heap.size w W')
    (hk : ∀ (k : Nat) (o : Obj), W.heap[k]? = some o → W'.heap[k]? = some o) : R3 w x y u T f v30 v31 v32 v33 v5 v6 W' := by
  obtain ⟨h1, h2, h3, h4, h5, h6, h7, h8, h9, h10, h11, h12⟩ := h
  exact ⟨hb, hk _ _ h2, hk _ _ h3, h4, h5, h6, h7, fun e => (h8 e).imp fun A hA => hA.keep hk, fun e => (h9 e).imp fun A hA => hA.keep hk, h10, h11, h12⟩
theorem keep_below {W W' : World} (hb : Below W.heap.size W W') : ∀ (k : Nat) (o : Obj), W.heap[k]? = some o → W'.heap[k]? = some o := fun k _ h => (hb.block k (lt_of_block h)).trans h
theorem keep_al {W : World} (o' : Obj) : ∀ (k : Nat) (o : Obj), W.heap[k]? = some o → (W.alloc o').heap[k]? = some o := fun _ _ h => heap_after h o'
theorem set9_other (W : World) (A k : Nat) (a0 a1 a2 a3 a4 a5 a6 a7 a8 : Value) (h : k ≠ A) : (((((((((W.setCell ⟨A, 0, none⟩ a0).setCell ⟨A, 1, none⟩ a1).setCell ⟨A, 2, none⟩ a2).setCell ⟨A, 3, none⟩ a3).setCell ⟨A, 4, none⟩ a4).setCell ⟨A, 5, none⟩ a5).setCell ⟨A, 6, none⟩ a6).setCell ⟨A, 7, none⟩ a7).setCell ⟨A, 8, none⟩ a8).heap[k]? = W.heap[k]? := by
  iterate 9 rw [Below.heap_setCell _ _ _ _ h]
theorem set9_same {W : World} {A : Nat} {t : TypeId} (a0 a1 a2 a3 a4 a5 a6 a7 a8 : Value) (h : W.heap[A]? = some (.cells ZT t (0, 0))) : (((((((((W.setCell ⟨A, 0, none⟩ a0).setCell ⟨A, 1, none⟩ a1).setCell ⟨A, 2, none⟩ a2).setCell ⟨A, 3, none⟩ a3).setCell ⟨A, 4, none⟩ a4).setCell ⟨A, 5, none⟩ a5).setCell ⟨A, 6, none⟩ a6).setCell ⟨A, 7, none⟩ a7).setCell ⟨A, 8, none⟩ a8).heap[A]? = some (.cells #[a0, a1, a2, a3, a4, a5, a6, a7, a8] t (0, 0)) := nine_blk h a0 a1 a2 a3 a4 a5 a6 a7 a8
theorem set9_below {w W : World} {A : Nat} (h : Below w.heap.size w W) (hA : w.heap.size ≤ A) (a0 a1 a2 a3 a4 a5 a6 a7 a8 : Value) : Below w.heap.size w (((((((((W.setCell ⟨A, 0, none⟩ a0).setCell ⟨A, 1, none⟩ a1).setCell ⟨A, 2, none⟩ a2).setCell ⟨A, 3, none⟩ a3).setCell ⟨A, 4, none⟩ a4).setCell ⟨A, 5, none⟩ a5).setCell ⟨A, 6, none⟩ a6).setCell ⟨A, 7, none⟩ a7).setCell ⟨A, 8, none⟩ a8) :=
  bset (bset (bset (bset (bset (bset (bset (bset (bset h hA _) hA _) hA _) hA _) hA _) hA _) hA _) hA _) hA _
theorem R3.store6 {w W W' : World} {x y : Obj} {u : Value} {T : Array Value} {f : Nat → Bool} {v30 v31 v32 v33 v5 v6 : Value} {A : Nat} (h : R3 w x y u T f v30 v31 v32 v33 v5 v6 W) (h4 : f 4 = true) (hA : BoxT w W T (f 6) v5 A)
    (hW : W'.heap[A]? = some (.cells T 40 (0, 0))) (ho : ∀ k, k ≠ A → W'.heap[k]? = W.heap[k]?) (hb : Below w.heap.size w W') : R3 w x y u T (upd f 6) v30 v31 v32 v33 v5 v6 W' := by
  obtain ⟨_, h2, h3, h4', h5, h6, h7, _, h9, h10, h11, h12⟩ := h
  obtain ⟨e, ha, _⟩ := hA
  refine ⟨hb, (ho _ (by omega)).trans h2, (ho _ (by omega)).trans h3, h4', h5, h6, h7, fun _ => ⟨A, e, ha, hW⟩, fun e5 => ?_, h10, fun _ => h4, h12⟩
  obtain ⟨B, e', hB, hc⟩ := h9 e5
  exact ⟨B, e', hB, (ho _ (fun q => h10 h4 e5 (by rw [e, e', q]))).trans hc⟩
theorem R3.store7 {w W W' : World} {x y : Obj} {u : Value} {T : Array Value} {f : Nat → Bool} {v30 v31 v32 v33 v5 v6 : Value} {A : Nat} (h : R3 w x y u T f v30 v31 v32 v33 v5 v6 W) (h5 : f 5 = true) (hA : BoxT w W T (f 7) v6 A)
    (hW : W'.heap[A]? = some (.cells T 40 (0, 0))) (ho : ∀ k, k ≠ A → W'.heap[k]? = W.heap[k]?) (hb : Below w.heap.size w W') : R3 w x y u T (upd f 7) v30 v31 v32 v33 v5 v6 W' := by
  obtain ⟨_, h2, h3, h4', h5', h6, h7, h8, _, h10, h11, h12⟩ := h
  obtain ⟨e, ha, _⟩ := hA
  refine ⟨hb, (ho _ (by omega)).trans h2, (ho _ (by omega)).trans h3, h4', h5', h6, h7, fun e4 => ?_, fun _ => ⟨A, e, ha, hW⟩, h10, h11, fun _ => h5⟩
  obtain ⟨B, e', hB, hc⟩ := h8 e4
  exact ⟨B, e', hB, (ho _ (fun q => h10 e4 h5 (by rw [e, e', q]))).trans hc⟩
set_option maxRecDepth 100000 in
set_option maxHeartbeats 4000000 in
theorem terms_main (s : ByteArray) (n : Int) (k i g : Int) (nm fn : ByteArray) (ar : Int) (ao : Option Addr) (il cap : Nat) (bs : ByteArray) (m : Int) (hs : s.size ≤ 4096) (hn : i64ok n) (hb : bs.size ≤ 4096) (hm : i64ok m) (hil : il ≤ 100) (w : World) :
    Calls Try.prog 7 #[.agg #[.string s, .int .i64 n], tmV k i g nm fn ar (.slice ao il cap) bs m] w (Yes w) := by
  have l1 : ¬ (4096 : Int) < (s.size : Int) := by omega
  have l2 : ¬ (4096 : Int) < (bs.size : Int) := by omega
  have l3 : ¬ (100 : Int) < (il : Int) := by omega
  have hT := fun W => Term_any s n (by rw [maxLen_val]; omega) hn.1 hn.2 W
  have hR := fun W => rTerm_any s n (by rw [maxLen_val]; omega) hn.1 hn.2 W
  obtain ⟨k', s', n', hterm, hcase, hs', hn'⟩ : ∃ k' s' n', termV s n = tmV k' 0 0 ⟨#[]⟩ ⟨#[]⟩ 0 (.slice none 0 0) s' n' ∧ ((termOk s n = true ∧ k' = 10 ∧ s' = s ∧ n' = n) ∨ (termOk s n = false ∧ k' = 0 ∧ s' = ⟨#[]⟩ ∧ n' = 0)) ∧ s'.size ≤ 4096 ∧ i64ok n' := by
    unfold termV
    cases h : termOk s n
    · exact ⟨0, ⟨#[]⟩, 0, rfl, .inr ⟨rfl, rfl, rfl, rfl⟩, by decide, by constructor <;> decide⟩
    · exact ⟨10, s, n, rfl, .inl ⟨rfl, rfl, rfl, rfl⟩, hs, hn⟩
  have hF := fun W => From_any k i g nm fn ar ao il cap bs m (by rw [maxLen_val]; omega) (by rw [maxLen_val]; omega) hm W
  have hG := fun W => rFrom_any k i g nm fn ar ao il cap bs m (by rw [maxLen_val]; omega) (by rw [maxLen_val]; omega) hm W
  have hB := fun W => From_any k' 0 0 ⟨#[]⟩ ⟨#[]⟩ 0 none 0 0 s' n' (by rw [maxLen_val]; omega) (by rw [maxLen_val]; omega) hn' W
  have hV := fun W => rValid_any s n (by rw [maxLen_val]; omega) hn.1 hn.2 W
  have hS := fun W => Same_self k' 0 0 ⟨#[]⟩ ⟨#[]⟩ 0 s' n' W
  have hcond : (validB s n = true ∧ n ≤ 16384 ∧ fromR k' 0 0 ⟨#[]⟩ ⟨#[]⟩ 0 0 s' n' = (s, n, true)) ∨ (validB s n = true ∧ ¬ n ≤ 16384) ∨ validB s n = false := by
    rcases hcase with ⟨h, rfl, rfl, rfl⟩ | ⟨h, rfl, rfl, rfl⟩
    · left
      have h' := h
      simp only [termOk, Bool.and_eq_true, decide_eq_true_eq] at h'
      exact ⟨h'.1, h'.2, by unfold fromR; rw [if_pos ⟨rfl, ⟨rfl, rfl, by simp, by simp, rfl, rfl⟩, h⟩]⟩
    · right
      cases hv : validB s n
      · exact .inr rfl
      · left
        refine ⟨rfl, fun hle => ?_⟩
        simp [termOk, hv, hle] at h
  generalize fromR k i g nm fn ar il bs m = r at hF hG
  generalize fromR k' 0 0 ⟨#[]⟩ ⟨#[]⟩ 0 0 s' n' = r' at hB hcond
  obtain ⟨r1, r2, r3⟩ := r
  obtain ⟨p1, p2, p3⟩ := r'
  simp only [fromRet] at hF hG hB
  generalize validB s n = vb at hV hcond
  have HF := Lib.hid hF
  have HG := Lib.hid hG
  have HBk := Lib.hid hB
  have HV := Lib.hid hV
  have HS := Lib.hid hS
  have HCo := Lib.hid hcond
  clear hF hG hB hV hS hcond
  rw [hterm] at hT hR
  unfold tmV at hT hR HF HG HBk HS ⊢
  have HT := Lib.hid hT
  have HR0 := Lib.hid hR
  have HC := Lib.hid hcase
  clear hT hR hcase hterm HC
  go_enter Try.func7, Try.ntmps7
  go_wp2_with fail
  rename_i Kc hKc
  refine wp_region_at (by kernel_rfl) (fun a0 f a w' => ∃ v30 v31 v32 v33 v5 v6 : Value, a = (((((a0.put (some 30) v30).put (some 31) v31).put (some 32) v32).put (some 33) v33).put (some 5) v5).put (some 6) v6 ∧ R3 w (.cells #[.string s, .int .i64 n] 25) (.cells #[.int .i64 k, .int .i64 i, .int .i64 g, .string nm, .string fn, .int .i64 ar, .slice ao il cap, .string bs, .int .i64 m] 40) (.agg #[.string s, .int .i64 n]) #[.int .i64 k', .int .i64 0, .int .i64 0, .string ⟨#[]⟩, .string ⟨#[]⟩, .int .i64 0, .slice none 0 0, .string s', .int .i64 n'] f v30 v31 v32 v33 v5 v6 w') (by kernel_rfl) ?_ ?_ ?_
  · refine ⟨undef, undef, undef, undef, undef, undef, rfl, (balloc (below_alloc _ _) _).drew, new2_0 _ _ _, new2_1 _ _ _, ?_⟩
    refine ⟨?_, ?_, ?_, ?_, ?_, ?_, ?_, ?_, ?_⟩ <;> (intro h; cases h)
  · intro i o ho f a' W hf haft hR K' hK
    clear hKc
    obtain ⟨v30, v31, v32, v33, v5, v6, rfl, hR⟩ := hR
    have HR := Lib.hid hR
    obtain ⟨h1, h2, h3, h4, h5, h6, h7, h8, h9, h10, h11, h12⟩ := hR
    have c0 := cells_of h2 0
    have c1 := cells_of h2 1
    simp only [List.getElem?_toArray, List.getElem?_cons_succ, List.getElem?_cons_zero] at c0 c1
    match i, ho with
    | 0, ho =>
      cases ho
      clear h1 h2 h3 h4 h5 h6 h7 h8 h9 h10 h11 h12
      go_simp
      refine hK _ _ ⟨(.agg #[.string s, .int .i64 n]), v31, v32, v33, v5, v6, by simp [Act.put], ?_⟩
      obtain ⟨h1, h2, h3, h4, h5, h6, h7, h8, h9, h10, h11, h12⟩ := HR.out
      exact ⟨h1, h2, h3, fun _ => rfl, h5, h6, h7, h8, h9, h10, h11, h12⟩
    | 2, ho =>
      cases ho
      clear h1 h2 h3 h4 h5 h6 h7 h8 h9 h10 h11 h12
      go_simp
      refine hK _ _ ⟨v30, v31, (.agg #[.string s, .int .i64 n]), v33, v5, v6, by simp [Act.put], ?_⟩
      obtain ⟨h1, h2, h3, h4, h5, h6, h7, h8, h9, h10, h11, h12⟩ := HR.out
      exact ⟨h1, h2, h3, h4, fun _ => rfl, h6, h7, h8, h9, h10, h11, h12⟩
    | 1, ho =>
      cases ho
      obtain rfl := h4 (by simpa [Region.binds] using haft)
      clear h1 h2 h3 h5 h6 h7 h8 h9 h10 h11 h12 c0 c1
      go_simp
      refine (HT.out _).mono ?_
      rintro e w1 ⟨rfl, hb1⟩
      refine hK _ _ ⟨(.agg #[.string s, .int .i64 n]), (tmV k' 0 0 ⟨#[]⟩ ⟨#[]⟩ 0 (.slice none 0 0) s' n'), v32, v33, v5, v6, by simp [Act.put, tmV], ?_⟩
      obtain ⟨h1, h2, h3, h4, h5, h6, h7, h8, h9, h10, h11, h12⟩ := HR.out.keep (bstep HR.out.1 hb1) (keep_below hb1)
      exact ⟨h1, h2, h3, h4, h5, fun _ => rfl, h7, h8, h9, h10, h11, h12⟩
    | 3, ho =>
      cases ho
      obtain rfl := h5 (by simp [Region.binds] at haft; exact haft.1)
      clear h1 h2 h3 h4 h6 h7 h8 h9 h10 h11 h12 c0 c1
      go_simp
      refine (HR0.out _).mono ?_
      rintro e w1 ⟨rfl, hb1⟩
      refine hK _ _ ⟨v30, v31, (.agg #[.string s, .int .i64 n]), (tmV k' 0 0 ⟨#[]⟩ ⟨#[]⟩ 0 (.slice none 0 0) s' n'), v5, v6, by simp [Act.put, tmV], ?_⟩
      obtain ⟨h1, h2, h3, h4, h5, h6, h7, h8, h9, h10, h11, h12⟩ := HR.out.keep (bstep HR.out.1 hb1) (keep_below hb1)
      exact ⟨h1, h2, h3, h4, h5, h6, fun _ => rfl, h8, h9, h10, h11, h12⟩
    | 4, ho =>
      cases ho
      clear h1 h2 h3 h4 h5 h6 h7 h8 h9 h10 h11 h12 c0 c1
      go_simp
      refine hK _ _ ⟨v30, v31, v32, v33, .pointer (some ⟨W.heap.size, 0, none⟩), v6, by simp [Act.put], ?_⟩
      obtain ⟨h1, h2, h3, h4, h5, h6, h7, h8, h9, h10, h11, h12⟩ := HR.out.keep (balloc HR.out.1 _) (keep_al (.cells ZT 40))
      obtain ⟨g1, _, _, _, _, _, _, g8, g9, _, g11, g12⟩ := HR.out
      have hz := lt_of_block h3
      have hy := lt_of_block HR.out.2.2.1
      have hn : f 6 = false := by
        cases hq : f 6
        · rfl
        · have := g11 hq; rw [hf] at this; cases this
      refine ⟨h1, h2, h3, h4, h5, h6, h7, fun _ => ⟨W.heap.size, rfl, by omega, ?_⟩, h9, fun _ e5 => ?_, fun _ => rfl, h12⟩
      · rw [show upd f 4 6 = false from hn]
        exact new1_0 _ _
      · obtain ⟨B, hB1, _, hB3⟩ := g9 e5
        have := lt_of_block hB3
        rw [hB1]
        intro q
        simp at q
        try omega
    | 5, ho =>
      cases ho
      clear h1 h2 h3 h4 h5 h6 h7 h8 h9 h10 h11 h12 c0 c1
      go_simp
      refine hK _ _ ⟨v30, v31, v32, v33, v5, .pointer (some ⟨W.heap.size, 0, none⟩), by simp [Act.put], ?_⟩
      obtain ⟨h1, h2, h3, h4, h5, h6, h7, h8, h9, h10, h11, h12⟩ := HR.out.keep (balloc HR.out.1 _) (keep_al (.cells ZT 40))
      obtain ⟨g1, _, _, _, _, _, _, g8, g9, _, g11, g12⟩ := HR.out
      have hz := lt_of_block h3
      have hy := lt_of_block HR.out.2.2.1
      have hn : f 7 = false := by
        cases hq : f 7
        · rfl
        · have := g12 hq; rw [hf] at this; cases this
      refine ⟨h1, h2, h3, h4, h5, h6, h7, h8, fun _ => ⟨W.heap.size, rfl, by omega, ?_⟩, fun e5 _ => ?_, h11, fun _ => rfl⟩
      · rw [show upd f 5 7 = false from hn]
        exact new1_0 _ _
      · obtain ⟨B, hB1, _, hB3⟩ := g8 e5
        have := lt_of_block hB3
        rw [hB1]
        intro q
        simp at q
        try omega
    | 6, ho =>
      have e4 : f 4 = true := by cases ho; simp [Region.binds] at haft; simp [haft]
      obtain rfl := h6 (by cases ho; simp [Region.binds] at haft; simp [haft])
      obtain ⟨A, hA1, hA2, hA3⟩ := h8 e4
      have HB := Lib.hid (show BoxT w W _ (f 6) v5 A from ⟨hA1, hA2, hA3⟩)
      subst hA1
      rw [hf] at hA3
      have HC3 := Lib.hid hA3
      have d0 := cells_of hA3 0
      have d1 := cells_of hA3 1
      have d2 := cells_of hA3 2
      have d3 := cells_of hA3 3
      have d4 := cells_of hA3 4
      have d5 := cells_of hA3 5
      have d6 := cells_of hA3 6
      have d7 := cells_of hA3 7
      have d8 := cells_of hA3 8
      have fz : ∀ k, W.frozen? ⟨A, k, none⟩ = false := fun k => frees_of hA3 k
      simp only [Bool.false_eq_true, if_false, ZT, List.getElem?_toArray, List.getElem?_cons_succ, List.getElem?_cons_zero] at d0 d1 d2 d3 d4 d5 d6 d7 d8
      clear hA3 hf haft h1 h2 h3 h4 h5 h6 h7 h8 h9 h10 h11 h12 c0 c1
      cases ho
      go_simp
      refine hK _ _ ⟨v30, (tmV k' 0 0 ⟨#[]⟩ ⟨#[]⟩ 0 (.slice none 0 0) s' n'), v32, v33, .pointer (some ⟨A, 0, none⟩), v6, by simp [Act.put, tmV], ?_⟩
      exact HR.out.store6 e4 HB.out (set9_same _ _ _ _ _ _ _ _ _ HC3.out) (fun k hk => set9_other _ _ _ _ _ _ _ _ _ _ _ _ hk) (set9_below HR.out.1 (by omega) _ _ _ _ _ _ _ _ _)
    | 7, ho =>
      have e5 : f 5 = true := by cases ho; simp [Region.binds] at haft; simp [haft]
      obtain rfl := h7 (by cases ho; simp [Region.binds] at haft; simp [haft])
      obtain ⟨A, hA1, hA2, hA3⟩ := h9 e5
      have HB := Lib.hid (show BoxT w W _ (f 7) v6 A from ⟨hA1, hA2, hA3⟩)
      subst hA1
      rw [hf] at hA3
      have HC3 := Lib.hid hA3
      have d0 := cells_of hA3 0
      have d1 := cells_of hA3 1
      have d2 := cells_of hA3 2
      have d3 := cells_of hA3 3
      have d4 := cells_of hA3 4
      have d5 := cells_of hA3 5
      have d6 := cells_of hA3 6
      have d7 := cells_of hA3 7
      have d8 := cells_of hA3 8
      have fz : ∀ k, W.frozen? ⟨A, k, none⟩ = false := fun k => frees_of hA3 k
      simp only [Bool.false_eq_true, if_false, ZT, List.getElem?_toArray, List.getElem?_cons_succ, List.getElem?_cons_zero] at d0 d1 d2 d3 d4 d5 d6 d7 d8
      clear hA3 hf haft h1 h2 h3 h4 h5 h6 h7 h8 h9 h10 h11 h12 c0 c1
      cases ho
      go_simp
      refine hK _ _ ⟨v30, v31, v32, (tmV k' 0 0 ⟨#[]⟩ ⟨#[]⟩ 0 (.slice none 0 0) s' n'), v5, .pointer (some ⟨A, 0, none⟩), by simp [Act.put, tmV], ?_⟩
      exact HR.out.store7 e5 HB.out (set9_same _ _ _ _ _ _ _ _ _ HC3.out) (fun k hk => set9_other _ _ _ _ _ _ _ _ _ _ _ _ hk) (set9_below HR.out.1 (by omega) _ _ _ _ _ _ _ _ _)
    | _ + 8, ho => cases ho
  · intro f a' W hf hR
    obtain ⟨v30, v31, v32, v33, v5, v6, rfl, hR⟩ := hR
    obtain ⟨h1, h2, h3, h4, h5, h6, h7, h8, h9, h10, -, -⟩ := hR
    obtain rfl := h4 (hf 0 (by decide))
    obtain rfl := h5 (hf 2 (by decide))
    obtain rfl := h6 (hf 1 (by decide))
    obtain rfl := h7 (hf 3 (by decide))
    obtain ⟨A, hA1, hA2, hA3⟩ := h8 (hf 4 (by decide))
    obtain ⟨B, hB1, hB2, hB3⟩ := h9 (hf 5 (by decide))
    subst hA1 hB1
    rw [hf 6 (by decide), if_pos rfl] at hA3
    rw [hf 7 (by decide), if_pos rfl] at hB3
    have HA := Lib.hid hA3
    have HB := Lib.hid hB3
    have H2 := Lib.hid h2
    have H3 := Lib.hid h3
    have H1 := Lib.hid h1
    clear h1 h2 h3 h4 h5 h6 h7 h8 h9 h10 hA3 hB3 hf
    have t0 := cells_of H3.out 0
    have t1 := cells_of H3.out 1
    have t2 := cells_of H3.out 2
    have t3 := cells_of H3.out 3
    have t4 := cells_of H3.out 4
    have t5 := cells_of H3.out 5
    have t6 := cells_of H3.out 6
    have t7 := cells_of H3.out 7
    have t8 := cells_of H3.out 8
    simp only [List.getElem?_toArray, List.getElem?_cons_succ, List.getElem?_cons_zero] at t0 t1 t2 t3 t4 t5 t6 t7 t8
    have zW := lt_of_block H3.out
    go_wp2_with fail
    refine (HF.out _).mono ?_
    rintro e w2 ⟨rfl, hb2⟩
    have hc2 := bcell hb2
    have hz2 := hb2.size
    have HB2 := Lib.hid hb2
    clear hb2
    have zw2 : w.heap.size + 1 < w2.heap.size := by omega
    have HA2 := Lib.hid (keep_below HB2.out _ _ HA.out)
    have HB_2 := Lib.hid (keep_below HB2.out _ _ HB.out)
    have H22 := Lib.hid (keep_below HB2.out _ _ H2.out)
    go_wp2_with fail
    refine (HG.out _).mono ?_
    rintro e w3 ⟨rfl, hb3⟩
    have HA3 := Lib.hid (keep_below hb3 _ _ (keep_al (.cells #[.string r1, .int .i64 r2] 25) _ _ HA2.out))
    have HB_3 := Lib.hid (keep_below hb3 _ _ (keep_al (.cells #[.string r1, .int .i64 r2] 25) _ _ HB_2.out))
    have H23 := Lib.hid (keep_below hb3 _ _ (keep_al (.cells #[.string r1, .int .i64 r2] 25) _ _ H22.out))
    have H73 := Lib.hid (keep_below hb3 _ _ (new1_0 w2 (.cells #[.string r1, .int .i64 r2] 25)))
    have HB3 := Lib.hid hb3
    clear hb3 t0 t1 t2 t3 t4 t5 t6 t7 t8 hc2
    have a0 := cells_of HA3.out 0
    have a1 := cells_of HA3.out 1
    have a2 := cells_of HA3.out 2
    have a3 := cells_of HA3.out 3
    have a4 := cells_of HA3.out 4
    have a5 := cells_of HA3.out 5
    have a6 := cells_of HA3.out 6
    have a7 := cells_of HA3.out 7
    have a8 := cells_of HA3.out 8
    simp only [List.getElem?_toArray, List.getElem?_cons_succ, List.getElem?_cons_zero] at a0 a1 a2 a3 a4 a5 a6 a7 a8
    have b0 := cells_of HB_3.out 0
    have b1 := cells_of HB_3.out 1
    have b2 := cells_of HB_3.out 2
    have b3 := cells_of HB_3.out 3
    have b4 := cells_of HB_3.out 4
    have b5 := cells_of HB_3.out 5
    have b6 := cells_of HB_3.out 6
    have b7 := cells_of HB_3.out 7
    have b8 := cells_of HB_3.out 8
    simp only [List.getElem?_toArray, List.getElem?_cons_succ, List.getElem?_cons_zero] at b0 b1 b2 b3 b4 b5 b6 b7 b8
    have c0 := cells_of H73.out 0
    have c1 := cells_of H73.out 1
    simp only [List.getElem?_toArray, List.getElem?_cons_succ, List.getElem?_cons_zero] at c0 c1
    have zA := lt_of_block HA3.out
    have zB := lt_of_block HB_3.out
    have z7 := lt_of_block H73.out
    go_wp2_with fail
    refine (HS.out _).mono ?_
    rintro e w4 ⟨rfl, hb4⟩
    have HA4 := Lib.hid (keep_below hb4 _ _ (keep_al (.cells #[.string r1, .int .i64 r2] 25) _ _ HA3.out))
    have H24 := Lib.hid (keep_below hb4 _ _ (keep_al (.cells #[.string r1, .int .i64 r2] 25) _ _ H23.out))
    have H74 := Lib.hid (keep_below hb4 _ _ (keep_al (.cells #[.string r1, .int .i64 r2] 25) _ _ H73.out))
    have H94 := Lib.hid (keep_below hb4 _ _ (new1_0 w3 (.cells #[.string r1, .int .i64 r2] 25)))
    have HB4 := Lib.hid hb4
    clear hb4 a0 a1 a2 a3 a4 a5 a6 a7 a8 b0 b1 b2 b3 b4 b5 b6 b7 b8 c0 c1 zA zB z7
    have a0 := cells_of HA4.out 0
    have a1 := cells_of HA4.out 1
    have a2 := cells_of HA4.out 2
    have a3 := cells_of HA4.out 3
    have a4 := cells_of HA4.out 4
    have a5 := cells_of HA4.out 5
    have a6 := cells_of HA4.out 6
    have a7 := cells_of HA4.out 7
    have a8 := cells_of HA4.out 8
    simp only [List.getElem?_toArray, List.getElem?_cons_succ, List.getElem?_cons_zero] at a0 a1 a2 a3 a4 a5 a6 a7 a8
    have c0 := cells_of H74.out 0
    have c1 := cells_of H74.out 1
    simp only [List.getElem?_toArray, List.getElem?_cons_succ, List.getElem?_cons_zero] at c0 c1
    have d0 := cells_of H94.out 0
    have d1 := cells_of H94.out 1
    simp only [List.getElem?_toArray, List.getElem?_cons_succ, List.getElem?_cons_zero] at d0 d1
    go_wp2_with fail
    refine (HBk.out _).mono ?_
    rintro e w5 ⟨rfl, hb5⟩
    have H25 := Lib.hid (keep_below hb5 _ _ H24.out)
    have HB5 := Lib.hid hb5
    clear hb5 a0 a1 a2 a3 a4 a5 a6 a7 a8 c0 c1 d0 d1
    have c0 := cells_of H25.out 0
    have c1 := cells_of H25.out 1
    simp only [List.getElem?_toArray, List.getElem?_cons_succ, List.getElem?_cons_zero] at c0 c1
    have z25 := lt_of_block H25.out
    go_wp2_with fail
    refine (HV.out _).mono ?_
    rintro e w6 ⟨rfl, hb6⟩
    have H26 := Lib.hid (keep_below hb6 _ _ (keep_al (.cells #[.string p1, .int .i64 p2] 25) _ _ H25.out))
    have H116 := Lib.hid (keep_below hb6 _ _ (new1_0 w5 (.cells #[.string p1, .int .i64 p2] 25)))
    have HB6 := Lib.hid hb6
    clear hb6 c0 c1 z25
    have c0 := cells_of H26.out 0
    have c1 := cells_of H26.out 1
    simp only [List.getElem?_toArray, List.getElem?_cons_succ, List.getElem?_cons_zero] at c0 c1
    have d0 := cells_of H116.out 0
    have d1 := cells_of H116.out 1
    simp only [List.getElem?_toArray, List.getElem?_cons_succ, List.getElem?_cons_zero] at d0 d1
    have HE : Below w.heap.size w w6 := bstep (balloc (bstep (bstep (balloc (bstep (balloc (bstep H1.out HB2.out) _) HB3.out) _) HB4.out) HB5.out) _) HB6.out
    have HEh := Lib.hid HE
    clear HE
    refine Or.elim HCo.out ?_ (fun h => Or.elim h ?_ ?_)
    · rintro ⟨rfl, hle, hp⟩
      cases hp
      go_wp2_with fail
      refine (awake_any _).mono ?_
      rintro e w7 ⟨rfl, hb7⟩
      go_wp2_with fail
      go_ret
      exact ⟨rfl, bstep HEh.out hb7⟩
    · rintro ⟨rfl, hle⟩
      go_wp2_with fail
      refine (awake_any _).mono ?_
      rintro e w7 ⟨rfl, hb7⟩
      go_wp2_with fail
      go_ret
      exact ⟨rfl, bstep HEh.out hb7⟩
    · rintro rfl
      go_wp2_with fail
      refine (awake_any _).mono ?_
      rintro e w7 ⟨rfl, hb7⟩
      go_wp2_with fail
      go_ret
      exact ⟨rfl, bstep HEh.out hb7⟩
end Go.Proofs.Ytdgjbejbbmnhbaa
