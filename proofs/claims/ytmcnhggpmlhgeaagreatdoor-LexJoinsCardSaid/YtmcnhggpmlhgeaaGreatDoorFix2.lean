/-
  Drawn regions whose q-th operation yields a value that is known only when it acts (a ghost).
-/
import Derived.Test.YtmcnhggpmlhgeaaGreatDoorFix
namespace Go.Proofs.YtmcnhggpmlhgeaaGreatDoor
open Go.RowKit
/-- each operation behind the q-th waits for it or for one that does -/
def lateB (md : Region.Mode) (ops : Array Oper) (q n : Nat) : Bool := (List.range n).all fun k => decide (k ≤ q) || match ops[k]? with | none => true | some o => o.after.any fun e => Region.binds md e && decide (q ≤ e.on) && decide (e.on < n)
theorem late_on {md : Region.Mode} {ops : Array Oper} {q n k : Nat} {o : Oper} (h : lateB md ops q n = true) (hk : k < n) (hq : q < k) (ho : ops[k]? = some o) : ∃ e ∈ o.after, Region.binds md e = true ∧ q ≤ e.on ∧ e.on < n := by
  unfold lateB at h
  have h1 := (List.all_eq_true.1 h) k (List.mem_range.2 hk)
  rw [decide_eq_false (by omega), Bool.false_or, ho] at h1
  obtain ⟨e, he, h2⟩ := Array.any_eq_true'.1 h1
  rw [Bool.and_eq_true, Bool.and_eq_true, decide_eq_true_eq, decide_eq_true_eq] at h2
  exact ⟨e, he, h2.1.1, h2.1.2, h2.2⟩
section
variable {P : Program} {ops : Array Oper} {Q : Exit → Act → World → Prop}
theorem wp_region_late {G : Type} {id : Nat} {a0 : Act} {w0 : World} (hm : P.follows .mixedOrders = true) (n q : Nat) (dl : List (Option Nat)) (pre : List Value) (post : G → List Value) (acts : List Nat) (J : G → List Bool → World → Prop) (g0 : G)
    (hd : downB .any ops = true) (hn : n ≤ ops.size) (hs : sinkB .any ops n = true) (hdist : distB dl n = true) (hfit : fitsB dl n a0.tmps.size = true) (hacts : ∀ k, k ∈ acts → k < n) (hq : q < n) (hpre : pre.length = q) (hl : lateB .any ops q n = true)
    (h0 : J g0 (acts.map fun _ => false) w0.drew)
    (hstep : ∀ i, 0 ≤ i → i < n → ∀ o, ops[i]? = some o → ∀ f w, f i = false → (∀ e ∈ o.after, Region.binds .any e = true → f e.on = true) → ∀ g, J g (acts.map f) w →
      ∀ A : Act, (∀ k t, k < n → f k = true → dl.getD k none = some t → A.tmps[t]? = some ((pre ++ post g).getD k undef)) → (∀ t, freeB dl n t = true → A.tmps[t]? = a0.tmps[t]?) →
      ∀ K' : Act → World → Prop, (∀ w' g', (i = q ∨ g' = g) → J g' (acts.map (upd f i)) w' → K' (A.put (dl.getD i none) ((pre ++ post g').getD i undef)) w') →
        if Region.wanted o (yielded ops A.tmps) = true then Oper.wp P o A w K' Q else K' (A.put o.dst undef) w)
    (hend : ∀ g w, J g (acts.map fun _ => true) w → wpList P ops Q (ops.toList.drop n) (canon (fun k => dl.getD k none) (fun k => (pre ++ post g).getD k undef) n a0) w) :
    (Code.region id ops true).wp P Q a0 w0 := by
  have hpq : ∀ k, k < q → ∀ g g', (pre ++ post g).getD k undef = (pre ++ post g').getD k undef := fun k hk g g' => by
    rw [List.getD_eq_getElem?_getD, List.getD_eq_getElem?_getD, List.getElem?_append_left (by omega), List.getElem?_append_left (by omega)]
  refine wp_region_prefix hm (fun f a w => ∃ v g, a = canon (fun k => dl.getD k none) v n a0 ∧ (∀ k, k < n → f k = true → v k = (pre ++ post g).getD k undef) ∧ (∀ k, q < k → k < n → f k = true → f q = true) ∧ J g (acts.map f) w) n hd hn hs ?_ ?_ ?_
  · exact ⟨_, g0, (canon_init a0 n).symm, fun _ _ h => by simp at h, fun _ _ _ h => by simp at h, h0⟩
  · rintro i o hin ho f a w hfi haft ⟨v, g, rfl, hv, hcl, hJ⟩ K' hK
    have haft2 : ∀ e ∈ o.after, Region.binds .any e = true → f e.on = true := by
      intro e he hb
      rw [Array.all_eq_true'] at haft
      have := haft e he
      rw [hb] at this
      simpa using this
    refine hstep i (Nat.zero_le _) hin o ho f w hfi haft2 g hJ _ (fun k t hk hf ht => ?_) (fun t ht => canon_out a0 n (free_of ht)) K' fun w' g' hg hw => hK _ _ ⟨updG v i ((pre ++ post g').getD i undef), g', canon_put a0 _ n i hin (dist_of hdist), fun k hk hf => ?_, fun k h1 h2 h3 => ?_, hw⟩
    · rw [canon_get a0 (fits_of hfit k t hk ht) n k hk ht (dist_of hdist), hv k hk hf]
    · by_cases e : k = i
      · subst e; exact updG_at _ _ _
      · rw [updG_ne _ _ e]
        rw [upd_ne _ e] at hf
        rw [hv k hk hf]
        rcases hg with rfl | rfl
        · rcases Nat.lt_or_ge k i with h1 | h1
          · exact hpq k h1 _ _
          · have := hcl k (by omega) hk hf
            rw [hfi] at this; cases this
        · rfl
    · by_cases e : q = i
      · subst e; exact upd_at _ _
      · rw [upd_ne _ e]
        by_cases e2 : k = i
        · subst e2
          obtain ⟨ed, he, hb, hle, hln⟩ := late_on hl h2 h1 ho
          have hfe := haft2 ed he hb
          rcases Nat.lt_or_ge q ed.on with h5 | h5
          · exact hcl _ h5 hln hfe
          · rwa [show ed.on = q by omega] at hfe
        · rw [upd_ne _ e2] at h3
          exact hcl k h1 h2 h3
  · rintro f a w hf ⟨v, g, rfl, hv, -, hJ⟩
    rw [canon_congr a0 n fun k hk => hv k hk (hf k hk)]
    refine hend g w ?_
    rw [List.map_congr_left (g := fun _ => true) fun k hk => hf k (hacts k hk)] at hJ
    exact hJ
end
end Go.Proofs.YtmcnhggpmlhgeaaGreatDoor
