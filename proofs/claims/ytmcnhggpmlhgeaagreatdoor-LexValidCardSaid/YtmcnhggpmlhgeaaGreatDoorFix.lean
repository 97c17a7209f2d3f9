/-
  A region that draws its order, each operation of whose first part yields one value, whatever the order; the world keeps a relation that may turn with what has come up.
-/
import Derived.Test.YtmcnhggpmlhgeaaGreatDoorRegion3
namespace Go.Proofs.YtmcnhggpmlhgeaaGreatDoor
open Go.RowKit
theorem upd_map {acts : List Nat} {i : Nat} (f : Nat → Bool) (h : i ∉ acts) : acts.map (upd f i) = acts.map f :=
  List.map_congr_left fun _ hk => upd_ne f fun e => h (e ▸ hk)
theorem all_cons {p : Nat → Prop} {n : Nat} (k : Nat) (h : p k) (h2 : ∀ i, k + 1 ≤ i → i < n → p i) : ∀ i, k ≤ i → i < n → p i := fun i h1 h3 => by
  rcases Nat.lt_or_ge k i with h4 | h4
  · exact h2 i h4 h3
  · rwa [show i = k by omega]
theorem all_done {p : Nat → Prop} (n : Nat) : ∀ i, n ≤ i → i < n → p i := fun i h1 h3 => absurd h3 (by omega)
section
variable {P : Program} {ops : Array Oper} {Q : Exit → Act → World → Prop}
theorem wp_region_fix0 {id : Nat} {a0 : Act} {w0 : World} (hm : P.follows .mixedOrders = true) (n : Nat) (dl : List (Option Nat)) (vl : List Value) (acts : List Nat) (J : List Bool → World → Prop)
    (hd : downB .any ops = true) (hn : n ≤ ops.size) (hs : sinkB .any ops n = true) (hdist : distB dl n = true) (hfit : fitsB dl n a0.tmps.size = true) (hacts : ∀ k, k ∈ acts → k < n)
    (h0 : J (acts.map fun _ => false) w0.drew)
    (hstep : ∀ i, 0 ≤ i → i < n → ∀ o, ops[i]? = some o → ∀ f w, f i = false → (∀ e ∈ o.after, Region.binds .any e = true → f e.on = true) → J (acts.map f) w →
      ∀ A : Act, (∀ k t, k < n → f k = true → dl.getD k none = some t → A.tmps[t]? = some (vl.getD k undef)) → (∀ t, freeB dl n t = true → A.tmps[t]? = a0.tmps[t]?) →
      ∀ K' : Act → World → Prop, (∀ w', J (acts.map (upd f i)) w' → K' (A.put (dl.getD i none) (vl.getD i undef)) w') →
        if Region.wanted o (yielded ops A.tmps) = true then Oper.wp P o A w K' Q else K' (A.put o.dst undef) w)
    (hend : ∀ w, J (acts.map fun _ => true) w → wpList P ops Q (ops.toList.drop n) (canon (fun k => dl.getD k none) (fun k => vl.getD k undef) n a0) w) :
    (Code.region id ops true).wp P Q a0 w0 := by
  refine wp_region_prefix hm (fun f a w => ∃ v, a = canon (fun k => dl.getD k none) v n a0 ∧ (∀ k, k < n → f k = true → v k = vl.getD k undef) ∧ J (acts.map f) w) n hd hn hs ?_ ?_ ?_
  · exact ⟨_, (canon_init a0 n).symm, fun _ _ h => by simp at h, h0⟩
  · rintro i o hin ho f a w hfi haft ⟨v, rfl, hv, hJ⟩ K' hK
    have haft2 : ∀ e ∈ o.after, Region.binds .any e = true → f e.on = true := by
      intro e he hb
      rw [Array.all_eq_true'] at haft
      have := haft e he
      rw [hb] at this
      simpa using this
    refine hstep i (Nat.zero_le _) hin o ho f w hfi haft2 hJ _ (fun k t hk hf ht => ?_) (fun t ht => canon_out a0 n (free_of ht)) K' fun w' hw => hK _ _ ⟨updG v i (vl.getD i undef), canon_put a0 _ n i hin (dist_of hdist), fun k hk hf => ?_, hw⟩
    · rw [canon_get a0 (fits_of hfit k t hk ht) n k hk ht (dist_of hdist), hv k hk hf]
    · by_cases e : k = i
      · subst e; exact updG_at _ _ _
      · rw [updG_ne _ _ e]
        exact hv k hk (by rw [upd_ne _ e] at hf; exact hf)
  · rintro f a w hf ⟨v, rfl, hv, hJ⟩
    rw [canon_congr a0 n fun k hk => hv k hk (hf k hk)]
    refine hend w ?_
    rw [List.map_congr_left (g := fun _ => true) fun k hk => hf k (hacts k hk)] at hJ
    exact hJ
/-- the same with what each operation is told hidden -/
theorem wp_region_fix {id : Nat} {a0 : Act} {w0 : World} (hm : P.follows .mixedOrders = true) (n : Nat) (dl : List (Option Nat)) (vl : List Value) (acts : List Nat) (J : List Bool → World → Prop)
    (hd : downB .any ops = true) (hn : n ≤ ops.size) (hs : sinkB .any ops n = true) (hdist : distB dl n = true) (hfit : fitsB dl n a0.tmps.size = true) (hacts : ∀ k, k ∈ acts → k < n)
    (h0 : J (acts.map fun _ => false) w0.drew)
    (hstep : ∀ i, 0 ≤ i → i < n → ∀ o, ops[i]? = some o → ∀ f w, Hid (f i = false) → Hid (∀ e ∈ o.after, Region.binds .any e = true → f e.on = true) → Hid (J (acts.map f) w) →
      ∀ A : Act, Hid (∀ k t, k < n → f k = true → dl.getD k none = some t → A.tmps[t]? = some (vl.getD k undef)) → Hid (∀ t, freeB dl n t = true → A.tmps[t]? = a0.tmps[t]?) →
      ∀ K' : Act → World → Prop, Hid (∀ w', J (acts.map (upd f i)) w' → K' (A.put (dl.getD i none) (vl.getD i undef)) w') →
        if Region.wanted o (yielded ops A.tmps) = true then Oper.wp P o A w K' Q else K' (A.put o.dst undef) w)
    (hend : ∀ w, J (acts.map fun _ => true) w → wpList P ops Q (ops.toList.drop n) (canon (fun k => dl.getD k none) (fun k => vl.getD k undef) n a0) w) :
    (Code.region id ops true).wp P Q a0 w0 :=
  wp_region_fix0 hm n dl vl acts J hd hn hs hdist hfit hacts h0 (fun i h1 h2 o h3 f w h4 h5 h6 A h7 h8 K' h9 => hstep i h1 h2 o h3 f w h4 h5 h6 A h7 h8 K' h9) hend
end
end Go.Proofs.YtmcnhggpmlhgeaaGreatDoor
