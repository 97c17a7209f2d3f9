/-
  A region that draws its order, by words that may lean on what is done already; for rows that are made and written on.
-/
import Derived.Test.YtgbaelkoblnlhaaRegion3
namespace Go.Proofs.Ytgbaelkoblnlhaa
open Go.RowKit
/-- what an operation of the first part knows when it comes: its elders' words -/
structure KnownF (G : Nat → (Nat → Bool) → (Nat → Value) → (Nat → Nat) → (Nat → Nat) → World → Prop) (H : Nat) (w0 : World) (f : Nat → Bool) (n : Nat) (v : Nat → Value) (lo hi : Nat → Nat) (w : World) : Prop where
  below : Below H w0 w
  word : ∀ i, i < n → f i = true → G i f v lo hi w
  range : ∀ i, i < n → f i = true → H ≤ lo i ∧ lo i ≤ hi i ∧ hi i ≤ w.heap.size
  apart : ∀ i j, i < n → j < n → i ≠ j → f i = true → f j = true → hi i ≤ lo j ∨ hi j ≤ lo i
section
variable {P : Program} {ops : Array Oper} {Q : Exit → Act → World → Prop}
theorem wp_region_flags {id : Nat} {a0 : Act} {w0 : World} (hm : P.follows .mixedOrders = true) (n : Nat) (H : Nat) (dst : Nat → Option Tmp) (D : Nat → List Nat) (tg : Nat → Option Nat)
    (G : Nat → (Nat → Bool) → (Nat → Value) → (Nat → Nat) → (Nat → Nat) → World → Prop) (hH : H ≤ w0.heap.size)
    (hd : downB .any ops = true) (hn : n ≤ ops.size) (hs : sinkB .any ops n = true)
    (hdist : ∀ j k, j < n → k < n → j ≠ k → ∀ t, dst j = some t → dst k ≠ some t)
    (hD : ∀ i o, i < n → ops[i]? = some o → ∀ k, k ∈ D i → k < n ∧ k ≠ i ∧ ∃ e ∈ o.after, Region.binds .any e = true ∧ e.on = k)
    (hT : ∀ i j, i < n → tg i = some j → j ∈ D i)
    (hG : ∀ i f v lo hi w f' v' lo' hi' w', i < n → (∀ k, f k = true → f' k = true) → (∀ k, k = i ∨ k ∈ D i → v' k = v k ∧ lo' k = lo k ∧ hi' k = hi k) → (∀ k, k = i ∨ k ∈ D i → ∀ b, lo k ≤ b → b < hi k → w'.heap[b]? = w.heap[b]?) → G i f v lo hi w → G i f' v' lo' hi' w')
    (hstep : ∀ i o, i < n → ops[i]? = some o → ∀ f v lo hi w, f i = false → KnownF G H w0 f n v lo hi w → (∀ e ∈ o.after, Region.binds .any e = true → f e.on = true) →
      ∀ K' : Act → World → Prop, (∀ x w', Moves lo hi (tg i) w w' → (∀ j, tg i = some j → ∀ k, k < n → f k = true → (k = j ∨ j ∈ D k) → G k (upd f i) v lo hi w') → G i (upd f i) (updG v i x) (updG lo i w.heap.size) (updG hi i w'.heap.size) w' → K' ((canon dst v n a0).put (dst i) x) w') →
        if Region.wanted o (yielded ops (canon dst v n a0).tmps) = true then Oper.wp P o (canon dst v n a0) w K' Q else K' ((canon dst v n a0).put o.dst undef) w)
    (hend : ∀ v lo hi w, KnownF G H w0 (fun _ => true) n v lo hi w → wpList P ops Q (ops.toList.drop n) (canon dst v n a0) w) : (Code.region id ops true).wp P Q a0 w0 := by
  refine wp_region_prefix hm (fun f a w => (∀ i k, i < n → f i = true → k ∈ D i → f k = true) ∧ ∃ v lo hi, a = canon dst v n a0 ∧ KnownF G H w0 f n v lo hi w) n hd hn hs ?_ ?_ ?_
  · refine ⟨fun i k _ h => by simp at h, _, fun _ => 0, fun _ => 0, (canon_init a0 n).symm, ?_⟩
    refine ⟨(Below.refl _ _).drew, ?_, ?_, ?_⟩
    · intro i _ h; simp at h
    · intro i _ h; simp at h
    · intro i j _ _ _ h; simp at h
  · rintro i o hin ho f a w hfi haft ⟨hcl, v, lo, hi, rfl, hk⟩ K' hK
    have haft2 : ∀ e ∈ o.after, Region.binds .any e = true → f e.on = true := by
      intro e he hb
      rw [Array.all_eq_true'] at haft
      have := haft e he
      rw [hb] at this
      simpa using this
    have hDi : ∀ j, j ∈ D i → j < n ∧ j ≠ i ∧ f j = true := by
      intro j hj
      obtain ⟨h1, h2, e, he, hb, hej⟩ := hD i o hin ho j hj
      exact ⟨h1, h2, by rw [← hej]; exact haft2 e he hb⟩
    refine hstep i o hin ho f v lo hi w hfi hk haft2 K' fun x w' hb htg hg => hK _ _ ⟨?_, updG v i x, updG lo i w.heap.size, updG hi i w'.heap.size, canon_put a0 x n i hin hdist, ?_⟩
    · intro j k hj hfj hkj
      by_cases hji : j = i
      · subst hji
        obtain ⟨_, hne, hfk⟩ := hDi k hkj
        rw [upd_ne _ hne]; exact hfk
      · rw [upd_ne _ hji] at hfj
        have := hcl j k hj hfj hkj
        by_cases hki : k = i
        · subst hki; exact upd_at _ _
        · rw [upd_ne _ hki]; exact this
    · have hsz := hb.size
      have hHw : H ≤ w.heap.size := Nat.le_trans hH hk.below.size
      have hupd : ∀ k, f k = true → upd f i k = true := fun k hk => by
        by_cases e : k = i
        · subst e; exact upd_at _ _
        · rw [upd_ne _ e]; exact hk
      have htr : ∀ j, tg i = some j → j < n ∧ j ≠ i ∧ f j = true := fun j hj => hDi j (hT i j hin hj)
      refine ⟨hk.below.trans ⟨hb.os, hb.tape, hb.output, hb.size, fun k hkH => hb.block k (by omega) fun j hj => .inl ?_⟩, ?_, ?_, ?_⟩
      · obtain ⟨h1, _, h3⟩ := htr j hj
        have := (hk.range j h1 h3).1
        omega
      · intro j hj hfj
        by_cases hji : j = i
        · subst hji; exact hg
        · rw [upd_ne _ hji] at hfj
          have hne : ∀ k, k = j ∨ k ∈ D j → k ≠ i ∧ k < n ∧ f k = true := by
            intro k hkk
            rcases hkk with rfl | hkk
            · exact ⟨hji, hj, hfj⟩
            · have hfk := hcl j k hj hfj hkk
              obtain ⟨o', ho'⟩ : ∃ o', ops[j]? = some o' := ⟨_, Array.getElem?_eq_getElem (by omega)⟩
              refine ⟨fun e => ?_, (hD j o' hj ho' k hkk).1, hfk⟩
              subst e
              rw [hfi] at hfk; cases hfk
          have hsame : ∀ k, k = j ∨ k ∈ D j → updG v i x k = v k ∧ updG lo i w.heap.size k = lo k ∧ updG hi i w'.heap.size k = hi k := fun k hkk => ⟨updG_ne _ _ (hne k hkk).1, updG_ne _ _ (hne k hkk).1, updG_ne _ _ (hne k hkk).1⟩
          by_cases htj : ∃ q, tg i = some q ∧ (j = q ∨ q ∈ D j)
          · obtain ⟨q, hq, hjq⟩ := htj
            exact hG j _ v lo hi w' _ _ _ _ w' hj (fun _ h => h) hsame (fun _ _ _ _ _ => rfl) (htg q hq j hj hfj hjq)
          · refine hG j f v lo hi w _ _ _ _ w' hj hupd hsame (fun k hkk b hb1 hb2 => ?_) (hk.word j hj hfj)
            obtain ⟨_, hkn, hfk⟩ := hne k hkk
            have hrk := hk.range k hkn hfk
            refine hb.block b (by omega) fun q hq => ?_
            obtain ⟨hqn, _, hfq⟩ := htr q hq
            have hqk : k ≠ q := fun e => htj ⟨q, hq, by rcases hkk with h | h; exact .inl (h ▸ e); exact .inr (e ▸ h)⟩
            have := hk.apart k q hkn hqn hqk hfk hfq
            omega
      · intro j hj hfj
        by_cases hji : j = i
        · subst hji
          rw [updG_at, updG_at]
          exact ⟨hHw, hsz, Nat.le_refl _⟩
        · rw [upd_ne _ hji] at hfj
          rw [updG_ne _ _ hji, updG_ne _ _ hji]
          have := hk.range j hj hfj
          exact ⟨this.1, this.2.1, by omega⟩
      · intro j k hj hkn hne hfj hfk
        by_cases hji : j = i
        · subst hji
          rw [upd_ne _ (by omega)] at hfk
          rw [updG_at, updG_at, updG_ne _ _ (by omega), updG_ne _ _ (by omega)]
          exact .inr (hk.range k hkn hfk).2.2
        · rw [upd_ne _ hji] at hfj
          by_cases hki : k = i
          · subst hki
            rw [updG_at, updG_at, updG_ne _ _ hji, updG_ne _ _ hji]
            exact .inl (hk.range j hj hfj).2.2
          · rw [upd_ne _ hki] at hfk
            rw [updG_ne _ _ hji, updG_ne _ _ hji, updG_ne _ _ hki, updG_ne _ _ hki]
            exact hk.apart j k hj hkn hne hfj hfk
  · rintro f a w hall ⟨_, v, lo, hi, rfl, hk⟩
    exact hend v lo hi w ⟨hk.below, fun i hi' _ => hG i f v lo hi w _ v lo hi w hi' (fun _ _ => rfl) (fun _ _ => ⟨rfl, rfl, rfl⟩) (fun _ _ _ _ _ => rfl) (hk.word i hi' (hall i hi')), fun i hi' _ => hk.range i hi' (hall i hi'), fun i j h1 h2 h3 _ _ => hk.apart i j h1 h2 h3 (hall i h1) (hall j h2)⟩
theorem wp_region_fslots {id : Nat} {a0 : Act} {w0 : World} (hm : P.follows .mixedOrders = true) (n : Nat) (H : Nat) (dl : List (Option Nat)) (D : Nat → List Nat) (tg : Nat → Option Nat)
    (G : Nat → (Nat → Bool) → (Nat → Value) → (Nat → Nat) → (Nat → Nat) → World → Prop) (hH : H ≤ w0.heap.size)
    (hd : downB .any ops = true) (hn : n ≤ ops.size) (hs : sinkB .any ops n = true)
    (hdist : distB dl n = true) (hfit : fitsB dl n a0.tmps.size = true)
    (hD : ∀ i o, i < n → ops[i]? = some o → ∀ k, k ∈ D i → k < n ∧ k ≠ i ∧ ∃ e ∈ o.after, Region.binds .any e = true ∧ e.on = k)
    (hT : ∀ i j, i < n → tg i = some j → j ∈ D i)
    (hG : ∀ i f v lo hi w f' v' lo' hi' w', i < n → (∀ k, f k = true → f' k = true) → (∀ k, k = i ∨ k ∈ D i → v' k = v k ∧ lo' k = lo k ∧ hi' k = hi k) → (∀ k, k = i ∨ k ∈ D i → ∀ b, lo k ≤ b → b < hi k → w'.heap[b]? = w.heap[b]?) → G i f v lo hi w → G i f' v' lo' hi' w')
    (hstep : ∀ i o, i < n → ops[i]? = some o → ∀ f v lo hi w, f i = false → KnownF G H w0 f n v lo hi w → (∀ e ∈ o.after, Region.binds .any e = true → f e.on = true) →
      ∀ A : Act, (∀ k t, k < n → dl.getD k none = some t → A.tmps[t]? = some (v k)) → (∀ t, freeB dl n t = true → A.tmps[t]? = a0.tmps[t]?) →
      ∀ K' : Act → World → Prop, (∀ x w', Moves lo hi (tg i) w w' → (∀ j, tg i = some j → ∀ k, k < n → f k = true → (k = j ∨ j ∈ D k) → G k (upd f i) v lo hi w') → G i (upd f i) (updG v i x) (updG lo i w.heap.size) (updG hi i w'.heap.size) w' → K' (A.put (dl.getD i none) x) w') →
        if Region.wanted o (yielded ops A.tmps) = true then Oper.wp P o A w K' Q else K' (A.put o.dst undef) w)
    (hend : ∀ v lo hi w, KnownF G H w0 (fun _ => true) n v lo hi w → wpList P ops Q (ops.toList.drop n) (canon (fun k => dl.getD k none) v n a0) w) : (Code.region id ops true).wp P Q a0 w0 :=
  wp_region_flags hm n H (fun k => dl.getD k none) D tg G hH hd hn hs (dist_of hdist) hD hT hG
    (fun i o hi ho f v lo hi' w hfi hk ha K' hK => hstep i o hi ho f v lo hi' w hfi hk ha _
      (fun k t hk ht => canon_get a0 (fits_of hfit k t hk ht) n k hk ht (dist_of hdist))
      (fun _ ht => canon_out a0 n (free_of ht)) K' hK) hend
end
end Go.Proofs.Ytgbaelkoblnlhaa
