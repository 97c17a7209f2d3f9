/-
  A region that draws its order, by the word of each operation: what it yields, and which blocks it made.
-/
import Derived.Test.YtmcnhggpmlhgeaaGreatDoorRegion
namespace Go.Proofs.YtmcnhggpmlhgeaaGreatDoor
open Go.RowKit
def updG {α : Type} (v : Nat → α) (i : Nat) (x : α) : Nat → α := fun k => if k = i then x else v k
theorem updG_at {α : Type} (v : Nat → α) (i : Nat) (x : α) : updG v i x i = x := by simp [updG]
theorem updG_ne {α : Type} (v : Nat → α) {i k : Nat} (x : α) (h : k ≠ i) : updG v i x k = v k := by simp [updG, h]
/-- the frame: all slots that the first part writes, put in their order -/
def canon (dst : Nat → Option Tmp) (v : Nat → Value) : Nat → Act → Act
  | 0, a => a
  | n + 1, a => (canon dst v n a).put (dst n) (v n)
theorem put_comm (a : Act) {d e : Option Tmp} (x y : Value) (h : ∀ t, d = some t → e ≠ some t) : (a.put d x).put e y = (a.put e y).put d x := by
  cases d with
  | none => rfl
  | some t =>
    cases e with
    | none => rfl
    | some u =>
      have hne : t ≠ u := fun q => h t rfl (by rw [q])
      simp only [Act.put]
      rw [Array.setIfInBounds_comm _ _ hne]
theorem put_same (a : Act) (d : Option Tmp) (x y : Value) : (a.put d x).put d y = a.put d y := by
  cases d with
  | none => rfl
  | some t => simp [Act.put]
theorem canon_congr {dst : Nat → Option Tmp} {v v' : Nat → Value} (a : Act) : ∀ n, (∀ k, k < n → v k = v' k) → canon dst v n a = canon dst v' n a
  | 0, _ => rfl
  | n + 1, h => by rw [canon, canon, canon_congr a n (fun k hk => h k (by omega)), h n (by omega)]
theorem canon_put {dst : Nat → Option Tmp} {v : Nat → Value} (a : Act) (x : Value) : ∀ n i, i < n → (∀ j k, j < n → k < n → j ≠ k → ∀ t, dst j = some t → dst k ≠ some t) → (canon dst v n a).put (dst i) x = canon dst (updG v i x) n a
  | 0, _, h, _ => by omega
  | n + 1, i, h, hd => by
    rcases Nat.lt_or_ge i n with hlt | hge
    · rw [canon, canon, updG_ne _ _ (by omega), put_comm _ _ _ (hd n i (by omega) (by omega) (by omega)), canon_put a x n i hlt fun j k hj hk => hd j k (by omega) (by omega)]
    · have : i = n := by omega
      subst this
      rw [canon, canon, updG_at, put_same, canon_congr (v := v) (v' := updG v i x) a i fun k hk => (updG_ne v x (by omega)).symm]
theorem canon_init {dst : Nat → Option Tmp} (a : Act) : ∀ n, canon dst (fun k => match dst k with | none => undef | some t => a.tmps.getD t undef) n a = a
  | 0 => rfl
  | n + 1 => by
    rw [canon, canon_init a n]
    cases h : dst n with
    | none => rfl
    | some t =>
      simp only [Act.put]
      cases a with
      | mk tmps defers =>
        simp only [Act.mk.injEq, and_true]
        apply Array.ext_getElem?
        intro i
        rw [Array.getElem?_setIfInBounds]
        by_cases e : t = i
        · subst e
          by_cases hlt : t < tmps.size
          · simp [hlt, Array.getD]
          · simp [hlt]
        · simp [e]
theorem dist_nodup {dl : List Nat} (h : dl.Nodup) (n : Nat) : ∀ j k, j < n → k < n → j ≠ k → ∀ t, dl[j]? = some t → dl[k]? ≠ some t := by
  intro j k _ _ hne t h1 h2
  have hj : j < dl.length := by
    rcases Nat.lt_or_ge j dl.length with h | h
    · exact h
    · rw [List.getElem?_eq_none h] at h1; cases h1
  exact hne ((List.getElem?_inj hj h).1 (h1.trans h2.symm))
/-- no slot twice -/
def distB (dl : List (Option Nat)) (n : Nat) : Bool := (List.range n).all fun j => (List.range n).all fun k => decide (j = k) || decide (dl.getD j none = none) || decide (dl.getD j none ≠ dl.getD k none)
theorem dist_of {dl : List (Option Nat)} {n : Nat} (h : distB dl n = true) : ∀ j k, j < n → k < n → j ≠ k → ∀ t, dl.getD j none = some t → dl.getD k none ≠ some t := by
  intro j k hj hk hne t h1 h2
  have h3 := List.all_eq_true.1 (List.all_eq_true.1 h j (List.mem_range.2 hj)) k (List.mem_range.2 hk)
  simp only [Bool.or_eq_true, decide_eq_true_eq] at h3
  rcases h3 with (h3 | h3) | h3
  · exact hne h3
  · rw [h1] at h3; cases h3
  · exact h3 (h1.trans h2.symm)
/-- the words lean on elders that the operation waits for -/
def depB (ops : Array Oper) (n : Nat) (D : List (List Nat)) : Bool := (List.range n).all fun i => (D.getD i []).all fun k => decide (k < n) && decide (k ≠ i) && ((ops[i]?).map fun o => o.after.any fun e => Region.binds .any e && e.on == k).getD false
theorem dep_of {ops : Array Oper} {n : Nat} {D : List (List Nat)} (h : depB ops n D = true) : ∀ i o, i < n → ops[i]? = some o → ∀ k, k ∈ D.getD i [] → k < n ∧ k ≠ i ∧ ∃ e ∈ o.after, Region.binds .any e = true ∧ e.on = k := by
  intro i o hi ho k hk
  have h1 := List.all_eq_true.1 h i (List.mem_range.2 hi)
  have h2 := List.all_eq_true.1 h1 k hk
  rw [ho] at h2
  simp only [Bool.and_eq_true, decide_eq_true_eq, Option.map_some, Option.getD_some] at h2
  refine ⟨h2.1.1, h2.1.2, ?_⟩
  have h3 := h2.2
  rw [Array.any_eq_true'] at h3
  obtain ⟨e, he, hb⟩ := h3
  simp only [Bool.and_eq_true, beq_iff_eq] at hb
  exact ⟨e, he, hb.1, hb.2⟩
/-- what an operation of the first part knows when it comes: its elders' words -/
structure Known (G : Nat → (Nat → Value) → (Nat → Nat) → (Nat → Nat) → World → Prop) (H : Nat) (w0 : World) (f : Nat → Bool) (n : Nat) (v : Nat → Value) (lo hi : Nat → Nat) (w : World) : Prop where
  below : Below H w0 w
  word : ∀ i, i < n → f i = true → G i v lo hi w
  range : ∀ i, i < n → f i = true → H ≤ lo i ∧ lo i ≤ hi i ∧ hi i ≤ w.heap.size
  apart : ∀ i j, i < n → j < n → i ≠ j → f i = true → f j = true → hi i ≤ lo j ∨ hi j ≤ lo i
/-- what one operation does to the world: new blocks, and the blocks of its target alone -/
structure Moves (lo hi : Nat → Nat) (tg : Option Nat) (w w' : World) : Prop where
  os : w'.os = w.os
  tape : w'.tape = w.tape
  output : w'.output = w.output
  size : w.heap.size ≤ w'.heap.size
  block : ∀ k, k < w.heap.size → (∀ j, tg = some j → k < lo j ∨ hi j ≤ k) → w'.heap[k]? = w.heap[k]?
theorem Moves.of_below {lo hi : Nat → Nat} {tg : Option Nat} {w w' : World} (h : Below w.heap.size w w') : Moves lo hi tg w w' := ⟨h.os, h.tape, h.output, h.size, fun k hk _ => h.block k hk⟩
section
variable {P : Program} {ops : Array Oper} {Q : Exit → Act → World → Prop}
theorem wp_region_words {id : Nat} {a0 : Act} {w0 : World} (hm : P.follows .mixedOrders = true) (n : Nat) (H : Nat) (dst : Nat → Option Tmp) (D : Nat → List Nat) (tg : Nat → Option Nat)
    (G : Nat → (Nat → Value) → (Nat → Nat) → (Nat → Nat) → World → Prop) (hH : H ≤ w0.heap.size)
    (hd : downB .any ops = true) (hn : n ≤ ops.size) (hs : sinkB .any ops n = true)
    (hdist : ∀ j k, j < n → k < n → j ≠ k → ∀ t, dst j = some t → dst k ≠ some t)
    (hD : ∀ i o, i < n → ops[i]? = some o → ∀ k, k ∈ D i → k < n ∧ k ≠ i ∧ ∃ e ∈ o.after, Region.binds .any e = true ∧ e.on = k)
    (hT : ∀ i j, i < n → tg i = some j → j ∈ D i)
    (hG : ∀ i v lo hi w v' lo' hi' w', i < n → (∀ k, k = i ∨ k ∈ D i → v' k = v k ∧ lo' k = lo k ∧ hi' k = hi k) → (∀ k, k = i ∨ k ∈ D i → ∀ b, lo k ≤ b → b < hi k → w'.heap[b]? = w.heap[b]?) → G i v lo hi w → G i v' lo' hi' w')
    (hstep : ∀ i o, i < n → ops[i]? = some o → ∀ f v lo hi w, Known G H w0 f n v lo hi w → (∀ e ∈ o.after, Region.binds .any e = true → f e.on = true) →
      ∀ K' : Act → World → Prop, (∀ x w', Moves lo hi (tg i) w w' → (∀ j, tg i = some j → ∀ k, k < n → f k = true → (k = j ∨ j ∈ D k) → G k v lo hi w') → G i (updG v i x) (updG lo i w.heap.size) (updG hi i w'.heap.size) w' → K' ((canon dst v n a0).put (dst i) x) w') →
        if Region.wanted o (yielded ops (canon dst v n a0).tmps) = true then Oper.wp P o (canon dst v n a0) w K' Q else K' ((canon dst v n a0).put o.dst undef) w)
    (hend : ∀ v lo hi w, Known G H w0 (fun _ => true) n v lo hi w → wpList P ops Q (ops.toList.drop n) (canon dst v n a0) w) : (Code.region id ops true).wp P Q a0 w0 := by
  refine wp_region_prefix hm (fun f a w => (∀ i k, i < n → f i = true → k ∈ D i → f k = true) ∧ ∃ v lo hi, a = canon dst v n a0 ∧ Known G H w0 f n v lo hi w) n hd hn hs ?_ ?_ ?_
  · refine ⟨fun i k _ h => by simp at h, _, fun _ => 0, fun _ => 0, (canon_init a0 n).symm, ?_⟩
    refine ⟨(Below.refl _ _).drew, ?_, ?_, ?_⟩
    · intro i _ h; simp at h
    · intro i _ h; simp at h
    · intro i j _ _ _ h; simp at h
  · rintro i o hin ho f a w hfi haft ⟨hcl, v, lo, hi, rfl, hk⟩ K' hK
    have haft2 : ∀ e ∈ o.after, Region.binds .any e = true → f e.on = true := by
      intro e he hb
      rw [Array.all_eq_true'] at haft
      have := haft e he
      rw [hb] at this
      simpa using this
    have hDi : ∀ j, j ∈ D i → j < n ∧ j ≠ i ∧ f j = true := by
      intro j hj
      obtain ⟨h1, h2, e, he, hb, hej⟩ := hD i o hin ho j hj
      exact ⟨h1, h2, by rw [← hej]; exact haft2 e he hb⟩
    refine hstep i o hin ho f v lo hi w hk haft2 K' fun x w' hb htg hg => hK _ _ ⟨?_, updG v i x, updG lo i w.heap.size, updG hi i w'.heap.size, canon_put a0 x n i hin hdist, ?_⟩
    · intro j k hj hfj hkj
      by_cases hji : j = i
      · subst hji
        obtain ⟨_, hne, hfk⟩ := hDi k hkj
        rw [upd_ne _ hne]; exact hfk
      · rw [upd_ne _ hji] at hfj
        have := hcl j k hj hfj hkj
        by_cases hki : k = i
        · subst hki; exact upd_at _ _
        · rw [upd_ne _ hki]; exact this
    · have hsz := hb.size
      have hHw : H ≤ w.heap.size := Nat.le_trans hH hk.below.size
      have htr : ∀ j, tg i = some j → j < n ∧ j ≠ i ∧ f j = true := fun j hj => hDi j (hT i j hin hj)
      refine ⟨hk.below.trans ⟨hb.os, hb.tape, hb.output, hb.size, fun k hkH => hb.block k (by omega) fun j hj => .inl ?_⟩, ?_, ?_, ?_⟩
      · obtain ⟨h1, _, h3⟩ := htr j hj
        have := (hk.range j h1 h3).1
        omega
      · intro j hj hfj
        by_cases hji : j = i
        · subst hji; exact hg
        · rw [upd_ne _ hji] at hfj
          have hne : ∀ k, k = j ∨ k ∈ D j → k ≠ i ∧ k < n ∧ f k = true := by
            intro k hkk
            rcases hkk with rfl | hkk
            · exact ⟨hji, hj, hfj⟩
            · have hfk := hcl j k hj hfj hkk
              obtain ⟨o', ho'⟩ : ∃ o', ops[j]? = some o' := ⟨_, Array.getElem?_eq_getElem (by omega)⟩
              refine ⟨fun e => ?_, (hD j o' hj ho' k hkk).1, hfk⟩
              subst e
              rw [hfi] at hfk; cases hfk
          have hsame : ∀ k, k = j ∨ k ∈ D j → updG v i x k = v k ∧ updG lo i w.heap.size k = lo k ∧ updG hi i w'.heap.size k = hi k := fun k hkk => ⟨updG_ne _ _ (hne k hkk).1, updG_ne _ _ (hne k hkk).1, updG_ne _ _ (hne k hkk).1⟩
          by_cases htj : ∃ q, tg i = some q ∧ (j = q ∨ q ∈ D j)
          · obtain ⟨q, hq, hjq⟩ := htj
            exact hG j v lo hi w' _ _ _ w' hj hsame (fun _ _ _ _ _ => rfl) (htg q hq j hj hfj hjq)
          · refine hG j v lo hi w _ _ _ w' hj hsame (fun k hkk b hb1 hb2 => ?_) (hk.word j hj hfj)
            obtain ⟨_, hkn, hfk⟩ := hne k hkk
            have hrk := hk.range k hkn hfk
            refine hb.block b (by omega) fun q hq => ?_
            obtain ⟨hqn, _, hfq⟩ := htr q hq
            have hqk : k ≠ q := fun e => htj ⟨q, hq, by rcases hkk with h | h; exact .inl (h ▸ e); exact .inr (e ▸ h)⟩
            have := hk.apart k q hkn hqn hqk hfk hfq
            omega
      · intro j hj hfj
        by_cases hji : j = i
        · subst hji
          rw [updG_at, updG_at]
          exact ⟨hHw, hsz, Nat.le_refl _⟩
        · rw [upd_ne _ hji] at hfj
          rw [updG_ne _ _ hji, updG_ne _ _ hji]
          have := hk.range j hj hfj
          exact ⟨this.1, this.2.1, by omega⟩
      · intro j k hj hkn hne hfj hfk
        by_cases hji : j = i
        · subst hji
          rw [upd_ne _ (by omega)] at hfk
          rw [updG_at, updG_at, updG_ne _ _ (by omega), updG_ne _ _ (by omega)]
          exact .inr (hk.range k hkn hfk).2.2
        · rw [upd_ne _ hji] at hfj
          by_cases hki : k = i
          · subst hki
            rw [updG_at, updG_at, updG_ne _ _ hji, updG_ne _ _ hji]
            exact .inl (hk.range j hj hfj).2.2
          · rw [upd_ne _ hki] at hfk
            rw [updG_ne _ _ hji, updG_ne _ _ hji, updG_ne _ _ hki, updG_ne _ _ hki]
            exact hk.apart j k hj hkn hne hfj hfk
  · rintro f a w hall ⟨_, v, lo, hi, rfl, hk⟩
    exact hend v lo hi w ⟨hk.below, fun i hi' _ => hk.word i hi' (hall i hi'), fun i hi' _ => hk.range i hi' (hall i hi'), fun i j h1 h2 h3 _ _ => hk.apart i j h1 h2 h3 (hall i h1) (hall j h2)⟩
end
end Go.Proofs.YtmcnhggpmlhgeaaGreatDoor
