/-
  A region that draws its order, by words; each operation is shown on a frame that is known at its own slots alone.
-/
import Derived.Test.YtmcnhggpmlhgeaaGreatDoorRegion2
namespace Go.Proofs.YtmcnhggpmlhgeaaGreatDoor
open Go.RowKit
theorem put_slot (a : Act) (d : Option Tmp) (x : Value) (t : Tmp) (h : d ≠ some t) : (a.put d x).tmps[t]? = a.tmps[t]? := by
  cases d with
  | none => rfl
  | some u =>
    have hne : u ≠ t := fun e => h (by rw [e])
    simp only [Act.put, Array.getElem?_setIfInBounds_ne hne]
theorem put_slot_at (a : Act) (x : Value) (t : Tmp) (h : t < a.tmps.size) : (a.put (some t) x).tmps[t]? = some x := by
  simp [Act.put, h]
theorem put_size (a : Act) (d : Option Tmp) (x : Value) : (a.put d x).tmps.size = a.tmps.size := by
  cases d <;> simp [Act.put]
theorem canon_size {dst : Nat → Option Tmp} {v : Nat → Value} (a : Act) : ∀ n, (canon dst v n a).tmps.size = a.tmps.size
  | 0 => rfl
  | n + 1 => by rw [canon, put_size, canon_size a n]
theorem canon_get {dst : Nat → Option Tmp} {v : Nat → Value} (a : Act) {t : Tmp} (ht : t < a.tmps.size) : ∀ n k, k < n → dst k = some t → (∀ j k, j < n → k < n → j ≠ k → ∀ t, dst j = some t → dst k ≠ some t) → (canon dst v n a).tmps[t]? = some (v k)
  | 0, _, h, _, _ => by omega
  | n + 1, k, hk, he, hd => by
    rw [canon]
    rcases Nat.lt_or_ge k n with hlt | hge
    · rw [put_slot _ _ _ _ (hd k n (by omega) (by omega) (by omega) t he)]
      exact canon_get a ht n k hlt he fun j k hj hk => hd j k (by omega) (by omega)
    · have : k = n := by omega
      subst this
      rw [he]
      exact put_slot_at _ _ _ (by rw [canon_size]; exact ht)
theorem canon_out {dst : Nat → Option Tmp} {v : Nat → Value} (a : Act) {t : Tmp} : ∀ n, (∀ k, k < n → dst k ≠ some t) → (canon dst v n a).tmps[t]? = a.tmps[t]?
  | 0, _ => rfl
  | n + 1, h => by
    rw [canon, put_slot _ _ _ _ (h n (by omega)), canon_out a n fun k hk => h k (by omega)]
/-- a slot that no operation of the first part writes -/
def freeB (dl : List (Option Nat)) (n : Nat) (t : Nat) : Bool := (List.range n).all fun k => decide (dl.getD k none ≠ some t)
theorem free_of {dl : List (Option Nat)} {n t : Nat} (h : freeB dl n t = true) : ∀ k, k < n → dl.getD k none ≠ some t := fun k hk => of_decide_eq_true (List.all_eq_true.1 h k (List.mem_range.2 hk))
def fitsB (dl : List (Option Nat)) (n s : Nat) : Bool := (List.range n).all fun k => match dl.getD k none with | none => true | some t => decide (t < s)
theorem fits_of {dl : List (Option Nat)} {n s : Nat} (h : fitsB dl n s = true) : ∀ k t, k < n → dl.getD k none = some t → t < s := fun k t hk e => by
  have := List.all_eq_true.1 h k (List.mem_range.2 hk)
  rw [e] at this
  exact of_decide_eq_true this
section
variable {P : Program} {ops : Array Oper} {Q : Exit → Act → World → Prop}
theorem wp_region_slots {id : Nat} {a0 : Act} {w0 : World} (hm : P.follows .mixedOrders = true) (n : Nat) (H : Nat) (dl : List (Option Nat)) (D : Nat → List Nat) (tg : Nat → Option Nat)
    (G : Nat → (Nat → Value) → (Nat → Nat) → (Nat → Nat) → World → Prop) (hH : H ≤ w0.heap.size)
    (hd : downB .any ops = true) (hn : n ≤ ops.size) (hs : sinkB .any ops n = true)
    (hdist : distB dl n = true) (hfit : fitsB dl n a0.tmps.size = true)
    (hD : ∀ i o, i < n → ops[i]? = some o → ∀ k, k ∈ D i → k < n ∧ k ≠ i ∧ ∃ e ∈ o.after, Region.binds .any e = true ∧ e.on = k)
    (hT : ∀ i j, i < n → tg i = some j → j ∈ D i)
    (hG : ∀ i v lo hi w v' lo' hi' w', i < n → (∀ k, k = i ∨ k ∈ D i → v' k = v k ∧ lo' k = lo k ∧ hi' k = hi k) → (∀ k, k = i ∨ k ∈ D i → ∀ b, lo k ≤ b → b < hi k → w'.heap[b]? = w.heap[b]?) → G i v lo hi w → G i v' lo' hi' w')
    (hstep : ∀ i o, i < n → ops[i]? = some o → ∀ f v lo hi w, Known G H w0 f n v lo hi w → (∀ e ∈ o.after, Region.binds .any e = true → f e.on = true) →
      ∀ A : Act, (∀ k t, k < n → dl.getD k none = some t → A.tmps[t]? = some (v k)) → (∀ t, freeB dl n t = true → A.tmps[t]? = a0.tmps[t]?) →
      ∀ K' : Act → World → Prop, (∀ x w', Moves lo hi (tg i) w w' → (∀ j, tg i = some j → ∀ k, k < n → f k = true → (k = j ∨ j ∈ D k) → G k v lo hi w') → G i (updG v i x) (updG lo i w.heap.size) (updG hi i w'.heap.size) w' → K' (A.put (dl.getD i none) x) w') →
        if Region.wanted o (yielded ops A.tmps) = true then Oper.wp P o A w K' Q else K' (A.put o.dst undef) w)
    (hend : ∀ v lo hi w, Known G H w0 (fun _ => true) n v lo hi w → wpList P ops Q (ops.toList.drop n) (canon (fun k => dl.getD k none) v n a0) w) : (Code.region id ops true).wp P Q a0 w0 :=
  wp_region_words hm n H (fun k => dl.getD k none) D tg G hH hd hn hs (dist_of hdist) hD hT hG
    (fun i o hi ho f v lo hi' w hk ha K' hK => hstep i o hi ho f v lo hi' w hk ha _
      (fun k t hk ht => canon_get a0 (fits_of hfit k t hk ht) n k hk ht (dist_of hdist))
      (fun _ ht => canon_out a0 n (free_of ht)) K' hK) hend
end
end Go.Proofs.YtmcnhggpmlhgeaaGreatDoor
