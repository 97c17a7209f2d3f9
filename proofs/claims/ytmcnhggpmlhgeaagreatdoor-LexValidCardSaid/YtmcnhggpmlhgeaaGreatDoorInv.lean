/-
  A region that draws its order, by a relation that every operation keeps: each operation is walked once, whatever the number of orders.
-/
import Derived.RegionTactic
import Derived.WalkKit
namespace Go.Proofs.YtmcnhggpmlhgeaaGreatDoor
open Go.RowKit
/-- number i has come up, too -/
def upd (f : Nat → Bool) (i : Nat) : Nat → Bool := fun k => if k = i then true else f k
theorem upd_at (f : Nat → Bool) (i : Nat) : upd f i i = true := by simp [upd]
theorem upd_ne (f : Nat → Bool) {i k : Nat} (h : k ≠ i) : upd f i k = f k := by simp [upd, h]
/-- each operation waits for elder ones alone -/
def downB (md : Region.Mode) (ops : Array Oper) : Bool := (List.range ops.size).all fun i => ((ops[i]?).map fun o => o.after.all fun e => !Region.binds md e || decide (e.on < i)).getD true
theorem getD_set {L : Array Bool} {i : Nat} (h : i < L.size) (k : Nat) : (L.setIfInBounds i true).getD k false = upd (fun k => L.getD k false) i k := by
  unfold upd
  by_cases hk : k = i
  · subst hk; simp [Array.getD, h]
  · simp only [Array.getD_eq_getD_getElem?, Array.getElem?_setIfInBounds, hk, if_false]
    rw [if_neg (fun e => hk e.symm)]
def openN (L : Array Bool) : Nat := (List.range L.size).countP fun k => !L.getD k true
theorem openN_set {L : Array Bool} {i : Nat} (h : i < L.size) (ho : L.getD i true = false) : openN (L.setIfInBounds i true) < openN L := by
  unfold openN
  rw [Array.size_setIfInBounds]
  have key : ∀ l : List Nat, i ∈ l → (l.countP fun k => !(L.setIfInBounds i true).getD k true) < l.countP fun k => !L.getD k true := by
    have mono : ∀ k, (!(L.setIfInBounds i true).getD k true) = true → (!L.getD k true) = true := by
      intro k hk
      by_cases e : k = i
      · subst e; simp [ho]
      · simpa only [Array.getD_eq_getD_getElem?, Array.getElem?_setIfInBounds, if_neg (fun x : i = k => e x.symm)] using hk
    intro l
    induction l with
    | nil => intro h; cases h
    | cons x xs ih =>
      intro hm
      rw [List.countP_cons, List.countP_cons]
      have hle : (xs.countP fun k => !(L.setIfInBounds i true).getD k true) ≤ xs.countP fun k => !L.getD k true := List.countP_mono_left fun k _ => mono k
      by_cases e : x = i
      · subst e
        have h1 : (!(L.setIfInBounds x true).getD x true) = false := by simp [Array.getD, h]
        have h2 : (!L.getD x true) = true := by simp [ho]
        rw [h1, h2]; simp only [Bool.false_eq_true, if_false, if_true]; omega
      · have := ih (by rcases List.mem_cons.1 hm with e' | e'
                       · exact absurd e'.symm e
                       · exact e')
        by_cases hx : (!(L.setIfInBounds i true).getD x true) = true
        · rw [if_pos hx, if_pos (mono _ hx)]; omega
        · rw [if_neg hx]; split <;> omega
  exact key _ (List.mem_range.2 h)
section
variable {P : Program} {ops : Array Oper} {Q : Exit → Act → World → Prop}
theorem ready_nil {L : Array Bool} (hd : downB .any ops = true) (hs : L.size = ops.size) (h : Region.ready .any ops L = []) : ∀ k, k < ops.size → L.getD k false = true := by
  intro k
  induction k using Nat.strongRecOn with
  | _ k ih =>
    intro hk
    cases hL : L.getD k false with
    | true => rfl
    | false =>
      have hdk := List.all_eq_true.1 hd k (List.mem_range.2 hk)
      have hmem : k ∈ Region.ready .any ops L := by
        unfold Region.ready
        rw [List.mem_filter]
        refine ⟨List.mem_range.2 hk, ?_⟩
        have h1 : L.getD k true = false := by
          have hkL : k < L.size := by omega
          simp [Array.getD, hkL] at hL ⊢
          exact hL
        rw [h1]
        rw [Array.getElem?_eq_getElem hk] at hdk ⊢
        simp only [Option.map_some, Option.getD_some, Bool.not_false, Bool.true_and] at hdk ⊢
        rw [Array.all_eq_true] at hdk ⊢
        intro j hj
        have := hdk j hj
        simp only [Bool.or_eq_true, decide_eq_true_eq] at this ⊢
        rcases this with h2 | h2
        · exact .inl h2
        · exact .inr (ih _ h2 (by omega))
      rw [h] at hmem
      cases hmem
theorem wpAny_inv {R : (Nat → Bool) → Act → World → Prop} (hd : downB .any ops = true)
    (hstep : ∀ i o, ops[i]? = some o → ∀ f a w, f i = false → (o.after.all fun e => !Region.binds .any e || f e.on) = true → R f a w →
      ∀ K' : Act → World → Prop, (∀ a w, R (upd f i) a w → K' a w) → if Region.wanted o (yielded ops a.tmps) = true then Oper.wp P o a w K' Q else K' (a.put o.dst undef) w)
    (hend : ∀ f a w, (∀ k, k < ops.size → f k = true) → R f a w → Q .normal a w) :
    ∀ (fuel : Nat) (L : Array Bool) (a : Act) (w : World), L.size = ops.size → openN L ≤ fuel → R (fun k => L.getD k false) a w → wpAny P .any ops Q fuel L a w := by
  intro fuel
  induction fuel with
  | zero =>
    intro L a w hs hf hR
    have hr : Region.ready .any ops L = [] := by
      rw [List.eq_nil_iff_forall_not_mem]
      intro i hi
      unfold Region.ready at hi
      rw [List.mem_filter, List.mem_range, Bool.and_eq_true] at hi
      have := openN_set (L := L) (i := i) (by omega) (by simpa using hi.2.1)
      omega
    exact ⟨hr, hend _ _ _ (ready_nil hd hs hr) hR⟩
  | succ fuel ih =>
    intro L a w hs hf hR
    refine ⟨fun hr => hend _ _ _ (ready_nil hd hs hr) hR, fun i hi => ?_⟩
    unfold Region.ready at hi
    rw [List.mem_filter, List.mem_range, Bool.and_eq_true] at hi
    obtain ⟨hlt, hun, haft⟩ := hi
    have hopen : L.getD i true = false := by simpa using hun
    have hof : L.getD i false = false := by
      have hkL : i < L.size := by omega
      simp [Array.getD, hkL] at hopen ⊢
      exact hopen
    have ho := Array.getElem?_eq_getElem hlt
    rw [ho] at haft
    simp only [Option.map_some, Option.getD_some] at haft
    refine wpOp_step ho ?_
    intro K' hK
    refine hstep i _ ho _ a w hof haft hR K' fun a' w' h => hK a' w' ?_
    refine ih _ a' w' (by simp [hs]) ?_ ?_
    · have := openN_set (L := L) (i := i) (by omega) hopen; omega
    · have e : (fun k => (L.setIfInBounds i true).getD k false) = upd (fun k => L.getD k false) i := funext fun k => getD_set (by omega) k
      rw [e]; exact h
/-- the region's law: R holds at the start, every operation keeps it, and what follows goes from it -/
theorem wp_region_inv {id : Nat} {a : Act} {w : World} (hm : P.follows .mixedOrders = true) (R : (Nat → Bool) → Act → World → Prop) (hd : downB .any ops = true) (h0 : R (fun _ => false) a w.drew)
    (hstep : ∀ i o, ops[i]? = some o → ∀ f a w, f i = false → (o.after.all fun e => !Region.binds .any e || f e.on) = true → R f a w →
      ∀ K' : Act → World → Prop, (∀ a w, R (upd f i) a w → K' a w) → if Region.wanted o (yielded ops a.tmps) = true then Oper.wp P o a w K' Q else K' (a.put o.dst undef) w)
    (hend : ∀ f a w, (∀ k, k < ops.size → f k = true) → R f a w → Q .normal a w) : (Code.region id ops true).wp P Q a w := by
  refine wp_region_any hm (wpAny_inv hd hstep hend _ _ _ _ (by simp) ?_ ?_)
  · unfold openN
    refine Nat.le_trans (List.countP_le_length) ?_
    simp
  · have e : (fun k => (Array.replicate ops.size false).getD k false) = fun _ => false := by
      funext k
      simp only [Array.getD_eq_getD_getElem?, Array.getElem?_replicate]
      split <;> rfl
    rw [e]; exact h0
/-- the same, the frame at the region's start named -/
theorem wp_region_at {id : Nat} {a : Act} {w : World} (hm : P.follows .mixedOrders = true) (R : Act → (Nat → Bool) → Act → World → Prop) (hd : downB .any ops = true) (h0 : R a (fun _ => false) a w.drew)
    (hstep : ∀ i o, ops[i]? = some o → ∀ f a' w, f i = false → (o.after.all fun e => !Region.binds .any e || f e.on) = true → R a f a' w →
      ∀ K' : Act → World → Prop, (∀ a' w, R a (upd f i) a' w → K' a' w) → if Region.wanted o (yielded ops a'.tmps) = true then Oper.wp P o a' w K' Q else K' (a'.put o.dst undef) w)
    (hend : ∀ f a' w, (∀ k, k < ops.size → f k = true) → R a f a' w → Q .normal a' w) : (Code.region id ops true).wp P Q a w :=
  wp_region_inv hm (R a) hd h0 hstep hend
end
end Go.Proofs.YtmcnhggpmlhgeaaGreatDoor
