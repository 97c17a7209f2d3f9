/-
  A region that draws its order: a first part in any order, each operation once, by its own word; a tail that is forced.
-/
import Derived.Test.YtmcnhggpmlhgeaaGreatDoorInv
import Derived.Test.YtmcnhggpmlhgeaaGreatDoorSteps
namespace Go.Proofs.YtmcnhggpmlhgeaaGreatDoor
open Go.RowKit
/-- operation i waits for operation k -/
def waitB (md : Region.Mode) (ops : Array Oper) (i k : Nat) : Bool := ((ops[i]?).map fun o => o.after.any fun e => Region.binds md e && e.on == k).getD false
/-- .. or for one that waits for k, and so on -/
def reachB (md : Region.Mode) (ops : Array Oper) : Nat → Nat → Nat → Bool
  | 0, _, _ => false
  | d + 1, i, k => waitB md ops i k || (List.range ops.size).any fun j => waitB md ops i j && reachB md ops d j k
/-- each operation from number n on waits for all elder ones -/
def sinkB (md : Region.Mode) (ops : Array Oper) (n : Nat) : Bool := (List.range ops.size).all fun i => decide (i < n) || (List.range i).all fun k => reachB md ops 3 i k
/-- what is done has its elders done -/
def closedL (ops : Array Oper) (L : Array Bool) : Prop := ∀ i k, L.getD i false = true → waitB .any ops i k = true → L.getD k false = true
section
variable {P : Program} {ops : Array Oper} {Q : Exit → Act → World → Prop}
theorem wpOp_list {i : Nat} {o : Oper} {rest : List Oper} {a : Act} {w : World} (ho : ops[i]? = some o) (h : wpList P ops Q (o :: rest) a w) : wpOp P ops Q i (wpList P ops Q rest) a w := by
  unfold wpOp
  rw [ho]
  exact h
theorem wait_ready {i k : Nat} {L : Array Bool} (hr : i ∈ Region.ready .any ops L) (h : waitB .any ops i k = true) : L.getD k false = true := by
  unfold waitB at h
  cases ho : ops[i]? with
  | none => rw [ho] at h; simp at h
  | some o =>
    rw [ho] at h
    simp only [Option.map_some, Option.getD_some] at h
    rw [Array.any_eq_true'] at h
    obtain ⟨e, he, hb⟩ := h
    simp only [Bool.and_eq_true, beq_iff_eq] at hb
    unfold Region.ready at hr
    rw [List.mem_filter, Bool.and_eq_true, ho] at hr
    have h3 := hr.2.2
    simp only [Option.map_some, Option.getD_some] at h3
    rw [Array.all_eq_true'] at h3
    have h4 := h3 e he
    rw [hb.1] at h4
    simpa [hb.2] using h4
theorem reach_done {L : Array Bool} (hc : closedL ops L) : ∀ (d j k : Nat), L.getD j false = true → reachB .any ops d j k = true → L.getD k false = true
  | 0, _, _, _, h => by simp [reachB] at h
  | d + 1, j, k, hj, h => by
    rw [reachB, Bool.or_eq_true] at h
    rcases h with h | h
    · exact hc j k hj h
    · rw [List.any_eq_true] at h
      obtain ⟨m, _, hm⟩ := h
      rw [Bool.and_eq_true] at hm
      exact reach_done hc d m k (hc j m hj hm.1) hm.2
theorem sink_all {n i : Nat} {L : Array Bool} (hs : sinkB .any ops n = true) (hc : closedL ops L) (hn : n ≤ i) (hi : i < ops.size) (hr : i ∈ Region.ready .any ops L) : ∀ k, k < i → L.getD k false = true := by
  intro k hk
  have h1 := List.all_eq_true.1 hs i (List.mem_range.2 hi)
  rw [Bool.or_eq_true, decide_eq_true_eq] at h1
  rcases h1 with h1 | h1
  · omega
  · have h2 := List.all_eq_true.1 h1 k (List.mem_range.2 hk)
    rw [reachB, Bool.or_eq_true] at h2
    rcases h2 with h2 | h2
    · exact wait_ready hr h2
    · rw [List.any_eq_true] at h2
      obtain ⟨m, _, hm⟩ := h2
      rw [Bool.and_eq_true] at hm
      exact reach_done hc 2 m k (wait_ready hr hm.1) hm.2
theorem ready_not {i : Nat} {L : Array Bool} (hr : i ∈ Region.ready .any ops L) : i < ops.size ∧ L.getD i true = false := by
  unfold Region.ready at hr
  rw [List.mem_filter, List.mem_range, Bool.and_eq_true] at hr
  exact ⟨hr.1, by simpa using hr.2.1⟩
theorem getD_two {L : Array Bool} {i : Nat} (h : i < L.size) : L.getD i true = L.getD i false := by simp [Array.getD, h]
theorem wpAny_prefix {R : (Nat → Bool) → Act → World → Prop} {n : Nat} (hd : downB .any ops = true) (hn : n ≤ ops.size) (hs : sinkB .any ops n = true)
    (hstep : ∀ i o, i < n → ops[i]? = some o → ∀ f a w, f i = false → (o.after.all fun e => !Region.binds .any e || f e.on) = true → R f a w →
      ∀ K' : Act → World → Prop, (∀ a w, R (upd f i) a w → K' a w) → if Region.wanted o (yielded ops a.tmps) = true then Oper.wp P o a w K' Q else K' (a.put o.dst undef) w)
    (hend : ∀ f a w, (∀ k, k < n → f k = true) → R f a w → wpList P ops Q (ops.toList.drop n) a w) :
    ∀ (fuel : Nat) (L : Array Bool) (a : Act) (w : World), L.size = ops.size → openN L ≤ fuel → closedL ops L →
      (((∀ k, n ≤ k → L.getD k false = false) ∧ R (fun k => L.getD k false) a w) ∨ ∃ t, n ≤ t ∧ t ≤ ops.size ∧ (∀ k, k < t → L.getD k false = true) ∧ (∀ k, t ≤ k → L.getD k false = false) ∧ wpList P ops Q (ops.toList.drop t) a w) → wpAny P .any ops Q fuel L a w := by
  -- what both ends need
  have fin : ∀ (L : Array Bool) (a : Act) (w : World), L.size = ops.size → Region.ready .any ops L = [] →
      (((∀ k, n ≤ k → L.getD k false = false) ∧ R (fun k => L.getD k false) a w) ∨ ∃ t, n ≤ t ∧ t ≤ ops.size ∧ (∀ k, k < t → L.getD k false = true) ∧ (∀ k, t ≤ k → L.getD k false = false) ∧ wpList P ops Q (ops.toList.drop t) a w) → Q .normal a w := by
    intro L a w hsz hr h
    have hall := ready_nil hd hsz hr
    rcases h with ⟨h1, h2⟩ | ⟨t, h1, h2, h3, h4, h5⟩
    · have hne : n = ops.size := by
        rcases Nat.lt_or_ge n ops.size with hlt | hge
        · have := hall n hlt; rw [h1 n (Nat.le_refl _)] at this; cases this
        · omega
      have h6 := hend _ a w (fun k hk => hall k (by omega)) h2
      rw [hne, List.drop_of_length_le (by simp)] at h6
      exact h6
    · have hne : t = ops.size := by
        rcases Nat.lt_or_ge t ops.size with hlt | hge
        · have := hall t hlt; rw [h4 t (Nat.le_refl _)] at this; cases this
        · omega
      rw [hne, List.drop_of_length_le (by simp)] at h5
      exact h5
  intro fuel
  induction fuel with
  | zero =>
    intro L a w hsz hf _ hR
    have hr : Region.ready .any ops L = [] := by
      rw [List.eq_nil_iff_forall_not_mem]
      intro i hi
      obtain ⟨h1, h2⟩ := ready_not hi
      have := openN_set (L := L) (i := i) (by omega) h2
      omega
    exact ⟨hr, fin L a w hsz hr hR⟩
  | succ fuel ih =>
    intro L a w hsz hf hcl hR
    refine ⟨fun hr => fin L a w hsz hr hR, fun i hi => ?_⟩
    obtain ⟨hlt, hopen⟩ := ready_not hi
    have hof : L.getD i false = false := by rw [← getD_two (by omega)]; exact hopen
    have ho := Array.getElem?_eq_getElem hlt
    have hnext : openN (L.setIfInBounds i true) ≤ fuel := by
      have := openN_set (L := L) (i := i) (by omega) hopen; omega
    have hset : ∀ k, (L.setIfInBounds i true).getD k false = upd (fun k => L.getD k false) i k := fun k => getD_set (by omega) k
    have hcl2 : closedL ops (L.setIfInBounds i true) := by
      intro j k hj hw
      rw [hset] at hj ⊢
      by_cases hk : k = i
      · subst hk; exact upd_at _ _
      · rw [upd_ne _ hk]
        by_cases hji : j = i
        · subst hji; exact wait_ready hi hw
        · rw [upd_ne _ hji] at hj; exact hcl j k hj hw
    have tail : ∀ t, i = t → (∀ k, k < t → L.getD k false = true) → (∀ k, t ≤ k → L.getD k false = false) → n ≤ t → wpList P ops Q (ops.toList.drop t) a w → wpOp P ops Q i (wpAny P .any ops Q fuel (L.setIfInBounds i true)) a w := by
      intro t hit h3 h4 hnt h5
      subst hit
      have hdrop : ops.toList.drop i = ops[i] :: ops.toList.drop (i + 1) := by
        rw [List.drop_eq_getElem_cons (by simpa using hlt)]; simp
      rw [hdrop] at h5
      refine wpOp_mono (fun a' w' h => ih _ a' w' (by simp [hsz]) hnext hcl2 (.inr ⟨i + 1, by omega, by omega, fun k hk => ?_, fun k hk => ?_, h⟩)) (wpOp_list ho h5)
      · rw [hset]
        rcases Nat.lt_or_ge k i with h | h
        · rw [upd_ne _ (by omega)]; exact h3 k h
        · have : k = i := by omega
          subst this; exact upd_at _ _
      · rw [hset, upd_ne _ (by omega)]; exact h4 k (by omega)
    rcases hR with ⟨h1, h2⟩ | ⟨t, h1, h2, h3, h4, h5⟩
    · rcases Nat.lt_or_ge i n with hin | hin
      · have haft : ((ops[i]).after.all fun e => !Region.binds .any e || (fun k => L.getD k false) e.on) = true := by
          have hi2 := hi
          unfold Region.ready at hi2
          rw [List.mem_filter, Bool.and_eq_true, ho] at hi2
          exact hi2.2.2
        refine wpOp_step ho ?_
        intro K' hK
        refine hstep i _ hin ho _ a w hof haft h2 K' fun a' w' h => hK a' w' ?_
        refine ih _ a' w' (by simp [hsz]) hnext hcl2 (.inl ⟨fun k hk => ?_, ?_⟩)
        · rw [hset, upd_ne _ (by omega)]; exact h1 k hk
        · have e : (fun k => (L.setIfInBounds i true).getD k false) = upd (fun k => L.getD k false) i := funext hset
          rw [e]; exact h
      · have hk := sink_all hs hcl hin hlt hi
        have hin2 : i = n := by
          rcases Nat.lt_or_ge n i with h | h
          · have := hk n h; rw [h1 n (Nat.le_refl _)] at this; cases this
          · omega
        exact tail n hin2 (fun k h => hk k (by omega)) h1 (Nat.le_refl _) (hend _ a w (fun k h => hk k (by omega)) h2)
    · have hin : t ≤ i := by
        rcases Nat.lt_or_ge i t with h | h
        · have := h3 i h; rw [hof] at this; cases this
        · exact h
      have hk := sink_all hs hcl (by omega) hlt hi
      have hit : i = t := by
        rcases Nat.lt_or_ge t i with h | h
        · have := hk t h; rw [h4 t (Nat.le_refl _)] at this; cases this
        · omega
      exact tail t hit h3 h4 h1 h5
theorem wp_region_prefix {id : Nat} {a : Act} {w : World} (hm : P.follows .mixedOrders = true) (R : (Nat → Bool) → Act → World → Prop) (n : Nat) (hd : downB .any ops = true) (hn : n ≤ ops.size) (hs : sinkB .any ops n = true) (h0 : R (fun _ => false) a w.drew)
    (hstep : ∀ i o, i < n → ops[i]? = some o → ∀ f a w, f i = false → (o.after.all fun e => !Region.binds .any e || f e.on) = true → R f a w →
      ∀ K' : Act → World → Prop, (∀ a w, R (upd f i) a w → K' a w) → if Region.wanted o (yielded ops a.tmps) = true then Oper.wp P o a w K' Q else K' (a.put o.dst undef) w)
    (hend : ∀ f a w, (∀ k, k < n → f k = true) → R f a w → wpList P ops Q (ops.toList.drop n) a w) : (Code.region id ops true).wp P Q a w := by
  have e : ∀ k, (Array.replicate ops.size false).getD k false = false := by
    intro k
    simp only [Array.getD_eq_getD_getElem?, Array.getElem?_replicate]
    split <;> rfl
  refine wp_region_any hm (wpAny_prefix hd hn hs hstep hend _ _ _ _ (by simp) ?_ (fun i k hi _ => by rw [e i] at hi; cases hi) (.inl ⟨fun k _ => e k, ?_⟩))
  · unfold openN
    refine Nat.le_trans (List.countP_le_length) ?_
    simp
  · rw [show (fun k => (Array.replicate ops.size false).getD k false) = fun _ => false from funext e]; exact h0
end
end Go.Proofs.YtmcnhggpmlhgeaaGreatDoor
