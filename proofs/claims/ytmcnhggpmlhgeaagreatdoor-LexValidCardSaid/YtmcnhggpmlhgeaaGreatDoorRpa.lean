/-
  Walks: sync.Once at a replacer's box: the lock, the two deferred calls, the first Do. Walks: strings.NewReplacer at the three pairs of lex. Walks: build of a replacer at the three pairs of lex. Walks: the first use of a replacer: sync.Once calls buildOnce.
-/
import Derived.Test.YtmcnhggpmlhgeaaGreatDoorLd
import Derived.Test.YtmcnhggpmlhgeaaGreatDoorBookL
import Derived.Defers
import Derived.Laws.LoneSync
import Derived.RegionCalls
import Derived.Tactics2
import Derived.Laws.AppendOwn
import Derived.Deep.WholeRow
import Derived.Lib.ItoaMem
import Derived.Lib.ConvBytes
namespace Go.Proofs.YtmcnhggpmlhgeaaGreatDoor
open Go.RowKit
theorem race_disable (w : World) : (callFunc 130 #[]).run Tryz.prog w = .ok (.value (.tuple #[])) w := run_call_mark0 Tryz.func130 (by kernel_rfl) (by kernel_rfl) (by kernel_rfl) .disable (by kernel_rfl) w
theorem race_enable (w : World) : (callFunc 132 #[]).run Tryz.prog w = .ok (.value (.tuple #[])) w := run_call_mark0 Tryz.func132 (by kernel_rfl) (by kernel_rfl) (by kernel_rfl) .enable (by kernel_rfl) w
theorem race_acquire (a : Addr) (w : World) : (callFunc 133 #[.pointer (some a)]).run Tryz.prog w = .ok (.value (.tuple #[])) w := run_call_marked Tryz.func133 (by kernel_rfl) (by kernel_rfl) (by kernel_rfl) .acquire (by kernel_rfl) a w
theorem race_release (a : Addr) (w : World) : (callFunc 135 #[.pointer (some a)]).run Tryz.prog w = .ok (.value (.tuple #[])) w := run_call_marked Tryz.func135 (by kernel_rfl) (by kernel_rfl) (by kernel_rfl) .releaseMerge (by kernel_rfl) a w
theorem store_deferred (a : Addr) (x : Value) (u : FrameMode) (w : World) (hc : w.cell? a = some x) (hz : w.frozen? a = false) :
    CallsD Tryz.prog 111 #[.pointer (some a), .bool true] u w fun e u' w' => u' = u ∧ (e = .returned (.tuple #[]) ∧ w' = w.drew.setCell a (.int .u32 1)) := by
  have hc' : w.drew.cell? a = some x := by go_simp
  have hz' : w.drew.frozen? a = false := by go_simp
  have hst := run_call_store (P := Tryz.prog) Tryz.func124 (by kernel_rfl) (by kernel_rfl) (by kernel_rfl) (by kernel_rfl) (k := .u32) (y := 1) hc' hz'
  go_enter_d Tryz.func111, Tryz.ntmps111
  go_wp2
  go_region_calls
  all_goals (go_end0; exact ⟨rfl, rfl⟩)
set_option maxRecDepth 100000 in
theorem unlock_deferred (a : Addr) (u : FrameMode) (w : World) (hc : w.cell? a = some (.int .i32 1)) (hz : w.frozen? a = false) :
    CallsD Tryz.prog 110 #[.pointer (some a)] u w fun e u' w' => u' = u ∧ (e = .returned (.tuple #[]) ∧ w' = w.setCell a (.int .i32 0)) := by
  have hd := race_disable
  have he := race_enable
  have hr := race_release
  have hadd := run_call_add (P := Tryz.prog) Tryz.func136 (by kernel_rfl) (by kernel_rfl) (by kernel_rfl) .i32 (by kernel_rfl) (y := -1) (s := 0) hc hz (by simp [go_sem]; rfl)
  have hcv := run_convert_to_unsafe (P := Tryz.prog) (src := 189) (dst := 90) Tryz.underlying189 Tryz.underlying90 (by kernel_rfl) hc
  go_enter_d Tryz.func110, Tryz.ntmps110
  go_wp2
  go_end0
  go_wp2
  go_end0
  exact ⟨rfl, rfl⟩
set_option maxRecDepth 100000 in
theorem lock_free (a : Addr) (w : World) (hc : w.cell? a = some (.int .i32 0)) (hz : w.frozen? a = false) :
    Calls Tryz.prog 109 #[.pointer (some a)] w fun e w' => e = .returned (.tuple #[]) ∧ w' = w.setCell a (.int .i32 1) := by
  have hd := race_disable
  have he := race_enable
  have ha := race_acquire
  have hcas := run_call_cas_hit (P := Tryz.prog) Tryz.func131 (by kernel_rfl) (by kernel_rfl) (by kernel_rfl) .i32 (by kernel_rfl) (y := 1) hc hz
  have hc' : (w.setCell a (.int .i32 1)).cell? a = some (.int .i32 1) := World.cell?_setCell_same w a _ hc
  have hcv := run_convert_to_unsafe (P := Tryz.prog) (src := 189) (dst := 90) Tryz.underlying189 Tryz.underlying90 (by kernel_rfl) hc'
  go_enter Tryz.func109, Tryz.ntmps109
  go_wp2
  first | go_end0 | (simp only [Exit.inBlock, Exit.then]; refine bodyPost_ret (results_none rfl _ _ _) rfl ?_) | refine bodyPost_ret (results_none rfl _ _ _) rfl ?_
  go_wp2
  go_end0
  exact ⟨rfl, rfl⟩
end Go.Proofs.YtmcnhggpmlhgeaaGreatDoor
namespace Go.Proofs.YtmcnhggpmlhgeaaGreatDoor
open Go.RowKit
/-- the three pairs -/
def prS : List Value := [.string ⟨#[92]⟩, .string ⟨#[92, 92]⟩, .string ⟨#[34]⟩, .string ⟨#[92, 34]⟩, .string ⟨#[10]⟩, .string ⟨#[92, 110]⟩]
theorem prS_cell : ∀ u ∈ prS, u.oneCell' = true := by
  intro u hu
  simp only [prS, List.mem_cons, List.not_mem_nil, or_false] at hu
  rcases hu with rfl | rfl | rfl | rfl | rfl | rfl <;> rfl
theorem str_news {w : World} {N : Nat} {t : TypeId} {xs : List Value} (h : w.heap[N]? = some (.cells xs.toArray t (0, 0))) : ∀ j u, xs[j]? = some u → w.cell? ((⟨N, 0, none⟩ : Addr).add j) = some u := fun j u hj => by
  have e : (⟨N, 0, none⟩ : Addr).add j = ⟨N, j, none⟩ := by
    unfold Addr.add; split <;> simp_all
  rw [e]
  have := cells_of h j
  rwa [List.getElem?_toArray, hj] at this
theorem Tryz.strinfo : (Tryz.prog.info? 9).map (fun i => (i.zero, i.size, i.bytes)) = some (some (.string ⟨#[]⟩), 1, 16) := by kernel_rfl
/-- a replacer that has not been built, its pairs in the block before it -/
def RpG (w : World) (g : Nat) (x0 x1 x2 : Value) : Prop := ∃ cap, w.heap[g + 1]? = some (.cells #[x0, x1, x2, .nilIface, .slice (some ⟨g, 0, none⟩) 6 cap] 107 (0, 0)) ∧ ∀ j u, prS[j]? = some u → w.cell? ⟨g, j, none⟩ = some u
def RpF (w : World) (g : Nat) : Prop := RpG w g (.int .u32 0) (.int .i32 0) (.int .u32 0)
set_option maxRecDepth 100000 in
set_option maxHeartbeats 4000000 in
theorem NewR_any (G : Nat) (w : World) (hg : w.heap[G]? = some (.cells prS.toArray 9 (0, 0))) :
    Calls Tryz.prog 67 #[.slice (some ⟨G, 0, none⟩) 6 6] w fun e w' => e = .returned (.pointer (some ⟨w.heap.size + 1, 0, none⟩)) ∧ RpF w' w.heap.size ∧ Below w.heap.size w w' ∧ w'.heap.size = w.heap.size + 2 := by
  have HG := Lib.hid hg
  clear hg
  go_enter Tryz.func67, Tryz.ntmps67
  have c0 := cells_of HG.out 0
  have c1 := cells_of HG.out 1
  have c2 := cells_of HG.out 2
  have c3 := cells_of HG.out 3
  have c4 := cells_of HG.out 4
  have c5 := cells_of HG.out 5
  simp only [prS, List.getElem?_toArray, List.getElem?_cons_succ, List.getElem?_cons_zero] at c0 c1 c2 c3 c4 c5
  go_wp2_with fail
  go_ret
  refine ⟨rfl, ⟨(Question.appendCap 6 0 9).cut (w.tape w.drawn (Question.appendCap 6 0 9)), ?_, ?_⟩, (balloc (below_alloc _ _) _).drew, ?_⟩
  · have h := heap_alloc_new (w.alloc (.cells (prS.toArray ++ Builtin.zeroCells #[.string ⟨#[]⟩] ((Question.appendCap 6 0 9).cut (w.tape w.drawn (Question.appendCap 6 0 9)) - 6)) 9 (0, 0))) (.cells #[.int .u32 0, .int .i32 0, .int .u32 0, .nilIface, .slice (some ⟨w.heap.size, 0, none⟩) 6 ((Question.appendCap 6 0 9).cut (w.tape w.drawn (Question.appendCap 6 0 9)))] 107 (0, 0))
    rw [World.size_alloc] at h
    exact h
  · intro j u hj
    have hl : j < prS.length := by
      rcases Nat.lt_or_ge j prS.length with h | h
      · exact h
      · rw [List.getElem?_eq_none h] at hj; cases hj
    have h1 := heap_alloc_new w (.cells (prS.toArray ++ Builtin.zeroCells #[.string ⟨#[]⟩] ((Question.appendCap 6 0 9).cut (w.tape w.drawn (Question.appendCap 6 0 9)) - 6)) 9 (0, 0))
    have h2 := heap_after h1 (.cells #[.int .u32 0, .int .i32 0, .int .u32 0, .nilIface, .slice (some ⟨w.heap.size, 0, none⟩) 6 ((Question.appendCap 6 0 9).cut (w.tape w.drawn (Question.appendCap 6 0 9)))] 107 (0, 0))
    refine (cells_of (w := (_ : World).drew) h2 j).trans ?_
    rw [Array.getElem?_append_left (by simpa using hl), List.getElem?_toArray]
    exact hj
  · show ((w.alloc _).alloc _).heap.size = _
    rw [World.size_alloc, World.size_alloc]
end Go.Proofs.YtmcnhggpmlhgeaaGreatDoor
namespace Go.Proofs.YtmcnhggpmlhgeaaGreatDoor
open Go.RowKit
/-- the table of a replacer: 256 slices and a row of strings -/
def RpT (w : World) (N : Nat) (f : Nat → Value) (tr : Value) : Prop := ∃ CA : Array Value, w.heap[N]? = some (.cells CA 160 (0, 0)) ∧ CA.size = 257 ∧ (∀ j, j < 256 → CA[j]? = some (f j)) ∧ CA[256]? = some tr
theorem RpT.cell {w : World} {N : Nat} {f : Nat → Value} {tr : Value} (h : RpT w N f tr) (j : Nat) (hj : j < 256) : w.cell? ⟨N, j, none⟩ = some (f j) := by
  obtain ⟨CA, h1, _, h3, _⟩ := h
  exact (cells_of h1 j).trans (h3 j hj)
theorem RpT.row {w : World} {N : Nat} {f : Nat → Value} {tr : Value} (h : RpT w N f tr) : w.cell? ⟨N, 256, none⟩ = some tr := by
  obtain ⟨CA, h1, _, _, h4⟩ := h
  exact (cells_of h1 256).trans h4
theorem RpT.free {w : World} {N : Nat} {f : Nat → Value} {tr : Value} (h : RpT w N f tr) (j : Nat) : w.frozen? ⟨N, j, none⟩ = false := by
  obtain ⟨CA, h1, _, _, _⟩ := h
  exact frees_of h1 j
theorem RpT.keep {w w' : World} {N : Nat} {f : Nat → Value} {tr : Value} (h : RpT w N f tr) (hb : w'.heap[N]? = w.heap[N]?) : RpT w' N f tr := by
  obtain ⟨CA, h1, h2⟩ := h
  exact ⟨CA, hb.trans h1, h2⟩
theorem RpT.lt {w : World} {N : Nat} {f : Nat → Value} {tr : Value} (h : RpT w N f tr) : N < w.heap.size := by
  obtain ⟨CA, h1, h2⟩ := h
  exact lt_of_block h1
theorem RpT.set {w : World} {N : Nat} {f : Nat → Value} {tr : Value} (h : RpT w N f tr) (j : Nat) (hj : j < 256) (u : Value) : RpT (w.setCell ⟨N, j, none⟩ u) N (fun k => if k = j then u else f k) tr := by
  obtain ⟨CA, h1, h2, h3, h4⟩ := h
  refine ⟨_, block_setCell h1 j u, by rw [Array.size_setIfInBounds]; exact h2, fun k hk => ?_, ?_⟩
  · by_cases e : k = j
    · subst e
      simp only [if_pos]
      rw [Array.getElem?_setIfInBounds_self_of_lt (by omega)]
    · simp only [if_neg e]
      rw [Array.getElem?_setIfInBounds_ne (fun h => e h.symm)]
      exact h3 k hk
  · rw [Array.getElem?_setIfInBounds_ne (by omega)]; exact h4
theorem RpT.setR {w : World} {N : Nat} {f : Nat → Value} {tr : Value} (h : RpT w N f tr) (u : Value) : RpT (w.setCell ⟨N, 256, none⟩ u) N f u := by
  obtain ⟨CA, h1, h2, h3, h4⟩ := h
  refine ⟨_, block_setCell h1 256 u, by rw [Array.size_setIfInBounds]; exact h2, fun k hk => ?_, ?_⟩
  · rw [Array.getElem?_setIfInBounds_ne (by omega)]
    exact h3 k hk
  · rw [Array.getElem?_setIfInBounds_self_of_lt (by omega)]
theorem all_rep (n : Nat) (v : Value) (h : v.oneCell' = true) : ∀ u ∈ (Array.replicate n v).toList, u.oneCell' = true := by
  intro u hu
  rw [Array.toList_replicate, List.mem_replicate] at hu
  rw [hu.2]; exact h
theorem all_set {l : List Value} {k : Nat} {x : Value} (h : ∀ u ∈ l, u.oneCell' = true) (hx : x.oneCell' = true) : (l.set k x).toArray.all (·.oneCell') = true := by
  rw [Array.all_eq_true']
  intro u hu
  rw [List.mem_toArray] at hu
  rcases List.mem_or_eq_of_mem_set hu with h1 | rfl
  · exact h u h1
  · exact hx
/-- the bytes for which k pairs have been laid -/
def doneP (k o : Nat) : Prop := (1 ≤ k ∧ o = 10) ∨ (2 ≤ k ∧ o = 34) ∨ (3 ≤ k ∧ o = 92)
def secB (o : Nat) : Nat := if o = 10 then 110 else o
def BytesAt (w : World) (N : Nat) (v : Value) (o : Nat) : Prop := ∃ b cap, v = .slice (some ⟨b, 0, none⟩) 2 cap ∧ N < b ∧ b < w.heap.size ∧ w.cell? ⟨b, 0, none⟩ = some (.int .u8 92) ∧ w.cell? ⟨b, 1, none⟩ = some (.int .u8 (secB o : Int))
theorem BytesAt.ch {w w' : World} {N : Nat} {v : Value} {o : Nat} {C : Nat → Prop} (h : BytesAt w N v o) (hm : Ch C w w') (hC : ∀ b, N < b → ¬ C b) : BytesAt w' N v o := by
  obtain ⟨b, cap, h1, h2, h3, h4, h5⟩ := h
  have hb := hm.block b h3 (hC b h2)
  exact ⟨b, cap, h1, h2, Nat.lt_of_lt_of_le h3 hm.size, (cell_eq hb 0).trans h4, (cell_eq hb 1).trans h5⟩
def strsA : Nat → Array Value
  | 0 => #[.string ⟨#[]⟩, .string ⟨#[]⟩, .string ⟨#[]⟩]
  | 1 => #[.string ⟨#[10]⟩, .string ⟨#[]⟩, .string ⟨#[]⟩]
  | 2 => #[.string ⟨#[10]⟩, .string ⟨#[34]⟩, .string ⟨#[]⟩]
  | _ => #[.string ⟨#[10]⟩, .string ⟨#[34]⟩, .string ⟨#[92]⟩]
/-- a replacer's table when k pairs have been laid -/
def PB (M k : Nat) (w : World) : Prop := ∃ f, RpT w (M + 1) f (.slice (some ⟨M, 0, none⟩) k 3) ∧ w.heap[M]? = some (.cells (strsA k) 9 (0, 0)) ∧ (∀ o, doneP k o → BytesAt w (M + 1) (f o) o) ∧ ∀ o, o < 256 → ¬ doneP k o → f o = .slice none 0 0
def E1 (M k : Nat) (s : Value) (o1 o2 : Obj) (wr : World) : World := (((wr.setCell ⟨M, k, none⟩ s).setCell ⟨M + 1, 256, none⟩ (.slice (some ⟨M, 0, none⟩) (k + 1) 3)).alloc o1).alloc o2
theorem E1_size (M k : Nat) (s : Value) (o1 o2 : Obj) (wr : World) : (E1 M k s o1 o2 wr).heap.size = wr.heap.size + 2 := by
  unfold E1
  rw [World.size_alloc, World.size_alloc]
  simp
theorem PB_mid {M k : Nat} {wr : World} {f : Nat → Value} {v : Value} (s : Value) (hT : RpT wr (M + 1) f v) (hR : wr.heap[M]? = some (.cells (strsA k) 9 (0, 0))) (hs : (strsA k).setIfInBounds k s = strsA (k + 1)) (o1 o2 : Obj) :
    RpT (E1 M k s o1 o2 wr) (M + 1) f (.slice (some ⟨M, 0, none⟩) (k + 1) 3) ∧ (E1 M k s o1 o2 wr).heap[M]? = some (.cells (strsA (k + 1)) 9 (0, 0)) ∧ Ch (fun b => b = M ∨ b = M + 1) wr (E1 M k s o1 o2 wr) := by
  have h1 : RpT (wr.setCell ⟨M, k, none⟩ s) (M + 1) f v := hT.keep (Below.heap_setCell _ _ _ _ (by show M + 1 ≠ M; omega))
  have h2 := h1.setR (.slice (some ⟨M, 0, none⟩) (k + 1) 3)
  have h3 : RpT (E1 M k s o1 o2 wr) (M + 1) f (.slice (some ⟨M, 0, none⟩) (k + 1) 3) := by
    refine h2.keep ?_
    have ha := h2.lt
    exact (Below.heap_alloc _ _ _ (by rw [World.size_alloc]; omega)).trans (Below.heap_alloc _ _ _ ha)
  have r1 := block_setCell hR k s
  rw [hs] at r1
  have r2 : ((wr.setCell ⟨M, k, none⟩ s).setCell ⟨M + 1, 256, none⟩ (.slice (some ⟨M, 0, none⟩) (k + 1) 3)).heap[M]? = some (.cells (strsA (k + 1)) 9 (0, 0)) := blk_oth r1 (by omega) _ _
  refine ⟨h3, heap_after (heap_after r2 _) _, ?_⟩
  have c1 := Ch.trans (E := fun b => b = M ∨ b = M + 1) (Ch.of_set wr M k s) (Ch.of_set _ (M + 1) 256 (.slice (some ⟨M, 0, none⟩) (k + 1) 3)) (fun i _ h => ⟨fun h2 => h (.inl h2), fun h2 => h (.inr h2)⟩)
  refine Ch.trans c1 (Ch.of_below (C := fun _ => False) (balloc (below_alloc _ o1) o2)) (fun i _ h => ⟨h, fun h => h⟩)
theorem PB_next {M k o : Nat} {wr : World} (s : Value) (h : PB M k wr) (ho : o < 256) (hdone : ∀ p, doneP (k + 1) p ↔ doneP k p ∨ p = o) (hs : (strsA k).setIfInBounds k s = strsA (k + 1)) (o1 o2 : Obj) (F : World → World) (C : Nat)
    (hF1 : ∀ W, Below W.heap.size W (F W)) (hF2 : ∀ W, (F W).heap.size = W.heap.size + 1) (hF3 : ∀ W, (F W).cell? ⟨W.heap.size, 0, none⟩ = some (.int .u8 92)) (hF4 : ∀ W, (F W).cell? ⟨W.heap.size, 1, none⟩ = some (.int .u8 (secB o : Int))) :
    PB M (k + 1) ((F (E1 M k s o1 o2 wr)).setCell ⟨M + 1, o, none⟩ (.slice (some ⟨(E1 M k s o1 o2 wr).heap.size, 0, none⟩) 2 C)) := by
  obtain ⟨f, hT, hR, hD, hN⟩ := h
  obtain ⟨q1, q2, q3⟩ := PB_mid s hT hR hs o1 o2
  have hz : (E1 M k s o1 o2 wr).heap.size = wr.heap.size + 2 := E1_size _ _ _ _ _ _
  have hlt := hT.lt
  generalize E1 M k s o1 o2 wr = E at *
  have f1 := q1.keep (w' := F E) ((hF1 E).block _ q1.lt)
  have f2 := f1.set o ho (.slice (some ⟨E.heap.size, 0, none⟩) 2 C)
  have g1 : (F E).heap[M]? = some (.cells (strsA (k + 1)) 9 (0, 0)) := ((hF1 E).block _ (lt_of_block q2)).trans q2
  have g2 := blk_oth g1 (show M ≠ M + 1 by omega) o (.slice (some ⟨E.heap.size, 0, none⟩) 2 C)
  have cF : Ch (fun b => b = M ∨ b = M + 1) wr ((F E).setCell ⟨M + 1, o, none⟩ (.slice (some ⟨E.heap.size, 0, none⟩) 2 C)) := by
    refine Ch.trans q3 (Ch.trans (E := fun b => b = M + 1) (Ch.of_below (C := fun _ => False) (hF1 E)) (Ch.of_set _ (M + 1) o _) (fun i _ h => ⟨fun h => h, h⟩)) (fun i _ h => ⟨h, fun h2 => h (.inr h2)⟩)
  refine ⟨_, f2, g2, fun p hp => ?_, fun p hp hn => ?_⟩
  · by_cases e : p = o
    · subst e
      simp only [if_pos]
      have hb : ((F E).setCell ⟨M + 1, p, none⟩ (.slice (some ⟨E.heap.size, 0, none⟩) 2 C)).heap[E.heap.size]? = (F E).heap[E.heap.size]? := Below.heap_setCell _ _ _ _ (by show E.heap.size ≠ M + 1; omega)
      refine ⟨E.heap.size, C, rfl, by omega, ?_, (cell_eq hb 0).trans (hF3 E), (cell_eq hb 1).trans (hF4 E)⟩
      simp only [World.size_setCell]
      rw [hF2]; omega
    · simp only [if_neg e]
      rcases (hdone p).1 hp with h1 | h1
      · exact (hD p h1).ch cF (fun b hb h => by omega)
      · exact absurd h1 e
  · by_cases e : p = o
    · exact absurd ((hdone p).2 (.inr e)) hn
    · simp only [if_neg e]
      exact hN p hp fun h => hn ((hdone p).2 (.inl h))
theorem conv_two (x : UInt8) : ∃ (F : World → World) (C : World → Nat), (∀ W, (convert 9 50 (.string ⟨#[92, x]⟩)).run Tryz.prog W = .ok (.slice (some ⟨W.heap.size, 0, none⟩) 2 (C W)) (F W)) ∧
    Hid ((∀ W, Below W.heap.size W (F W)) ∧ (∀ W, (F W).heap.size = W.heap.size + 1) ∧ (∀ W, (F W).cell? ⟨W.heap.size, 0, none⟩ = some (.int .u8 92)) ∧ ∀ W, (F W).cell? ⟨W.heap.size, 1, none⟩ = some (.int .u8 (x.toNat : Int))) := by
  refine ⟨fun W => Go.Lib.bytesWorld W 5 ⟨#[92, x]⟩, fun W => grownCap W 2 0 5, fun W => Go.Lib.run_convert_string_bytes W _ _ _ _ Tryz.underlying9 Tryz.underlying50 Tryz.underlying5, Lib.hid ⟨fun W => ?_, fun W => Go.Lib.bytesWorld_size _ _ _, fun W => ?_, fun W => ?_⟩⟩
  · exact ⟨rfl, rfl, rfl, by rw [Go.Lib.bytesWorld_size]; omega, fun k hk => Go.Lib.bytesWorld_at_old W _ _ k hk⟩
  · exact Go.Lib.bytesWorld_cell _ _ _ 0 (by show 0 < 2; omega)
  · exact Go.Lib.bytesWorld_cell _ _ _ 1 (by show 1 < 2; omega)
set_option maxRecDepth 100000 in
set_option maxHeartbeats 8000000 in
theorem build_any (g : Nat) (x0 x1 x2 : Value) (w : World) (hr : RpG w g x0 x1 x2) :
    Calls Tryz.prog 92 #[.pointer (some ⟨g + 1, 0, none⟩)] w fun e w' => e = .returned (.iface 161 (.pointer (some ⟨w.heap.size + 1, 0, none⟩))) ∧ PB w.heap.size 3 w' ∧ Below w.heap.size w w' := by
  obtain ⟨cap, hb, hc⟩ := hr
  have HB := Lib.hid hb
  have c4 := cells_of HB.out 4
  have hgw : g + 1 < w.heap.size := lt_of_block hb
  have d0 : w.cell? ⟨g, 0, none⟩ = some (.string ⟨#[92]⟩) := hc 0 _ rfl
  have d1 : w.cell? ⟨g, 1, none⟩ = some (.string ⟨#[92, 92]⟩) := hc 1 _ rfl
  have d2 : w.cell? ⟨g, 2, none⟩ = some (.string ⟨#[34]⟩) := hc 2 _ rfl
  have d3 : w.cell? ⟨g, 3, none⟩ = some (.string ⟨#[92, 34]⟩) := hc 3 _ rfl
  have d4 : w.cell? ⟨g, 4, none⟩ = some (.string ⟨#[10]⟩) := hc 4 _ rfl
  have d5 : w.cell? ⟨g, 5, none⟩ = some (.string ⟨#[92, 110]⟩) := hc 5 _ rfl
  clear hb hc
  obtain ⟨i0, hi0, hk0⟩ := Option.map_eq_some_iff.1 Tryz.strinfo
  simp only [Prod.mk.injEq] at hk0
  obtain ⟨iz0, iz1, iz2⟩ := hk0
  have hmk : ∀ W : World, (Instr.makeSlice 69 (.int .i64 0) (.int .i64 3)).run Tryz.prog W = .ok (.slice (some ⟨W.heap.size, 0, none⟩) 0 3) (W.alloc (.cells #[.string ⟨#[]⟩, .string ⟨#[]⟩, .string ⟨#[]⟩] 9 (0, 0))) := fun W => by
    rw [run_makeSlice (w := W) 69 9 i0 (.string ⟨#[]⟩) Tryz.underlying69 hi0 iz0 .i64 .i64 0 3 (by omega) (by omega) (by rw [iz1]; decide) (by rw [iz2]; decide) (by omega), iz1]
    rw [show madeCells (Value.string ⟨#[]⟩).cells (Int.toNat 3 * 1) = #[.string ⟨#[]⟩, .string ⟨#[]⟩, .string ⟨#[]⟩] from by kernel_rfl]
    rfl
  clear hi0 iz0 iz1 iz2
  have hz : Tryz.zeroCells160 = Array.replicate 257 (.slice none 0 0) := by kernel_rfl
  have HZ := Lib.hid hz
  have HSz := Lib.hid (show (Tryz.prog.info? 160).map (·.size) = some 257 from by kernel_rfl)
  clear hz
  have hst : (storeCells ⟨w.heap.size + 1, 0, none⟩ (Tryz.zeroCells160.toList.set 256 (.slice (some ⟨w.heap.size, 0, none⟩) 0 3)) 0).run Tryz.prog ((w.alloc (.cells #[.string ⟨#[]⟩, .string ⟨#[]⟩, .string ⟨#[]⟩] 9 (0, 0))).alloc (.cells Tryz.zeroCells160 160 (0, 0))) = .ok () ((w.alloc (.cells #[.string ⟨#[]⟩, .string ⟨#[]⟩, .string ⟨#[]⟩] 9 (0, 0))).alloc (.cells (Tryz.zeroCells160.toList.set 256 (.slice (some ⟨w.heap.size, 0, none⟩) 0 3)).toArray 160 (0, 0))) := by
    have h := run_storeCells_new (P := Tryz.prog) (w.alloc (.cells #[.string ⟨#[]⟩, .string ⟨#[]⟩, .string ⟨#[]⟩] 9 (0, 0))) 160 Tryz.zeroCells160 (Tryz.zeroCells160.toList.set 256 (.slice (some ⟨w.heap.size, 0, none⟩) 0 3)).toArray (by rw [HSz.out, HZ.out]; simp) (by simp) (all_set (by rw [HZ.out]; exact all_rep _ _ rfl) rfl)
    rw [World.size_alloc] at h
    exact h
  have hsn : ∀ W : World, (binOp .eql 50 (.slice none 0 0) (.slice none 0 0)).run Tryz.prog W = .ok (.bool true) W := fun W => by kernel_rfl
  go_enter Tryz.func92, Tryz.ntmps92
  go_wp2_with fail
  go_loop [5, 4] (fun i b => (i = .int .i64 0 ∧ b = .bool true) ∨ (i = .int .i64 2 ∧ b = .bool false) ∨ (i = .int .i64 4 ∧ b = .bool false) ∨ (i = .int .i64 6 ∧ b = .bool false)) (fun i _ => 6 - (intOf i).toNat)
  case atStart => exact .inl ⟨rfl, rfl⟩
  case round =>
    rcases hrel with ⟨rfl, rfl⟩ | ⟨rfl, rfl⟩ | ⟨rfl, rfl⟩ | ⟨rfl, rfl⟩
    · go_wp2_with fail
      go_round
      case rel => exact .inr (.inl ⟨rfl, rfl⟩)
      case measure => decide
    · go_wp2_with fail
      go_round
      case rel => exact .inr (.inr (.inl ⟨rfl, rfl⟩))
      case measure => decide
    · go_wp2_with fail
      go_round
      case rel => exact .inr (.inr (.inr ⟨rfl, rfl⟩))
      case measure => decide
    · go_upto_region 27 with (fail)
      have HP0 := Lib.hid (show PB w.heap.size 0 ((w.alloc (.cells #[.string ⟨#[]⟩, .string ⟨#[]⟩, .string ⟨#[]⟩] 9 (0, 0))).alloc (.cells (Tryz.zeroCells160.toList.set 256 (.slice (some ⟨w.heap.size, 0, none⟩) 0 3)).toArray 160 (0, 0))) from by
        refine ⟨fun _ => .slice none 0 0, ⟨(Tryz.zeroCells160.toList.set 256 (.slice (some ⟨w.heap.size, 0, none⟩) 0 3)).toArray, ?_, ?_, ?_, ?_⟩, ?_, ?_, fun _ _ _ => rfl⟩
        · have h := heap_alloc_new (w.alloc (.cells #[.string ⟨#[]⟩, .string ⟨#[]⟩, .string ⟨#[]⟩] 9 (0, 0))) (.cells (Tryz.zeroCells160.toList.set 256 (.slice (some ⟨w.heap.size, 0, none⟩) 0 3)).toArray 160 (0, 0))
          rw [World.size_alloc] at h
          exact h
        · rw [HZ.out]; simp
        · intro j hj
          rw [HZ.out, List.getElem?_toArray, List.getElem?_set_ne (by omega), Array.toList_replicate, List.getElem?_replicate, if_pos (by omega)]
        · rw [HZ.out, List.getElem?_toArray, List.getElem?_set_self (by simp)]
        · exact heap_after (heap_alloc_new w _) _
        · intro o h; unfold doneP at h; omega)
      have HBW := Lib.hid (show Below w.heap.size w ((w.alloc (.cells #[.string ⟨#[]⟩, .string ⟨#[]⟩, .string ⟨#[]⟩] 9 (0, 0))).alloc (.cells (Tryz.zeroCells160.toList.set 256 (.slice (some ⟨w.heap.size, 0, none⟩) 0 3)).toArray 160 (0, 0))) from balloc (below_alloc _ _) _)
      clear hst hmk
      generalize (w.alloc (.cells #[.string ⟨#[]⟩, .string ⟨#[]⟩, .string ⟨#[]⟩] 9 (0, 0))).alloc (.cells (Tryz.zeroCells160.toList.set 256 (.slice (some ⟨w.heap.size, 0, none⟩) 0 3)).toArray 160 (0, 0)) = w1 at HP0 HBW ⊢
      go_wp2_with fail
      go_loopw [12] (fun v wr => ∃ k : Nat, k ≤ 3 ∧ v = .int .i64 (4 - 2 * (k : Int)) ∧ Hid (PB w.heap.size k wr) ∧ Hid (Below w.heap.size w wr)) (fun v _ => (intOf v + 2).toNat)
      case atStart => exact ⟨0, by omega, rfl, HP0, HBW⟩
      case round =>
        obtain ⟨k, hk, rfl, HP, HW⟩ := hrel
        clear HP0 HBW
        have e0 := (cellsB HW.out (Nat.le_refl _) g 0 (by omega)).trans d0
        have e1 := (cellsB HW.out (Nat.le_refl _) g 1 (by omega)).trans d1
        have e2 := (cellsB HW.out (Nat.le_refl _) g 2 (by omega)).trans d2
        have e3 := (cellsB HW.out (Nat.le_refl _) g 3 (by omega)).trans d3
        have e4 := (cellsB HW.out (Nat.le_refl _) g 4 (by omega)).trans d4
        have e5 := (cellsB HW.out (Nat.le_refl _) g 5 (by omega)).trans d5
        have hzw := HW.out.size
        obtain rfl | rfl | rfl | rfl : k = 0 ∨ k = 1 ∨ k = 2 ∨ k = 3 := by omega
        · obtain ⟨f, hT, hR, hD, hN⟩ := HP.out
          have HT := Lib.hid hT
          have HR := Lib.hid hR
          have HD := Lib.hid hD
          have HN := Lib.hid hN
          have hlt := hT.lt
          have hM : w.heap.size < wr.heap.size := by omega
          have hM2 : ¬ w.heap.size = wr.heap.size := by omega
          have hM3 : ¬ w.heap.size = wr.heap.size + 1 := by omega
          have hM4 : ¬ w.heap.size + 1 = wr.heap.size := by omega
          have hM5 : ¬ w.heap.size + 1 = wr.heap.size + 1 := by omega
          have hM6 : w.heap.size < wr.heap.size + 1 := by omega
          have hM7 : w.heap.size + 1 < wr.heap.size + 1 := by omega
          have hfo : f 10 = .slice none 0 0 := hN 10 (by omega) (by unfold doneP; omega)
          have c0 := hT.cell 10 (by omega)
          rw [hfo] at c0
          have c1 := hT.row
          have fr := hT.free 10
          have fr2 := hT.free 256
          obtain ⟨q0, q1, q2⟩ : wr.cell? ⟨w.heap.size, 0, none⟩ = (strsA 0)[0]? ∧ wr.cell? ⟨w.heap.size, 1, none⟩ = (strsA 0)[1]? ∧ wr.cell? ⟨w.heap.size, 2, none⟩ = (strsA 0)[2]? := ⟨cells_of hR 0, cells_of hR 1, cells_of hR 2⟩
          simp only [strsA, List.getElem?_toArray, List.getElem?_cons_succ, List.getElem?_cons_zero] at q0 q1 q2
          have frq := frees_of hR
          clear hT hR hD hN hfo
          have hcv : (convert 50 9 (.slice (some ⟨wr.heap.size, 0, none⟩) 1 1)).run Tryz.prog (wr.alloc (.cells #[.int .u8 10] 5 (0, 0))) = .ok (.string ⟨#[10]⟩) (wr.alloc (.cells #[.int .u8 10] 5 (0, 0))) := by
            have h := run_convert_bytes_back (P := Tryz.prog) (wr.alloc (.cells #[.int .u8 10] 5 (0, 0))) 50 9 5 ⟨wr.heap.size, 0, none⟩ 1 [10] Tryz.underlying50 Tryz.underlying5 Tryz.underlying9 (fun j hj => by
              obtain rfl : j = 0 := by simpa using hj
              rw [Lib.add_plain]
              exact cells_of (heap_alloc_new wr _) 0)
            exact h
          have hq : ∀ h, (((⟨#[10]⟩ : ByteArray)[0]'h).toNat : Int) = 10 := fun _ => rfl
          obtain ⟨F, C, hF, HF⟩ := conv_two 110
          have HPM := Lib.hid (PB_mid (k := 0) (.string ⟨#[10]⟩) HT.out HR.out rfl (.cells #[.int .u8 10] 5 (0, 0)) (.cells #[.string ⟨#[10]⟩] 9 (0, 0)))
          have HPN := Lib.hid (fun c => PB_next (k := 0) (o := 10) (.string ⟨#[10]⟩) HP.out (by omega) (by intro p; unfold doneP; omega) rfl (.cells #[.int .u8 10] 5 (0, 0)) (.cells #[.string ⟨#[10]⟩] 9 (0, 0)) F c HF.out.1 HF.out.2.1 HF.out.2.2.1 HF.out.2.2.2)
          have hz : (E1 w.heap.size 0 (.string ⟨#[10]⟩) (.cells #[.int .u8 10] 5 (0, 0)) (.cells #[.string ⟨#[10]⟩] 9 (0, 0)) wr).heap.size = wr.heap.size + 2 := E1_size _ _ _ _ _ _
          go_upto_region 34 with (fail)
          have hE : (((wr.setCell ⟨w.heap.size, 0, none⟩ (.string ⟨#[10]⟩)).setCell ⟨w.heap.size + 1, 256, none⟩ (.slice (some ⟨w.heap.size, 0, none⟩) 1 3)).alloc (.cells #[.int .u8 10] 5 (0, 0))).alloc (.cells #[.string ⟨#[10]⟩] 9 (0, 0)) = E1 w.heap.size 0 (.string ⟨#[10]⟩) (.cells #[.int .u8 10] 5 (0, 0)) (.cells #[.string ⟨#[10]⟩] 9 (0, 0)) wr := rfl
          rw [hE]
          clear hE hcv c0 c1 fr fr2 q0 q1 q2 frq hM hM2 hM3 hM4 hM5 hM6 hM7
          generalize E1 w.heap.size 0 (.string ⟨#[10]⟩) (.cells #[.int .u8 10] 5 (0, 0)) (.cells #[.string ⟨#[10]⟩] 9 (0, 0)) wr = E at HPM HPN hz ⊢
          have HTF := Lib.hid (HPM.out.1.keep (w' := F E) ((HF.out.1 E).block _ HPM.out.1.lt))
          have fc := HTF.out.cell 10 (by omega)
          rw [HN.out 10 (by omega) (by unfold doneP; omega)] at fc
          have ff := HTF.out.free 10
          have HBE := Lib.hid (show Below w.heap.size w E from HW.out.trans (HPM.out.2.2.below hzw (fun j hj h => by omega)))
          have HBF := Lib.hid (bstep HBE.out (HF.out.1 E))
          have hE1 : ∀ h, (((⟨#[10]⟩ : ByteArray)[0]'h).toNat : Int) = 10 := fun _ => rfl
          go_wp2_with fail
          go_roundw
          case rel => exact ⟨1, by omega, rfl, Lib.hid (by have h := HPN.out (C E); rw [hz] at h; exact h), Lib.hid (HBF.out.setCell (by show w.heap.size ≤ w.heap.size + 1; omega) _)⟩
          case measure => decide
        · obtain ⟨f, hT, hR, hD, hN⟩ := HP.out
          have HT := Lib.hid hT
          have HR := Lib.hid hR
          have HD := Lib.hid hD
          have HN := Lib.hid hN
          have hlt := hT.lt
          have hM : w.heap.size < wr.heap.size := by omega
          have hM2 : ¬ w.heap.size = wr.heap.size := by omega
          have hM3 : ¬ w.heap.size = wr.heap.size + 1 := by omega
          have hM4 : ¬ w.heap.size + 1 = wr.heap.size := by omega
          have hM5 : ¬ w.heap.size + 1 = wr.heap.size + 1 := by omega
          have hM6 : w.heap.size < wr.heap.size + 1 := by omega
          have hM7 : w.heap.size + 1 < wr.heap.size + 1 := by omega
          have hfo : f 34 = .slice none 0 0 := hN 34 (by omega) (by unfold doneP; omega)
          have c0 := hT.cell 34 (by omega)
          rw [hfo] at c0
          have c1 := hT.row
          have fr := hT.free 34
          have fr2 := hT.free 256
          obtain ⟨q0, q1, q2⟩ : wr.cell? ⟨w.heap.size, 0, none⟩ = (strsA 1)[0]? ∧ wr.cell? ⟨w.heap.size, 1, none⟩ = (strsA 1)[1]? ∧ wr.cell? ⟨w.heap.size, 2, none⟩ = (strsA 1)[2]? := ⟨cells_of hR 0, cells_of hR 1, cells_of hR 2⟩
          simp only [strsA, List.getElem?_toArray, List.getElem?_cons_succ, List.getElem?_cons_zero] at q0 q1 q2
          have frq := frees_of hR
          clear hT hR hD hN hfo
          have hcv : (convert 50 9 (.slice (some ⟨wr.heap.size, 0, none⟩) 1 1)).run Tryz.prog (wr.alloc (.cells #[.int .u8 34] 5 (0, 0))) = .ok (.string ⟨#[34]⟩) (wr.alloc (.cells #[.int .u8 34] 5 (0, 0))) := by
            have h := run_convert_bytes_back (P := Tryz.prog) (wr.alloc (.cells #[.int .u8 34] 5 (0, 0))) 50 9 5 ⟨wr.heap.size, 0, none⟩ 1 [34] Tryz.underlying50 Tryz.underlying5 Tryz.underlying9 (fun j hj => by
              obtain rfl : j = 0 := by simpa using hj
              rw [Lib.add_plain]
              exact cells_of (heap_alloc_new wr _) 0)
            exact h
          have hq : ∀ h, (((⟨#[34]⟩ : ByteArray)[0]'h).toNat : Int) = 34 := fun _ => rfl
          obtain ⟨F, C, hF, HF⟩ := conv_two 34
          have HPM := Lib.hid (PB_mid (k := 1) (.string ⟨#[34]⟩) HT.out HR.out rfl (.cells #[.int .u8 34] 5 (0, 0)) (.cells #[.string ⟨#[34]⟩] 9 (0, 0)))
          have HPN := Lib.hid (fun c => PB_next (k := 1) (o := 34) (.string ⟨#[34]⟩) HP.out (by omega) (by intro p; unfold doneP; omega) rfl (.cells #[.int .u8 34] 5 (0, 0)) (.cells #[.string ⟨#[34]⟩] 9 (0, 0)) F c HF.out.1 HF.out.2.1 HF.out.2.2.1 HF.out.2.2.2)
          have hz : (E1 w.heap.size 1 (.string ⟨#[34]⟩) (.cells #[.int .u8 34] 5 (0, 0)) (.cells #[.string ⟨#[34]⟩] 9 (0, 0)) wr).heap.size = wr.heap.size + 2 := E1_size _ _ _ _ _ _
          go_upto_region 34 with (fail)
          have hE : (((wr.setCell ⟨w.heap.size, 1, none⟩ (.string ⟨#[34]⟩)).setCell ⟨w.heap.size + 1, 256, none⟩ (.slice (some ⟨w.heap.size, 0, none⟩) 2 3)).alloc (.cells #[.int .u8 34] 5 (0, 0))).alloc (.cells #[.string ⟨#[34]⟩] 9 (0, 0)) = E1 w.heap.size 1 (.string ⟨#[34]⟩) (.cells #[.int .u8 34] 5 (0, 0)) (.cells #[.string ⟨#[34]⟩] 9 (0, 0)) wr := rfl
          rw [hE]
          clear hE hcv c0 c1 fr fr2 q0 q1 q2 frq hM hM2 hM3 hM4 hM5 hM6 hM7
          generalize E1 w.heap.size 1 (.string ⟨#[34]⟩) (.cells #[.int .u8 34] 5 (0, 0)) (.cells #[.string ⟨#[34]⟩] 9 (0, 0)) wr = E at HPM HPN hz ⊢
          have HTF := Lib.hid (HPM.out.1.keep (w' := F E) ((HF.out.1 E).block _ HPM.out.1.lt))
          have fc := HTF.out.cell 34 (by omega)
          rw [HN.out 34 (by omega) (by unfold doneP; omega)] at fc
          have ff := HTF.out.free 34
          have HBE := Lib.hid (show Below w.heap.size w E from HW.out.trans (HPM.out.2.2.below hzw (fun j hj h => by omega)))
          have HBF := Lib.hid (bstep HBE.out (HF.out.1 E))
          have hE1 : ∀ h, (((⟨#[34]⟩ : ByteArray)[0]'h).toNat : Int) = 34 := fun _ => rfl
          go_wp2_with fail
          go_roundw
          case rel => exact ⟨2, by omega, rfl, Lib.hid (by have h := HPN.out (C E); rw [hz] at h; exact h), Lib.hid (HBF.out.setCell (by show w.heap.size ≤ w.heap.size + 1; omega) _)⟩
          case measure => decide
        · obtain ⟨f, hT, hR, hD, hN⟩ := HP.out
          have HT := Lib.hid hT
          have HR := Lib.hid hR
          have HD := Lib.hid hD
          have HN := Lib.hid hN
          have hlt := hT.lt
          have hM : w.heap.size < wr.heap.size := by omega
          have hM2 : ¬ w.heap.size = wr.heap.size := by omega
          have hM3 : ¬ w.heap.size = wr.heap.size + 1 := by omega
          have hM4 : ¬ w.heap.size + 1 = wr.heap.size := by omega
          have hM5 : ¬ w.heap.size + 1 = wr.heap.size + 1 := by omega
          have hM6 : w.heap.size < wr.heap.size + 1 := by omega
          have hM7 : w.heap.size + 1 < wr.heap.size + 1 := by omega
          have hfo : f 92 = .slice none 0 0 := hN 92 (by omega) (by unfold doneP; omega)
          have c0 := hT.cell 92 (by omega)
          rw [hfo] at c0
          have c1 := hT.row
          have fr := hT.free 92
          have fr2 := hT.free 256
          obtain ⟨q0, q1, q2⟩ : wr.cell? ⟨w.heap.size, 0, none⟩ = (strsA 2)[0]? ∧ wr.cell? ⟨w.heap.size, 1, none⟩ = (strsA 2)[1]? ∧ wr.cell? ⟨w.heap.size, 2, none⟩ = (strsA 2)[2]? := ⟨cells_of hR 0, cells_of hR 1, cells_of hR 2⟩
          simp only [strsA, List.getElem?_toArray, List.getElem?_cons_succ, List.getElem?_cons_zero] at q0 q1 q2
          have frq := frees_of hR
          clear hT hR hD hN hfo
          have hcv : (convert 50 9 (.slice (some ⟨wr.heap.size, 0, none⟩) 1 1)).run Tryz.prog (wr.alloc (.cells #[.int .u8 92] 5 (0, 0))) = .ok (.string ⟨#[92]⟩) (wr.alloc (.cells #[.int .u8 92] 5 (0, 0))) := by
            have h := run_convert_bytes_back (P := Tryz.prog) (wr.alloc (.cells #[.int .u8 92] 5 (0, 0))) 50 9 5 ⟨wr.heap.size, 0, none⟩ 1 [92] Tryz.underlying50 Tryz.underlying5 Tryz.underlying9 (fun j hj => by
              obtain rfl : j = 0 := by simpa using hj
              rw [Lib.add_plain]
              exact cells_of (heap_alloc_new wr _) 0)
            exact h
          have hq : ∀ h, (((⟨#[92]⟩ : ByteArray)[0]'h).toNat : Int) = 92 := fun _ => rfl
          obtain ⟨F, C, hF, HF⟩ := conv_two 92
          have HPM := Lib.hid (PB_mid (k := 2) (.string ⟨#[92]⟩) HT.out HR.out rfl (.cells #[.int .u8 92] 5 (0, 0)) (.cells #[.string ⟨#[92]⟩] 9 (0, 0)))
          have HPN := Lib.hid (fun c => PB_next (k := 2) (o := 92) (.string ⟨#[92]⟩) HP.out (by omega) (by intro p; unfold doneP; omega) rfl (.cells #[.int .u8 92] 5 (0, 0)) (.cells #[.string ⟨#[92]⟩] 9 (0, 0)) F c HF.out.1 HF.out.2.1 HF.out.2.2.1 HF.out.2.2.2)
          have hz : (E1 w.heap.size 2 (.string ⟨#[92]⟩) (.cells #[.int .u8 92] 5 (0, 0)) (.cells #[.string ⟨#[92]⟩] 9 (0, 0)) wr).heap.size = wr.heap.size + 2 := E1_size _ _ _ _ _ _
          go_upto_region 34 with (fail)
          have hE : (((wr.setCell ⟨w.heap.size, 2, none⟩ (.string ⟨#[92]⟩)).setCell ⟨w.heap.size + 1, 256, none⟩ (.slice (some ⟨w.heap.size, 0, none⟩) 3 3)).alloc (.cells #[.int .u8 92] 5 (0, 0))).alloc (.cells #[.string ⟨#[92]⟩] 9 (0, 0)) = E1 w.heap.size 2 (.string ⟨#[92]⟩) (.cells #[.int .u8 92] 5 (0, 0)) (.cells #[.string ⟨#[92]⟩] 9 (0, 0)) wr := rfl
          rw [hE]
          clear hE hcv c0 c1 fr fr2 q0 q1 q2 frq hM hM2 hM3 hM4 hM5 hM6 hM7
          generalize E1 w.heap.size 2 (.string ⟨#[92]⟩) (.cells #[.int .u8 92] 5 (0, 0)) (.cells #[.string ⟨#[92]⟩] 9 (0, 0)) wr = E at HPM HPN hz ⊢
          have HTF := Lib.hid (HPM.out.1.keep (w' := F E) ((HF.out.1 E).block _ HPM.out.1.lt))
          have fc := HTF.out.cell 92 (by omega)
          rw [HN.out 92 (by omega) (by unfold doneP; omega)] at fc
          have ff := HTF.out.free 92
          have HBE := Lib.hid (show Below w.heap.size w E from HW.out.trans (HPM.out.2.2.below hzw (fun j hj h => by omega)))
          have HBF := Lib.hid (bstep HBE.out (HF.out.1 E))
          have hE1 : ∀ h, (((⟨#[92]⟩ : ByteArray)[0]'h).toNat : Int) = 92 := fun _ => rfl
          go_wp2_with fail
          go_roundw
          case rel => exact ⟨3, by omega, rfl, Lib.hid (by have h := HPN.out (C E); rw [hz] at h; exact h), Lib.hid (HBF.out.setCell (by show w.heap.size ≤ w.heap.size + 1; omega) _)⟩
          case measure => decide
        · go_wp2_with fail
          go_ret
          exact ⟨rfl, HP.out, HW.out⟩
end Go.Proofs.YtmcnhggpmlhgeaaGreatDoor
namespace Go.Proofs.YtmcnhggpmlhgeaaGreatDoor
open Go.RowKit
theorem load_any (a : Addr) (x : Int) (w : World) (hc : w.cell? a = some (.int .u32 x)) : Calls Tryz.prog 90 #[.pointer (some a)] w fun e w' => e = .returned (.bool (x != 0)) ∧ w' = w := by
  have hl := run_call_load (P := Tryz.prog) Tryz.func108 (by kernel_rfl) (by kernel_rfl) (by kernel_rfl) .u32 (by kernel_rfl) hc
  go_enter Tryz.func90, Tryz.ntmps90
  go_wp2_with fail
  go_ret
  exact ⟨rfl, rfl⟩
/-- a replacer that has been built -/
def RpK (w : World) (B M : Nat) (x0 x1 x2 : Value) : Prop := w.heap[B]? = some (.cells #[x0, x1, x2, .iface 161 (.pointer (some ⟨M + 1, 0, none⟩)), .slice none 0 0] 107 (0, 0)) ∧ PB M 3 w ∧ B < M
theorem PB.ch {M k : Nat} {w w' : World} {C : Nat → Prop} (h : PB M k w) (hm : Ch C w w') (hC : ∀ b, M ≤ b → ¬ C b) : PB M k w' := by
  obtain ⟨f, hT, hR, hD, hN⟩ := h
  exact ⟨f, hT.keep (hm.block _ hT.lt (hC _ (by omega))), (hm.block _ (lt_of_block hR) (hC _ (Nat.le_refl _))).trans hR, fun o ho => (hD o ho).ch hm fun b hb => hC b (by omega), hN⟩
set_option maxRecDepth 100000 in
set_option maxHeartbeats 4000000 in
theorem buildOnce_any (g : Nat) (x0 x1 x2 : Value) (w : World) (hr : RpG w g x0 x1 x2) :
    Calls Tryz.prog 79 #[.pointer (some ⟨g + 1, 0, none⟩)] w fun e w' => e = .returned (.tuple #[]) ∧ RpK w' (g + 1) w.heap.size x0 x1 x2 ∧ Ch (fun b => b = g + 1) w w' := by
  have HB := Lib.hid (build_any g x0 x1 x2 w hr)
  obtain ⟨cap, hb, -⟩ := hr
  have HA := Lib.hid hb
  have hlt := lt_of_block hb
  clear hb
  go_enter Tryz.func79, Tryz.ntmps79
  go_wp2_with fail
  refine HB.out.mono ?_
  rintro e w1 ⟨rfl, hP, hbl⟩
  have hb1 := (hbl.block _ hlt).trans HA.out
  have HP := Lib.hid hP
  have HL := Lib.hid hbl
  have HB1 := Lib.hid hb1
  have c3 := cells_of hb1 3
  have c4 := cells_of hb1 4
  have fr := frees_of hb1
  clear hP hbl hb1
  go_wp2_with fail
  go_end0
  have hm : Ch (fun b => b = g + 1) w1 ((w1.setCell ⟨g + 1, 3, none⟩ (.iface 161 (.pointer (some ⟨w.heap.size + 1, 0, none⟩)))).setCell ⟨g + 1, 4, none⟩ (.slice none 0 0)) :=
    Ch.trans (Ch.of_set w1 (g + 1) 3 _) (Ch.of_set _ (g + 1) 4 _) (fun i _ h => ⟨h, h⟩)
  refine ⟨rfl, ⟨blk_set (c := [x0, x1, x2, .iface 161 (.pointer (some ⟨w.heap.size + 1, 0, none⟩)), .slice (some ⟨g, 0, none⟩) 6 cap]) (blk_set (c := [x0, x1, x2, .nilIface, .slice (some ⟨g, 0, none⟩) 6 cap]) HB1.out 3 _) 4 _, HP.out.ch hm (fun b h1 h2 => by omega), hlt⟩, ?_⟩
  exact Ch.trans (Ch.of_below (C := fun _ => False) HL.out) hm (fun i _ h => ⟨fun h => h, h⟩)
set_option maxRecDepth 100000 in
set_option maxHeartbeats 4000000 in
theorem slow_any (g : Nat) (w : World) (hr : RpF w g) :
    Calls Tryz.prog 91 #[.pointer (some ⟨g + 1, 0, none⟩), .func (.func 79) #[.pointer (some ⟨g + 1, 0, none⟩)] #[]] w fun e w' => e = .returned (.tuple #[]) ∧ RpK w' (g + 1) w.heap.size (.int .u32 1) (.int .i32 0) (.int .u32 0) ∧ Ch (fun b => b = g + 1) w w' := by
  obtain ⟨cap, hb, hc⟩ := hr
  have hlt := lt_of_block hb
  have b1 := blk_set (c := [.int .u32 0, .int .i32 0, .int .u32 0, .nilIface, .slice (some ⟨g, 0, none⟩) 6 cap]) hb 1 (.int .i32 1)
  have HG1 := Lib.hid (show RpG (w.setCell ⟨g + 1, 1, none⟩ (.int .i32 1)) g (.int .u32 0) (.int .i32 1) (.int .u32 0) from ⟨cap, b1, fun j u hj => (cell_eq (Below.heap_setCell _ _ _ _ (by show g ≠ g + 1; omega)) j).trans (hc j u hj)⟩)
  have HLk := Lib.hid (lock_free ⟨g + 1, 1, none⟩ w (cells_of hb 1) (frees_of hb 1))
  have HLd := Lib.hid (load_any ⟨g + 1, 0, none⟩ 0 (w.setCell ⟨g + 1, 1, none⟩ (.int .i32 1)) (cells_of b1 0))
  have HC1 := Lib.hid (Ch.of_set w (g + 1) 1 (.int .i32 1))
  have hz1 : (w.setCell ⟨g + 1, 1, none⟩ (.int .i32 1)).heap.size = w.heap.size := World.size_setCell _ _ _
  clear hb hc b1
  generalize w.setCell ⟨g + 1, 1, none⟩ (.int .i32 1) = w1 at *
  have HBO := Lib.hid (buildOnce_any g (.int .u32 0) (.int .i32 1) (.int .u32 0) w1 HG1.out)
  go_enter_defers Tryz.func91, Tryz.ntmps91
  go_wp2_with fail
  refine HLk.out.mono ?_
  rintro e w' ⟨rfl, rfl⟩
  go_wp2_with fail
  refine HLd.out.mono ?_
  rintro e w' ⟨rfl, rfl⟩
  go_wp2_with fail
  refine HBO.out.mono ?_
  rintro e w2 ⟨rfl, hk, hch⟩
  rw [hz1] at hk
  have HK2 := Lib.hid hk
  have HC2 := Lib.hid (Ch.trans (E := fun b => b = g + 1) HC1.out hch (fun i _ h => ⟨h, h⟩))
  clear hk hch HBO HLk HLd HC1 HG1 hz1
  have k0 := cells_of HK2.out.1 0
  have k1 := cells_of HK2.out.1 1
  have kf := frees_of HK2.out.1
  have b3 := blk_set (w := w2.drew) (c := [.int .u32 0, .int .i32 1, .int .u32 0, .iface 161 (.pointer (some ⟨w.heap.size + 1, 0, none⟩)), .slice none 0 0]) HK2.out.1 0 (.int .u32 1)
  have HB3 := Lib.hid b3
  have HB4 := Lib.hid (blk_set (c := [.int .u32 1, .int .i32 1, .int .u32 0, .iface 161 (.pointer (some ⟨w.heap.size + 1, 0, none⟩)), .slice none 0 0]) b3 1 (.int .i32 0))
  clear b3
  go_wp2_with fail
  refine leaves_cons (f := 111) (args := #[.pointer (some ⟨g + 1, 0, none⟩), .bool true]) (by simp) (by simp [go_sem]) ?_
  refine (store_deferred ⟨g + 1, 0, none⟩ (.int .u32 0) .returning w2 k0 (kf 0)).mono ?_
  rintro e u' w'' ⟨rfl, rfl, rfl⟩
  refine leaves_cons (f := 110) (args := #[.pointer (some ⟨g + 1, 1, none⟩)]) (by simp [settle]) (by simp [go_sem]) ?_
  refine (unlock_deferred ⟨g + 1, 1, none⟩ _ _ (cells_of HB3.out 1) (frees_of HB3.out 1)).mono ?_
  rintro e u' w'' ⟨rfl, rfl, rfl⟩
  have hm : Ch (fun b => b = g + 1) w2 ((w2.drew.setCell ⟨g + 1, 0, none⟩ (.int .u32 1)).setCell ⟨g + 1, 1, none⟩ (.int .i32 0)) :=
    Ch.trans (E := fun b => b = g + 1) (Ch.trans (E := fun b => b = g + 1) (⟨rfl, rfl, rfl, Nat.le_refl _, fun _ _ _ => rfl⟩ : Ch (fun b => b = g + 1) w2 w2.drew) (Ch.of_set w2.drew (g + 1) 0 _) (fun i _ h => ⟨h, h⟩)) (Ch.of_set _ (g + 1) 1 _) (fun i _ h => ⟨h, h⟩)
  have hfin : RpK ((w2.drew.setCell ⟨g + 1, 0, none⟩ (.int .u32 1)).setCell ⟨g + 1, 1, none⟩ (.int .i32 0)) (g + 1) w.heap.size (.int .u32 1) (.int .i32 0) (.int .u32 0) := ⟨HB4.out, HK2.out.2.1.ch hm (fun b h1 h2 => by omega), hlt⟩
  have hchf := Ch.trans (E := fun b => b = g + 1) HC2.out hm (fun i _ h => ⟨h, h⟩)
  exact ⟨_, results_none rfl _ _ _, rfl, hfin, hchf⟩
set_option maxRecDepth 100000 in
set_option maxHeartbeats 4000000 in
theorem Do_any (g : Nat) (w : World) (hr : RpF w g) :
    Calls Tryz.prog 78 #[.pointer (some ⟨g + 1, 0, none⟩), .func (.func 79) #[.pointer (some ⟨g + 1, 0, none⟩)] #[]] w fun e w' => e = .returned (.tuple #[]) ∧ RpK w' (g + 1) w.heap.size (.int .u32 1) (.int .i32 0) (.int .u32 0) ∧ Ch (fun b => b = g + 1) w w' := by
  have HS := Lib.hid (slow_any g w hr)
  obtain ⟨cap, hb, -⟩ := hr
  have HLd := Lib.hid (load_any ⟨g + 1, 0, none⟩ 0 w (cells_of hb 0))
  clear hb
  go_enter Tryz.func78, Tryz.ntmps78
  go_wp2_with fail
  refine HLd.out.mono ?_
  rintro e w' ⟨rfl, rfl⟩
  go_wp2_with fail
  refine HS.out.mono ?_
  rintro e w1 ⟨rfl, hk, hc⟩
  have HK := Lib.hid hk
  have HC := Lib.hid hc
  clear hk hc
  go_wp2_with fail
  go_end0
  exact ⟨rfl, HK.out, HC.out⟩
end Go.Proofs.YtmcnhggpmlhgeaaGreatDoor
