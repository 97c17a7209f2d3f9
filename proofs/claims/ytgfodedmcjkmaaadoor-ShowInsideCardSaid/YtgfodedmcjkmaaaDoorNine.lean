/-
  A term's nine cells in one word; struct results; what walks over rows of terms lean on.
-/
import Derived.Test.YtgfodedmcjkmaaaDoorNew
import Derived.Test.YtgfodedmcjkmaaaDoorSets
import Derived.OwnWalk
import Derived.Deep.AppendLies
namespace Go.Proofs.YtgfodedmcjkmaaaDoor
open Go.RowKit
/-- the zero term -/
def zeroV : Value := .agg #[.int .i64 0, .int .i64 0, .int .i64 0, .string ⟨#[]⟩, .string ⟨#[]⟩, .int .i64 0, .slice none 0 0, .string ⟨#[]⟩, .int .i64 0]
theorem Tryd.info24 : (Tryd.prog.info? 24).map (fun i => (i.zero, i.size, i.bytes)) = some (some zeroV, 9, 112) := by kernel_rfl
/-- the k-th term of a row, in any world that is the same below: its nine cells -/
theorem Rd.nine {w wr : World} {A B : Nat} {l : TL} {b o k : Nat} {f : Fd} {it r : TL} (h : Rd w A B l b o) (hd : l.drop k = .cons f it r) (hk : ∀ b o, b < B → wr.cell? ⟨b, o, none⟩ = w.cell? ⟨b, o, none⟩) :
    b < B ∧ ∃ ai ci, (wr.cell? ⟨b, o + k * 9, none⟩ = some (.int .i64 f.k) ∧ wr.cell? ⟨b, o + k * 9 + 1, none⟩ = some (.int .i64 f.i) ∧ wr.cell? ⟨b, o + k * 9 + 2, none⟩ = some (.int .i64 f.g) ∧
      wr.cell? ⟨b, o + k * 9 + 3, none⟩ = some (.string f.nm) ∧ wr.cell? ⟨b, o + k * 9 + 4, none⟩ = some (.string f.fn) ∧ wr.cell? ⟨b, o + k * 9 + 5, none⟩ = some (.int .i64 f.ar) ∧
      wr.cell? ⟨b, o + k * 9 + 6, none⟩ = some (.slice ai it.len ci) ∧ wr.cell? ⟨b, o + k * 9 + 7, none⟩ = some (.string f.bs) ∧ wr.cell? ⟨b, o + k * 9 + 8, none⟩ = some (.int .i64 f.n)) ∧ RdS wr A B it (.slice ai it.len ci) := by
  obtain ⟨_, hb, iv, hcl, hit⟩ := Rd.at_ l b o k f it r h hd
  have hit' := hit
  obtain ⟨ai, ci, rfl, -, -, -⟩ := hit'
  have hc : ∀ j v, (f.cells (.slice ai it.len ci))[j]? = some v → wr.cell? ⟨b, o + k * 9 + j, none⟩ = some v := fun j v hj => by
    rw [Nat.mul_comm k 9]; exact (hk b _ hb).trans (hcl j v hj)
  exact ⟨hb, ai, ci, ⟨hc 0 _ rfl, hc 1 _ rfl, hc 2 _ rfl, hc 3 _ rfl, hc 4 _ rfl, hc 5 _ rfl, hc 6 _ rfl, hc 7 _ rfl, hc 8 _ rfl⟩, hit.keep hk⟩
theorem below_cells {w wr : World} {B C : Nat} (hb : Below C w wr) (hC : B ≤ C) : ∀ b o, b < B → wr.cell? ⟨b, o, none⟩ = w.cell? ⟨b, o, none⟩ := fun b o h => hb.cell (p := ⟨b, o, none⟩) (by exact Nat.lt_of_lt_of_le h hC)
theorem results_cell1 {fn : Func} {p : Tmp} {ty : TypeId} (h : fn.results = #[.cell p ty]) (tmps : Array Value) (P : Program) (w : World) :
    (results fn tmps).run P w = ((asAddr (tmps.getD p undef)).run P w).andThen fun a w1 => (loadVar ty a).run P w1 := by
  simp only [results, h]
  simp [Sem.run_bind, Result.andThen]
theorem results_none {fn : Func} (h : fn.results = #[]) (tmps : Array Value) (P : Program) (w : World) : (results fn tmps).run P w = .ok (.tuple #[]) w := by
  simp [results, h]
theorem results_one {fn : Func} {p : Tmp} (h : fn.results = #[.cell p 24]) (tmps : Array Value) (w : World) (g : Nat) (a0 a1 a2 a3 a4 a5 a6 a7 a8 : Value)
    (hp : tmps.getD p undef = .pointer (some ⟨g, 0, none⟩)) (hg : w.heap[g]? = some (.cells #[a0, a1, a2, a3, a4, a5, a6, a7, a8] 24 (0, 0))) :
    (results fn tmps).run Tryd.prog w = .ok (.agg #[a0, a1, a2, a3, a4, a5, a6, a7, a8]) w := by
  have hl := run_loadVar_row (P := Tryd.prog) w g _ 24 _ _ _ hg Tryd.underlying24 rfl term_size
  rw [results_cell1 h, hp]
  simp only [asAddr, Sem.run_pure, Result.andThen_ok, hl]
/-- one term to be appended: it lies in a block of its own -/
theorem news_one {w : World} {B : Nat} {c : List Value} {t : TypeId} (h : w.heap[B]? = some (.cells c.toArray t (0, 0))) : ∀ j u, c[j]? = some u → w.cell? ((⟨B, 0, none⟩ : Addr).add j) = some u :=
  fun j u hu => World.news_of_block h j u (by simpa using hu)
theorem cells_one (f : Fd) (ai : Option Addr) (n c : Nat) : ∀ u ∈ f.cells (.slice ai n c), u.oneCell' = true := by
  intro u hu
  simp only [Fd.cells, List.mem_cons, List.not_mem_nil, or_false] at hu
  rcases hu with rfl | rfl | rfl | rfl | rfl | rfl | rfl | rfl | rfl <;> rfl
theorem NwS.slice {w : World} {A B : Nat} {l : TL} {v : Value} (h : NwS w A B l v) : ∃ ai ci, v = .slice ai l.len ci := by
  obtain ⟨ao, cap, e, _⟩ := h; exact ⟨ao, cap, e⟩
theorem RdS.slice {w : World} {A B : Nat} {l : TL} {v : Value} (h : RdS w A B l v) : ∃ ai ci, v = .slice ai l.len ci := by
  obtain ⟨ao, cap, e, _⟩ := h; exact ⟨ao, cap, e⟩
theorem own_keep {w w' : World} {base e size : Nat} {v : Value} {n : Nat} {xs : List Value} (h : w.ownsRow base e size v n xs) (hk : ∀ k, base ≤ k → k < w.heap.size → w'.heap[k]? = w.heap[k]?) : w'.ownsRow base e size v n xs := by
  obtain ⟨h1, h2 | ⟨g, cap, cur, e1, hg, hh, r⟩⟩ := h
  · exact ⟨h1, .inl h2⟩
  · exact ⟨h1, .inr ⟨g, cap, cur, e1, hg, (hk g hg (lt_of_block hh)).trans hh, r⟩⟩
theorem own_below {w w' : World} {base e size C : Nat} {v : Value} {n : Nat} {xs : List Value} (h : w.ownsRow base e size v n xs) (hb : Below C w w') (hC : w.heap.size ≤ C) : w'.ownsRow base e size v n xs := own_keep h fun k _ hk => hb.block k (by omega)
theorem own_full {w : World} {base e size n g : Nat} {ys : List Value} (h : w.ownsRow base e size (.slice (some ⟨g, 0, none⟩) n n) n ys) : ∃ cur, w.heap[g]? = some (.cells cur e (0, 0)) ∧ cur.size = n * size ∧ cur.toList = ys := by
  obtain ⟨h1, ⟨h2, _⟩ | ⟨g', cap, cur, e1, hg, hh, hc, hm, hs, ht⟩⟩ := h
  · cases h2
  · injection e1 with e1 e2 e3
    injection e1 with e1
    injection e1 with e1 _ _
    subst e1 e3
    refine ⟨cur, hh, hs, ?_⟩
    rw [← ht, List.take_of_length_le (by simp; omega)]
/-- behind a call and an append onto row H: every other block is as it was -/
theorem grown_chain {wr w2 w3 : World} {o : Obj} {H : Nat} (hb : Below wr.heap.size wr w2) (hg : (w2.alloc o).grownBy w3 (some H)) : ∀ k, k < wr.heap.size → k ≠ H → w3.heap[k]? = wr.heap[k]? := fun k hk hne => by
  have hz := hb.size
  rw [hg.block k (by simp; omega) (by simpa using hne), Below.heap_alloc _ _ _ (by omega)]
  exact hb.block k hk
theorem below_chain {w wr w2 w3 : World} {o : Obj} {H B : Nat} (h : Below B w wr) (hb : Below wr.heap.size wr w2) (hg : (w2.alloc o).grownBy w3 (some H)) (hB : B ≤ wr.heap.size) (hH : B ≤ H) : Below B w w3 := by
  have hz := hb.size
  exact ((h.trans (hb.mono hB)).alloc (by omega) o).grown hg (by simp; omega) fun k hk => by cases hk; exact hH
theorem grown_blk {w w' : World} {g k : Nat} {o : Obj} (hg : w.grownBy w' (some g)) (h : w.heap[k]? = some o) (hne : k ≠ g) : w'.heap[k]? = some o := (hg.block k (lt_of_block h) (by simpa using hne)).trans h
theorem grown_blk0 {w w' : World} {k : Nat} {o : Obj} (hg : w.grownBy w' none) (h : w.heap[k]? = some o) : w'.heap[k]? = some o := (hg.block k (lt_of_block h) (by simp)).trans h
theorem size_setCell (w : World) (a : Addr) (u : Value) : (w.setCell a u).heap.size = w.heap.size := by simp [World.setCell]
end Go.Proofs.YtgfodedmcjkmaaaDoor
