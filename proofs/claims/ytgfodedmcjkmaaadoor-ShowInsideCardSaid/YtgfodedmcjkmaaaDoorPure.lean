/-
  Makers of terms: the plain law.
-/
import Derived.Test.YtgfodedmcjkmaaaDoorRows2
namespace Go.Proofs.YtgfodedmcjkmaaaDoor
open Go.RowKit
/-- fields of a kind alone -/
def kF (k : Int) : Fd := ⟨k, 0, 0, ⟨#[]⟩, ⟨#[]⟩, 0, ⟨#[]⟩, 0⟩
def intF (n : Int) : Fd := ⟨1, n, 0, ⟨#[]⟩, ⟨#[]⟩, 0, ⟨#[]⟩, 0⟩
def atomF (s : ByteArray) : Fd := ⟨2, 0, 0, s, ⟨#[]⟩, 0, ⟨#[]⟩, 0⟩
def resF (c : Int) (f : Fd) : Fd := if c = 0 then f else Fd.zero
def resL (c : Int) (l : TL) : TL := if c = 0 then l else .nil
noncomputable def tupC (l : TL) : Int := if formL l then (if 255 < l.len ∨ 2000 < wholeL l + 1 then 3 else 0) else 2
noncomputable def lstC (l : TL) (f : Fd) (it : TL) : Int := if formL l && formT f it then (if 2000 < wholeL l + wholeT f it + l.len then 3 else 0) else 2
/-- what stands behind the elements of a list with this tail -/
def tailL (f : Fd) (it : TL) : TL := if f.k = 9 then it else .cons f it .nil
def lstF (l : TL) (f : Fd) : Fd := if l.len = 0 then f else kF 9
def lstL (l : TL) (f : Fd) (it : TL) : TL := if l.len = 0 then it else l.app (tailL f it)
/-- is the term a valid list? -/
noncomputable def isL (f : Fd) (it : TL) : Bool := validF f it && decide (f.k = 9)
def hdF : TL → Fd
  | .nil => Fd.zero
  | .cons f _ _ => f
def hdL : TL → TL
  | .nil => .nil
  | .cons _ it _ => it
noncomputable def headF (f : Fd) (it : TL) : Fd := if isL f it then hdF it else Fd.zero
noncomputable def headL (f : Fd) (it : TL) : TL := if isL f it then hdL it else .nil
noncomputable def tlF (f : Fd) (it : TL) : Fd := if isL f it then (if it.len = 2 then hdF (it.drop 1) else kF 9) else Fd.zero
noncomputable def tlL (f : Fd) (it : TL) : TL := if isL f it then (if it.len = 2 then hdL (it.drop 1) else it.drop 1) else .nil
/-- does the term have elements? -/
noncomputable def elB (f : Fd) (it : TL) : Bool := validF f it && (decide (f.k = 8) || (decide (f.k = 9) && decide (it.lastK = 8)))
noncomputable def elL (f : Fd) (it : TL) : TL := if elB f it && decide (f.k = 9) then it.take (it.len - 1) else .nil
theorem tailL_ne {f : Fd} {it : TL} (h : formT f it = true) : tailL f it ≠ .nil := by
  unfold tailL
  split
  · rename_i hk
    have := (ok_list (node_ok (form_node h).1) hk).1
    intro e; rw [e] at this; simp [TL.len] at this
  · intro e; cases e
theorem tailL_form {f : Fd} {it : TL} (h : formT f it = true) : formL (tailL f it) = true ∧ (tailL f it).lastK ≠ 9 ∧ 1 ≤ (tailL f it).len := by
  unfold tailL
  split
  · rename_i hk
    have := ok_list (node_ok (form_node h).1) hk
    exact ⟨(form_node h).2, this.2, by omega⟩
  · rename_i hk
    exact ⟨by rw [form_one]; exact h, hk, Nat.le_refl _⟩
theorem tailL_whole {f : Fd} {it : TL} (h : formT f it = true) : wholeL (tailL f it) + (tailL f it).len = wholeT f it + 1 := by
  unfold tailL wholeT baseN
  split
  · rename_i hk
    have := (ok_list (node_ok (form_node h).1) hk).1
    omega
  · rename_i hk
    rw [wholeL_cons]
    unfold wholeT baseN
    rw [if_neg hk]
    simp [wholeL, TL.len]
theorem form_tuple {l : TL} (h : formL l = true) (h2 : l.len ≤ 255) : formT (kF 7) l = true := by
  unfold formT nodeB
  rw [h]
  have h1 : okK (kF 7) l = true := by unfold okK kF; simp [h2]
  have h3 : bareN (kF 7) l.len = 0 := rfl
  have h4 : bareF (kF 7) = Fd.zero := rfl
  rw [h1, h3, h4, zeroB_true]; rfl
theorem form_list {l : TL} (h : formL l = true) (h2 : 2 ≤ l.len) (h3 : l.lastK ≠ 9) : formT (kF 9) l = true := by
  unfold formT nodeB
  rw [h]
  have h1 : okK (kF 9) l = true := by unfold okK kF; simp [h2, h3]
  have h3 : bareN (kF 9) l.len = 0 := rfl
  have h4 : bareF (kF 9) = Fd.zero := rfl
  rw [h1, h3, h4, zeroB_true]; rfl
theorem whole_tuple (l : TL) : wholeT (kF 7) l = wholeL l + 1 := by
  unfold wholeT
  rw [show baseN (kF 7) l.len = 1 from rfl]; omega
theorem whole_list (l : TL) : wholeT (kF 9) l = l.len - 1 + wholeL l := rfl
/-- a list that is made, of a list of elements that is not empty -/
theorem form_made {l : TL} {f : Fd} {it : TL} (h : formL l = true) (h2 : formT f it = true) (h3 : 1 ≤ l.len) : formT (kF 9) (l.app (tailL f it)) = true ∧ wholeT (kF 9) (l.app (tailL f it)) = wholeL l + wholeT f it + l.len := by
  have h4 := tailL_form h2
  have h5 := tailL_whole h2
  refine ⟨form_list (by rw [formL_app, h, h4.1]; rfl) (by rw [TL.len_app]; omega) ?_, ?_⟩
  · rw [lastK_app _ _ (tailL_ne h2)]; exact h4.2.1
  · rw [whole_list, wholeL_app, TL.len_app]; omega
theorem app_cnt (l m : TL) : (l.app m).cnt = l.cnt + m.cnt := cnt_app l m
theorem small_app {n : Nat} : ∀ {l m : TL}, l.small n → m.small n → (l.app m).small n
  | .nil, _, _, h => h
  | .cons _ _ _, _, ⟨a, b, c, d, e⟩, h => ⟨a, b, c, d, small_app e h⟩
theorem tailL_cnt (f : Fd) (it : TL) : (tailL f it).cnt ≤ it.cnt + 1 := by
  unfold tailL
  split
  · omega
  · simp only [TL.cnt]; omega
theorem tailL_small {f : Fd} {it : TL} (h : smallT 1000000 f it) : (tailL f it).small 1000000 := by
  unfold tailL
  split
  · exact h.2.2.2
  · exact ⟨h.1, h.2.1, h.2.2.1, h.2.2.2, trivial⟩
/-- results: a term and a word; in new memory, or read -/
def NewP (c : Value) (F : Fd) (L : TL) (w : World) (e : Ending) (w' : World) : Prop := ∃ ai ci, e = .returned (.tuple #[.agg #[.int .i64 F.k, .int .i64 F.i, .int .i64 F.g, .string F.nm, .string F.fn, .int .i64 F.ar, .slice ai L.len ci, .string F.bs, .int .i64 F.n], c]) ∧ NwS w' w.heap.size w'.heap.size L (.slice ai L.len ci) ∧ Below w.heap.size w w'
def OldP (c : Value) (F : Fd) (L : TL) (w : World) (e : Ending) (w' : World) : Prop := ∃ ai ci, e = .returned (.tuple #[.agg #[.int .i64 F.k, .int .i64 F.i, .int .i64 F.g, .string F.nm, .string F.fn, .int .i64 F.ar, .slice ai L.len ci, .string F.bs, .int .i64 F.n], c]) ∧ RdS w' 0 w'.heap.size L (.slice ai L.len ci) ∧ Below w.heap.size w w'
end Go.Proofs.YtgfodedmcjkmaaaDoor
