/-
  One term appended to a row that the call owns: the new row is the old one's block or a new block. Walks: the program's reader of show: list, over the contract of term. Walks: the program's reader of show: pair, over the contract of term.
-/
import Derived.Test.YtgfodedmcjkmaaaDoorBookQ
import Derived.Test.YtgfodedmcjkmaaaDoorRd4
import Derived.ArgAppend
import Derived.Laws.OwnMore
import Derived.Laws.AppendOwn
import Derived.OwnWalk
namespace Go.Proofs.YtgfodedmcjkmaaaDoor
open Go.RowKit
theorem own_less {W : World} {B C e size n : Nat} {v : Value} {xs : List Value} (h : W.ownsRow B e size v n xs) (hC : C ≤ B) : W.ownsRow C e size v n xs := by
  refine ⟨h.1, h.2.imp_right ?_⟩
  rintro ⟨g, cap, cur, e1, hg, r⟩
  exact ⟨g, cap, cur, e1, by omega, r⟩
theorem app_term (W : World) (base ty : Nat) (hbase : base ≤ W.heap.size) (v : Value) (n : Nat) (xs : List Value) (hown : W.ownsRow base 24 9 v n xs) (N : Nat) (news : List Value) (hN : W.heap[N]? = some (.cells news.toArray 24 (0, 0)))
    (hl : news.length = 9) (h1 : ∀ u ∈ news, u.oneCell' = true) (hb : n ≤ 1000000000) :
    ∃ v' W', (Builtin.append_ #[22, 22] ty #[v, .slice (some ⟨N, 0, none⟩) 1 1]).run Tryd.prog W = .ok v' W' ∧ W'.ownsRow base 24 9 v' (n + 1) (xs ++ news) ∧ W.grownBy W' v.ownBlock ∧ ∀ b, v'.ownBlock = some b → v.ownBlock = some b ∨ W.heap.size ≤ b := by
  obtain ⟨i0, hi, hk0⟩ := Option.map_eq_some_iff.1 Tryd.info24
  simp only [Prod.mk.injEq] at hk0
  obtain ⟨iz0, iz1, iz2⟩ := hk0
  have hc : ∀ j u, news[j]? = some u → W.cell? ((⟨N, 0, none⟩ : Addr).add j) = some u := news_one hN
  have hown' := hown
  rcases hown'.2 with ⟨rfl, rfl⟩ | ⟨g, cap, cur, rfl, hbg, hg, hnc, hcm, hcs, ht⟩
  · have hx : xs = [] := List.eq_nil_of_length_eq_zero (by simpa using hown.1)
    subst hx
    obtain ⟨v', W', hrun, h2, h3, h4⟩ := run_append_own (P := Tryd.prog) W W.heap.size 22 ty 24 i0 zeroV 9 112 Tryd.underlying22 hi iz0 iz1 iz2 rfl (by decide) _ 0 [] (World.ownsRow_nil _ _ _ _) ⟨N, 0, none⟩ 1 1 news hl hc h1 (by unfold maxLen; omega) (by omega) (Nat.le_refl _)
    exact ⟨v', W', hrun, own_less h2 hbase, h3, fun b hb => .inr (h2.lt b hb).1⟩
  · by_cases hr : n + 1 ≤ cap
    · obtain ⟨W', hrun, h2, h3⟩ := run_append_fits (P := Tryd.prog) W base 22 ty 24 i0 9 Tryd.underlying22 hi iz1 g n cap xs hown ⟨N, 0, none⟩ 1 1 news hl hc h1 hr
      exact ⟨_, W', hrun, h2, h3, fun b hb => .inl hb⟩
    · obtain ⟨v', W', hrun, h2, h3⟩ := run_append_arg_grows (P := Tryd.prog) W 22 ty 24 i0 zeroV 9 112 Tryd.underlying22 hi iz0 iz1 iz2 rfl (by decide) ⟨g, 0, none⟩ n cap xs hown.1 (hown.cells rfl) ⟨N, 0, none⟩ 1 1 news hl hc (by omega) (by unfold maxLen; omega) (by omega)
      exact ⟨v', W', hrun, own_less h2 hbase, ⟨h3.os, h3.tape, h3.output, h3.size, fun k hk _ => h3.block k hk (by simp)⟩, fun b hb => .inr (h2.lt b hb).1⟩
theorem wpList_app {W : World} {ops : Array Oper} {rest : List Oper} {o : Oper} {a : Act} {Q : Exit → Act → World → Prop} (hgd : o.guard = none) (s x : Operand) (ho : o.op = .call { callee := .builtin .append, args := #[s, x], argTypes := #[22, 22] })
    (base : Nat) (hbase : base ≤ W.heap.size) (v : Value) (n : Nat) (xs : List Value) (hs : a.eval s = v) (hown : W.ownsRow base 24 9 v n xs) (N : Nat) (news : List Value) (hx : a.eval x = .slice (some ⟨N, 0, none⟩) 1 1)
    (hN : W.heap[N]? = some (.cells news.toArray 24 (0, 0))) (hl : news.length = 9) (h1 : ∀ u ∈ news, u.oneCell' = true) (hb : n ≤ 1000000000)
    (h : ∀ v' w', w'.ownsRow base 24 9 v' (n + 1) (xs ++ news) → W.grownBy w' v.ownBlock → (∀ b, v'.ownBlock = some b → v.ownBlock = some b ∨ W.heap.size ≤ b) → wpList Tryd.prog ops Q rest (a.put o.dst v') w') : wpList Tryd.prog ops Q (o :: rest) a W := by
  refine wpList_plain hgd fun K hK => ?_
  obtain ⟨v', w', hr, h2, h3, h4⟩ := app_term W base o.type hbase v n xs hown N news hN hl h1 hb
  unfold Oper.wp execOp
  simp only [ho, resolve, invoke, builtin, Sem.run_bind, Sem.run_pure, Result.andThen_ok, List.map_toArray, List.map_cons, List.map_nil, hs, hx, hr]
  exact hK _ _ (h v' w' h2 h3 h4)
/-- the blocks of a row's terms: from A on, below the world's size, but for the row's own block -/
def Kids (A : Nat) (v : Value) (w : World) (b : Nat) : Prop := A ≤ b ∧ b < w.heap.size ∧ v.ownBlock ≠ some b
/-- a row of terms that the call owns -/
def OwnT (A : Nat) (v : Value) (l : TL) (w : World) : Prop := ∃ xs, w.ownsRow A 24 9 v l.len xs ∧ RdXL w (Kids A v w) l xs
theorem OwnT.nil (A : Nat) (w : World) : OwnT A (.slice none 0 0) .nil w := ⟨[], World.ownsRow_nil _ _ _ _, rfl⟩
theorem OwnT.ch {A : Nat} {v : Value} {l : TL} {w w' : World} {C : Nat → Prop} (h : OwnT A v l w) (hm : Ch C w w') (hC : ∀ b, A ≤ b → b < w.heap.size → ¬ C b) : OwnT A v l w' := by
  obtain ⟨xs, h1, h2⟩ := h
  exact ⟨xs, own_keep h1 fun k hk hlt => hm.block k hlt (hC k hk hlt), h2.keep2 (fun b hb => ⟨hb.1, Nat.lt_of_lt_of_le hb.2.1 hm.size, hb.2.2⟩) fun b o hb => cell_eq (hm.block b hb.2.1 (hC b hb.1 hb.2.1)) o⟩
theorem OwnT.below {A : Nat} {v : Value} {l : TL} {w w' : World} (h : OwnT A v l w) (hb : Below w.heap.size w w') : OwnT A v l w' := h.ch (Ch.of_below (C := fun _ => False) hb) fun _ _ _ h => h
theorem OwnT.alloc {A : Nat} {v : Value} {l : TL} {w : World} (h : OwnT A v l w) (o : Obj) : OwnT A v l (w.alloc o) := h.below (below_alloc w o)
/-- the row after an append -/
theorem OwnT.app {A : Nat} {v v' : Value} {l : TL} {w w' : World} {xs : List Value} {f : Fd} {it : TL} {iv : Value} (hk : RdXL w (Kids A v w) l xs) (hi : RdXS w (Kids A v w) it iv)
    (h2 : w'.ownsRow A 24 9 v' (l.len + 1) (xs ++ f.cells iv)) (hg : w.grownBy w' v.ownBlock) (hn : ∀ b, v'.ownBlock = some b → v.ownBlock = some b ∨ w.heap.size ≤ b) : OwnT A v' (l.app (.cons f it .nil)) w' := by
  have hkeep : ∀ b, Kids A v w b → Kids A v' w' b := fun b hb => ⟨hb.1, Nat.lt_of_lt_of_le hb.2.1 hg.size, fun e => by
    rcases hn b e with h | h
    · exact hb.2.2 h
    · have := hb.2.1; omega⟩
  have hcell : ∀ b o, Kids A v w b → w'.cell? ⟨b, o, none⟩ = w.cell? ⟨b, o, none⟩ := fun b o hb => cell_eq (hg.block b hb.2.1 fun e => hb.2.2 e.symm) o
  refine ⟨xs ++ f.cells iv, ?_, (hk.keep2 hkeep hcell).app (RdXL.single (hi.keep2 hkeep hcell))⟩
  rw [TL.len_app]; exact h2
/-- a term that a call has just made, beside a row that is older -/
theorem kids_new {A : Nat} {v : Value} {l it : TL} {iv : Value} {w1 w2 : World} (ho : OwnT A v l w1) (hi : RdS w2 w1.heap.size w2.heap.size it iv) (hA : A ≤ w1.heap.size) (o : Obj) : RdXS (w2.alloc o) (Kids A v (w2.alloc o)) it iv := by
  obtain ⟨xs, h1, -⟩ := ho
  have h : RdXS w2 (fun b => w1.heap.size ≤ b ∧ b < w2.heap.size) it iv := hi.x fun b h1 h2 => ⟨h1, h2⟩
  refine h.keep2 (fun b hb => ⟨by omega, by rw [World.size_alloc]; omega, fun e => ?_⟩) fun b o' hb => cell_eq (Below.heap_alloc _ _ _ hb.2) o'
  have := (h1.lt b e).2
  omega
/-- a row of one term, new -/
theorem OwnT.one {A B : Nat} {w : World} {f : Fd} {it : TL} {ai : Option Addr} {n ci : Nat} (hi : RdS w B w.heap.size it (.slice ai n ci)) (hA : A ≤ B) (_hB : B ≤ w.heap.size) :
    OwnT A (.slice (some ⟨w.heap.size, 0, none⟩) 1 1) (.cons f it .nil) (w.alloc (.cells (f.cells (.slice ai n ci)).toArray 24 (0, 0))) := by
  have hnew := heap_alloc_new w (.cells (f.cells (.slice ai n ci)).toArray 24 (0, 0))
  refine ⟨f.cells (.slice ai n ci), ⟨rfl, .inr ⟨_, 1, _, rfl, by omega, hnew, Nat.le_refl _, by unfold maxLen; omega, rfl, rfl⟩⟩, ?_⟩
  have h : RdXS w (fun b => B ≤ b ∧ b < w.heap.size) it (.slice ai n ci) := hi.x fun b h1 h2 => ⟨h1, h2⟩
  refine RdXL.single (h.keep2 (fun b hb => ⟨by omega, by rw [World.size_alloc]; omega, fun e => ?_⟩) fun b o' hb => cell_eq (Below.heap_alloc _ _ _ hb.2) o')
  simp only [Value.ownBlock, Option.some.injEq] at e
  omega
/-- an owned row, read -/
theorem OwnT.rds {A : Nat} {v : Value} {l : TL} {w : World} (h : OwnT A v l w) : RdS w A w.heap.size l v := by
  obtain ⟨xs, h1, h2⟩ := h
  have h1' := h1
  rcases h1'.2 with ⟨rfl, h0⟩ | ⟨g, cap, cur, rfl, hbg, hg, hr⟩
  · obtain rfl := TL.len_zero h0
    exact RdS.nil _ _ _
  · have := RdXS.of_owns (S := fun b => A ≤ b ∧ b < w.heap.size) h1 rfl ⟨hbg, lt_of_block hg⟩ (h2.keep2 (fun b hb => ⟨hb.1, hb.2.1⟩) fun _ _ _ => rfl)
    exact this.rds fun b hb => hb
/-- .. whose blocks lie below U -/
def OwnB (A U : Nat) (v : Value) (l : TL) (w : World) : Prop := ∃ xs, w.ownsRow A 24 9 v l.len xs ∧ RdXL w (fun b => A ≤ b ∧ b < U ∧ v.ownBlock ≠ some b) l xs ∧ U ≤ w.heap.size ∧ ∀ b, v.ownBlock = some b → b < U
theorem OwnT.toB {A : Nat} {v : Value} {l : TL} {w : World} (h : OwnT A v l w) : OwnB A w.heap.size v l w := by
  obtain ⟨xs, h1, h2⟩ := h
  exact ⟨xs, h1, h2, Nat.le_refl _, fun b hb => (h1.lt b hb).2⟩
theorem OwnB.toT {A U : Nat} {v : Value} {l : TL} {w : World} (h : OwnB A U v l w) : OwnT A v l w := by
  obtain ⟨xs, h1, h2, h3, -⟩ := h
  exact ⟨xs, h1, h2.keep2 (fun b hb => ⟨hb.1, Nat.lt_of_lt_of_le hb.2.1 h3, hb.2.2⟩) fun _ _ _ => rfl⟩
theorem OwnB.ch {A U : Nat} {v : Value} {l : TL} {w w' : World} {C : Nat → Prop} (h : OwnB A U v l w) (hm : Ch C w w') (hC : ∀ b, A ≤ b → b < U → ¬ C b) : OwnB A U v l w' := by
  obtain ⟨xs, h1, h2, h3, h4⟩ := h
  refine ⟨xs, ⟨h1.1, ?_⟩, h2.keep2 (fun b hb => hb) fun b o hb => cell_eq (hm.block b (Nat.lt_of_lt_of_le hb.2.1 h3) (hC b hb.1 hb.2.1)) o, Nat.le_trans h3 hm.size, h4⟩
  rcases h1.2 with h5 | ⟨g, cap, cur, rfl, hbg, hg, r⟩
  · exact .inl h5
  · exact .inr ⟨g, cap, cur, rfl, hbg, (hm.block g (lt_of_block hg) (hC g hbg (h4 g rfl))).trans hg, r⟩
theorem OwnB.alloc {A U : Nat} {v : Value} {l : TL} {w : World} (h : OwnB A U v l w) (o : Obj) : OwnB A U v l (w.alloc o) := h.ch (Ch.of_below (C := fun _ => False) (below_alloc w o)) fun _ _ _ h => h
theorem OwnB.lt {A U : Nat} {v : Value} {l : TL} {w : World} (h : OwnB A U v l w) : ∀ b, v.ownBlock = some b → b < U := by
  obtain ⟨_, _, _, _, h4⟩ := h; exact h4
end Go.Proofs.YtgfodedmcjkmaaaDoor
namespace Go.Proofs.YtgfodedmcjkmaaaDoor
open Go.RowKit Go.Proofs.BitsM
/-- a term has been read -/
def TermRes (R : Nat) (x : Fd × TL × List UInt8) (d : Int) (w : World) (e : Ending) (w' : World) : Prop :=
  ∃ ai ci, e = .returned (.agg #[.int .i64 x.1.k, .int .i64 x.1.i, .int .i64 x.1.g, .string x.1.nm, .string x.1.fn, .int .i64 x.1.ar, .slice ai x.2.1.len ci, .string x.1.bs, .int .i64 x.1.n]) ∧ RdS w' w.heap.size w'.heap.size x.2.1 (.slice ai x.2.1.len ci) ∧ Rb R x.2.2 d w' ∧ Ch (fun b => b = R) w w'
def TermPost (R : Nat) (o : Option (Fd × TL × List UInt8)) (d : Int) (w : World) (e : Ending) (w' : World) : Prop := match o with | none => Bad R w e w' | some x => TermRes R x d w e w'
theorem TermPost.bad {R : Nat} {o : Option (Fd × TL × List UInt8)} {d : Int} {w : World} {e : Ending} {w' : World} (h : o = none) (hb : Bad R w e w') : TermPost R o d w e w' := by subst h; exact hb
theorem TermPost.res {R : Nat} {o : Option (Fd × TL × List UInt8)} {d : Int} {w : World} {e : Ending} {w' : World} {x : Fd × TL × List UInt8} (h : o = some x) (hb : TermRes R x d w e w') : TermPost R o d w e w' := by subst h; exact hb
/-- what term answers at texts of fewer than j bytes -/
def TermC (j : Nat) : Prop := ∀ (d : Nat) (R : Nat) (l : List UInt8) (w : World), Rb R l (d : Int) w → l.length < j → d ≤ 2000 → Calls Tryd.prog 24 #[.pointer (some ⟨R, 0, none⟩)] w (TermPost R (pTerm true j d l) (d : Int) w)
theorem TermC.no {j : Nat} (h : TermC j) (d : Nat) (R : Nat) (l : List UInt8) (w : World) (hr : Rb R l (d : Int) w) (hl : l.length < j) (hd : d ≤ 2000) (hx : pTerm true j d l = none) : Calls Tryd.prog 24 #[.pointer (some ⟨R, 0, none⟩)] w (Bad R w) := by
  have := h d R l w hr hl hd
  rw [hx] at this; exact this
theorem TermC.yes {j : Nat} (h : TermC j) (d : Nat) (R : Nat) (l : List UInt8) (x : Fd × TL × List UInt8) (w : World) (hr : Rb R l (d : Int) w) (hl : l.length < j) (hd : d ≤ 2000) (hx : pTerm true j d l = some x) : Calls Tryd.prog 24 #[.pointer (some ⟨R, 0, none⟩)] w (TermRes R x (d : Int) w) := by
  have := h d R l w hr hl hd
  rw [hx] at this; exact this
def ListRes (R : Nat) (z : TL × List UInt8) (d : Int) (w : World) (e : Ending) (w' : World) : Prop := ∃ v, e = .returned v ∧ OwnT w.heap.size v z.1 w' ∧ Rb R z.2 d w' ∧ Ch (fun b => b = R) w w'
def ListPost (R : Nat) (o : Option (TL × List UInt8)) (d : Int) (w : World) (e : Ending) (w' : World) : Prop := match o with | none => Bad R w e w' | some z => ListRes R z d w e w'
theorem ListPost.bad {R : Nat} {o : Option (TL × List UInt8)} {d : Int} {w : World} {e : Ending} {w' : World} (h : o = none) (hb : Bad R w e w') : ListPost R o d w e w' := by subst h; exact hb
theorem ListPost.res {R : Nat} {o : Option (TL × List UInt8)} {d : Int} {w : World} {e : Ending} {w' : World} {z : TL × List UInt8} (h : o = some z) (hb : ListRes R z d w e w') : ListPost R o d w e w' := by subst h; exact hb
/-- where the loop over items stands -/
def ItSt (rd : Rdr) (res : Option (TL × List UInt8)) (acc : TL) (s : List UInt8) : Prop := ∃ j, s.length ≤ j ∧ res = if hp s [44] then (pItems rd j (s.drop 1)).map (fun z => (acc.app z.1, z.2)) else some (acc, s)
theorem ItSt.start {rd : Rdr} {l : List UInt8} {x : Fd × TL × List UInt8} {j : Nat} (h : rd l = some x) (hl : l.length ≤ j) (hx : x.2.2.length ≤ l.length) : ItSt rd (pItems rd (j + 1) l) (.cons x.1 x.2.1 .nil) x.2.2 := by
  refine ⟨j, by omega, ?_⟩
  rw [pItems, h, Option.bind_some]; rfl
theorem ItSt.no {rd : Rdr} {res : Option (TL × List UInt8)} {acc : TL} {s : List UInt8} (h : ItSt rd res acc s) (h44 : hp s [44] = true) (hr : rd (s.drop 1) = none) : res = none := by
  obtain ⟨j, hj, rfl⟩ := h
  rw [if_pos h44]
  cases j with
  | zero => rfl
  | succ j => rw [pItems, hr]; rfl
theorem ItSt.next {rd : Rdr} {res : Option (TL × List UInt8)} {acc : TL} {s : List UInt8} {x : Fd × TL × List UInt8} (h : ItSt rd res acc s) (h44 : hp s [44] = true) (hr : rd (s.drop 1) = some x) (hx : x.2.2.length ≤ (s.drop 1).length) : ItSt rd res (acc.app (.cons x.1 x.2.1 .nil)) x.2.2 := by
  obtain ⟨j, hj, rfl⟩ := h
  have h1 := hp_len h44
  simp only [List.length_cons, List.length_nil] at h1
  rw [List.length_drop] at hx
  rw [if_pos h44]
  cases j with
  | zero => omega
  | succ j =>
    refine ⟨j, by omega, ?_⟩
    rw [pItems, hr, Option.bind_some]
    split
    · rw [Option.map_map]
      congr 1
      funext z
      simp only [Function.comp]
      rw [app_assoc]; rfl
    · rfl
theorem ItSt.stop {rd : Rdr} {res : Option (TL × List UInt8)} {acc : TL} {s : List UInt8} (h : ItSt rd res acc s) (h44 : hp s [44] = false) : res = some (acc, s) := by
  obtain ⟨j, hj, rfl⟩ := h
  rw [if_neg (by rw [h44]; decide)]
set_option maxRecDepth 100000 in
set_option maxHeartbeats 8000000 in
theorem list_any (j : Nat) (hT : TermC (j + 1)) (hj : j ≤ 1000000) (d : Nat) (hd : d ≤ 2000) (R : Nat) (l : List UInt8) (E c : Nat) (es : List ByteArray) (w : World) (hr : Rb R l (d : Int) w) (hl : l.length < j + 1) (he : ∀ k x, es[k]? = some x → w.cell? ⟨E, k, none⟩ = some (.string x)) (hes : es.length ≤ 1000) :
    Calls Tryd.prog 57 #[.pointer (some ⟨R, 0, none⟩), .slice (some ⟨E, 0, none⟩) es.length c] w (ListPost R (pList (pTerm true (j + 1) d) (j + 1) (es.map bl) l) (d : Int) w) := by
  have HT := Lib.hid hT
  have HE := Lib.hid he
  have HR := Lib.hid hr
  clear hT he
  have c0 := hr.c0
  go_enter Tryd.func57, Tryd.ntmps57
  go_wp2_with fail
  go_loop [10] (fun i => ∃ k : Nat, k ≤ es.length ∧ i = .int .i64 k ∧ Hid (∀ k' x, k' < k → es[k']? = some x → hp l (bl x) = false)) (fun i => es.length - (intOf i).toNat)
  case atStart => exact ⟨0, Nat.zero_le _, rfl, Lib.hid (fun k' x h => absurd h (Nat.not_lt_zero _))⟩
  case round =>
    obtain ⟨k, hk, rfl, HK⟩ := hrel
    by_cases hlt : k < es.length
    · have x1 : (k : Int) < (es.length : Int) := by omega
      obtain ⟨x, hx⟩ : ∃ x, es[k]? = some x := ⟨_, List.getElem?_eq_getElem hlt⟩
      have ck := HE.out k x hx
      have HX := Lib.hid hx
      clear hx
      go_wp2_with fail
      refine (hasPre l x _).mono ?_
      rintro e w1 ⟨rfl, rfl⟩
      cases hh : hp l (bl x) with
      | true =>
        have HP := Lib.hid (show pList (pTerm true (j + 1) d) (j + 1) (es.map bl) l = some (.nil, l) from by
          unfold pList
          rw [if_pos]
          rw [List.any_eq_true]
          exact ⟨bl x, List.mem_map.2 ⟨x, List.mem_of_getElem? HX.out, rfl⟩, hh⟩)
        clear hh
        go_wp2_with fail
        go_ret
        exact ListPost.res HP.out ⟨_, rfl, OwnT.nil _ _, HR.out, Ch.refl _ _⟩
      | false =>
        have HK2 := Lib.hid (show ∀ k' y, k' < k + 1 → es[k']? = some y → hp l (bl y) = false from by
          intro k' y h hy
          rcases Nat.lt_or_ge k' k with h1 | h1
          · exact HK.out k' y h1 hy
          · obtain rfl : k' = k := by omega
            rw [HX.out] at hy
            injection hy with hy
            subst hy; exact hh)
        clear hh
        go_wp2_with fail
        go_round
        case rel => exact ⟨k + 1, by omega, rfl, HK2⟩
        case measure => simp only [intOf, Int.toNat_natCast]; omega
    · have x1 : ¬ (k : Int) < (es.length : Int) := by omega
      obtain rfl : k = es.length := by omega
      have HP := Lib.hid (show pList (pTerm true (j + 1) d) (j + 1) (es.map bl) l = pItems (pTerm true (j + 1) d) (j + 1) l from by
        unfold pList
        rw [if_neg]
        rw [List.any_eq_true]
        rintro ⟨y, hy, hh⟩
        obtain ⟨x, hx, rfl⟩ := List.mem_map.1 hy
        obtain ⟨k', hk'⟩ := List.getElem?_of_mem hx
        have hlt' : k' < es.length := by
          rcases Nat.lt_or_ge k' es.length with h | h
          · exact h
          · rw [List.getElem?_eq_none h] at hk'; cases hk'
        rw [HK.out k' x hlt' hk'] at hh; cases hh)
      clear HK HE x1 hes hk
      generalize hres : pItems (pTerm true (j + 1) d) (j + 1) l = res at HP
      have HS := Lib.hid hres
      clear hres c0
      have hRw : R < w.heap.size := hr.lt
      have HF0 := Lib.hid (show Bq w [.blk R #[.string (ba (l)), .int .i64 (d : Int)] 56, .base (fun b => b = R) w] from ⟨HR.out, Ch.refl _ _, trivial⟩)
      clear HR hr
      cases h1 : pTerm true (j + 1) d l with
      | none =>
        have H1 := Lib.hid h1
        clear h1
        go_wp2_with fail
        refine (HT.out.no d R l _ (HF0.out.blk 0 rfl) (by omega) hd H1.out).mono ?_
        rintro e w9 ⟨rfl, ⟨l9, d9, hr⟩, ho⟩
        have HZ := Lib.hid (HF0.out.call 0 ho hr (by refine ⟨?_, trivial⟩ <;> (simp only [Fq.apart]; first | omega | (intro b h1 h2; omega) | (intro b h1 h2 h3; omega))))
        clear ho hr
        go_wp2_with fail
        exact ⟨rfl, ListPost.bad (HP.out.trans (by rw [← HS.out, pItems, H1.out]; rfl)) ⟨rfl, ⟨_, _, (HZ.out.blk 0 rfl)⟩, (HZ.out.base 1 rfl)⟩⟩
      | some x =>
        have hx1 := term_len _ _ _ _ h1
        have HI := Lib.hid (show ItSt (pTerm true (j + 1) d) res (.cons x.1 x.2.1 .nil) x.2.2 from by rw [← HS.out]; exact ItSt.start h1 (by omega) hx1)
        have H1 := Lib.hid h1
        clear h1 HS
        go_wp2_with fail
        refine (HT.out.yes d R l x _ (HF0.out.blk 0 rfl) (by omega) hd H1.out).mono ?_
        rintro e w1 ⟨ai1, ci1, rfl, hrd, hr, ho⟩
        have HF1 := Lib.hid (HF0.out.call 0 ho hr (by refine ⟨?_, trivial⟩ <;> (simp only [Fq.apart]; first | omega | (intro b h1 h2; omega) | (intro b h1 h2 h3; omega))))
        have hz1 : w.heap.size ≤ w1.heap.size := ho.size
        have HO := Lib.hid (OwnT.one (A := w.heap.size) (f := x.1) hrd (Nat.le_refl _) hz1)
        clear HF0 ho hr hrd
        go_wp2_with fail
        have HF2 := Lib.hid (HF1.out.alloc (.cells #[.int .i64 x.1.k, .int .i64 x.1.i, .int .i64 x.1.g, .string x.1.nm, .string x.1.fn, .int .i64 x.1.ar, .slice ai1 x.2.1.len ci1, .string x.1.bs, .int .i64 x.1.n] 24 (0, 0)))
        clear HF1
        go_loopw [7] (fun v wr => ∃ (acc : TL) (s : List UInt8), s.length ≤ j ∧ acc.len + s.length ≤ 2000000 ∧ Hid (ItSt (pTerm true (j + 1) d) res acc s) ∧ Hid (Bq wr [.blk R #[.string (ba (s)), .int .i64 (d : Int)] 56, .base (fun b => b = R) w]) ∧ Hid (OwnT w.heap.size v acc wr) ∧ w.heap.size ≤ wr.heap.size) (fun _ wr => leftLen R wr)
        case atStart => exact ⟨_, _, by omega, by simp only [TL.len]; omega, HI, HF2, HO, by rw [World.size_alloc]; omega⟩
        case round =>
          obtain ⟨acc, s, hsj, hal, HST, HW, HO, hzr⟩ := hrel
          clear HI HF2
          have hlen := leftLen_of (HW.out.blk 0 rfl)
          cases h44 : hp s [44] with
          | false =>
            have H44 := Lib.hid h44
            clear h44
            go_wp2_with fail
            refine (eatN R _ _ ⟨#[44]⟩ _ (HW.out.blk 0 rfl) H44.out).mono ?_
            rintro e w2 ⟨rfl, hr, ho⟩
            have HF2 := Lib.hid (HW.out.call 0 ho hr (by refine ⟨?_, trivial⟩ <;> (simp only [Fq.apart]; first | omega | (intro b h1 h2; omega) | (intro b h1 h2 h3; omega))))
            have HO2 := Lib.hid (HO.out.ch ho fun b h1 h2 => by omega)
            clear ho hr HW HO
            go_wp2_with fail
            go_ret
            exact ListPost.res (HP.out.trans (HST.out.stop H44.out)) ⟨_, rfl, HO2.out, (HF2.out.blk 0 rfl), (HF2.out.base 1 rfl)⟩
          | true =>
            have H44 := Lib.hid h44
            have hl44 := hp_len h44
            simp only [List.length_cons, List.length_nil] at hl44
            clear h44
            go_wp2_with fail
            refine (eatY R _ _ ⟨#[44]⟩ _ (HW.out.blk 0 rfl) H44.out).mono ?_
            rintro e w2 ⟨rfl, hr, ho⟩
            have HF2 := Lib.hid (HW.out.call 0 ho hr (by refine ⟨?_, trivial⟩ <;> (simp only [Fq.apart]; first | omega | (intro b h1 h2; omega) | (intro b h1 h2 h3; omega))))
            have HO2 := Lib.hid (HO.out.ch ho fun b h1 h2 => by omega)
            have hz2 : wr.heap.size ≤ w2.heap.size := ho.size
            clear ho hr HW HO
            cases h2 : pTerm true (j + 1) d (s.drop 1) with
            | none =>
              have H2 := Lib.hid h2
              clear h2
              go_wp2_with fail
              refine (HT.out.no d R _ _ (HF2.out.blk 0 rfl) (by rw [List.length_drop]; omega) hd H2.out).mono ?_
              rintro e w9 ⟨rfl, ⟨l9, d9, hr⟩, ho⟩
              have HZ := Lib.hid (HF2.out.call 0 ho hr (by refine ⟨?_, trivial⟩ <;> (simp only [Fq.apart]; first | omega | (intro b h1 h2; omega) | (intro b h1 h2 h3; omega))))
              clear ho hr
              go_wp2_with fail
              exact ⟨rfl, ListPost.bad (HP.out.trans (HST.out.no H44.out H2.out)) ⟨rfl, ⟨_, _, (HZ.out.blk 0 rfl)⟩, (HZ.out.base 1 rfl)⟩⟩
            | some y =>
              have hy1 := term_len _ _ _ _ h2
              rw [List.length_drop] at hy1
              have HI2 := Lib.hid (HST.out.next H44.out h2 (by rw [List.length_drop]; exact hy1))
              have H2 := Lib.hid h2
              clear h2
              go_wp2_with fail
              refine (HT.out.yes d R _ y _ (HF2.out.blk 0 rfl) (by rw [List.length_drop]; omega) hd H2.out).mono ?_
              rintro e w3 ⟨ai3, ci3, rfl, hrd, hr, ho⟩
              have HF3 := Lib.hid (HF2.out.call 0 ho hr (by refine ⟨?_, trivial⟩ <;> (simp only [Fq.apart]; first | omega | (intro b h1 h2; omega) | (intro b h1 h2 h3; omega))))
              have hz3 : w2.heap.size ≤ w3.heap.size := ho.size
              have HK := Lib.hid (kids_new HO2.out hrd (by omega) (.cells #[.int .i64 y.1.k, .int .i64 y.1.i, .int .i64 y.1.g, .string y.1.nm, .string y.1.fn, .int .i64 y.1.ar, .slice ai3 y.2.1.len ci3, .string y.1.bs, .int .i64 y.1.n] 24 (0, 0)))
              have HO3 := Lib.hid ((HO2.out.ch ho fun b h1 h2 => by omega).alloc (.cells #[.int .i64 y.1.k, .int .i64 y.1.i, .int .i64 y.1.g, .string y.1.nm, .string y.1.fn, .int .i64 y.1.ar, .slice ai3 y.2.1.len ci3, .string y.1.bs, .int .i64 y.1.n] 24 (0, 0)))
              clear ho hr hrd HF2 HO2
              obtain ⟨xs, hown, hkids⟩ := HO3.out
              have HKI := Lib.hid hkids
              clear hkids
              go_wp2_with (at_builtin; refine wpList_app rfl (.tmp 26) (.tmp 29) rfl w.heap.size (by rw [World.size_alloc]; omega) _ acc.len xs rfl hown w3.heap.size [.int .i64 y.1.k, .int .i64 y.1.i, .int .i64 y.1.g, .string y.1.nm, .string y.1.fn, .int .i64 y.1.ar, .slice ai3 y.2.1.len ci3, .string y.1.bs, .int .i64 y.1.n] rfl (heap_alloc_new _ _) rfl (cells_one y.1 ai3 y.2.1.len ci3) (by omega) ?_)
              intro v' w4 hown' hgrow hnew
              have HO4 := Lib.hid (OwnT.app (f := y.1) HKI.out HK.out hown' hgrow (by rw [World.size_alloc]; exact hnew))
              have HW4 := Lib.hid ((HF3.out.alloc (.cells #[.int .i64 y.1.k, .int .i64 y.1.i, .int .i64 y.1.g, .string y.1.nm, .string y.1.fn, .int .i64 y.1.ar, .slice ai3 y.2.1.len ci3, .string y.1.bs, .int .i64 y.1.n] 24 (0, 0))).move (Ch.grown hgrow (C := fun k => w.heap.size ≤ k) fun k hk => (hown.lt k hk).1) (by refine ⟨?_, ?_, trivial⟩ <;> (simp only [Fq.apart]; first | omega | (intro b h1 h2; omega) | (intro b h1 h2 h3; omega))))
              have hz4 : w3.heap.size ≤ w4.heap.size := by have := hgrow.size; rw [World.size_alloc] at this; omega
              clear hown hown' hgrow hnew HKI HK HO3 HF3
              go_wp2_with fail
              go_roundw
              case rel => exact ⟨_, _, by omega, by rw [TL.len_app]; simp only [TL.len]; omega, HI2, HW4, HO4, by omega⟩
              case measure => rw [hlen, leftLen_of (HW4.out.blk 0 rfl)]; omega
end Go.Proofs.YtgfodedmcjkmaaaDoor
namespace Go.Proofs.YtgfodedmcjkmaaaDoor
open Go.RowKit Go.Proofs.BitsM
theorem nilT_any (w : World) : Calls Tryd.prog 55 #[] w fun e w' => e = .returned (.agg #[.int .i64 8, .int .i64 0, .int .i64 0, .string ⟨#[]⟩, .string ⟨#[]⟩, .int .i64 0, .slice none 0 0, .string ⟨#[]⟩, .int .i64 0]) ∧ Below w.heap.size w w' := by
  go_enter Tryd.func55, Tryd.ntmps55
  go_wp2_with fail
  exact bodyPost_ret (results_one rfl _ _ w.heap.size _ _ _ _ _ _ _ _ _ rfl (heap_alloc_new _ _)) rfl ⟨rfl, below_alloc _ _⟩
theorem ListPost.no {R : Nat} {o : Option (TL × List UInt8)} {d : Int} {w : World} {e : Ending} {w' : World} (h : ListPost R o d w e w') (ho : o = none) : Bad R w e w' := by subst ho; exact h
theorem ListPost.yes {R : Nat} {o : Option (TL × List UInt8)} {z : TL × List UInt8} {d : Int} {w : World} {e : Ending} {w' : World} (h : ListPost R o d w e w') (ho : o = some z) : ListRes R z d w e w' := by subst ho; exact h
theorem items_cnt {rd : Rdr} (hrd : ∀ s x, rd s = some x → x.2.2.length ≤ s.length) : ∀ {j : Nat} {s : List UInt8} {z : TL × List UInt8}, pItems rd j s = some z → z.1.len + z.2.length ≤ s.length + 1
  | 0, _, _, h => by cases h
  | j + 1, s, z, h => by
    rw [pItems] at h
    simp only [Option.bind_eq_some_iff] at h
    obtain ⟨x, h1, h3⟩ := h
    have a := hrd s x h1
    split at h3
    · rename_i h44
      simp only [Option.map_eq_some_iff] at h3
      obtain ⟨z', h4, h5⟩ := h3
      have c := items_cnt hrd h4
      have d := hp_len h44
      subst h5
      rw [List.length_drop] at c
      simp only [List.length_cons, List.length_nil] at d
      simp only [TL.len]; omega
    · injection h3 with h3
      subst h3; simp only [TL.len]; omega
theorem list_cnt {rd : Rdr} (hrd : ∀ s x, rd s = some x → x.2.2.length ≤ s.length) {j : Nat} {ends : List (List UInt8)} {s : List UInt8} {z : TL × List UInt8} (h : pList rd j ends s = some z) : z.1.len + z.2.length ≤ s.length + 1 := by
  unfold pList at h
  split at h
  · injection h with h
    subst h; simp only [TL.len]; omega
  · exact items_cnt hrd h
/-- a term that was made behind a row is no part of it -/
theorem kids_old {A B1 B2 : Nat} {v : Value} {it : TL} {iv : Value} {w : World} (hv : ∀ b, v.ownBlock = some b → b < B1) (hi : RdS w B1 B2 it iv) (hB : B2 ≤ w.heap.size) (hA : A ≤ B1) (o : Obj) : RdXS (w.alloc o) (Kids A v (w.alloc o)) it iv := by
  have h : RdXS w (fun b => B1 ≤ b ∧ b < B2) it iv := hi.x fun b h1 h2 => ⟨h1, h2⟩
  refine h.keep2 (fun b hb => ⟨by omega, by rw [World.size_alloc]; omega, fun e => ?_⟩) fun b o' hb => cell_eq (Below.heap_alloc _ _ _ (by omega)) o'
  have := hv b e
  omega
set_option maxRecDepth 100000 in
set_option maxHeartbeats 8000000 in
theorem pair_any (j : Nat) (hT : TermC (j + 1)) (hj : j ≤ 1000000) (d : Nat) (hd : d ≤ 2000) (R : Nat) (l : List UInt8) (w : World) (hr : Rb R l (d : Int) w) (hl : l.length < j + 1) :
    Calls Tryd.prog 56 #[.pointer (some ⟨R, 0, none⟩)] w (TermPost R (pPair true (pTerm true (j + 1) d) (j + 1) l) (d : Int) w) := by
  have HTC := Lib.hid hT
  clear hT
  have hRw : R < w.heap.size := hr.lt
  have HF0 := Lib.hid (show Bq w [.blk R #[.string (ba (l)), .int .i64 (d : Int)] 56, .base (fun b => b = R) w] from ⟨hr, Ch.refl _ _, trivial⟩)
  clear hr
  generalize hres : pPair true (pTerm true (j + 1) d) (j + 1) l = res
  unfold pPair at hres
  go_enter Tryd.func56, Tryd.ntmps56
  go_wp2_with fail
  have HF1 := Lib.hid (HF0.out.box #[.int .i64 0, .int .i64 0, .int .i64 0, .string ⟨#[]⟩, .string ⟨#[]⟩, .int .i64 0, .slice none 0 0, .string ⟨#[]⟩, .int .i64 0] 24 (n := w.heap.size) (by rfl))
  clear HF0
  have HF2 := Lib.hid (HF1.out.box #[.string ⟨#[93]⟩, .string ⟨#[124]⟩] 9 (n := w.heap.size + 1) (by simp))
  clear HF1
  have HLC := Lib.hid (list_any j HTC.out hj d hd R l (w.heap.size + 1) 2 [⟨#[93]⟩, ⟨#[124]⟩] _ (HF2.out.blk 2 rfl) hl (fun k x hx => by
      have hc := cells_of (HF2.out.blk 0 rfl) k
      rw [hc]
      match k, hx with
      | 0, hx => simpa using hx
      | 1, hx => simpa using hx
      | k + 2, hx => simp at hx) (by decide))
  have hends : ([⟨#[93]⟩, ⟨#[124]⟩] : List ByteArray).map bl = [[93], [124]] := rfl
  rw [hends] at HLC
  clear hends
  cases h1 : pList (pTerm true (j + 1) d) (j + 1) [[93], [124]] l with
  | none =>
    have HRS := Lib.hid (show res = none from by rw [← hres, h1]; rfl)
    have H1 := Lib.hid h1
    clear h1 hres
    refine ((HLC.out.mono fun _ _ h => ListPost.no h H1.out)).mono ?_
    rintro e w9 ⟨rfl, ⟨l9, d9, hr⟩, ho⟩
    have HZ := Lib.hid (HF2.out.call 2 ho hr (by refine ⟨?_, ?_, ?_, trivial⟩ <;> (simp only [Fq.apart]; first | omega | (intro b h1 h2; omega) | (intro b h1 h2 h3; omega))))
    clear ho hr
    go_wp2_with fail
    exact ⟨rfl, TermPost.bad (HRS.out) ⟨rfl, ⟨_, _, (HZ.out.blk 0 rfl)⟩, (HZ.out.base 3 rfl)⟩⟩
  | some z =>
    rw [h1, Option.bind_some] at hres
    have hz0 := list_len (fun s x h => term_len _ _ s x h) h1
    have H1 := Lib.hid h1
    clear h1
    refine (HLC.out.mono fun _ _ h => ListPost.yes h H1.out).mono ?_
    rintro e w1 ⟨v, rfl, hot, hr, ho⟩
    have HT1 := Lib.hid hot
    clear hot HLC
    have HF9 := Lib.hid (HF2.out.call 2 ho hr (by refine ⟨?_, ?_, ?_, trivial⟩ <;> (simp only [Fq.apart]; first | omega | (intro b h1 h2; omega) | (intro b h1 h2 h3; omega))))
    have hz1 : w.heap.size + 2 ≤ w1.heap.size := by have := ho.size; simp at this; omega
    clear HF2 ho hr
    obtain ⟨A, hA⟩ : ∃ A, A = w.heap.size + 2 := ⟨_, rfl⟩
    have HT1 := Lib.hid (show OwnT A v z.1 w1 from by rw [hA]; have := HT1.out; simpa using this)
    have hAge : w.heap.size + 2 ≤ A := by omega
    have hAle : A ≤ w1.heap.size := by omega
    have hzl : z.1.len ≤ 1000000000 := by have := list_cnt (fun s x h => term_len _ _ s x h) H1.out; omega
    clear hA
    go_wp2_with fail
    refine (nilT_any _).mono ?_
    rintro e w2 ⟨rfl, hb⟩
    have HF10 := Lib.hid (HF9.out.below hb)
    have HT2 := Lib.hid (HT1.out.below hb).toB
    have hz2 : w1.heap.size ≤ w2.heap.size := hb.size
    clear HF9 HT1 hb
    go_wp2_with fail
    have HT2a := Lib.hid (HT2.out.alloc (.cells #[.int .i64 8, .int .i64 0, .int .i64 0, .string ⟨#[]⟩, .string ⟨#[]⟩, .int .i64 0, .slice none 0 0, .string ⟨#[]⟩, .int .i64 0] 24 (0, 0)))
    clear HT2
    have HF11 := Lib.hid (HF10.out.box #[.int .i64 8, .int .i64 0, .int .i64 0, .string ⟨#[]⟩, .string ⟨#[]⟩, .int .i64 0, .slice none 0 0, .string ⟨#[]⟩, .int .i64 0] 24 (n := w2.heap.size) (by rfl))
    clear HF10
    cases h124 : hp z.2 [124] with
    | false =>
      have htl : pTail true (pTerm true (j + 1) d) z.2 = some (kF 8, .nil, z.2) := by unfold pTail; rw [h124, if_neg (by decide)]
      rw [htl, Option.bind_some] at hres
      clear htl
      have H124 := Lib.hid h124
      clear h124
      refine (eatN R _ _ ⟨#[124]⟩ _ (HF11.out.blk 1 rfl) H124.out).mono ?_
      rintro e w3 ⟨rfl, hr, ho⟩
      have HF12 := Lib.hid (HF11.out.call 1 ho hr (by refine ⟨?_, ?_, ?_, ?_, trivial⟩ <;> (simp only [Fq.apart]; first | omega | (intro b h1 h2; omega) | (intro b h1 h2 h3; omega))))
      have hz3 : w2.heap.size + 1 ≤ w3.heap.size := by have := ho.size; first | omega | (simp at this; omega)
      have HT3 := Lib.hid (HT2a.out.ch ho fun b h1 h2 => by omega)
      clear HT2a
      clear HF11 ho hr 
      go_wp2_with fail
      cases h3 : pMust [93] z.2 with
      | none =>
        have HRS := Lib.hid (show res = none from by rw [← hres, h3]; rfl)
        have H3 := Lib.hid h3
        clear h3 hres
        refine (mustN R _ _ ⟨#[93]⟩ _ (HF12.out.blk 0 rfl) H3.out).mono ?_
        rintro e w9 ⟨rfl, ⟨l9, d9, hr⟩, ho⟩
        have HZ := Lib.hid (HF12.out.call 0 ho hr (by refine ⟨?_, ?_, ?_, ?_, trivial⟩ <;> (simp only [Fq.apart]; first | omega | (intro b h1 h2; omega) | (intro b h1 h2 h3; omega))))
        clear ho hr
        go_wp2_with fail
        exact ⟨rfl, TermPost.bad (HRS.out) ⟨rfl, ⟨_, _, (HZ.out.blk 0 rfl)⟩, (HZ.out.base 4 rfl)⟩⟩
      | some s2 =>
        have HRS := Lib.hid (show res = some (kF 9, z.1.app (.cons (kF 8) .nil .nil), s2) from by rw [← hres, h3]; rfl)
        have H3 := Lib.hid h3
        clear h3 hres
        refine (mustY R _ s2 _ ⟨#[93]⟩ _ (HF12.out.blk 0 rfl) H3.out).mono ?_
        rintro e w4 ⟨rfl, hr, ho⟩
        have HF13 := Lib.hid (HF12.out.call 0 ho hr (by refine ⟨?_, ?_, ?_, ?_, trivial⟩ <;> (simp only [Fq.apart]; first | omega | (intro b h1 h2; omega) | (intro b h1 h2 h3; omega))))
        have hz4 : w3.heap.size ≤ w4.heap.size := by have := ho.size; first | omega | (simp at this; omega)
        have HT4 := Lib.hid (HT3.out.ch ho fun b h1 h2 => by omega)
        clear HT3
        clear HF12 ho hr 
        have HQ := Lib.hid (show Bq w4 [.blk R #[.string (ba (s2)), .int .i64 (d : Int)] 56, .base (fun b => b = R) w, .blk (w.heap.size) #[.int .i64 0, .int .i64 0, .int .i64 0, .string ⟨#[]⟩, .string ⟨#[]⟩, .int .i64 0, .slice none 0 0, .string ⟨#[]⟩, .int .i64 0] 24] from ⟨(HF13.out.get 0 rfl), (HF13.out.base 4 rfl), (HF13.out.get 3 rfl), trivial⟩)
        obtain ⟨c0, c1, c2, c3, c4, c5, c6, c7, c8, -⟩ := nine_cells (HF13.out.blk 1 rfl)
        obtain ⟨xs, hown, hkids⟩ := (HT4.out.alloc (.cells #[.int .i64 8, .int .i64 0, .int .i64 0, .string ⟨#[]⟩, .string ⟨#[]⟩, .int .i64 0, .slice none 0 0, .string ⟨#[]⟩, .int .i64 0] 24 (0, 0))).toT
        have HKI := Lib.hid hkids
        clear hkids
        have HKN := Lib.hid (show RdXS (w4.alloc (.cells #[.int .i64 8, .int .i64 0, .int .i64 0, .string ⟨#[]⟩, .string ⟨#[]⟩, .int .i64 0, .slice none 0 0, .string ⟨#[]⟩, .int .i64 0] 24 (0, 0))) (Kids A v (w4.alloc (.cells #[.int .i64 8, .int .i64 0, .int .i64 0, .string ⟨#[]⟩, .string ⟨#[]⟩, .int .i64 0, .slice none 0 0, .string ⟨#[]⟩, .int .i64 0] 24 (0, 0)))) .nil (.slice none 0 0) from RdXS.nil _ _)
        go_wp2_with (at_builtin; refine wpList_app rfl (.tmp 20) (.tmp 22) rfl A (by rw [World.size_alloc]; omega) _ z.1.len xs rfl hown w4.heap.size [.int .i64 8, .int .i64 0, .int .i64 0, .string ⟨#[]⟩, .string ⟨#[]⟩, .int .i64 0, .slice none 0 0, .string ⟨#[]⟩, .int .i64 0] rfl (heap_alloc_new _ _) rfl (cells_one ((kF 8, .nil, s2) : Fd × TL × List UInt8).1 _ _ _) (by omega) ?_)
        intro v' w8 hown' hgrow hnew
        have HT8 := Lib.hid (OwnT.app (f := ((kF 8, .nil, s2) : Fd × TL × List UInt8).1) HKI.out HKN.out hown' hgrow (by rw [World.size_alloc]; exact hnew))
        have HW8 := Lib.hid ((HQ.out.alloc (.cells #[.int .i64 8, .int .i64 0, .int .i64 0, .string ⟨#[]⟩, .string ⟨#[]⟩, .int .i64 0, .slice none 0 0, .string ⟨#[]⟩, .int .i64 0] 24 (0, 0))).move (Ch.grown hgrow (C := fun k => A ≤ k) fun k hk => (hown.lt k hk).1) (by refine ⟨?_, ?_, ?_, trivial⟩ <;> (simp only [Fq.apart]; first | omega | (intro b h1 h2; omega) | (intro b h1 h2 h3; omega))))
        have hz8 : w4.heap.size ≤ w8.heap.size := by have := hgrow.size; rw [World.size_alloc] at this; omega
        clear hown hown' hgrow hnew HKI HKN HT4 c0 c1 c2 c3 c4 c5 c6 c7 c8
        obtain ⟨ao, ca, rfl⟩ := HT8.out.rds.slice
        obtain ⟨d0, d1, d2, d3, d4, d5, d6, d7, d8, fs⟩ := nine_cells (HW8.out.blk 2 rfl)
        go_wp2_with fail
        have HF14 := Lib.hid (HW8.out.put 2 rfl (by refine ⟨?_, ?_, trivial⟩ <;> (simp only [Fq.apart]; first | omega | (intro b h1 h2; omega) | (intro b h1 h2 h3; omega))) (.int .i64 9) (.int .i64 0) (.int .i64 0) (.string ⟨#[]⟩) (.string ⟨#[]⟩) (.int .i64 0) (.slice ao (z.1.app (.cons ((kF 8, .nil, s2) : Fd × TL × List UInt8).1 ((kF 8, .nil, s2) : Fd × TL × List UInt8).2.1 .nil)).len ca) (.string ⟨#[]⟩) (.int .i64 0))
        clear HW8
        have ho9 := outs_nine w8 w.heap.size (.int .i64 9) (.int .i64 0) (.int .i64 0) (.string ⟨#[]⟩) (.string ⟨#[]⟩) (.int .i64 0) (.slice ao (z.1.app (.cons ((kF 8, .nil, s2) : Fd × TL × List UInt8).1 ((kF 8, .nil, s2) : Fd × TL × List UInt8).2.1 .nil)).len ca) (.string ⟨#[]⟩) (.int .i64 0)
        have HT9 := Lib.hid (HT8.out.ch (C := fun b => b = w.heap.size) ⟨ho9.os, ho9.tape, ho9.output, ho9.size, fun j hj hc => ho9.block j hj (by omega)⟩ fun b h1 h2 => by omega)
        clear ho9
        refine bodyPost_ret (results_one rfl _ _ _ _ _ _ _ _ _ _ _ _ rfl (HF14.out.blk 0 rfl)) rfl ?_
        exact TermPost.res (x := (kF 9, z.1.app (.cons ((kF 8, .nil, s2) : Fd × TL × List UInt8).1 ((kF 8, .nil, s2) : Fd × TL × List UInt8).2.1 .nil), s2)) (HRS.out) ⟨ao, ca, rfl, HT9.out.rds.less (by omega), (HF14.out.blk 1 rfl), (HF14.out.base 2 rfl)⟩
    | true =>
      have hl124 := hp_len h124
      simp only [List.length_cons, List.length_nil] at hl124
      have htl : pTail true (pTerm true (j + 1) d) z.2 = (pTerm true (j + 1) d (z.2.drop 1)).bind fun x => if true && decide (x.1.k = 8) then none else some x := by unfold pTail; rw [h124, if_pos rfl]
      rw [htl] at hres
      clear htl
      have H124 := Lib.hid h124
      clear h124
      refine (eatY R _ _ ⟨#[124]⟩ _ (HF11.out.blk 1 rfl) H124.out).mono ?_
      rintro e w3 ⟨rfl, hr, ho⟩
      have HF12 := Lib.hid (HF11.out.call 1 ho hr (by refine ⟨?_, ?_, ?_, ?_, trivial⟩ <;> (simp only [Fq.apart]; first | omega | (intro b h1 h2; omega) | (intro b h1 h2 h3; omega))))
      have hz3 : w2.heap.size + 1 ≤ w3.heap.size := by have := ho.size; first | omega | (simp at this; omega)
      have HT3 := Lib.hid (HT2a.out.ch ho fun b h1 h2 => by omega)
      clear HT2a
      clear HF11 ho hr 
      go_wp2_with fail
      cases h2 : pTerm true (j + 1) d (z.2.drop 1) with
      | none =>
        have HRS := Lib.hid (show res = none from by rw [← hres, h2]; rfl)
        have H2 := Lib.hid h2
        clear h2 hres
        refine (HTC.out.no d R _ _ (HF12.out.blk 0 rfl) (by rw [List.length_drop]; omega) hd H2.out).mono ?_
        rintro e w9 ⟨rfl, ⟨l9, d9, hr⟩, ho⟩
        have HZ := Lib.hid (HF12.out.call 0 ho hr (by refine ⟨?_, ?_, ?_, ?_, trivial⟩ <;> (simp only [Fq.apart]; first | omega | (intro b h1 h2; omega) | (intro b h1 h2 h3; omega))))
        clear ho hr
        go_wp2_with fail
        exact ⟨rfl, TermPost.bad (HRS.out) ⟨rfl, ⟨_, _, (HZ.out.blk 0 rfl)⟩, (HZ.out.base 4 rfl)⟩⟩
      | some x =>
        rw [h2, Option.bind_some] at hres
        have H2 := Lib.hid h2
        clear h2
        have HV := Lib.hid (show ∀ b, v.ownBlock = some b → b < w3.heap.size from fun b hb => by have := HT3.out.lt b hb; omega)
        refine (HTC.out.yes d R _ x _ (HF12.out.blk 0 rfl) (by rw [List.length_drop]; omega) hd H2.out).mono ?_
        rintro e w4 ⟨ai, ci, rfl, hrd, hr, ho⟩
        have HRD := Lib.hid hrd
        clear hrd
        have HF13 := Lib.hid (HF12.out.call 0 ho hr (by refine ⟨?_, ?_, ?_, ?_, trivial⟩ <;> (simp only [Fq.apart]; first | omega | (intro b h1 h2; omega) | (intro b h1 h2 h3; omega))))
        have hz4 : w3.heap.size ≤ w4.heap.size := by have := ho.size; first | omega | (simp at this; omega)
        have HT4 := Lib.hid (HT3.out.ch ho fun b h1 h2 => by omega)
        clear HT3
        clear HF12 ho hr 
        have HF14 := Lib.hid (HF13.out.add (f := .rd w3.heap.size w4.heap.size x.2.1 (.slice ai x.2.1.len ci)) ⟨HRD.out, Nat.le_refl _⟩)
        clear HF13
        clear HRD
        obtain ⟨c0, c1, c2, c3, c4, c5, c6, c7, c8, fr⟩ := nine_cells (HF14.out.blk 2 rfl)
        by_cases h8 : x.1.k = 8
        · have HRS := Lib.hid (show res = none from by rw [← hres, if_pos (by simp [h8])]; rfl)
          have x8 : (x.1.k == 8) = true := by simp [h8]
          clear h8 hres
          go_wp2_with fail
          have HF15 := Lib.hid (HF14.out.put 2 rfl (by refine ⟨?_, ?_, ?_, ?_, ?_, trivial⟩ <;> (simp only [Fq.apart]; first | omega | (intro b h1 h2; omega) | (intro b h1 h2 h3; omega))) (.int .i64 x.1.k) (.int .i64 x.1.i) (.int .i64 x.1.g) (.string x.1.nm) (.string x.1.fn) (.int .i64 x.1.ar) (.slice ai x.2.1.len ci) (.string x.1.bs) (.int .i64 x.1.n))
          clear HF14
          exact ⟨rfl, TermPost.bad HRS.out ⟨rfl, ⟨_, _, (HF15.out.blk 2 rfl)⟩, (HF15.out.base 5 rfl)⟩⟩
        · rw [if_neg (by simp [h8]), Option.bind_some] at hres
          have x8 : (x.1.k == 8) = false := by simp [h8]
          clear h8
          go_wp2_with fail
          have ho7 := outs_nine w4 (w2.heap.size) (.int .i64 x.1.k) (.int .i64 x.1.i) (.int .i64 x.1.g) (.string x.1.nm) (.string x.1.fn) (.int .i64 x.1.ar) (.slice ai x.2.1.len ci) (.string x.1.bs) (.int .i64 x.1.n)
          have HT7 := Lib.hid (HT4.out.ch (C := fun b => b = w2.heap.size) ⟨ho7.os, ho7.tape, ho7.output, ho7.size, fun j hj hc => ho7.block j hj (by omega)⟩ fun b h1 h2 => by omega)
          clear ho7
          clear HT4 c0 c1 c2 c3 c4 c5 c6 c7 c8 fr
          have HF15 := Lib.hid (HF14.out.put 2 rfl (by refine ⟨?_, ?_, ?_, ?_, ?_, trivial⟩ <;> (simp only [Fq.apart]; first | omega | (intro b h1 h2; omega) | (intro b h1 h2 h3; omega))) (.int .i64 x.1.k) (.int .i64 x.1.i) (.int .i64 x.1.g) (.string x.1.nm) (.string x.1.fn) (.int .i64 x.1.ar) (.slice ai x.2.1.len ci) (.string x.1.bs) (.int .i64 x.1.n))
          clear HF14
          clear x8
          cases h3 : pMust [93] x.2.2 with
          | none =>
            have HRS := Lib.hid (show res = none from by rw [← hres, h3]; rfl)
            have H3 := Lib.hid h3
            clear h3 hres
            refine (mustN R _ _ ⟨#[93]⟩ _ (HF15.out.blk 2 rfl) H3.out).mono ?_
            rintro e w9 ⟨rfl, ⟨l9, d9, hr⟩, ho⟩
            have HZ := Lib.hid (HF15.out.call 2 ho hr (by refine ⟨?_, ?_, ?_, ?_, ?_, trivial⟩ <;> (simp only [Fq.apart]; first | omega | (intro b h1 h2; omega) | (intro b h1 h2 h3; omega))))
            clear ho hr
            go_wp2_with fail
            exact ⟨rfl, TermPost.bad (HRS.out) ⟨rfl, ⟨_, _, (HZ.out.blk 0 rfl)⟩, (HZ.out.base 5 rfl)⟩⟩
          | some s2 =>
            have HRS := Lib.hid (show res = some (kF 9, z.1.app (.cons x.1 x.2.1 .nil), s2) from by rw [← hres, h3]; rfl)
            have H3 := Lib.hid h3
            clear h3 hres
            refine (mustY R _ s2 _ ⟨#[93]⟩ _ (HF15.out.blk 2 rfl) H3.out).mono ?_
            rintro e w5 ⟨rfl, hr, ho⟩
            have HF16 := Lib.hid (HF15.out.call 2 ho hr (by refine ⟨?_, ?_, ?_, ?_, ?_, trivial⟩ <;> (simp only [Fq.apart]; first | omega | (intro b h1 h2; omega) | (intro b h1 h2 h3; omega))))
            have hz5 : w4.heap.size ≤ w5.heap.size := by have := ho.size; first | omega | (simp at this; omega)
            have HT5 := Lib.hid (HT7.out.ch ho fun b h1 h2 => by omega)
            clear HT7
            clear HF15 ho hr 
            have HQ := Lib.hid (show Bq w5 [.blk R #[.string (ba (s2)), .int .i64 (d : Int)] 56, .base (fun b => b = R) w, .blk (w.heap.size) #[.int .i64 0, .int .i64 0, .int .i64 0, .string ⟨#[]⟩, .string ⟨#[]⟩, .int .i64 0, .slice none 0 0, .string ⟨#[]⟩, .int .i64 0] 24] from ⟨(HF16.out.get 0 rfl), (HF16.out.base 5 rfl), (HF16.out.get 4 rfl), trivial⟩)
            obtain ⟨c0, c1, c2, c3, c4, c5, c6, c7, c8, -⟩ := nine_cells (HF16.out.blk 1 rfl)
            obtain ⟨xs, hown, hkids⟩ := (HT5.out.alloc (.cells #[.int .i64 x.1.k, .int .i64 x.1.i, .int .i64 x.1.g, .string x.1.nm, .string x.1.fn, .int .i64 x.1.ar, .slice ai x.2.1.len ci, .string x.1.bs, .int .i64 x.1.n] 24 (0, 0))).toT
            have HKI := Lib.hid hkids
            clear hkids
            have HKN := Lib.hid (show RdXS (w5.alloc (.cells #[.int .i64 x.1.k, .int .i64 x.1.i, .int .i64 x.1.g, .string x.1.nm, .string x.1.fn, .int .i64 x.1.ar, .slice ai x.2.1.len ci, .string x.1.bs, .int .i64 x.1.n] 24 (0, 0))) (Kids A v (w5.alloc (.cells #[.int .i64 x.1.k, .int .i64 x.1.i, .int .i64 x.1.g, .string x.1.nm, .string x.1.fn, .int .i64 x.1.ar, .slice ai x.2.1.len ci, .string x.1.bs, .int .i64 x.1.n] 24 (0, 0)))) x.2.1 (.slice ai x.2.1.len ci) from kids_old HV.out (HF16.out.rd 2 rfl).1 (HF16.out.rd 2 rfl).2 (by omega) (.cells #[.int .i64 x.1.k, .int .i64 x.1.i, .int .i64 x.1.g, .string x.1.nm, .string x.1.fn, .int .i64 x.1.ar, .slice ai x.2.1.len ci, .string x.1.bs, .int .i64 x.1.n] 24 (0, 0)))
            go_wp2_with (at_builtin; refine wpList_app rfl (.tmp 20) (.tmp 22) rfl A (by rw [World.size_alloc]; omega) _ z.1.len xs rfl hown w5.heap.size [.int .i64 x.1.k, .int .i64 x.1.i, .int .i64 x.1.g, .string x.1.nm, .string x.1.fn, .int .i64 x.1.ar, .slice ai x.2.1.len ci, .string x.1.bs, .int .i64 x.1.n] rfl (heap_alloc_new _ _) rfl (cells_one x.1 _ _ _) (by omega) ?_)
            intro v' w8 hown' hgrow hnew
            have HT8 := Lib.hid (OwnT.app (f := x.1) HKI.out HKN.out hown' hgrow (by rw [World.size_alloc]; exact hnew))
            have HW8 := Lib.hid ((HQ.out.alloc (.cells #[.int .i64 x.1.k, .int .i64 x.1.i, .int .i64 x.1.g, .string x.1.nm, .string x.1.fn, .int .i64 x.1.ar, .slice ai x.2.1.len ci, .string x.1.bs, .int .i64 x.1.n] 24 (0, 0))).move (Ch.grown hgrow (C := fun k => A ≤ k) fun k hk => (hown.lt k hk).1) (by refine ⟨?_, ?_, ?_, trivial⟩ <;> (simp only [Fq.apart]; first | omega | (intro b h1 h2; omega) | (intro b h1 h2 h3; omega))))
            have hz8 : w5.heap.size ≤ w8.heap.size := by have := hgrow.size; rw [World.size_alloc] at this; omega
            clear hown hown' hgrow hnew HKI HKN HT5 c0 c1 c2 c3 c4 c5 c6 c7 c8
            obtain ⟨ao, ca, rfl⟩ := HT8.out.rds.slice
            obtain ⟨d0, d1, d2, d3, d4, d5, d6, d7, d8, fs⟩ := nine_cells (HW8.out.blk 2 rfl)
            go_wp2_with fail
            have HF17 := Lib.hid (HW8.out.put 2 rfl (by refine ⟨?_, ?_, trivial⟩ <;> (simp only [Fq.apart]; first | omega | (intro b h1 h2; omega) | (intro b h1 h2 h3; omega))) (.int .i64 9) (.int .i64 0) (.int .i64 0) (.string ⟨#[]⟩) (.string ⟨#[]⟩) (.int .i64 0) (.slice ao (z.1.app (.cons x.1 x.2.1 .nil)).len ca) (.string ⟨#[]⟩) (.int .i64 0))
            clear HW8
            have ho9 := outs_nine w8 w.heap.size (.int .i64 9) (.int .i64 0) (.int .i64 0) (.string ⟨#[]⟩) (.string ⟨#[]⟩) (.int .i64 0) (.slice ao (z.1.app (.cons x.1 x.2.1 .nil)).len ca) (.string ⟨#[]⟩) (.int .i64 0)
            have HT9 := Lib.hid (HT8.out.ch (C := fun b => b = w.heap.size) ⟨ho9.os, ho9.tape, ho9.output, ho9.size, fun j hj hc => ho9.block j hj (by omega)⟩ fun b h1 h2 => by omega)
            clear ho9
            refine bodyPost_ret (results_one rfl _ _ _ _ _ _ _ _ _ _ _ _ rfl (HF17.out.blk 0 rfl)) rfl ?_
            exact TermPost.res (x := (kF 9, z.1.app (.cons x.1 x.2.1 .nil), s2)) (HRS.out) ⟨ao, ca, rfl, HT9.out.rds.less (by omega), (HF17.out.blk 1 rfl), (HF17.out.base 2 rfl)⟩
end Go.Proofs.YtgfodedmcjkmaaaDoor
