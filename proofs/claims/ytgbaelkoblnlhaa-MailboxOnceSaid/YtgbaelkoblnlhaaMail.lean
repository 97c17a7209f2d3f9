/-
  The mailbox in memory: a box, a chain of cells, the terms' items. No program in sight. Walks: the small functions of the mailbox. Terms in new memory, in blocks of a set. Walks: the exported functions of the mailbox.
-/
import Derived.Test.YtgbaelkoblnlhaaBook
import Derived.Deep.RegionHeld3
import Derived.Maps.AppendAt
namespace Go.Proofs.Ytgbaelkoblnlhaa
open Go.RowKit
/-- all blocks outside a set are as they were -/
structure OutsS (S : Nat → Prop) (w w' : World) : Prop where
  os : w'.os = w.os
  tape : w'.tape = w.tape
  output : w'.output = w.output
  size : w.heap.size ≤ w'.heap.size
  block : ∀ k, k < w.heap.size → ¬ S k → w'.heap[k]? = w.heap[k]?
theorem OutsS.of_below {S : Nat → Prop} {w w' : World} (h : Below w.heap.size w w') : OutsS S w w' := ⟨h.os, h.tape, h.output, h.size, fun k hk _ => h.block k hk⟩
theorem OutsS.refl (S : Nat → Prop) (w : World) : OutsS S w w := OutsS.of_below (Below.refl _ _)
theorem OutsS.set {S : Nat → Prop} (w : World) {L : Nat} (k : Nat) (u : Value) (hL : S L) : OutsS S w (w.setCell ⟨L, k, none⟩ u) := by
  have h := (Below.refl L w).setCell (p := ⟨L, k, none⟩) (Nat.le_refl _) u
  refine ⟨h.os, h.tape, h.output, h.size, fun j hj hne => ?_⟩
  exact Below.heap_setCell _ _ _ _ (by show j ≠ L; intro e; subst e; exact hne hL)
theorem OutsS.trans {S : Nat → Prop} {a b c : World} (h : OutsS S a b) (k : OutsS S b c) : OutsS S a c :=
  ⟨k.os.trans h.os, k.tape.trans h.tape, k.output.trans h.output, Nat.le_trans h.size k.size, fun i hi ho => (k.block i (Nat.lt_of_lt_of_le hi h.size) ho).trans (h.block i hi ho)⟩
theorem OutsS.mono {S S' : Nat → Prop} {a b : World} (h : OutsS S a b) (hS : ∀ k, k < a.heap.size → S k → S' k) : OutsS S' a b :=
  ⟨h.os, h.tape, h.output, h.size, fun i hi ho => h.block i hi fun hs => ho (hS i hi hs)⟩
theorem OutsS.below {S : Nat → Prop} {N : Nat} {w0 a b : World} (h : OutsS S a b) (hN : N ≤ a.heap.size) (hS : ∀ k, S k → N ≤ k) (hb : Below N w0 a) : Below N w0 b :=
  hb.trans ⟨h.os, h.tape, h.output, h.size, fun k hk => h.block k (by omega) fun hs => by have := hS k hs; omega⟩
theorem OutsS.put {S : Nat → Prop} {a w : World} (h : OutsS S a w) {L : Nat} (hL : S L) (k : Nat) (u : Value) : OutsS S a (w.setCell ⟨L, k, none⟩ u) := h.trans (OutsS.set w k u hL)
theorem OutsS.al {S : Nat → Prop} {a w : World} (h : OutsS S a w) (o : Obj) : OutsS S a (w.alloc o) := h.trans (OutsS.of_below (below_alloc w o))
theorem six_set {w : World} {B : Nat} {a0 a1 a2 a3 a4 a5 : Value} {t : TypeId} (h : w.heap[B]? = some (.cells #[a0, a1, a2, a3, a4, a5] t (0, 0))) (u : Value) :
    (w.setCell ⟨B, 1, none⟩ u).heap[B]? = some (.cells #[a0, u, a2, a3, a4, a5] t (0, 0)) ∧ (w.setCell ⟨B, 2, none⟩ u).heap[B]? = some (.cells #[a0, a1, u, a3, a4, a5] t (0, 0)) ∧ (w.setCell ⟨B, 3, none⟩ u).heap[B]? = some (.cells #[a0, a1, a2, u, a4, a5] t (0, 0)) ∧
      (w.setCell ⟨B, 4, none⟩ u).heap[B]? = some (.cells #[a0, a1, a2, a3, u, a5] t (0, 0)) ∧ (w.setCell ⟨B, 5, none⟩ u).heap[B]? = some (.cells #[a0, a1, a2, a3, a4, u] t (0, 0)) :=
  ⟨blk_set (c := [a0, a1, a2, a3, a4, a5]) h 1 u, blk_set (c := [a0, a1, a2, a3, a4, a5]) h 2 u, blk_set (c := [a0, a1, a2, a3, a4, a5]) h 3 u, blk_set (c := [a0, a1, a2, a3, a4, a5]) h 4 u, blk_set (c := [a0, a1, a2, a3, a4, a5]) h 5 u⟩
theorem new2_1' {w : World} {o p : Obj} {c : Nat} (h : w.heap.size + 1 = c) : ((w.alloc o).alloc p).heap[c]? = some p := h ▸ new2_1 w o p
theorem heap_al2 {w : World} {o p : Obj} {k : Nat} (h : k < w.heap.size) : ((w.alloc o).alloc p).heap[k]? = w.heap[k]? := by
  rw [Below.heap_alloc _ _ _ (by simp; omega), Below.heap_alloc _ _ _ h]
theorem drew_blk {w : World} {B : Nat} {o : Option Obj} (h : w.heap[B]? = o) : w.drew.heap[B]? = o := h
theorem OutsS.new {S : Nat → Prop} {a w : World} (h : OutsS S a w) {L : Nat} (hL : a.heap.size ≤ L) (k : Nat) (u : Value) : OutsS S a (w.setCell ⟨L, k, none⟩ u) := by
  have h2 := (Below.refl L w).setCell (p := ⟨L, k, none⟩) (Nat.le_refl _) u
  exact ⟨h2.os.trans h.os, h2.tape.trans h.tape, h2.output.trans h.output, Nat.le_trans h.size h2.size, fun j hj hn => (h2.block j (by omega)).trans (h.block j hj hn)⟩
theorem drew_heap (w : World) (k : Nat) : w.drew.heap[k]? = w.heap[k]? := rfl
theorem OutsS.dr {S : Nat → Prop} {a w : World} (h : OutsS S a w) : OutsS S a w.drew := ⟨h.os, h.tape, h.output, h.size, h.block⟩
theorem own_slice {w : World} {base e size : Nat} {v : Value} {n : Nat} {xs : List Value} (h : w.ownsRow base e size v n xs) : ∃ ao cap, v = .slice ao n cap := by
  obtain ⟨_, ⟨e, h0⟩ | ⟨g, cap, cur, e, _⟩⟩ := h
  · exact ⟨none, 0, by rw [e, h0]⟩
  · exact ⟨_, _, e⟩
def pt : Option Nat → Value
  | none => .pointer none
  | some b => .pointer (some ⟨b, 0, none⟩)
/-- the cell before the position, or none -/
def seenP (bs : List Nat) : Nat → Option Nat
  | 0 => none
  | k + 1 => bs[k]?
/-- a chain of cells -/
def Chn (w : World) (T : Nat → Prop) : TL → List Nat → Prop
  | .nil, bs => bs = []
  | .cons f it r, bs => ∃ b br ai ci, bs = b :: br ∧ w.heap[b]? = some (.cells #[.int .i64 f.k, .int .i64 f.i, .int .i64 f.g, .string f.nm, .string f.fn, .int .i64 f.ar, .slice ai it.len ci, .string f.bs, .int .i64 f.n, pt br.head?] 88 (0, 0)) ∧ RdXS w T it (.slice ai it.len ci) ∧ Chn w T r br
structure Mb (w : World) (S : Nat → Prop) (B : Nat) (l : TL) (p : Nat) (bs : List Nat) : Prop where
  box : w.heap[B]? = some (.cells #[.bool true, pt bs.head?, pt bs.getLast?, pt (seenP bs p), .int .i64 l.len, .int .i64 p] 78 (0, 0))
  len : bs.length = l.len
  pos : p ≤ l.len
  nod : (B :: bs).Nodup
  inS : ∀ b, b ∈ B :: bs → S b
  lt : ∀ b, S b → b < w.heap.size
  chn : Chn w (fun b => S b ∧ b ∉ B :: bs) l bs
theorem Chn.len {w : World} {T : Nat → Prop} : ∀ {l : TL} {bs : List Nat}, Chn w T l bs → bs.length = l.len
  | .nil, _, h => by rw [show _ = [] from h]; rfl
  | .cons f it r, _, ⟨b, br, _, _, e, _, _, hr⟩ => by rw [e, List.length_cons, Chn.len hr]; rfl
theorem Chn.keep {w w' : World} {T T' : Nat → Prop} (hT : ∀ b, T b → T' b) (hk : ∀ b, T b → w'.heap[b]? = w.heap[b]?) : ∀ {l : TL} {bs : List Nat}, (∀ b, b ∈ bs → w'.heap[b]? = w.heap[b]?) → Chn w T l bs → Chn w' T' l bs
  | .nil, _, _, h => h
  | .cons f it r, _, hb, ⟨b, br, ai, ci, e, h1, h2, hr⟩ => by
    subst e
    exact ⟨b, br, ai, ci, rfl, (hb b (List.mem_cons_self ..)).trans h1, h2.keep2 hT fun b' o hs => cell_eq (hk b' hs) o, Chn.keep hT hk (fun b' h => hb b' (List.mem_cons_of_mem _ h)) hr⟩
/-- the k-th cell -/
theorem Chn.at_ {w : World} {T : Nat → Prop} : ∀ {l : TL} {bs : List Nat} (k : Nat) {f : Fd} {it r : TL}, Chn w T l bs → l.drop k = .cons f it r →
    ∃ b ai ci, bs[k]? = some b ∧ w.heap[b]? = some (.cells #[.int .i64 f.k, .int .i64 f.i, .int .i64 f.g, .string f.nm, .string f.fn, .int .i64 f.ar, .slice ai it.len ci, .string f.bs, .int .i64 f.n, pt bs[k + 1]?] 88 (0, 0)) ∧ RdXS w T it (.slice ai it.len ci)
  | .nil, _, 0, _, _, _, _, h => by simp [TL.drop] at h
  | .nil, _, _ + 1, _, _, _, _, h => by simp [TL.drop] at h
  | .cons f' it' r', _, 0, f, it, r, ⟨b, br, ai, ci, e, h1, h2, _⟩, h => by
    rw [TL.drop] at h
    injection h with e1 e2 e3
    subst e1 e2 e
    refine ⟨b, ai, ci, rfl, ?_, h2⟩
    rw [h1]
    cases br <;> rfl
  | .cons f' it' r', _, k + 1, f, it, r, ⟨b, br, ai, ci, e, _, _, hr⟩, h => by
    subst e
    obtain ⟨b', ai', ci', h1, h2, h3⟩ := Chn.at_ k hr h
    exact ⟨b', ai', ci', h1, h2, h3⟩
def TL.del (l : TL) (p : Nat) : TL := (l.take p).app (l.drop (p + 1))
theorem TL.del_zero (f : Fd) (it r : TL) : (TL.cons f it r).del 0 = r := by
  rw [TL.del, TL.take_zero, TL.app, TL.drop, TL.drop_zero]
theorem TL.del_succ (f : Fd) (it r : TL) (p : Nat) : (TL.cons f it r).del (p + 1) = .cons f it (r.del p) := rfl
theorem TL.len_del : ∀ (l : TL) (p : Nat), p < l.len → (l.del p).len = l.len - 1
  | .nil, _, h => by simp [TL.len] at h
  | .cons f it r, 0, _ => by rw [TL.del_zero]; rfl
  | .cons f it r, p + 1, h => by
    simp only [TL.len] at h
    rw [TL.del_succ]
    simp only [TL.len]
    rw [TL.len_del r p (by omega)]
    omega
theorem pt_head (bs : List Nat) : bs.head? = bs[0]? := by cases bs <;> rfl
/-- one cell more at the end -/
theorem Chn.snoc {w w' : World} {T T' : Nat → Prop} {c : Nat} {f : Fd} {it : TL} {ai : Option Addr} {ci : Nat} (hT : ∀ b, T b → T' b) (hk : ∀ b, T b → w'.heap[b]? = w.heap[b]?)
    (hc : w'.heap[c]? = some (.cells #[.int .i64 f.k, .int .i64 f.i, .int .i64 f.g, .string f.nm, .string f.fn, .int .i64 f.ar, .slice ai it.len ci, .string f.bs, .int .i64 f.n, .pointer none] 88 (0, 0))) (hi : RdXS w' T' it (.slice ai it.len ci)) :
    ∀ {l : TL} {bs : List Nat}, bs.Nodup → (∀ b, b ∈ bs → bs.getLast? ≠ some b → w'.heap[b]? = w.heap[b]?) → (∀ b cs, bs.getLast? = some b → w.heap[b]? = some (.cells cs 88 (0, 0)) → w'.heap[b]? = some (.cells (cs.setIfInBounds 9 (pt (some c))) 88 (0, 0))) →
      Chn w T l bs → Chn w' T' (l.app (.cons f it .nil)) (bs ++ [c])
  | .nil, _, _, _, _, h => by
    rw [show _ = [] from h]
    exact ⟨c, [], ai, ci, rfl, hc, hi, rfl⟩
  | .cons f' it' r, _, hn, ho, hl, ⟨b, br, ai', ci', e, h1, h2, hr⟩ => by
    subst e
    cases br with
    | nil =>
      have hr0 : r = .nil := by
        cases r with
        | nil => rfl
        | cons _ _ _ => obtain ⟨_, _, _, _, e, _⟩ := hr; cases e
      subst hr0
      exact ⟨b, [c], ai', ci', rfl, hl b _ rfl h1, h2.keep2 hT fun b' o hs => cell_eq (hk b' hs) o, c, [], ai, ci, rfl, hc, hi, rfl⟩
    | cons b2 br2 =>
      have hg : (b :: b2 :: br2).getLast? = (b2 :: br2).getLast? := by simp [List.getLast?_cons_cons]
      have hbn : b ∉ b2 :: br2 := (List.nodup_cons.1 hn).1
      refine ⟨b, (b2 :: br2) ++ [c], ai', ci', rfl, ?_, h2.keep2 hT fun b' o hs => cell_eq (hk b' hs) o, ?_⟩
      · exact (ho b (List.mem_cons_self ..) (by rw [hg]; intro e; exact hbn (List.mem_of_getLast? e))).trans h1
      · exact Chn.snoc hT hk hc hi (List.nodup_cons.1 hn).2 (fun b' h h3 => ho b' (List.mem_cons_of_mem _ h) (by rw [hg]; exact h3)) (fun b' cs h => hl b' cs (by rw [hg]; exact h)) hr
theorem Mb.nodup {w : World} {S : Nat → Prop} {B : Nat} {l : TL} {p : Nat} {bs : List Nat} (h : Mb w S B l p bs) : bs.Nodup := (List.nodup_cons.1 h.nod).2
theorem Mb.notin {w : World} {S : Nat → Prop} {B : Nat} {l : TL} {p : Nat} {bs : List Nat} (h : Mb w S B l p bs) : B ∉ bs := (List.nodup_cons.1 h.nod).1
theorem Mb.ltc {w : World} {S : Nat → Prop} {B : Nat} {l : TL} {p : Nat} {bs : List Nat} (h : Mb w S B l p bs) {k b : Nat} (hk : bs[k]? = some b) : b < w.heap.size := h.lt b (h.inS b (List.mem_cons_of_mem _ (List.mem_of_getElem? hk)))
theorem Mb.ltB {w : World} {S : Nat → Prop} {B : Nat} {l : TL} {p : Nat} {bs : List Nat} (h : Mb w S B l p bs) : B < w.heap.size := h.lt B (h.inS B (List.mem_cons_self ..))
theorem Mb.ne {w : World} {S : Nat → Prop} {B : Nat} {l : TL} {p : Nat} {bs : List Nat} (h : Mb w S B l p bs) {k b : Nat} (hk : bs[k]? = some b) : b ≠ B := fun e => h.notin (e ▸ List.mem_of_getElem? hk)
theorem Mb.keep {w w' : World} {S : Nat → Prop} {B : Nat} {l : TL} {p : Nat} {bs : List Nat} (h : Mb w S B l p bs) (hz : w.heap.size ≤ w'.heap.size) (hk : ∀ b, S b → w'.heap[b]? = w.heap[b]?) : Mb w' S B l p bs :=
  ⟨(hk B (h.inS B (List.mem_cons_self ..))).trans h.box, h.len, h.pos, h.nod, h.inS, fun b hb => Nat.lt_of_lt_of_le (h.lt b hb) hz, Chn.keep (fun _ h => h) (fun b hb => hk b hb.1) (fun b hb => hk b (h.inS b (List.mem_cons_of_mem _ hb))) h.chn⟩
theorem Mb.mono {w : World} {S S' : Nat → Prop} {B : Nat} {l : TL} {p : Nat} {bs : List Nat} (h : Mb w S B l p bs) (hS : ∀ b, S b → S' b) (hl : ∀ b, S' b → b < w.heap.size) : Mb w S' B l p bs :=
  ⟨h.box, h.len, h.pos, h.nod, fun b hb => hS b (h.inS b hb), hl, Chn.keep (fun b hb => ⟨hS b hb.1, hb.2⟩) (fun _ _ => rfl) (fun _ _ => rfl) h.chn⟩
theorem Mb.below {w w' : World} {S : Nat → Prop} {B : Nat} {l : TL} {p : Nat} {bs : List Nat} (h : Mb w S B l p bs) (hb : Below w.heap.size w w') : Mb w' S B l p bs := h.keep hb.size fun b hs => hb.block b (h.lt b hs)
theorem seenP_snoc (bs : List Nat) (c : Nat) : ∀ p, p ≤ bs.length → seenP (bs ++ [c]) p = seenP bs p
  | 0, _ => rfl
  | k + 1, h => List.getElem?_append_left (by omega)
theorem Mb.added {w w' : World} {S T : Nat → Prop} {B : Nat} {l : TL} {p : Nat} {bs : List Nat} {f : Fd} {it : TL} {ai : Option Addr} {ci : Nat} (hM : Mb w S B l p bs) (c : Nat) (hcw : w.heap.size ≤ c) (hcz : c < w'.heap.size)
    (hbox : w'.heap[B]? = some (.cells #[.bool true, pt (bs ++ [c]).head?, pt (some c), pt (seenP bs p), .int .i64 ((l.len + 1 : Nat) : Int), .int .i64 p] 78 (0, 0)))
    (hc : w'.heap[c]? = some (.cells #[.int .i64 f.k, .int .i64 f.i, .int .i64 f.g, .string f.nm, .string f.fn, .int .i64 f.ar, .slice ai it.len ci, .string f.bs, .int .i64 f.n, .pointer none] 88 (0, 0)))
    (hl : ∀ b cs, bs.getLast? = some b → w.heap[b]? = some (.cells cs 88 (0, 0)) → w'.heap[b]? = some (.cells (cs.setIfInBounds 9 (pt (some c))) 88 (0, 0)))
    (ho : ∀ k, k < w.heap.size → k ≠ B → bs.getLast? ≠ some k → w'.heap[k]? = w.heap[k]?) (hT : ∀ b, T b → b < w.heap.size ∧ ¬ S b) (hi : RdXS w T it (.slice ai it.len ci)) :
    Mb w' (fun b => S b ∨ T b ∨ (w.heap.size ≤ b ∧ b < w'.heap.size)) B (l.app (.cons f it .nil)) p (bs ++ [c]) := by
  have hlast : ∀ k, bs.getLast? = some k → k ∈ bs := fun k h => List.mem_of_getLast? h
  have hcn : c ∉ B :: bs := fun h => by have := hM.lt c (hM.inS c h); omega
  have hll : (l.app (.cons f it .nil)).len = l.len + 1 := by rw [TL.len_app]; rfl
  refine ⟨?_, ?_, ?_, ?_, ?_, ?_, ?_⟩
  · rw [hbox, hll, seenP_snoc bs c p (by rw [hM.len]; exact hM.pos), List.getLast?_concat]
  · rw [hll, List.length_append, hM.len]; rfl
  · rw [hll]; have := hM.pos; omega
  · have h1 := hM.nod
    rw [List.nodup_cons] at h1 ⊢
    refine ⟨?_, ?_⟩
    · rw [List.mem_append]
      rintro (h | h)
      · exact h1.1 h
      · simp at h; subst h; exact hcn (List.mem_cons_self ..)
    · rw [List.nodup_append]
      refine ⟨h1.2, by simp, fun a ha b hb => ?_⟩
      simp at hb
      subst hb
      exact fun e => hcn (List.mem_cons_of_mem _ (e ▸ ha))
  · intro b hb
    rw [List.mem_cons, List.mem_append] at hb
    rcases hb with rfl | hb | hb
    · exact .inl (hM.inS _ (List.mem_cons_self ..))
    · exact .inl (hM.inS _ (List.mem_cons_of_mem _ hb))
    · simp at hb; subst hb; exact .inr (.inr ⟨hcw, hcz⟩)
  · intro b hb
    rcases hb with hb | hb | hb
    · have := hM.lt b hb; omega
    · have := (hT b hb).1; omega
    · exact hb.2
  · have hmem : ∀ b, b ∈ B :: (bs ++ [c]) → b ∈ B :: bs ∨ b = c := fun b hb => by
      rw [List.mem_cons, List.mem_append] at hb
      rcases hb with rfl | hb | hb
      · exact .inl (List.mem_cons_self ..)
      · exact .inl (List.mem_cons_of_mem _ hb)
      · simp at hb; exact .inr hb
    refine Chn.snoc (T := fun b => S b ∧ b ∉ B :: bs) ?_ ?_ hc ?_ hM.nodup ?_ hl hM.chn
    · rintro b ⟨h1, h2⟩
      refine ⟨.inl h1, fun h => ?_⟩
      rcases hmem b h with h | h
      · exact h2 h
      · have := hM.lt b h1; omega
    · rintro b ⟨h1, h2⟩
      exact ho b (hM.lt b h1) (fun e => h2 (e ▸ List.mem_cons_self ..)) fun e => h2 (List.mem_cons_of_mem _ (hlast b e))
    · refine hi.keep2 (fun b hb => ⟨.inr (.inl hb), fun h => ?_⟩) fun b o hb => ?_
      · rcases hmem b h with h | h
        · exact (hT b hb).2 (hM.inS b h)
        · have := (hT b hb).1; omega
      · refine cell_eq (ho b (hT b hb).1 (fun e => ?_) fun e => ?_) o
        · subst e; exact (hT _ hb).2 (hM.inS _ (List.mem_cons_self ..))
        · exact (hT b hb).2 (hM.inS b (List.mem_cons_of_mem _ (hlast b e)))
    · intro b hb hne
      exact ho b (hM.lt b (hM.inS b (List.mem_cons_of_mem _ hb))) (fun e => hM.notin (e ▸ hb)) hne
theorem Mb.moved {w w' : World} {S : Nat → Prop} {B : Nat} {l : TL} {p q : Nat} {bs : List Nat} (hM : Mb w S B l p bs) (hz : w'.heap.size = w.heap.size) (hq : q ≤ l.len)
    (hbox : w'.heap[B]? = some (.cells #[.bool true, pt bs.head?, pt bs.getLast?, pt (seenP bs q), .int .i64 l.len, .int .i64 q] 78 (0, 0))) (ho : ∀ k, k ≠ B → w'.heap[k]? = w.heap[k]?) : Mb w' S B l q bs :=
  ⟨hbox, hM.len, hq, hM.nod, hM.inS, fun b hb => by rw [hz]; exact hM.lt b hb, Chn.keep (fun _ h => h) (fun b hb => ho b fun e => hb.2 (e ▸ List.mem_cons_self ..)) (fun b hb => ho b fun e => hM.notin (e ▸ hb)) hM.chn⟩
/-- one cell less -/
theorem Chn.del {w w' : World} {T T' : Nat → Prop} (hT : ∀ b, T b → T' b) (hk : ∀ b, T b → w'.heap[b]? = w.heap[b]?) :
    ∀ {l : TL} {bs : List Nat} (p : Nat), p < l.len → (∀ k b, bs[k]? = some b → k + 1 ≠ p → w'.heap[b]? = w.heap[b]?) →
      (∀ k b cs, k + 1 = p → bs[k]? = some b → w.heap[b]? = some (.cells cs 88 (0, 0)) → w'.heap[b]? = some (.cells (cs.setIfInBounds 9 (pt bs[p + 1]?)) 88 (0, 0))) →
      Chn w T l bs → Chn w' T' (l.del p) (bs.eraseIdx p)
  | .nil, _, _, h, _, _, _ => by simp [TL.len] at h
  | .cons f it r, _, 0, _, ho, _, ⟨b, br, ai, ci, e, h1, h2, hr⟩ => by
    subst e
    rw [TL.del_zero]
    refine Chn.keep hT hk (fun b' h => ?_) hr
    obtain ⟨k, hk'⟩ := List.mem_iff_getElem?.1 h
    exact ho (k + 1) b' hk' (by omega)
  | .cons f it r, _, p + 1, h, ho, hp, ⟨b, br, ai, ci, e, h1, h2, hr⟩ => by
    subst e
    rw [TL.del_succ]
    have hlen := hr.len
    simp only [TL.len] at h
    refine ⟨b, br.eraseIdx p, ai, ci, rfl, ?_, h2.keep2 hT fun b' o hs => cell_eq (hk b' hs) o, ?_⟩
    · cases p with
      | zero =>
        refine (hp 0 b _ rfl rfl h1).trans ?_
        cases br with
        | nil => rfl
        | cons b2 br2 => cases br2 <;> rfl
      | succ q =>
        rw [ho 0 b rfl (by omega), h1]
        cases br with
        | nil => rfl
        | cons b2 br2 => rfl
    · exact Chn.del hT hk p (by omega) (fun k b' hb hne => ho (k + 1) b' hb (by omega)) (fun k b' cs hkp hb hc => hp (k + 1) b' cs (by omega) hb hc) hr
theorem nodup_inj {bs : List Nat} (h : bs.Nodup) {i j b : Nat} (hi : bs[i]? = some b) (hj : bs[j]? = some b) : i = j := by
  induction bs generalizing i j with
  | nil => simp at hi
  | cons a br ih =>
    obtain ⟨h1, h2⟩ := List.nodup_cons.1 h
    cases i with
    | zero =>
      cases j with
      | zero => rfl
      | succ j =>
        simp only [List.getElem?_cons_zero, Option.some.injEq] at hi
        subst hi
        exact absurd (show a ∈ br from List.mem_of_getElem? (by simpa using hj)) h1
    | succ i =>
      cases j with
      | zero =>
        simp only [List.getElem?_cons_zero, Option.some.injEq] at hj
        subst hj
        exact absurd (show a ∈ br from List.mem_of_getElem? (by simpa using hi)) h1
      | succ j => rw [ih h2 hi hj]
theorem erase_head : ∀ (bs : List Nat) (p : Nat), (bs.eraseIdx p).head? = if p = 0 then bs[1]? else bs.head?
  | [], 0 => rfl
  | [], _ + 1 => rfl
  | [_], 0 => rfl
  | _ :: _ :: _, 0 => rfl
  | _ :: _, _ + 1 => rfl
theorem erase_last : ∀ (bs : List Nat) (p : Nat), p < bs.length → (bs.eraseIdx p).getLast? = if bs[p + 1]? = none then seenP bs p else bs.getLast?
  | [], _, h => by simp at h
  | [_], 0, _ => rfl
  | _ :: b :: br, 0, _ => by simp [List.getLast?_cons_cons]
  | a :: br, p + 1, h => by
    have hp : p < br.length := by simpa using h
    have ih := erase_last br p hp
    rw [List.eraseIdx_cons_succ, List.getElem?_cons_succ]
    have hg : ∀ x : List Nat, x ≠ [] → (a :: x).getLast? = x.getLast? := fun x hx => by
      cases x with
      | nil => exact absurd rfl hx
      | cons _ _ => simp [List.getLast?_cons_cons]
    have hb0 : br ≠ [] := fun e => by subst e; simp at hp
    by_cases he : br.eraseIdx p = []
    · have hl1 : br.length = 1 := by
        have := congrArg List.length he
        rw [List.length_eraseIdx_of_lt hp] at this
        simp at this
        omega
      have hp0 : p = 0 := by omega
      subst hp0
      rw [he, if_pos (List.getElem?_eq_none (by omega))]
      rfl
    · rw [hg _ he, ih]
      cases p with
      | zero =>
        by_cases hn : br[0 + 1]? = none
        · exfalso
          have := List.getElem?_eq_none_iff.1 hn
          apply he
          apply List.eq_nil_of_length_eq_zero
          rw [List.length_eraseIdx_of_lt hp]
          omega
        · rw [if_neg hn, if_neg hn, hg _ hb0]
      | succ q => rw [hg _ hb0]; rfl
theorem Mb.dropped {w w' : World} {S : Nat → Prop} {B : Nat} {l : TL} {p : Nat} {bs : List Nat} (hM : Mb w S B l p bs) (hp : p < l.len) (hz : w'.heap.size = w.heap.size)
    (hbox : w'.heap[B]? = some (.cells #[.bool true, pt (if p = 0 then bs[1]? else bs.head?), pt (if bs[p + 1]? = none then seenP bs p else bs.getLast?), .pointer none, .int .i64 ((l.len - 1 : Nat) : Int), .int .i64 0] 78 (0, 0)))
    (ho : ∀ k, k ≠ B → (∀ j, j + 1 = p → bs[j]? ≠ some k) → w'.heap[k]? = w.heap[k]?)
    (hl : ∀ k b cs, k + 1 = p → bs[k]? = some b → w.heap[b]? = some (.cells cs 88 (0, 0)) → w'.heap[b]? = some (.cells (cs.setIfInBounds 9 (pt bs[p + 1]?)) 88 (0, 0))) :
    Mb w' S B (l.del p) 0 (bs.eraseIdx p) := by
  have hpb : p < bs.length := by rw [hM.len]; exact hp
  have hsub : ∀ b, b ∈ B :: bs.eraseIdx p → b ∈ B :: bs := fun b hb => by
    rw [List.mem_cons] at hb ⊢
    exact hb.imp id fun h => List.mem_of_mem_eraseIdx h
  have hnd := hM.nodup
  refine ⟨?_, ?_, Nat.zero_le _, ?_, fun b hb => hM.inS b (hsub b hb), fun b hb => by rw [hz]; exact hM.lt b hb, ?_⟩
  · rw [hbox, erase_head, erase_last _ _ hpb, TL.len_del _ _ hp]
    rfl
  · rw [List.length_eraseIdx_of_lt hpb, TL.len_del _ _ hp, hM.len]
  · rw [List.nodup_cons]
    exact ⟨fun h => hM.notin (List.mem_of_mem_eraseIdx h), hnd.sublist (List.eraseIdx_sublist bs p)⟩
  · refine Chn.del (T := fun b => S b ∧ b ∉ B :: bs) (fun b hb => ⟨hb.1, fun h => hb.2 (hsub b h)⟩) ?_ p hp ?_ hl hM.chn
    · rintro b ⟨h1, h2⟩
      exact ho b (fun e => h2 (e ▸ List.mem_cons_self ..)) fun j _ e => h2 (List.mem_cons_of_mem _ (List.mem_of_getElem? e))
    · intro k b hb hne
      refine ho b (hM.ne hb) fun j hj e => hne ?_
      have := nodup_inj hnd hb e
      omega
end Go.Proofs.Ytgbaelkoblnlhaa
namespace Go.Proofs.Ytgbaelkoblnlhaa
open Go.RowKit
theorem New_any (w : World) : Calls Try.prog 58 #[] w fun e w' => e = .returned (.pointer (some ⟨w.heap.size, 0, none⟩)) ∧ Mb w' (fun b => b = w.heap.size) w.heap.size .nil 0 [] ∧ Below w.heap.size w w' ∧ w'.heap.size = w.heap.size + 1 := by
  go_enter Try.func58, Try.ntmps58
  go_wp2_with fail
  go_ret
  refine ⟨rfl, ⟨heap_alloc_new _ _, rfl, Nat.le_refl _, by simp, by simp, by simp, rfl⟩, below_alloc _ _, by simp⟩
theorem none_no (B : Nat) (w : World) (c0 : w.cell? ⟨B, 0, none⟩ = some (.bool true)) : Calls Try.prog 83 #[.pointer (some ⟨B, 0, none⟩)] w fun e w' => e = .returned (.bool false) ∧ w = w' := by
  go_enter Try.func83, Try.ntmps83
  go_wp2_with fail
  go_ret
  exact ⟨rfl, rfl⟩
theorem none_bad (B : Nat) (w : World) (c0 : w.cell? ⟨B, 0, none⟩ = some (.bool false)) : Calls Try.prog 83 #[.pointer (some ⟨B, 0, none⟩)] w fun e w' => e = .returned (.bool true) ∧ w = w' := by
  go_enter Try.func83, Try.ntmps83
  go_wp2_with fail
  go_ret
  exact ⟨rfl, rfl⟩
theorem none_nil (w : World) : Calls Try.prog 83 #[.pointer none] w fun e w' => e = .returned (.bool true) ∧ w = w' := by
  go_enter Try.func83, Try.ntmps83
  go_wp2_with fail
  go_ret
  exact ⟨rfl, rfl⟩
/-- the element at the position -/
theorem here_any {S : Nat → Prop} {B : Nat} {l : TL} {p : Nat} {bs : List Nat} {w : World} (hM : Mb w S B l p bs) : Calls Try.prog 85 #[.pointer (some ⟨B, 1, none⟩)] w fun e w' => e = .returned (pt bs[p]?) ∧ w = w' := by
  have d1 := cells_of hM.box 1
  have d3 := cells_of hM.box 3
  simp only [List.getElem?_toArray, List.getElem?_cons_succ, List.getElem?_cons_zero] at d1 d3
  cases p with
  | zero =>
    rw [pt_head] at d1
    clear hM
    generalize pt bs[0]? = x at *
    simp only [seenP, pt] at d3
    go_enter Try.func85, Try.ntmps85
    go_wp2_with fail
    go_ret
    exact ⟨rfl, rfl⟩
  | succ k =>
    have hk : k < l.len := hM.pos
    obtain ⟨f, it, hd⟩ := l.drop_at k hk
    obtain ⟨b, ai, ci, hb, hh, -⟩ := hM.chn.at_ k hd
    have e9 := cells_of hh 9
    simp only [List.getElem?_toArray, List.getElem?_cons_succ, List.getElem?_cons_zero] at e9
    simp only [seenP, hb, pt] at d3
    clear hM hh hd d1
    generalize pt bs[k + 1]? = x at *
    go_enter Try.func85, Try.ntmps85
    go_wp2_with fail
    go_ret
    exact ⟨rfl, rfl⟩
theorem rewind_any {S : Nat → Prop} {B : Nat} {l : TL} {p : Nat} {bs : List Nat} {w : World} (hM : Mb w S B l p bs) : Calls Try.prog 90 #[.pointer (some ⟨B, 1, none⟩)] w fun e w' => e = .returned (.tuple #[]) ∧ Mb w' S B l 0 bs ∧ OutsS S w w' ∧ w'.heap.size = w.heap.size := by
  have HM := Lib.hid hM
  have hS := hM.inS B (List.mem_cons_self ..)
  have HS := Lib.hid hS
  have d3 := cells_of hM.box 3
  have d5 := cells_of hM.box 5
  simp only [List.getElem?_toArray, List.getElem?_cons_succ, List.getElem?_cons_zero] at d3 d5
  have fz : ∀ k, w.frozen? ⟨B, k, none⟩ = false := fun k => frees_of hM.box k
  clear hM hS
  go_enter Try.func90, Try.ntmps90
  go_wp2_with fail
  refine bodyPost_end (results_none rfl _ _ _) rfl ⟨rfl, HM.out.moved ?_ (Nat.zero_le _) ?_ fun k hk => ?_, ?_, ?_⟩
  · simp [World.setCell]
  · exact blk_set (c := [_, _, _, _, _, _]) (blk_set (c := [_, _, _, _, _, _]) HM.out.box 3 _) 5 _
  · rw [Below.heap_setCell _ _ _ _ (by exact hk), Below.heap_setCell _ _ _ _ (by exact hk)]
  · exact (OutsS.set _ _ _ HS.out).trans (OutsS.set _ _ _ HS.out)
  · simp [World.setCell]
theorem rewind_raw {B : Nat} {w : World} {a0 a1 a2 a3 a4 a5 : Value} (h : w.heap[B]? = some (.cells #[a0, a1, a2, a3, a4, a5] 78 (0, 0))) : Calls Try.prog 90 #[.pointer (some ⟨B, 1, none⟩)] w fun e w' => e = .returned (.tuple #[]) ∧ (w.setCell ⟨B, 3, none⟩ (.pointer none)).setCell ⟨B, 5, none⟩ (.int .i64 0) = w' := by
  have d3 := cells_of h 3
  have d5 := cells_of h 5
  simp only [List.getElem?_toArray, List.getElem?_cons_succ, List.getElem?_cons_zero] at d3 d5
  have fz : ∀ k, w.frozen? ⟨B, k, none⟩ = false := fun k => frees_of h k
  clear h
  go_enter Try.func90, Try.ntmps90
  go_wp2_with fail
  exact bodyPost_end (results_none rfl _ _ _) rfl ⟨rfl, rfl⟩
theorem skip_no {S : Nat → Prop} {B : Nat} {l : TL} {bs : List Nat} {w : World} (hM : Mb w S B l l.len bs) : Calls Try.prog 88 #[.pointer (some ⟨B, 1, none⟩)] w fun e w' => e = .returned (.bool false) ∧ w = w' := by
  have HC := Lib.hid (here_any hM)
  have e : bs[l.len]? = none := List.getElem?_eq_none (by rw [hM.len]; exact Nat.le_refl _)
  rw [e] at HC
  simp only [pt] at HC
  clear hM e
  go_enter Try.func88, Try.ntmps88
  go_wp2_with fail
  refine HC.out.mono ?_
  rintro e w1 ⟨rfl, rfl⟩
  go_wp2_with fail
  go_ret
  exact ⟨rfl, rfl⟩
theorem skip_yes {S : Nat → Prop} {B : Nat} {l : TL} {p : Nat} {bs : List Nat} {w : World} (hM : Mb w S B l p bs) (hp : p < l.len) (hb : l.len ≤ 1000000000) : Calls Try.prog 88 #[.pointer (some ⟨B, 1, none⟩)] w fun e w' => e = .returned (.bool true) ∧ Mb w' S B l (p + 1) bs ∧ OutsS S w w' ∧ w'.heap.size = w.heap.size := by
  have HM := Lib.hid hM
  have HS := Lib.hid (hM.inS B (List.mem_cons_self ..))
  have HC := Lib.hid (here_any hM)
  obtain ⟨b, hbp⟩ : ∃ b, bs[p]? = some b := ⟨_, List.getElem?_eq_getElem (by rw [hM.len]; exact hp)⟩
  rw [hbp] at HC
  simp only [pt] at HC
  have HB := Lib.hid hbp
  have HP := Lib.hid hp
  have d3 := cells_of hM.box 3
  have d5 := cells_of hM.box 5
  simp only [List.getElem?_toArray, List.getElem?_cons_succ, List.getElem?_cons_zero] at d3 d5
  have fz : ∀ k, w.frozen? ⟨B, k, none⟩ = false := fun k => frees_of hM.box k
  have hpi : (p : Int) ≤ 1000000000 := by omega
  clear hM hbp hp hb
  go_enter Try.func88, Try.ntmps88
  go_wp2_with fail
  refine HC.out.mono ?_
  rintro e w1 ⟨rfl, rfl⟩
  go_wp2_with fail
  go_ret
  refine ⟨rfl, HM.out.moved ?_ HP.out ?_ fun k hk => ?_, ?_, ?_⟩
  · simp [World.setCell]
  · rw [show seenP bs (p + 1) = some b from HB.out]
    exact blk_set (c := [_, _, _, _, _, _]) (blk_set (c := [_, _, _, _, _, _]) HM.out.box 3 _) 5 _
  · rw [Below.heap_setCell _ _ _ _ (by exact hk), Below.heap_setCell _ _ _ _ (by exact hk)]
  · exact (OutsS.set _ _ _ HS.out).trans (OutsS.set _ _ _ HS.out)
  · simp [World.setCell]
set_option maxHeartbeats 1000000 in
theorem add_any {S T : Nat → Prop} {B : Nat} {l : TL} {p : Nat} {bs : List Nat} {w : World} (hM : Mb w S B l p bs) (hb : l.len ≤ 1000000000) (f : Fd) (it : TL) (ai : Option Addr) (ci : Nat) (hT : ∀ b, T b → b < w.heap.size ∧ ¬ S b) (hi : RdXS w T it (.slice ai it.len ci)) :
    Calls Try.prog 84 #[.pointer (some ⟨B, 1, none⟩), .agg #[.int .i64 f.k, .int .i64 f.i, .int .i64 f.g, .string f.nm, .string f.fn, .int .i64 f.ar, .slice ai it.len ci, .string f.bs, .int .i64 f.n]] w fun e w' => e = .returned (.tuple #[]) ∧ (∃ c, Mb w' (fun b => S b ∨ T b ∨ (w.heap.size ≤ b ∧ b < w'.heap.size)) B (l.app (.cons f it .nil)) p (bs ++ [c])) ∧ OutsS S w w' := by
  have HM := Lib.hid hM
  have HS := Lib.hid hM.inS
  have HT := Lib.hid hT
  have HI := Lib.hid hi
  have hBz := hM.ltB
  have d1 := cells_of hM.box 1
  have d2 := cells_of hM.box 2
  have d4 := cells_of hM.box 4
  simp only [List.getElem?_toArray, List.getElem?_cons_succ, List.getElem?_cons_zero] at d1 d2 d4
  have fz : ∀ k, w.frozen? ⟨B, k, none⟩ = false := fun k => frees_of hM.box k
  have hli : (l.len : Int) ≤ 1000000000 := by omega
  have hn0 : ¬ B = w.heap.size := by omega
  have hn1 : ¬ B = w.heap.size + 1 := by omega
  have HCast := Lib.hid (show ((l.len : Int) + 1) = ((l.len + 1 : Nat) : Int) by omega)
  clear hT hi hb
  rcases List.eq_nil_or_concat bs with hbs | ⟨br, b, hbs⟩
  · have hx : bs.getLast? = none := by rw [hbs]; rfl
    rw [hx] at d2
    simp only [pt] at d2
    have HX := Lib.hid hbs
    clear hM hbs hx
    go_enter Try.func84, Try.ntmps84
    go_wp2_with fail
    refine bodyPost_end (results_none rfl _ _ _) rfl ⟨rfl, ⟨w.heap.size + 1, HM.out.added (w.heap.size + 1) (by omega) (by simp [World.setCell]) ?_ ?_ ?_ ?_ HT.out HI.out⟩, ?_⟩
    · rw [HX.out, ← HCast.out]
      have h := HM.out.box
      rw [HX.out] at h
      with_reducible refine (heap_after (heap_after (six_set (six_set (six_set h _).1 _).2.1 _).2.2.2.1 _) _).trans ?_
      rfl
    · with_reducible refine new2_1' ?_
      rw [size_setCell, size_setCell, size_setCell]
    · intro b cs hb
      rw [HX.out] at hb
      cases hb
    · intro k hk hkB _
      rw [heap_al2 (by rw [size_setCell, size_setCell, size_setCell]; exact hk), Below.heap_setCell _ _ _ _ (by exact hkB), Below.heap_setCell _ _ _ _ (by exact hkB), Below.heap_setCell _ _ _ _ (by exact hkB)]
    · have hSB := (HS.out B (List.mem_cons_self ..))
      with_reducible refine OutsS.al (OutsS.al ?_ _) _
      repeat (with_reducible refine OutsS.put ?_ (by exact hSB) _ _)
      exact OutsS.refl S w
  · have hx : bs.getLast? = some b := by rw [hbs, List.concat_eq_append]; exact List.getLast?_concat ..
    rw [hx] at d2
    simp only [pt] at d2
    have HX := Lib.hid hx
    have hbk : bs[br.length]? = some b := by rw [hbs]; simp
    have hbz := hM.ltc hbk
    have hbne := hM.ne hbk
    have hbne2 : ¬ B = b := fun e => hbne e.symm
    obtain ⟨f', it', hd⟩ := l.drop_at br.length (by rw [← hM.len, hbs]; simp)
    obtain ⟨b', ai', ci', hb', hh, -⟩ := hM.chn.at_ br.length hd
    obtain rfl : b' = b := by rw [hbk] at hb'; exact (Option.some.inj hb').symm
    have HBs := Lib.hid hbs
    have e9 := cells_of hh 9
    simp only [List.getElem?_toArray, List.getElem?_cons_succ, List.getElem?_cons_zero] at e9
    have fe : ∀ k, w.frozen? ⟨b', k, none⟩ = false := fun k => frees_of hh k
    have hm0 : ¬ b' = w.heap.size := by omega
    have hm1 : ¬ b' = w.heap.size + 1 := by omega
    clear hM hbs hx hb' hh hd hbk
    go_enter Try.func84, Try.ntmps84
    go_wp2_with fail
    refine bodyPost_end (results_none rfl _ _ _) rfl ⟨rfl, ⟨w.heap.size + 1, HM.out.added (w.heap.size + 1) (by omega) (by simp [World.setCell]) ?_ ?_ ?_ ?_ HT.out HI.out⟩, ?_⟩
    · rw [← HCast.out]
      have h := HM.out.box
      have e : (bs ++ [w.heap.size + 1]).head? = bs.head? := by rw [HBs.out]; cases br <;> rfl
      rw [e]
      with_reducible refine (heap_after (heap_after (six_set (six_set (blk_oth h hbne2 _ _) _).2.1 _).2.2.2.1 _) _).trans ?_
      rfl
    · with_reducible refine new2_1' ?_
      rw [size_setCell, size_setCell, size_setCell]
    · intro b2 cs hb h2
      rw [HX.out] at hb
      obtain rfl := Option.some.inj hb
      with_reducible refine (heap_after (heap_after (blk_oth (blk_oth (block_setCell h2 9 _) hbne _ _) hbne _ _) _) _).trans ?_
      rfl
    · intro k hk hkB hkl
      rw [HX.out] at hkl
      have hkb : k ≠ b' := fun e => hkl (by rw [e])
      rw [heap_al2 (by rw [size_setCell, size_setCell, size_setCell]; exact hk), Below.heap_setCell _ _ _ _ (by exact hkB), Below.heap_setCell _ _ _ _ (by exact hkB), Below.heap_setCell _ _ _ _ (by exact hkb)]
    · have hSB := (HS.out B (List.mem_cons_self ..))
      have hSL := (HS.out b' (List.mem_cons_of_mem _ (List.mem_of_getLast? HX.out)))
      with_reducible refine OutsS.al (OutsS.al ?_ _) _
      with_reducible refine OutsS.put ?_ hSB _ _
      with_reducible refine OutsS.put ?_ hSB _ _
      with_reducible refine OutsS.put ?_ hSL _ _
      exact OutsS.refl S w
set_option maxRecDepth 100000 in
set_option maxHeartbeats 1000000 in
theorem drop_0m {S : Nat → Prop} {B : Nat} {l : TL} {bs : List Nat} {w : World} {n : Nat} (hM : Mb w S B l 0 bs) (hp : 0 < l.len) (hb : l.len ≤ 1000000000) (hn : bs[0 + 1]? = some n) : Calls Try.prog 87 #[.pointer (some ⟨B, 1, none⟩)] w fun e w' => e = .returned (.tuple #[]) ∧ Mb w' S B (l.del 0) 0 (bs.eraseIdx 0) ∧ OutsS S w w' ∧ w'.heap.size = w.heap.size := by
  have HM := Lib.hid hM
  have HSB := Lib.hid (hM.inS B (List.mem_cons_self ..))
  have HC := Lib.hid (here_any hM)
  have HP := Lib.hid hp
  have HN := Lib.hid hn
  obtain ⟨f, it, hd⟩ := l.drop_at 0 hp
  obtain ⟨c, ai, ci, hc, hh, -⟩ := hM.chn.at_ 0 hd
  rw [hc] at HC
  rw [hn] at hh
  simp only [pt] at HC hh
  have e9 := cells_of hh 9
  simp only [List.getElem?_toArray, List.getElem?_cons_succ, List.getElem?_cons_zero] at e9
  have hcne := hM.ne hc
  have hcne2 : ¬ B = c := fun e => hcne e.symm
  have d0 := cells_of hM.box 0
  have d1 := cells_of hM.box 1
  have d2 := cells_of hM.box 2
  have d3 := cells_of hM.box 3
  have d4 := cells_of hM.box 4
  have d5 := cells_of hM.box 5
  simp only [List.getElem?_toArray, List.getElem?_cons_succ, List.getElem?_cons_zero] at d0 d1 d2 d3 d4 d5
  have fz : ∀ k, w.frozen? ⟨B, k, none⟩ = false := fun k => frees_of hM.box k
  have hl1 : (1 : Int) ≤ (l.len : Int) := by omega
  have hl2 : (l.len : Int) ≤ 1000000000 := by omega
  have HCast := Lib.hid (show ((l.len : Int) - 1) = ((l.len - 1 : Nat) : Int) by omega)
  simp only [seenP, pt] at d3
  clear hM hp hb hn hd hh hc
  go_enter Try.func87, Try.ntmps87
  go_wp2_with fail
  refine HC.out.mono ?_
  rintro e w1 ⟨rfl, rfl⟩
  go_wp2_with fail
  with_reducible refine (rewind_raw (six_set (six_set HM.out.box _).1 _).2.2.2.1).mono ?_
  rintro e w2 ⟨rfl, rfl⟩
  go_wp2_with fail
  refine bodyPost_end (results_none rfl _ _ _) rfl ⟨rfl, HM.out.dropped HP.out ?_ ?_ ?_ ?_, ?_, ?_⟩
  · simp [World.setCell]
  · rw [HN.out, ← HCast.out]
    with_reducible refine ((six_set (six_set (six_set (six_set HM.out.box _).1 _).2.2.2.1 _).2.2.1 _).2.2.2.2.trans ?_)
    rfl
  · intro j hj hjp
    rw [Below.heap_setCell _ _ _ _ (by exact hj), Below.heap_setCell _ _ _ _ (by exact hj), Below.heap_setCell _ _ _ _ (by exact hj), Below.heap_setCell _ _ _ _ (by exact hj)]
  · intro j b cs hj hb h2
    omega
  · skip
    with_reducible refine OutsS.put ?_ HSB.out _ _
    with_reducible refine OutsS.put ?_ HSB.out _ _
    with_reducible refine OutsS.put ?_ HSB.out _ _
    with_reducible refine OutsS.put ?_ HSB.out _ _
    exact OutsS.refl S w
  · simp [World.setCell]
set_option maxRecDepth 100000 in
set_option maxHeartbeats 1000000 in
theorem drop_0e {S : Nat → Prop} {B : Nat} {l : TL} {bs : List Nat} {w : World} (hM : Mb w S B l 0 bs) (hp : 0 < l.len) (hb : l.len ≤ 1000000000) (hn : bs[0 + 1]? = none) : Calls Try.prog 87 #[.pointer (some ⟨B, 1, none⟩)] w fun e w' => e = .returned (.tuple #[]) ∧ Mb w' S B (l.del 0) 0 (bs.eraseIdx 0) ∧ OutsS S w w' ∧ w'.heap.size = w.heap.size := by
  have HM := Lib.hid hM
  have HSB := Lib.hid (hM.inS B (List.mem_cons_self ..))
  have HC := Lib.hid (here_any hM)
  have HP := Lib.hid hp
  have HN := Lib.hid hn
  obtain ⟨f, it, hd⟩ := l.drop_at 0 hp
  obtain ⟨c, ai, ci, hc, hh, -⟩ := hM.chn.at_ 0 hd
  rw [hc] at HC
  rw [hn] at hh
  simp only [pt] at HC hh
  have e9 := cells_of hh 9
  simp only [List.getElem?_toArray, List.getElem?_cons_succ, List.getElem?_cons_zero] at e9
  have hcne := hM.ne hc
  have hcne2 : ¬ B = c := fun e => hcne e.symm
  have d0 := cells_of hM.box 0
  have d1 := cells_of hM.box 1
  have d2 := cells_of hM.box 2
  have d3 := cells_of hM.box 3
  have d4 := cells_of hM.box 4
  have d5 := cells_of hM.box 5
  simp only [List.getElem?_toArray, List.getElem?_cons_succ, List.getElem?_cons_zero] at d0 d1 d2 d3 d4 d5
  have fz : ∀ k, w.frozen? ⟨B, k, none⟩ = false := fun k => frees_of hM.box k
  have hl1 : (1 : Int) ≤ (l.len : Int) := by omega
  have hl2 : (l.len : Int) ≤ 1000000000 := by omega
  have HCast := Lib.hid (show ((l.len : Int) - 1) = ((l.len - 1 : Nat) : Int) by omega)
  simp only [seenP, pt] at d3
  clear hM hp hb hn hd hh hc
  go_enter Try.func87, Try.ntmps87
  go_wp2_with fail
  refine HC.out.mono ?_
  rintro e w1 ⟨rfl, rfl⟩
  go_wp2_with fail
  with_reducible refine (rewind_raw (six_set (six_set (six_set HM.out.box _).1 _).2.1 _).2.2.2.1).mono ?_
  rintro e w2 ⟨rfl, rfl⟩
  go_wp2_with fail
  refine bodyPost_end (results_none rfl _ _ _) rfl ⟨rfl, HM.out.dropped HP.out ?_ ?_ ?_ ?_, ?_, ?_⟩
  · simp [World.setCell]
  · rw [HN.out, ← HCast.out]
    with_reducible refine ((six_set (six_set (six_set (six_set (six_set HM.out.box _).1 _).2.1 _).2.2.2.1 _).2.2.1 _).2.2.2.2.trans ?_)
    rfl
  · intro j hj hjp
    rw [Below.heap_setCell _ _ _ _ (by exact hj), Below.heap_setCell _ _ _ _ (by exact hj), Below.heap_setCell _ _ _ _ (by exact hj), Below.heap_setCell _ _ _ _ (by exact hj), Below.heap_setCell _ _ _ _ (by exact hj)]
  · intro j b cs hj hb h2
    omega
  · skip
    with_reducible refine OutsS.put ?_ HSB.out _ _
    with_reducible refine OutsS.put ?_ HSB.out _ _
    with_reducible refine OutsS.put ?_ HSB.out _ _
    with_reducible refine OutsS.put ?_ HSB.out _ _
    with_reducible refine OutsS.put ?_ HSB.out _ _
    exact OutsS.refl S w
  · simp [World.setCell]
set_option maxRecDepth 100000 in
set_option maxHeartbeats 1000000 in
theorem drop_sm {S : Nat → Prop} {B : Nat} {l : TL} {bs : List Nat} {w : World} {k a : Nat} {n : Nat} (hM : Mb w S B l (k + 1) bs) (hp : (k + 1) < l.len) (hb : l.len ≤ 1000000000) (ha : bs[k]? = some a) (hn : bs[(k + 1) + 1]? = some n) : Calls Try.prog 87 #[.pointer (some ⟨B, 1, none⟩)] w fun e w' => e = .returned (.tuple #[]) ∧ Mb w' S B (l.del (k + 1)) 0 (bs.eraseIdx (k + 1)) ∧ OutsS S w w' ∧ w'.heap.size = w.heap.size := by
  have HM := Lib.hid hM
  have HSB := Lib.hid (hM.inS B (List.mem_cons_self ..))
  have HC := Lib.hid (here_any hM)
  have HP := Lib.hid hp
  have HN := Lib.hid hn
  obtain ⟨f, it, hd⟩ := l.drop_at (k + 1) hp
  obtain ⟨c, ai, ci, hc, hh, -⟩ := hM.chn.at_ (k + 1) hd
  rw [hc] at HC
  rw [hn] at hh
  simp only [pt] at HC hh
  have e9 := cells_of hh 9
  simp only [List.getElem?_toArray, List.getElem?_cons_succ, List.getElem?_cons_zero] at e9
  have hcne := hM.ne hc
  have hcne2 : ¬ B = c := fun e => hcne e.symm
  have d0 := cells_of hM.box 0
  have d1 := cells_of hM.box 1
  have d2 := cells_of hM.box 2
  have d3 := cells_of hM.box 3
  have d4 := cells_of hM.box 4
  have d5 := cells_of hM.box 5
  simp only [List.getElem?_toArray, List.getElem?_cons_succ, List.getElem?_cons_zero] at d0 d1 d2 d3 d4 d5
  have fz : ∀ k, w.frozen? ⟨B, k, none⟩ = false := fun k => frees_of hM.box k
  have hl1 : (1 : Int) ≤ (l.len : Int) := by omega
  have hl2 : (l.len : Int) ≤ 1000000000 := by omega
  have HCast := Lib.hid (show ((l.len : Int) - 1) = ((l.len - 1 : Nat) : Int) by omega)
  simp only [seenP, ha, pt] at d3
  obtain ⟨f2, it2, hd2⟩ := l.drop_at k (by omega)
  obtain ⟨a', ai2, ci2, ha', hq, -⟩ := hM.chn.at_ k hd2
  obtain rfl : a' = a := by rw [ha] at ha'; exact (Option.some.inj ha').symm
  have hane := hM.ne ha
  have hane2 : ¬ B = a' := fun e => hane e.symm
  have hac : ¬ a' = c := fun e => by have := nodup_inj hM.nodup ha (e ▸ hc); omega
  have hca : ¬ c = a' := fun e => hac e.symm
  have g9 := cells_of hq 9
  simp only [List.getElem?_toArray, List.getElem?_cons_succ, List.getElem?_cons_zero] at g9
  rw [hc] at g9
  simp only [pt] at g9
  have fa : ∀ k, w.frozen? ⟨a', k, none⟩ = false := fun k => frees_of hq k
  have HA := Lib.hid ha
  have HSA := Lib.hid (hM.inS a' (List.mem_cons_of_mem _ (List.mem_of_getElem? ha)))
  clear ha ha' hq hd2
  clear hM hp hb hn hd hh hc
  go_enter Try.func87, Try.ntmps87
  go_wp2_with fail
  refine HC.out.mono ?_
  rintro e w1 ⟨rfl, rfl⟩
  go_upto_region 3 with (fail)
  go_still_tail 10, (by kernel_rfl)
  go_wp2_with fail
  with_reducible refine (rewind_raw (drew_blk (six_set (blk_oth HM.out.box hane2 _ _) _).2.2.2.1)).mono ?_
  rintro e w2 ⟨rfl, rfl⟩
  go_wp2_with fail
  refine bodyPost_end (results_none rfl _ _ _) rfl ⟨rfl, HM.out.dropped HP.out ?_ ?_ ?_ ?_, ?_, ?_⟩
  · simp [World.setCell]
  · rw [HN.out, ← HCast.out]
    with_reducible refine drew_blk ((six_set (six_set (six_set (blk_oth HM.out.box hane2 _ _) _).2.2.2.1 _).2.2.1 _).2.2.2.2.trans ?_)
    rfl
  · intro j hj hjp
    have hja : j ≠ a' := fun e => hjp k rfl (by rw [e]; exact HA.out)
    rw [drew_heap]
    rw [Below.heap_setCell _ _ _ _ (by exact hj), Below.heap_setCell _ _ _ _ (by exact hj), Below.heap_setCell _ _ _ _ (by exact hj), Below.heap_setCell _ _ _ _ (by exact hja)]
  · intro j b cs hj hb h2
    obtain rfl : j = k := by omega
    obtain rfl : a' = b := by rw [HA.out] at hb; exact Option.some.inj hb
    rw [HN.out]
    with_reducible refine drew_blk ((blk_oth (blk_oth (blk_oth (block_setCell h2 9 _) hane _ _) hane _ _) hane _ _).trans ?_)
    rfl
  · with_reducible refine OutsS.dr ?_
    with_reducible refine OutsS.put ?_ HSB.out _ _
    with_reducible refine OutsS.put ?_ HSB.out _ _
    with_reducible refine OutsS.put ?_ HSB.out _ _
    with_reducible refine OutsS.put ?_ HSA.out _ _
    exact OutsS.refl S w
  · simp [World.setCell]
set_option maxRecDepth 100000 in
set_option maxHeartbeats 1000000 in
theorem drop_se {S : Nat → Prop} {B : Nat} {l : TL} {bs : List Nat} {w : World} {k a : Nat} (hM : Mb w S B l (k + 1) bs) (hp : (k + 1) < l.len) (hb : l.len ≤ 1000000000) (ha : bs[k]? = some a) (hn : bs[(k + 1) + 1]? = none) : Calls Try.prog 87 #[.pointer (some ⟨B, 1, none⟩)] w fun e w' => e = .returned (.tuple #[]) ∧ Mb w' S B (l.del (k + 1)) 0 (bs.eraseIdx (k + 1)) ∧ OutsS S w w' ∧ w'.heap.size = w.heap.size := by
  have HM := Lib.hid hM
  have HSB := Lib.hid (hM.inS B (List.mem_cons_self ..))
  have HC := Lib.hid (here_any hM)
  have HP := Lib.hid hp
  have HN := Lib.hid hn
  obtain ⟨f, it, hd⟩ := l.drop_at (k + 1) hp
  obtain ⟨c, ai, ci, hc, hh, -⟩ := hM.chn.at_ (k + 1) hd
  rw [hc] at HC
  rw [hn] at hh
  simp only [pt] at HC hh
  have e9 := cells_of hh 9
  simp only [List.getElem?_toArray, List.getElem?_cons_succ, List.getElem?_cons_zero] at e9
  have hcne := hM.ne hc
  have hcne2 : ¬ B = c := fun e => hcne e.symm
  have d0 := cells_of hM.box 0
  have d1 := cells_of hM.box 1
  have d2 := cells_of hM.box 2
  have d3 := cells_of hM.box 3
  have d4 := cells_of hM.box 4
  have d5 := cells_of hM.box 5
  simp only [List.getElem?_toArray, List.getElem?_cons_succ, List.getElem?_cons_zero] at d0 d1 d2 d3 d4 d5
  have fz : ∀ k, w.frozen? ⟨B, k, none⟩ = false := fun k => frees_of hM.box k
  have hl1 : (1 : Int) ≤ (l.len : Int) := by omega
  have hl2 : (l.len : Int) ≤ 1000000000 := by omega
  have HCast := Lib.hid (show ((l.len : Int) - 1) = ((l.len - 1 : Nat) : Int) by omega)
  simp only [seenP, ha, pt] at d3
  obtain ⟨f2, it2, hd2⟩ := l.drop_at k (by omega)
  obtain ⟨a', ai2, ci2, ha', hq, -⟩ := hM.chn.at_ k hd2
  obtain rfl : a' = a := by rw [ha] at ha'; exact (Option.some.inj ha').symm
  have hane := hM.ne ha
  have hane2 : ¬ B = a' := fun e => hane e.symm
  have hac : ¬ a' = c := fun e => by have := nodup_inj hM.nodup ha (e ▸ hc); omega
  have hca : ¬ c = a' := fun e => hac e.symm
  have g9 := cells_of hq 9
  simp only [List.getElem?_toArray, List.getElem?_cons_succ, List.getElem?_cons_zero] at g9
  rw [hc] at g9
  simp only [pt] at g9
  have fa : ∀ k, w.frozen? ⟨a', k, none⟩ = false := fun k => frees_of hq k
  have HA := Lib.hid ha
  have HSA := Lib.hid (hM.inS a' (List.mem_cons_of_mem _ (List.mem_of_getElem? ha)))
  clear ha ha' hq hd2
  clear hM hp hb hn hd hh hc
  go_enter Try.func87, Try.ntmps87
  go_wp2_with fail
  refine HC.out.mono ?_
  rintro e w1 ⟨rfl, rfl⟩
  go_upto_region 3 with (fail)
  go_still_tail 10, (by kernel_rfl)
  go_wp2_with fail
  with_reducible refine (rewind_raw (drew_blk (six_set (six_set (blk_oth HM.out.box hane2 _ _) _).2.1 _).2.2.2.1)).mono ?_
  rintro e w2 ⟨rfl, rfl⟩
  go_wp2_with fail
  refine bodyPost_end (results_none rfl _ _ _) rfl ⟨rfl, HM.out.dropped HP.out ?_ ?_ ?_ ?_, ?_, ?_⟩
  · simp [World.setCell]
  · rw [HN.out, show seenP bs (k + 1) = some a' from HA.out, ← HCast.out]
    with_reducible refine drew_blk ((six_set (six_set (six_set (six_set (blk_oth HM.out.box hane2 _ _) _).2.1 _).2.2.2.1 _).2.2.1 _).2.2.2.2.trans ?_)
    rfl
  · intro j hj hjp
    have hja : j ≠ a' := fun e => hjp k rfl (by rw [e]; exact HA.out)
    rw [drew_heap]
    rw [Below.heap_setCell _ _ _ _ (by exact hj), Below.heap_setCell _ _ _ _ (by exact hj), Below.heap_setCell _ _ _ _ (by exact hj), Below.heap_setCell _ _ _ _ (by exact hj), Below.heap_setCell _ _ _ _ (by exact hja)]
  · intro j b cs hj hb h2
    obtain rfl : j = k := by omega
    obtain rfl : a' = b := by rw [HA.out] at hb; exact Option.some.inj hb
    rw [HN.out]
    with_reducible refine drew_blk ((blk_oth (blk_oth (blk_oth (blk_oth (block_setCell h2 9 _) hane _ _) hane _ _) hane _ _) hane _ _).trans ?_)
    rfl
  · with_reducible refine OutsS.dr ?_
    with_reducible refine OutsS.put ?_ HSB.out _ _
    with_reducible refine OutsS.put ?_ HSB.out _ _
    with_reducible refine OutsS.put ?_ HSB.out _ _
    with_reducible refine OutsS.put ?_ HSB.out _ _
    with_reducible refine OutsS.put ?_ HSA.out _ _
    exact OutsS.refl S w
  · simp [World.setCell]
theorem drop_any {S : Nat → Prop} {B : Nat} {l : TL} {p : Nat} {bs : List Nat} {w : World} (hM : Mb w S B l p bs) (hp : p < l.len) (hb : l.len ≤ 1000000000) : Calls Try.prog 87 #[.pointer (some ⟨B, 1, none⟩)] w fun e w' => e = .returned (.tuple #[]) ∧ Mb w' S B (l.del p) 0 (bs.eraseIdx p) ∧ OutsS S w w' ∧ w'.heap.size = w.heap.size := by
  cases p with
  | zero =>
    cases hn : bs[0 + 1]? with
    | none => exact drop_0e hM hp hb hn
    | some n => exact drop_0m hM hp hb hn
  | succ k =>
    have hk : k < bs.length := by rw [hM.len]; omega
    cases hn : bs[(k + 1) + 1]? with
    | none => exact drop_se hM hp hb (List.getElem?_eq_getElem hk) hn
    | some n => exact drop_sm hM hp hb (List.getElem?_eq_getElem hk) hn
end Go.Proofs.Ytgbaelkoblnlhaa
namespace Go.Proofs.Ytgbaelkoblnlhaa
open Go.RowKit
/-- like NwR, the arrays of the items in blocks of a set -/
def NwX (w : World) (S : Nat → Prop) : TL → List Value → Prop
  | .nil, _ => True
  | .cons f it r, xs => ∃ ao cap rest, xs = f.cells (.slice ao it.len cap) ++ rest ∧ it.len ≤ cap ∧ cap ≤ maxLen ∧
      ((ao = none ∧ cap = 0) ∨ ∃ g cur, ao = some ⟨g, 0, none⟩ ∧ S g ∧ w.heap[g]? = some (.cells cur 24 (0, 0)) ∧ cur.size = cap * 9 ∧ NwX w S it cur.toList) ∧ NwX w S r rest
theorem NwX.keep {w w' : World} {S S' : Nat → Prop} (hS : ∀ b, S b → S' b) (hk : ∀ b, S b → w'.heap[b]? = w.heap[b]?) : ∀ (l : TL) (xs : List Value), NwX w S l xs → NwX w' S' l xs
  | .nil, _, _ => trivial
  | .cons f it r, xs, ⟨ao, cap, rest, e, h1, h2, h3, hr⟩ => by
    refine ⟨ao, cap, rest, e, h1, h2, ?_, NwX.keep hS hk r rest hr⟩
    rcases h3 with h3 | ⟨g, cur, e1, hg, hh, hs, hi⟩
    · exact .inl h3
    · exact .inr ⟨g, cur, e1, hS g hg, (hk g hg).trans hh, hs, NwX.keep hS hk it _ hi⟩
theorem NwX.nwr {w : World} {S : Nat → Prop} {A B : Nat} (hS : ∀ b, S b → A ≤ b ∧ b < B) : ∀ (l : TL) (xs : List Value), NwX w S l xs → NwR w A B l xs
  | .nil, _, _ => trivial
  | .cons f it r, xs, ⟨ao, cap, rest, e, h1, h2, h3, hr⟩ => by
    refine ⟨ao, cap, rest, e, h1, h2, ?_, NwX.nwr hS r rest hr⟩
    rcases h3 with h3 | ⟨g, cur, e1, hg, hh, hs, hi⟩
    · exact .inl h3
    · exact .inr ⟨g, cur, e1, (hS g hg).1, (hS g hg).2, hh, hs, NwX.nwr hS it _ hi⟩
theorem NwR.nwx {w : World} {A B : Nat} : ∀ (l : TL) (xs : List Value), NwR w A B l xs → NwX w (fun b => A ≤ b ∧ b < B) l xs
  | .nil, _, _ => trivial
  | .cons f it r, xs, ⟨ao, cap, rest, e, h1, h2, h3, hr⟩ => by
    refine ⟨ao, cap, rest, e, h1, h2, ?_, NwR.nwx r rest hr⟩
    rcases h3 with h3 | ⟨g, cur, e1, ha, hb, hh, hs, hi⟩
    · exact .inl h3
    · exact .inr ⟨g, cur, e1, ⟨ha, hb⟩, hh, hs, NwR.nwx it _ hi⟩
theorem NwX.app {w : World} {S : Nat → Prop} : ∀ (l m : TL) (xs ys : List Value), NwX w S l xs → xs.length = l.len * 9 → NwX w S m ys → NwX w S (l.app m) (xs ++ ys)
  | .nil, m, xs, ys, _, hl, hm => by
    have : xs = [] := List.eq_nil_of_length_eq_zero (by simpa [TL.len] using hl)
    subst this; exact hm
  | .cons f it r, m, xs, ys, ⟨ao, cap, rest, e, h1, h2, h3, hr⟩, hl, hm => by
    subst e
    rw [List.length_append, cells_len] at hl
    simp only [TL.len] at hl
    exact ⟨ao, cap, rest ++ ys, by rw [List.append_assoc], h1, h2, h3, NwX.app r m rest ys hr (by omega) hm⟩
theorem NwX.single {w : World} {A B : Nat} {f : Fd} {it : TL} {iv : Value} (h : NwS w A B it iv) : NwX w (fun b => A ≤ b ∧ b < B) (.cons f it .nil) (f.cells iv) := by
  have h2 : NwR w A B (.cons f it .nil) (f.cells iv ++ []) := NwR.cons h trivial
  rw [List.append_nil] at h2
  exact NwR.nwx _ _ h2
end Go.Proofs.Ytgbaelkoblnlhaa
namespace Go.Proofs.Ytgbaelkoblnlhaa
open Go.RowKit
def MbS (w : World) (S : Nat → Prop) (B : Nat) (l : TL) (p : Nat) : Prop := ∃ bs, Mb w S B l p bs
theorem MbS.below {w w' : World} {S : Nat → Prop} {B : Nat} {l : TL} {p : Nat} (h : MbS w S B l p) (hb : Below w.heap.size w w') : MbS w' S B l p := h.imp fun _ h => h.below hb
theorem MbS.keep {w w' : World} {S : Nat → Prop} {B : Nat} {l : TL} {p : Nat} (h : MbS w S B l p) (hz : w.heap.size ≤ w'.heap.size) (hk : ∀ b, S b → w'.heap[b]? = w.heap[b]?) : MbS w' S B l p := h.imp fun _ h => h.keep hz hk
theorem MbS.lt {w : World} {S : Nat → Prop} {B : Nat} {l : TL} {p : Nat} (h : MbS w S B l p) : ∀ b, S b → b < w.heap.size := h.elim fun _ h => h.lt
theorem MbS.pos {w : World} {S : Nat → Prop} {B : Nat} {l : TL} {p : Nat} (h : MbS w S B l p) : p ≤ l.len := h.elim fun _ h => h.pos
theorem MbS.inB {w : World} {S : Nat → Prop} {B : Nat} {l : TL} {p : Nat} (h : MbS w S B l p) : S B := h.elim fun _ h => h.inS B (List.mem_cons_self ..)
theorem At_any {S : Nat → Prop} {B : Nat} {l : TL} {p : Nat} {w : World} (hM : MbS w S B l p) : Calls Try.prog 67 #[.pointer (some ⟨B, 0, none⟩)] w fun e w' => e = .returned (.int .i64 p) ∧ w = w' := by
  obtain ⟨bs, hm⟩ := hM
  have d0 := cells_of hm.box 0
  have d5 := cells_of hm.box 5
  simp only [List.getElem?_toArray, List.getElem?_cons_succ, List.getElem?_cons_zero] at d0 d5
  have HN := Lib.hid (none_no B w d0)
  clear hm
  go_enter Try.func67, Try.ntmps67
  go_wp2_with fail
  refine HN.out.mono ?_
  rintro e w1 ⟨rfl, rfl⟩
  go_wp2_with fail
  go_ret
  exact ⟨rfl, rfl⟩
theorem Len_any {S : Nat → Prop} {B : Nat} {l : TL} {p : Nat} {w : World} (hM : MbS w S B l p) : Calls Try.prog 71 #[.pointer (some ⟨B, 0, none⟩)] w fun e w' => e = .returned (.int .i64 l.len) ∧ w = w' := by
  obtain ⟨bs, hm⟩ := hM
  have d0 := cells_of hm.box 0
  have d4 := cells_of hm.box 4
  simp only [List.getElem?_toArray, List.getElem?_cons_succ, List.getElem?_cons_zero] at d0 d4
  have HN := Lib.hid (none_no B w d0)
  clear hm
  go_enter Try.func71, Try.ntmps71
  go_wp2_with fail
  refine HN.out.mono ?_
  rintro e w1 ⟨rfl, rfl⟩
  go_wp2_with fail
  go_ret
  exact ⟨rfl, rfl⟩
theorem Rewind_any {S : Nat → Prop} {B : Nat} {l : TL} {p : Nat} {w : World} (hM : MbS w S B l p) : Calls Try.prog 70 #[.pointer (some ⟨B, 0, none⟩)] w fun e w' => e = .returned (.tuple #[]) ∧ MbS w' S B l 0 ∧ OutsS S w w' := by
  obtain ⟨bs, hm⟩ := hM
  have d0 := cells_of hm.box 0
  simp only [List.getElem?_toArray, List.getElem?_cons_zero] at d0
  have HN := Lib.hid (none_no B w d0)
  have HR := Lib.hid (rewind_any hm)
  clear hm
  go_enter Try.func70, Try.ntmps70
  go_wp2_with fail
  refine HN.out.mono ?_
  rintro e w1 ⟨rfl, rfl⟩
  go_wp2_with fail
  refine HR.out.mono ?_
  rintro e w1 ⟨rfl, h1, h2, -⟩
  have H1 := Lib.hid h1
  have H2 := Lib.hid h2
  clear h1 h2
  go_wp2_with fail
  exact bodyPost_end (results_none rfl _ _ _) rfl ⟨rfl, ⟨_, H1.out⟩, H2.out⟩
theorem Skip_no {S : Nat → Prop} {B : Nat} {l : TL} {w : World} (hM : MbS w S B l l.len) : Calls Try.prog 66 #[.pointer (some ⟨B, 0, none⟩)] w fun e w' => e = .returned (.bool false) ∧ w = w' := by
  obtain ⟨bs, hm⟩ := hM
  have d0 := cells_of hm.box 0
  simp only [List.getElem?_toArray, List.getElem?_cons_zero] at d0
  have HN := Lib.hid (none_no B w d0)
  have HR := Lib.hid (skip_no hm)
  clear hm
  go_enter Try.func66, Try.ntmps66
  go_wp2_with fail
  refine HN.out.mono ?_
  rintro e w1 ⟨rfl, rfl⟩
  go_wp2_with fail
  refine HR.out.mono ?_
  rintro e w1 ⟨rfl, rfl⟩
  go_wp2_with fail
  go_ret
  exact ⟨rfl, rfl⟩
theorem Skip_yes {S : Nat → Prop} {B : Nat} {l : TL} {p : Nat} {w : World} (hM : MbS w S B l p) (hp : p < l.len) (hb : l.len ≤ 1000000000) : Calls Try.prog 66 #[.pointer (some ⟨B, 0, none⟩)] w fun e w' => e = .returned (.bool true) ∧ MbS w' S B l (p + 1) ∧ OutsS S w w' := by
  obtain ⟨bs, hm⟩ := hM
  have d0 := cells_of hm.box 0
  simp only [List.getElem?_toArray, List.getElem?_cons_zero] at d0
  have HN := Lib.hid (none_no B w d0)
  have HR := Lib.hid (skip_yes hm hp hb)
  clear hm hp hb
  go_enter Try.func66, Try.ntmps66
  go_wp2_with fail
  refine HN.out.mono ?_
  rintro e w1 ⟨rfl, rfl⟩
  go_wp2_with fail
  refine HR.out.mono ?_
  rintro e w1 ⟨rfl, h1, h2, -⟩
  have H1 := Lib.hid h1
  have H2 := Lib.hid h2
  clear h1 h2
  go_wp2_with fail
  go_ret
  exact ⟨rfl, ⟨_, H1.out⟩, H2.out⟩
set_option maxHeartbeats 1000000 in
theorem Look_no {S : Nat → Prop} {B : Nat} {l : TL} {w : World} (hM : MbS w S B l l.len) : Calls Try.prog 62 #[.pointer (some ⟨B, 0, none⟩)] w fun e w' => e = .returned (.tuple #[.agg #[.int .i64 0, .int .i64 0, .int .i64 0, .string ⟨#[]⟩, .string ⟨#[]⟩, .int .i64 0, .slice none 0 0, .string ⟨#[]⟩, .int .i64 0], .bool false]) ∧ Below w.heap.size w w' := by
  obtain ⟨bs, hm⟩ := hM
  have HMb := Lib.hid hm
  have hBz := hm.ltB
  have d0 := cells_of hm.box 0
  simp only [List.getElem?_toArray, List.getElem?_cons_zero] at d0
  have HN := Lib.hid fun W (hb : Below w.heap.size w W) => none_no B W ((hb.cell (p := ⟨B, 0, none⟩) hBz).trans d0)
  have e : bs[l.len]? = none := List.getElem?_eq_none (by rw [hm.len]; exact Nat.le_refl _)
  have HR := Lib.hid fun W (hb : Below w.heap.size w W) => (here_any (hm.below hb)).mono fun e' w' h => (show e' = .returned (.pointer none) ∧ W = w' from ⟨h.1.trans (by rw [e]; rfl), h.2⟩)
  clear hm e
  go_enter Try.func62, Try.ntmps62
  go_wp2_with fail
  refine (HN.out _ (below_alloc _ _)).mono ?_
  rintro e w1 ⟨rfl, rfl⟩
  go_wp2_with fail
  refine (HR.out _ (below_alloc _ _)).mono ?_
  rintro e w1 ⟨rfl, rfl⟩
  go_wp2_with fail
  exact bodyPost_ret (results_pair rfl _ _ w.heap.size _ _ _ _ _ _ _ _ _ rfl (heap_alloc_new _ _)) rfl ⟨rfl, below_alloc _ _⟩
set_option maxHeartbeats 2000000 in
theorem Look_yes {S : Nat → Prop} {B : Nat} {l : TL} {p : Nat} {w : World} (hM : MbS w S B l p) {f : Fd} {it r : TL} (hd : l.drop p = .cons f it r) (hc : it.cnt ≤ 1000000000) : Calls Try.prog 62 #[.pointer (some ⟨B, 0, none⟩)] w (NewP (.bool true) f it w) := by
  obtain ⟨bs, hm⟩ := hM
  have HMb := Lib.hid hm
  have hBz := hm.ltB
  have HB := Lib.hid (below_alloc w (.cells #[.int .i64 0, .int .i64 0, .int .i64 0, .string ⟨#[]⟩, .string ⟨#[]⟩, .int .i64 0, .slice none 0 0, .string ⟨#[]⟩, .int .i64 0] 24 (0, 0)))
  have d0 := cells_of hm.box 0
  simp only [List.getElem?_toArray, List.getElem?_cons_zero] at d0
  have HN := Lib.hid (none_no B (w.alloc (.cells #[.int .i64 0, .int .i64 0, .int .i64 0, .string ⟨#[]⟩, .string ⟨#[]⟩, .int .i64 0, .slice none 0 0, .string ⟨#[]⟩, .int .i64 0] 24 (0, 0))) ((HB.out.cell (p := ⟨B, 0, none⟩) hBz).trans d0))
  obtain ⟨b, ai, ci, hb, hh, hi⟩ := hm.chn.at_ p hd
  have HR := Lib.hid ((here_any (hm.below HB.out)).mono fun e' w' h => (show e' = .returned (.pointer (some ⟨b, 0, none⟩)) ∧ w.alloc (.cells #[.int .i64 0, .int .i64 0, .int .i64 0, .string ⟨#[]⟩, .string ⟨#[]⟩, .int .i64 0, .slice none 0 0, .string ⟨#[]⟩, .int .i64 0] 24 (0, 0)) = w' from ⟨h.1.trans (by rw [hb]; rfl), h.2⟩))
  have hbz := hm.ltc hb
  have c0 := cells_of hh 0
  have c1 := cells_of hh 1
  have c2 := cells_of hh 2
  have c3 := cells_of hh 3
  have c4 := cells_of hh 4
  have c5 := cells_of hh 5
  have c6 := cells_of hh 6
  have c7 := cells_of hh 7
  have c8 := cells_of hh 8
  simp only [List.getElem?_toArray, List.getElem?_cons_succ, List.getElem?_cons_zero] at c0 c1 c2 c3 c4 c5 c6 c7 c8
  have HC := Lib.hid fun W (hB : Below w.heap.size w W) => (copy_all it.cnt).1 f it (f.val (.slice ai it.len ci)) W 0 w.heap.size (Nat.le_refl _) hc ⟨_, rfl, (hi.rds fun b h => ⟨Nat.zero_le _, hm.lt b h.1⟩).below hB (Nat.le_refl _)⟩ hB.size
  unfold Fd.val Fd.cells at HC
  clear hm hb hh hi hc
  go_enter Try.func62, Try.ntmps62
  go_wp2_with fail
  refine HN.out.mono ?_
  rintro e w1 ⟨rfl, rfl⟩
  go_wp2_with fail
  refine HR.out.mono ?_
  rintro e w1 ⟨rfl, rfl⟩
  go_wp2_with fail
  refine HR.out.mono ?_
  rintro e w1 ⟨rfl, rfl⟩
  go_wp2_with fail
  refine (HC.out _ HB.out).mono ?_
  rintro e w2 ⟨ai2, ci2, rfl, hn, hb2⟩
  have HH := Lib.hid (keepB hb2 (heap_alloc_new w (.cells #[.int .i64 0, .int .i64 0, .int .i64 0, .string ⟨#[]⟩, .string ⟨#[]⟩, .int .i64 0, .slice none 0 0, .string ⟨#[]⟩, .int .i64 0] 24 (0, 0))))
  have HN2 := Lib.hid hn
  have HB2 := Lib.hid (bstep HB.out hb2)
  clear hn hb2
  obtain ⟨g0, g1, g2, g3, g4, g5, g6, g7, g8, fr⟩ := nine_cells HH.out
  go_wp2_with fail
  refine bodyPost_ret (results_pair rfl _ _ w.heap.size _ _ _ _ _ _ _ _ _ rfl (nine_blk HH.out _ _ _ _ _ _ _ _ _)) rfl ⟨_, _, rfl, ?_, ?_⟩
  · refine ((HN2.out.keep fun k hk _ => ?_).wide (by simp) (by simp [World.setCell]))
    simp at hk
    repeat (rw [Below.heap_setCell _ _ _ _ (by simp only []; omega)])
  · repeat (with_reducible refine bset ?_ (by simp) _)
    exact HB2.out
set_option maxHeartbeats 2000000 in
theorem Take_no {S : Nat → Prop} {B : Nat} {l : TL} {w : World} (hM : MbS w S B l l.len) : Calls Try.prog 64 #[.pointer (some ⟨B, 0, none⟩)] w fun e w' => e = .returned (.tuple #[.agg #[.int .i64 0, .int .i64 0, .int .i64 0, .string ⟨#[]⟩, .string ⟨#[]⟩, .int .i64 0, .slice none 0 0, .string ⟨#[]⟩, .int .i64 0], .bool false]) ∧ Below w.heap.size w w' := by
  have HB := Lib.hid (below_alloc w (.cells #[.int .i64 0, .int .i64 0, .int .i64 0, .string ⟨#[]⟩, .string ⟨#[]⟩, .int .i64 0, .slice none 0 0, .string ⟨#[]⟩, .int .i64 0] 24 (0, 0)))
  have HL := Lib.hid (Look_no (hM.below HB.out))
  clear hM
  go_enter Try.func64, Try.ntmps64
  go_wp2_with fail
  refine HL.out.mono ?_
  rintro e w2 ⟨rfl, hb2⟩
  have HH := Lib.hid (keepB hb2 (heap_alloc_new w (.cells #[.int .i64 0, .int .i64 0, .int .i64 0, .string ⟨#[]⟩, .string ⟨#[]⟩, .int .i64 0, .slice none 0 0, .string ⟨#[]⟩, .int .i64 0] 24 (0, 0))))
  have HB2 := Lib.hid (bstep HB.out hb2)
  have hz : w.heap.size < w2.heap.size := by have := hb2.size; simp at this; omega
  clear hb2
  obtain ⟨g0, g1, g2, g3, g4, g5, g6, g7, g8, fr⟩ := nine_cells HH.out
  go_wp2_with fail
  refine bodyPost_ret (results_pair rfl _ _ w.heap.size _ _ _ _ _ _ _ _ _ rfl (heap_after (nine_blk HH.out _ _ _ _ _ _ _ _ _) _)) rfl ⟨rfl, ?_⟩
  refine balloc ?_ _
  repeat (with_reducible refine bset ?_ (by simp) _)
  exact HB2.out
def TakeRet (f : Fd) (it : TL) (S : Nat → Prop) (B : Nat) (l : TL) (p : Nat) (w : World) (e : Ending) (w' : World) : Prop := ∃ ai ci, e = .returned (.tuple #[.agg #[.int .i64 f.k, .int .i64 f.i, .int .i64 f.g, .string f.nm, .string f.fn, .int .i64 f.ar, .slice ai it.len ci, .string f.bs, .int .i64 f.n], .bool true]) ∧ NwS w' w.heap.size w'.heap.size it (.slice ai it.len ci) ∧ MbS w' S B (l.del p) 0 ∧ OutsS S w w'
theorem outs_cell {S : Nat → Prop} {w w' : World} (h : OutsS S w w') {b o : Nat} {v : Value} (hb : b < w.heap.size) (hn : ¬ S b) (hc : w.cell? ⟨b, o, none⟩ = some v) : w'.cell? ⟨b, o, none⟩ = some v := (cell_eq (h.block b hb hn) o).trans hc
set_option maxHeartbeats 2000000 in
theorem Take_yes {S : Nat → Prop} {B : Nat} {l : TL} {p : Nat} {w : World} (hM : MbS w S B l p) {f : Fd} {it r : TL} (hd : l.drop p = .cons f it r) (hp : p < l.len) (hb : l.len ≤ 1000000000) (hc : it.cnt ≤ 1000000000) : Calls Try.prog 64 #[.pointer (some ⟨B, 0, none⟩)] w (TakeRet f it S B l p w) := by
  have HB := Lib.hid (below_alloc w (.cells #[.int .i64 0, .int .i64 0, .int .i64 0, .string ⟨#[]⟩, .string ⟨#[]⟩, .int .i64 0, .slice none 0 0, .string ⟨#[]⟩, .int .i64 0] 24 (0, 0)))
  have HL := Lib.hid (Look_yes (hM.below HB.out) hd hc)
  have HS := Lib.hid hM.lt
  have HP := Lib.hid hp
  obtain ⟨bs, hm⟩ := hM
  have HMb := Lib.hid hm
  have HBd := Lib.hid hb
  clear hm hd hp hb hc
  go_enter Try.func64, Try.ntmps64
  go_wp2_with fail
  refine HL.out.mono ?_
  rintro e w2 ⟨ai, ci, rfl, hn, hb2⟩
  have HH := Lib.hid (heap_after (keepB hb2 (heap_alloc_new w (.cells #[.int .i64 0, .int .i64 0, .int .i64 0, .string ⟨#[]⟩, .string ⟨#[]⟩, .int .i64 0, .slice none 0 0, .string ⟨#[]⟩, .int .i64 0] 24 (0, 0)))) (.cells #[.int .i64 f.k, .int .i64 f.i, .int .i64 f.g, .string f.nm, .string f.fn, .int .i64 f.ar, .slice ai it.len ci, .string f.bs, .int .i64 f.n] 24 (0, 0)))
  have HB2 := Lib.hid (balloc (bstep HB.out hb2) (.cells #[.int .i64 f.k, .int .i64 f.i, .int .i64 f.g, .string f.nm, .string f.fn, .int .i64 f.ar, .slice ai it.len ci, .string f.bs, .int .i64 f.n] 24 (0, 0)))
  have HN2 := Lib.hid (hn.below (below_alloc w2 (.cells #[.int .i64 f.k, .int .i64 f.i, .int .i64 f.g, .string f.nm, .string f.fn, .int .i64 f.ar, .slice ai it.len ci, .string f.bs, .int .i64 f.n] 24 (0, 0))) (Nat.le_refl _))
  have HT := Lib.hid (heap_alloc_new w2 (.cells #[.int .i64 f.k, .int .i64 f.i, .int .i64 f.g, .string f.nm, .string f.fn, .int .i64 f.ar, .slice ai it.len ci, .string f.bs, .int .i64 f.n] 24 (0, 0)))
  have hz : w.heap.size + 1 ≤ w2.heap.size := by have := hb2.size; simp at this; omega
  clear hn hb2
  go_wp2_with fail
  obtain ⟨w3, hw3⟩ : ∃ w3, w3 = w2.alloc (.cells #[.int .i64 f.k, .int .i64 f.i, .int .i64 f.g, .string f.nm, .string f.fn, .int .i64 f.ar, .slice ai it.len ci, .string f.bs, .int .i64 f.n] 24 (0, 0)) := ⟨_, rfl⟩
  have hz3 : w3.heap.size = w2.heap.size + 1 := by rw [hw3]; simp
  rw [← hw3] at HH HB2 HN2 HT ⊢
  clear hw3
  refine (drop_any (HMb.out.below HB2.out) HP.out HBd.out).mono ?_
  rintro e w4 ⟨rfl, hm4, ho4, hz4⟩
  have HH4 := Lib.hid ((ho4.block _ (by omega) (fun h => by have := HS.out _ h; omega)).trans HH.out)
  have HT4 := Lib.hid ((ho4.block _ (by omega) (fun h => by have := HS.out _ h; omega)).trans HT.out)
  have HN4 := Lib.hid (HN2.out.keep fun k h1 h2 => ho4.block k (by omega) (fun h => by have := HS.out _ h; simp at h1; omega))
  have HM4 := Lib.hid hm4
  have HO4 := Lib.hid ((OutsS.of_below (S := S) HB2.out).trans ho4)
  clear hm4 ho4 HH HT HN2 HB2
  obtain ⟨g0, g1, g2, g3, g4, g5, g6, g7, g8, fr⟩ := nine_cells HH4.out
  obtain ⟨t0, t1, t2, t3, t4, t5, t6, t7, t8, -⟩ := nine_cells HT4.out
  go_wp2_with fail
  refine bodyPost_ret (results_pair rfl _ _ w.heap.size _ _ _ _ _ _ _ _ _ rfl (nine_blk HH4.out _ _ _ _ _ _ _ _ _)) rfl ⟨_, _, rfl, ?_, ⟨_, HM4.out.keep ?_ fun k hk => ?_⟩, ?_⟩
  · refine ((HN4.out.keep fun k hk _ => ?_).wide (by simp) (by simp [World.setCell]; omega))
    simp at hk
    repeat (rw [Below.heap_setCell _ _ _ _ (by simp only []; omega)])
  · simp [World.setCell]
  · have hkz := HS.out k hk
    repeat (rw [Below.heap_setCell _ _ _ _ (by simp only []; omega)])
  · repeat (with_reducible refine OutsS.new ?_ (by exact Nat.le_refl _) _ _)
    exact HO4.out
/-- a call of Put that is answered by an errno alone -/
theorem Put_none (f : Fd) (it : TL) (ai : Option Addr) (ci : Nat) (v : Value) (w : World) (hv : v = .pointer none ∨ ∃ B, v = .pointer (some ⟨B, 0, none⟩) ∧ B < w.heap.size ∧ w.cell? ⟨B, 0, none⟩ = some (.bool false)) :
    Calls Try.prog 59 #[v, .agg #[.int .i64 f.k, .int .i64 f.i, .int .i64 f.g, .string f.nm, .string f.fn, .int .i64 f.ar, .slice ai it.len ci, .string f.bs, .int .i64 f.n]] w fun e w' => e = .returned (.int .i64 1) ∧ Below w.heap.size w w' := by
  have HB := Lib.hid (below_alloc w (.cells #[.int .i64 f.k, .int .i64 f.i, .int .i64 f.g, .string f.nm, .string f.fn, .int .i64 f.ar, .slice ai it.len ci, .string f.bs, .int .i64 f.n] 24 (0, 0)))
  rcases hv with rfl | ⟨B, rfl, hB, d0⟩
  · go_enter Try.func59, Try.ntmps59
    go_wp2_with fail
    refine (none_nil _).mono ?_
    rintro e w1 ⟨rfl, rfl⟩
    go_wp2_with fail
    go_ret
    exact ⟨rfl, HB.out⟩
  · have HN := Lib.hid (none_bad B (w.alloc (.cells #[.int .i64 f.k, .int .i64 f.i, .int .i64 f.g, .string f.nm, .string f.fn, .int .i64 f.ar, .slice ai it.len ci, .string f.bs, .int .i64 f.n] 24 (0, 0))) ((HB.out.cell (p := ⟨B, 0, none⟩) hB).trans d0))
    go_enter Try.func59, Try.ntmps59
    go_wp2_with fail
    refine HN.out.mono ?_
    rintro e w1 ⟨rfl, rfl⟩
    go_wp2_with fail
    go_ret
    exact ⟨rfl, HB.out⟩
set_option maxHeartbeats 2000000 in
theorem Put_bad {S : Nat → Prop} {B : Nat} {l : TL} {p : Nat} {w : World} (hM : MbS w S B l p) (f : Fd) (it : TL) (ai : Option Addr) (ci : Nat) (ht : tame f it) (hv : validF f it = false) (hs : RdS w 0 w.heap.size it (.slice ai it.len ci)) :
    Calls Try.prog 59 #[.pointer (some ⟨B, 0, none⟩), .agg #[.int .i64 f.k, .int .i64 f.i, .int .i64 f.g, .string f.nm, .string f.fn, .int .i64 f.ar, .slice ai it.len ci, .string f.bs, .int .i64 f.n]] w fun e w' => e = .returned (.int .i64 2) ∧ Below w.heap.size w w' := by
  have HB := Lib.hid (below_alloc w (.cells #[.int .i64 f.k, .int .i64 f.i, .int .i64 f.g, .string f.nm, .string f.fn, .int .i64 f.ar, .slice ai it.len ci, .string f.bs, .int .i64 f.n] 24 (0, 0)))
  obtain ⟨bs, hm⟩ := hM
  have hBz := hm.ltB
  have d0 := cells_of hm.box 0
  simp only [List.getElem?_toArray, List.getElem?_cons_zero] at d0
  have HN := Lib.hid (none_no B (w.alloc (.cells #[.int .i64 f.k, .int .i64 f.i, .int .i64 f.g, .string f.nm, .string f.fn, .int .i64 f.ar, .slice ai it.len ci, .string f.bs, .int .i64 f.n] 24 (0, 0))) ((HB.out.cell (p := ⟨B, 0, none⟩) hBz).trans d0))
  have HV := Lib.hid ((pValid_any f it _ (w.alloc (.cells #[.int .i64 f.k, .int .i64 f.i, .int .i64 f.g, .string f.nm, .string f.fn, .int .i64 f.ar, .slice ai it.len ci, .string f.bs, .int .i64 f.n] 24 (0, 0))) 0 w.heap.size ht (hs.below HB.out (Nat.le_refl _)) (by simp)).mono fun e w' h => (show e = .returned (.bool false) ∧ Below (w.alloc (.cells #[.int .i64 f.k, .int .i64 f.i, .int .i64 f.g, .string f.nm, .string f.fn, .int .i64 f.ar, .slice ai it.len ci, .string f.bs, .int .i64 f.n] 24 (0, 0))).heap.size (w.alloc (.cells #[.int .i64 f.k, .int .i64 f.i, .int .i64 f.g, .string f.nm, .string f.fn, .int .i64 f.ar, .slice ai it.len ci, .string f.bs, .int .i64 f.n] 24 (0, 0))) w' from ⟨h.1.trans (by rw [hv]), h.2⟩))
  clear hm hs hv ht d0
  go_enter Try.func59, Try.ntmps59
  go_wp2_with fail
  refine HN.out.mono ?_
  rintro e w1 ⟨rfl, rfl⟩
  go_wp2_with fail
  refine HV.out.mono ?_
  rintro e w1 ⟨rfl, hb1⟩
  have HB2 := Lib.hid (bstep HB.out hb1)
  clear hb1
  go_wp2_with fail
  go_ret
  exact ⟨rfl, HB2.out⟩
set_option maxRecDepth 100000 in
set_option maxHeartbeats 2000000 in
theorem Put_ok {S : Nat → Prop} {B : Nat} {l : TL} {p : Nat} {w : World} (hM : MbS w S B l p) (hb : l.len ≤ 1000000000) (f : Fd) (it : TL) (ai : Option Addr) (ci : Nat) (ht : tame f it) (hv : validF f it = true) (hs : RdS w 0 w.heap.size it (.slice ai it.len ci)) :
    Calls Try.prog 59 #[.pointer (some ⟨B, 0, none⟩), .agg #[.int .i64 f.k, .int .i64 f.i, .int .i64 f.g, .string f.nm, .string f.fn, .int .i64 f.ar, .slice ai it.len ci, .string f.bs, .int .i64 f.n]] w fun e w' => e = .returned (.int .i64 0) ∧ MbS w' (fun b => S b ∨ (w.heap.size ≤ b ∧ b < w'.heap.size)) B (l.app (.cons f it .nil)) p ∧ OutsS S w w' := by
  have HB := Lib.hid (below_alloc w (.cells #[.int .i64 f.k, .int .i64 f.i, .int .i64 f.g, .string f.nm, .string f.fn, .int .i64 f.ar, .slice ai it.len ci, .string f.bs, .int .i64 f.n] 24 (0, 0)))
  have HS := Lib.hid hM.lt
  obtain ⟨bs, hm⟩ := hM
  have HMb := Lib.hid hm
  have HBd := Lib.hid hb
  have hBz := hm.ltB
  have d0 := cells_of hm.box 0
  simp only [List.getElem?_toArray, List.getElem?_cons_zero] at d0
  have HN := Lib.hid (none_no B (w.alloc (.cells #[.int .i64 f.k, .int .i64 f.i, .int .i64 f.g, .string f.nm, .string f.fn, .int .i64 f.ar, .slice ai it.len ci, .string f.bs, .int .i64 f.n] 24 (0, 0))) ((HB.out.cell (p := ⟨B, 0, none⟩) hBz).trans d0))
  have HV := Lib.hid ((pValid_any f it _ (w.alloc (.cells #[.int .i64 f.k, .int .i64 f.i, .int .i64 f.g, .string f.nm, .string f.fn, .int .i64 f.ar, .slice ai it.len ci, .string f.bs, .int .i64 f.n] 24 (0, 0))) 0 w.heap.size ht (hs.below HB.out (Nat.le_refl _)) (by simp)).mono fun e w' h => (show e = .returned (.bool true) ∧ Below (w.alloc (.cells #[.int .i64 f.k, .int .i64 f.i, .int .i64 f.g, .string f.nm, .string f.fn, .int .i64 f.ar, .slice ai it.len ci, .string f.bs, .int .i64 f.n] 24 (0, 0))).heap.size (w.alloc (.cells #[.int .i64 f.k, .int .i64 f.i, .int .i64 f.g, .string f.nm, .string f.fn, .int .i64 f.ar, .slice ai it.len ci, .string f.bs, .int .i64 f.n] 24 (0, 0))) w' from ⟨h.1.trans (by rw [hv]), h.2⟩))
  have hcn := ht.1
  have HC := Lib.hid fun W (hB : Below w.heap.size w W) => (copy_all it.cnt).1 f it (f.val (.slice ai it.len ci)) W 0 w.heap.size (Nat.le_refl _) (by omega) ⟨_, rfl, hs.below hB (Nat.le_refl _)⟩ hB.size
  unfold Fd.val Fd.cells at HC
  clear hm hs hv ht d0 hb hcn
  go_enter Try.func59, Try.ntmps59
  go_wp2_with fail
  refine HN.out.mono ?_
  rintro e w1 ⟨rfl, rfl⟩
  go_wp2_with fail
  refine HV.out.mono ?_
  rintro e w1 ⟨rfl, hb1⟩
  have HB2 := Lib.hid (bstep HB.out hb1)
  have HH := Lib.hid (keepB hb1 (heap_alloc_new w (.cells #[.int .i64 f.k, .int .i64 f.i, .int .i64 f.g, .string f.nm, .string f.fn, .int .i64 f.ar, .slice ai it.len ci, .string f.bs, .int .i64 f.n] 24 (0, 0))))
  have hz : w.heap.size < w1.heap.size := by have := hb1.size; simp at this; omega
  clear hb1
  obtain ⟨c0, c1, c2, c3, c4, c5, c6, c7, c8, -⟩ := nine_cells HH.out
  go_upto_region 5 with (fail)
  go_region_held3 (fun w' => w'.cell? ⟨w.heap.size, 0, none⟩ = some (.int .i64 f.k) ∧ w'.cell? ⟨w.heap.size, 1, none⟩ = some (.int .i64 f.i) ∧ w'.cell? ⟨w.heap.size, 2, none⟩ = some (.int .i64 f.g) ∧ w'.cell? ⟨w.heap.size, 3, none⟩ = some (.string f.nm) ∧ w'.cell? ⟨w.heap.size, 4, none⟩ = some (.string f.fn) ∧ w'.cell? ⟨w.heap.size, 5, none⟩ = some (.int .i64 f.ar) ∧ w'.cell? ⟨w.heap.size, 6, none⟩ = some (.slice ai it.len ci) ∧ w'.cell? ⟨w.heap.size, 7, none⟩ = some (.string f.bs) ∧ w'.cell? ⟨w.heap.size, 8, none⟩ = some (.int .i64 f.n))
    (first
      | (exact ⟨c0, c1, c2, c3, c4, c5, c6, c7, c8⟩)
      | (go_split_ands; refine ⟨?_, ?_, ?_, ?_, ?_, ?_, ?_, ?_, ?_⟩ <;> first | exact below_keep hb2 (by assumption) | exact outs_cell ho3 hz2 hnS (by assumption)))
    (first
      | (go_at_call 29; ((with_reducible refine (HC.out _ (by first | exact HB2.out | exact HB2.out.drew)).mono ?_); rintro e w2 ⟨ai2, ci2, rfl, hn2, hb2⟩); have HB3 := Lib.hid (show Below w.heap.size w w2 by first | exact bstep HB2.out hb2 | exact bstep HB2.out.drew hb2); have HX2 := Lib.hid (show RdXS w2 (fun b => w.heap.size ≤ b ∧ b < w2.heap.size) it (.slice ai2 it.len ci2) from hn2.rds.x fun b h1 h2 => ⟨Nat.le_trans (Nat.le_of_lt hz) h1, h2⟩); have hz2 : w.heap.size < w2.heap.size := (by have := hb2.size; first | omega | (simp at this; omega)); have hnS : ¬ S w.heap.size := (fun h => Nat.lt_irrefl _ (HS.out _ h)))
      | (go_at_call 84; ((with_reducible refine (add_any (T := fun b => w.heap.size ≤ b ∧ b < w2.heap.size) (HMb.out.below HB3.out) HBd.out f it _ _ (fun b h => ⟨h.2, fun hs => by have := HS.out b hs; omega⟩) HX2.out).mono ?_); rintro e w3 ⟨rfl, ⟨c, hm3⟩, ho3⟩); have HM3 := Lib.hid hm3; have HO3 := Lib.hid ho3))
  go_wp2_with fail
  go_ret
  refine ⟨rfl, ⟨_, HM3.out.mono (fun b hb => ?_) (fun b hb => ?_)⟩, (OutsS.of_below HB3.out).trans HO3.out⟩
  · have h3 := HO3.out.size
    rcases hb with hb | hb | hb
    · exact .inl hb
    · exact .inr ⟨hb.1, by omega⟩
    · exact .inr ⟨by omega, hb.2⟩
  · have h3 := HO3.out.size
    rcases hb with hb | hb
    · have := HS.out b hb; omega
    · exact hb.2
def lenOf : Value → Nat
  | .slice _ n _ => n
  | _ => 0
theorem lenOf_own {w : World} {base e size : Nat} {v : Value} {n : Nat} {xs : List Value} (h : w.ownsRow base e size v n xs) : lenOf v = n := by
  obtain ⟨_, ⟨e, h0⟩ | ⟨g, cap, cur, e, _⟩⟩ := h
  · rw [e]; exact h0.symm
  · rw [e]; rfl
theorem grown_out {w w2 w3 : World} {o : Obj} {v : Value} {k : Nat} (hg : (w2.alloc o).grownBy w3 v.ownBlock) (hb : Below w.heap.size w w2) (hk : k < w.heap.size) (hn : v.ownBlock ≠ some k) : w3.heap[k]? = w.heap[k]? := by
  have hz := hb.size
  rw [hg.block k (by simp; omega) (fun e => hn e.symm), Below.heap_alloc _ _ _ (by omega)]
  exact hb.block k hk
theorem grown_cell {w w2 w3 : World} {o : Obj} {v x : Value} {base e size n b off : Nat} {xs : List Value} (ho : w.ownsRow base e size v n xs) (hg : (w2.alloc o).grownBy w3 v.ownBlock) (hb : Below w.heap.size w w2) (hB : base ≤ w.heap.size) (hlt : b < base) (h : w.cell? ⟨b, off, none⟩ = some x) : w3.cell? ⟨b, off, none⟩ = some x :=
  (cell_eq (grown_out hg hb (by omega) fun e => by have := (ho.lt b e).1; omega) off).trans h
set_option maxRecDepth 100000 in
set_option maxHeartbeats 2000000 in
theorem All_any {S : Nat → Prop} {B : Nat} {l : TL} {p : Nat} {w : World} (hM : MbS w S B l p) (hb : l.cnt ≤ 1000000000) : Calls Try.prog 61 #[.pointer (some ⟨B, 0, none⟩)] w fun e w' => ∃ ao c, e = .returned (.slice ao l.len c) ∧ NwS w' w.heap.size w'.heap.size l (.slice ao l.len c) ∧ Below w.heap.size w w' := by
  obtain ⟨bs, hm⟩ := hM
  have HMb := Lib.hid hm
  have hBz := hm.ltB
  have hlc := l.len_le_cnt
  have d0 := cells_of hm.box 0
  have d1 := cells_of hm.box 1
  simp only [List.getElem?_toArray, List.getElem?_cons_succ, List.getElem?_cons_zero] at d0 d1
  rw [pt_head] at d1
  have HN := Lib.hid (none_no B w d0)
  have HBd := Lib.hid (show l.cnt ≤ 1000000000 from hb)
  have HL := Lib.hid (show l.len ≤ 1000000000 by omega)
  obtain ⟨i0, hi0, hz0, hz1, hz2⟩ := info_parts Try.info24
  clear hm hb hlc
  obtain ⟨p0, hp0⟩ : ∃ p0, p0 = pt bs[0]? := ⟨_, rfl⟩
  rw [← hp0] at d1
  have HP0 := Lib.hid hp0
  clear hp0
  go_enter Try.func61, Try.ntmps61
  go_wp2_with fail
  refine HN.out.mono ?_
  rintro e w1 ⟨rfl, rfl⟩
  go_wp2_with fail
  go_loopw [3, 4] (fun v c wr => ∃ (k : Nat) (xs : List Value) (T : Nat → Prop), k ≤ l.len ∧ c = pt bs[k]? ∧ Hid (wr.ownsRow w.heap.size 24 9 v k xs) ∧ Hid (NwX wr T (l.take k) xs) ∧ Hid (∀ b, T b → w.heap.size ≤ b ∧ b < wr.heap.size ∧ v.ownBlock ≠ some b) ∧ Hid (Below w.heap.size w wr)) (fun v _ _ => l.len - lenOf v)
  case atStart => exact ⟨0, [], fun _ => False, Nat.zero_le _, HP0.out, Lib.hid (World.ownsRow_nil _ _ _ _), Lib.hid (by rw [TL.take_zero]; trivial), Lib.hid (fun _ h => h.elim), Lib.hid (Below.refl _ _)⟩
  case round =>
    rename_i wr
    obtain ⟨k, xs, T, hk, hc, HO, HX, HT, HB⟩ := hrel
    clear HP0
    have hz := HB.out.size
    by_cases hlt : k < l.len
    · obtain ⟨f, it, hd⟩ := l.drop_at k hlt
      obtain ⟨b, ai, ci, hb, hh, hi⟩ := (HMb.out.below HB.out).chn.at_ k hd
      have c0 := cells_of hh 0
      have c1 := cells_of hh 1
      have c2 := cells_of hh 2
      have c3 := cells_of hh 3
      have c4 := cells_of hh 4
      have c5 := cells_of hh 5
      have c6 := cells_of hh 6
      have c7 := cells_of hh 7
      have c8 := cells_of hh 8
      have c9 := cells_of hh 9
      simp only [List.getElem?_toArray, List.getElem?_cons_succ, List.getElem?_cons_zero] at c0 c1 c2 c3 c4 c5 c6 c7 c8 c9
      rw [hb] at hc
      simp only [pt] at hc
      subst hc
      have hcn : it.cnt ≤ 1000000000 := by have h1 := l.cnt_drop k; have h2 := HBd.out; rw [hd] at h1; simp only [TL.cnt] at h1; omega
      have HC := Lib.hid ((copy_all it.cnt).1 f it (f.val (.slice ai it.len ci)) wr 0 wr.heap.size (Nat.le_refl _) hcn ⟨_, rfl, hi.rds fun b h => ⟨Nat.zero_le _, (HMb.out.below HB.out).lt b h.1⟩⟩ (Nat.le_refl _))
      unfold Fd.val Fd.cells at HC
      have HD := Lib.hid hd
      have HHc := Lib.hid hh
      have HBk := Lib.hid hb
      have HC9 := Lib.hid c9
      have hbw : b < w.heap.size := HMb.out.ltc hb
      clear hh hi hcn hd
      obtain ⟨va, vc, hva⟩ := own_slice HO.out
      subst hva
      clear hb
      generalize hnx : pt bs[k + 1]? = nx at *
      have HNX := Lib.hid hnx
      clear hnx
      go_wp2_with fail
      refine HC.out.mono ?_
      rintro e w2 ⟨ai2, ci2, rfl, hn, hb2⟩
      have HB2 := Lib.hid hb2
      have HN2 := Lib.hid hn
      have HO2 := Lib.hid (own_below HO.out hb2 (Nat.le_refl _))
      have hzb := hb2.size
      have hkL := HL.out
      clear hb2 hn c0 c1 c2 c3 c4 c5 c6 c7 c8 c9
      go_wp2_with (at_builtin; refine wpList_append_own_at _ rfl (.tmp 18) (.tmp 24) 22 rfl w.heap.size 24 i0 zeroV 9 112 Try.underlying22 hi0 hz0 hz1 hz2 rfl (by decide) _ k xs rfl (HO2.out.alloc _) ⟨w2.heap.size, 0, none⟩ 1 1 (f.cells (.slice ai2 it.len ci2)) rfl rfl (news_one (heap_alloc_new _ _)) (cells_one f ai2 it.len ci2) (by unfold maxLen; omega) (by omega) (by simp; omega) ?_; intro v1 w3 hown3 hgrow3 _ hat3; have e9 := grown_cell HO.out hgrow3 HB2.out hz hbw HC9.out)
      have hkg : ∀ j, j < wr.heap.size → (Value.slice va k vc).ownBlock ≠ some j → w3.heap[j]? = wr.heap[j]? := fun j hj hn => grown_out hgrow3 HB2.out hj hn
      have HB3 := Lib.hid (show Below w.heap.size w w3 from HB.out.trans ⟨hgrow3.os.trans HB2.out.os, hgrow3.tape.trans HB2.out.tape, hgrow3.output.trans HB2.out.output, by have := hgrow3.size; simp at this; omega, fun j hj => hkg j (by omega) fun h => by have := (HO.out.lt j h).1; omega⟩)
      have hz3 : w2.heap.size < w3.heap.size := by have := hgrow3.size; simp at this; omega
      have HX3 := Lib.hid (show NwX w3 (fun j => T j ∨ (wr.heap.size ≤ j ∧ j < w2.heap.size)) (l.take (k + 1)) (xs ++ f.cells (.slice ai2 it.len ci2)) by
        rw [take_snoc l k f it _ HD.out]
        refine NwX.app _ _ _ _ (NwX.keep (fun j h => .inl h) (fun j h => hkg j (HT.out j h).2.1 (HT.out j h).2.2) _ _ HX.out) (by rw [HO.out.1, take_len _ _ hk]) (NwX.keep (fun j h => .inr h) (fun j h => ?_) _ _ (NwX.single HN2.out))
        rw [hgrow3.block j (by simp; omega) (fun e => by have := (HO.out.lt j e.symm).2; omega), Below.heap_alloc _ _ _ (by omega)])
      have HT3 := Lib.hid (show ∀ j, (T j ∨ (wr.heap.size ≤ j ∧ j < w2.heap.size)) → w.heap.size ≤ j ∧ j < w3.heap.size ∧ v1.ownBlock ≠ some j from fun j hj => by
        have h1 : w.heap.size ≤ j ∧ j < w2.heap.size ∧ (Value.slice va k vc).ownBlock ≠ some j := by
          rcases hj with hj | hj
          · have := HT.out j hj; exact ⟨this.1, by omega, this.2.2⟩
          · exact ⟨by omega, hj.2, fun h => by have := (HO.out.lt j h).2; omega⟩
        refine ⟨h1.1, by omega, fun h => ?_⟩
        rcases hat3 with e | e
        · exact h1.2.2 (e ▸ h)
        · rw [e, World.size_alloc] at h; injection h with h; omega)
      have HO3 := Lib.hid hown3
      clear hkg hgrow3 hat3 hown3 HHc HC
      rw [show lenOf v1 = k + 1 from lenOf_own HO3.out]
      refine ⟨⟨k + 1, _, _, by omega, HNX.out.symm, HO3, HX3, HT3, HB3⟩, by simp only [lenOf]; omega⟩
    · have hkl : k = l.len := by omega
      subst hkl
      have hbn : bs[l.len]? = none := List.getElem?_eq_none (by rw [HMb.out.len]; exact Nat.le_refl _)
      rw [hbn] at hc
      simp only [pt] at hc
      subst hc
      obtain ⟨va, vc, hva⟩ := own_slice HO.out
      subst hva
      go_wp2_with fail
      go_ret
      refine ⟨_, _, rfl, ?_, HB.out⟩
      have hx := HX.out
      rw [take_all _ _ (Nat.le_refl _)] at hx
      exact NwS.of_owns HO.out rfl (Nat.le_refl _) (Nat.le_refl _) (NwX.nwr (fun j h => ⟨(HT.out j h).1, (HT.out j h).2.1⟩) _ _ hx)
end Go.Proofs.Ytgbaelkoblnlhaa
