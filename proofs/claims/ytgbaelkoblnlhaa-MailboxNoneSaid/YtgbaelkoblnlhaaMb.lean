/-
  The mailbox in memory: a box, a chain of cells, the terms' items. No program in sight.
-/
import Derived.Test.YtgbaelkoblnlhaaBook
namespace Go.Proofs.Ytgbaelkoblnlhaa
open Go.RowKit
/-- all blocks outside a set are as they were -/
structure OutsS (S : Nat → Prop) (w w' : World) : Prop where
  os : w'.os = w.os
  tape : w'.tape = w.tape
  output : w'.output = w.output
  size : w.heap.size ≤ w'.heap.size
  block : ∀ k, k < w.heap.size → ¬ S k → w'.heap[k]? = w.heap[k]?
theorem OutsS.of_below {S : Nat → Prop} {w w' : World} (h : Below w.heap.size w w') : OutsS S w w' := ⟨h.os, h.tape, h.output, h.size, fun k hk _ => h.block k hk⟩
theorem OutsS.refl (S : Nat → Prop) (w : World) : OutsS S w w := OutsS.of_below (Below.refl _ _)
theorem OutsS.set {S : Nat → Prop} (w : World) {L : Nat} (k : Nat) (u : Value) (hL : S L) : OutsS S w (w.setCell ⟨L, k, none⟩ u) := by
  have h := (Below.refl L w).setCell (p := ⟨L, k, none⟩) (Nat.le_refl _) u
  refine ⟨h.os, h.tape, h.output, h.size, fun j hj hne => ?_⟩
  exact Below.heap_setCell _ _ _ _ (by show j ≠ L; intro e; subst e; exact hne hL)
theorem OutsS.trans {S : Nat → Prop} {a b c : World} (h : OutsS S a b) (k : OutsS S b c) : OutsS S a c :=
  ⟨k.os.trans h.os, k.tape.trans h.tape, k.output.trans h.output, Nat.le_trans h.size k.size, fun i hi ho => (k.block i (Nat.lt_of_lt_of_le hi h.size) ho).trans (h.block i hi ho)⟩
theorem OutsS.mono {S S' : Nat → Prop} {a b : World} (h : OutsS S a b) (hS : ∀ k, k < a.heap.size → S k → S' k) : OutsS S' a b :=
  ⟨h.os, h.tape, h.output, h.size, fun i hi ho => h.block i hi fun hs => ho (hS i hi hs)⟩
theorem OutsS.below {S : Nat → Prop} {N : Nat} {w0 a b : World} (h : OutsS S a b) (hN : N ≤ a.heap.size) (hS : ∀ k, S k → N ≤ k) (hb : Below N w0 a) : Below N w0 b :=
  hb.trans ⟨h.os, h.tape, h.output, h.size, fun k hk => h.block k (by omega) fun hs => by have := hS k hs; omega⟩
theorem OutsS.put {S : Nat → Prop} {a w : World} (h : OutsS S a w) {L : Nat} (hL : S L) (k : Nat) (u : Value) : OutsS S a (w.setCell ⟨L, k, none⟩ u) := h.trans (OutsS.set w k u hL)
theorem OutsS.al {S : Nat → Prop} {a w : World} (h : OutsS S a w) (o : Obj) : OutsS S a (w.alloc o) := h.trans (OutsS.of_below (below_alloc w o))
theorem six_set {w : World} {B : Nat} {a0 a1 a2 a3 a4 a5 : Value} {t : TypeId} (h : w.heap[B]? = some (.cells #[a0, a1, a2, a3, a4, a5] t (0, 0))) (u : Value) :
    (w.setCell ⟨B, 1, none⟩ u).heap[B]? = some (.cells #[a0, u, a2, a3, a4, a5] t (0, 0)) ∧ (w.setCell ⟨B, 2, none⟩ u).heap[B]? = some (.cells #[a0, a1, u, a3, a4, a5] t (0, 0)) ∧ (w.setCell ⟨B, 3, none⟩ u).heap[B]? = some (.cells #[a0, a1, a2, u, a4, a5] t (0, 0)) ∧
      (w.setCell ⟨B, 4, none⟩ u).heap[B]? = some (.cells #[a0, a1, a2, a3, u, a5] t (0, 0)) ∧ (w.setCell ⟨B, 5, none⟩ u).heap[B]? = some (.cells #[a0, a1, a2, a3, a4, u] t (0, 0)) :=
  ⟨blk_set (c := [a0, a1, a2, a3, a4, a5]) h 1 u, blk_set (c := [a0, a1, a2, a3, a4, a5]) h 2 u, blk_set (c := [a0, a1, a2, a3, a4, a5]) h 3 u, blk_set (c := [a0, a1, a2, a3, a4, a5]) h 4 u, blk_set (c := [a0, a1, a2, a3, a4, a5]) h 5 u⟩
theorem new2_1' {w : World} {o p : Obj} {c : Nat} (h : w.heap.size + 1 = c) : ((w.alloc o).alloc p).heap[c]? = some p := h ▸ new2_1 w o p
theorem heap_al2 {w : World} {o p : Obj} {k : Nat} (h : k < w.heap.size) : ((w.alloc o).alloc p).heap[k]? = w.heap[k]? := by
  rw [Below.heap_alloc _ _ _ (by simp; omega), Below.heap_alloc _ _ _ h]
theorem drew_blk {w : World} {B : Nat} {o : Option Obj} (h : w.heap[B]? = o) : w.drew.heap[B]? = o := h
theorem OutsS.new {S : Nat → Prop} {a w : World} (h : OutsS S a w) {L : Nat} (hL : a.heap.size ≤ L) (k : Nat) (u : Value) : OutsS S a (w.setCell ⟨L, k, none⟩ u) := by
  have h2 := (Below.refl L w).setCell (p := ⟨L, k, none⟩) (Nat.le_refl _) u
  exact ⟨h2.os.trans h.os, h2.tape.trans h.tape, h2.output.trans h.output, Nat.le_trans h.size h2.size, fun j hj hn => (h2.block j (by omega)).trans (h.block j hj hn)⟩
theorem drew_heap (w : World) (k : Nat) : w.drew.heap[k]? = w.heap[k]? := rfl
theorem OutsS.dr {S : Nat → Prop} {a w : World} (h : OutsS S a w) : OutsS S a w.drew := ⟨h.os, h.tape, h.output, h.size, h.block⟩
theorem own_slice {w : World} {base e size : Nat} {v : Value} {n : Nat} {xs : List Value} (h : w.ownsRow base e size v n xs) : ∃ ao cap, v = .slice ao n cap := by
  obtain ⟨_, ⟨e, h0⟩ | ⟨g, cap, cur, e, _⟩⟩ := h
  · exact ⟨none, 0, by rw [e, h0]⟩
  · exact ⟨_, _, e⟩
def pt : Option Nat → Value
  | none => .pointer none
  | some b => .pointer (some ⟨b, 0, none⟩)
/-- the cell before the position, or none -/
def seenP (bs : List Nat) : Nat → Option Nat
  | 0 => none
  | k + 1 => bs[k]?
/-- a chain of cells -/
def Chn (w : World) (T : Nat → Prop) : TL → List Nat → Prop
  | .nil, bs => bs = []
  | .cons f it r, bs => ∃ b br ai ci, bs = b :: br ∧ w.heap[b]? = some (.cells #[.int .i64 f.k, .int .i64 f.i, .int .i64 f.g, .string f.nm, .string f.fn, .int .i64 f.ar, .slice ai it.len ci, .string f.bs, .int .i64 f.n, pt br.head?] 88 (0, 0)) ∧ RdXS w T it (.slice ai it.len ci) ∧ Chn w T r br
structure Mb (w : World) (S : Nat → Prop) (B : Nat) (l : TL) (p : Nat) (bs : List Nat) : Prop where
  box : w.heap[B]? = some (.cells #[.bool true, pt bs.head?, pt bs.getLast?, pt (seenP bs p), .int .i64 l.len, .int .i64 p] 78 (0, 0))
  len : bs.length = l.len
  pos : p ≤ l.len
  nod : (B :: bs).Nodup
  inS : ∀ b, b ∈ B :: bs → S b
  lt : ∀ b, S b → b < w.heap.size
  chn : Chn w (fun b => S b ∧ b ∉ B :: bs) l bs
theorem Chn.len {w : World} {T : Nat → Prop} : ∀ {l : TL} {bs : List Nat}, Chn w T l bs → bs.length = l.len
  | .nil, _, h => by rw [show _ = [] from h]; rfl
  | .cons f it r, _, ⟨b, br, _, _, e, _, _, hr⟩ => by rw [e, List.length_cons, Chn.len hr]; rfl
theorem Chn.keep {w w' : World} {T T' : Nat → Prop} (hT : ∀ b, T b → T' b) (hk : ∀ b, T b → w'.heap[b]? = w.heap[b]?) : ∀ {l : TL} {bs : List Nat}, (∀ b, b ∈ bs → w'.heap[b]? = w.heap[b]?) → Chn w T l bs → Chn w' T' l bs
  | .nil, _, _, h => h
  | .cons f it r, _, hb, ⟨b, br, ai, ci, e, h1, h2, hr⟩ => by
    subst e
    exact ⟨b, br, ai, ci, rfl, (hb b (List.mem_cons_self ..)).trans h1, h2.keep2 hT fun b' o hs => cell_eq (hk b' hs) o, Chn.keep hT hk (fun b' h => hb b' (List.mem_cons_of_mem _ h)) hr⟩
/-- the k-th cell -/
theorem Chn.at_ {w : World} {T : Nat → Prop} : ∀ {l : TL} {bs : List Nat} (k : Nat) {f : Fd} {it r : TL}, Chn w T l bs → l.drop k = .cons f it r →
    ∃ b ai ci, bs[k]? = some b ∧ w.heap[b]? = some (.cells #[.int .i64 f.k, .int .i64 f.i, .int .i64 f.g, .string f.nm, .string f.fn, .int .i64 f.ar, .slice ai it.len ci, .string f.bs, .int .i64 f.n, pt bs[k + 1]?] 88 (0, 0)) ∧ RdXS w T it (.slice ai it.len ci)
  | .nil, _, 0, _, _, _, _, h => by simp [TL.drop] at h
  | .nil, _, _ + 1, _, _, _, _, h => by simp [TL.drop] at h
  | .cons f' it' r', _, 0, f, it, r, ⟨b, br, ai, ci, e, h1, h2, _⟩, h => by
    rw [TL.drop] at h
    injection h with e1 e2 e3
    subst e1 e2 e
    refine ⟨b, ai, ci, rfl, ?_, h2⟩
    rw [h1]
    cases br <;> rfl
  | .cons f' it' r', _, k + 1, f, it, r, ⟨b, br, ai, ci, e, _, _, hr⟩, h => by
    subst e
    obtain ⟨b', ai', ci', h1, h2, h3⟩ := Chn.at_ k hr h
    exact ⟨b', ai', ci', h1, h2, h3⟩
def TL.del (l : TL) (p : Nat) : TL := (l.take p).app (l.drop (p + 1))
theorem TL.del_zero (f : Fd) (it r : TL) : (TL.cons f it r).del 0 = r := by
  rw [TL.del, TL.take_zero, TL.app, TL.drop, TL.drop_zero]
theorem TL.del_succ (f : Fd) (it r : TL) (p : Nat) : (TL.cons f it r).del (p + 1) = .cons f it (r.del p) := rfl
theorem TL.len_del : ∀ (l : TL) (p : Nat), p < l.len → (l.del p).len = l.len - 1
  | .nil, _, h => by simp [TL.len] at h
  | .cons f it r, 0, _ => by rw [TL.del_zero]; rfl
  | .cons f it r, p + 1, h => by
    simp only [TL.len] at h
    rw [TL.del_succ]
    simp only [TL.len]
    rw [TL.len_del r p (by omega)]
    omega
theorem pt_head (bs : List Nat) : bs.head? = bs[0]? := by cases bs <;> rfl
/-- one cell more at the end -/
theorem Chn.snoc {w w' : World} {T T' : Nat → Prop} {c : Nat} {f : Fd} {it : TL} {ai : Option Addr} {ci : Nat} (hT : ∀ b, T b → T' b) (hk : ∀ b, T b → w'.heap[b]? = w.heap[b]?)
    (hc : w'.heap[c]? = some (.cells #[.int .i64 f.k, .int .i64 f.i, .int .i64 f.g, .string f.nm, .string f.fn, .int .i64 f.ar, .slice ai it.len ci, .string f.bs, .int .i64 f.n, .pointer none] 88 (0, 0))) (hi : RdXS w' T' it (.slice ai it.len ci)) :
    ∀ {l : TL} {bs : List Nat}, bs.Nodup → (∀ b, b ∈ bs → bs.getLast? ≠ some b → w'.heap[b]? = w.heap[b]?) → (∀ b cs, bs.getLast? = some b → w.heap[b]? = some (.cells cs 88 (0, 0)) → w'.heap[b]? = some (.cells (cs.setIfInBounds 9 (pt (some c))) 88 (0, 0))) →
      Chn w T l bs → Chn w' T' (l.app (.cons f it .nil)) (bs ++ [c])
  | .nil, _, _, _, _, h => by
    rw [show _ = [] from h]
    exact ⟨c, [], ai, ci, rfl, hc, hi, rfl⟩
  | .cons f' it' r, _, hn, ho, hl, ⟨b, br, ai', ci', e, h1, h2, hr⟩ => by
    subst e
    cases br with
    | nil =>
      have hr0 : r = .nil := by
        cases r with
        | nil => rfl
        | cons _ _ _ => obtain ⟨_, _, _, _, e, _⟩ := hr; cases e
      subst hr0
      exact ⟨b, [c], ai', ci', rfl, hl b _ rfl h1, h2.keep2 hT fun b' o hs => cell_eq (hk b' hs) o, c, [], ai, ci, rfl, hc, hi, rfl⟩
    | cons b2 br2 =>
      have hg : (b :: b2 :: br2).getLast? = (b2 :: br2).getLast? := by simp [List.getLast?_cons_cons]
      have hbn : b ∉ b2 :: br2 := (List.nodup_cons.1 hn).1
      refine ⟨b, (b2 :: br2) ++ [c], ai', ci', rfl, ?_, h2.keep2 hT fun b' o hs => cell_eq (hk b' hs) o, ?_⟩
      · exact (ho b (List.mem_cons_self ..) (by rw [hg]; intro e; exact hbn (List.mem_of_getLast? e))).trans h1
      · exact Chn.snoc hT hk hc hi (List.nodup_cons.1 hn).2 (fun b' h h3 => ho b' (List.mem_cons_of_mem _ h) (by rw [hg]; exact h3)) (fun b' cs h => hl b' cs (by rw [hg]; exact h)) hr
theorem Mb.nodup {w : World} {S : Nat → Prop} {B : Nat} {l : TL} {p : Nat} {bs : List Nat} (h : Mb w S B l p bs) : bs.Nodup := (List.nodup_cons.1 h.nod).2
theorem Mb.notin {w : World} {S : Nat → Prop} {B : Nat} {l : TL} {p : Nat} {bs : List Nat} (h : Mb w S B l p bs) : B ∉ bs := (List.nodup_cons.1 h.nod).1
theorem Mb.ltc {w : World} {S : Nat → Prop} {B : Nat} {l : TL} {p : Nat} {bs : List Nat} (h : Mb w S B l p bs) {k b : Nat} (hk : bs[k]? = some b) : b < w.heap.size := h.lt b (h.inS b (List.mem_cons_of_mem _ (List.mem_of_getElem? hk)))
theorem Mb.ltB {w : World} {S : Nat → Prop} {B : Nat} {l : TL} {p : Nat} {bs : List Nat} (h : Mb w S B l p bs) : B < w.heap.size := h.lt B (h.inS B (List.mem_cons_self ..))
theorem Mb.ne {w : World} {S : Nat → Prop} {B : Nat} {l : TL} {p : Nat} {bs : List Nat} (h : Mb w S B l p bs) {k b : Nat} (hk : bs[k]? = some b) : b ≠ B := fun e => h.notin (e ▸ List.mem_of_getElem? hk)
theorem Mb.keep {w w' : World} {S : Nat → Prop} {B : Nat} {l : TL} {p : Nat} {bs : List Nat} (h : Mb w S B l p bs) (hz : w.heap.size ≤ w'.heap.size) (hk : ∀ b, S b → w'.heap[b]? = w.heap[b]?) : Mb w' S B l p bs :=
  ⟨(hk B (h.inS B (List.mem_cons_self ..))).trans h.box, h.len, h.pos, h.nod, h.inS, fun b hb => Nat.lt_of_lt_of_le (h.lt b hb) hz, Chn.keep (fun _ h => h) (fun b hb => hk b hb.1) (fun b hb => hk b (h.inS b (List.mem_cons_of_mem _ hb))) h.chn⟩
theorem Mb.mono {w : World} {S S' : Nat → Prop} {B : Nat} {l : TL} {p : Nat} {bs : List Nat} (h : Mb w S B l p bs) (hS : ∀ b, S b → S' b) (hl : ∀ b, S' b → b < w.heap.size) : Mb w S' B l p bs :=
  ⟨h.box, h.len, h.pos, h.nod, fun b hb => hS b (h.inS b hb), hl, Chn.keep (fun b hb => ⟨hS b hb.1, hb.2⟩) (fun _ _ => rfl) (fun _ _ => rfl) h.chn⟩
theorem Mb.below {w w' : World} {S : Nat → Prop} {B : Nat} {l : TL} {p : Nat} {bs : List Nat} (h : Mb w S B l p bs) (hb : Below w.heap.size w w') : Mb w' S B l p bs := h.keep hb.size fun b hs => hb.block b (h.lt b hs)
theorem seenP_snoc (bs : List Nat) (c : Nat) : ∀ p, p ≤ bs.length → seenP (bs ++ [c]) p = seenP bs p
  | 0, _ => rfl
  | k + 1, h => List.getElem?_append_left (by omega)
theorem Mb.added {w w' : World} {S T : Nat → Prop} {B : Nat} {l : TL} {p : Nat} {bs : List Nat} {f : Fd} {it : TL} {ai : Option Addr} {ci : Nat} (hM : Mb w S B l p bs) (c : Nat) (hcw : w.heap.size ≤ c) (hcz : c < w'.heap.size)
    (hbox : w'.heap[B]? = some (.cells #[.bool true, pt (bs ++ [c]).head?, pt (some c), pt (seenP bs p), .int .i64 ((l.len + 1 : Nat) : Int), .int .i64 p] 78 (0, 0)))
    (hc : w'.heap[c]? = some (.cells #[.int .i64 f.k, .int .i64 f.i, .int .i64 f.g, .string f.nm, .string f.fn, .int .i64 f.ar, .slice ai it.len ci, .string f.bs, .int .i64 f.n, .pointer none] 88 (0, 0)))
    (hl : ∀ b cs, bs.getLast? = some b → w.heap[b]? = some (.cells cs 88 (0, 0)) → w'.heap[b]? = some (.cells (cs.setIfInBounds 9 (pt (some c))) 88 (0, 0)))
    (ho : ∀ k, k < w.heap.size → k ≠ B → bs.getLast? ≠ some k → w'.heap[k]? = w.heap[k]?) (hT : ∀ b, T b → b < w.heap.size ∧ ¬ S b) (hi : RdXS w T it (.slice ai it.len ci)) :
    Mb w' (fun b => S b ∨ T b ∨ (w.heap.size ≤ b ∧ b < w'.heap.size)) B (l.app (.cons f it .nil)) p (bs ++ [c]) := by
  have hlast : ∀ k, bs.getLast? = some k → k ∈ bs := fun k h => List.mem_of_getLast? h
  have hcn : c ∉ B :: bs := fun h => by have := hM.lt c (hM.inS c h); omega
  have hll : (l.app (.cons f it .nil)).len = l.len + 1 := by rw [TL.len_app]; rfl
  refine ⟨?_, ?_, ?_, ?_, ?_, ?_, ?_⟩
  · rw [hbox, hll, seenP_snoc bs c p (by rw [hM.len]; exact hM.pos), List.getLast?_concat]
  · rw [hll, List.length_append, hM.len]; rfl
  · rw [hll]; have := hM.pos; omega
  · have h1 := hM.nod
    rw [List.nodup_cons] at h1 ⊢
    refine ⟨?_, ?_⟩
    · rw [List.mem_append]
      rintro (h | h)
      · exact h1.1 h
      · simp at h; subst h; exact hcn (List.mem_cons_self ..)
    · rw [List.nodup_append]
      refine ⟨h1.2, by simp, fun a ha b hb => ?_⟩
      simp at hb
      subst hb
      exact fun e => hcn (List.mem_cons_of_mem _ (e ▸ ha))
  · intro b hb
    rw [List.mem_cons, List.mem_append] at hb
    rcases hb with rfl | hb | hb
    · exact .inl (hM.inS _ (List.mem_cons_self ..))
    · exact .inl (hM.inS _ (List.mem_cons_of_mem _ hb))
    · simp at hb; subst hb; exact .inr (.inr ⟨hcw, hcz⟩)
  · intro b hb
    rcases hb with hb | hb | hb
    · have := hM.lt b hb; omega
    · have := (hT b hb).1; omega
    · exact hb.2
  · have hmem : ∀ b, b ∈ B :: (bs ++ [c]) → b ∈ B :: bs ∨ b = c := fun b hb => by
      rw [List.mem_cons, List.mem_append] at hb
      rcases hb with rfl | hb | hb
      · exact .inl (List.mem_cons_self ..)
      · exact .inl (List.mem_cons_of_mem _ hb)
      · simp at hb; exact .inr hb
    refine Chn.snoc (T := fun b => S b ∧ b ∉ B :: bs) ?_ ?_ hc ?_ hM.nodup ?_ hl hM.chn
    · rintro b ⟨h1, h2⟩
      refine ⟨.inl h1, fun h => ?_⟩
      rcases hmem b h with h | h
      · exact h2 h
      · have := hM.lt b h1; omega
    · rintro b ⟨h1, h2⟩
      exact ho b (hM.lt b h1) (fun e => h2 (e ▸ List.mem_cons_self ..)) fun e => h2 (List.mem_cons_of_mem _ (hlast b e))
    · refine hi.keep2 (fun b hb => ⟨.inr (.inl hb), fun h => ?_⟩) fun b o hb => ?_
      · rcases hmem b h with h | h
        · exact (hT b hb).2 (hM.inS b h)
        · have := (hT b hb).1; omega
      · refine cell_eq (ho b (hT b hb).1 (fun e => ?_) fun e => ?_) o
        · subst e; exact (hT _ hb).2 (hM.inS _ (List.mem_cons_self ..))
        · exact (hT b hb).2 (hM.inS b (List.mem_cons_of_mem _ (hlast b e)))
    · intro b hb hne
      exact ho b (hM.lt b (hM.inS b (List.mem_cons_of_mem _ hb))) (fun e => hM.notin (e ▸ hb)) hne
theorem Mb.moved {w w' : World} {S : Nat → Prop} {B : Nat} {l : TL} {p q : Nat} {bs : List Nat} (hM : Mb w S B l p bs) (hz : w'.heap.size = w.heap.size) (hq : q ≤ l.len)
    (hbox : w'.heap[B]? = some (.cells #[.bool true, pt bs.head?, pt bs.getLast?, pt (seenP bs q), .int .i64 l.len, .int .i64 q] 78 (0, 0))) (ho : ∀ k, k ≠ B → w'.heap[k]? = w.heap[k]?) : Mb w' S B l q bs :=
  ⟨hbox, hM.len, hq, hM.nod, hM.inS, fun b hb => by rw [hz]; exact hM.lt b hb, Chn.keep (fun _ h => h) (fun b hb => ho b fun e => hb.2 (e ▸ List.mem_cons_self ..)) (fun b hb => ho b fun e => hM.notin (e ▸ hb)) hM.chn⟩
/-- one cell less -/
theorem Chn.del {w w' : World} {T T' : Nat → Prop} (hT : ∀ b, T b → T' b) (hk : ∀ b, T b → w'.heap[b]? = w.heap[b]?) :
    ∀ {l : TL} {bs : List Nat} (p : Nat), p < l.len → (∀ k b, bs[k]? = some b → k + 1 ≠ p → w'.heap[b]? = w.heap[b]?) →
      (∀ k b cs, k + 1 = p → bs[k]? = some b → w.heap[b]? = some (.cells cs 88 (0, 0)) → w'.heap[b]? = some (.cells (cs.setIfInBounds 9 (pt bs[p + 1]?)) 88 (0, 0))) →
      Chn w T l bs → Chn w' T' (l.del p) (bs.eraseIdx p)
  | .nil, _, _, h, _, _, _ => by simp [TL.len] at h
  | .cons f it r, _, 0, _, ho, _, ⟨b, br, ai, ci, e, h1, h2, hr⟩ => by
    subst e
    rw [TL.del_zero]
    refine Chn.keep hT hk (fun b' h => ?_) hr
    obtain ⟨k, hk'⟩ := List.mem_iff_getElem?.1 h
    exact ho (k + 1) b' hk' (by omega)
  | .cons f it r, _, p + 1, h, ho, hp, ⟨b, br, ai, ci, e, h1, h2, hr⟩ => by
    subst e
    rw [TL.del_succ]
    have hlen := hr.len
    simp only [TL.len] at h
    refine ⟨b, br.eraseIdx p, ai, ci, rfl, ?_, h2.keep2 hT fun b' o hs => cell_eq (hk b' hs) o, ?_⟩
    · cases p with
      | zero =>
        refine (hp 0 b _ rfl rfl h1).trans ?_
        cases br with
        | nil => rfl
        | cons b2 br2 => cases br2 <;> rfl
      | succ q =>
        rw [ho 0 b rfl (by omega), h1]
        cases br with
        | nil => rfl
        | cons b2 br2 => rfl
    · exact Chn.del hT hk p (by omega) (fun k b' hb hne => ho (k + 1) b' hb (by omega)) (fun k b' cs hkp hb hc => hp (k + 1) b' cs (by omega) hb hc) hr
theorem nodup_inj {bs : List Nat} (h : bs.Nodup) {i j b : Nat} (hi : bs[i]? = some b) (hj : bs[j]? = some b) : i = j := by
  induction bs generalizing i j with
  | nil => simp at hi
  | cons a br ih =>
    obtain ⟨h1, h2⟩ := List.nodup_cons.1 h
    cases i with
    | zero =>
      cases j with
      | zero => rfl
      | succ j =>
        simp only [List.getElem?_cons_zero, Option.some.injEq] at hi
        subst hi
        exact absurd (show a ∈ br from List.mem_of_getElem? (by simpa using hj)) h1
    | succ i =>
      cases j with
      | zero =>
        simp only [List.getElem?_cons_zero, Option.some.injEq] at hj
        subst hj
        exact absurd (show a ∈ br from List.mem_of_getElem? (by simpa using hi)) h1
      | succ j => rw [ih h2 hi hj]
theorem erase_head : ∀ (bs : List Nat) (p : Nat), (bs.eraseIdx p).head? = if p = 0 then bs[1]? else bs.head?
  | [], 0 => rfl
  | [], _ + 1 => rfl
  | [_], 0 => rfl
  | _ :: _ :: _, 0 => rfl
  | _ :: _, _ + 1 => rfl
theorem erase_last : ∀ (bs : List Nat) (p : Nat), p < bs.length → (bs.eraseIdx p).getLast? = if bs[p + 1]? = none then seenP bs p else bs.getLast?
  | [], _, h => by simp at h
  | [_], 0, _ => rfl
  | _ :: b :: br, 0, _ => by simp [List.getLast?_cons_cons]
  | a :: br, p + 1, h => by
    have hp : p < br.length := by simpa using h
    have ih := erase_last br p hp
    rw [List.eraseIdx_cons_succ, List.getElem?_cons_succ]
    have hg : ∀ x : List Nat, x ≠ [] → (a :: x).getLast? = x.getLast? := fun x hx => by
      cases x with
      | nil => exact absurd rfl hx
      | cons _ _ => simp [List.getLast?_cons_cons]
    have hb0 : br ≠ [] := fun e => by subst e; simp at hp
    by_cases he : br.eraseIdx p = []
    · have hl1 : br.length = 1 := by
        have := congrArg List.length he
        rw [List.length_eraseIdx_of_lt hp] at this
        simp at this
        omega
      have hp0 : p = 0 := by omega
      subst hp0
      rw [he, if_pos (List.getElem?_eq_none (by omega))]
      rfl
    · rw [hg _ he, ih]
      cases p with
      | zero =>
        by_cases hn : br[0 + 1]? = none
        · exfalso
          have := List.getElem?_eq_none_iff.1 hn
          apply he
          apply List.eq_nil_of_length_eq_zero
          rw [List.length_eraseIdx_of_lt hp]
          omega
        · rw [if_neg hn, if_neg hn, hg _ hb0]
      | succ q => rw [hg _ hb0]; rfl
theorem Mb.dropped {w w' : World} {S : Nat → Prop} {B : Nat} {l : TL} {p : Nat} {bs : List Nat} (hM : Mb w S B l p bs) (hp : p < l.len) (hz : w'.heap.size = w.heap.size)
    (hbox : w'.heap[B]? = some (.cells #[.bool true, pt (if p = 0 then bs[1]? else bs.head?), pt (if bs[p + 1]? = none then seenP bs p else bs.getLast?), .pointer none, .int .i64 ((l.len - 1 : Nat) : Int), .int .i64 0] 78 (0, 0)))
    (ho : ∀ k, k ≠ B → (∀ j, j + 1 = p → bs[j]? ≠ some k) → w'.heap[k]? = w.heap[k]?)
    (hl : ∀ k b cs, k + 1 = p → bs[k]? = some b → w.heap[b]? = some (.cells cs 88 (0, 0)) → w'.heap[b]? = some (.cells (cs.setIfInBounds 9 (pt bs[p + 1]?)) 88 (0, 0))) :
    Mb w' S B (l.del p) 0 (bs.eraseIdx p) := by
  have hpb : p < bs.length := by rw [hM.len]; exact hp
  have hsub : ∀ b, b ∈ B :: bs.eraseIdx p → b ∈ B :: bs := fun b hb => by
    rw [List.mem_cons] at hb ⊢
    exact hb.imp id fun h => List.mem_of_mem_eraseIdx h
  have hnd := hM.nodup
  refine ⟨?_, ?_, Nat.zero_le _, ?_, fun b hb => hM.inS b (hsub b hb), fun b hb => by rw [hz]; exact hM.lt b hb, ?_⟩
  · rw [hbox, erase_head, erase_last _ _ hpb, TL.len_del _ _ hp]
    rfl
  · rw [List.length_eraseIdx_of_lt hpb, TL.len_del _ _ hp, hM.len]
  · rw [List.nodup_cons]
    exact ⟨fun h => hM.notin (List.mem_of_mem_eraseIdx h), hnd.sublist (List.eraseIdx_sublist bs p)⟩
  · refine Chn.del (T := fun b => S b ∧ b ∉ B :: bs) (fun b hb => ⟨hb.1, fun h => hb.2 (hsub b h)⟩) ?_ p hp ?_ hl hM.chn
    · rintro b ⟨h1, h2⟩
      exact ho b (fun e => h2 (e ▸ List.mem_cons_self ..)) fun j _ e => h2 (List.mem_cons_of_mem _ (List.mem_of_getElem? e))
    · intro k b hb hne
      refine ho b (hM.ne hb) fun j hj e => hne ?_
      have := nodup_inj hnd hb e
      omega
end Go.Proofs.Ytgbaelkoblnlhaa
