/-
  A book of facts on one world: boxes, terms that are read, new terms, lent terms; it goes on through calls, boxes and spoiling.
-/
import Derived.Test.YtgbaelkoblnlhaaSpoil
import Derived.Test.YtgbaelkoblnlhaaKept
import Derived.Test.YtgbaelkoblnlhaaGreat
import Derived.Test.YtgbaelkoblnlhaaRMake3
namespace Go.Proofs.Ytgbaelkoblnlhaa
open Go.RowKit
inductive Fct where
  | blk (L : Nat) (c : Array Value)
  | rd (A B : Nat) (l : TL) (v : Value)
  | rx (S : Nat → Prop) (l : TL) (v : Value)
  | nw (A B : Nat) (l : TL) (v : Value)
  | kp (A B A' B' : Nat) (l : TL) (v v' : Value)
  | base (w0 : World)
def Fct.ok (w : World) : Fct → Prop
  | .blk L c => w.heap[L]? = some (.cells c 24 (0, 0))
  | .rd A B l v => RdS w A B l v ∧ B ≤ w.heap.size
  | .rx S l v => RdXS w S l v ∧ ∀ b, S b → b < w.heap.size
  | .nw A B l v => NwS w A B l v ∧ A ≤ B ∧ B ≤ w.heap.size
  | .kp A B A' B' l v v' => KpS w A B A' B' l v v' ∧ A ≤ B ∧ B ≤ w.heap.size ∧ B' ≤ w.heap.size
  | .base w0 => Below w0.heap.size w0 w
def Bk (w : World) : List Fct → Prop
  | [] => True
  | f :: fs => f.ok w ∧ Bk w fs
/-- all blocks but those from A on, below B, are as they were -/
structure Outs (A B : Nat) (w w' : World) : Prop where
  os : w'.os = w.os
  tape : w'.tape = w.tape
  output : w'.output = w.output
  size : w.heap.size ≤ w'.heap.size
  block : ∀ k, k < w.heap.size → (k < A ∨ B ≤ k) → w'.heap[k]? = w.heap[k]?
theorem Outs.of_below {A B : Nat} {w w' : World} (h : Below w.heap.size w w') : Outs A B w w' := ⟨h.os, h.tape, h.output, h.size, fun k hk _ => h.block k hk⟩
theorem Outs.of_spw {A B : Nat} {w w' : World} (h : SpW A B w w') : Outs A B w w' := ⟨h.os, h.tape, h.output, h.size, h.out⟩
theorem Outs.of_set (w : World) (L k : Nat) (u : Value) : Outs L (L + 1) w (w.setCell ⟨L, k, none⟩ u) := by
  have h := (Below.refl L w).setCell (p := ⟨L, k, none⟩) (Nat.le_refl _) u
  refine ⟨h.os, h.tape, h.output, h.size, fun j hj hne => ?_⟩
  exact Below.heap_setCell _ _ _ _ (by show j ≠ L; omega)
theorem Outs.trans {A B : Nat} {a b c : World} (h : Outs A B a b) (k : Outs A B b c) : Outs A B a c :=
  ⟨k.os.trans h.os, k.tape.trans h.tape, k.output.trans h.output, Nat.le_trans h.size k.size, fun i hi ho => (k.block i (Nat.lt_of_lt_of_le hi h.size) ho).trans (h.block i hi ho)⟩
def Fct.apart (A B : Nat) : Fct → Prop
  | .blk L _ => L < A ∨ B ≤ L
  | .rd A1 B1 _ _ => B1 ≤ A ∨ B ≤ A1
  | .rx S _ _ => ∀ b, S b → b < A ∨ B ≤ b
  | .nw A1 B1 _ _ => B1 ≤ A ∨ B ≤ A1
  | .kp A1 B1 A2 B2 _ _ _ => (B1 ≤ A ∨ B ≤ A1) ∧ (B2 ≤ A ∨ B ≤ A2)
  | .base w0 => w0.heap.size ≤ A
def Aparts (A B : Nat) : List Fct → Prop
  | [] => True
  | f :: fs => f.apart A B ∧ Aparts A B fs
theorem cell_eq {w w' : World} {b : Nat} (h : w'.heap[b]? = w.heap[b]?) (o : Nat) : w'.cell? ⟨b, o, none⟩ = w.cell? ⟨b, o, none⟩ := World.cell?_of_block h
theorem Rd.keepX {w w' : World} {A B : Nat} (hk : ∀ b o, A ≤ b → b < B → w'.cell? ⟨b, o, none⟩ = w.cell? ⟨b, o, none⟩) : ∀ (l : TL) (b o : Nat), Rd w A B l b o → Rd w' A B l b o
  | .nil, _, _, _ => trivial
  | .cons f it r, b, o, ⟨ha, hb, ⟨ao, cap, h1, h2, h3, h4⟩, hr⟩ =>
    ⟨ha, hb, ⟨ao, cap, fun j v hj => (hk _ _ ha hb).trans (h1 j v hj), h2, h3, fun hn => by
      obtain ⟨b', o', e, h⟩ := h4 hn
      exact ⟨b', o', e, Rd.keepX hk it b' o' h⟩⟩, Rd.keepX hk r b (o + 9) hr⟩
theorem RdS.keepX {w w' : World} {A B : Nat} {l : TL} {v : Value} (h : RdS w A B l v) (hk : ∀ b o, A ≤ b → b < B → w'.cell? ⟨b, o, none⟩ = w.cell? ⟨b, o, none⟩) : RdS w' A B l v := by
  obtain ⟨ao, cap, e, h1, h2, h3⟩ := h
  exact ⟨ao, cap, e, h1, h2, fun hn => (h3 hn).imp fun b hb => hb.imp fun o ho => ⟨ho.1, Rd.keepX hk l b o ho.2⟩⟩
theorem Fct.move {A B : Nat} {w w' : World} (hm : Outs A B w w') : ∀ {f : Fct}, f.ok w → f.apart A B → f.ok w'
  | .blk _ _, h, ha => (hm.block _ (lt_of_block h) ha).trans h
  | .rd A1 B1 _ _, ⟨h, hB⟩, ha => by
    have hs := hm.size
    simp only [Fct.apart] at ha
    exact ⟨h.keepX fun b o h1 h2 => cell_eq (hm.block b (by omega) (by omega)) o, by omega⟩
  | .rx S _ _, ⟨h, hS⟩, ha => by
    have hs := hm.size
    exact ⟨h.keep2 (fun _ h => h) fun b o hb => cell_eq (hm.block b (hS b hb) (ha b hb)) o, fun b hb => Nat.lt_of_lt_of_le (hS b hb) hs⟩
  | .nw A1 B1 _ _, ⟨h, h1, h2⟩, ha => by
    have hs := hm.size
    simp only [Fct.apart] at ha
    exact ⟨h.keep fun k h3 h4 => hm.block k (by omega) (by omega), h1, by omega⟩
  | .kp A1 B1 A2 B2 _ _ _, ⟨h, h1, h2, h3⟩, ⟨ha, ha2⟩ => by
    have hs := hm.size
    exact ⟨h.keep (fun k h4 h5 => hm.block k (by omega) (by omega)) (fun b o h4 h5 => cell_eq (hm.block b (by omega) (by omega)) o), h1, by omega, by omega⟩
  | .base w0, h, ha => by
    have hs := h.size
    simp only [Fct.apart] at ha
    exact h.trans ⟨hm.os, hm.tape, hm.output, hm.size, fun k hk => hm.block k (by omega) (.inl (by omega))⟩
theorem Bk.move {A B : Nat} {w w' : World} (hm : Outs A B w w') : ∀ {fs : List Fct}, Bk w fs → Aparts A B fs → Bk w' fs
  | [], _, _ => trivial
  | _ :: _, ⟨h1, h2⟩, ⟨a1, a2⟩ => ⟨Fct.move hm h1 a1, Bk.move hm h2 a2⟩
theorem Fct.below {w w' : World} (hb : Below w.heap.size w w') : ∀ {f : Fct}, f.ok w → f.ok w' := by
  intro f h
  refine Fct.move (A := w.heap.size) (B := w.heap.size) (Outs.of_below hb) h ?_
  cases f with
  | blk L c => have := lt_of_block h; simp only [Fct.apart]; omega
  | rd A1 B1 _ _ => exact .inl h.2
  | rx S _ _ => exact fun b hS => .inl (h.2 b hS)
  | nw A1 B1 _ _ => exact .inl h.2.2
  | kp A1 B1 A2 B2 _ _ _ => exact ⟨.inl h.2.2.1, .inl h.2.2.2⟩
  | base w0 => exact Below.size h
theorem Bk.below {w w' : World} : ∀ {fs : List Fct}, Bk w fs → Below w.heap.size w w' → Bk w' fs
  | [], _, _ => trivial
  | _ :: _, ⟨h1, h2⟩, hb => ⟨Fct.below hb h1, Bk.below h2 hb⟩
theorem Bk.alloc {w : World} {fs : List Fct} (h : Bk w fs) (o : Obj) : Bk (w.alloc o) fs := h.below (below_alloc w o)
theorem Bk.drew {w : World} {fs : List Fct} (h : Bk w fs) (n : Nat) : Bk (w.drewN n) fs := h.below ⟨rfl, rfl, rfl, Nat.le_refl _, fun _ _ => rfl⟩
theorem Bk.add {w : World} {fs : List Fct} {f : Fct} (h : Bk w fs) (h2 : f.ok w) : Bk w (f :: fs) := ⟨h2, h⟩
theorem Bk.box {w : World} {fs : List Fct} (h : Bk w fs) (c : Array Value) : Bk (w.alloc (.cells c 24 (0, 0))) (.blk w.heap.size c :: fs) := (h.alloc _).add (heap_alloc_new w _)
theorem Bk.boxN {w : World} {fs : List Fct} (h : Bk w fs) (c : Array Value) {n : Nat} (hn : w.heap.size = n) : Bk (w.alloc (.cells c 24 (0, 0))) (.blk n c :: fs) := hn ▸ h.box c
theorem Bk.get {w : World} : ∀ {fs : List Fct} (_ : Bk w fs) (k : Nat) {f : Fct}, fs[k]? = some f → f.ok w
  | [], _, _, _, e => by simp at e
  | _ :: _, h, 0, _, e => by
    simp only [List.getElem?_cons_zero, Option.some.injEq] at e
    subst e; exact h.1
  | _ :: _, h, k + 1, _, e => Bk.get h.2 k (by simpa using e)
theorem Bk.del {w : World} : ∀ {fs : List Fct} (_ : Bk w fs) (k : Nat), Bk w (fs.eraseIdx k)
  | [], h, _ => h
  | _ :: _, h, 0 => h.2
  | _ :: _, h, k + 1 => ⟨h.1, Bk.del h.2 k⟩
theorem Bk.blk {w : World} {fs : List Fct} (h : Bk w fs) (k : Nat) {L : Nat} {c : Array Value} (e : fs[k]? = some (.blk L c)) : w.heap[L]? = some (.cells c 24 (0, 0)) := h.get k e
theorem Bk.rd {w : World} {fs : List Fct} (h : Bk w fs) (k : Nat) {A B : Nat} {l : TL} {v : Value} (e : fs[k]? = some (.rd A B l v)) : RdS w A B l v ∧ B ≤ w.heap.size := h.get k e
theorem Bk.rx {w : World} {fs : List Fct} (h : Bk w fs) (k : Nat) {S : Nat → Prop} {l : TL} {v : Value} (e : fs[k]? = some (.rx S l v)) : RdXS w S l v ∧ ∀ b, S b → b < w.heap.size := h.get k e
theorem Bk.nw {w : World} {fs : List Fct} (h : Bk w fs) (k : Nat) {A B : Nat} {l : TL} {v : Value} (e : fs[k]? = some (.nw A B l v)) : NwS w A B l v ∧ A ≤ B ∧ B ≤ w.heap.size := h.get k e
theorem Bk.kp {w : World} {fs : List Fct} (h : Bk w fs) (k : Nat) {A B A' B' : Nat} {l : TL} {v v' : Value} (e : fs[k]? = some (.kp A B A' B' l v v')) : KpS w A B A' B' l v v' ∧ A ≤ B ∧ B ≤ w.heap.size ∧ B' ≤ w.heap.size := h.get k e
theorem Bk.base {w : World} {fs : List Fct} (h : Bk w fs) (k : Nat) {w0 : World} (e : fs[k]? = some (.base w0)) : Below w0.heap.size w0 w := h.get k e
theorem outs_nine (w : World) (L : Nat) (a0 a1 a2 a3 a4 a5 a6 a7 a8 : Value) : Outs L (L + 1) w (((((((((w.setCell ⟨L, 0, none⟩ a0).setCell ⟨L, 1, none⟩ a1).setCell ⟨L, 2, none⟩ a2).setCell ⟨L, 3, none⟩ a3).setCell ⟨L, 4, none⟩ a4).setCell ⟨L, 5, none⟩ a5).setCell ⟨L, 6, none⟩ a6).setCell ⟨L, 7, none⟩ a7).setCell ⟨L, 8, none⟩ a8) :=
  ((((((((Outs.of_set w L 0 a0).trans (Outs.of_set _ L 1 a1)).trans (Outs.of_set _ L 2 a2)).trans (Outs.of_set _ L 3 a3)).trans (Outs.of_set _ L 4 a4)).trans (Outs.of_set _ L 5 a5)).trans (Outs.of_set _ L 6 a6)).trans (Outs.of_set _ L 7 a7)).trans (Outs.of_set _ L 8 a8)
/-- nine stores into a box -/
theorem Bk.put {w : World} {fs : List Fct} (h : Bk w fs) (k : Nat) {L : Nat} {c0 c1 c2 c3 c4 c5 c6 c7 c8 : Value} (e : fs[k]? = some (.blk L #[c0, c1, c2, c3, c4, c5, c6, c7, c8])) (ha : Aparts L (L + 1) (fs.eraseIdx k)) (a0 a1 a2 a3 a4 a5 a6 a7 a8 : Value) :
    Bk (((((((((w.setCell ⟨L, 0, none⟩ a0).setCell ⟨L, 1, none⟩ a1).setCell ⟨L, 2, none⟩ a2).setCell ⟨L, 3, none⟩ a3).setCell ⟨L, 4, none⟩ a4).setCell ⟨L, 5, none⟩ a5).setCell ⟨L, 6, none⟩ a6).setCell ⟨L, 7, none⟩ a7).setCell ⟨L, 8, none⟩ a8) (.blk L #[a0, a1, a2, a3, a4, a5, a6, a7, a8] :: fs.eraseIdx k) :=
  Bk.add (Bk.move (outs_nine w L a0 a1 a2 a3 a4 a5 a6 a7 a8) (h.del k) ha) (nine_blk (h.blk k e) a0 a1 a2 a3 a4 a5 a6 a7 a8)
/-- what any fact on a term says of its reading from the ground up -/
theorem Bk.rd0 {w : World} {fs : List Fct} (h : Bk w fs) (k : Nat) {A B : Nat} {l : TL} {v : Value} (e : fs[k]? = some (.rd A B l v)) : RdS w 0 w.heap.size l v := ((h.rd k e).1.less (Nat.zero_le _)).more (h.rd k e).2
theorem Bk.nw0 {w : World} {fs : List Fct} (h : Bk w fs) (k : Nat) {A B : Nat} {l : TL} {v : Value} (e : fs[k]? = some (.nw A B l v)) : RdS w 0 w.heap.size l v := ((h.nw k e).1.rds.less (Nat.zero_le _)).more (h.nw k e).2.2
theorem Bk.kp0 {w : World} {fs : List Fct} (h : Bk w fs) (k : Nat) {A B A' B' : Nat} {l : TL} {v v' : Value} (e : fs[k]? = some (.kp A B A' B' l v v')) : RdS w 0 w.heap.size l v := ((h.kp k e).1.nws.rds.less (Nat.zero_le _)).more (h.kp k e).2.2.1
theorem Bk.rx0 {w : World} {fs : List Fct} (h : Bk w fs) (k : Nat) {S : Nat → Prop} {l : TL} {v : Value} (e : fs[k]? = some (.rx S l v)) : RdS w 0 w.heap.size l v := (h.rx k e).1.rd0 (h.rx k e).2
/-- a row of one term, made of a term that is read -/
theorem RdS.one0 {W : World} {f : Fd} {it : TL} {ai : Option Addr} {ci : Nat} (h : RdS W 0 W.heap.size it (.slice ai it.len ci)) :
    RdS (W.alloc (.cells #[.int .i64 f.k, .int .i64 f.i, .int .i64 f.g, .string f.nm, .string f.fn, .int .i64 f.ar, .slice ai it.len ci, .string f.bs, .int .i64 f.n] 24 (0, 0))) 0 (W.heap.size + 1) (.cons f it .nil) (.slice (some ⟨W.heap.size, 0, none⟩) 1 1) :=
  RdS.one (h.below (below_alloc W _) (Nat.le_refl _)) (heap_alloc_new W _) (Nat.zero_le _) (Nat.le_refl _) (Nat.le_refl _) (by unfold maxLen; omega)
theorem Great_no (l : TL) (v : Value) (w : World) (A B : Nat) (most : Int) (hv : RdS w A B l v) (hB : B ≤ w.heap.size) (h0 : -1 ≤ most) (h1 : most ≤ 1000000) (hg : 0 ≤ leftF l most) :
    Calls Try.prog 17 #[v, .int .i64 most] w fun e w' => e = .returned (.bool false) ∧ Below w.heap.size w w' :=
  (Great_any l v w A B most hv hB h0 h1).mono fun e w' h => ⟨h.1.trans (by rw [decide_eq_false (by omega)]), h.2⟩
theorem Great_yes (l : TL) (v : Value) (w : World) (A B : Nat) (most : Int) (hv : RdS w A B l v) (hB : B ≤ w.heap.size) (h0 : -1 ≤ most) (h1 : most ≤ 1000000) (hg : leftF l most < 0) :
    Calls Try.prog 17 #[v, .int .i64 most] w fun e w' => e = .returned (.bool true) ∧ Below w.heap.size w w' :=
  (Great_any l v w A B most hv hB h0 h1).mono fun e w' h => ⟨h.1.trans (by rw [decide_eq_true hg]), h.2⟩
/-- equal terms are found the same -/
theorem kitSame_eq (f : Fd) (it : TL) (ai ai' : Option Addr) (ci ci' : Nat) (w : World) (h : RdS w 0 w.heap.size it (.slice ai it.len ci)) (h' : RdS w 0 w.heap.size it (.slice ai' it.len ci')) :
    Calls Try.prog 30 #[.agg #[.int .i64 f.k, .int .i64 f.i, .int .i64 f.g, .string f.nm, .string f.fn, .int .i64 f.ar, .slice ai it.len ci, .string f.bs, .int .i64 f.n], .agg #[.int .i64 f.k, .int .i64 f.i, .int .i64 f.g, .string f.nm, .string f.fn, .int .i64 f.ar, .slice ai' it.len ci', .string f.bs, .int .i64 f.n]] w fun e w' => e = .returned (.bool true) ∧ Below w.heap.size w w' :=
  ((kitSame_all it.cnt).1 f it f it _ _ w 0 w.heap.size (Nat.le_refl _) ⟨_, rfl, h⟩ ⟨_, rfl, h'⟩ (Nat.le_refl _)).mono fun e w' h => ⟨h.1.trans (by rw [Fd.same_iff.2 rfl, TL.same_iff.2 rfl]; rfl), h.2⟩
theorem kitList_eq (l : TL) (v v' : Value) (w : World) (h : RdS w 0 w.heap.size l v) (h' : RdS w 0 w.heap.size l v') :
    Calls Try.prog 55 #[v, v'] w fun e w' => e = .returned (.bool true) ∧ Below w.heap.size w w' :=
  ((kitSame_all l.cnt).2 l l _ _ w 0 w.heap.size (Nat.le_refl _) h h' (Nat.le_refl _)).mono fun e w' h => ⟨h.1.trans (by rw [TL.same_iff.2 rfl]), h.2⟩
/-- what few parts mean -/
theorem tame_of {f : Fd} {it : TL} {m : Int} (hm : m ≤ 1000000) (h : 0 ≤ leftF (.cons f it .nil) m) : tame f it ∧ (it.cnt : Int) + 1 ≤ m := by
  obtain ⟨h1, h2⟩ := leftF_cnt _ _ h
  have h3 := TL.small_mono (m' := 1000000) (by omega) _ h2
  simp only [TL.cnt, TL.small] at h1 h3
  exact ⟨⟨by omega, h3.1, h3.2.1, h3.2.2.1, h3.2.2.2.1⟩, by omega⟩
end Go.Proofs.Ytgbaelkoblnlhaa
