/-
  Walks: the counting of a term: (*measure).of, its closure, ContainsFunc and IndexFunc.
-/
import Derived.Test.YtgfodedmcjkmaaaDoorKindAll
import Derived.Test.YtgfodedmcjkmaaaDoorTermsSame
import Derived.Deep.DeepCutAuto
import Derived.Deep.CutBlock
import Derived.Outline
import Derived.StillTailTactics
namespace Go.Proofs.YtgfodedmcjkmaaaDoor
open Go.RowKit
/-- block M holds the measure: the table and what has been counted -/
def Ms (w : World) (M : Nat) (s : Int) : Prop := w.heap[M]? = some (.cells #[.func (.func 73) #[] #[], .func (.func 74) #[] #[], .func (.func 75) #[] #[], .func (.func 70) #[] #[], .func (.func 76) #[] #[], .func (.func 77) #[] #[], .func (.func 70) #[] #[], .func (.func 78) #[] #[], .func (.func 79) #[] #[], .func (.func 80) #[] #[], .func (.func 81) #[] #[], .int .i64 s] 93 (0, 0))
theorem Ms.fn {w : World} {M : Nat} {s : Int} (h : Ms w M s) {j : Nat} (hj : j < 11) : w.cell? ⟨M, j, none⟩ = some (.func (.func (kindFn j)) #[] #[]) := by
  rw [cells_of h]
  match j, hj with
  | 0, _ | 1, _ | 2, _ | 3, _ | 4, _ | 5, _ | 6, _ | 7, _ | 8, _ | 9, _ | 10, _ => rfl
theorem gr_of_below {w w' : World} {M : Nat} (h : Below w.heap.size w w') : w.grownBy w' (some M) := ⟨h.os, h.tape, h.output, h.size, fun k hk _ => h.block k hk⟩
theorem gr_trans {a b c : World} {M : Nat} (h : a.grownBy b (some M)) (k : b.grownBy c (some M)) : a.grownBy c (some M) := ⟨k.os.trans h.os, k.tape.trans h.tape, k.output.trans h.output, Nat.le_trans h.size k.size, fun i hi hne => (k.block i (Nat.lt_of_lt_of_le hi h.size) hne).trans (h.block i hi hne)⟩
theorem gr_below {w w' : World} {M B : Nat} (h : w.grownBy w' (some M)) (hB : B ≤ M) (hM : M < w.heap.size) : Below B w w' := ⟨h.os, h.tape, h.output, h.size, fun k hk => h.block k (by omega) (by simp; omega)⟩
theorem gr_keep {w w' : World} {M k : Nat} {o : Obj} (h : w.grownBy w' (some M)) (hk : w.heap[k]? = some o) (hne : k ≠ M) : w'.heap[k]? = some o := (h.block k (lt_of_block hk) (by simpa using hne)).trans hk
theorem callFunc_enter {F : FuncId} {fn : Func} (hf : Tryd.prog.funcs[F]? = some fn) (hn : (fn.name == "runtime.NumGoroutine") = false) (hb : fn.body.isNone = false) (args : Array Value) (W : World) : (callFunc F args).run Tryd.prog W = .ok (.enter F args) W := by
  simp only [beq_eq_false_iff_ne, ne_eq] at hn
  have hb2 : fn.body ≠ none := by intro e; rw [e] at hb; cases hb
  simp [callFunc, go_sem, hf, hn, hb2]
theorem callFunc_kind {j : Nat} (hj : j < 11) (args : Array Value) (W : World) : (callFunc (kindFn j) args).run Tryd.prog W = .ok (.enter (kindFn j) args) W := by
  match j, hj with
  | 0, _ => exact callFunc_enter Tryd.func73 (by kernel_rfl) (by kernel_rfl) args W
  | 1, _ => exact callFunc_enter Tryd.func74 (by kernel_rfl) (by kernel_rfl) args W
  | 2, _ => exact callFunc_enter Tryd.func75 (by kernel_rfl) (by kernel_rfl) args W
  | 3, _ => exact callFunc_enter Tryd.func70 (by kernel_rfl) (by kernel_rfl) args W
  | 4, _ => exact callFunc_enter Tryd.func76 (by kernel_rfl) (by kernel_rfl) args W
  | 5, _ => exact callFunc_enter Tryd.func77 (by kernel_rfl) (by kernel_rfl) args W
  | 6, _ => exact callFunc_enter Tryd.func70 (by kernel_rfl) (by kernel_rfl) args W
  | 7, _ => exact callFunc_enter Tryd.func78 (by kernel_rfl) (by kernel_rfl) args W
  | 8, _ => exact callFunc_enter Tryd.func79 (by kernel_rfl) (by kernel_rfl) args W
  | 9, _ => exact callFunc_enter Tryd.func80 (by kernel_rfl) (by kernel_rfl) args W
  | 10, _ => exact callFunc_enter Tryd.func81 (by kernel_rfl) (by kernel_rfl) args W
def OfR (f : Fd) (it : TL) (M : Nat) (s : Nat) (w : World) (e : Ending) (w' : World) : Prop := e = .returned (.bool (formT f it)) ∧ (∃ s' : Int, Ms w' M s' ∧ (formT f it = true → s' = ((s + wholeT f it : Nat) : Int))) ∧ w.grownBy w' (some M)
def OfC (m : Nat) : Prop := ∀ (f : Fd) (it : TL) (iv : Value) (w : World) (A B M s : Nat), it.cnt ≤ m → s + 260 * (it.cnt + 1) ≤ 1000000001 → smallT 1000000 f it → RdS w A B it iv → B ≤ M → Ms w M s → Calls Tryd.prog 64 #[.pointer (some ⟨M, 0, none⟩), .agg #[.int .i64 f.k, .int .i64 f.i, .int .i64 f.g, .string f.nm, .string f.fn, .int .i64 f.ar, iv, .string f.bs, .int .i64 f.n]] w (OfR f it M s w)
def ContR (l : TL) (M s : Nat) (w : World) (e : Ending) (w' : World) : Prop := e = .returned (.bool (!formL l)) ∧ (∃ s' : Int, Ms w' M s' ∧ (formL l = true → s' = ((s + wholeL l : Nat) : Int))) ∧ w.grownBy w' (some M)
def ContC (m : Nat) : Prop := ∀ (l : TL) (v : Value) (w : World) (A B M Hb s : Nat), l.cnt ≤ m → s + 260 * l.cnt ≤ 1000000000 + l.len → l.small 1000000 → RdS w A B l v → B ≤ M → Ms w M s → w.heap[Hb]? = some (.cells #[.pointer (some ⟨M, 0, none⟩)] 88 (0, 0)) → Hb ≠ M →
  Calls Tryd.prog 83 #[v, .func (.func 84) #[] #[.pointer (some ⟨Hb, 0, none⟩)]] w (ContR l M s w)
theorem smallT_it {m : Nat} {f : Fd} {it : TL} (h : smallT m f it) : it.small m := h.2.2.2
theorem wholeT_le2 {f : Fd} {it : TL} (h : formT f it = true) : wholeT f it ≤ 257 + 260 * it.cnt := by
  obtain ⟨hn, hi⟩ := form_node h
  have h1 := wholeL_le it hi
  have h3 := base_le (node_ok hn)
  unfold wholeT; omega
theorem Ms.put {w : World} {M : Nat} {s : Int} (h : Ms w M s) (x : Int) : Ms (w.setCell ⟨M, 11, none⟩ (.int .i64 x)) M x :=
  blk_set (c := [.func (.func 73) #[] #[], .func (.func 74) #[] #[], .func (.func 75) #[] #[], .func (.func 70) #[] #[], .func (.func 76) #[] #[], .func (.func 77) #[] #[], .func (.func 70) #[] #[], .func (.func 78) #[] #[], .func (.func 79) #[] #[], .func (.func 80) #[] #[], .func (.func 81) #[] #[], .int .i64 s]) h 11 (.int .i64 x)
theorem gr_set {w W : World} {M k : Nat} {u : Value} (h : w.grownBy W (some M)) : w.grownBy (W.setCell ⟨M, k, none⟩ u) (some M) := by
  refine ⟨h.os, h.tape, h.output, ?_, fun i hi hne => ?_⟩
  · rw [size_setCell]; exact h.size
  · rw [Below.heap_setCell _ _ _ _ (by intro e; exact hne (by rw [e]))]; exact h.block i hi hne
theorem nodeB_false {f : Fd} {it : TL} (h : okK f it = false ∨ zeroB (bareF f) (bareN f it.len) = false) : formT f it = false := by
  unfold formT nodeB
  rcases h with h | h
  · rw [h, Bool.and_false]; rfl
  · rw [h]; rfl
theorem nodeB_true {f : Fd} {it : TL} (h : okK f it = true) (h2 : zeroB (bareF f) (bareN f it.len) = true) : formT f it = formL it := by
  unfold formT nodeB
  rw [h, h2]; rfl
theorem bareF_k (f : Fd) : (bareF f).k = 0 := by
  unfold bareF
  split
  · rfl
  split
  · rfl
  split
  · rfl
  split
  · rfl
  split
  · rfl
  split <;> rfl
theorem form_out {f : Fd} {it : TL} (h : f.k < 0 ∨ 11 ≤ f.k) : formT f it = false := by
  have : okK f it = false := by
    unfold okK
    rw [if_neg (by omega), if_neg (by omega), if_neg (by omega), if_neg (by omega), if_neg (by omega), if_neg (by omega), if_neg (by omega), if_neg (by omega), if_neg (by omega)]
  unfold formT nodeB
  rw [this, Bool.and_false]; rfl
def LeftB (f : Fd) (n L : Nat) (ao : Option Addr) (cap : Nat) (w : World) : Prop := ∃ ai ci, w.heap[L]? = some (.cells #[.int .i64 (leftK f).k, .int .i64 (leftK f).i, .int .i64 (leftK f).g, .string (leftK f).nm, .string (leftK f).fn, .int .i64 (leftK f).ar, .slice ai (bareN f n) ci, .string (leftK f).bs, .int .i64 (leftK f).n] 24 (0, 0)) ∧ Ori f ao cap ai ci
/-- the items that are left -/
def bareIt (f : Fd) (it : TL) : TL := if dropsK f.k then .nil else it
theorem bareIt_len (f : Fd) (it : TL) : (bareIt f it).len = bareN f it.len := by unfold bareIt bareN; cases dropsK f.k <;> rfl
theorem bareIt_rds {w : World} {A B : Nat} {f : Fd} {it : TL} {ao ai : Option Addr} {cap ci : Nat} (h : RdS w A B it (.slice ao it.len cap)) (ho : Ori f ao cap ai ci) : RdS w A B (bareIt f it) (.slice ai (bareN f it.len) ci) := by
  unfold bareIt bareN
  rcases ho with ⟨h1, rfl, rfl⟩ | ⟨h1, rfl, rfl⟩
  · rw [h1]; exact h
  · rw [h1]; exact RdS.nil _ _ _
theorem zero_same (f : Fd) (it : TL) : (f.same Fd.zero && it.same .nil) = zeroB f it.len := by
  unfold zeroB
  congr 1
  cases it with
  | nil => rw [TL.same_nil]; rfl
  | cons f it r => rw [TL.same_len (by simp [TL.len])]; rfl
theorem keep_al {w : World} {a : Addr} {v : Value} (h : w.cell? a = some v) (o : Obj) : (w.alloc o).cell? a = some v := by
  have hlt : a.block < w.heap.size := World.block_lt_of_cell? w a h
  rw [World.cell?_of_block (w := w) (Below.heap_alloc _ _ _ hlt)]; exact h
theorem keep_setN {W : World} {L k : Nat} {u : Value} {b o : Nat} {v : Value} (h : W.cell? ⟨b, o, none⟩ = some v) (hne : b ≠ L) : (W.setCell ⟨L, k, none⟩ u).cell? ⟨b, o, none⟩ = some v := by
  rw [World.cell?_of_block (w := W) (Below.heap_setCell _ _ _ _ hne)]; exact h
theorem alloc_otherN {W : World} {o o' : Obj} {b k : Nat} {v : Value} (h : (W.alloc o).cell? ⟨b, k, none⟩ = some v) (hlt : b < W.heap.size) : (W.alloc o').cell? ⟨b, k, none⟩ = some v := by
  rw [World.cell?_of_block (w := W) (Below.heap_alloc _ _ _ hlt)] at h ⊢; exact h
theorem Ms.setN {w : World} {M L k : Nat} {s : Int} {u : Value} (h : Ms w M s) (hne : M ≠ L) : Ms (w.setCell ⟨L, k, none⟩ u) M s := blk_oth h hne k u
theorem blk_othN {w : World} {L k b : Nat} {u : Value} {o : Obj} (h : w.heap[b]? = some o) (hne : b ≠ L) : (w.setCell ⟨L, k, none⟩ u).heap[b]? = some o := blk_oth h hne k u
theorem bsetN {w W : World} {B L k : Nat} {u : Value} (h : Below B w W) (hp : B ≤ L) : Below B w (W.setCell ⟨L, k, none⟩ u) := h.setCell hp u
theorem Ms.al {w : World} {M : Nat} {s : Int} (h : Ms w M s) (o : Obj) : Ms (w.alloc o) M s := heap_after h o
theorem of_count {w w2 W : World} {A B M : Nat} {s x : Int} {l : TL} {v : Value} {o : Obj} (hB2 : Below w.heap.size w w2) (hM2 : Ms w2 M s) (hA2 : w2.heap[w.heap.size]? = some o) (hMw : M < w.heap.size) (hB : B ≤ M) (hs : RdS w A B l v) (hW : W = w2.setCell ⟨M, 11, none⟩ (.int .i64 x) ∨ W = (w2.setCell ⟨M, 11, none⟩ (.int .i64 x)).drew) :
    RdS W A B l v ∧ Ms W M x ∧ W.heap[w.heap.size]? = some o ∧ w.grownBy W (some M) := by
  have h : RdS (w2.setCell ⟨M, 11, none⟩ (.int .i64 x)) A B l v ∧ Ms (w2.setCell ⟨M, 11, none⟩ (.int .i64 x)) M x ∧ (w2.setCell ⟨M, 11, none⟩ (.int .i64 x)).heap[w.heap.size]? = some o ∧ w.grownBy (w2.setCell ⟨M, 11, none⟩ (.int .i64 x)) (some M) :=
    ⟨hs.below (bsetN (hB2.mono (by omega)) hB) (Nat.le_refl _), hM2.put x, blk_othN hA2 (by omega), gr_set (gr_of_below hB2)⟩
  rcases hW with rfl | rfl
  · exact h
  · obtain ⟨h1, h2, h3, h4⟩ := h
    exact ⟨h1.drew 1, h2, h3, ⟨h4.os, h4.tape, h4.output, h4.size, h4.block⟩⟩
theorem wayA {w w1 : World} {oA oB : Obj} {M : Nat} {s : Int} (oL : Obj) (hM : Ms w M s) (hb : Below ((w.alloc oA).alloc oB).heap.size ((w.alloc oA).alloc oB) w1) :
    w.heap.size + 2 ≤ w1.heap.size ∧ (w1.alloc oL).heap[w1.heap.size]? = some oL ∧ (w1.alloc oL).heap[w.heap.size]? = some oA ∧ (w1.alloc oL).heap[w.heap.size + 1]? = some oB ∧ Ms (w1.alloc oL) M s ∧ Below w.heap.size w (w1.alloc oL) :=
  ⟨by have := hb.size; simp at this; omega, heap_alloc_new _ _, heap_after (keepB hb (new2_0 w oA oB)) _, heap_after (keepB hb (new2_1 w oA oB)) _, heap_after (keepB hb ((hM.al _).al _)) _, balloc (bstep (balloc (below_alloc _ _) _) hb) _⟩
theorem wayB {w w1 : World} {oA oB oL : Obj} {M : Nat} {s : Int} (hM : Ms w M s) (hb : Below (((w.alloc oA).alloc oB).alloc oL).heap.size (((w.alloc oA).alloc oB).alloc oL) w1) :
    w1.heap[w.heap.size + 1 + 1]? = some oL ∧ w1.heap[w.heap.size]? = some oA ∧ w1.heap[w.heap.size + 1]? = some oB ∧ Ms w1 M s ∧ Below w.heap.size w w1 :=
  ⟨keepB hb (new3_2 w oA oB oL), keepB hb (heap_after (new2_0 w oA oB) _), keepB hb (new3_1 w oA oB oL), keepB hb (((hM.al _).al _).al _), bstep (balloc (balloc (below_alloc _ _) _) _) hb⟩
set_option maxHeartbeats 8000000 in
set_option maxRecDepth 100000 in
theorem of_in (m : Nat) (hI : ContC m) (f : Fd) (it : TL) (iv : Value) (w : World) (A B M s j : Nat) (hm : it.cnt ≤ m) (hsx : s + 260 * (it.cnt + 1) ≤ 1000000001) (hsm : smallT 1000000 f it) (hs : RdS w A B it iv) (hB : B ≤ M) (hM : Ms w M s) (hj : f.k = (j : Int)) (hj11 : j < 11) :
    Calls Tryd.prog 64 #[.pointer (some ⟨M, 0, none⟩), .agg #[.int .i64 f.k, .int .i64 f.i, .int .i64 f.g, .string f.nm, .string f.fn, .int .i64 f.ar, iv, .string f.bs, .int .i64 f.n]] w (OfR f it M s w) := by
  have hMw := lt_of_block hM
  have HI := Lib.hid hI
  unfold ContC at HI
  clear hI
  have HS := Lib.hid hs
  obtain ⟨ao, cap, rfl, hcap, hmax, -⟩ := id hs
  have HK := Lib.hid fun W (hb : Below w.heap.size w W) => kind_all f it ao cap W A B (by omega) (by omega) hsm (hs.below hb (by omega)) (by have := hb.size; omega)
  rw [hj, Int.toNat_natCast] at HK
  clear hs
  unfold maxLen at hmax
  have HJ := Lib.hid hj
  have HM := Lib.hid hM
  have q0 : (0 : Int) ≤ (j : Int) := by omega
  have q1 : (j : Int) < 11 := by omega
  rw [hj]
  clear hM hj
  have hcf := fun (args : Array Value) (W : World) => callFunc_kind hj11 args W
  go_enter Tryd.func64, Tryd.ntmps64
  go_upto_region 3 with (fail)
  generalize hOk : okK f it = ok at HK
  have HOk := Lib.hid hOk
  clear hOk
  go_cut [5, 6] (fun s5 s6 wx => s6 = .bool ok ∧ ∃ L, s5 = .pointer (some ⟨L, 0, none⟩) ∧ Hid (w.heap.size + 2 ≤ L ∧ LeftB f it.len L ao cap wx ∧ wx.heap[w.heap.size]? = some (.cells #[.pointer (some ⟨M, 0, none⟩)] 88 (0, 0)) ∧ wx.heap[w.heap.size + 1]? = some (.cells #[.int .i64 (j : Int), .int .i64 f.i, .int .i64 f.g, .string f.nm, .string f.fn, .int .i64 f.ar, .slice ao it.len cap, .string f.bs, .int .i64 f.n] 24 (0, 0)) ∧ Ms wx M s ∧ Below w.heap.size w wx))
  case first =>
    have p0 := keep_al (cells_of (heap_alloc_new w (.cells #[.pointer (some ⟨M, 0, none⟩)] 88)) 0) (.cells #[.int .i64 (j : Int), .int .i64 f.i, .int .i64 f.g, .string f.nm, .string f.fn, .int .i64 f.ar, .slice ao it.len cap, .string f.bs, .int .i64 f.n] 24)
    have p1 := keep_al (keep_al (HM.out.fn hj11) (.cells #[.pointer (some ⟨M, 0, none⟩)] 88)) (.cells #[.int .i64 (j : Int), .int .i64 f.i, .int .i64 f.g, .string f.nm, .string f.fn, .int .i64 f.ar, .slice ao it.len cap, .string f.bs, .int .i64 f.n] 24)
    have p2 := new2_1 w (.cells #[.pointer (some ⟨M, 0, none⟩)] 88) (.cells #[.int .i64 (j : Int), .int .i64 f.i, .int .i64 f.g, .string f.nm, .string f.fn, .int .i64 f.ar, .slice ao it.len cap, .string f.bs, .int .i64 f.n] 24)
    have HB0 := Lib.hid (balloc (below_alloc w (.cells #[.pointer (some ⟨M, 0, none⟩)] 88)) (.cells #[.int .i64 (j : Int), .int .i64 f.i, .int .i64 f.g, .string f.nm, .string f.fn, .int .i64 f.ar, .slice ao it.len cap, .string f.bs, .int .i64 f.n] 24))
    have P0 := Lib.hid p0
    have P1 := Lib.hid p1
    have P2 := Lib.hid p2
    clear p0 p1 p2
    go_region_held3 (fun w' => w'.cell? ⟨w.heap.size, 0, none⟩ = some (.pointer (some ⟨M, 0, none⟩)) ∧ w'.cell? ⟨M, j, none⟩ = some (.func (.func (kindFn j)) #[] #[]) ∧ w'.cell? ⟨w.heap.size + 1, 0, none⟩ = some (.int .i64 (j : Int)) ∧ w'.cell? ⟨w.heap.size + 1, 1, none⟩ = some (.int .i64 f.i) ∧ w'.cell? ⟨w.heap.size + 1, 2, none⟩ = some (.int .i64 f.g) ∧ w'.cell? ⟨w.heap.size + 1, 3, none⟩ = some (.string f.nm) ∧ w'.cell? ⟨w.heap.size + 1, 4, none⟩ = some (.string f.fn) ∧ w'.cell? ⟨w.heap.size + 1, 5, none⟩ = some (.int .i64 f.ar) ∧ w'.cell? ⟨w.heap.size + 1, 6, none⟩ = some (.slice ao it.len cap) ∧ w'.cell? ⟨w.heap.size + 1, 7, none⟩ = some (.string f.bs) ∧ w'.cell? ⟨w.heap.size + 1, 8, none⟩ = some (.int .i64 f.n))
      (first
        | (go_split_ands; refine ⟨?_, ?_, ?_, ?_, ?_, ?_, ?_, ?_, ?_, ?_, ?_⟩ <;> ((with_reducible refine keep_setN ?_ (by omega)); (repeat (with_reducible refine keep_setN ?_ (by omega))); with_reducible assumption))
        | (exact ⟨P0.out, P1.out, cells_of P2.out 0, cells_of P2.out 1, cells_of P2.out 2, cells_of P2.out 3, cells_of P2.out 4, cells_of P2.out 5, cells_of P2.out 6, cells_of P2.out 7, cells_of P2.out 8⟩)
        | (go_split_ands; refine ⟨?_, ?_, ?_, ?_, ?_, ?_, ?_, ?_, ?_, ?_, ?_⟩ <;> exact keep_al (by assumption) _)
        | (go_split_ands; refine ⟨?_, ?_, ?_, ?_, ?_, ?_, ?_, ?_, ?_, ?_, ?_⟩ <;> exact below_keep hb1 (by assumption))
        | (go_split_ands; refine ⟨?_, ?_, ?_, ?_, ?_, ?_, ?_, ?_, ?_, ?_, ?_⟩ <;> exact alloc_otherN (by assumption) (by omega)))
      (first
        | (((with_reducible refine (HK.out _ ?_).mono ?_); (first | exact HB0.out.drew | exact (HB0.out.drew.alloc (by simp; omega) _)); rintro e w1 ⟨ai1, ci1, rfl, hor1, hb1⟩); have hc1 := bcell hb1; have hz1 := hb1.size; simp at hz1; have hor2 := Lib.hid hor1; clear hor1))
    · have HW := Lib.hid (wayA (.cells #[.int .i64 (leftK f).k, .int .i64 (leftK f).i, .int .i64 (leftK f).g, .string (leftK f).nm, .string (leftK f).fn, .int .i64 (leftK f).ar, .slice ai1 (bareN f it.len) ci1, .string (leftK f).bs, .int .i64 (leftK f).n] 24 (0, 0)) HM.out (hdrew hb1))
      clear hc1 hb1
      go_wp2_with fail
      go_meet
      obtain ⟨h1, h2, h3, h4, h5, h6⟩ := HW.out
      exact ⟨rfl, _, rfl, h1, ⟨_, _, h2, hor2.out⟩, h3, h4, h5, h6⟩
    · have HW := Lib.hid (wayB HM.out (hdrew hb1))
      clear hc1 hb1
      go_wp2_with fail
      go_meet
      obtain ⟨h2, h3, h4, h5, h6⟩ := HW.out
      refine ⟨rfl, _, rfl, Nat.le_refl _, ⟨_, _, nine_blk h2 _ _ _ _ _ _ _ _ _, hor2.out⟩, ?_, ?_, ?_, ?_⟩
      · repeat (with_reducible refine blk_othN ?_ (by omega))
        exact h3
      · repeat (with_reducible refine blk_othN ?_ (by omega))
        exact h4
      · repeat (with_reducible refine Ms.setN ?_ (by omega))
        exact h5
      · repeat (with_reducible refine bsetN ?_ (by omega))
        exact h6
  case rest =>
    obtain ⟨rfl, L, rfl, HC⟩ := hcut
    obtain ⟨hL, ⟨ai, ci, hl, hor⟩, hA, hbx, hms, hbw⟩ := HC.out
    clear HC
    have HL := Lib.hid hl
    have HA := Lib.hid hA
    have HX := Lib.hid hbx
    have HMs := Lib.hid hms
    have HB := Lib.hid hbw
    have hrd := bareIt_rds (HS.out.below hbw (by omega)) hor
    clear hl hor hA hbx hms hbw HK hcf
    have hzw := HB.out.size
    have hzL := lt_of_block HL.out
    cases ok
    case false =>
      have HF := Lib.hid (nodeB_false (.inl HOk.out))
      have d0 : wc.cell? ⟨L, 0, none⟩ = some _ := cells_of HL.out 0
      have fL : ∀ k, wc.frozen? ⟨L, k, none⟩ = false := fun k => frees_of HL.out k
      clear hrd
      go_wp2_with fail
      go_ret
      refine ⟨ret_bool HF.out.symm, ⟨s, HMs.out.setN (by omega), fun h => ?_⟩, gr_of_below (bsetN HB.out (by omega))⟩
      rw [HF.out] at h; cases h
    have hsame := fun W (hb : Below B wc W) => (pgSame_all (bareIt f it).cnt).1 (bareF f) (bareIt f it) Fd.zero .nil (Fd.val (bareF f) (.slice ai (bareN f it.len) ci)) (Fd.val Fd.zero (.slice none 0 0)) W A B (Nat.le_refl _) ⟨_, rfl, hrd.below hb (Nat.le_refl _)⟩ ⟨_, rfl, RdS.nil _ _ _⟩
    have HSame := Lib.hid (show ∀ W, Below B wc W → B ≤ W.heap.size → Calls Tryd.prog 82 #[.agg #[.int .i64 0, .int .i64 (leftK f).i, .int .i64 (leftK f).g, .string (leftK f).nm, .string (leftK f).fn, .int .i64 (leftK f).ar, .slice ai (bareN f it.len) ci, .string (leftK f).bs, .int .i64 (leftK f).n], .agg #[.int .i64 0, .int .i64 0, .int .i64 0, .string ⟨#[]⟩, .string ⟨#[]⟩, .int .i64 0, .slice none 0 0, .string ⟨#[]⟩, .int .i64 0]] W fun e w' => e = .returned (.bool (zeroB (bareF f) (bareN f it.len))) ∧ Below W.heap.size W w' from fun W h1 h2 => by
      have h := hsame W h1 h2
      rw [zero_same, bareIt_len] at h
      have h2 : Calls Tryd.prog 82 #[.agg #[.int .i64 (bareF f).k, .int .i64 (bareF f).i, .int .i64 (bareF f).g, .string (bareF f).nm, .string (bareF f).fn, .int .i64 (bareF f).ar, .slice ai (bareN f it.len) ci, .string (bareF f).bs, .int .i64 (bareF f).n], .agg #[.int .i64 0, .int .i64 0, .int .i64 0, .string ⟨#[]⟩, .string ⟨#[]⟩, .int .i64 0, .slice none 0 0, .string ⟨#[]⟩, .int .i64 0]] W fun e w' => e = .returned (.bool (zeroB (bareF f) (bareN f it.len))) ∧ Below W.heap.size W w' := h
      rw [bareF_k] at h2
      exact h2)
    clear hrd hsame
    generalize hzb : zeroB (bareF f) (bareN f it.len) = z at HSame
    have HZ := Lib.hid hzb
    clear hzb
    have HLc := Lib.hid HL.out
    have d0 : wc.cell? ⟨L, 0, none⟩ = some _ := cells_of HL.out 0
    have d1 : wc.cell? ⟨L, 1, none⟩ = some _ := cells_of HL.out 1
    have d2 : wc.cell? ⟨L, 2, none⟩ = some _ := cells_of HL.out 2
    have d3 : wc.cell? ⟨L, 3, none⟩ = some _ := cells_of HL.out 3
    have d4 : wc.cell? ⟨L, 4, none⟩ = some _ := cells_of HL.out 4
    have d5 : wc.cell? ⟨L, 5, none⟩ = some _ := cells_of HL.out 5
    have d6 : wc.cell? ⟨L, 6, none⟩ = some _ := cells_of HL.out 6
    have d7 : wc.cell? ⟨L, 7, none⟩ = some _ := cells_of HL.out 7
    have d8 : wc.cell? ⟨L, 8, none⟩ = some _ := cells_of HL.out 8
    have fL : ∀ k, wc.frozen? ⟨L, k, none⟩ = false := fun k => frees_of HL.out k
    clear HLc
    go_wp2_with fail
    have hbs := bsetN (Below.refl B wc) (L := L) (k := 0) (u := .int .i64 0) (by omega)
    have HBs := Lib.hid hbs
    clear hbs
    refine (HSame.out _ HBs.out (by rw [size_setCell]; omega)).mono ?_
    rintro e w2 ⟨rfl, hb2⟩
    have HA2 := Lib.hid (keepB hb2 (blk_othN HA.out (by omega)))
    have HX2 := Lib.hid (keepB hb2 (blk_othN HX.out (by omega)))
    have HM2 := Lib.hid (show Ms w2 M s from keepB hb2 (HMs.out.setN (by omega)))
    have HB2 := Lib.hid (bstep (bsetN HB.out (by omega)) hb2)
    have hz2 := HB2.out.size
    clear hb2 HBs fL d0 d1 d2 d3 d4 d5 d6 d7 d8 HA HX HMs HB HL HSame
    cases z
    case false =>
      have HF := Lib.hid (nodeB_false (.inr HZ.out))
      go_wp2_with fail
      go_ret
      refine ⟨ret_bool HF.out.symm, ⟨s, HM2.out, fun h => ?_⟩, gr_of_below HB2.out⟩
      rw [HF.out] at h; cases h
    have HF := Lib.hid (nodeB_true HOk.out HZ.out)
    have hbase := base_le HOk.out
    have hll := TL.len_le_cnt it
    have p0 : w2.cell? ⟨w.heap.size, 0, none⟩ = some _ := cells_of HA2.out 0
    have m11 : w2.cell? ⟨M, 11, none⟩ = some (.int .i64 (s : Int)) := cells_of HM2.out 11
    have fM : ∀ k, w2.frozen? ⟨M, k, none⟩ = false := fun k => frees_of HM2.out k
    have b0 : w2.cell? ⟨w.heap.size + 1, 0, none⟩ = some _ := cells_of HX2.out 0
    have b1 : w2.cell? ⟨w.heap.size + 1, 1, none⟩ = some _ := cells_of HX2.out 1
    have b2 : w2.cell? ⟨w.heap.size + 1, 2, none⟩ = some _ := cells_of HX2.out 2
    have b3 : w2.cell? ⟨w.heap.size + 1, 3, none⟩ = some _ := cells_of HX2.out 3
    have b4 : w2.cell? ⟨w.heap.size + 1, 4, none⟩ = some _ := cells_of HX2.out 4
    have b5 : w2.cell? ⟨w.heap.size + 1, 5, none⟩ = some _ := cells_of HX2.out 5
    have b6 : w2.cell? ⟨w.heap.size + 1, 6, none⟩ = some _ := cells_of HX2.out 6
    have b7 : w2.cell? ⟨w.heap.size + 1, 7, none⟩ = some _ := cells_of HX2.out 7
    have b8 : w2.cell? ⟨w.heap.size + 1, 8, none⟩ = some _ := cells_of HX2.out 8
    by_cases h9 : (j : Int) = 9
    · have x9 : ((j : Int) == 9) = true := by simpa using h9
      have HBase := Lib.hid (show baseN f it.len = it.len - 1 by unfold baseN; rw [if_pos (by rw [HJ.out]; exact h9)])
      have hb9 := HBase.out
      have hl2 := (ok_list HOk.out (by rw [HJ.out]; exact h9)).1
      have q3 : (0 : Int) ≤ (it.len : Int) - 1 := by omega
      have q4 : (s : Int) + ((it.len : Int) - 1) ≤ 1000000001 := by omega
      rw [hb9] at hbase
      have HE := Lib.hid (show ((s + (it.len - 1) : Nat) : Int) = (s : Int) + ((it.len : Int) - 1) by omega)
      clear h9 hb9
      go_wp2_with fail
      go_still_tail 11, (by kernel_rfl)
      go_wp2_with fail
      with_reducible refine (HI.out it _ _ A B M w.heap.size (s + (it.len - 1)) hm (by omega) (smallT_it hsm) ?r1a hB ?r2a ?r3a (by omega)).mono ?r4a
      case r1a => exact (of_count (x := (s : Int) + ((it.len : Int) - 1)) HB2.out HM2.out HA2.out hMw hB HS.out (by first | exact .inl rfl | exact .inr rfl)).1
      case r2a =>
        rw [HE.out]
        exact (of_count (x := (s : Int) + ((it.len : Int) - 1)) HB2.out HM2.out HA2.out hMw hB HS.out (by first | exact .inl rfl | exact .inr rfl)).2.1
      case r3a => exact (of_count (x := (s : Int) + ((it.len : Int) - 1)) HB2.out HM2.out HA2.out hMw hB HS.out (by first | exact .inl rfl | exact .inr rfl)).2.2.1
      rintro e w4 ⟨rfl, ⟨s', hms', hs'⟩, hg⟩
      have HMs' := Lib.hid hms'
      have HS' := Lib.hid hs'
      have HG := Lib.hid (show w.grownBy w4 (some M) from gr_trans (of_count (x := (s : Int) + ((it.len : Int) - 1)) HB2.out HM2.out HA2.out hMw hB HS.out (by first | exact .inl rfl | exact .inr rfl)).2.2.2 hg)
      clear hms' hs' hg
      go_wp2_with fail
      go_ret
      refine ⟨ret_bool HF.out.symm, ⟨s', HMs'.out, fun h => ?_⟩, HG.out⟩
      rw [HF.out] at h
      rw [HS'.out h]
      unfold wholeT
      rw [HBase.out]
      omega
    by_cases h10 : (j : Int) = 10
    · have x9 : ((j : Int) == 9) = false := by simpa using h9
      have x10 : ((j : Int) == 10) = true := by simpa using h10
      have HBase := Lib.hid (show baseN f it.len = 1 + (f.n.toNat + 63) / 64 by unfold baseN; rw [if_neg (by rw [HJ.out]; exact h9), if_pos (by rw [HJ.out]; exact h10)])
      have hb9 := HBase.out
      obtain ⟨n0, n1, -⟩ := ok_bits HOk.out (by rw [HJ.out]; exact h10)
      rw [hb9] at hbase
      have HE := Lib.hid (show ((s + (1 + (f.n.toNat + 63) / 64) : Nat) : Int) = (s : Int) + (1 + (f.n + 63) / 64) by omega)
      clear h9 hb9 h10
      go_wp2_with fail
      go_still_tail 12, (by kernel_rfl)
      go_wp2_with fail
      with_reducible refine (HI.out it _ _ A B M w.heap.size (s + (1 + (f.n.toNat + 63) / 64)) hm (by omega) (smallT_it hsm) ?r1b hB ?r2b ?r3b (by omega)).mono ?r4b
      case r1b => exact (of_count (x := (s : Int) + (1 + (f.n + 63) / 64)) HB2.out HM2.out HA2.out hMw hB HS.out (by first | exact .inl rfl | exact .inr rfl)).1
      case r2b =>
        rw [HE.out]
        exact (of_count (x := (s : Int) + (1 + (f.n + 63) / 64)) HB2.out HM2.out HA2.out hMw hB HS.out (by first | exact .inl rfl | exact .inr rfl)).2.1
      case r3b => exact (of_count (x := (s : Int) + (1 + (f.n + 63) / 64)) HB2.out HM2.out HA2.out hMw hB HS.out (by first | exact .inl rfl | exact .inr rfl)).2.2.1
      rintro e w4 ⟨rfl, ⟨s', hms', hs'⟩, hg⟩
      have HMs' := Lib.hid hms'
      have HS' := Lib.hid hs'
      have HG := Lib.hid (show w.grownBy w4 (some M) from gr_trans (of_count (x := (s : Int) + (1 + (f.n + 63) / 64)) HB2.out HM2.out HA2.out hMw hB HS.out (by first | exact .inl rfl | exact .inr rfl)).2.2.2 hg)
      clear hms' hs' hg
      go_wp2_with fail
      go_ret
      refine ⟨ret_bool HF.out.symm, ⟨s', HMs'.out, fun h => ?_⟩, HG.out⟩
      rw [HF.out] at h
      rw [HS'.out h]
      unfold wholeT
      rw [HBase.out]
      omega
    have x9 : ((j : Int) == 9) = false := by simpa using h9
    have x10 : ((j : Int) == 10) = false := by simpa using h10
    have HBase := Lib.hid (show baseN f it.len = 1 by unfold baseN; rw [if_neg (by rw [HJ.out]; exact h9), if_neg (by rw [HJ.out]; exact h10)])
    have hb9 := HBase.out
    rw [hb9] at hbase
    have HE := Lib.hid (show ((s + 1 : Nat) : Int) = (s : Int) + 1 by omega)
    clear h9 h10 hb9
    go_wp2_with fail
    with_reducible refine (HI.out it _ _ A B M w.heap.size (s + 1) hm (by omega) (smallT_it hsm) ?r1c hB ?r2c ?r3c (by omega)).mono ?r4c
    case r1c => exact (of_count (x := (s : Int) + 1) HB2.out HM2.out HA2.out hMw hB HS.out (by first | exact .inl rfl | exact .inr rfl)).1
    case r2c =>
      rw [HE.out]
      exact (of_count (x := (s : Int) + 1) HB2.out HM2.out HA2.out hMw hB HS.out (by first | exact .inl rfl | exact .inr rfl)).2.1
    case r3c => exact (of_count (x := (s : Int) + 1) HB2.out HM2.out HA2.out hMw hB HS.out (by first | exact .inl rfl | exact .inr rfl)).2.2.1
    rintro e w4 ⟨rfl, ⟨s', hms', hs'⟩, hg⟩
    have HMs' := Lib.hid hms'
    have HS' := Lib.hid hs'
    have HG := Lib.hid (show w.grownBy w4 (some M) from gr_trans (of_count (x := (s : Int) + 1) HB2.out HM2.out HA2.out hMw hB HS.out (by first | exact .inl rfl | exact .inr rfl)).2.2.2 hg)
    clear hms' hs' hg
    go_wp2_with fail
    go_ret
    refine ⟨ret_bool HF.out.symm, ⟨s', HMs'.out, fun h => ?_⟩, HG.out⟩
    rw [HF.out] at h
    rw [HS'.out h]
    unfold wholeT
    rw [HBase.out]
    omega
end Go.Proofs.YtgfodedmcjkmaaaDoor
