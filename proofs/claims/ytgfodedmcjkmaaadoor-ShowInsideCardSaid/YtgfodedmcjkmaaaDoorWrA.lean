/-
  Walks: the writer of show: what stays while it writes; marked. Walks: the writer of show: a row of terms. Walks: the writer of show: bits.
-/
import Derived.Test.YtgfodedmcjkmaaaDoorWriter
import Derived.Test.YtgfodedmcjkmaaaDoorRdA
import Derived.StillTailTactics
namespace Go.Proofs.YtgfodedmcjkmaaaDoor
open Go.RowKit Go.Proofs.BitsM
/-- a walk of the writer: its bytes, a box of its own, the world that it began in -/
structure WS (B b : Nat) (w0 : World) (T : Nat) (c : Array Value) (bs : List UInt8) (w : World) : Prop where
  wr : Wr B b bs w
  wk : Wk B b w0 w
  pw : Pw B w
  box : w.heap[T]? = some (.cells c 24 (0, 0))
  bw : B ≤ w.heap.size
  ne : ¬ T = b
theorem Wr.lt {B b : Nat} {bs : List UInt8} {w : World} (h : Wr B b bs w) : b < w.heap.size := by
  rcases h with ⟨_, v, hb, _⟩ | ⟨_, v, hb, _⟩ <;> exact (Array.getElem?_eq_some_iff.1 hb).1
theorem WS.start {B b : Nat} {bs : List UInt8} {w : World} (h : Wr B b bs w) (hB : B ≤ w.heap.size) (hP : Pw B w) (c : Array Value) : WS B b w w.heap.size c bs (w.alloc (.cells c 24 (0, 0))) :=
  have hk : Wk B b w (w.alloc (.cells c 24 (0, 0))) := Wk.of_below (below_alloc _ _) hB
  ⟨h.keep fun k hk => (below_alloc w _).block k hk, hk, hP.keep hk.low, heap_alloc_new _ _, Nat.le_trans hB hk.low.size, by have := h.lt; omega⟩
theorem WS.step {B b : Nat} {w0 : World} {T : Nat} {c : Array Value} {bs bs' : List UInt8} {w w' : World} (h : WS B b w0 T c bs w) (hx : Wr B b bs' w' ∧ Wk B b w w') : WS B b w0 T c bs' w' :=
  ⟨hx.1, h.wk.trans hx.2, h.pw.keep hx.2.low, hx.2.blk h.box h.ne (by decide), Nat.le_trans h.bw hx.2.low.size, h.ne⟩
theorem WS.drew {B b : Nat} {w0 : World} {T : Nat} {c : Array Value} {bs : List UInt8} {w : World} (h : WS B b w0 T c bs w) : WS B b w0 T c bs w.drew :=
  ⟨h.wr.keep fun _ _ => rfl, ⟨h.wk.low.drew, h.wk.oth⟩, h.pw.keep (Below.drew (Below.refl _ _)), h.box, h.bw, h.ne⟩
theorem WS.byte {B b : Nat} {w0 : World} {T : Nat} {c : Array Value} {bs : List UInt8} {w : World} (h : WS B b w0 T c bs w) (x : UInt8) (n : Int) (hn : (x.toNat : Int) = n) (hl : bs.length ≤ 1000000000) :
    Calls Tryd.prog 34 #[.pointer (some ⟨b, 0, none⟩), .int .u8 n] w fun e w' => e = .returned .nilIface ∧ WS B b w0 T c (bs ++ [x]) w' := by
  subst hn
  exact (WriteByte_any B b bs x w h.wr (by omega) h.bw).mono fun _ _ hx => ⟨hx.1, h.step hx.2⟩
theorem WS.str {B b : Nat} {w0 : World} {T : Nat} {c : Array Value} {bs : List UInt8} {w : World} (h : WS B b w0 T c bs w) (s : ByteArray) (p : List UInt8) (hp : bl s = p) (hl : bs.length + p.length ≤ 1000000000) :
    Calls Tryd.prog 33 #[.pointer (some ⟨b, 0, none⟩), .string s] w fun e w' => (∃ m, e = .returned (.tuple #[.int .i64 m, .nilIface])) ∧ WS B b w0 T c (bs ++ p) w' := by
  subst hp
  have e : s.size = (bl s).length := Array.length_toList.symm
  exact (WriteString_any B b bs s w h.wr (by omega) h.bw).mono fun _ _ hx => ⟨⟨_, hx.1⟩, h.step hx.2⟩
theorem WS.int {B b : Nat} {w0 : World} {T : Nat} {c : Array Value} {bs : List UInt8} {w : World} (h : WS B b w0 T c bs w) (n : Int) (hl : bs.length ≤ 1000000000) (h0 : -9223372036854775808 ≤ n) (h1 : n ≤ 9223372036854775807) :
    Calls Tryd.prog 32 #[.pointer (some ⟨b, 0, none⟩), .int .i64 n] w fun e w' => e = .returned (.tuple #[]) ∧ WS B b w0 T c (bs ++ Lib.itoa n) w' :=
  (int_any B b bs n w h.wr hl h.bw h.pw h0 h1).mono fun _ _ hx => ⟨hx.1, h.step hx.2⟩
theorem WS.sub {B b : Nat} {w0 : World} {T : Nat} {c : Array Value} {bs bs' : List UInt8} {w w' : World} {e : Ending} (h : WS B b w0 T c bs w) (hx : WrPost B b bs' w e w') : e = .returned (.tuple #[]) ∧ WS B b w0 T c bs' w' := ⟨hx.1, h.step hx.2⟩
theorem WS.post {B b : Nat} {w0 : World} {T : Nat} {c : Array Value} {bs bs' : List UInt8} {w : World} (h : WS B b w0 T c bs w) (e : bs = bs') : WrPost B b bs' w0 (.returned (.tuple #[])) w := ⟨rfl, e ▸ h.wr, h.wk⟩
theorem bl_app (s t : ByteArray) : bl (s ++ t) = bl s ++ bl t := by
  have : (s ++ t).data = s.data ++ t.data := ByteArray.data_append
  unfold bl; rw [this, Array.toList_append]
set_option maxRecDepth 100000 in
theorem marked_any (B b : Nat) (bs : List UInt8) (f : Fd) (iv : Value) (w : World) (h : Wr B b bs w) (hlen : bs.length + (markT f).length ≤ 1000000000) (hBw : B ≤ w.heap.size) (hP : Pw B w) (hi : f.iok) (hg : -9223372036854775808 ≤ f.g ∧ f.g ≤ 9223372036854775807) :
    Calls Tryd.prog 35 #[.pointer (some ⟨b, 0, none⟩), .agg #[.int .i64 f.k, .int .i64 f.i, .int .i64 f.g, .string f.nm, .string f.fn, .int .i64 f.ar, iv, .string f.bs, .int .i64 f.n]] w (WrPost B b (bs ++ markT f) w) := by
  have HI := Lib.hid hi
  have HG := Lib.hid hg
  clear hg
  have hml : (markT f).length = (bl f.nm).length + 1 + (Lib.itoa f.g).length + 1 + (Lib.itoa f.i).length := by unfold markT; simp only [List.length_append, List.length_cons]; omega
  have HL := Lib.hid (show bs.length + (bl f.nm).length + 1 + (Lib.itoa f.g).length + 1 + (Lib.itoa f.i).length ≤ 1000000000 by omega)
  have HS := Lib.hid (WS.start h hBw hP #[.int .i64 f.k, .int .i64 f.i, .int .i64 f.g, .string f.nm, .string f.fn, .int .i64 f.ar, iv, .string f.bs, .int .i64 f.n])
  clear h hBw hP hi hlen hml
  go_enter Tryd.func35, Tryd.ntmps35
  go_upto_region 1 with (fail)
  generalize w.alloc _ = w1 at HS ⊢
  have c3 := cells_of HS.out.box 3
  have HSd := Lib.hid (show WS B b w w.heap.size _ bs w1.drew from HS.out.drew)
  have HWs := Lib.hid (HSd.out.str (f.nm ++ ⟨#[46]⟩) (bl f.nm ++ [46]) (bl_app _ _) (by have := HL.out; simp only [List.length_append, List.length_cons, List.length_nil]; omega))
  clear HS
  have hq : ¬ (9223372036854775807 < f.nm.size + 1) := by have := HL.out; have e : f.nm.size = (bl f.nm).length := Array.length_toList.symm; omega
  go_region_held3 (fun w' => w'.cell? ⟨w.heap.size, 3, none⟩ = some (.string f.nm)) (first | exact c3 | exact cells_of HS.out.box 3)
    (first | (go_at_call 33; ((with_reducible refine (HWs.out).mono ?_); rintro e w2 ⟨⟨m2, rfl⟩, hs⟩); have HS := Lib.hid hs))
  clear c3 hq
  have c2 := cells_of HS.out.box 2
  go_wp2_with fail
  refine (HS.out.int _ (by have := HL.out; simp only [List.length_append, List.length_cons, List.length_nil]; omega) HG.out.1 HG.out.2).mono ?_
  rintro e w3 ⟨rfl, hs⟩
  have HS := Lib.hid hs
  clear hs c2
  go_wp2_with fail
  refine (HS.out.byte 46 _ rfl (by have := HL.out; simp only [List.length_append, List.length_cons, List.length_nil]; omega)).mono ?_
  rintro e w4 ⟨rfl, hs⟩
  have HS := Lib.hid hs
  clear hs
  have c1 := cells_of HS.out.box 1
  go_wp2_with fail
  refine (HS.out.int _ (by have := HL.out; simp only [List.length_append, List.length_cons, List.length_nil]; omega) HI.out.1 HI.out.2).mono ?_
  rintro e w5 ⟨rfl, hs⟩
  have HS := Lib.hid hs
  clear hs c1
  go_wp2_with fail
  go_end0
  exact HS.out.post (by unfold markT; simp only [List.append_assoc, List.cons_append, List.nil_append])
end Go.Proofs.YtgfodedmcjkmaaaDoor
namespace Go.Proofs.YtgfodedmcjkmaaaDoor
open Go.RowKit Go.Proofs.BitsM
theorem joinC_app : ∀ (xs ys : List (List UInt8)), ys ≠ [] → xs ≠ [] → joinC (xs ++ ys) = joinC xs ++ 44 :: joinC ys
  | [], _, _, h => absurd rfl h
  | [x], ys, h, _ => by rw [List.singleton_append, joinC_cons' x h, joinC_one]
  | x :: y :: r, ys, h, _ => by
    rw [List.cons_append, joinC_cons' x (by simp), joinC_app (y :: r) ys h (by simp), joinC_cons x y r, List.append_assoc, List.cons_append]
theorem joinC_le (xs ys : List (List UInt8)) : (joinC xs).length ≤ (joinC (xs ++ ys)).length := by
  by_cases hy : ys = []
  · rw [hy, List.append_nil]; exact Nat.le_refl _
  · by_cases hx : xs = []
    · rw [hx]; exact Nat.zero_le _
    · rw [joinC_app xs ys hy hx, List.length_append]; omega
theorem joinC_take (ts : List (List UInt8)) (k : Nat) (x : List UInt8) (h : ts[k]? = some x) : joinC (ts.take (k + 1)) = joinC (ts.take k) ++ ((if k = 0 then [] else [44]) ++ x) := by
  obtain ⟨hk, e⟩ := List.getElem?_eq_some_iff.1 h
  have e2 : ts.take (k + 1) = ts.take k ++ [x] := by rw [List.take_add_one, h]; rfl
  rw [e2]
  by_cases h0 : k = 0
  · subst h0; rw [List.take_zero, List.nil_append, joinC_one, if_pos rfl]; rfl
  · rw [joinC_app _ [x] (by simp) (by intro e; have := congrArg List.length e; rw [List.length_take] at this; simp only [List.length_nil] at this; omega), joinC_one, if_neg h0]; rfl
theorem joinC_take_le (ts : List (List UInt8)) (k : Nat) : (joinC (ts.take k)).length ≤ (joinC ts).length := by
  have := joinC_le (ts.take k) (ts.drop k)
  rw [List.take_append_drop] at this; exact this
theorem texts_drop : ∀ (l : TL) (k : Nat), l.texts.drop k = (l.drop k).texts
  | .nil, k => by cases k <;> simp [TL.texts, TL.drop]
  | .cons f it r, 0 => by rw [TL.drop_zero, List.drop_zero]
  | .cons f it r, k + 1 => by rw [texts_cons, List.drop_succ_cons, TL.drop, texts_drop r k]
theorem texts_at {l : TL} {k : Nat} {f : Fd} {it r : TL} (h : l.drop k = .cons f it r) : l.texts[k]? = some (textT f it) := by
  have := texts_drop l k
  rw [h, texts_cons] at this
  have e := congrArg List.head? this
  rw [List.head?_drop] at e
  exact e
structure WL (B b : Nat) (w0 : World) (bs : List UInt8) (w : World) : Prop where
  wr : Wr B b bs w
  wk : Wk B b w0 w
  pw : Pw B w
  bw : B ≤ w.heap.size
theorem WL.box {B b : Nat} {w0 : World} {bs : List UInt8} {w : World} (h : WL B b w0 bs w) (c : Array Value) : WS B b w0 w.heap.size c bs (w.alloc (.cells c 24 (0, 0))) :=
  have s := WS.start h.wr h.bw h.pw c
  ⟨s.wr, h.wk.trans s.wk, s.pw, s.box, s.bw, s.ne⟩
theorem WS.row {B b : Nat} {w0 : World} {T : Nat} {c : Array Value} {bs : List UInt8} {w : World} (h : WS B b w0 T c bs w) : WL B b w0 bs w := ⟨h.wr, h.wk, h.pw, h.bw⟩
/-- what term writes of terms with fewer than m parts -/
def TermW (m : Nat) : Prop := ∀ (f : Fd) (it : TL) (iv : Value) (B b : Nat) (bs : List UInt8) (A : Nat) (w : World), it.cnt < m → formT f it = true → f.iok → it.iok → bs.length + (textT f it).length ≤ 1000000000 → Wr B b bs w → B ≤ w.heap.size → Pw B w → RdS w A B it iv →
  Calls Tryd.prog 21 #[.pointer (some ⟨b, 0, none⟩), .agg #[.int .i64 f.k, .int .i64 f.i, .int .i64 f.g, .string f.nm, .string f.fn, .int .i64 f.ar, iv, .string f.bs, .int .i64 f.n]] w (WrPost B b (bs ++ textT f it) w)
theorem formL_at : ∀ {l : TL} {k : Nat} {f : Fd} {it r : TL}, formL l = true → l.iok → l.drop k = .cons f it r → formT f it = true ∧ f.iok ∧ it.iok
  | .nil, k, _, _, _, _, _, h => by cases k <;> simp [TL.drop] at h
  | .cons f it r, 0, _, _, _, h1, h2, h => by
    rw [TL.drop_zero] at h; injection h with a b c
    subst a; subst b
    rw [formL_cons, Bool.and_eq_true] at h1
    exact ⟨h1.1, h2.1, h2.2.1⟩
  | .cons f it r, k + 1, _, _, _, h1, h2, h => by
    rw [TL.drop] at h
    rw [formL_cons, Bool.and_eq_true] at h1
    exact formL_at h1.2 h2.2.2 h
set_option maxRecDepth 100000 in
set_option maxHeartbeats 4000000 in
theorem list_w (m : Nat) (hT : TermW m) (l : TL) (v : Value) (B b : Nat) (bs : List UInt8) (A : Nat) (w : World) (hm : l.cnt ≤ m) (hf : formL l = true) (hi : l.iok) (hlen : bs.length + (joinC l.texts).length ≤ 1000000000) (h : Wr B b bs w) (hBw : B ≤ w.heap.size) (hP : Pw B w) (hs : RdS w A B l v) :
    Calls Tryd.prog 36 #[.pointer (some ⟨b, 0, none⟩), v] w (WrPost B b (bs ++ joinC l.texts) w) := by
  have HT := Lib.hid hT
  have HFI := Lib.hid fun k f it r (e : l.drop k = .cons f it r) => formL_at hf hi e
  have HL := Lib.hid hlen
  have HW := Lib.hid (show WL B b w bs w from ⟨h, Wk.refl _ _ _, hP, hBw⟩)
  obtain ⟨ao, cap, rfl, hcap, hmax, hr⟩ := hs
  unfold maxLen at hmax
  have HR := Lib.hid hr
  clear hr hT hf hi h hP hlen
  go_enter Tryd.func36, Tryd.ntmps36
  go_wp2_with fail
  go_loopw [8] (fun i wr => ∃ k : Nat, k ≤ l.len ∧ i = .int .i64 k ∧ Hid (WL B b w (bs ++ joinC (l.texts.take k)) wr)) (fun i _ => l.len - (intOf i).toNat)
  case atStart => exact ⟨0, Nat.zero_le _, rfl, Lib.hid (by rw [List.take_zero]; show WL B b w (bs ++ []) w; rw [List.append_nil]; exact HW.out)⟩
  case round =>
    obtain ⟨k, hk, rfl, HB⟩ := hrel
    by_cases hlt : k < l.len
    · have hlt' : (k : Int) < (l.len : Int) := by omega
      obtain ⟨f, it, e1⟩ := TL.drop_at l k hlt
      obtain ⟨ob, o, rfl, hrd⟩ := HR.out (by intro e; rw [e] at hlt; simp [TL.len] at hlt)
      obtain ⟨-, hb, iv, hcl, hit⟩ := Rd.at_ l ob o k f it _ hrd e1
      have hcw : ∀ j v, (f.cells iv)[j]? = some v → wr.cell? ⟨ob, o + 9 * k + j, none⟩ = some v := fun j v hj => (HB.out.wk.low.cell (p := ⟨ob, o + 9 * k + j, none⟩) hb).trans (hcl j v hj)
      have c0 : wr.cell? ⟨ob, o + k * 9, none⟩ = some (.int .i64 f.k) := by have h := hcw 0 _ rfl; rw [Nat.mul_comm 9 k] at h; exact h
      have c1 : wr.cell? ⟨ob, o + k * 9 + 1, none⟩ = some (.int .i64 f.i) := by have h := hcw 1 _ rfl; rw [Nat.mul_comm 9 k] at h; exact h
      have c2 : wr.cell? ⟨ob, o + k * 9 + 2, none⟩ = some (.int .i64 f.g) := by have h := hcw 2 _ rfl; rw [Nat.mul_comm 9 k] at h; exact h
      have c3 : wr.cell? ⟨ob, o + k * 9 + 3, none⟩ = some (.string f.nm) := by have h := hcw 3 _ rfl; rw [Nat.mul_comm 9 k] at h; exact h
      have c4 : wr.cell? ⟨ob, o + k * 9 + 4, none⟩ = some (.string f.fn) := by have h := hcw 4 _ rfl; rw [Nat.mul_comm 9 k] at h; exact h
      have c5 : wr.cell? ⟨ob, o + k * 9 + 5, none⟩ = some (.int .i64 f.ar) := by have h := hcw 5 _ rfl; rw [Nat.mul_comm 9 k] at h; exact h
      have c6 : wr.cell? ⟨ob, o + k * 9 + 6, none⟩ = some (iv) := by have h := hcw 6 _ rfl; rw [Nat.mul_comm 9 k] at h; exact h
      have c7 : wr.cell? ⟨ob, o + k * 9 + 7, none⟩ = some (.string f.bs) := by have h := hcw 7 _ rfl; rw [Nat.mul_comm 9 k] at h; exact h
      have c8 : wr.cell? ⟨ob, o + k * 9 + 8, none⟩ = some (.int .i64 f.n) := by have h := hcw 8 _ rfl; rw [Nat.mul_comm 9 k] at h; exact h
      have hcnt : it.cnt < m := by
        have h1 := TL.cnt_drop l k
        rw [e1] at h1
        simp only [TL.cnt] at h1
        omega
      have HIT := Lib.hid hit
      have HFT := Lib.hid (HFI.out k f it _ e1)
      have HJ := Lib.hid (joinC_take _ _ _ (texts_at e1))
      have HJL := Lib.hid (joinC_take_le l.texts (k + 1))
      clear hcl hcw hrd e1 hit
      obtain ⟨ai, ci, rfl, -, -, -⟩ := HIT.out
      have HS := Lib.hid (HB.out.box #[.int .i64 f.k, .int .i64 f.i, .int .i64 f.g, .string f.nm, .string f.fn, .int .i64 f.ar, .slice ai it.len ci, .string f.bs, .int .i64 f.n])
      have fin : ∀ (pre : List UInt8) (W : World), pre = (if k = 0 then [] else [44]) → WS B b w wr.heap.size #[.int .i64 f.k, .int .i64 f.i, .int .i64 f.g, .string f.nm, .string f.fn, .int .i64 f.ar, .slice ai it.len ci, .string f.bs, .int .i64 f.n] ((bs ++ joinC (l.texts.take k)) ++ pre) W →
          Calls Tryd.prog 21 #[.pointer (some ⟨b, 0, none⟩), .agg #[.int .i64 f.k, .int .i64 f.i, .int .i64 f.g, .string f.nm, .string f.fn, .int .i64 f.ar, .slice ai it.len ci, .string f.bs, .int .i64 f.n]] W fun e w' => e = .returned (.tuple #[]) ∧ WL B b w (bs ++ joinC (l.texts.take (k + 1))) w' := by
        intro pre W hp hW
        have hx := HL.out
        have hy := HJL.out
        rw [HJ.out, ← hp] at hy
        simp only [List.length_append] at hy
        refine (HT.out f it _ B b _ A W hcnt HFT.out.1 HFT.out.2.1 HFT.out.2.2 (by simp only [List.length_append]; omega) hW.wr hW.bw hW.pw (HIT.out.below hW.wk.low (Nat.le_refl _))).mono fun e w' hh => ?_
        obtain ⟨e1, hh⟩ := hW.sub hh
        refine ⟨e1, ?_⟩
        rw [HJ.out, ← hp]
        have := hh.row
        simpa only [List.append_assoc] using this
      have HFin := Lib.hid fin
      clear fin
      have hpl := Lib.hid (joinC_take_le l.texts k)
      by_cases hk0 : k = 0
      · subst hk0
        have d0 : wr.cell? ⟨ob, o, none⟩ = _ := c0
        simp only [Nat.zero_mul, Nat.add_zero] at c0 c1 c2 c3 c4 c5 c6 c7 c8
        go_upto_region 3 with (fail)
        generalize wr.alloc _ = w1 at HS ⊢
        clear d0
        have HS := Lib.hid (show WS B b w wr.heap.size _ ((bs ++ joinC (l.texts.take 0)) ++ []) w1 from by rw [List.append_nil]; exact HS.out)
        obtain ⟨e0, e1, e2, e3, e4, e5, e6, e7, e8, -⟩ := nine_cells HS.out.box
        clear c0 c1 c2 c3 c4 c5 c6 c7 c8
        go_wp2_with fail
        refine (HFin.out _ _ rfl HS.out).mono ?_
        rintro e w2 ⟨rfl, hs⟩
        have HS := Lib.hid hs
        clear hs e0 e1 e2 e3 e4 e5 e6 e7 e8
        go_wp2_with fail
        go_roundw
        case rel => exact ⟨0 + 1, by omega, by go_num, HS⟩
        case measure => simp only [intOf]; omega
      · have x1 : (0 : Int) < (k : Int) := by omega
        go_upto_region 3 with (fail)
        generalize wr.alloc _ = w1 at HS ⊢
        have hlb : (bs ++ joinC (l.texts.take k)).length ≤ 1000000000 := by have := HL.out; have := hpl.out; rw [List.length_append]; omega
        have HLb := Lib.hid hlb
        clear hlb c0 c1 c2 c3 c4 c5 c6 c7 c8
        go_wp2_with fail
        refine (HS.out.byte 44 _ rfl HLb.out).mono ?_
        rintro e w1' ⟨rfl, hs⟩
        have HS := Lib.hid hs
        clear hs
        obtain ⟨e0, e1, e2, e3, e4, e5, e6, e7, e8, -⟩ := nine_cells HS.out.box
        go_wp2_with fail
        refine (HFin.out _ _ (if_neg hk0).symm HS.out).mono ?_
        rintro e w2 ⟨rfl, hs⟩
        have HS := Lib.hid hs
        clear hs e0 e1 e2 e3 e4 e5 e6 e7 e8
        go_wp2_with fail
        go_roundw
        case rel => exact ⟨k + 1, by omega, by go_num, HS⟩
        case measure => simp only [intOf]; omega
    · have x1 : ¬ (k : Int) < (l.len : Int) := by omega
      obtain rfl : k = l.len := by omega
      have e := HB.out
      rw [← texts_len, List.take_length] at e
      have HE := Lib.hid e
      clear e
      go_wp2_with fail
      go_end0
      exact ⟨rfl, HE.out.wr, HE.out.wk⟩
end Go.Proofs.YtgfodedmcjkmaaaDoor
namespace Go.Proofs.YtgfodedmcjkmaaaDoor
open Go.RowKit Go.Proofs.BitsM
def segOne (b : UInt8) (n : Int) : List UInt8 := if n < 8 then Lib.itoa ((b.toNat / 2 ^ (8 - n.toNat) : Nat) : Int) ++ 58 :: Lib.itoa n else Lib.itoa (b.toNat : Int)
theorem segs_at : ∀ (l : List UInt8) (n : Int) (k : Nat) (x : UInt8), l[k]? = some x → (segs l n)[k]? = some (segOne x (n - 8 * (k : Int)))
  | [], _, k, _, h => by simp at h
  | b :: r, n, 0, x, h => by
    simp only [List.getElem?_cons_zero, Option.some.injEq] at h
    subst h
    have e : n - 8 * ((0 : Nat) : Int) = n := by omega
    rw [e]; rfl
  | b :: r, n, k + 1, x, h => by
    rw [List.getElem?_cons_succ] at h
    have := segs_at r (n - 8) k x h
    have e : n - 8 * ((k + 1 : Nat) : Int) = n - 8 - 8 * (k : Int) := by omega
    rw [segs, List.getElem?_cons_succ, e]; exact this
theorem segs_length : ∀ (l : List UInt8) (n : Int), (segs l n).length = l.length
  | [], _ => rfl
  | _ :: r, n => by rw [segs, List.length_cons, List.length_cons, segs_length r]
theorem segOne_lt (X : UInt8) (L D : Int) (h : L < 8) (hD : ((2 ^ (8 - L.toNat) : Nat) : Int) = D) : segOne X L = Lib.itoa ((X.toNat : Int) / D) ++ 58 :: Lib.itoa L := by
  unfold segOne
  rw [if_pos h, ← hD, Int.natCast_ediv]
theorem segOne_ge (X : UInt8) (L : Int) (h : ¬ L < 8) : segOne X L = Lib.itoa (X.toNat : Int) := by unfold segOne; rw [if_neg h]
set_option maxRecDepth 100000 in
set_option maxHeartbeats 8000000 in
theorem bits_w (B b : Nat) (bs : List UInt8) (f : Fd) (iv : Value) (w : World) (h : Wr B b bs w) (hlen : bs.length + (joinC (segs (bl f.bs) f.n)).length ≤ 1000000000) (hBw : B ≤ w.heap.size) (hP : Pw B w) (hn0 : 0 ≤ f.n) (hn1 : f.n ≤ 16384) (hsz : (f.bs.size : Int) = (f.n + 7) / 8) :
    Calls Tryd.prog 37 #[.pointer (some ⟨b, 0, none⟩), .agg #[.int .i64 f.k, .int .i64 f.i, .int .i64 f.g, .string f.nm, .string f.fn, .int .i64 f.ar, iv, .string f.bs, .int .i64 f.n]] w (WrPost B b (bs ++ joinC (segs (bl f.bs) f.n)) w) := by
  have HL := Lib.hid hlen
  have HSz := Lib.hid hsz
  have hs1 : f.bs.size ≤ 3000 := by omega
  have hbl : (bl f.bs).length = f.bs.size := Array.length_toList
  have HBl := Lib.hid hbl
  have HS := Lib.hid (WS.start h hBw hP #[.int .i64 f.k, .int .i64 f.i, .int .i64 f.g, .string f.nm, .string f.fn, .int .i64 f.ar, iv, .string f.bs, .int .i64 f.n])
  clear h hlen hP hBw hbl hsz
  go_enter Tryd.func37, Tryd.ntmps37
  go_upto_region 1 with (fail)
  generalize w.alloc _ = w0 at HS ⊢
  generalize Value.agg #[.int .i64 f.k, .int .i64 f.i, .int .i64 f.g, .string f.nm, .string f.fn, .int .i64 f.ar, iv, .string f.bs, .int .i64 f.n] = V
  have b7 := cells_of HS.out.box 7
  go_wp2_with fail
  go_loopw [9] (fun i wr => ∃ k : Nat, k ≤ f.bs.size ∧ i = .int .i64 k ∧ Hid (WS B b w w.heap.size #[.int .i64 f.k, .int .i64 f.i, .int .i64 f.g, .string f.nm, .string f.fn, .int .i64 f.ar, iv, .string f.bs, .int .i64 f.n] (bs ++ joinC ((segs (bl f.bs) f.n).take k)) wr)) (fun i _ => f.bs.size - (intOf i).toNat)
  case atStart => exact ⟨0, Nat.zero_le _, rfl, Lib.hid (by rw [List.take_zero]; show WS B b w _ _ (bs ++ []) w0; rw [List.append_nil]; exact HS.out)⟩
  case round =>
    obtain ⟨k, hk, rfl, HB⟩ := hrel
    clear b7
    by_cases hlt : k < f.bs.size
    · have hlt' : (k : Int) < (f.bs.size : Int) := by omega
      have hat : (bl f.bs)[k]? = some (f.bs[k]'hlt) := by
        have : k < (bl f.bs).length := by rw [HBl.out]; exact hlt
        rw [List.getElem?_eq_getElem this]; rfl
      have HJ := Lib.hid (joinC_take _ _ _ (segs_at _ f.n _ _ hat))
      have HJL := Lib.hid (joinC_take_le (segs (bl f.bs) f.n) (k + 1))
      clear hat
      have c7 := cells_of HB.out.box 7
      have c8 := cells_of HB.out.box 8
      obtain ⟨L, hLn⟩ : ∃ L, L = f.n - 8 * (k : Int) := ⟨_, rfl⟩
      have hL : 1 ≤ L := by have := HSz.out; omega
      have hL2 : L ≤ 16384 := by omega
      rw [← hLn] at HJ
      have HLn := Lib.hid hLn
      clear hLn
      have hlb : (bs ++ joinC ((segs (bl f.bs) f.n).take k)).length ≤ 1000000000 := by have := HL.out; have := joinC_take_le (segs (bl f.bs) f.n) k; rw [List.length_append]; omega
      have HLb := Lib.hid hlb
      clear hlb
      have hxb : (f.bs[k]'hlt).toNat < 256 := (f.bs[k]'hlt).toNat_lt
      generalize hx : f.bs[k]'hlt = X at HJ hxb
      by_cases hk0 : k = 0
      · subst hk0
        have HS := Lib.hid (show WS B b w w.heap.size #[.int .i64 f.k, .int .i64 f.i, .int .i64 f.g, .string f.nm, .string f.fn, .int .i64 f.ar, iv, .string f.bs, .int .i64 f.n] ((bs ++ joinC ((segs (bl f.bs) f.n).take 0)) ++ []) wr from by rw [List.append_nil]; exact HB.out)
        go_upto_region 7 with (fail)
        rw [show f.n = L by have := HLn.out; omega]
        by_cases h8 : L < 8
        · have hL7 : L = 1 ∨ L = 2 ∨ L = 3 ∨ L = 4 ∨ L = 5 ∨ L = 6 ∨ L = 7 := by omega
          rcases hL7 with rfl | rfl | rfl | rfl | rfl | rfl | rfl
          · have HG := Lib.hid (segOne_lt X 1 128 (by decide) rfl)
            have HJ := Lib.hid (HJ.out.trans (by rw [HG.out]))
            have HQ := Lib.hid (show (bs ++ (joinC ((segs (bl f.bs) f.n).take 0) ++ ([] ++ (Lib.itoa ((X.toNat : Int) / 128) ++ 58 :: Lib.itoa 1)))).length ≤ 1000000000 by have := HL.out; have hy := HJL.out; rw [HJ.out] at hy; rw [if_pos rfl] at hy; simp only [List.length_append] at hy ⊢; omega)
            clear HG
            go_wp2_with fail
            refine (HS.out.int ((X.toNat : Int) / 128) (by have := HQ.out; simp at this ⊢; omega) (by omega) (by omega)).mono ?_
            rintro e w2 ⟨rfl, hs⟩
            have HS := Lib.hid hs
            clear hs c7 c8
            go_wp2_with fail
            refine (HS.out.byte 58 _ rfl (by have := HQ.out; simp at this ⊢; omega)).mono ?_
            rintro e w3 ⟨rfl, hs⟩
            have HS := Lib.hid hs
            clear hs
            go_wp2_with fail
            refine (HS.out.int 1 (by have := HQ.out; simp at this ⊢; omega) (by decide) (by decide)).mono ?_
            rintro e w4 ⟨rfl, hs⟩
            have HS := Lib.hid (show WS B b w w.heap.size #[.int .i64 f.k, .int .i64 f.i, .int .i64 f.g, .string f.nm, .string f.fn, .int .i64 f.ar, iv, .string f.bs, .int .i64 f.n] (bs ++ joinC ((segs (bl f.bs) f.n).take (0 + 1))) w4 by rw [HJ.out, if_pos trivial]; simpa only [List.append_assoc, List.cons_append, List.nil_append] using hs)
            clear hs
            go_wp2_with fail
            go_roundw
            case rel => exact ⟨0 + 1, by omega, by go_num, HS⟩
            case measure => simp only [intOf]; omega
          · have HG := Lib.hid (segOne_lt X 2 64 (by decide) rfl)
            have HJ := Lib.hid (HJ.out.trans (by rw [HG.out]))
            have HQ := Lib.hid (show (bs ++ (joinC ((segs (bl f.bs) f.n).take 0) ++ ([] ++ (Lib.itoa ((X.toNat : Int) / 64) ++ 58 :: Lib.itoa 2)))).length ≤ 1000000000 by have := HL.out; have hy := HJL.out; rw [HJ.out] at hy; rw [if_pos rfl] at hy; simp only [List.length_append] at hy ⊢; omega)
            clear HG
            go_wp2_with fail
            refine (HS.out.int ((X.toNat : Int) / 64) (by have := HQ.out; simp at this ⊢; omega) (by omega) (by omega)).mono ?_
            rintro e w2 ⟨rfl, hs⟩
            have HS := Lib.hid hs
            clear hs c7 c8
            go_wp2_with fail
            refine (HS.out.byte 58 _ rfl (by have := HQ.out; simp at this ⊢; omega)).mono ?_
            rintro e w3 ⟨rfl, hs⟩
            have HS := Lib.hid hs
            clear hs
            go_wp2_with fail
            refine (HS.out.int 2 (by have := HQ.out; simp at this ⊢; omega) (by decide) (by decide)).mono ?_
            rintro e w4 ⟨rfl, hs⟩
            have HS := Lib.hid (show WS B b w w.heap.size #[.int .i64 f.k, .int .i64 f.i, .int .i64 f.g, .string f.nm, .string f.fn, .int .i64 f.ar, iv, .string f.bs, .int .i64 f.n] (bs ++ joinC ((segs (bl f.bs) f.n).take (0 + 1))) w4 by rw [HJ.out, if_pos trivial]; simpa only [List.append_assoc, List.cons_append, List.nil_append] using hs)
            clear hs
            go_wp2_with fail
            go_roundw
            case rel => exact ⟨0 + 1, by omega, by go_num, HS⟩
            case measure => simp only [intOf]; omega
          · have HG := Lib.hid (segOne_lt X 3 32 (by decide) rfl)
            have HJ := Lib.hid (HJ.out.trans (by rw [HG.out]))
            have HQ := Lib.hid (show (bs ++ (joinC ((segs (bl f.bs) f.n).take 0) ++ ([] ++ (Lib.itoa ((X.toNat : Int) / 32) ++ 58 :: Lib.itoa 3)))).length ≤ 1000000000 by have := HL.out; have hy := HJL.out; rw [HJ.out] at hy; rw [if_pos rfl] at hy; simp only [List.length_append] at hy ⊢; omega)
            clear HG
            go_wp2_with fail
            refine (HS.out.int ((X.toNat : Int) / 32) (by have := HQ.out; simp at this ⊢; omega) (by omega) (by omega)).mono ?_
            rintro e w2 ⟨rfl, hs⟩
            have HS := Lib.hid hs
            clear hs c7 c8
            go_wp2_with fail
            refine (HS.out.byte 58 _ rfl (by have := HQ.out; simp at this ⊢; omega)).mono ?_
            rintro e w3 ⟨rfl, hs⟩
            have HS := Lib.hid hs
            clear hs
            go_wp2_with fail
            refine (HS.out.int 3 (by have := HQ.out; simp at this ⊢; omega) (by decide) (by decide)).mono ?_
            rintro e w4 ⟨rfl, hs⟩
            have HS := Lib.hid (show WS B b w w.heap.size #[.int .i64 f.k, .int .i64 f.i, .int .i64 f.g, .string f.nm, .string f.fn, .int .i64 f.ar, iv, .string f.bs, .int .i64 f.n] (bs ++ joinC ((segs (bl f.bs) f.n).take (0 + 1))) w4 by rw [HJ.out, if_pos trivial]; simpa only [List.append_assoc, List.cons_append, List.nil_append] using hs)
            clear hs
            go_wp2_with fail
            go_roundw
            case rel => exact ⟨0 + 1, by omega, by go_num, HS⟩
            case measure => simp only [intOf]; omega
          · have HG := Lib.hid (segOne_lt X 4 16 (by decide) rfl)
            have HJ := Lib.hid (HJ.out.trans (by rw [HG.out]))
            have HQ := Lib.hid (show (bs ++ (joinC ((segs (bl f.bs) f.n).take 0) ++ ([] ++ (Lib.itoa ((X.toNat : Int) / 16) ++ 58 :: Lib.itoa 4)))).length ≤ 1000000000 by have := HL.out; have hy := HJL.out; rw [HJ.out] at hy; rw [if_pos rfl] at hy; simp only [List.length_append] at hy ⊢; omega)
            clear HG
            go_wp2_with fail
            refine (HS.out.int ((X.toNat : Int) / 16) (by have := HQ.out; simp at this ⊢; omega) (by omega) (by omega)).mono ?_
            rintro e w2 ⟨rfl, hs⟩
            have HS := Lib.hid hs
            clear hs c7 c8
            go_wp2_with fail
            refine (HS.out.byte 58 _ rfl (by have := HQ.out; simp at this ⊢; omega)).mono ?_
            rintro e w3 ⟨rfl, hs⟩
            have HS := Lib.hid hs
            clear hs
            go_wp2_with fail
            refine (HS.out.int 4 (by have := HQ.out; simp at this ⊢; omega) (by decide) (by decide)).mono ?_
            rintro e w4 ⟨rfl, hs⟩
            have HS := Lib.hid (show WS B b w w.heap.size #[.int .i64 f.k, .int .i64 f.i, .int .i64 f.g, .string f.nm, .string f.fn, .int .i64 f.ar, iv, .string f.bs, .int .i64 f.n] (bs ++ joinC ((segs (bl f.bs) f.n).take (0 + 1))) w4 by rw [HJ.out, if_pos trivial]; simpa only [List.append_assoc, List.cons_append, List.nil_append] using hs)
            clear hs
            go_wp2_with fail
            go_roundw
            case rel => exact ⟨0 + 1, by omega, by go_num, HS⟩
            case measure => simp only [intOf]; omega
          · have HG := Lib.hid (segOne_lt X 5 8 (by decide) rfl)
            have HJ := Lib.hid (HJ.out.trans (by rw [HG.out]))
            have HQ := Lib.hid (show (bs ++ (joinC ((segs (bl f.bs) f.n).take 0) ++ ([] ++ (Lib.itoa ((X.toNat : Int) / 8) ++ 58 :: Lib.itoa 5)))).length ≤ 1000000000 by have := HL.out; have hy := HJL.out; rw [HJ.out] at hy; rw [if_pos rfl] at hy; simp only [List.length_append] at hy ⊢; omega)
            clear HG
            go_wp2_with fail
            refine (HS.out.int ((X.toNat : Int) / 8) (by have := HQ.out; simp at this ⊢; omega) (by omega) (by omega)).mono ?_
            rintro e w2 ⟨rfl, hs⟩
            have HS := Lib.hid hs
            clear hs c7 c8
            go_wp2_with fail
            refine (HS.out.byte 58 _ rfl (by have := HQ.out; simp at this ⊢; omega)).mono ?_
            rintro e w3 ⟨rfl, hs⟩
            have HS := Lib.hid hs
            clear hs
            go_wp2_with fail
            refine (HS.out.int 5 (by have := HQ.out; simp at this ⊢; omega) (by decide) (by decide)).mono ?_
            rintro e w4 ⟨rfl, hs⟩
            have HS := Lib.hid (show WS B b w w.heap.size #[.int .i64 f.k, .int .i64 f.i, .int .i64 f.g, .string f.nm, .string f.fn, .int .i64 f.ar, iv, .string f.bs, .int .i64 f.n] (bs ++ joinC ((segs (bl f.bs) f.n).take (0 + 1))) w4 by rw [HJ.out, if_pos trivial]; simpa only [List.append_assoc, List.cons_append, List.nil_append] using hs)
            clear hs
            go_wp2_with fail
            go_roundw
            case rel => exact ⟨0 + 1, by omega, by go_num, HS⟩
            case measure => simp only [intOf]; omega
          · have HG := Lib.hid (segOne_lt X 6 4 (by decide) rfl)
            have HJ := Lib.hid (HJ.out.trans (by rw [HG.out]))
            have HQ := Lib.hid (show (bs ++ (joinC ((segs (bl f.bs) f.n).take 0) ++ ([] ++ (Lib.itoa ((X.toNat : Int) / 4) ++ 58 :: Lib.itoa 6)))).length ≤ 1000000000 by have := HL.out; have hy := HJL.out; rw [HJ.out] at hy; rw [if_pos rfl] at hy; simp only [List.length_append] at hy ⊢; omega)
            clear HG
            go_wp2_with fail
            refine (HS.out.int ((X.toNat : Int) / 4) (by have := HQ.out; simp at this ⊢; omega) (by omega) (by omega)).mono ?_
            rintro e w2 ⟨rfl, hs⟩
            have HS := Lib.hid hs
            clear hs c7 c8
            go_wp2_with fail
            refine (HS.out.byte 58 _ rfl (by have := HQ.out; simp at this ⊢; omega)).mono ?_
            rintro e w3 ⟨rfl, hs⟩
            have HS := Lib.hid hs
            clear hs
            go_wp2_with fail
            refine (HS.out.int 6 (by have := HQ.out; simp at this ⊢; omega) (by decide) (by decide)).mono ?_
            rintro e w4 ⟨rfl, hs⟩
            have HS := Lib.hid (show WS B b w w.heap.size #[.int .i64 f.k, .int .i64 f.i, .int .i64 f.g, .string f.nm, .string f.fn, .int .i64 f.ar, iv, .string f.bs, .int .i64 f.n] (bs ++ joinC ((segs (bl f.bs) f.n).take (0 + 1))) w4 by rw [HJ.out, if_pos trivial]; simpa only [List.append_assoc, List.cons_append, List.nil_append] using hs)
            clear hs
            go_wp2_with fail
            go_roundw
            case rel => exact ⟨0 + 1, by omega, by go_num, HS⟩
            case measure => simp only [intOf]; omega
          · have HG := Lib.hid (segOne_lt X 7 2 (by decide) rfl)
            have HJ := Lib.hid (HJ.out.trans (by rw [HG.out]))
            have HQ := Lib.hid (show (bs ++ (joinC ((segs (bl f.bs) f.n).take 0) ++ ([] ++ (Lib.itoa ((X.toNat : Int) / 2) ++ 58 :: Lib.itoa 7)))).length ≤ 1000000000 by have := HL.out; have hy := HJL.out; rw [HJ.out] at hy; rw [if_pos rfl] at hy; simp only [List.length_append] at hy ⊢; omega)
            clear HG
            go_wp2_with fail
            refine (HS.out.int ((X.toNat : Int) / 2) (by have := HQ.out; simp at this ⊢; omega) (by omega) (by omega)).mono ?_
            rintro e w2 ⟨rfl, hs⟩
            have HS := Lib.hid hs
            clear hs c7 c8
            go_wp2_with fail
            refine (HS.out.byte 58 _ rfl (by have := HQ.out; simp at this ⊢; omega)).mono ?_
            rintro e w3 ⟨rfl, hs⟩
            have HS := Lib.hid hs
            clear hs
            go_wp2_with fail
            refine (HS.out.int 7 (by have := HQ.out; simp at this ⊢; omega) (by decide) (by decide)).mono ?_
            rintro e w4 ⟨rfl, hs⟩
            have HS := Lib.hid (show WS B b w w.heap.size #[.int .i64 f.k, .int .i64 f.i, .int .i64 f.g, .string f.nm, .string f.fn, .int .i64 f.ar, iv, .string f.bs, .int .i64 f.n] (bs ++ joinC ((segs (bl f.bs) f.n).take (0 + 1))) w4 by rw [HJ.out, if_pos trivial]; simpa only [List.append_assoc, List.cons_append, List.nil_append] using hs)
            clear hs
            go_wp2_with fail
            go_roundw
            case rel => exact ⟨0 + 1, by omega, by go_num, HS⟩
            case measure => simp only [intOf]; omega
        · have HG := Lib.hid (segOne_ge X L h8)
          have HJ := Lib.hid (HJ.out.trans (by rw [HG.out]))
          have HQ := Lib.hid (show (bs ++ (joinC ((segs (bl f.bs) f.n).take 0) ++ ([] ++ Lib.itoa (X.toNat : Int)))).length ≤ 1000000000 by have := HL.out; have hy := HJL.out; rw [HJ.out] at hy; rw [if_pos rfl] at hy; simp only [List.length_append] at hy ⊢; omega)
          clear HG
          go_wp2_with fail
          refine (HS.out.int (X.toNat : Int) (by have := HQ.out; simp at this ⊢; omega) (by omega) (by omega)).mono ?_
          rintro e w2 ⟨rfl, hs⟩
          have HS := Lib.hid (show WS B b w w.heap.size #[.int .i64 f.k, .int .i64 f.i, .int .i64 f.g, .string f.nm, .string f.fn, .int .i64 f.ar, iv, .string f.bs, .int .i64 f.n] (bs ++ joinC ((segs (bl f.bs) f.n).take (0 + 1))) w2 by rw [HJ.out, if_pos trivial]; simpa only [List.append_assoc, List.cons_append, List.nil_append] using hs)
          clear hs c7 c8
          go_wp2_with fail
          go_roundw
          case rel => exact ⟨0 + 1, by omega, by go_num, HS⟩
          case measure => simp only [intOf]; omega
      · have x0 : (0 : Int) < (k : Int) := by omega
        go_upto_region 6 with (fail)
        refine (HB.out.byte 44 _ rfl HLb.out).mono ?_
        rintro e w1 ⟨rfl, hs⟩
        have HS := Lib.hid hs
        clear hs c7 c8
        have c7 := cells_of HS.out.box 7
        have c8 := cells_of HS.out.box 8
        go_upto_region 7 with (fail)
        rw [← HLn.out]
        by_cases h8 : L < 8
        · have hL7 : L = 1 ∨ L = 2 ∨ L = 3 ∨ L = 4 ∨ L = 5 ∨ L = 6 ∨ L = 7 := by omega
          rcases hL7 with rfl | rfl | rfl | rfl | rfl | rfl | rfl
          · have HG := Lib.hid (segOne_lt X 1 128 (by decide) rfl)
            have HJ := Lib.hid (HJ.out.trans (by rw [HG.out]))
            have HQ := Lib.hid (show (bs ++ (joinC ((segs (bl f.bs) f.n).take k) ++ ([44] ++ (Lib.itoa ((X.toNat : Int) / 128) ++ 58 :: Lib.itoa 1)))).length ≤ 1000000000 by have := HL.out; have hy := HJL.out; rw [HJ.out] at hy; rw [if_neg hk0] at hy; simp only [List.length_append] at hy ⊢; omega)
            clear HG
            go_wp2_with fail
            refine (HS.out.int ((X.toNat : Int) / 128) (by have := HQ.out; simp at this ⊢; omega) (by omega) (by omega)).mono ?_
            rintro e w2 ⟨rfl, hs⟩
            have HS := Lib.hid hs
            clear hs c7 c8
            go_wp2_with fail
            refine (HS.out.byte 58 _ rfl (by have := HQ.out; simp at this ⊢; omega)).mono ?_
            rintro e w3 ⟨rfl, hs⟩
            have HS := Lib.hid hs
            clear hs
            go_wp2_with fail
            refine (HS.out.int 1 (by have := HQ.out; simp at this ⊢; omega) (by decide) (by decide)).mono ?_
            rintro e w4 ⟨rfl, hs⟩
            have HS := Lib.hid (show WS B b w w.heap.size #[.int .i64 f.k, .int .i64 f.i, .int .i64 f.g, .string f.nm, .string f.fn, .int .i64 f.ar, iv, .string f.bs, .int .i64 f.n] (bs ++ joinC ((segs (bl f.bs) f.n).take (k + 1))) w4 by rw [HJ.out, if_neg hk0]; simpa only [List.append_assoc, List.cons_append, List.nil_append] using hs)
            clear hs
            go_wp2_with fail
            go_roundw
            case rel => exact ⟨k + 1, by omega, by go_num, HS⟩
            case measure => simp only [intOf]; omega
          · have HG := Lib.hid (segOne_lt X 2 64 (by decide) rfl)
            have HJ := Lib.hid (HJ.out.trans (by rw [HG.out]))
            have HQ := Lib.hid (show (bs ++ (joinC ((segs (bl f.bs) f.n).take k) ++ ([44] ++ (Lib.itoa ((X.toNat : Int) / 64) ++ 58 :: Lib.itoa 2)))).length ≤ 1000000000 by have := HL.out; have hy := HJL.out; rw [HJ.out] at hy; rw [if_neg hk0] at hy; simp only [List.length_append] at hy ⊢; omega)
            clear HG
            go_wp2_with fail
            refine (HS.out.int ((X.toNat : Int) / 64) (by have := HQ.out; simp at this ⊢; omega) (by omega) (by omega)).mono ?_
            rintro e w2 ⟨rfl, hs⟩
            have HS := Lib.hid hs
            clear hs c7 c8
            go_wp2_with fail
            refine (HS.out.byte 58 _ rfl (by have := HQ.out; simp at this ⊢; omega)).mono ?_
            rintro e w3 ⟨rfl, hs⟩
            have HS := Lib.hid hs
            clear hs
            go_wp2_with fail
            refine (HS.out.int 2 (by have := HQ.out; simp at this ⊢; omega) (by decide) (by decide)).mono ?_
            rintro e w4 ⟨rfl, hs⟩
            have HS := Lib.hid (show WS B b w w.heap.size #[.int .i64 f.k, .int .i64 f.i, .int .i64 f.g, .string f.nm, .string f.fn, .int .i64 f.ar, iv, .string f.bs, .int .i64 f.n] (bs ++ joinC ((segs (bl f.bs) f.n).take (k + 1))) w4 by rw [HJ.out, if_neg hk0]; simpa only [List.append_assoc, List.cons_append, List.nil_append] using hs)
            clear hs
            go_wp2_with fail
            go_roundw
            case rel => exact ⟨k + 1, by omega, by go_num, HS⟩
            case measure => simp only [intOf]; omega
          · have HG := Lib.hid (segOne_lt X 3 32 (by decide) rfl)
            have HJ := Lib.hid (HJ.out.trans (by rw [HG.out]))
            have HQ := Lib.hid (show (bs ++ (joinC ((segs (bl f.bs) f.n).take k) ++ ([44] ++ (Lib.itoa ((X.toNat : Int) / 32) ++ 58 :: Lib.itoa 3)))).length ≤ 1000000000 by have := HL.out; have hy := HJL.out; rw [HJ.out] at hy; rw [if_neg hk0] at hy; simp only [List.length_append] at hy ⊢; omega)
            clear HG
            go_wp2_with fail
            refine (HS.out.int ((X.toNat : Int) / 32) (by have := HQ.out; simp at this ⊢; omega) (by omega) (by omega)).mono ?_
            rintro e w2 ⟨rfl, hs⟩
            have HS := Lib.hid hs
            clear hs c7 c8
            go_wp2_with fail
            refine (HS.out.byte 58 _ rfl (by have := HQ.out; simp at this ⊢; omega)).mono ?_
            rintro e w3 ⟨rfl, hs⟩
            have HS := Lib.hid hs
            clear hs
            go_wp2_with fail
            refine (HS.out.int 3 (by have := HQ.out; simp at this ⊢; omega) (by decide) (by decide)).mono ?_
            rintro e w4 ⟨rfl, hs⟩
            have HS := Lib.hid (show WS B b w w.heap.size #[.int .i64 f.k, .int .i64 f.i, .int .i64 f.g, .string f.nm, .string f.fn, .int .i64 f.ar, iv, .string f.bs, .int .i64 f.n] (bs ++ joinC ((segs (bl f.bs) f.n).take (k + 1))) w4 by rw [HJ.out, if_neg hk0]; simpa only [List.append_assoc, List.cons_append, List.nil_append] using hs)
            clear hs
            go_wp2_with fail
            go_roundw
            case rel => exact ⟨k + 1, by omega, by go_num, HS⟩
            case measure => simp only [intOf]; omega
          · have HG := Lib.hid (segOne_lt X 4 16 (by decide) rfl)
            have HJ := Lib.hid (HJ.out.trans (by rw [HG.out]))
            have HQ := Lib.hid (show (bs ++ (joinC ((segs (bl f.bs) f.n).take k) ++ ([44] ++ (Lib.itoa ((X.toNat : Int) / 16) ++ 58 :: Lib.itoa 4)))).length ≤ 1000000000 by have := HL.out; have hy := HJL.out; rw [HJ.out] at hy; rw [if_neg hk0] at hy; simp only [List.length_append] at hy ⊢; omega)
            clear HG
            go_wp2_with fail
            refine (HS.out.int ((X.toNat : Int) / 16) (by have := HQ.out; simp at this ⊢; omega) (by omega) (by omega)).mono ?_
            rintro e w2 ⟨rfl, hs⟩
            have HS := Lib.hid hs
            clear hs c7 c8
            go_wp2_with fail
            refine (HS.out.byte 58 _ rfl (by have := HQ.out; simp at this ⊢; omega)).mono ?_
            rintro e w3 ⟨rfl, hs⟩
            have HS := Lib.hid hs
            clear hs
            go_wp2_with fail
            refine (HS.out.int 4 (by have := HQ.out; simp at this ⊢; omega) (by decide) (by decide)).mono ?_
            rintro e w4 ⟨rfl, hs⟩
            have HS := Lib.hid (show WS B b w w.heap.size #[.int .i64 f.k, .int .i64 f.i, .int .i64 f.g, .string f.nm, .string f.fn, .int .i64 f.ar, iv, .string f.bs, .int .i64 f.n] (bs ++ joinC ((segs (bl f.bs) f.n).take (k + 1))) w4 by rw [HJ.out, if_neg hk0]; simpa only [List.append_assoc, List.cons_append, List.nil_append] using hs)
            clear hs
            go_wp2_with fail
            go_roundw
            case rel => exact ⟨k + 1, by omega, by go_num, HS⟩
            case measure => simp only [intOf]; omega
          · have HG := Lib.hid (segOne_lt X 5 8 (by decide) rfl)
            have HJ := Lib.hid (HJ.out.trans (by rw [HG.out]))
            have HQ := Lib.hid (show (bs ++ (joinC ((segs (bl f.bs) f.n).take k) ++ ([44] ++ (Lib.itoa ((X.toNat : Int) / 8) ++ 58 :: Lib.itoa 5)))).length ≤ 1000000000 by have := HL.out; have hy := HJL.out; rw [HJ.out] at hy; rw [if_neg hk0] at hy; simp only [List.length_append] at hy ⊢; omega)
            clear HG
            go_wp2_with fail
            refine (HS.out.int ((X.toNat : Int) / 8) (by have := HQ.out; simp at this ⊢; omega) (by omega) (by omega)).mono ?_
            rintro e w2 ⟨rfl, hs⟩
            have HS := Lib.hid hs
            clear hs c7 c8
            go_wp2_with fail
            refine (HS.out.byte 58 _ rfl (by have := HQ.out; simp at this ⊢; omega)).mono ?_
            rintro e w3 ⟨rfl, hs⟩
            have HS := Lib.hid hs
            clear hs
            go_wp2_with fail
            refine (HS.out.int 5 (by have := HQ.out; simp at this ⊢; omega) (by decide) (by decide)).mono ?_
            rintro e w4 ⟨rfl, hs⟩
            have HS := Lib.hid (show WS B b w w.heap.size #[.int .i64 f.k, .int .i64 f.i, .int .i64 f.g, .string f.nm, .string f.fn, .int .i64 f.ar, iv, .string f.bs, .int .i64 f.n] (bs ++ joinC ((segs (bl f.bs) f.n).take (k + 1))) w4 by rw [HJ.out, if_neg hk0]; simpa only [List.append_assoc, List.cons_append, List.nil_append] using hs)
            clear hs
            go_wp2_with fail
            go_roundw
            case rel => exact ⟨k + 1, by omega, by go_num, HS⟩
            case measure => simp only [intOf]; omega
          · have HG := Lib.hid (segOne_lt X 6 4 (by decide) rfl)
            have HJ := Lib.hid (HJ.out.trans (by rw [HG.out]))
            have HQ := Lib.hid (show (bs ++ (joinC ((segs (bl f.bs) f.n).take k) ++ ([44] ++ (Lib.itoa ((X.toNat : Int) / 4) ++ 58 :: Lib.itoa 6)))).length ≤ 1000000000 by have := HL.out; have hy := HJL.out; rw [HJ.out] at hy; rw [if_neg hk0] at hy; simp only [List.length_append] at hy ⊢; omega)
            clear HG
            go_wp2_with fail
            refine (HS.out.int ((X.toNat : Int) / 4) (by have := HQ.out; simp at this ⊢; omega) (by omega) (by omega)).mono ?_
            rintro e w2 ⟨rfl, hs⟩
            have HS := Lib.hid hs
            clear hs c7 c8
            go_wp2_with fail
            refine (HS.out.byte 58 _ rfl (by have := HQ.out; simp at this ⊢; omega)).mono ?_
            rintro e w3 ⟨rfl, hs⟩
            have HS := Lib.hid hs
            clear hs
            go_wp2_with fail
            refine (HS.out.int 6 (by have := HQ.out; simp at this ⊢; omega) (by decide) (by decide)).mono ?_
            rintro e w4 ⟨rfl, hs⟩
            have HS := Lib.hid (show WS B b w w.heap.size #[.int .i64 f.k, .int .i64 f.i, .int .i64 f.g, .string f.nm, .string f.fn, .int .i64 f.ar, iv, .string f.bs, .int .i64 f.n] (bs ++ joinC ((segs (bl f.bs) f.n).take (k + 1))) w4 by rw [HJ.out, if_neg hk0]; simpa only [List.append_assoc, List.cons_append, List.nil_append] using hs)
            clear hs
            go_wp2_with fail
            go_roundw
            case rel => exact ⟨k + 1, by omega, by go_num, HS⟩
            case measure => simp only [intOf]; omega
          · have HG := Lib.hid (segOne_lt X 7 2 (by decide) rfl)
            have HJ := Lib.hid (HJ.out.trans (by rw [HG.out]))
            have HQ := Lib.hid (show (bs ++ (joinC ((segs (bl f.bs) f.n).take k) ++ ([44] ++ (Lib.itoa ((X.toNat : Int) / 2) ++ 58 :: Lib.itoa 7)))).length ≤ 1000000000 by have := HL.out; have hy := HJL.out; rw [HJ.out] at hy; rw [if_neg hk0] at hy; simp only [List.length_append] at hy ⊢; omega)
            clear HG
            go_wp2_with fail
            refine (HS.out.int ((X.toNat : Int) / 2) (by have := HQ.out; simp at this ⊢; omega) (by omega) (by omega)).mono ?_
            rintro e w2 ⟨rfl, hs⟩
            have HS := Lib.hid hs
            clear hs c7 c8
            go_wp2_with fail
            refine (HS.out.byte 58 _ rfl (by have := HQ.out; simp at this ⊢; omega)).mono ?_
            rintro e w3 ⟨rfl, hs⟩
            have HS := Lib.hid hs
            clear hs
            go_wp2_with fail
            refine (HS.out.int 7 (by have := HQ.out; simp at this ⊢; omega) (by decide) (by decide)).mono ?_
            rintro e w4 ⟨rfl, hs⟩
            have HS := Lib.hid (show WS B b w w.heap.size #[.int .i64 f.k, .int .i64 f.i, .int .i64 f.g, .string f.nm, .string f.fn, .int .i64 f.ar, iv, .string f.bs, .int .i64 f.n] (bs ++ joinC ((segs (bl f.bs) f.n).take (k + 1))) w4 by rw [HJ.out, if_neg hk0]; simpa only [List.append_assoc, List.cons_append, List.nil_append] using hs)
            clear hs
            go_wp2_with fail
            go_roundw
            case rel => exact ⟨k + 1, by omega, by go_num, HS⟩
            case measure => simp only [intOf]; omega
        · have HG := Lib.hid (segOne_ge X L h8)
          have HJ := Lib.hid (HJ.out.trans (by rw [HG.out]))
          have HQ := Lib.hid (show (bs ++ (joinC ((segs (bl f.bs) f.n).take k) ++ ([44] ++ Lib.itoa (X.toNat : Int)))).length ≤ 1000000000 by have := HL.out; have hy := HJL.out; rw [HJ.out] at hy; rw [if_neg hk0] at hy; simp only [List.length_append] at hy ⊢; omega)
          clear HG
          go_wp2_with fail
          refine (HS.out.int (X.toNat : Int) (by have := HQ.out; simp at this ⊢; omega) (by omega) (by omega)).mono ?_
          rintro e w2 ⟨rfl, hs⟩
          have HS := Lib.hid (show WS B b w w.heap.size #[.int .i64 f.k, .int .i64 f.i, .int .i64 f.g, .string f.nm, .string f.fn, .int .i64 f.ar, iv, .string f.bs, .int .i64 f.n] (bs ++ joinC ((segs (bl f.bs) f.n).take (k + 1))) w2 by rw [HJ.out, if_neg hk0]; simpa only [List.append_assoc, List.cons_append, List.nil_append] using hs)
          clear hs c7 c8
          go_wp2_with fail
          go_roundw
          case rel => exact ⟨k + 1, by omega, by go_num, HS⟩
          case measure => simp only [intOf]; omega
    · have x1 : ¬ (k : Int) < (f.bs.size : Int) := by omega
      obtain rfl : k = f.bs.size := by omega
      have e := HB.out.row
      rw [List.take_of_length_le (by rw [segs_length, HBl.out]; exact Nat.le_refl _)] at e
      have HE := Lib.hid e
      clear e
      go_wp2_with fail
      go_end0
      exact ⟨rfl, HE.out.wr, HE.out.wk⟩
end Go.Proofs.YtgfodedmcjkmaaaDoor
