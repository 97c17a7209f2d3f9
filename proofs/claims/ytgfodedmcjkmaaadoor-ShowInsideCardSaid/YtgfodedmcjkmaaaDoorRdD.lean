/-
  What a text is read as is no bigger than the text. No program in sight. Walks: Read of package show.
-/
import Derived.Test.YtgfodedmcjkmaaaDoorPlain6
import Derived.Test.YtgfodedmcjkmaaaDoorRdC
import Derived.Test.YtgfodedmcjkmaaaDoorPCheck
namespace Go.Proofs.YtgfodedmcjkmaaaDoor
open Go.RowKit Go.Proofs.BitsM
def wtF (f : Fd) : Nat := f.nm.size + f.fn.size + f.bs.size
def TL.wt : TL → Nat
  | .nil => 0
  | .cons f it r => 1 + wtF f + it.wt + r.wt
theorem wt_app : ∀ l m : TL, (l.app m).wt = l.wt + m.wt
  | .nil, m => by simp [TL.app, TL.wt]
  | .cons f it r, m => by rw [TL.app, TL.wt, TL.wt, wt_app r m]; omega
theorem wt_cnt : ∀ l : TL, l.cnt ≤ l.wt
  | .nil => Nat.le_refl _
  | .cons f it r => by rw [TL.cnt, TL.wt]; have := wt_cnt it; have := wt_cnt r; omega
theorem wt_small : ∀ (l : TL) (m : Nat), l.wt ≤ m → l.small m
  | .nil, _, _ => trivial
  | .cons f it r, m, h => by
    rw [TL.wt] at h; unfold wtF at h
    exact ⟨by omega, by omega, by omega, wt_small it m (by omega), wt_small r m (by omega)⟩
def RdrWt (rd : Rdr) : Prop := ∀ s x, rd s = some x → wtF x.1 + x.2.1.wt + x.2.2.length ≤ s.length
theorem span_len (s : List UInt8) : (spanN s).size + (s.dropWhile letC).length = s.length := by
  have := congrArg List.length (List.takeWhile_append_dropWhile (p := letC) (l := s))
  rw [List.length_append] at this
  have e : (spanN s).size = (s.takeWhile letC).length := List.size_toArray
  omega
theorem emp_size : (⟨#[]⟩ : ByteArray).size = 0 := rfl
theorem marked_wt {k : Int} {s : List UInt8} {x : Fd × List UInt8} (h : pMarked k s = some x) : wtF x.1 + x.2.length + 2 ≤ s.length := by
  unfold pMarked at h
  simp only [Option.bind_eq_some_iff] at h
  obtain ⟨s1, h1, g, h2, s3, h3, i, h4, h5⟩ := h
  injection h5 with h5
  subst h5
  have := (must_len h1).2
  have := int_len h2
  have := (must_len h3).2
  have := int_len h4
  have := span_len s
  simp only [wtF, emp_size, List.length_cons, List.length_nil] at *; omega
theorem segs_wt {m : Bool} : ∀ {j : Nat} {s : List UInt8} {z : List UInt8 × Int × List UInt8}, pSegs m j s = some z → z.1.length + z.2.2.length ≤ s.length
  | 0, _, _, h => by cases h
  | j + 1, s, z, h => by
    rw [pSegs] at h
    simp only [Option.bind_eq_some_iff] at h
    obtain ⟨x, h1, y, h2, h3⟩ := h
    have a := int_len h1
    have b := many_len h2
    split at h3
    · split at h3
      · simp only [Option.map_eq_some_iff] at h3
        obtain ⟨z', h4, h5⟩ := h3
        have c := segs_wt h4
        subst h5
        rw [List.length_drop] at c
        simp only [List.length_cons]; omega
      · injection h3 with h3
        subst h3; simp only [List.length_cons, List.length_nil]; omega
    · cases h3
theorem bits_wt {m : Bool} {j : Nat} {s : List UInt8} {x : Fd × List UInt8} (h : pBits m j s = some x) : wtF x.1 + x.2.length ≤ s.length := by
  unfold pBits at h
  simp only [Option.bind_eq_some_iff] at h
  obtain ⟨z, h1, s', h2, h3⟩ := h
  injection h3 with h3
  subst h3
  have := (must_len h2).2
  have e : wtF (bitF z.1 z.2.1) = z.1.length := by
    have : (⟨z.1.toArray⟩ : ByteArray).size = z.1.length := List.size_toArray
    simp only [wtF, bitF, emp_size, this]; omega
  rw [e]
  split at h1
  · injection h1 with h1
    subst h1; simp only [List.length_nil] at this ⊢; omega
  · have := segs_wt h1; simp only; omega
theorem items_wt {rd : Rdr} (hrd : RdrWt rd) : ∀ {j : Nat} {s : List UInt8} {z : TL × List UInt8}, pItems rd j s = some z → z.1.wt + z.2.length ≤ s.length + 1
  | 0, _, _, h => by cases h
  | j + 1, s, z, h => by
    rw [pItems] at h
    simp only [Option.bind_eq_some_iff] at h
    obtain ⟨x, h1, h3⟩ := h
    have a := hrd s x h1
    split at h3
    · rename_i hc
      simp only [Option.map_eq_some_iff] at h3
      obtain ⟨z', h4, h5⟩ := h3
      have c := items_wt hrd h4
      have d := hp_len hc
      subst h5
      rw [List.length_drop] at c
      simp only [List.length_cons, List.length_nil] at d
      simp only [TL.wt]; omega
    · injection h3 with h3
      subst h3; simp only [TL.wt]; omega
theorem list_wt {rd : Rdr} (hrd : RdrWt rd) {j : Nat} {ends : List (List UInt8)} {s : List UInt8} {z : TL × List UInt8} (h : pList rd j ends s = some z) : z.1.wt + z.2.length ≤ s.length + 1 := by
  unfold pList at h
  split at h
  · injection h with h
    subst h; simp only [TL.wt]; omega
  · exact items_wt hrd h
theorem kF_wt (k : Int) : wtF (kF k) = 0 := rfl
theorem tail_wt {m : Bool} {rd : Rdr} (hrd : RdrWt rd) {s : List UInt8} {x : Fd × TL × List UInt8} (h : pTail m rd s = some x) : wtF x.1 + x.2.1.wt + x.2.2.length ≤ s.length := by
  unfold pTail at h
  split at h
  · simp only [Option.bind_eq_some_iff] at h
    obtain ⟨y, h1, h2⟩ := h
    split at h2
    · cases h2
    · injection h2 with h2
      subst h2
      have := hrd _ _ h1
      rw [List.length_drop] at this; omega
  · injection h with h
    subst h; simp only [TL.wt, kF_wt]; omega
theorem sign_wt {m : Bool} {rd : Rdr} (hrd : RdrWt rd) {j : Nat} {s : List UInt8} {x : Fd × TL × List UInt8} (h : pSign m rd j s = some x) : wtF x.1 + x.2.1.wt + x.2.2.length ≤ s.length := by
  have hpid : ∀ {k : Int} {s : List UInt8} {x : Fd × TL × List UInt8}, pPid k s = some x → wtF x.1 + x.2.1.wt + x.2.2.length ≤ s.length := by
    intro k s x h
    unfold pPid at h
    simp only [Option.bind_eq_some_iff] at h
    obtain ⟨y, h1, s', h3, h4⟩ := h
    injection h4 with h4
    subst h4
    have := marked_wt h1
    have := (must_len h3).2
    simp only [TL.wt]; omega
  unfold pSign at h
  split at h
  · injection h with h
    subst h; simp only [TL.wt, kF_wt, List.length_drop]; omega
  split at h
  · rename_i hc
    have d := hp_len hc
    simp only [List.length_cons, List.length_nil] at d
    unfold pPair at h
    simp only [Option.bind_eq_some_iff] at h
    obtain ⟨l, h1, y, h2, s', h3, h4⟩ := h
    injection h4 with h4
    subst h4
    have a := list_wt hrd h1
    have b := tail_wt hrd h2
    have c := (must_len h3).2
    rw [List.length_drop] at a
    simp only [kF_wt, wt_app, TL.wt, List.length_cons, List.length_nil] at *; omega
  split at h
  · rename_i hc
    have d := hp_len hc
    simp only [List.length_cons, List.length_nil] at d
    unfold pTuple at h
    simp only [Option.bind_eq_some_iff] at h
    obtain ⟨l, h1, s', h3, h4⟩ := h
    injection h4 with h4
    subst h4
    have a := list_wt hrd h1
    have c := (must_len h3).2
    rw [List.length_drop] at a
    simp only [kF_wt, List.length_cons, List.length_nil] at *; omega
  split at h
  · simp only [Option.bind_eq_some_iff] at h
    obtain ⟨y, h1, h2⟩ := h
    injection h2 with h2
    subst h2
    have a := bits_wt h1
    rw [List.length_drop] at a
    simp only [TL.wt]; omega
  split at h
  · have := hpid h
    rw [List.length_drop] at this; omega
  split at h
  · have := hpid h
    rw [List.length_drop] at this; omega
  split at h
  · unfold pFun at h
    simp only [Option.bind_eq_some_iff] at h
    obtain ⟨y, h1, s1, h2, n, h3, s2, h4, l, h5, s', h6, h7⟩ := h
    injection h7 with h7
    subst h7
    have a := marked_wt h1
    have b := (must_len h2).2
    have c := int_len h3
    have d := (must_len h4).2
    have e := list_wt hrd h5
    have g := (must_len h6).2
    rw [List.length_drop] at a
    simp only [wtF, List.length_cons, List.length_nil] at *; omega
  split at h
  · unfold pExp at h
    simp only [Option.bind_eq_some_iff] at h
    obtain ⟨s1, h1, s2, h2, y, h3, h4⟩ := h
    injection h4 with h4
    subst h4
    have a := (must_len h1).2
    have b := (must_len h2).2
    have c := int_len h3
    have d := span_len (s.drop 4)
    have e := span_len s1
    rw [List.length_drop] at d
    simp only [wtF, TL.wt, emp_size, List.length_cons, List.length_nil] at *; omega
  · unfold pPlain at h
    split at h
    · simp only [Option.bind_eq_some_iff] at h
      obtain ⟨y, h1, h2⟩ := h
      injection h2 with h2
      subst h2
      have := int_len h1
      simp only [wtF, TL.wt, intF, emp_size]; omega
    · split at h
      · cases h
      · injection h with h
        subst h
        have := span_len s
        simp only [wtF, TL.wt, atomF, emp_size]; omega
theorem term_wt {m : Bool} : ∀ (j d : Nat), RdrWt (pTerm m j d)
  | 0, _ => fun _ _ h => by cases h
  | j + 1, d => fun s x h => by
    rw [pTerm] at h
    split at h
    · cases h
    · exact sign_wt (term_wt j (d + 1)) h
theorem term_tame {m : Bool} {j d : Nat} {s : List UInt8} {x : Fd × TL × List UInt8} (h : pTerm m j d s = some x) (hs : s.length ≤ 1000000) : tame x.1 x.2.1 := by
  have a := term_wt j d s x h
  have b := wt_cnt x.2.1
  unfold wtF at a
  exact ⟨by omega, by omega, by omega, by omega, wt_small _ _ (by omega)⟩
end Go.Proofs.YtgfodedmcjkmaaaDoor
namespace Go.Proofs.YtgfodedmcjkmaaaDoor
open Go.RowKit Go.Proofs.BitsM
def ReadNo (w : World) (e : Ending) (w' : World) : Prop := e = .returned (.tuple #[.agg #[.int .i64 0, .int .i64 0, .int .i64 0, .string ⟨#[]⟩, .string ⟨#[]⟩, .int .i64 0, .slice none 0 0, .string ⟨#[]⟩, .int .i64 0], .int .i64 6]) ∧ Below w.heap.size w w'
def ReadYes (f : Fd) (it : TL) (w : World) (e : Ending) (w' : World) : Prop := ∃ ai ci, e = .returned (.tuple #[.agg #[.int .i64 f.k, .int .i64 f.i, .int .i64 f.g, .string f.nm, .string f.fn, .int .i64 f.ar, .slice ai it.len ci, .string f.bs, .int .i64 f.n], .int .i64 0]) ∧ RdS w' w.heap.size w'.heap.size it (.slice ai it.len ci) ∧ Below w.heap.size w w'
def ReadPost (o : Option (Fd × TL)) (w : World) (e : Ending) (w' : World) : Prop := match o with | none => ReadNo w e w' | some x => ReadYes x.1 x.2 w e w'
theorem invoke_read1 (p q : Value) (W : World) : (invoke (.fn (.func 23) #[p, q]) #[]).run Tryd.prog W = .ok (.enter 23 #[p, q]) W := by simp [go_sem]
set_option maxRecDepth 100000 in
set_option maxHeartbeats 8000000 in
theorem read_panic (l : List UInt8) (w : World) (hl : l.length < 1000000) (hn : pTerm true (l.length + 1) 0 l = none) :
    Calls Tryd.prog 10 #[.string (ba l)] w (ReadNo w) := by
  have HT := Lib.hid fun (R : Nat) (W : World) (hr : Rb R l ((0 : Nat) : Int) W) => term_all (l.length + 1) (by omega) 0 R l W hr (by omega) (by omega)
  have hmf : ∀ (fn : Fn) (first cap : Array Value) (w : World), (Instr.makeFunc fn first cap).run Tryd.prog w = .ok (.func fn first cap) w := fun _ _ _ _ => rfl
  have HF0 := Lib.hid (show Bq w [.base (fun _ => False) w] from ⟨Ch.refl _ _, trivial⟩)
  go_enter_defers Tryd.func10, Tryd.ntmps10
  go_wp2_with fail
  have HF1 := Lib.hid (HF0.out.box #[.int .i64 0, .int .i64 0, .int .i64 0, .string ⟨#[]⟩, .string ⟨#[]⟩, .int .i64 0, .slice none 0 0, .string ⟨#[]⟩, .int .i64 0] 24 (n := w.heap.size) (by rfl))
  clear HF0
  have HF2 := Lib.hid (HF1.out.box #[.int .i64 0] 28 (n := w.heap.size + 1) (by simp))
  clear HF1
  have HF3 := Lib.hid (HF2.out.box #[.string (ba l), .int .i64 ((0 : Nat) : Int)] 56 (n := w.heap.size + 2) (by simp))
  clear HF2
  have HN := Lib.hid hn
  clear hn
  refine (HT.out _ _ (HF3.out.blk 0 rfl)).mono ?_
  rintro e w1 hp
  have hp := hp.no HN.out
  obtain ⟨rfl, ⟨l9, d9, hr⟩, ho⟩ := hp
  have HZ := Lib.hid (HF3.out.call 0 ho hr (by refine ⟨?_, ?_, ?_, trivial⟩ <;> (simp only [Fq.apart]; first | omega | (intro b h1 h2; omega) | (intro b h1 h2 h3; omega))))
  clear ho hr
  go_wp2_with fail
  refine leaves_cons (f := 23) (args := #[.pointer (some ⟨w.heap.size, 0, none⟩), .pointer (some ⟨w.heap.size + 1, 0, none⟩)]) (by simp) (invoke_read1 _ _ _) ?_
  refine (catch_panicking (w.heap.size) (w.heap.size + 1) (by omega) _ _ _ _ _ _ _ _ _ _ _ (HZ.out.blk 2 rfl) (HZ.out.blk 1 rfl)).mono ?_
  rintro e u' w2 ⟨⟨rfl, rfl⟩, h2, h3, hc⟩
  refine ⟨_, results_two rfl _ _ _ _ _ _ _ _ _ _ _ _ _ _ rfl rfl h2 h3, rfl, ?_⟩
  exact (Ch.trans (E := fun k => w.heap.size ≤ k) (HZ.out.base 3 rfl) hc (fun i hi he => ⟨fun h => h, by omega⟩)).below (Nat.le_refl _) (fun k hk => by omega)
set_option maxRecDepth 100000 in
set_option maxHeartbeats 8000000 in
theorem read_bad (l : List UInt8) (w : World) (hl : l.length < 1000000) (x : Fd × TL × List UInt8) (hn : pTerm true (l.length + 1) 0 l = some x) (hx : x.2.2.isEmpty = true) (htm : tame x.1 x.2.1) (hv : validF x.1 x.2.1 = false) :
    Calls Tryd.prog 10 #[.string (ba l)] w (ReadNo w) := by
  have HT := Lib.hid fun (R : Nat) (W : World) (hr : Rb R l ((0 : Nat) : Int) W) => term_all (l.length + 1) (by omega) 0 R l W hr (by omega) (by omega)
  have hmf : ∀ (fn : Fn) (first cap : Array Value) (w : World), (Instr.makeFunc fn first cap).run Tryd.prog w = .ok (.func fn first cap) w := fun _ _ _ _ => rfl
  have HF0 := Lib.hid (show Bq w [.base (fun _ => False) w] from ⟨Ch.refl _ _, trivial⟩)
  go_enter_defers Tryd.func10, Tryd.ntmps10
  go_wp2_with fail
  have HF1 := Lib.hid (HF0.out.box #[.int .i64 0, .int .i64 0, .int .i64 0, .string ⟨#[]⟩, .string ⟨#[]⟩, .int .i64 0, .slice none 0 0, .string ⟨#[]⟩, .int .i64 0] 24 (n := w.heap.size) (by rfl))
  clear HF0
  have HF2 := Lib.hid (HF1.out.box #[.int .i64 0] 28 (n := w.heap.size + 1) (by simp))
  clear HF1
  have HF3 := Lib.hid (HF2.out.box #[.string (ba l), .int .i64 ((0 : Nat) : Int)] 56 (n := w.heap.size + 2) (by simp))
  clear HF2
  have HN := Lib.hid hn
  clear hn
  refine (HT.out _ _ (HF3.out.blk 0 rfl)).mono ?_
  rintro e w1 hp
  have hp := hp.yes HN.out
  obtain ⟨ai, ci, rfl, hrd, hr, ho⟩ := hp
  have HRD := Lib.hid hrd
  clear hrd
  have HF4 := Lib.hid (HF3.out.call 0 ho hr (by refine ⟨?_, ?_, ?_, trivial⟩ <;> (simp only [Fq.apart]; first | omega | (intro b h1 h2; omega) | (intro b h1 h2 h3; omega))))
  have hz1 : w.heap.size + 3 ≤ w1.heap.size := by have := ho.size; simp at this; omega
  clear ho hr HT
  have HF5 := Lib.hid (HF4.out.add (f := .rd (w.heap.size + 3) w1.heap.size x.2.1 (.slice ai x.2.1.len ci)) ⟨by have := HRD.out; simpa using this, Nat.le_refl _⟩)
  clear HF4
  clear HRD
  obtain ⟨e0, e1, e2, e3, e4, e5, e6, e7, e8, fs⟩ := nine_cells (HF5.out.blk 3 rfl)
  have g0 := cells_of (HF5.out.blk 2 rfl) 0
  have gs := frees_of (HF5.out.blk 2 rfl)
  have c0 := cells_of (HF5.out.blk 1 rfl) 0
  have hb0 : w.heap.size < w1.heap.size := by omega
  have hb1 : w.heap.size + 1 < w1.heap.size := by omega
  have HV := Lib.hid hv
  clear hv
  have ht : (ba x.2.2).toList.isEmpty = true := by rw [ba_toList]; exact hx
  go_upto_region 4 with (fail)
  have HF6 := Lib.hid (HF5.out.put 3 rfl (by refine ⟨?_, ?_, ?_, ?_, trivial⟩ <;> (simp only [Fq.apart]; first | omega | (intro b h1 h2; omega) | (intro b h1 h2 h3; omega))) (.int .i64 (x.1).k) (.int .i64 (x.1).i) (.int .i64 (x.1).g) (.string (x.1).nm) (.string (x.1).fn) (.int .i64 (x.1).ar) (.slice ai x.2.1.len ci) (.string (x.1).bs) (.int .i64 (x.1).n))
  clear HF5
  have hz2 : (((((((((w1.setCell ⟨w.heap.size, 0, none⟩ (.int .i64 (x.1).k)).setCell ⟨w.heap.size, 1, none⟩ (.int .i64 (x.1).i)).setCell ⟨w.heap.size, 2, none⟩ (.int .i64 (x.1).g)).setCell ⟨w.heap.size, 3, none⟩ (.string (x.1).nm)).setCell ⟨w.heap.size, 4, none⟩ (.string (x.1).fn)).setCell ⟨w.heap.size, 5, none⟩ (.int .i64 (x.1).ar)).setCell ⟨w.heap.size, 6, none⟩ (.slice ai x.2.1.len ci)).setCell ⟨w.heap.size, 7, none⟩ (.string (x.1).bs)).setCell ⟨w.heap.size, 8, none⟩ (.int .i64 (x.1).n)).heap.size = w1.heap.size := by simp
  clear e0 e1 e2 e3 e4 e5 e6 e7 e8 fs g0 gs c0
  have hz2 := Lib.hid hz2
  generalize (((((((((w1.setCell ⟨w.heap.size, 0, none⟩ (.int .i64 (x.1).k)).setCell ⟨w.heap.size, 1, none⟩ (.int .i64 (x.1).i)).setCell ⟨w.heap.size, 2, none⟩ (.int .i64 (x.1).g)).setCell ⟨w.heap.size, 3, none⟩ (.string (x.1).nm)).setCell ⟨w.heap.size, 4, none⟩ (.string (x.1).fn)).setCell ⟨w.heap.size, 5, none⟩ (.int .i64 (x.1).ar)).setCell ⟨w.heap.size, 6, none⟩ (.slice ai x.2.1.len ci)).setCell ⟨w.heap.size, 7, none⟩ (.string (x.1).bs)).setCell ⟨w.heap.size, 8, none⟩ (.int .i64 (x.1).n)) = w2 at HF6 hz2 ⊢
  have hb0 : w.heap.size < w2.heap.size := by have := hz2.out; omega
  have hb1 : w.heap.size + 1 < w2.heap.size := by have := hz2.out; omega
  have c0 := cells_of (HF6.out.blk 2 rfl) 0
  have c0 : w2.cell? ⟨w.heap.size + 1 + 1, 0, none⟩ = _ := c0
  obtain ⟨e0, e1, e2, e3, e4, e5, e6, e7, e8, fs⟩ := nine_cells (HF6.out.blk 0 rfl)
  go_wp2_with fail
  refine (pValid_any x.1 x.2.1 (.slice ai x.2.1.len ci) _ _ _ htm (HF6.out.rd 1 rfl).1 (HF6.out.rd 1 rfl).2).mono ?_
  rw [HV.out]
  rintro e w3 ⟨rfl, hb⟩
  have HF7 := Lib.hid (HF6.out.below hb)
  clear HF6
  have hz3 : w2.heap.size ≤ w3.heap.size := hb.size
  clear hb e0 e1 e2 e3 e4 e5 e6 e7 e8 fs c0 ht
  have hb2 : w.heap.size < w3.heap.size := by omega
  have hb3 : w.heap.size + 1 < w3.heap.size := by omega
  have hz2 := Lib.hid hz2
  have hz3 := Lib.hid hz3
  obtain ⟨e0, e1, e2, e3, e4, e5, e6, e7, e8, fs⟩ := nine_cells (HF7.out.blk 0 rfl)
  have g0 := cells_of (HF7.out.blk 3 rfl) 0
  have gs := frees_of (HF7.out.blk 3 rfl)
  go_upto_region 5 with (fail)
  go_wp2_with fail
  have HF8 := Lib.hid (HF7.out.put 0 rfl (by refine ⟨?_, ?_, ?_, ?_, trivial⟩ <;> (simp only [Fq.apart]; first | omega | (intro b h1 h2; omega) | (intro b h1 h2 h3; omega))) (.int .i64 0) (.int .i64 0) (.int .i64 0) (.string ⟨#[]⟩) (.string ⟨#[]⟩) (.int .i64 0) (.slice none 0 0) (.string ⟨#[]⟩) (.int .i64 0))
  clear HF7
  have HF9 := Lib.hid (HF8.out.set (c := [.int .i64 0]) 3 rfl 0 (.int .i64 6) (by refine ⟨?_, ?_, ?_, ?_, trivial⟩ <;> (simp only [Fq.apart]; first | omega | (intro b h1 h2; omega) | (intro b h1 h2 h3; omega))))
  clear HF8
  refine leaves_cons (f := 23) (args := #[.pointer (some ⟨w.heap.size, 0, none⟩), .pointer (some ⟨w.heap.size + 1, 0, none⟩)]) (by simp) (invoke_read1 _ _ _) ?_
  refine (catch_idle _ _ _).mono ?_
  rintro e u' w9 ⟨⟨rfl, rfl⟩, hb⟩
  have HF10 := Lib.hid (HF9.out.below hb)
  clear HF9
  refine ⟨_, results_two rfl _ _ _ _ _ _ _ _ _ _ _ _ _ _ rfl rfl (HF10.out.blk 1 rfl) (HF10.out.blk 0 rfl), ?_⟩
  exact ⟨rfl, (HF10.out.base 4 rfl).below (Nat.le_refl _) (fun k hk h => h)⟩
set_option maxRecDepth 100000 in
set_option maxHeartbeats 8000000 in
theorem read_yes (l : List UInt8) (w : World) (hl : l.length < 1000000) (x : Fd × TL × List UInt8) (hn : pTerm true (l.length + 1) 0 l = some x) (hx : x.2.2.isEmpty = true) (htm : tame x.1 x.2.1) (hv : validF x.1 x.2.1 = true) :
    Calls Tryd.prog 10 #[.string (ba l)] w (ReadYes x.1 x.2.1 w) := by
  have HT := Lib.hid fun (R : Nat) (W : World) (hr : Rb R l ((0 : Nat) : Int) W) => term_all (l.length + 1) (by omega) 0 R l W hr (by omega) (by omega)
  have hmf : ∀ (fn : Fn) (first cap : Array Value) (w : World), (Instr.makeFunc fn first cap).run Tryd.prog w = .ok (.func fn first cap) w := fun _ _ _ _ => rfl
  have HF0 := Lib.hid (show Bq w [.base (fun _ => False) w] from ⟨Ch.refl _ _, trivial⟩)
  go_enter_defers Tryd.func10, Tryd.ntmps10
  go_wp2_with fail
  have HF1 := Lib.hid (HF0.out.box #[.int .i64 0, .int .i64 0, .int .i64 0, .string ⟨#[]⟩, .string ⟨#[]⟩, .int .i64 0, .slice none 0 0, .string ⟨#[]⟩, .int .i64 0] 24 (n := w.heap.size) (by rfl))
  clear HF0
  have HF2 := Lib.hid (HF1.out.box #[.int .i64 0] 28 (n := w.heap.size + 1) (by simp))
  clear HF1
  have HF3 := Lib.hid (HF2.out.box #[.string (ba l), .int .i64 ((0 : Nat) : Int)] 56 (n := w.heap.size + 2) (by simp))
  clear HF2
  have HN := Lib.hid hn
  clear hn
  refine (HT.out _ _ (HF3.out.blk 0 rfl)).mono ?_
  rintro e w1 hp
  have hp := hp.yes HN.out
  obtain ⟨ai, ci, rfl, hrd, hr, ho⟩ := hp
  have HRD := Lib.hid hrd
  clear hrd
  have HF4 := Lib.hid (HF3.out.call 0 ho hr (by refine ⟨?_, ?_, ?_, trivial⟩ <;> (simp only [Fq.apart]; first | omega | (intro b h1 h2; omega) | (intro b h1 h2 h3; omega))))
  have hz1 : w.heap.size + 3 ≤ w1.heap.size := by have := ho.size; simp at this; omega
  clear ho hr HT
  have HF5 := Lib.hid (HF4.out.add (f := .rd (w.heap.size + 3) w1.heap.size x.2.1 (.slice ai x.2.1.len ci)) ⟨by have := HRD.out; simpa using this, Nat.le_refl _⟩)
  clear HF4
  clear HRD
  obtain ⟨e0, e1, e2, e3, e4, e5, e6, e7, e8, fs⟩ := nine_cells (HF5.out.blk 3 rfl)
  have g0 := cells_of (HF5.out.blk 2 rfl) 0
  have gs := frees_of (HF5.out.blk 2 rfl)
  have c0 := cells_of (HF5.out.blk 1 rfl) 0
  have hb0 : w.heap.size < w1.heap.size := by omega
  have hb1 : w.heap.size + 1 < w1.heap.size := by omega
  have HV := Lib.hid hv
  clear hv
  have ht : (ba x.2.2).toList.isEmpty = true := by rw [ba_toList]; exact hx
  go_upto_region 4 with (fail)
  have HF6 := Lib.hid (HF5.out.put 3 rfl (by refine ⟨?_, ?_, ?_, ?_, trivial⟩ <;> (simp only [Fq.apart]; first | omega | (intro b h1 h2; omega) | (intro b h1 h2 h3; omega))) (.int .i64 (x.1).k) (.int .i64 (x.1).i) (.int .i64 (x.1).g) (.string (x.1).nm) (.string (x.1).fn) (.int .i64 (x.1).ar) (.slice ai x.2.1.len ci) (.string (x.1).bs) (.int .i64 (x.1).n))
  clear HF5
  have hz2 : (((((((((w1.setCell ⟨w.heap.size, 0, none⟩ (.int .i64 (x.1).k)).setCell ⟨w.heap.size, 1, none⟩ (.int .i64 (x.1).i)).setCell ⟨w.heap.size, 2, none⟩ (.int .i64 (x.1).g)).setCell ⟨w.heap.size, 3, none⟩ (.string (x.1).nm)).setCell ⟨w.heap.size, 4, none⟩ (.string (x.1).fn)).setCell ⟨w.heap.size, 5, none⟩ (.int .i64 (x.1).ar)).setCell ⟨w.heap.size, 6, none⟩ (.slice ai x.2.1.len ci)).setCell ⟨w.heap.size, 7, none⟩ (.string (x.1).bs)).setCell ⟨w.heap.size, 8, none⟩ (.int .i64 (x.1).n)).heap.size = w1.heap.size := by simp
  clear e0 e1 e2 e3 e4 e5 e6 e7 e8 fs g0 gs c0
  have hz2 := Lib.hid hz2
  generalize (((((((((w1.setCell ⟨w.heap.size, 0, none⟩ (.int .i64 (x.1).k)).setCell ⟨w.heap.size, 1, none⟩ (.int .i64 (x.1).i)).setCell ⟨w.heap.size, 2, none⟩ (.int .i64 (x.1).g)).setCell ⟨w.heap.size, 3, none⟩ (.string (x.1).nm)).setCell ⟨w.heap.size, 4, none⟩ (.string (x.1).fn)).setCell ⟨w.heap.size, 5, none⟩ (.int .i64 (x.1).ar)).setCell ⟨w.heap.size, 6, none⟩ (.slice ai x.2.1.len ci)).setCell ⟨w.heap.size, 7, none⟩ (.string (x.1).bs)).setCell ⟨w.heap.size, 8, none⟩ (.int .i64 (x.1).n)) = w2 at HF6 hz2 ⊢
  have hb0 : w.heap.size < w2.heap.size := by have := hz2.out; omega
  have hb1 : w.heap.size + 1 < w2.heap.size := by have := hz2.out; omega
  have c0 := cells_of (HF6.out.blk 2 rfl) 0
  have c0 : w2.cell? ⟨w.heap.size + 1 + 1, 0, none⟩ = _ := c0
  obtain ⟨e0, e1, e2, e3, e4, e5, e6, e7, e8, fs⟩ := nine_cells (HF6.out.blk 0 rfl)
  go_wp2_with fail
  refine (pValid_any x.1 x.2.1 (.slice ai x.2.1.len ci) _ _ _ htm (HF6.out.rd 1 rfl).1 (HF6.out.rd 1 rfl).2).mono ?_
  rw [HV.out]
  rintro e w3 ⟨rfl, hb⟩
  have HF7 := Lib.hid (HF6.out.below hb)
  clear HF6
  have hz3 : w2.heap.size ≤ w3.heap.size := hb.size
  clear hb e0 e1 e2 e3 e4 e5 e6 e7 e8 fs c0 ht
  have hb2 : w.heap.size < w3.heap.size := by omega
  have hb3 : w.heap.size + 1 < w3.heap.size := by omega
  have hz2 := Lib.hid hz2
  have hz3 := Lib.hid hz3
  obtain ⟨e0, e1, e2, e3, e4, e5, e6, e7, e8, fs⟩ := nine_cells (HF7.out.blk 0 rfl)
  have g0 := cells_of (HF7.out.blk 3 rfl) 0
  have gs := frees_of (HF7.out.blk 3 rfl)
  go_upto_region 6 with (fail)
  go_wp2_with fail
  have HF8 := Lib.hid (HF7.out.put 0 rfl (by refine ⟨?_, ?_, ?_, ?_, trivial⟩ <;> (simp only [Fq.apart]; first | omega | (intro b h1 h2; omega) | (intro b h1 h2 h3; omega))) (.int .i64 (x.1).k) (.int .i64 (x.1).i) (.int .i64 (x.1).g) (.string (x.1).nm) (.string (x.1).fn) (.int .i64 (x.1).ar) (.slice ai x.2.1.len ci) (.string (x.1).bs) (.int .i64 (x.1).n))
  clear HF7
  have HF9 := Lib.hid (HF8.out.set (c := [.int .i64 0]) 3 rfl 0 (.int .i64 0) (by refine ⟨?_, ?_, ?_, ?_, trivial⟩ <;> (simp only [Fq.apart]; first | omega | (intro b h1 h2; omega) | (intro b h1 h2 h3; omega))))
  clear HF8
  refine leaves_cons (f := 23) (args := #[.pointer (some ⟨w.heap.size, 0, none⟩), .pointer (some ⟨w.heap.size + 1, 0, none⟩)]) (by simp) (invoke_read1 _ _ _) ?_
  refine (catch_idle _ _ _).mono ?_
  rintro e u' w9 ⟨⟨rfl, rfl⟩, hb⟩
  have HF10 := Lib.hid (HF9.out.below hb)
  clear HF9
  refine ⟨_, results_two rfl _ _ _ _ _ _ _ _ _ _ _ _ _ _ rfl rfl (HF10.out.blk 1 rfl) (HF10.out.blk 0 rfl), ?_⟩
  exact ⟨ai, ci, rfl, ((HF10.out.rd 2 rfl).1.less (by omega)).more (HF10.out.rd 2 rfl).2, (HF10.out.base 4 rfl).below (Nat.le_refl _) (fun k hk h => h)⟩
set_option maxRecDepth 100000 in
set_option maxHeartbeats 8000000 in
theorem read_left (l : List UInt8) (w : World) (hl : l.length < 1000000) (x : Fd × TL × List UInt8) (hn : pTerm true (l.length + 1) 0 l = some x) (hx : x.2.2.isEmpty = false) :
    Calls Tryd.prog 10 #[.string (ba l)] w (ReadNo w) := by
  have HT := Lib.hid fun (R : Nat) (W : World) (hr : Rb R l ((0 : Nat) : Int) W) => term_all (l.length + 1) (by omega) 0 R l W hr (by omega) (by omega)
  have hmf : ∀ (fn : Fn) (first cap : Array Value) (w : World), (Instr.makeFunc fn first cap).run Tryd.prog w = .ok (.func fn first cap) w := fun _ _ _ _ => rfl
  have HF0 := Lib.hid (show Bq w [.base (fun _ => False) w] from ⟨Ch.refl _ _, trivial⟩)
  go_enter_defers Tryd.func10, Tryd.ntmps10
  go_wp2_with fail
  have HF1 := Lib.hid (HF0.out.box #[.int .i64 0, .int .i64 0, .int .i64 0, .string ⟨#[]⟩, .string ⟨#[]⟩, .int .i64 0, .slice none 0 0, .string ⟨#[]⟩, .int .i64 0] 24 (n := w.heap.size) (by rfl))
  clear HF0
  have HF2 := Lib.hid (HF1.out.box #[.int .i64 0] 28 (n := w.heap.size + 1) (by simp))
  clear HF1
  have HF3 := Lib.hid (HF2.out.box #[.string (ba l), .int .i64 ((0 : Nat) : Int)] 56 (n := w.heap.size + 2) (by simp))
  clear HF2
  have HN := Lib.hid hn
  clear hn
  refine (HT.out _ _ (HF3.out.blk 0 rfl)).mono ?_
  rintro e w1 hp
  have hp := hp.yes HN.out
  obtain ⟨ai, ci, rfl, hrd, hr, ho⟩ := hp
  have HRD := Lib.hid hrd
  clear hrd
  have HF4 := Lib.hid (HF3.out.call 0 ho hr (by refine ⟨?_, ?_, ?_, trivial⟩ <;> (simp only [Fq.apart]; first | omega | (intro b h1 h2; omega) | (intro b h1 h2 h3; omega))))
  have hz1 : w.heap.size + 3 ≤ w1.heap.size := by have := ho.size; simp at this; omega
  clear ho hr HT
  have HF5 := Lib.hid (HF4.out.add (f := .rd (w.heap.size + 3) w1.heap.size x.2.1 (.slice ai x.2.1.len ci)) ⟨by have := HRD.out; simpa using this, Nat.le_refl _⟩)
  clear HF4
  clear HRD
  obtain ⟨e0, e1, e2, e3, e4, e5, e6, e7, e8, fs⟩ := nine_cells (HF5.out.blk 3 rfl)
  have g0 := cells_of (HF5.out.blk 2 rfl) 0
  have gs := frees_of (HF5.out.blk 2 rfl)
  have c0 := cells_of (HF5.out.blk 1 rfl) 0
  have hb0 : w.heap.size < w1.heap.size := by omega
  have hb1 : w.heap.size + 1 < w1.heap.size := by omega
  have ht : (ba x.2.2).toList.isEmpty = false := by rw [ba_toList]; exact hx
  go_upto_region 4 with (fail)
  have HF6 := Lib.hid (HF5.out.put 3 rfl (by refine ⟨?_, ?_, ?_, ?_, trivial⟩ <;> (simp only [Fq.apart]; first | omega | (intro b h1 h2; omega) | (intro b h1 h2 h3; omega))) (.int .i64 (x.1).k) (.int .i64 (x.1).i) (.int .i64 (x.1).g) (.string (x.1).nm) (.string (x.1).fn) (.int .i64 (x.1).ar) (.slice ai x.2.1.len ci) (.string (x.1).bs) (.int .i64 (x.1).n))
  clear HF5
  have hz2 : (((((((((w1.setCell ⟨w.heap.size, 0, none⟩ (.int .i64 (x.1).k)).setCell ⟨w.heap.size, 1, none⟩ (.int .i64 (x.1).i)).setCell ⟨w.heap.size, 2, none⟩ (.int .i64 (x.1).g)).setCell ⟨w.heap.size, 3, none⟩ (.string (x.1).nm)).setCell ⟨w.heap.size, 4, none⟩ (.string (x.1).fn)).setCell ⟨w.heap.size, 5, none⟩ (.int .i64 (x.1).ar)).setCell ⟨w.heap.size, 6, none⟩ (.slice ai x.2.1.len ci)).setCell ⟨w.heap.size, 7, none⟩ (.string (x.1).bs)).setCell ⟨w.heap.size, 8, none⟩ (.int .i64 (x.1).n)).heap.size = w1.heap.size := by simp
  clear e0 e1 e2 e3 e4 e5 e6 e7 e8 fs g0 gs c0
  have hz2 := Lib.hid hz2
  generalize (((((((((w1.setCell ⟨w.heap.size, 0, none⟩ (.int .i64 (x.1).k)).setCell ⟨w.heap.size, 1, none⟩ (.int .i64 (x.1).i)).setCell ⟨w.heap.size, 2, none⟩ (.int .i64 (x.1).g)).setCell ⟨w.heap.size, 3, none⟩ (.string (x.1).nm)).setCell ⟨w.heap.size, 4, none⟩ (.string (x.1).fn)).setCell ⟨w.heap.size, 5, none⟩ (.int .i64 (x.1).ar)).setCell ⟨w.heap.size, 6, none⟩ (.slice ai x.2.1.len ci)).setCell ⟨w.heap.size, 7, none⟩ (.string (x.1).bs)).setCell ⟨w.heap.size, 8, none⟩ (.int .i64 (x.1).n)) = w2 at HF6 hz2 ⊢
  have hb0 : w.heap.size < w2.heap.size := by have := hz2.out; omega
  have hb1 : w.heap.size + 1 < w2.heap.size := by have := hz2.out; omega
  have c0 := cells_of (HF6.out.blk 2 rfl) 0
  have c0 : w2.cell? ⟨w.heap.size + 1 + 1, 0, none⟩ = _ := c0
  go_upto_region 5 with (fail)
  obtain ⟨e0, e1, e2, e3, e4, e5, e6, e7, e8, fs⟩ := nine_cells (HF6.out.blk 0 rfl)
  have g0 := cells_of (HF6.out.blk 3 rfl) 0
  have gs := frees_of (HF6.out.blk 3 rfl)
  go_wp2_with fail
  have HF7 := Lib.hid (HF6.out.put 0 rfl (by refine ⟨?_, ?_, ?_, ?_, trivial⟩ <;> (simp only [Fq.apart]; first | omega | (intro b h1 h2; omega) | (intro b h1 h2 h3; omega))) (.int .i64 0) (.int .i64 0) (.int .i64 0) (.string ⟨#[]⟩) (.string ⟨#[]⟩) (.int .i64 0) (.slice none 0 0) (.string ⟨#[]⟩) (.int .i64 0))
  clear HF6
  have HF8 := Lib.hid (HF7.out.set (c := [.int .i64 0]) 3 rfl 0 (.int .i64 6) (by refine ⟨?_, ?_, ?_, ?_, trivial⟩ <;> (simp only [Fq.apart]; first | omega | (intro b h1 h2; omega) | (intro b h1 h2 h3; omega))))
  clear HF7
  refine leaves_cons (f := 23) (args := #[.pointer (some ⟨w.heap.size, 0, none⟩), .pointer (some ⟨w.heap.size + 1, 0, none⟩)]) (by simp) (invoke_read1 _ _ _) ?_
  refine (catch_idle _ _ _).mono ?_
  rintro e u' w9 ⟨⟨rfl, rfl⟩, hb⟩
  have HF9 := Lib.hid (HF8.out.below hb)
  clear HF8
  refine ⟨_, results_two rfl _ _ _ _ _ _ _ _ _ _ _ _ _ _ rfl rfl (HF9.out.blk 1 rfl) (HF9.out.blk 0 rfl), ?_⟩
  exact ⟨rfl, (HF9.out.base 4 rfl).below (Nat.le_refl _) (fun k hk h => h)⟩
theorem showRead_any (l : List UInt8) (w : World) (hl : l.length < 1000000) : Calls Tryd.prog 10 #[.string (ba l)] w (ReadPost (readT l) w) := by
  cases hn : pTerm true (l.length + 1) 0 l with
  | none =>
    have e : readT l = none := by unfold readT; rw [hn]; rfl
    rw [e]
    exact read_panic l w hl hn
  | some x =>
    have htm := term_tame hn (by omega)
    cases hx : x.2.2.isEmpty with
    | false =>
      have e : readT l = none := by unfold readT; rw [hn, Option.bind_some, hx]; rfl
      rw [e]
      exact read_left l w hl x hn hx
    | true =>
      cases hv : validF x.1 x.2.1 with
      | false =>
        have e : readT l = none := by unfold readT; rw [hn, Option.bind_some, hx, hv]; rfl
        rw [e]
        exact read_bad l w hl x hn hx htm hv
      | true =>
        have e : readT l = some (x.1, x.2.1) := by unfold readT; rw [hn, Option.bind_some, hx, hv]; rfl
        rw [e]
        exact read_yes l w hl x hn hx htm hv
end Go.Proofs.YtgfodedmcjkmaaaDoor
