/-
  One mailbox over a base; the law's own shown.
-/
import Derived.Test.YtgbaelkoblnlhaaMail
import Derived.Test.YtgbaelkoblnlhaaRMake
namespace Go.Proofs.Ytgbaelkoblnlhaa
open Go.RowKit
def OneS (w0 w : World) (S : Nat → Prop) (B : Nat) (l : TL) (p : Nat) : Prop := MbS w S B l p ∧ (∀ b, S b → w0.heap.size ≤ b) ∧ Below w0.heap.size w0 w
theorem OneS.below {w0 w : World} {S : Nat → Prop} {B : Nat} {l : TL} {p : Nat} {w' : World} (h : OneS w0 w S B l p) (hb : Below w.heap.size w w') : OneS w0 w' S B l p := ⟨h.1.below hb, h.2.1, h.2.2.trans (hb.mono h.2.2.size)⟩
theorem OneS.keep {w0 w : World} {S : Nat → Prop} {B : Nat} {l : TL} {p : Nat} {w' : World} (h : OneS w0 w S B l p) (T : Nat → Prop) (ho : OutsS T w w') (hT : ∀ b, T b → w0.heap.size ≤ b ∧ ¬ S b) : OneS w0 w' S B l p :=
  ⟨h.1.keep ho.size fun b hb => ho.block b (h.1.lt b hb) fun ht => (hT b ht).2 hb, h.2.1, ho.below h.2.2.size (fun k hk => (hT k hk).1) h.2.2⟩
theorem OneS.far {w0 w : World} {S : Nat → Prop} {B : Nat} {l : TL} {p : Nat} (h : OneS w0 w S B l p) {k : Nat} (hk : w.heap.size ≤ k) : ¬ S k := fun hs => by have := h.1.lt k hs; omega
theorem OneS.step {w0 w : World} {S : Nat → Prop} {B : Nat} {l : TL} {p : Nat} {w' : World} {S' : Nat → Prop} {l' : TL} {p' : Nat} (h : OneS w0 w S B l p) (hm : MbS w' S' B l' p') (hS : ∀ b, S' b → S b ∨ (w.heap.size ≤ b ∧ b < w'.heap.size)) (ho : OutsS S w w') : OneS w0 w' S' B l' p' := by
  have hz := h.2.2.size
  refine ⟨hm, fun b hb => ?_, ho.below hz h.2.1 h.2.2⟩
  rcases hS b hb with hb | hb
  · exact h.2.1 b hb
  · omega
theorem New1 (w0 w : World) (hb : Below w0.heap.size w0 w) : Calls Try.prog 58 #[] w fun e w' => e = .returned (.pointer (some ⟨w.heap.size, 0, none⟩)) ∧ OneS w0 w' (fun b => b = w.heap.size) w.heap.size .nil 0 ∧ Below w.heap.size w w' ∧ w'.heap.size = w.heap.size + 1 :=
  (New_any w).mono fun _ _ h => ⟨h.1, ⟨⟨_, h.2.1⟩, fun b hb2 => by have := hb.size; omega, hb.trans (h.2.2.1.mono hb.size)⟩, h.2.2⟩
theorem Put1 {w0 w : World} {S : Nat → Prop} {B : Nat} {l : TL} {p : Nat} (h : OneS w0 w S B l p) (hb : l.len ≤ 1000000000) (f : Fd) (it : TL) (ai : Option Addr) (ci : Nat) (ht : tame f it) (hv : validF f it = true) (hs : RdS w 0 w.heap.size it (.slice ai it.len ci)) :
    Calls Try.prog 59 #[.pointer (some ⟨B, 0, none⟩), .agg #[.int .i64 f.k, .int .i64 f.i, .int .i64 f.g, .string f.nm, .string f.fn, .int .i64 f.ar, .slice ai it.len ci, .string f.bs, .int .i64 f.n]] w fun e w' => e = .returned (.int .i64 0) ∧ (∃ S', OneS w0 w' S' B (l.app (.cons f it .nil)) (p) ∧ ∀ b, S' b → S b ∨ (w.heap.size ≤ b ∧ b < w'.heap.size)) ∧ OutsS S w w' :=
  (Put_ok h.1 hb f it ai ci ht hv hs).mono fun _ _ hq => ⟨hq.1, ⟨_, h.step hq.2.1 (fun _ h => h) hq.2.2, fun _ h => h⟩, hq.2.2⟩
theorem Skip1 {w0 w : World} {S : Nat → Prop} {B : Nat} {l : TL} {p : Nat} (h : OneS w0 w S B l p) (hp : p < l.len) (hb : l.len ≤ 1000000000) : Calls Try.prog 66 #[.pointer (some ⟨B, 0, none⟩)] w fun e w' => e = .returned (.bool true) ∧ OneS w0 w' S B l (p + 1) ∧ OutsS S w w' :=
  (Skip_yes h.1 hp hb).mono fun _ _ hq => ⟨hq.1, h.step hq.2.1 (fun _ h => .inl h) hq.2.2, hq.2.2⟩
theorem Rewind1 {w0 w : World} {S : Nat → Prop} {B : Nat} {l : TL} {p : Nat} (h : OneS w0 w S B l p) : Calls Try.prog 70 #[.pointer (some ⟨B, 0, none⟩)] w fun e w' => e = .returned (.tuple #[]) ∧ OneS w0 w' S B l 0 ∧ OutsS S w w' :=
  (Rewind_any h.1).mono fun _ _ hq => ⟨hq.1, h.step hq.2.1 (fun _ h => .inl h) hq.2.2, hq.2.2⟩
theorem Take1 {w0 w : World} {S : Nat → Prop} {B : Nat} {l : TL} {p : Nat} (h : OneS w0 w S B l p) {f : Fd} {it r : TL} (hd : l.drop p = .cons f it r) (hp : p < l.len) (hb : l.len ≤ 1000000000) (hc : it.cnt ≤ 1000000000) :
    Calls Try.prog 64 #[.pointer (some ⟨B, 0, none⟩)] w fun e w' => (∃ ai ci, e = .returned (.tuple #[.agg #[.int .i64 f.k, .int .i64 f.i, .int .i64 f.g, .string f.nm, .string f.fn, .int .i64 f.ar, .slice ai it.len ci, .string f.bs, .int .i64 f.n], .bool true]) ∧ NwS w' w.heap.size w'.heap.size it (.slice ai it.len ci)) ∧ OneS w0 w' S B (l.del p) 0 ∧ OutsS S w w' :=
  (Take_yes h.1 hd hp hb hc).mono fun _ _ hq => by
    obtain ⟨ai, ci, h1, h2, h3, h4⟩ := hq
    exact ⟨⟨ai, ci, h1, h2⟩, h.step h3 (fun _ h => .inl h) h4, h4⟩
theorem form_int14 (n : Int) : formT (intF n) .nil = true := by
  unfold formT nodeB
  rw [show zeroB (bareF (intF n)) (bareN (intF n) TL.nil.len) = true from by rw [show bareF (intF n) = Fd.zero from rfl, show bareN (intF n) TL.nil.len = 0 from rfl, zeroB_true]]; rfl
theorem int_valid (n : Int) : validF (intF n) .nil = true ∧ tame (intF n) .nil := by
  refine ⟨?_, Nat.zero_le _, Nat.zero_le _, Nat.zero_le _, Nat.zero_le _, trivial⟩
  unfold validF
  rw [form_int14]
  rfl
theorem rInt_lit (n : Int) (w : World) : Calls Try.prog 40 #[.int .i64 n] w fun e w' => e = .returned (.agg #[.int .i64 1, .int .i64 n, .int .i64 0, .string ⟨#[]⟩, .string ⟨#[]⟩, .int .i64 0, .slice none 0 0, .string ⟨#[]⟩, .int .i64 0]) ∧ Below w.heap.size w w' := rInt_any n w
theorem PutI {w0 w : World} {S : Nat → Prop} {B : Nat} {l : TL} {p : Nat} (h : OneS w0 w S B l p) (hb : l.len ≤ 1000000000) (n : Int) :
    Calls Try.prog 59 #[.pointer (some ⟨B, 0, none⟩), .agg #[.int .i64 1, .int .i64 n, .int .i64 0, .string ⟨#[]⟩, .string ⟨#[]⟩, .int .i64 0, .slice none 0 0, .string ⟨#[]⟩, .int .i64 0]] w fun e w' => e = .returned (.int .i64 0) ∧ (∃ S', OneS w0 w' S' B (l.app (.cons (intF n) .nil .nil)) (p) ∧ ∀ b, S' b → S b ∨ (w.heap.size ≤ b ∧ b < w'.heap.size)) ∧ OutsS S w w' :=
  Put1 h hb (intF n) .nil none 0 (int_valid n).2 (int_valid n).1 (RdS.nil _ _ _)
set_option maxRecDepth 100000 in
set_option maxHeartbeats 4000000 in
theorem shown14 (w : World) : Calls Try.prog 57 #[] w fun e w' => e = .returned (.bool true) ∧ Below w.heap.size w w' := by
  go_enter Try.func57, Try.ntmps57
  go_wp2_with fail
  refine (New1 w w (Below.refl _ _)).mono ?_
  rintro e w1 ⟨rfl, h1, -, hz1⟩
  have H1 := Lib.hid h1
  clear h1
  go_wp2_with fail
  refine (rInt_lit 1 _).mono ?_
  rintro e w2 ⟨rfl, hb2⟩
  have H2 := Lib.hid (H1.out.below hb2)
  clear hb2 H1
  go_wp2_with fail
  refine (PutI H2.out (by decide) 1).mono ?_
  rintro e w3 ⟨rfl, ⟨S3, h3, -⟩, -⟩
  have H3 := Lib.hid h3
  clear h3 H2
  go_wp2_with fail
  refine (rInt_lit 2 _).mono ?_
  rintro e w4 ⟨rfl, hb4⟩
  have H4 := Lib.hid (H3.out.below hb4)
  clear hb4 H3
  go_wp2_with fail
  refine (PutI H4.out (by decide) 2).mono ?_
  rintro e w5 ⟨rfl, ⟨S5, h5, -⟩, -⟩
  have H5 := Lib.hid (show OneS w w5 S5 w.heap.size (.cons (intF 1) .nil (.cons (intF 2) .nil .nil)) 0 from h5)
  clear h5 H4
  go_wp2_with fail
  refine (Skip1 H5.out (by decide) (by decide)).mono ?_
  rintro e w6 ⟨rfl, h6, -⟩
  have H6 := Lib.hid h6
  clear h6 H5
  go_wp2_with fail
  refine (At_any H6.out.1).mono ?_
  rintro e w7 ⟨rfl, rfl⟩
  go_wp2_with fail
  refine (Take1 (f := intF 2) (it := .nil) (r := .nil) H6.out rfl (by decide) (by decide) (by decide)).mono ?_
  rintro e w8 ⟨⟨ai, ci, rfl, -⟩, h8, -⟩
  have H8 := Lib.hid (show OneS w w8 S5 w.heap.size (.cons (intF 1) .nil .nil) 0 from h8)
  clear h8 H6
  simp only [intF]
  go_upto_region 5 with (fail)
  have H9 := Lib.hid (H8.out.below (below_alloc w8 (.cells #[.int .i64 1, .int .i64 2, .int .i64 0, .string ⟨#[]⟩, .string ⟨#[]⟩, .int .i64 0, .slice ai TL.nil.len ci, .string ⟨#[]⟩, .int .i64 0] 24 (0, 0))))
  clear H8
  go_wp2_with fail
  refine (Len_any H9.out.1).mono ?_
  rintro e w10 ⟨rfl, rfl⟩
  simp only [TL.len, Nat.zero_add]
  go_wp2_with fail
  refine (At_any H9.out.1).mono ?_
  rintro e w10 ⟨rfl, rfl⟩
  go_wp2_with fail
  refine (All_any H9.out.1 (by decide)).mono ?_
  rintro e w11 ⟨ao, c, rfl, -, hb11⟩
  have H11 := Lib.hid (H9.out.below hb11)
  clear hb11 H9
  simp only [TL.len, Nat.zero_add]
  go_wp2_with fail
  go_ret
  exact ⟨rfl, H11.out.2.2⟩
end Go.Proofs.Ytgbaelkoblnlhaa
