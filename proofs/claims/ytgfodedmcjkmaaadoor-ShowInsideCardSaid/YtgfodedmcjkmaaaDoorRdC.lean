/-
  Walks: the program's reader of show: sign, over the contract of term. Walks: the program's reader of show: term (a deferred closure runs also behind a panic). Walks: Read of package show: the reader's panics are caught.
-/
import Derived.Test.YtgfodedmcjkmaaaDoorRdB
import Derived.Defers
import Derived.Recover
namespace Go.Proofs.YtgfodedmcjkmaaaDoor
open Go.RowKit Go.Proofs.BitsM
def SignRes (R : Nat) (x : Fd × TL × List UInt8) (d : Int) (w : World) (e : Ending) (w' : World) : Prop :=
  ∃ ai ci, e = .returned (.tuple #[.agg #[.int .i64 x.1.k, .int .i64 x.1.i, .int .i64 x.1.g, .string x.1.nm, .string x.1.fn, .int .i64 x.1.ar, .slice ai x.2.1.len ci, .string x.1.bs, .int .i64 x.1.n], .bool true]) ∧ RdS w' w.heap.size w'.heap.size x.2.1 (.slice ai x.2.1.len ci) ∧ Rb R x.2.2 d w' ∧ Ch (fun b => b = R) w w'
def SignPost (R : Nat) (o : Option (Fd × TL × List UInt8)) (d : Int) (w : World) (e : Ending) (w' : World) : Prop := match o with | none => Bad R w e w' | some x => SignRes R x d w e w'
theorem SignPost.bad {R : Nat} {o : Option (Fd × TL × List UInt8)} {d : Int} {w : World} {e : Ending} {w' : World} (h : o = none) (hb : Bad R w e w') : SignPost R o d w e w' := by subst h; exact hb
theorem SignPost.res {R : Nat} {o : Option (Fd × TL × List UInt8)} {d : Int} {w : World} {e : Ending} {w' : World} {x : Fd × TL × List UInt8} (h : o = some x) (hb : SignRes R x d w e w') : SignPost R o d w e w' := by subst h; exact hb
theorem TermPost.no {R : Nat} {o : Option (Fd × TL × List UInt8)} {d : Int} {w : World} {e : Ending} {w' : World} (h : TermPost R o d w e w') (ho : o = none) : Bad R w e w' := by subst ho; exact h
theorem TermPost.yes {R : Nat} {o : Option (Fd × TL × List UInt8)} {x : Fd × TL × List UInt8} {d : Int} {w : World} {e : Ending} {w' : World} (h : TermPost R o d w e w') (ho : o = some x) : TermRes R x d w e w' := by subst ho; exact h
def BitsVal (x : Fd × List UInt8) : Value := .agg #[.int .i64 10, .int .i64 0, .int .i64 0, .string ⟨#[]⟩, .string ⟨#[]⟩, .int .i64 0, .slice none 0 0, .string x.1.bs, .int .i64 x.1.n]
theorem bits_no (R : Nat) (l : List UInt8) (d : Int) (j : Nat) (w : World) (hr : Rb R l d w) (hl : l.length ≤ 1000000000) (hj : l.length < j) (h : pBits true j l = none) : Calls Tryd.prog 59 #[.pointer (some ⟨R, 0, none⟩)] w (Bad R w) := by
  refine (bits_any R l d j w hr hl hj _ rfl).mono fun e w' hp => ?_
  unfold BitsPost at hp
  unfold pBits at h
  rw [h] at hp
  exact hp
theorem bits_yes (R : Nat) (l : List UInt8) (d : Int) (j : Nat) (x : Fd × List UInt8) (w : World) (hr : Rb R l d w) (hl : l.length ≤ 1000000000) (hj : l.length < j) (h : pBits true j l = some x) : Calls Tryd.prog 59 #[.pointer (some ⟨R, 0, none⟩)] w (Rt R (BitsVal x) x.2 d w) := by
  refine (bits_any R l d j w hr hl hj _ rfl).mono fun e w' hp => ?_
  unfold BitsPost at hp
  unfold pBits at h
  rw [h] at hp
  exact hp
theorem bits_fd {m : Bool} {j : Nat} {l : List UInt8} {x : Fd × List UInt8} (h : pBits m j l = some x) : x.1 = ⟨10, 0, 0, ⟨#[]⟩, ⟨#[]⟩, 0, x.1.bs, x.1.n⟩ := by
  unfold pBits at h
  simp only [Option.bind_eq_some_iff] at h
  obtain ⟨z, _, s', _, h3⟩ := h
  injection h3 with h3
  subst h3; rfl
theorem marked_fd {k : Int} {l : List UInt8} {x : Fd × List UInt8} (h : pMarked k l = some x) : x.1 = ⟨k, x.1.i, x.1.g, x.1.nm, ⟨#[]⟩, 0, ⟨#[]⟩, 0⟩ := by
  unfold pMarked at h
  simp only [Option.bind_eq_some_iff] at h
  obtain ⟨s1, h1, g, h2, s3, h3, i, h4, h5⟩ := h
  injection h5 with h5
  subst h5; rfl
set_option maxRecDepth 100000 in
set_option maxHeartbeats 8000000 in
theorem sign_w0 (j : Nat) (hj : j ≤ 1000000) (d : Nat) (R : Nat) (l : List UInt8) (w : World) (hr : Rb R l (d : Int) w) (hl : l.length ≤ j + 1)  (ny : hp l [91, 93] = true) :
    Calls Tryd.prog 39 #[.pointer (some ⟨R, 0, none⟩)] w (SignPost R (some (kF 8, .nil, l.drop 2)) (d : Int) w) := by
  have hRw : R < w.heap.size := hr.lt
  have hly := hp_len ny
  simp only [List.length_cons, List.length_nil] at hly
  have HNY := Lib.hid ny
  clear ny 
  have HF0 := Lib.hid (show Bq w [.blk R #[.string (ba (l)), .int .i64 (d : Int)] 56, .base (fun b => b = R) w] from ⟨hr, Ch.refl _ _, trivial⟩)
  clear hr
  generalize hres : (some (kF 8, .nil, l.drop 2) : Option (Fd × TL × List UInt8)) = res
  go_enter Tryd.func39, Tryd.ntmps39
  go_wp2_with fail
  have HF1 := Lib.hid (HF0.out.box #[.int .i64 0, .int .i64 0, .int .i64 0, .string ⟨#[]⟩, .string ⟨#[]⟩, .int .i64 0, .slice none 0 0, .string ⟨#[]⟩, .int .i64 0] 24 (n := w.heap.size) (by rfl))
  clear HF0
  refine (eatY R l _ ⟨#[91, 93]⟩ _ (HF1.out.blk 1 rfl) HNY.out).mono ?_
  rintro e w1 ⟨rfl, hr, ho⟩
  have HF2 := Lib.hid (HF1.out.call 1 ho hr (by refine ⟨?_, ?_, trivial⟩ <;> (simp only [Fq.apart]; first | omega | (intro b h1 h2; omega) | (intro b h1 h2 h3; omega))))
  have hz1 : w.heap.size + 1 ≤ w1.heap.size := by have := ho.size; first | omega | (simp at this; omega)
  clear HF1 ho hr 
  have hl1 : (l.drop 2).length < j + 1 := by rw [List.length_drop]; omega
  have hl2 : (l.drop 2).length ≤ 1000000000 := by omega
  have hl3 : (l.drop 2).length ≤ 9223372036854775807 := by omega
  have HRS := Lib.hid hres.symm
  clear hres
  go_wp2_with fail
  refine (nilT_any _).mono ?_
  rintro e w5 ⟨rfl, hb⟩
  have HF3 := Lib.hid (HF2.out.below hb)
  clear HF2
  clear hb
  obtain ⟨c0, c1, c2, c3, c4, c5, c6, c7, c8, fr⟩ := nine_cells (HF3.out.blk 1 rfl)
  go_wp2_with fail
  have HF4 := Lib.hid (HF3.out.put 1 rfl (by refine ⟨?_, ?_, trivial⟩ <;> (simp only [Fq.apart]; first | omega | (intro b h1 h2; omega) | (intro b h1 h2 h3; omega))) (.int .i64 8) (.int .i64 0) (.int .i64 0) (.string ⟨#[]⟩) (.string ⟨#[]⟩) (.int .i64 0) (.slice none 0 0) (.string ⟨#[]⟩) (.int .i64 0))
  clear HF3
  refine bodyPost_ret (results_pair rfl _ _ _ _ _ _ _ _ _ _ _ _ rfl (HF4.out.blk 0 rfl)) rfl ?_
  exact SignPost.res (x := (kF 8, .nil, l.drop 2)) (HRS.out) ⟨_, _, rfl, RdS.nil _ _ _, (HF4.out.blk 1 rfl), (HF4.out.base 2 rfl)⟩
set_option maxRecDepth 100000 in
set_option maxHeartbeats 8000000 in
theorem sign_w1 (j : Nat) (hT : TermC (j + 1)) (hj : j ≤ 1000000) (d : Nat) (hd : d ≤ 2000) (R : Nat) (l : List UInt8) (w : World) (hr : Rb R l (d : Int) w) (hl : l.length ≤ j + 1) (n0 : hp l [91, 93] = false) (ny : hp l [91] = true) :
    Calls Tryd.prog 39 #[.pointer (some ⟨R, 0, none⟩)] w (SignPost R (pPair true (pTerm true (j + 1) d) (j + 1) (l.drop 1)) (d : Int) w) := by
  have hRw : R < w.heap.size := hr.lt
  have HTC := Lib.hid hT
  clear hT
  have hly := hp_len ny
  simp only [List.length_cons, List.length_nil] at hly
  have HNY := Lib.hid ny
  have N0 := Lib.hid n0
  clear ny n0
  have HF0 := Lib.hid (show Bq w [.blk R #[.string (ba (l)), .int .i64 (d : Int)] 56, .base (fun b => b = R) w] from ⟨hr, Ch.refl _ _, trivial⟩)
  clear hr
  generalize hres : (pPair true (pTerm true (j + 1) d) (j + 1) (l.drop 1) : Option (Fd × TL × List UInt8)) = res
  go_enter Tryd.func39, Tryd.ntmps39
  go_wp2_with fail
  have HF1 := Lib.hid (HF0.out.box #[.int .i64 0, .int .i64 0, .int .i64 0, .string ⟨#[]⟩, .string ⟨#[]⟩, .int .i64 0, .slice none 0 0, .string ⟨#[]⟩, .int .i64 0] 24 (n := w.heap.size) (by rfl))
  clear HF0
  refine (eat_no R l _ ⟨#[91, 93]⟩ _ (HF1.out.blk 1 rfl) N0.out).mono ?_
  rintro e w8 ⟨rfl, rfl⟩
  go_wp2_with fail
  clear N0
  refine (eatY R l _ ⟨#[91]⟩ _ (HF1.out.blk 1 rfl) HNY.out).mono ?_
  rintro e w1 ⟨rfl, hr, ho⟩
  have HF2 := Lib.hid (HF1.out.call 1 ho hr (by refine ⟨?_, ?_, trivial⟩ <;> (simp only [Fq.apart]; first | omega | (intro b h1 h2; omega) | (intro b h1 h2 h3; omega))))
  have hz1 : w.heap.size + 1 ≤ w1.heap.size := by have := ho.size; first | omega | (simp at this; omega)
  clear HF1 ho hr 
  have hl1 : (l.drop 1).length < j + 1 := by rw [List.length_drop]; omega
  have hl2 : (l.drop 1).length ≤ 1000000000 := by omega
  have hl3 : (l.drop 1).length ≤ 9223372036854775807 := by omega
  go_wp2_with fail
  have HPC := Lib.hid (pair_any j HTC.out hj d hd R (l.drop 1) _ (HF2.out.blk 0 rfl) hl1)
  rw [hres] at HPC
  cases res with
  | none =>
    refine ((HPC.out.mono fun _ _ h => TermPost.no h rfl)).mono ?_
    rintro e w9 ⟨rfl, ⟨l9, d9, hr⟩, ho⟩
    have HZ := Lib.hid (HF2.out.call 0 ho hr (by refine ⟨?_, ?_, trivial⟩ <;> (simp only [Fq.apart]; first | omega | (intro b h1 h2; omega) | (intro b h1 h2 h3; omega))))
    clear ho hr
    go_wp2_with fail
    exact ⟨rfl, SignPost.bad (rfl) ⟨rfl, ⟨_, _, (HZ.out.blk 0 rfl)⟩, (HZ.out.base 2 rfl)⟩⟩
  | some x =>
    refine (HPC.out.mono fun _ _ h => TermPost.yes h rfl).mono ?_
    rintro e w5 ⟨ai, ci, rfl, hrd, hr, ho⟩
    have HRD := Lib.hid hrd
    clear hrd HPC hres
    have HF3 := Lib.hid (HF2.out.call 0 ho hr (by refine ⟨?_, ?_, trivial⟩ <;> (simp only [Fq.apart]; first | omega | (intro b h1 h2; omega) | (intro b h1 h2 h3; omega))))
    have hz5 : w1.heap.size ≤ w5.heap.size := by have := ho.size; first | omega | (simp at this; omega)
    clear HF2 ho hr 
    have HF4 := Lib.hid (HF3.out.add (f := .rd w1.heap.size w5.heap.size x.2.1 (.slice ai x.2.1.len ci)) ⟨HRD.out, Nat.le_refl _⟩)
    clear HF3
    clear HRD
    obtain ⟨c0, c1, c2, c3, c4, c5, c6, c7, c8, fr⟩ := nine_cells (HF4.out.blk 2 rfl)
    go_wp2_with fail
    have HF5 := Lib.hid (HF4.out.put 2 rfl (by refine ⟨?_, ?_, ?_, trivial⟩ <;> (simp only [Fq.apart]; first | omega | (intro b h1 h2; omega) | (intro b h1 h2 h3; omega))) (.int .i64 (x.1).k) (.int .i64 (x.1).i) (.int .i64 (x.1).g) (.string (x.1).nm) (.string (x.1).fn) (.int .i64 (x.1).ar) (.slice ai x.2.1.len ci) (.string (x.1).bs) (.int .i64 (x.1).n))
    clear HF4
    refine bodyPost_ret (results_pair rfl _ _ _ _ _ _ _ _ _ _ _ _ rfl (HF5.out.blk 0 rfl)) rfl ?_
    exact SignPost.res (x := x) (rfl) ⟨_, _, rfl, ((HF5.out.rd 1 rfl).1.less (by omega)).more (HF5.out.rd 1 rfl).2, (HF5.out.blk 2 rfl), (HF5.out.base 3 rfl)⟩
set_option maxRecDepth 100000 in
set_option maxHeartbeats 8000000 in
theorem sign_w2 (j : Nat) (hT : TermC (j + 1)) (hj : j ≤ 1000000) (d : Nat) (hd : d ≤ 2000) (R : Nat) (l : List UInt8) (w : World) (hr : Rb R l (d : Int) w) (hl : l.length ≤ j + 1) (n0 : hp l [91, 93] = false) (n1 : hp l [91] = false) (ny : hp l [123] = true) :
    Calls Tryd.prog 39 #[.pointer (some ⟨R, 0, none⟩)] w (SignPost R (pTuple (pTerm true (j + 1) d) (j + 1) (l.drop 1)) (d : Int) w) := by
  have hRw : R < w.heap.size := hr.lt
  have HTC := Lib.hid hT
  clear hT
  have hly := hp_len ny
  simp only [List.length_cons, List.length_nil] at hly
  have HNY := Lib.hid ny
  have N0 := Lib.hid n0
  have N1 := Lib.hid n1
  clear ny n0 n1
  have HF0 := Lib.hid (show Bq w [.blk R #[.string (ba (l)), .int .i64 (d : Int)] 56, .base (fun b => b = R) w] from ⟨hr, Ch.refl _ _, trivial⟩)
  clear hr
  generalize hres : (pTuple (pTerm true (j + 1) d) (j + 1) (l.drop 1) : Option (Fd × TL × List UInt8)) = res
  unfold pTuple at hres
  go_enter Tryd.func39, Tryd.ntmps39
  go_wp2_with fail
  have HF1 := Lib.hid (HF0.out.box #[.int .i64 0, .int .i64 0, .int .i64 0, .string ⟨#[]⟩, .string ⟨#[]⟩, .int .i64 0, .slice none 0 0, .string ⟨#[]⟩, .int .i64 0] 24 (n := w.heap.size) (by rfl))
  clear HF0
  refine (eat_no R l _ ⟨#[91, 93]⟩ _ (HF1.out.blk 1 rfl) N0.out).mono ?_
  rintro e w8 ⟨rfl, rfl⟩
  go_wp2_with fail
  refine (eat_no R l _ ⟨#[91]⟩ _ (HF1.out.blk 1 rfl) N1.out).mono ?_
  rintro e w8 ⟨rfl, rfl⟩
  go_wp2_with fail
  clear N0 N1
  refine (eatY R l _ ⟨#[123]⟩ _ (HF1.out.blk 1 rfl) HNY.out).mono ?_
  rintro e w1 ⟨rfl, hr, ho⟩
  have HF2 := Lib.hid (HF1.out.call 1 ho hr (by refine ⟨?_, ?_, trivial⟩ <;> (simp only [Fq.apart]; first | omega | (intro b h1 h2; omega) | (intro b h1 h2 h3; omega))))
  have hz1 : w.heap.size + 1 ≤ w1.heap.size := by have := ho.size; first | omega | (simp at this; omega)
  clear HF1 ho hr 
  have hl1 : (l.drop 1).length < j + 1 := by rw [List.length_drop]; omega
  have hl2 : (l.drop 1).length ≤ 1000000000 := by omega
  have hl3 : (l.drop 1).length ≤ 9223372036854775807 := by omega
  go_wp2_with fail
  have HF3 := Lib.hid (HF2.out.box #[.string ⟨#[125]⟩] 9 (n := w1.heap.size) (by rfl))
  clear HF2
  have HLC := Lib.hid (list_any j HTC.out hj d hd R (l.drop 1) (w1.heap.size) 1 [⟨#[125]⟩] _ (HF3.out.blk 1 rfl) hl1 (fun k x hx => by
      have hc := cells_of (HF3.out.blk 0 rfl) k
      rw [hc]
      match k, hx with
      | 0, hx => simpa using hx
      | k + 1, hx => simp at hx) (by decide))
  have hends : ([⟨#[125]⟩] : List ByteArray).map bl = [[125]] := rfl
  rw [hends] at HLC
  clear hends
  cases g1 : pList (pTerm true (j + 1) d) (j + 1) [[125]] (l.drop 1) with
  | none =>
    have HRS := Lib.hid (show res = none from by rw [← hres, g1]; rfl)
    have G1 := Lib.hid g1
    clear g1 hres
    refine ((HLC.out.mono fun _ _ h => ListPost.no h G1.out)).mono ?_
    rintro e w9 ⟨rfl, ⟨l9, d9, hr⟩, ho⟩
    have HZ := Lib.hid (HF3.out.call 1 ho hr (by refine ⟨?_, ?_, ?_, trivial⟩ <;> (simp only [Fq.apart]; first | omega | (intro b h1 h2; omega) | (intro b h1 h2 h3; omega))))
    clear ho hr
    go_wp2_with fail
    exact ⟨rfl, SignPost.bad (HRS.out) ⟨rfl, ⟨_, _, (HZ.out.blk 0 rfl)⟩, (HZ.out.base 3 rfl)⟩⟩
  | some z =>
    rw [g1, Option.bind_some] at hres
    have G1 := Lib.hid g1
    clear g1
    refine (HLC.out.mono fun _ _ h => ListPost.yes h G1.out).mono ?_
    rintro e w2 ⟨v, rfl, hot, hr, ho⟩
    obtain ⟨A, hA⟩ : ∃ A, A = w1.heap.size + 1 := ⟨_, rfl⟩
    have HOT := Lib.hid (show OwnT A v z.1 w2 from by rw [hA]; simpa using hot)
    have hAge : w.heap.size < A := by omega
    have hAle : A ≤ w2.heap.size := by have := ho.size; first | omega | (simp at this; omega)
    clear hA hot HLC
    obtain ⟨ao, ca, rfl⟩ := HOT.out.rds.slice
    have HF4 := Lib.hid (HF3.out.call 1 ho hr (by refine ⟨?_, ?_, ?_, trivial⟩ <;> (simp only [Fq.apart]; first | omega | (intro b h1 h2; omega) | (intro b h1 h2 h3; omega))))
    have hz2 : w1.heap.size + 1 ≤ w2.heap.size := by have := ho.size; first | omega | (simp at this; omega)
    clear HF3 ho hr 
    have hz0 := list_len (fun s x h => term_len _ _ s x h) G1.out
    obtain ⟨c0, c1, c2, c3, c4, c5, c6, c7, c8, fr⟩ := nine_cells (HF4.out.blk 2 rfl)
    go_wp2_with fail
    have hop := outs_nine w2 (w.heap.size) (.int .i64 7) (.int .i64 0) (.int .i64 0) (.string ⟨#[]⟩) (.string ⟨#[]⟩) (.int .i64 0) (.slice ao z.1.len ca) (.string ⟨#[]⟩) (.int .i64 0)
    have HOTp := Lib.hid (HOT.out.ch (C := fun b => b = w.heap.size) ⟨hop.os, hop.tape, hop.output, hop.size, fun j hj hc => hop.block j hj (by omega)⟩ fun b h1 h2 => by omega)
    clear hop HOT
    have HF5 := Lib.hid (HF4.out.put 2 rfl (by refine ⟨?_, ?_, ?_, trivial⟩ <;> (simp only [Fq.apart]; first | omega | (intro b h1 h2; omega) | (intro b h1 h2 h3; omega))) (.int .i64 7) (.int .i64 0) (.int .i64 0) (.string ⟨#[]⟩) (.string ⟨#[]⟩) (.int .i64 0) (.slice ao z.1.len ca) (.string ⟨#[]⟩) (.int .i64 0))
    clear HF4
    clear c0 c1 c2 c3 c4 c5 c6 c7 c8 fr
    cases g2 : pMust [125] z.2 with
    | none =>
      have HRS := Lib.hid (show res = none from by rw [← hres, g2]; rfl)
      have G2 := Lib.hid g2
      clear g2 hres
      refine (mustN R _ _ ⟨#[125]⟩ _ (HF5.out.blk 1 rfl) G2.out).mono ?_
      rintro e w9 ⟨rfl, ⟨l9, d9, hr⟩, ho⟩
      have HZ := Lib.hid (HF5.out.call 1 ho hr (by refine ⟨?_, ?_, ?_, trivial⟩ <;> (simp only [Fq.apart]; first | omega | (intro b h1 h2; omega) | (intro b h1 h2 h3; omega))))
      clear ho hr
      go_wp2_with fail
      exact ⟨rfl, SignPost.bad (HRS.out) ⟨rfl, ⟨_, _, (HZ.out.blk 0 rfl)⟩, (HZ.out.base 3 rfl)⟩⟩
    | some s2 =>
      rw [g2, Option.bind_some] at hres
      have G2 := Lib.hid g2
      clear g2
      have HRS := Lib.hid hres.symm
      clear hres
      refine (mustY R _ s2 _ ⟨#[125]⟩ _ (HF5.out.blk 1 rfl) G2.out).mono ?_
      rintro e w3 ⟨rfl, hr, ho⟩
      have HF6 := Lib.hid (HF5.out.call 1 ho hr (by refine ⟨?_, ?_, ?_, trivial⟩ <;> (simp only [Fq.apart]; first | omega | (intro b h1 h2; omega) | (intro b h1 h2 h3; omega))))
      have hz3 : w2.heap.size ≤ w3.heap.size := by have := ho.size; first | omega | (simp at this; omega)
      have HT3 := Lib.hid (HOTp.out.ch ho fun b h1 h2 => by omega)
      clear HOTp
      clear HF5 ho hr 
      obtain ⟨c0, c1, c2, c3, c4, c5, c6, c7, c8, fr⟩ := nine_cells (HF6.out.blk 1 rfl)
      go_wp2_with fail
      have hop := outs_nine w3 (w.heap.size) (.int .i64 7) (.int .i64 0) (.int .i64 0) (.string ⟨#[]⟩) (.string ⟨#[]⟩) (.int .i64 0) (.slice ao z.1.len ca) (.string ⟨#[]⟩) (.int .i64 0)
      have HT3p := Lib.hid (HT3.out.ch (C := fun b => b = w.heap.size) ⟨hop.os, hop.tape, hop.output, hop.size, fun j hj hc => hop.block j hj (by omega)⟩ fun b h1 h2 => by omega)
      clear hop HT3
      have HF7 := Lib.hid (HF6.out.put 1 rfl (by refine ⟨?_, ?_, ?_, trivial⟩ <;> (simp only [Fq.apart]; first | omega | (intro b h1 h2; omega) | (intro b h1 h2 h3; omega))) (.int .i64 7) (.int .i64 0) (.int .i64 0) (.string ⟨#[]⟩) (.string ⟨#[]⟩) (.int .i64 0) (.slice ao z.1.len ca) (.string ⟨#[]⟩) (.int .i64 0))
      clear HF6
      clear c0 c1 c2 c3 c4 c5 c6 c7 c8 fr
      refine bodyPost_ret (results_pair rfl _ _ _ _ _ _ _ _ _ _ _ _ rfl (HF7.out.blk 0 rfl)) rfl ?_
      exact SignPost.res (x := (kF 7, z.1, s2)) (HRS.out) ⟨_, _, rfl, HT3p.out.rds.less (by omega), (HF7.out.blk 1 rfl), (HF7.out.base 3 rfl)⟩
set_option maxRecDepth 100000 in
set_option maxHeartbeats 8000000 in
theorem sign_w3 (j : Nat) (hj : j ≤ 1000000) (d : Nat) (R : Nat) (l : List UInt8) (w : World) (hr : Rb R l (d : Int) w) (hl : l.length ≤ j + 1) (n0 : hp l [91, 93] = false) (n1 : hp l [91] = false) (n2 : hp l [123] = false) (ny : hp l [60, 60] = true) :
    Calls Tryd.prog 39 #[.pointer (some ⟨R, 0, none⟩)] w (SignPost R ((pBits true (j + 1) (l.drop 2)).bind fun x => some (x.1, .nil, x.2)) (d : Int) w) := by
  have hRw : R < w.heap.size := hr.lt
  have hly := hp_len ny
  simp only [List.length_cons, List.length_nil] at hly
  have HNY := Lib.hid ny
  have N0 := Lib.hid n0
  have N1 := Lib.hid n1
  have N2 := Lib.hid n2
  clear ny n0 n1 n2
  have HF0 := Lib.hid (show Bq w [.blk R #[.string (ba (l)), .int .i64 (d : Int)] 56, .base (fun b => b = R) w] from ⟨hr, Ch.refl _ _, trivial⟩)
  clear hr
  generalize hres : ((pBits true (j + 1) (l.drop 2)).bind fun x => some (x.1, .nil, x.2) : Option (Fd × TL × List UInt8)) = res
  go_enter Tryd.func39, Tryd.ntmps39
  go_wp2_with fail
  have HF1 := Lib.hid (HF0.out.box #[.int .i64 0, .int .i64 0, .int .i64 0, .string ⟨#[]⟩, .string ⟨#[]⟩, .int .i64 0, .slice none 0 0, .string ⟨#[]⟩, .int .i64 0] 24 (n := w.heap.size) (by rfl))
  clear HF0
  refine (eat_no R l _ ⟨#[91, 93]⟩ _ (HF1.out.blk 1 rfl) N0.out).mono ?_
  rintro e w8 ⟨rfl, rfl⟩
  go_wp2_with fail
  refine (eat_no R l _ ⟨#[91]⟩ _ (HF1.out.blk 1 rfl) N1.out).mono ?_
  rintro e w8 ⟨rfl, rfl⟩
  go_wp2_with fail
  refine (eat_no R l _ ⟨#[123]⟩ _ (HF1.out.blk 1 rfl) N2.out).mono ?_
  rintro e w8 ⟨rfl, rfl⟩
  go_wp2_with fail
  clear N0 N1 N2
  refine (eatY R l _ ⟨#[60, 60]⟩ _ (HF1.out.blk 1 rfl) HNY.out).mono ?_
  rintro e w1 ⟨rfl, hr, ho⟩
  have HF2 := Lib.hid (HF1.out.call 1 ho hr (by refine ⟨?_, ?_, trivial⟩ <;> (simp only [Fq.apart]; first | omega | (intro b h1 h2; omega) | (intro b h1 h2 h3; omega))))
  have hz1 : w.heap.size + 1 ≤ w1.heap.size := by have := ho.size; first | omega | (simp at this; omega)
  clear HF1 ho hr 
  have hl1 : (l.drop 2).length < j + 1 := by rw [List.length_drop]; omega
  have hl2 : (l.drop 2).length ≤ 1000000000 := by omega
  have hl3 : (l.drop 2).length ≤ 9223372036854775807 := by omega
  go_wp2_with fail
  cases g1 : pBits true (j + 1) (l.drop 2) with
  | none =>
    have HRS := Lib.hid (show res = none from by rw [← hres, g1]; rfl)
    have G1 := Lib.hid g1
    clear g1 hres
    refine (bits_no R _ _ (j + 1) _ (HF2.out.blk 0 rfl) hl2 hl1 G1.out).mono ?_
    rintro e w9 ⟨rfl, ⟨l9, d9, hr⟩, ho⟩
    have HZ := Lib.hid (HF2.out.call 0 ho hr (by refine ⟨?_, ?_, trivial⟩ <;> (simp only [Fq.apart]; first | omega | (intro b h1 h2; omega) | (intro b h1 h2 h3; omega))))
    clear ho hr
    go_wp2_with fail
    exact ⟨rfl, SignPost.bad (HRS.out) ⟨rfl, ⟨_, _, (HZ.out.blk 0 rfl)⟩, (HZ.out.base 2 rfl)⟩⟩
  | some x =>
    rw [g1, Option.bind_some] at hres
    have G1 := Lib.hid g1
    have hfd := bits_fd g1
    clear g1
    have HFD := Lib.hid hfd
    clear hfd
    have HRS := Lib.hid hres.symm
    clear hres
    have HBC := Lib.hid (bits_yes R _ _ (j + 1) x _ (HF2.out.blk 0 rfl) hl2 hl1 G1.out)
    unfold BitsVal at HBC
    refine (HBC.out).mono ?_
    rintro e w2 ⟨rfl, hr, ho⟩
    have HF3 := Lib.hid (HF2.out.call 0 ho hr (by refine ⟨?_, ?_, trivial⟩ <;> (simp only [Fq.apart]; first | omega | (intro b h1 h2; omega) | (intro b h1 h2 h3; omega))))
    have hz2 : w1.heap.size ≤ w2.heap.size := by have := ho.size; first | omega | (simp at this; omega)
    clear HF2 ho hr 
    clear HBC
    obtain ⟨c0, c1, c2, c3, c4, c5, c6, c7, c8, fr⟩ := nine_cells (HF3.out.blk 1 rfl)
    go_wp2_with fail
    have HF4 := Lib.hid (HF3.out.put 1 rfl (by refine ⟨?_, ?_, trivial⟩ <;> (simp only [Fq.apart]; first | omega | (intro b h1 h2; omega) | (intro b h1 h2 h3; omega))) (.int .i64 10) (.int .i64 0) (.int .i64 0) (.string ⟨#[]⟩) (.string ⟨#[]⟩) (.int .i64 0) (.slice none 0 0) (.string x.1.bs) (.int .i64 x.1.n))
    clear HF3
    refine bodyPost_ret (results_pair rfl _ _ _ _ _ _ _ _ _ _ _ _ rfl (HF4.out.blk 0 rfl)) rfl ?_
    exact SignPost.res (x := (⟨10, 0, 0, ⟨#[]⟩, ⟨#[]⟩, 0, x.1.bs, x.1.n⟩, .nil, x.2)) (HRS.out.trans (by rw [← HFD.out])) ⟨_, _, rfl, RdS.nil _ _ _, (HF4.out.blk 1 rfl), (HF4.out.base 2 rfl)⟩
set_option maxRecDepth 100000 in
set_option maxHeartbeats 8000000 in
theorem sign_w4 (j : Nat) (hj : j ≤ 1000000) (d : Nat) (R : Nat) (l : List UInt8) (w : World) (hr : Rb R l (d : Int) w) (hl : l.length ≤ j + 1) (n0 : hp l [91, 93] = false) (n1 : hp l [91] = false) (n2 : hp l [123] = false) (n3 : hp l [60, 60] = false) (ny : hp l [60] = true) :
    Calls Tryd.prog 39 #[.pointer (some ⟨R, 0, none⟩)] w (SignPost R (pPid 6 (l.drop 1)) (d : Int) w) := by
  have hRw : R < w.heap.size := hr.lt
  have hly := hp_len ny
  simp only [List.length_cons, List.length_nil] at hly
  have HNY := Lib.hid ny
  have N0 := Lib.hid n0
  have N1 := Lib.hid n1
  have N2 := Lib.hid n2
  have N3 := Lib.hid n3
  clear ny n0 n1 n2 n3
  have HF0 := Lib.hid (show Bq w [.blk R #[.string (ba (l)), .int .i64 (d : Int)] 56, .base (fun b => b = R) w] from ⟨hr, Ch.refl _ _, trivial⟩)
  clear hr
  generalize hres : (pPid 6 (l.drop 1) : Option (Fd × TL × List UInt8)) = res
  unfold pPid at hres
  go_enter Tryd.func39, Tryd.ntmps39
  go_wp2_with fail
  have HF1 := Lib.hid (HF0.out.box #[.int .i64 0, .int .i64 0, .int .i64 0, .string ⟨#[]⟩, .string ⟨#[]⟩, .int .i64 0, .slice none 0 0, .string ⟨#[]⟩, .int .i64 0] 24 (n := w.heap.size) (by rfl))
  clear HF0
  refine (eat_no R l _ ⟨#[91, 93]⟩ _ (HF1.out.blk 1 rfl) N0.out).mono ?_
  rintro e w8 ⟨rfl, rfl⟩
  go_wp2_with fail
  refine (eat_no R l _ ⟨#[91]⟩ _ (HF1.out.blk 1 rfl) N1.out).mono ?_
  rintro e w8 ⟨rfl, rfl⟩
  go_wp2_with fail
  refine (eat_no R l _ ⟨#[123]⟩ _ (HF1.out.blk 1 rfl) N2.out).mono ?_
  rintro e w8 ⟨rfl, rfl⟩
  go_wp2_with fail
  refine (eat_no R l _ ⟨#[60, 60]⟩ _ (HF1.out.blk 1 rfl) N3.out).mono ?_
  rintro e w8 ⟨rfl, rfl⟩
  go_wp2_with fail
  clear N0 N1 N2 N3
  refine (eatY R l _ ⟨#[60]⟩ _ (HF1.out.blk 1 rfl) HNY.out).mono ?_
  rintro e w1 ⟨rfl, hr, ho⟩
  have HF2 := Lib.hid (HF1.out.call 1 ho hr (by refine ⟨?_, ?_, trivial⟩ <;> (simp only [Fq.apart]; first | omega | (intro b h1 h2; omega) | (intro b h1 h2 h3; omega))))
  have hz1 : w.heap.size + 1 ≤ w1.heap.size := by have := ho.size; first | omega | (simp at this; omega)
  clear HF1 ho hr 
  have hl1 : (l.drop 1).length < j + 1 := by rw [List.length_drop]; omega
  have hl2 : (l.drop 1).length ≤ 1000000000 := by omega
  have hl3 : (l.drop 1).length ≤ 9223372036854775807 := by omega
  go_wp2_with fail
  cases g1 : pMarked 6 (l.drop 1) with
  | none =>
    have HRS := Lib.hid (show res = none from by rw [← hres, g1]; rfl)
    have G1 := Lib.hid g1
    clear g1 hres
    refine (marked_none R _ _ 6 _ (HF2.out.blk 0 rfl) hl3 G1.out).mono ?_
    rintro e w9 ⟨rfl, ⟨l9, d9, hr⟩, ho⟩
    have HZ := Lib.hid (HF2.out.call 0 ho hr (by refine ⟨?_, ?_, trivial⟩ <;> (simp only [Fq.apart]; first | omega | (intro b h1 h2; omega) | (intro b h1 h2 h3; omega))))
    clear ho hr
    go_wp2_with fail
    exact ⟨rfl, SignPost.bad (HRS.out) ⟨rfl, ⟨_, _, (HZ.out.blk 0 rfl)⟩, (HZ.out.base 2 rfl)⟩⟩
  | some x =>
    rw [g1, Option.bind_some] at hres
    have G1 := Lib.hid g1
    have hx0 := marked_len g1
    clear g1
    refine (marked_some R _ _ 6 x _ (HF2.out.blk 0 rfl) hl3 G1.out).mono ?_
    rintro e w2 ⟨rfl, hr, ho⟩
    have HF3 := Lib.hid (HF2.out.call 0 ho hr (by refine ⟨?_, ?_, trivial⟩ <;> (simp only [Fq.apart]; first | omega | (intro b h1 h2; omega) | (intro b h1 h2 h3; omega))))
    have hz2 : w1.heap.size ≤ w2.heap.size := by have := ho.size; first | omega | (simp at this; omega)
    clear HF2 ho hr 
    obtain ⟨c0, c1, c2, c3, c4, c5, c6, c7, c8, fr⟩ := nine_cells (HF3.out.blk 1 rfl)
    go_wp2_with fail
    have HF4 := Lib.hid (HF3.out.put 1 rfl (by refine ⟨?_, ?_, trivial⟩ <;> (simp only [Fq.apart]; first | omega | (intro b h1 h2; omega) | (intro b h1 h2 h3; omega))) (.int .i64 (x.1).k) (.int .i64 (x.1).i) (.int .i64 (x.1).g) (.string (x.1).nm) (.string (x.1).fn) (.int .i64 (x.1).ar) (.slice none 0 0) (.string (x.1).bs) (.int .i64 (x.1).n))
    clear HF3
    clear c0 c1 c2 c3 c4 c5 c6 c7 c8 fr
    cases g2 : pMust [62] x.2 with
    | none =>
      have HRS := Lib.hid (show res = none from by rw [← hres, g2]; rfl)
      have G2 := Lib.hid g2
      clear g2 hres
      refine (mustN R _ _ ⟨#[62]⟩ _ (HF4.out.blk 1 rfl) G2.out).mono ?_
      rintro e w9 ⟨rfl, ⟨l9, d9, hr⟩, ho⟩
      have HZ := Lib.hid (HF4.out.call 1 ho hr (by refine ⟨?_, ?_, trivial⟩ <;> (simp only [Fq.apart]; first | omega | (intro b h1 h2; omega) | (intro b h1 h2 h3; omega))))
      clear ho hr
      go_wp2_with fail
      exact ⟨rfl, SignPost.bad (HRS.out) ⟨rfl, ⟨_, _, (HZ.out.blk 0 rfl)⟩, (HZ.out.base 2 rfl)⟩⟩
    | some s2 =>
      rw [g2, Option.bind_some] at hres
      have G2 := Lib.hid g2
      clear g2
      have HRS := Lib.hid hres.symm
      clear hres
      refine (mustY R _ s2 _ ⟨#[62]⟩ _ (HF4.out.blk 1 rfl) G2.out).mono ?_
      rintro e w3 ⟨rfl, hr, ho⟩
      have HF5 := Lib.hid (HF4.out.call 1 ho hr (by refine ⟨?_, ?_, trivial⟩ <;> (simp only [Fq.apart]; first | omega | (intro b h1 h2; omega) | (intro b h1 h2 h3; omega))))
      have hz3 : w2.heap.size ≤ w3.heap.size := by have := ho.size; first | omega | (simp at this; omega)
      clear HF4 ho hr 
      obtain ⟨c0, c1, c2, c3, c4, c5, c6, c7, c8, fr⟩ := nine_cells (HF5.out.blk 1 rfl)
      go_wp2_with fail
      have HF6 := Lib.hid (HF5.out.put 1 rfl (by refine ⟨?_, ?_, trivial⟩ <;> (simp only [Fq.apart]; first | omega | (intro b h1 h2; omega) | (intro b h1 h2 h3; omega))) (.int .i64 (x.1).k) (.int .i64 (x.1).i) (.int .i64 (x.1).g) (.string (x.1).nm) (.string (x.1).fn) (.int .i64 (x.1).ar) (.slice none 0 0) (.string (x.1).bs) (.int .i64 (x.1).n))
      clear HF5
      clear c0 c1 c2 c3 c4 c5 c6 c7 c8 fr
      refine bodyPost_ret (results_pair rfl _ _ _ _ _ _ _ _ _ _ _ _ rfl (HF6.out.blk 0 rfl)) rfl ?_
      exact SignPost.res (x := (x.1, .nil, s2)) (HRS.out) ⟨_, _, rfl, RdS.nil _ _ _, (HF6.out.blk 1 rfl), (HF6.out.base 2 rfl)⟩
set_option maxRecDepth 100000 in
set_option maxHeartbeats 8000000 in
theorem sign_w5 (j : Nat) (hj : j ≤ 1000000) (d : Nat) (R : Nat) (l : List UInt8) (w : World) (hr : Rb R l (d : Int) w) (hl : l.length ≤ j + 1) (n0 : hp l [91, 93] = false) (n1 : hp l [91] = false) (n2 : hp l [123] = false) (n3 : hp l [60, 60] = false) (n4 : hp l [60] = false) (ny : hp l [35, 82, 101, 102, 60] = true) :
    Calls Tryd.prog 39 #[.pointer (some ⟨R, 0, none⟩)] w (SignPost R (pPid 3 (l.drop 5)) (d : Int) w) := by
  have hRw : R < w.heap.size := hr.lt
  have hly := hp_len ny
  simp only [List.length_cons, List.length_nil] at hly
  have HNY := Lib.hid ny
  have N0 := Lib.hid n0
  have N1 := Lib.hid n1
  have N2 := Lib.hid n2
  have N3 := Lib.hid n3
  have N4 := Lib.hid n4
  clear ny n0 n1 n2 n3 n4
  have HF0 := Lib.hid (show Bq w [.blk R #[.string (ba (l)), .int .i64 (d : Int)] 56, .base (fun b => b = R) w] from ⟨hr, Ch.refl _ _, trivial⟩)
  clear hr
  generalize hres : (pPid 3 (l.drop 5) : Option (Fd × TL × List UInt8)) = res
  unfold pPid at hres
  go_enter Tryd.func39, Tryd.ntmps39
  go_wp2_with fail
  have HF1 := Lib.hid (HF0.out.box #[.int .i64 0, .int .i64 0, .int .i64 0, .string ⟨#[]⟩, .string ⟨#[]⟩, .int .i64 0, .slice none 0 0, .string ⟨#[]⟩, .int .i64 0] 24 (n := w.heap.size) (by rfl))
  clear HF0
  refine (eat_no R l _ ⟨#[91, 93]⟩ _ (HF1.out.blk 1 rfl) N0.out).mono ?_
  rintro e w8 ⟨rfl, rfl⟩
  go_wp2_with fail
  refine (eat_no R l _ ⟨#[91]⟩ _ (HF1.out.blk 1 rfl) N1.out).mono ?_
  rintro e w8 ⟨rfl, rfl⟩
  go_wp2_with fail
  refine (eat_no R l _ ⟨#[123]⟩ _ (HF1.out.blk 1 rfl) N2.out).mono ?_
  rintro e w8 ⟨rfl, rfl⟩
  go_wp2_with fail
  refine (eat_no R l _ ⟨#[60, 60]⟩ _ (HF1.out.blk 1 rfl) N3.out).mono ?_
  rintro e w8 ⟨rfl, rfl⟩
  go_wp2_with fail
  refine (eat_no R l _ ⟨#[60]⟩ _ (HF1.out.blk 1 rfl) N4.out).mono ?_
  rintro e w8 ⟨rfl, rfl⟩
  go_wp2_with fail
  clear N0 N1 N2 N3 N4
  refine (eatY R l _ ⟨#[35, 82, 101, 102, 60]⟩ _ (HF1.out.blk 1 rfl) HNY.out).mono ?_
  rintro e w1 ⟨rfl, hr, ho⟩
  have HF2 := Lib.hid (HF1.out.call 1 ho hr (by refine ⟨?_, ?_, trivial⟩ <;> (simp only [Fq.apart]; first | omega | (intro b h1 h2; omega) | (intro b h1 h2 h3; omega))))
  have hz1 : w.heap.size + 1 ≤ w1.heap.size := by have := ho.size; first | omega | (simp at this; omega)
  clear HF1 ho hr 
  have hl1 : (l.drop 5).length < j + 1 := by rw [List.length_drop]; omega
  have hl2 : (l.drop 5).length ≤ 1000000000 := by omega
  have hl3 : (l.drop 5).length ≤ 9223372036854775807 := by omega
  go_wp2_with fail
  cases g1 : pMarked 3 (l.drop 5) with
  | none =>
    have HRS := Lib.hid (show res = none from by rw [← hres, g1]; rfl)
    have G1 := Lib.hid g1
    clear g1 hres
    refine (marked_none R _ _ 3 _ (HF2.out.blk 0 rfl) hl3 G1.out).mono ?_
    rintro e w9 ⟨rfl, ⟨l9, d9, hr⟩, ho⟩
    have HZ := Lib.hid (HF2.out.call 0 ho hr (by refine ⟨?_, ?_, trivial⟩ <;> (simp only [Fq.apart]; first | omega | (intro b h1 h2; omega) | (intro b h1 h2 h3; omega))))
    clear ho hr
    go_wp2_with fail
    exact ⟨rfl, SignPost.bad (HRS.out) ⟨rfl, ⟨_, _, (HZ.out.blk 0 rfl)⟩, (HZ.out.base 2 rfl)⟩⟩
  | some x =>
    rw [g1, Option.bind_some] at hres
    have G1 := Lib.hid g1
    have hx0 := marked_len g1
    clear g1
    refine (marked_some R _ _ 3 x _ (HF2.out.blk 0 rfl) hl3 G1.out).mono ?_
    rintro e w2 ⟨rfl, hr, ho⟩
    have HF3 := Lib.hid (HF2.out.call 0 ho hr (by refine ⟨?_, ?_, trivial⟩ <;> (simp only [Fq.apart]; first | omega | (intro b h1 h2; omega) | (intro b h1 h2 h3; omega))))
    have hz2 : w1.heap.size ≤ w2.heap.size := by have := ho.size; first | omega | (simp at this; omega)
    clear HF2 ho hr 
    obtain ⟨c0, c1, c2, c3, c4, c5, c6, c7, c8, fr⟩ := nine_cells (HF3.out.blk 1 rfl)
    go_wp2_with fail
    have HF4 := Lib.hid (HF3.out.put 1 rfl (by refine ⟨?_, ?_, trivial⟩ <;> (simp only [Fq.apart]; first | omega | (intro b h1 h2; omega) | (intro b h1 h2 h3; omega))) (.int .i64 (x.1).k) (.int .i64 (x.1).i) (.int .i64 (x.1).g) (.string (x.1).nm) (.string (x.1).fn) (.int .i64 (x.1).ar) (.slice none 0 0) (.string (x.1).bs) (.int .i64 (x.1).n))
    clear HF3
    clear c0 c1 c2 c3 c4 c5 c6 c7 c8 fr
    cases g2 : pMust [62] x.2 with
    | none =>
      have HRS := Lib.hid (show res = none from by rw [← hres, g2]; rfl)
      have G2 := Lib.hid g2
      clear g2 hres
      refine (mustN R _ _ ⟨#[62]⟩ _ (HF4.out.blk 1 rfl) G2.out).mono ?_
      rintro e w9 ⟨rfl, ⟨l9, d9, hr⟩, ho⟩
      have HZ := Lib.hid (HF4.out.call 1 ho hr (by refine ⟨?_, ?_, trivial⟩ <;> (simp only [Fq.apart]; first | omega | (intro b h1 h2; omega) | (intro b h1 h2 h3; omega))))
      clear ho hr
      go_wp2_with fail
      exact ⟨rfl, SignPost.bad (HRS.out) ⟨rfl, ⟨_, _, (HZ.out.blk 0 rfl)⟩, (HZ.out.base 2 rfl)⟩⟩
    | some s2 =>
      rw [g2, Option.bind_some] at hres
      have G2 := Lib.hid g2
      clear g2
      have HRS := Lib.hid hres.symm
      clear hres
      refine (mustY R _ s2 _ ⟨#[62]⟩ _ (HF4.out.blk 1 rfl) G2.out).mono ?_
      rintro e w3 ⟨rfl, hr, ho⟩
      have HF5 := Lib.hid (HF4.out.call 1 ho hr (by refine ⟨?_, ?_, trivial⟩ <;> (simp only [Fq.apart]; first | omega | (intro b h1 h2; omega) | (intro b h1 h2 h3; omega))))
      have hz3 : w2.heap.size ≤ w3.heap.size := by have := ho.size; first | omega | (simp at this; omega)
      clear HF4 ho hr 
      obtain ⟨c0, c1, c2, c3, c4, c5, c6, c7, c8, fr⟩ := nine_cells (HF5.out.blk 1 rfl)
      go_wp2_with fail
      have HF6 := Lib.hid (HF5.out.put 1 rfl (by refine ⟨?_, ?_, trivial⟩ <;> (simp only [Fq.apart]; first | omega | (intro b h1 h2; omega) | (intro b h1 h2 h3; omega))) (.int .i64 (x.1).k) (.int .i64 (x.1).i) (.int .i64 (x.1).g) (.string (x.1).nm) (.string (x.1).fn) (.int .i64 (x.1).ar) (.slice none 0 0) (.string (x.1).bs) (.int .i64 (x.1).n))
      clear HF5
      clear c0 c1 c2 c3 c4 c5 c6 c7 c8 fr
      refine bodyPost_ret (results_pair rfl _ _ _ _ _ _ _ _ _ _ _ _ rfl (HF6.out.blk 0 rfl)) rfl ?_
      exact SignPost.res (x := (x.1, .nil, s2)) (HRS.out) ⟨_, _, rfl, RdS.nil _ _ _, (HF6.out.blk 1 rfl), (HF6.out.base 2 rfl)⟩
set_option maxRecDepth 100000 in
set_option maxHeartbeats 8000000 in
theorem sign_w6 (j : Nat) (hT : TermC (j + 1)) (hj : j ≤ 1000000) (d : Nat) (hd : d ≤ 2000) (R : Nat) (l : List UInt8) (w : World) (hr : Rb R l (d : Int) w) (hl : l.length ≤ j + 1) (n0 : hp l [91, 93] = false) (n1 : hp l [91] = false) (n2 : hp l [123] = false) (n3 : hp l [60, 60] = false) (n4 : hp l [60] = false) (n5 : hp l [35, 82, 101, 102, 60] = false) (ny : hp l [35, 70, 117, 110, 60] = true) :
    Calls Tryd.prog 39 #[.pointer (some ⟨R, 0, none⟩)] w (SignPost R (pFun (pTerm true (j + 1) d) (j + 1) (l.drop 5)) (d : Int) w) := by
  have hRw : R < w.heap.size := hr.lt
  have HTC := Lib.hid hT
  clear hT
  have hly := hp_len ny
  simp only [List.length_cons, List.length_nil] at hly
  have HNY := Lib.hid ny
  have N0 := Lib.hid n0
  have N1 := Lib.hid n1
  have N2 := Lib.hid n2
  have N3 := Lib.hid n3
  have N4 := Lib.hid n4
  have N5 := Lib.hid n5
  clear ny n0 n1 n2 n3 n4 n5
  have HF0 := Lib.hid (show Bq w [.blk R #[.string (ba (l)), .int .i64 (d : Int)] 56, .base (fun b => b = R) w] from ⟨hr, Ch.refl _ _, trivial⟩)
  clear hr
  generalize hres : (pFun (pTerm true (j + 1) d) (j + 1) (l.drop 5) : Option (Fd × TL × List UInt8)) = res
  unfold pFun at hres
  go_enter Tryd.func39, Tryd.ntmps39
  go_wp2_with fail
  have HF1 := Lib.hid (HF0.out.box #[.int .i64 0, .int .i64 0, .int .i64 0, .string ⟨#[]⟩, .string ⟨#[]⟩, .int .i64 0, .slice none 0 0, .string ⟨#[]⟩, .int .i64 0] 24 (n := w.heap.size) (by rfl))
  clear HF0
  refine (eat_no R l _ ⟨#[91, 93]⟩ _ (HF1.out.blk 1 rfl) N0.out).mono ?_
  rintro e w8 ⟨rfl, rfl⟩
  go_wp2_with fail
  refine (eat_no R l _ ⟨#[91]⟩ _ (HF1.out.blk 1 rfl) N1.out).mono ?_
  rintro e w8 ⟨rfl, rfl⟩
  go_wp2_with fail
  refine (eat_no R l _ ⟨#[123]⟩ _ (HF1.out.blk 1 rfl) N2.out).mono ?_
  rintro e w8 ⟨rfl, rfl⟩
  go_wp2_with fail
  refine (eat_no R l _ ⟨#[60, 60]⟩ _ (HF1.out.blk 1 rfl) N3.out).mono ?_
  rintro e w8 ⟨rfl, rfl⟩
  go_wp2_with fail
  refine (eat_no R l _ ⟨#[60]⟩ _ (HF1.out.blk 1 rfl) N4.out).mono ?_
  rintro e w8 ⟨rfl, rfl⟩
  go_wp2_with fail
  refine (eat_no R l _ ⟨#[35, 82, 101, 102, 60]⟩ _ (HF1.out.blk 1 rfl) N5.out).mono ?_
  rintro e w8 ⟨rfl, rfl⟩
  go_wp2_with fail
  clear N0 N1 N2 N3 N4 N5
  refine (eatY R l _ ⟨#[35, 70, 117, 110, 60]⟩ _ (HF1.out.blk 1 rfl) HNY.out).mono ?_
  rintro e w1 ⟨rfl, hr, ho⟩
  have HF2 := Lib.hid (HF1.out.call 1 ho hr (by refine ⟨?_, ?_, trivial⟩ <;> (simp only [Fq.apart]; first | omega | (intro b h1 h2; omega) | (intro b h1 h2 h3; omega))))
  have hz1 : w.heap.size + 1 ≤ w1.heap.size := by have := ho.size; first | omega | (simp at this; omega)
  clear HF1 ho hr 
  have hl1 : (l.drop 5).length < j + 1 := by rw [List.length_drop]; omega
  have hl2 : (l.drop 5).length ≤ 1000000000 := by omega
  have hl3 : (l.drop 5).length ≤ 9223372036854775807 := by omega
  go_wp2_with fail
  cases g1 : pMarked 4 (l.drop 5) with
  | none =>
    have HRS := Lib.hid (show res = none from by rw [← hres, g1]; rfl)
    have G1 := Lib.hid g1
    clear g1 hres
    refine (marked_none R _ _ 4 _ (HF2.out.blk 0 rfl) hl3 G1.out).mono ?_
    rintro e w9 ⟨rfl, ⟨l9, d9, hr⟩, ho⟩
    have HZ := Lib.hid (HF2.out.call 0 ho hr (by refine ⟨?_, ?_, trivial⟩ <;> (simp only [Fq.apart]; first | omega | (intro b h1 h2; omega) | (intro b h1 h2 h3; omega))))
    clear ho hr
    go_wp2_with fail
    exact ⟨rfl, SignPost.bad (HRS.out) ⟨rfl, ⟨_, _, (HZ.out.blk 0 rfl)⟩, (HZ.out.base 2 rfl)⟩⟩
  | some x =>
    rw [g1, Option.bind_some] at hres
    have G1 := Lib.hid g1
    have hx0 := marked_len g1
    clear g1
    refine (marked_some R _ _ 4 x _ (HF2.out.blk 0 rfl) hl3 G1.out).mono ?_
    rintro e w2 ⟨rfl, hr, ho⟩
    have HF3 := Lib.hid (HF2.out.call 0 ho hr (by refine ⟨?_, ?_, trivial⟩ <;> (simp only [Fq.apart]; first | omega | (intro b h1 h2; omega) | (intro b h1 h2 h3; omega))))
    have hz2 : w1.heap.size ≤ w2.heap.size := by have := ho.size; first | omega | (simp at this; omega)
    clear HF2 ho hr 
    obtain ⟨c0, c1, c2, c3, c4, c5, c6, c7, c8, fr⟩ := nine_cells (HF3.out.blk 1 rfl)
    go_wp2_with fail
    have HF4 := Lib.hid (HF3.out.put 1 rfl (by refine ⟨?_, ?_, trivial⟩ <;> (simp only [Fq.apart]; first | omega | (intro b h1 h2; omega) | (intro b h1 h2 h3; omega))) (.int .i64 (x.1).k) (.int .i64 (x.1).i) (.int .i64 (x.1).g) (.string (x.1).nm) (.string (x.1).fn) (.int .i64 (x.1).ar) (.slice none 0 0) (.string (x.1).bs) (.int .i64 (x.1).n))
    clear HF3
    clear c0 c1 c2 c3 c4 c5 c6 c7 c8 fr
    cases g2 : pMust [47] x.2 with
    | none =>
      have HRS := Lib.hid (show res = none from by rw [← hres, g2]; rfl)
      have G2 := Lib.hid g2
      clear g2 hres
      refine (mustN R _ _ ⟨#[47]⟩ _ (HF4.out.blk 1 rfl) G2.out).mono ?_
      rintro e w9 ⟨rfl, ⟨l9, d9, hr⟩, ho⟩
      have HZ := Lib.hid (HF4.out.call 1 ho hr (by refine ⟨?_, ?_, trivial⟩ <;> (simp only [Fq.apart]; first | omega | (intro b h1 h2; omega) | (intro b h1 h2 h3; omega))))
      clear ho hr
      go_wp2_with fail
      exact ⟨rfl, SignPost.bad (HRS.out) ⟨rfl, ⟨_, _, (HZ.out.blk 0 rfl)⟩, (HZ.out.base 2 rfl)⟩⟩
    | some s1 =>
      rw [g2, Option.bind_some] at hres
      have G2 := Lib.hid g2
      have hx1 := (must_len g2).2
      clear g2
      refine (mustY R _ s1 _ ⟨#[47]⟩ _ (HF4.out.blk 1 rfl) G2.out).mono ?_
      rintro e w3 ⟨rfl, hr, ho⟩
      have HF5 := Lib.hid (HF4.out.call 1 ho hr (by refine ⟨?_, ?_, trivial⟩ <;> (simp only [Fq.apart]; first | omega | (intro b h1 h2; omega) | (intro b h1 h2 h3; omega))))
      have hz3 : w2.heap.size ≤ w3.heap.size := by have := ho.size; first | omega | (simp at this; omega)
      clear HF4 ho hr 
      go_wp2_with fail
      cases g3 : pInt s1 with
      | none =>
        have HRS := Lib.hid (show res = none from by rw [← hres, g3]; rfl)
        have G3 := Lib.hid g3
        clear g3 hres
        refine (int_none R s1 _ _ (HF5.out.blk 0 rfl) (by omega) G3.out).mono ?_
        rintro e w9 ⟨rfl, ⟨l9, d9, hr⟩, ho⟩
        have HZ := Lib.hid (HF5.out.call 0 ho hr (by refine ⟨?_, ?_, trivial⟩ <;> (simp only [Fq.apart]; first | omega | (intro b h1 h2; omega) | (intro b h1 h2 h3; omega))))
        clear ho hr
        go_wp2_with fail
        exact ⟨rfl, SignPost.bad (HRS.out) ⟨rfl, ⟨_, _, (HZ.out.blk 0 rfl)⟩, (HZ.out.base 2 rfl)⟩⟩
      | some y =>
        rw [g3, Option.bind_some] at hres
        have G3 := Lib.hid g3
        have hx2 := int_len g3
        have hy := (int_rest g3).2
        clear g3
        refine (int_some R s1 _ y _ (HF5.out.blk 0 rfl) (by omega) G3.out).mono ?_
        rintro e w4 ⟨rfl, hr, ho⟩
        have HF6 := Lib.hid (HF5.out.call 0 ho hr (by refine ⟨?_, ?_, trivial⟩ <;> (simp only [Fq.apart]; first | omega | (intro b h1 h2; omega) | (intro b h1 h2 h3; omega))))
        have hz4 : w3.heap.size ≤ w4.heap.size := by have := ho.size; first | omega | (simp at this; omega)
        clear HF5 ho hr 
        obtain ⟨c0, c1, c2, c3, c4, c5, c6, c7, c8, fr⟩ := nine_cells (HF6.out.blk 1 rfl)
        go_wp2_with fail
        have HF7 := Lib.hid (HF6.out.set (c := [.int .i64 (x.1).k, .int .i64 (x.1).i, .int .i64 (x.1).g, .string (x.1).nm, .string (x.1).fn, .int .i64 (x.1).ar, .slice none 0 0, .string (x.1).bs, .int .i64 (x.1).n]) 1 rfl 5 (.int .i64 y.1) (by refine ⟨?_, ?_, trivial⟩ <;> (simp only [Fq.apart]; first | omega | (intro b h1 h2; omega) | (intro b h1 h2 h3; omega))))
        clear HF6
        clear c0 c1 c2 c3 c4 c5 c6 c7 c8 fr
        cases g4 : pMust [62, 123] y.2 with
        | none =>
          have HRS := Lib.hid (show res = none from by rw [← hres, g4]; rfl)
          have G4 := Lib.hid g4
          clear g4 hres
          refine (mustN R _ _ ⟨#[62, 123]⟩ _ (HF7.out.blk 1 rfl) G4.out).mono ?_
          rintro e w9 ⟨rfl, ⟨l9, d9, hr⟩, ho⟩
          have HZ := Lib.hid (HF7.out.call 1 ho hr (by refine ⟨?_, ?_, trivial⟩ <;> (simp only [Fq.apart]; first | omega | (intro b h1 h2; omega) | (intro b h1 h2 h3; omega))))
          clear ho hr
          go_wp2_with fail
          exact ⟨rfl, SignPost.bad (HRS.out) ⟨rfl, ⟨_, _, (HZ.out.blk 0 rfl)⟩, (HZ.out.base 2 rfl)⟩⟩
        | some s2 =>
          rw [g4, Option.bind_some] at hres
          have G4 := Lib.hid g4
          have hx3 := (must_len g4).2
          clear g4
          refine (mustY R _ s2 _ ⟨#[62, 123]⟩ _ (HF7.out.blk 1 rfl) G4.out).mono ?_
          rintro e w5 ⟨rfl, hr, ho⟩
          have HF8 := Lib.hid (HF7.out.call 1 ho hr (by refine ⟨?_, ?_, trivial⟩ <;> (simp only [Fq.apart]; first | omega | (intro b h1 h2; omega) | (intro b h1 h2 h3; omega))))
          have hz5 : w4.heap.size ≤ w5.heap.size := by have := ho.size; first | omega | (simp at this; omega)
          clear HF7 ho hr 
          go_wp2_with fail
          have HF9 := Lib.hid (HF8.out.box #[.string ⟨#[125]⟩] 9 (n := w5.heap.size) (by rfl))
          clear HF8
          have hl9 : s2.length < j + 1 := by omega
          have HLC := Lib.hid (list_any j HTC.out hj d hd R (s2) (w5.heap.size) 1 [⟨#[125]⟩] _ (HF9.out.blk 1 rfl) hl9 (fun k x hx => by
              have hc := cells_of (HF9.out.blk 0 rfl) k
              rw [hc]
              match k, hx with
              | 0, hx => simpa using hx
              | k + 1, hx => simp at hx) (by decide))
          have hends : ([⟨#[125]⟩] : List ByteArray).map bl = [[125]] := rfl
          rw [hends] at HLC
          clear hends
          cases g5 : pList (pTerm true (j + 1) d) (j + 1) [[125]] (s2) with
          | none =>
            have HRS := Lib.hid (show res = none from by rw [← hres, g5]; rfl)
            have G5 := Lib.hid g5
            clear g5 hres
            refine ((HLC.out.mono fun _ _ h => ListPost.no h G5.out)).mono ?_
            rintro e w9 ⟨rfl, ⟨l9, d9, hr⟩, ho⟩
            have HZ := Lib.hid (HF9.out.call 1 ho hr (by refine ⟨?_, ?_, ?_, trivial⟩ <;> (simp only [Fq.apart]; first | omega | (intro b h1 h2; omega) | (intro b h1 h2 h3; omega))))
            clear ho hr
            go_wp2_with fail
            exact ⟨rfl, SignPost.bad (HRS.out) ⟨rfl, ⟨_, _, (HZ.out.blk 0 rfl)⟩, (HZ.out.base 3 rfl)⟩⟩
          | some z =>
            rw [g5, Option.bind_some] at hres
            have G5 := Lib.hid g5
            clear g5
            refine (HLC.out.mono fun _ _ h => ListPost.yes h G5.out).mono ?_
            rintro e w6 ⟨v, rfl, hot, hr, ho⟩
            obtain ⟨A, hA⟩ : ∃ A, A = w5.heap.size + 1 := ⟨_, rfl⟩
            have HOT := Lib.hid (show OwnT A v z.1 w6 from by rw [hA]; simpa using hot)
            have hAge : w.heap.size < A := by omega
            have hAle : A ≤ w6.heap.size := by have := ho.size; first | omega | (simp at this; omega)
            clear hA hot HLC
            obtain ⟨ao, ca, rfl⟩ := HOT.out.rds.slice
            have HF10 := Lib.hid (HF9.out.call 1 ho hr (by refine ⟨?_, ?_, ?_, trivial⟩ <;> (simp only [Fq.apart]; first | omega | (intro b h1 h2; omega) | (intro b h1 h2 h3; omega))))
            have hz6 : w5.heap.size + 1 ≤ w6.heap.size := by have := ho.size; first | omega | (simp at this; omega)
            clear HF9 ho hr 
            have hz0 := list_len (fun s x h => term_len _ _ s x h) G5.out
            obtain ⟨c0, c1, c2, c3, c4, c5, c6, c7, c8, fr⟩ := nine_cells (HF10.out.blk 2 rfl)
            go_wp2_with fail
            have HOTs := Lib.hid (HOT.out.ch (Ch.of_set _ (w.heap.size) 6 (.slice ao z.1.len ca)) fun b h1 h2 => by omega)
            clear HOT
            have HF11 := Lib.hid (HF10.out.set (c := [.int .i64 (x.1).k, .int .i64 (x.1).i, .int .i64 (x.1).g, .string (x.1).nm, .string (x.1).fn, .int .i64 y.1, .slice none 0 0, .string (x.1).bs, .int .i64 (x.1).n]) 2 rfl 6 (.slice ao z.1.len ca) (by refine ⟨?_, ?_, ?_, trivial⟩ <;> (simp only [Fq.apart]; first | omega | (intro b h1 h2; omega) | (intro b h1 h2 h3; omega))))
            clear HF10
            clear c0 c1 c2 c3 c4 c5 c6 c7 c8 fr
            cases g6 : pMust [125] z.2 with
            | none =>
              have HRS := Lib.hid (show res = none from by rw [← hres, g6]; rfl)
              have G6 := Lib.hid g6
              clear g6 hres
              refine (mustN R _ _ ⟨#[125]⟩ _ (HF11.out.blk 1 rfl) G6.out).mono ?_
              rintro e w9 ⟨rfl, ⟨l9, d9, hr⟩, ho⟩
              have HZ := Lib.hid (HF11.out.call 1 ho hr (by refine ⟨?_, ?_, ?_, trivial⟩ <;> (simp only [Fq.apart]; first | omega | (intro b h1 h2; omega) | (intro b h1 h2 h3; omega))))
              clear ho hr
              go_wp2_with fail
              exact ⟨rfl, SignPost.bad (HRS.out) ⟨rfl, ⟨_, _, (HZ.out.blk 0 rfl)⟩, (HZ.out.base 3 rfl)⟩⟩
            | some s3 =>
              rw [g6, Option.bind_some] at hres
              have G6 := Lib.hid g6
              clear g6
              have HRS := Lib.hid hres.symm
              clear hres
              refine (mustY R _ s3 _ ⟨#[125]⟩ _ (HF11.out.blk 1 rfl) G6.out).mono ?_
              rintro e w7 ⟨rfl, hr, ho⟩
              have HF12 := Lib.hid (HF11.out.call 1 ho hr (by refine ⟨?_, ?_, ?_, trivial⟩ <;> (simp only [Fq.apart]; first | omega | (intro b h1 h2; omega) | (intro b h1 h2 h3; omega))))
              have hz7 : w6.heap.size ≤ w7.heap.size := by have := ho.size; first | omega | (simp at this; omega)
              have HT7 := Lib.hid (HOTs.out.ch ho fun b h1 h2 => by omega)
              clear HOTs
              clear HF11 ho hr 
              obtain ⟨c0, c1, c2, c3, c4, c5, c6, c7, c8, fr⟩ := nine_cells (HF12.out.blk 1 rfl)
              go_wp2_with fail
              have hop := outs_nine w7 (w.heap.size) (.int .i64 (x.1).k) (.int .i64 (x.1).i) (.int .i64 (x.1).g) (.string (x.1).nm) (.string (x.1).fn) (.int .i64 y.1) (.slice ao z.1.len ca) (.string (x.1).bs) (.int .i64 (x.1).n)
              have HT7p := Lib.hid (HT7.out.ch (C := fun b => b = w.heap.size) ⟨hop.os, hop.tape, hop.output, hop.size, fun j hj hc => hop.block j hj (by omega)⟩ fun b h1 h2 => by omega)
              clear hop HT7
              have HF13 := Lib.hid (HF12.out.put 1 rfl (by refine ⟨?_, ?_, ?_, trivial⟩ <;> (simp only [Fq.apart]; first | omega | (intro b h1 h2; omega) | (intro b h1 h2 h3; omega))) (.int .i64 (x.1).k) (.int .i64 (x.1).i) (.int .i64 (x.1).g) (.string (x.1).nm) (.string (x.1).fn) (.int .i64 y.1) (.slice ao z.1.len ca) (.string (x.1).bs) (.int .i64 (x.1).n))
              clear HF12
              clear c0 c1 c2 c3 c4 c5 c6 c7 c8 fr
              refine bodyPost_ret (results_pair rfl _ _ _ _ _ _ _ _ _ _ _ _ rfl (HF13.out.blk 0 rfl)) rfl ?_
              exact SignPost.res (x := ({x.1 with ar := y.1}, z.1, s3)) (HRS.out) ⟨_, _, rfl, HT7p.out.rds.less (by omega), (HF13.out.blk 1 rfl), (HF13.out.base 3 rfl)⟩
set_option maxRecDepth 100000 in
set_option maxHeartbeats 8000000 in
theorem sign_w7 (j : Nat) (hj : j ≤ 1000000) (d : Nat) (R : Nat) (l : List UInt8) (w : World) (hr : Rb R l (d : Int) w) (hl : l.length ≤ j + 1) (n0 : hp l [91, 93] = false) (n1 : hp l [91] = false) (n2 : hp l [123] = false) (n3 : hp l [60, 60] = false) (n4 : hp l [60] = false) (n5 : hp l [35, 82, 101, 102, 60] = false) (n6 : hp l [35, 70, 117, 110, 60] = false) (ny : hp l [102, 117, 110, 32] = true) :
    Calls Tryd.prog 39 #[.pointer (some ⟨R, 0, none⟩)] w (SignPost R (pExp (l.drop 4)) (d : Int) w) := by
  have hRw : R < w.heap.size := hr.lt
  have hly := hp_len ny
  simp only [List.length_cons, List.length_nil] at hly
  have HNY := Lib.hid ny
  have N0 := Lib.hid n0
  have N1 := Lib.hid n1
  have N2 := Lib.hid n2
  have N3 := Lib.hid n3
  have N4 := Lib.hid n4
  have N5 := Lib.hid n5
  have N6 := Lib.hid n6
  clear ny n0 n1 n2 n3 n4 n5 n6
  have HF0 := Lib.hid (show Bq w [.blk R #[.string (ba (l)), .int .i64 (d : Int)] 56, .base (fun b => b = R) w] from ⟨hr, Ch.refl _ _, trivial⟩)
  clear hr
  generalize hres : (pExp (l.drop 4) : Option (Fd × TL × List UInt8)) = res
  unfold pExp at hres
  go_enter Tryd.func39, Tryd.ntmps39
  go_wp2_with fail
  have HF1 := Lib.hid (HF0.out.box #[.int .i64 0, .int .i64 0, .int .i64 0, .string ⟨#[]⟩, .string ⟨#[]⟩, .int .i64 0, .slice none 0 0, .string ⟨#[]⟩, .int .i64 0] 24 (n := w.heap.size) (by rfl))
  clear HF0
  refine (eat_no R l _ ⟨#[91, 93]⟩ _ (HF1.out.blk 1 rfl) N0.out).mono ?_
  rintro e w8 ⟨rfl, rfl⟩
  go_wp2_with fail
  refine (eat_no R l _ ⟨#[91]⟩ _ (HF1.out.blk 1 rfl) N1.out).mono ?_
  rintro e w8 ⟨rfl, rfl⟩
  go_wp2_with fail
  refine (eat_no R l _ ⟨#[123]⟩ _ (HF1.out.blk 1 rfl) N2.out).mono ?_
  rintro e w8 ⟨rfl, rfl⟩
  go_wp2_with fail
  refine (eat_no R l _ ⟨#[60, 60]⟩ _ (HF1.out.blk 1 rfl) N3.out).mono ?_
  rintro e w8 ⟨rfl, rfl⟩
  go_wp2_with fail
  refine (eat_no R l _ ⟨#[60]⟩ _ (HF1.out.blk 1 rfl) N4.out).mono ?_
  rintro e w8 ⟨rfl, rfl⟩
  go_wp2_with fail
  refine (eat_no R l _ ⟨#[35, 82, 101, 102, 60]⟩ _ (HF1.out.blk 1 rfl) N5.out).mono ?_
  rintro e w8 ⟨rfl, rfl⟩
  go_wp2_with fail
  refine (eat_no R l _ ⟨#[35, 70, 117, 110, 60]⟩ _ (HF1.out.blk 1 rfl) N6.out).mono ?_
  rintro e w8 ⟨rfl, rfl⟩
  go_wp2_with fail
  clear N0 N1 N2 N3 N4 N5 N6
  refine (eatY R l _ ⟨#[102, 117, 110, 32]⟩ _ (HF1.out.blk 1 rfl) HNY.out).mono ?_
  rintro e w1 ⟨rfl, hr, ho⟩
  have HF2 := Lib.hid (HF1.out.call 1 ho hr (by refine ⟨?_, ?_, trivial⟩ <;> (simp only [Fq.apart]; first | omega | (intro b h1 h2; omega) | (intro b h1 h2 h3; omega))))
  have hz1 : w.heap.size + 1 ≤ w1.heap.size := by have := ho.size; first | omega | (simp at this; omega)
  clear HF1 ho hr 
  have hl1 : (l.drop 4).length < j + 1 := by rw [List.length_drop]; omega
  have hl2 : (l.drop 4).length ≤ 1000000000 := by omega
  have hl3 : (l.drop 4).length ≤ 9223372036854775807 := by omega
  go_wp2_with fail
  have hd0 := dropW_len letC (l.drop 4)
  refine (run_q _ letC tells_letter R _ _ _ (HF2.out.blk 0 rfl) hl3).mono ?_
  rintro e w2 ⟨rfl, hr, ho⟩
  have HF3 := Lib.hid (HF2.out.call 0 ho hr (by refine ⟨?_, ?_, trivial⟩ <;> (simp only [Fq.apart]; first | omega | (intro b h1 h2; omega) | (intro b h1 h2 h3; omega))))
  have hz2 : w1.heap.size ≤ w2.heap.size := by have := ho.size; first | omega | (simp at this; omega)
  clear HF2 ho hr 
  obtain ⟨c0, c1, c2, c3, c4, c5, c6, c7, c8, fr⟩ := nine_cells (HF3.out.blk 1 rfl)
  go_wp2_with fail
  have HF4 := Lib.hid (HF3.out.put 1 rfl (by refine ⟨?_, ?_, trivial⟩ <;> (simp only [Fq.apart]; first | omega | (intro b h1 h2; omega) | (intro b h1 h2 h3; omega))) (.int .i64 5) (.int .i64 0) (.int .i64 0) (.string (spanN (l.drop 4))) (.string ⟨#[]⟩) (.int .i64 0) (.slice none 0 0) (.string ⟨#[]⟩) (.int .i64 0))
  clear HF3
  clear c0 c1 c2 c3 c4 c5 c6 c7 c8 fr
  cases g1 : pMust [58] ((l.drop 4).dropWhile letC) with
  | none =>
    have HRS := Lib.hid (show res = none from by rw [← hres, g1]; rfl)
    have G1 := Lib.hid g1
    clear g1 hres
    refine (mustN R _ _ ⟨#[58]⟩ _ (HF4.out.blk 1 rfl) G1.out).mono ?_
    rintro e w9 ⟨rfl, ⟨l9, d9, hr⟩, ho⟩
    have HZ := Lib.hid (HF4.out.call 1 ho hr (by refine ⟨?_, ?_, trivial⟩ <;> (simp only [Fq.apart]; first | omega | (intro b h1 h2; omega) | (intro b h1 h2 h3; omega))))
    clear ho hr
    go_wp2_with fail
    exact ⟨rfl, SignPost.bad (HRS.out) ⟨rfl, ⟨_, _, (HZ.out.blk 0 rfl)⟩, (HZ.out.base 2 rfl)⟩⟩
  | some s1 =>
    rw [g1, Option.bind_some] at hres
    have G1 := Lib.hid g1
    have hx1 := (must_len g1).2
    clear g1
    refine (mustY R _ s1 _ ⟨#[58]⟩ _ (HF4.out.blk 1 rfl) G1.out).mono ?_
    rintro e w3 ⟨rfl, hr, ho⟩
    have HF5 := Lib.hid (HF4.out.call 1 ho hr (by refine ⟨?_, ?_, trivial⟩ <;> (simp only [Fq.apart]; first | omega | (intro b h1 h2; omega) | (intro b h1 h2 h3; omega))))
    have hz3 : w2.heap.size ≤ w3.heap.size := by have := ho.size; first | omega | (simp at this; omega)
    clear HF4 ho hr 
    go_wp2_with fail
    have hd1 := dropW_len letC s1
    refine (run_q _ letC tells_letter R _ _ _ (HF5.out.blk 0 rfl) (by omega)).mono ?_
    rintro e w4 ⟨rfl, hr, ho⟩
    have HF6 := Lib.hid (HF5.out.call 0 ho hr (by refine ⟨?_, ?_, trivial⟩ <;> (simp only [Fq.apart]; first | omega | (intro b h1 h2; omega) | (intro b h1 h2 h3; omega))))
    have hz4 : w3.heap.size ≤ w4.heap.size := by have := ho.size; first | omega | (simp at this; omega)
    clear HF5 ho hr 
    obtain ⟨c0, c1, c2, c3, c4, c5, c6, c7, c8, fr⟩ := nine_cells (HF6.out.blk 1 rfl)
    go_wp2_with fail
    have HF7 := Lib.hid (HF6.out.set (c := [.int .i64 5, .int .i64 0, .int .i64 0, .string (spanN (l.drop 4)), .string ⟨#[]⟩, .int .i64 0, .slice none 0 0, .string ⟨#[]⟩, .int .i64 0]) 1 rfl 4 (.string (spanN s1)) (by refine ⟨?_, ?_, trivial⟩ <;> (simp only [Fq.apart]; first | omega | (intro b h1 h2; omega) | (intro b h1 h2 h3; omega))))
    clear HF6
    clear c0 c1 c2 c3 c4 c5 c6 c7 c8 fr
    cases g2 : pMust [47] (s1.dropWhile letC) with
    | none =>
      have HRS := Lib.hid (show res = none from by rw [← hres, g2]; rfl)
      have G2 := Lib.hid g2
      clear g2 hres
      refine (mustN R _ _ ⟨#[47]⟩ _ (HF7.out.blk 1 rfl) G2.out).mono ?_
      rintro e w9 ⟨rfl, ⟨l9, d9, hr⟩, ho⟩
      have HZ := Lib.hid (HF7.out.call 1 ho hr (by refine ⟨?_, ?_, trivial⟩ <;> (simp only [Fq.apart]; first | omega | (intro b h1 h2; omega) | (intro b h1 h2 h3; omega))))
      clear ho hr
      go_wp2_with fail
      exact ⟨rfl, SignPost.bad (HRS.out) ⟨rfl, ⟨_, _, (HZ.out.blk 0 rfl)⟩, (HZ.out.base 2 rfl)⟩⟩
    | some s2 =>
      rw [g2, Option.bind_some] at hres
      have G2 := Lib.hid g2
      have hx2 := (must_len g2).2
      clear g2
      refine (mustY R _ s2 _ ⟨#[47]⟩ _ (HF7.out.blk 1 rfl) G2.out).mono ?_
      rintro e w5 ⟨rfl, hr, ho⟩
      have HF8 := Lib.hid (HF7.out.call 1 ho hr (by refine ⟨?_, ?_, trivial⟩ <;> (simp only [Fq.apart]; first | omega | (intro b h1 h2; omega) | (intro b h1 h2 h3; omega))))
      have hz5 : w4.heap.size ≤ w5.heap.size := by have := ho.size; first | omega | (simp at this; omega)
      clear HF7 ho hr 
      go_wp2_with fail
      cases g3 : pInt s2 with
      | none =>
        have HRS := Lib.hid (show res = none from by rw [← hres, g3]; rfl)
        have G3 := Lib.hid g3
        clear g3 hres
        refine (int_none R s2 _ _ (HF8.out.blk 0 rfl) (by omega) G3.out).mono ?_
        rintro e w9 ⟨rfl, ⟨l9, d9, hr⟩, ho⟩
        have HZ := Lib.hid (HF8.out.call 0 ho hr (by refine ⟨?_, ?_, trivial⟩ <;> (simp only [Fq.apart]; first | omega | (intro b h1 h2; omega) | (intro b h1 h2 h3; omega))))
        clear ho hr
        go_wp2_with fail
        exact ⟨rfl, SignPost.bad (HRS.out) ⟨rfl, ⟨_, _, (HZ.out.blk 0 rfl)⟩, (HZ.out.base 2 rfl)⟩⟩
      | some y =>
        rw [g3, Option.bind_some] at hres
        have G3 := Lib.hid g3
        have hy := (int_rest g3).2
        clear g3
        have HRS := Lib.hid hres.symm
        clear hres
        refine (int_some R s2 _ y _ (HF8.out.blk 0 rfl) (by omega) G3.out).mono ?_
        rintro e w6 ⟨rfl, hr, ho⟩
        have HF9 := Lib.hid (HF8.out.call 0 ho hr (by refine ⟨?_, ?_, trivial⟩ <;> (simp only [Fq.apart]; first | omega | (intro b h1 h2; omega) | (intro b h1 h2 h3; omega))))
        have hz6 : w5.heap.size ≤ w6.heap.size := by have := ho.size; first | omega | (simp at this; omega)
        clear HF8 ho hr 
        obtain ⟨c0, c1, c2, c3, c4, c5, c6, c7, c8, fr⟩ := nine_cells (HF9.out.blk 1 rfl)
        go_wp2_with fail
        have HF10 := Lib.hid (HF9.out.set (c := [.int .i64 5, .int .i64 0, .int .i64 0, .string (spanN (l.drop 4)), .string (spanN s1), .int .i64 0, .slice none 0 0, .string ⟨#[]⟩, .int .i64 0]) 1 rfl 5 (.int .i64 y.1) (by refine ⟨?_, ?_, trivial⟩ <;> (simp only [Fq.apart]; first | omega | (intro b h1 h2; omega) | (intro b h1 h2 h3; omega))))
        clear HF9
        clear c0 c1 c2 c3 c4 c5 c6 c7 c8 fr
        obtain ⟨c0, c1, c2, c3, c4, c5, c6, c7, c8, fr⟩ := nine_cells (HF10.out.blk 0 rfl)
        go_wp2_with fail
        have HF11 := Lib.hid (HF10.out.put 0 rfl (by refine ⟨?_, ?_, trivial⟩ <;> (simp only [Fq.apart]; first | omega | (intro b h1 h2; omega) | (intro b h1 h2 h3; omega))) (.int .i64 5) (.int .i64 0) (.int .i64 0) (.string (spanN (l.drop 4))) (.string (spanN s1)) (.int .i64 y.1) (.slice none 0 0) (.string ⟨#[]⟩) (.int .i64 0))
        clear HF10
        clear c0 c1 c2 c3 c4 c5 c6 c7 c8 fr
        refine bodyPost_ret (results_pair rfl _ _ _ _ _ _ _ _ _ _ _ _ rfl (HF11.out.blk 0 rfl)) rfl ?_
        exact SignPost.res (x := (⟨5, 0, 0, spanN (l.drop 4), spanN s1, y.1, ⟨#[]⟩, 0⟩, .nil, y.2)) (HRS.out) ⟨_, _, rfl, RdS.nil _ _ _, (HF11.out.blk 1 rfl), (HF11.out.base 2 rfl)⟩
set_option maxRecDepth 100000 in
set_option maxHeartbeats 8000000 in
theorem sign_none (d : Int) (R : Nat) (l : List UInt8) (w : World) (hr : Rb R l d w) (n0 : hp l [91, 93] = false) (n1 : hp l [91] = false) (n2 : hp l [123] = false) (n3 : hp l [60, 60] = false) (n4 : hp l [60] = false) (n5 : hp l [35, 82, 101, 102, 60] = false) (n6 : hp l [35, 70, 117, 110, 60] = false) (n7 : hp l [102, 117, 110, 32] = false) :
    Calls Tryd.prog 39 #[.pointer (some ⟨R, 0, none⟩)] w (Rt R (.tuple #[.agg #[.int .i64 0, .int .i64 0, .int .i64 0, .string ⟨#[]⟩, .string ⟨#[]⟩, .int .i64 0, .slice none 0 0, .string ⟨#[]⟩, .int .i64 0], .bool false]) l d w) := by
  have hRw : R < w.heap.size := hr.lt
  have N0 := Lib.hid n0
  have N1 := Lib.hid n1
  have N2 := Lib.hid n2
  have N3 := Lib.hid n3
  have N4 := Lib.hid n4
  have N5 := Lib.hid n5
  have N6 := Lib.hid n6
  have N7 := Lib.hid n7
  clear n0 n1 n2 n3 n4 n5 n6 n7
  have HF0 := Lib.hid (show Bq w [.blk R #[.string (ba (l)), .int .i64 (d : Int)] 56, .base (fun b => b = R) w] from ⟨hr, Ch.refl _ _, trivial⟩)
  clear hr
  go_enter Tryd.func39, Tryd.ntmps39
  go_wp2_with fail
  have HF1 := Lib.hid (HF0.out.box #[.int .i64 0, .int .i64 0, .int .i64 0, .string ⟨#[]⟩, .string ⟨#[]⟩, .int .i64 0, .slice none 0 0, .string ⟨#[]⟩, .int .i64 0] 24 (n := w.heap.size) (by rfl))
  clear HF0
  refine (eat_no R l _ ⟨#[91, 93]⟩ _ (HF1.out.blk 1 rfl) N0.out).mono ?_
  rintro e w8 ⟨rfl, rfl⟩
  go_wp2_with fail
  refine (eat_no R l _ ⟨#[91]⟩ _ (HF1.out.blk 1 rfl) N1.out).mono ?_
  rintro e w8 ⟨rfl, rfl⟩
  go_wp2_with fail
  refine (eat_no R l _ ⟨#[123]⟩ _ (HF1.out.blk 1 rfl) N2.out).mono ?_
  rintro e w8 ⟨rfl, rfl⟩
  go_wp2_with fail
  refine (eat_no R l _ ⟨#[60, 60]⟩ _ (HF1.out.blk 1 rfl) N3.out).mono ?_
  rintro e w8 ⟨rfl, rfl⟩
  go_wp2_with fail
  refine (eat_no R l _ ⟨#[60]⟩ _ (HF1.out.blk 1 rfl) N4.out).mono ?_
  rintro e w8 ⟨rfl, rfl⟩
  go_wp2_with fail
  refine (eat_no R l _ ⟨#[35, 82, 101, 102, 60]⟩ _ (HF1.out.blk 1 rfl) N5.out).mono ?_
  rintro e w8 ⟨rfl, rfl⟩
  go_wp2_with fail
  refine (eat_no R l _ ⟨#[35, 70, 117, 110, 60]⟩ _ (HF1.out.blk 1 rfl) N6.out).mono ?_
  rintro e w8 ⟨rfl, rfl⟩
  go_wp2_with fail
  refine (eat_no R l _ ⟨#[102, 117, 110, 32]⟩ _ (HF1.out.blk 1 rfl) N7.out).mono ?_
  rintro e w8 ⟨rfl, rfl⟩
  go_wp2_with fail
  refine bodyPost_ret (results_pair rfl _ _ _ _ _ _ _ _ _ _ _ _ rfl (HF1.out.blk 0 rfl)) rfl ?_
  exact ⟨rfl, (HF1.out.blk 1 rfl), (HF1.out.base 2 rfl)⟩
end Go.Proofs.YtgfodedmcjkmaaaDoor
namespace Go.Proofs.YtgfodedmcjkmaaaDoor
open Go.RowKit Go.Proofs.BitsM
/-- the deferred closure: one less deep -/
theorem term1_any (u : FrameMode) (B R : Nat) (l : List UInt8) (D : Int) (w : World) (hb : w.heap[B]? = some (.cells #[.pointer (some ⟨R, 0, none⟩)] 71 (0, 0))) (hr : Rb R l D w) :
    CallsD Tryd.prog 38 #[.pointer (some ⟨B, 0, none⟩)] u w fun e u' w' => u' = u ∧ (e = .returned (.tuple #[]) ∧ w' = w.setCell ⟨R, 1, none⟩ (.int .i64 (wrap64 (D - 1)))) := by
  have b0 := cells_of hb 0
  have c1 := hr.c1
  have fr := hr.fr 1
  go_enter_d Tryd.func38, Tryd.ntmps38
  go_wp2
  go_end0
  exact ⟨rfl, rfl⟩
theorem invoke_term1 (p : Value) (W : World) : (invoke (.fn (.func 38) #[p]) #[]).run Tryd.prog W = .ok (.enter 38 #[p]) W := by simp [go_sem]
theorem intT_any (n : Int) (w : World) : Calls Tryd.prog 41 #[.int .i64 n] w fun e w' => e = .returned (.agg #[.int .i64 1, .int .i64 n, .int .i64 0, .string ⟨#[]⟩, .string ⟨#[]⟩, .int .i64 0, .slice none 0 0, .string ⟨#[]⟩, .int .i64 0]) ∧ Below w.heap.size w w' := by
  go_enter Tryd.func41, Tryd.ntmps41
  go_wp2_with fail
  exact bodyPost_ret (results_one rfl _ _ w.heap.size _ _ _ _ _ _ _ _ _ rfl (heap_alloc_new _ _)) rfl ⟨rfl, below_alloc _ _⟩
set_option maxRecDepth 100000 in
set_option maxHeartbeats 8000000 in
theorem term_deep (d : Nat) (R : Nat) (l : List UInt8) (w : World) (hr : Rb R l (d : Int) w) (hd : 2000 < d + 1) (hd2 : d ≤ 2000) :
    Calls Tryd.prog 24 #[.pointer (some ⟨R, 0, none⟩)] w (Bad R w) := by
  have x1 : (2000 : Int) < (d : Int) + 1 := by omega
  have hRw : R < w.heap.size := hr.lt
  have HF0 := Lib.hid (show Bq w [.blk R #[.string (ba (l)), .int .i64 ((d : Int))] 56, .base (fun b => b = R) w] from ⟨hr, Ch.refl _ _, trivial⟩)
  have c0 := hr.c0
  have c1 := hr.c1
  have fr := hr.fr 1
  have hwd : wrap64 ((d : Int) + 1) = (d : Int) + 1 := i64w (by omega) (by omega)
  clear hr
  have hmf : ∀ (fn : Fn) (first cap : Array Value) (w : World), (Instr.makeFunc fn first cap).run Tryd.prog w = .ok (.func fn first cap) w := fun _ _ _ _ => rfl
  go_enter_defers Tryd.func24, Tryd.ntmps24
  go_wp2_with fail
  have HF1 := Lib.hid (HF0.out.set (c := [.string (ba (l)), .int .i64 ((d : Int))]) 0 rfl 1 (.int .i64 ((d : Int) + 1)) (by refine ⟨?_, trivial⟩ <;> (simp only [Fq.apart]; first | omega | (intro b h1 h2; omega) | (intro b h1 h2 h3; omega))))
  clear HF0
  have HF2 := Lib.hid (HF1.out.box #[.pointer (some ⟨R, 0, none⟩)] 71 (n := w.heap.size) (by simp))
  clear HF1
  have HF3 := Lib.hid (HF2.out.box #[.int .i64 0, .int .i64 0, .int .i64 0, .string ⟨#[]⟩, .string ⟨#[]⟩, .int .i64 0, .slice none 0 0, .string ⟨#[]⟩, .int .i64 0] 24 (n := w.heap.size + 1) (by simp))
  clear HF2
  clear c0 c1 fr hwd
  exact ⟨rfl, ⟨_, _, (HF3.out.blk 2 rfl)⟩, (HF3.out.base 3 rfl)⟩
set_option maxRecDepth 100000 in
set_option maxHeartbeats 8000000 in
theorem term_word (d : Nat) (R : Nat) (l : List UInt8) (w : World) (hr : Rb R l (d : Int) w) (hd : d + 1 ≤ 2000) (o : Option (Fd × TL × List UInt8)) (hs : ∀ W, Rb R l (((d + 1 : Nat)) : Int) W → Calls Tryd.prog 39 #[.pointer (some ⟨R, 0, none⟩)] W (SignPost R o (((d + 1 : Nat)) : Int) W)) :
    Calls Tryd.prog 24 #[.pointer (some ⟨R, 0, none⟩)] w (TermPost R o (d : Int) w) := by
  have x1 : ¬ (2000 : Int) < (d : Int) + 1 := by omega
  have HS := Lib.hid hs
  clear hs
  have hRw : R < w.heap.size := hr.lt
  have HF0 := Lib.hid (show Bq w [.blk R #[.string (ba (l)), .int .i64 ((d : Int))] 56, .base (fun b => b = R) w] from ⟨hr, Ch.refl _ _, trivial⟩)
  have c0 := hr.c0
  have c1 := hr.c1
  have fr := hr.fr 1
  have hwd : wrap64 ((d : Int) + 1) = (d : Int) + 1 := i64w (by omega) (by omega)
  clear hr
  have hmf : ∀ (fn : Fn) (first cap : Array Value) (w : World), (Instr.makeFunc fn first cap).run Tryd.prog w = .ok (.func fn first cap) w := fun _ _ _ _ => rfl
  go_enter_defers Tryd.func24, Tryd.ntmps24
  go_wp2_with fail
  have HF1 := Lib.hid (HF0.out.set (c := [.string (ba (l)), .int .i64 ((d : Int))]) 0 rfl 1 (.int .i64 ((d : Int) + 1)) (by refine ⟨?_, trivial⟩ <;> (simp only [Fq.apart]; first | omega | (intro b h1 h2; omega) | (intro b h1 h2 h3; omega))))
  clear HF0
  have HF2 := Lib.hid (HF1.out.box #[.pointer (some ⟨R, 0, none⟩)] 71 (n := w.heap.size) (by simp))
  clear HF1
  have HF3 := Lib.hid (HF2.out.box #[.int .i64 0, .int .i64 0, .int .i64 0, .string ⟨#[]⟩, .string ⟨#[]⟩, .int .i64 0, .slice none 0 0, .string ⟨#[]⟩, .int .i64 0] 24 (n := w.heap.size + 1) (by simp))
  clear HF2
  clear c0 c1 fr hwd
  have hcast : (((d + 1 : Nat)) : Int) = (d : Int) + 1 := by omega
  rw [hcast] at HS
  clear hcast
  have c0 := cells_of (HF3.out.blk 1 rfl) 0
  go_wp2_with fail
  cases o with
  | none =>
    refine (HS.out _ (HF3.out.blk 2 rfl)).mono ?_
    rintro e w9 ⟨rfl, ⟨l9, d9, hr⟩, ho⟩
    have HZ := Lib.hid (HF3.out.call 2 ho hr (by refine ⟨?_, ?_, ?_, trivial⟩ <;> (simp only [Fq.apart]; first | omega | (intro b h1 h2; omega) | (intro b h1 h2 h3; omega))))
    clear ho hr
    go_wp2_with fail
    refine leaves_cons (f := 38) (args := #[.pointer (some ⟨w.heap.size, 0, none⟩)]) (by simp) (invoke_term1 _ _) ?_
    refine (term1_any _ _ R _ (d9) _ (HZ.out.blk 2 rfl) (HZ.out.blk 0 rfl)).mono ?_
    rintro e u' w9 ⟨rfl, rfl, rfl⟩
    have HF4 := Lib.hid (HZ.out.set (c := [.string (ba (l9)), .int .i64 (d9)]) 0 rfl 1 (.int .i64 (wrap64 (d9 - 1))) (by refine ⟨?_, ?_, ?_, trivial⟩ <;> (simp only [Fq.apart]; first | omega | (intro b h1 h2; omega) | (intro b h1 h2 h3; omega))))
    clear HZ
    exact ⟨rfl, ⟨_, _, (HF4.out.blk 0 rfl)⟩, (HF4.out.base 3 rfl)⟩
  | some x =>
    refine (HS.out _ (HF3.out.blk 2 rfl)).mono ?_
    rintro e w1 ⟨ai, ci, rfl, hrd, hr, ho⟩
    have HRD := Lib.hid hrd
    clear hrd
    have HF8 := Lib.hid (HF3.out.call 2 ho hr (by refine ⟨?_, ?_, ?_, trivial⟩ <;> (simp only [Fq.apart]; first | omega | (intro b h1 h2; omega) | (intro b h1 h2 h3; omega))))
    have hz1 : w.heap.size + 2 ≤ w1.heap.size := by have := ho.size; simp at this; omega
    clear ho hr c0 HS HF3
    have HF9 := Lib.hid (HF8.out.add (f := .rd (w.heap.size + 2) w1.heap.size x.2.1 (.slice ai x.2.1.len ci)) ⟨by have := HRD.out; simpa using this, Nat.le_refl _⟩)
    clear HF8
    clear HRD
    have c0 := cells_of (HF9.out.blk 3 rfl) 0
    obtain ⟨e0, e1, e2, e3, e4, e5, e6, e7, e8, fs⟩ := nine_cells (HF9.out.blk 2 rfl)
    have hb1 : w.heap.size + 1 < w1.heap.size := by omega
    go_wp2_with fail
    have HF10 := Lib.hid (HF9.out.put 2 rfl (by refine ⟨?_, ?_, ?_, ?_, trivial⟩ <;> (simp only [Fq.apart]; first | omega | (intro b h1 h2; omega) | (intro b h1 h2 h3; omega))) (.int .i64 (x.1).k) (.int .i64 (x.1).i) (.int .i64 (x.1).g) (.string (x.1).nm) (.string (x.1).fn) (.int .i64 (x.1).ar) (.slice ai x.2.1.len ci) (.string (x.1).bs) (.int .i64 (x.1).n))
    clear HF9
    have HF11 := Lib.hid (HF10.out.box #[.int .i64 (x.1).k, .int .i64 (x.1).i, .int .i64 (x.1).g, .string (x.1).nm, .string (x.1).fn, .int .i64 (x.1).ar, .slice ai x.2.1.len ci, .string (x.1).bs, .int .i64 (x.1).n] 24 (n := w1.heap.size) (by simp))
    clear HF10
    clear e0 e1 e2 e3 e4 e5 e6 e7 e8 fs c0
    refine leaves_cons (f := 38) (args := #[.pointer (some ⟨w.heap.size, 0, none⟩)]) (by simp) (invoke_term1 _ _) ?_
    refine (term1_any _ _ R _ ((d : Int) + 1) _ (HF11.out.blk 4 rfl) (HF11.out.blk 3 rfl)).mono ?_
    rintro e u' w9 ⟨rfl, rfl, rfl⟩
    have HF12 := Lib.hid (HF11.out.set (c := [.string (ba (x.2.2)), .int .i64 ((d : Int) + 1)]) 3 rfl 1 (.int .i64 (wrap64 ((d : Int) + 1 - 1))) (by refine ⟨?_, ?_, ?_, ?_, ?_, trivial⟩ <;> (simp only [Fq.apart]; first | omega | (intro b h1 h2; omega) | (intro b h1 h2 h3; omega))))
    clear HF11
    have hwd : wrap64 ((d : Int) + 1 - 1) = (d : Int) := by rw [i64w (by omega) (by omega)]; omega
    have HQ := HF12.out
    rw [hwd] at HQ
    have HQ := Lib.hid HQ
    clear HF12
    refine ⟨_, results_one rfl _ _ _ _ _ _ _ _ _ _ _ _ rfl (by rw [hwd]; exact (HQ.out.blk 2 rfl)), ?_⟩
    rw [hwd]
    exact ⟨ai, ci, rfl, ((HQ.out.rd 3 rfl).1.less (by omega)).more (HQ.out.rd 3 rfl).2, (HQ.out.blk 0 rfl), (HQ.out.base 5 rfl)⟩
set_option maxRecDepth 100000 in
set_option maxHeartbeats 8000000 in
theorem term_intno (d : Nat) (R : Nat) (a : UInt8) (t : List UInt8) (w : World) (hr : Rb R (a :: t) (d : Int) w) (hd : d + 1 ≤ 2000) (hl : (a :: t).length ≤ 1000000000) (n0 : hp (a :: t) [91, 93] = false) (n1 : hp (a :: t) [91] = false) (n2 : hp (a :: t) [123] = false) (n3 : hp (a :: t) [60, 60] = false) (n4 : hp (a :: t) [60] = false) (n5 : hp (a :: t) [35, 82, 101, 102, 60] = false) (n6 : hp (a :: t) [35, 70, 117, 110, 60] = false) (n7 : hp (a :: t) [102, 117, 110, 32] = false) (hdig : digC a = true) (hi : pInt (a :: t) = none) :
    Calls Tryd.prog 24 #[.pointer (some ⟨R, 0, none⟩)] w (Bad R w) := by
  have x1 : ¬ (2000 : Int) < (d : Int) + 1 := by omega
  have N0 := Lib.hid n0
  have N1 := Lib.hid n1
  have N2 := Lib.hid n2
  have N3 := Lib.hid n3
  have N4 := Lib.hid n4
  have N5 := Lib.hid n5
  have N6 := Lib.hid n6
  have N7 := Lib.hid n7
  clear n0 n1 n2 n3 n4 n5 n6 n7
  have HDG := Lib.hid hdig
  clear hdig
  have HI := Lib.hid hi
  clear hi
  have hRw : R < w.heap.size := hr.lt
  have HF0 := Lib.hid (show Bq w [.blk R #[.string (ba (a :: t)), .int .i64 ((d : Int))] 56, .base (fun b => b = R) w] from ⟨hr, Ch.refl _ _, trivial⟩)
  have c0 := hr.c0
  have c1 := hr.c1
  have fr := hr.fr 1
  have hwd : wrap64 ((d : Int) + 1) = (d : Int) + 1 := i64w (by omega) (by omega)
  clear hr
  have hmf : ∀ (fn : Fn) (first cap : Array Value) (w : World), (Instr.makeFunc fn first cap).run Tryd.prog w = .ok (.func fn first cap) w := fun _ _ _ _ => rfl
  go_enter_defers Tryd.func24, Tryd.ntmps24
  go_wp2_with fail
  have HF1 := Lib.hid (HF0.out.set (c := [.string (ba (a :: t)), .int .i64 ((d : Int))]) 0 rfl 1 (.int .i64 ((d : Int) + 1)) (by refine ⟨?_, trivial⟩ <;> (simp only [Fq.apart]; first | omega | (intro b h1 h2; omega) | (intro b h1 h2 h3; omega))))
  clear HF0
  have HF2 := Lib.hid (HF1.out.box #[.pointer (some ⟨R, 0, none⟩)] 71 (n := w.heap.size) (by simp))
  clear HF1
  have HF3 := Lib.hid (HF2.out.box #[.int .i64 0, .int .i64 0, .int .i64 0, .string ⟨#[]⟩, .string ⟨#[]⟩, .int .i64 0, .slice none 0 0, .string ⟨#[]⟩, .int .i64 0] 24 (n := w.heap.size + 1) (by simp))
  clear HF2
  clear c0 c1 fr hwd
  have c0 := cells_of (HF3.out.blk 1 rfl) 0
  go_wp2_with fail
  refine (sign_none _ R _ _ (HF3.out.blk 2 rfl) N0.out N1.out N2.out N3.out N4.out N5.out N6.out N7.out).mono ?_
  rintro e w1 ⟨rfl, hr, ho⟩
  have HF8 := Lib.hid (HF3.out.call 2 ho hr (by refine ⟨?_, ?_, ?_, trivial⟩ <;> (simp only [Fq.apart]; first | omega | (intro b h1 h2; omega) | (intro b h1 h2 h3; omega))))
  have hz1 : w.heap.size + 2 ≤ w1.heap.size := by have := ho.size; simp at this; omega
  clear ho hr c0 HF3
  clear N0 N1 N2 N3 N4 N5 N6 N7
  have hb1 : w.heap.size + 1 < w1.heap.size := by omega
  have hb0 : w.heap.size < w1.heap.size := by omega
  have hbR : R < w1.heap.size := by omega
  have c0 := cells_of (HF8.out.blk 2 rfl) 0
  have r0 := cells_of (HF8.out.blk 0 rfl) 0
  have y0 : (ba (a :: t)).toList.isEmpty = false := by rw [ba_toList]; rfl
  have hs : 0 < (ba (a :: t)).size := by rw [ba_size, List.length_cons]; omega
  go_wp2_with fail
  have HF9 := Lib.hid (HF8.out.box #[.int .i64 0, .int .i64 0, .int .i64 0, .string ⟨#[]⟩, .string ⟨#[]⟩, .int .i64 0, .slice none 0 0, .string ⟨#[]⟩, .int .i64 0] 24 (n := w1.heap.size) (by rfl))
  clear HF8
  refine (digit_any _ _).mono ?_
  rintro e w2 ⟨rfl, rfl⟩
  have hg0 : digC ((ba (a :: t))[0]'hs) = true := HDG.out
  rw [hg0]
  clear hg0
  have c1 := cells_of (HF9.out.blk 3 rfl) 0
  go_wp2_with fail
  refine (int_none R _ _ _ (HF9.out.blk 1 rfl) (by omega) HI.out).mono ?_
  rintro e w9 ⟨rfl, ⟨l9, d9, hr⟩, ho⟩
  have HZ := Lib.hid (HF9.out.call 1 ho hr (by refine ⟨?_, ?_, ?_, ?_, trivial⟩ <;> (simp only [Fq.apart]; first | omega | (intro b h1 h2; omega) | (intro b h1 h2 h3; omega))))
  clear ho hr
  go_wp2_with fail
  refine leaves_cons (f := 38) (args := #[.pointer (some ⟨w.heap.size, 0, none⟩)]) (by simp) (invoke_term1 _ _) ?_
  refine (term1_any _ _ R _ (d9) _ (HZ.out.blk 3 rfl) (HZ.out.blk 0 rfl)).mono ?_
  rintro e u' w9 ⟨rfl, rfl, rfl⟩
  have HF10 := Lib.hid (HZ.out.set (c := [.string (ba (l9)), .int .i64 (d9)]) 0 rfl 1 (.int .i64 (wrap64 (d9 - 1))) (by refine ⟨?_, ?_, ?_, ?_, trivial⟩ <;> (simp only [Fq.apart]; first | omega | (intro b h1 h2; omega) | (intro b h1 h2 h3; omega))))
  clear HZ
  exact ⟨rfl, ⟨_, _, (HF10.out.blk 0 rfl)⟩, (HF10.out.base 4 rfl)⟩
set_option maxRecDepth 100000 in
set_option maxHeartbeats 8000000 in
theorem term_int (d : Nat) (R : Nat) (a : UInt8) (t : List UInt8) (w : World) (hr : Rb R (a :: t) (d : Int) w) (hd : d + 1 ≤ 2000) (hl : (a :: t).length ≤ 1000000000) (n0 : hp (a :: t) [91, 93] = false) (n1 : hp (a :: t) [91] = false) (n2 : hp (a :: t) [123] = false) (n3 : hp (a :: t) [60, 60] = false) (n4 : hp (a :: t) [60] = false) (n5 : hp (a :: t) [35, 82, 101, 102, 60] = false) (n6 : hp (a :: t) [35, 70, 117, 110, 60] = false) (n7 : hp (a :: t) [102, 117, 110, 32] = false) (y : Int × List UInt8) (hdig : digC a = true) (hi : pInt (a :: t) = some y) :
    Calls Tryd.prog 24 #[.pointer (some ⟨R, 0, none⟩)] w (TermRes R (intF y.1, .nil, y.2) (d : Int) w) := by
  have x1 : ¬ (2000 : Int) < (d : Int) + 1 := by omega
  have N0 := Lib.hid n0
  have N1 := Lib.hid n1
  have N2 := Lib.hid n2
  have N3 := Lib.hid n3
  have N4 := Lib.hid n4
  have N5 := Lib.hid n5
  have N6 := Lib.hid n6
  have N7 := Lib.hid n7
  clear n0 n1 n2 n3 n4 n5 n6 n7
  have HDG := Lib.hid hdig
  clear hdig
  have HI := Lib.hid hi
  clear hi
  have hRw : R < w.heap.size := hr.lt
  have HF0 := Lib.hid (show Bq w [.blk R #[.string (ba (a :: t)), .int .i64 ((d : Int))] 56, .base (fun b => b = R) w] from ⟨hr, Ch.refl _ _, trivial⟩)
  have c0 := hr.c0
  have c1 := hr.c1
  have fr := hr.fr 1
  have hwd : wrap64 ((d : Int) + 1) = (d : Int) + 1 := i64w (by omega) (by omega)
  clear hr
  have hmf : ∀ (fn : Fn) (first cap : Array Value) (w : World), (Instr.makeFunc fn first cap).run Tryd.prog w = .ok (.func fn first cap) w := fun _ _ _ _ => rfl
  go_enter_defers Tryd.func24, Tryd.ntmps24
  go_wp2_with fail
  have HF1 := Lib.hid (HF0.out.set (c := [.string (ba (a :: t)), .int .i64 ((d : Int))]) 0 rfl 1 (.int .i64 ((d : Int) + 1)) (by refine ⟨?_, trivial⟩ <;> (simp only [Fq.apart]; first | omega | (intro b h1 h2; omega) | (intro b h1 h2 h3; omega))))
  clear HF0
  have HF2 := Lib.hid (HF1.out.box #[.pointer (some ⟨R, 0, none⟩)] 71 (n := w.heap.size) (by simp))
  clear HF1
  have HF3 := Lib.hid (HF2.out.box #[.int .i64 0, .int .i64 0, .int .i64 0, .string ⟨#[]⟩, .string ⟨#[]⟩, .int .i64 0, .slice none 0 0, .string ⟨#[]⟩, .int .i64 0] 24 (n := w.heap.size + 1) (by simp))
  clear HF2
  clear c0 c1 fr hwd
  have c0 := cells_of (HF3.out.blk 1 rfl) 0
  go_wp2_with fail
  refine (sign_none _ R _ _ (HF3.out.blk 2 rfl) N0.out N1.out N2.out N3.out N4.out N5.out N6.out N7.out).mono ?_
  rintro e w1 ⟨rfl, hr, ho⟩
  have HF8 := Lib.hid (HF3.out.call 2 ho hr (by refine ⟨?_, ?_, ?_, trivial⟩ <;> (simp only [Fq.apart]; first | omega | (intro b h1 h2; omega) | (intro b h1 h2 h3; omega))))
  have hz1 : w.heap.size + 2 ≤ w1.heap.size := by have := ho.size; simp at this; omega
  clear ho hr c0 HF3
  clear N0 N1 N2 N3 N4 N5 N6 N7
  have hb1 : w.heap.size + 1 < w1.heap.size := by omega
  have hb0 : w.heap.size < w1.heap.size := by omega
  have hbR : R < w1.heap.size := by omega
  have c0 := cells_of (HF8.out.blk 2 rfl) 0
  have r0 := cells_of (HF8.out.blk 0 rfl) 0
  have y0 : (ba (a :: t)).toList.isEmpty = false := by rw [ba_toList]; rfl
  have hs : 0 < (ba (a :: t)).size := by rw [ba_size, List.length_cons]; omega
  go_wp2_with fail
  have HF9 := Lib.hid (HF8.out.box #[.int .i64 0, .int .i64 0, .int .i64 0, .string ⟨#[]⟩, .string ⟨#[]⟩, .int .i64 0, .slice none 0 0, .string ⟨#[]⟩, .int .i64 0] 24 (n := w1.heap.size) (by rfl))
  clear HF8
  refine (digit_any _ _).mono ?_
  rintro e w2 ⟨rfl, rfl⟩
  have hg0 : digC ((ba (a :: t))[0]'hs) = true := HDG.out
  rw [hg0]
  clear hg0
  have c1 := cells_of (HF9.out.blk 3 rfl) 0
  go_wp2_with fail
  refine (int_some R _ _ y _ (HF9.out.blk 1 rfl) (by omega) HI.out).mono ?_
  rintro e w3 ⟨rfl, hr, ho⟩
  have HF9x := Lib.hid (HF9.out.call 1 ho hr (by refine ⟨?_, ?_, ?_, ?_, trivial⟩ <;> (simp only [Fq.apart]; first | omega | (intro b h1 h2; omega) | (intro b h1 h2 h3; omega))))
  have hz3 : w1.heap.size + 1 ≤ w3.heap.size := by have := ho.size; first | omega | (simp at this; omega)
  clear ho hr HF9
  go_wp2_with fail
  refine (intT_any _ _).mono ?_
  rintro e w4 ⟨rfl, hb⟩
  have HF10 := Lib.hid (HF9x.out.below hb)
  clear HF9x
  have hz4 : w3.heap.size ≤ w4.heap.size := hb.size
  clear hb
  obtain ⟨e0, e1, e2, e3, e4, e5, e6, e7, e8, fs⟩ := nine_cells (HF10.out.blk 2 rfl)
  go_wp2_with fail
  have HF11 := Lib.hid (HF10.out.put 2 rfl (by refine ⟨?_, ?_, ?_, ?_, trivial⟩ <;> (simp only [Fq.apart]; first | omega | (intro b h1 h2; omega) | (intro b h1 h2 h3; omega))) (.int .i64 1) (.int .i64 y.1) (.int .i64 0) (.string ⟨#[]⟩) (.string ⟨#[]⟩) (.int .i64 0) (.slice none 0 0) (.string ⟨#[]⟩) (.int .i64 0))
  clear HF10
  refine leaves_cons (f := 38) (args := #[.pointer (some ⟨w.heap.size, 0, none⟩)]) (by simp) (invoke_term1 _ _) ?_
  refine (term1_any _ _ R _ ((d : Int) + 1) _ (HF11.out.blk 3 rfl) (HF11.out.blk 1 rfl)).mono ?_
  rintro e u' w9 ⟨rfl, rfl, rfl⟩
  have HF12 := Lib.hid (HF11.out.set (c := [.string (ba (y.2)), .int .i64 ((d : Int) + 1)]) 1 rfl 1 (.int .i64 (wrap64 ((d : Int) + 1 - 1))) (by refine ⟨?_, ?_, ?_, ?_, trivial⟩ <;> (simp only [Fq.apart]; first | omega | (intro b h1 h2; omega) | (intro b h1 h2 h3; omega))))
  clear HF11
  have hwd : wrap64 ((d : Int) + 1 - 1) = (d : Int) := by rw [i64w (by omega) (by omega)]; omega
  have HQ := HF12.out
  rw [hwd] at HQ
  have HQ := Lib.hid HQ
  clear HF12
  refine ⟨_, results_one rfl _ _ _ _ _ _ _ _ _ _ _ _ rfl (by rw [hwd]; exact (HQ.out.blk 1 rfl)), ?_⟩
  rw [hwd]
  exact ⟨none, 0, rfl, RdS.nil _ _ _, (HQ.out.blk 0 rfl), (HQ.out.base 4 rfl)⟩
set_option maxRecDepth 100000 in
set_option maxHeartbeats 8000000 in
theorem term_atom (d : Nat) (R : Nat) (a : UInt8) (t : List UInt8) (w : World) (hr : Rb R (a :: t) (d : Int) w) (hd : d + 1 ≤ 2000) (hl : (a :: t).length ≤ 1000000000) (n0 : hp (a :: t) [91, 93] = false) (n1 : hp (a :: t) [91] = false) (n2 : hp (a :: t) [123] = false) (n3 : hp (a :: t) [60, 60] = false) (n4 : hp (a :: t) [60] = false) (n5 : hp (a :: t) [35, 82, 101, 102, 60] = false) (n6 : hp (a :: t) [35, 70, 117, 110, 60] = false) (n7 : hp (a :: t) [102, 117, 110, 32] = false) (hdig : digC a = false) :
    Calls Tryd.prog 24 #[.pointer (some ⟨R, 0, none⟩)] w (TermRes R (atomF (spanN (a :: t)), .nil, (a :: t).dropWhile letC) (d : Int) w) := by
  have x1 : ¬ (2000 : Int) < (d : Int) + 1 := by omega
  have N0 := Lib.hid n0
  have N1 := Lib.hid n1
  have N2 := Lib.hid n2
  have N3 := Lib.hid n3
  have N4 := Lib.hid n4
  have N5 := Lib.hid n5
  have N6 := Lib.hid n6
  have N7 := Lib.hid n7
  clear n0 n1 n2 n3 n4 n5 n6 n7
  have HDG := Lib.hid hdig
  clear hdig
  have hRw : R < w.heap.size := hr.lt
  have HF0 := Lib.hid (show Bq w [.blk R #[.string (ba (a :: t)), .int .i64 ((d : Int))] 56, .base (fun b => b = R) w] from ⟨hr, Ch.refl _ _, trivial⟩)
  have c0 := hr.c0
  have c1 := hr.c1
  have fr := hr.fr 1
  have hwd : wrap64 ((d : Int) + 1) = (d : Int) + 1 := i64w (by omega) (by omega)
  clear hr
  have hmf : ∀ (fn : Fn) (first cap : Array Value) (w : World), (Instr.makeFunc fn first cap).run Tryd.prog w = .ok (.func fn first cap) w := fun _ _ _ _ => rfl
  go_enter_defers Tryd.func24, Tryd.ntmps24
  go_wp2_with fail
  have HF1 := Lib.hid (HF0.out.set (c := [.string (ba (a :: t)), .int .i64 ((d : Int))]) 0 rfl 1 (.int .i64 ((d : Int) + 1)) (by refine ⟨?_, trivial⟩ <;> (simp only [Fq.apart]; first | omega | (intro b h1 h2; omega) | (intro b h1 h2 h3; omega))))
  clear HF0
  have HF2 := Lib.hid (HF1.out.box #[.pointer (some ⟨R, 0, none⟩)] 71 (n := w.heap.size) (by simp))
  clear HF1
  have HF3 := Lib.hid (HF2.out.box #[.int .i64 0, .int .i64 0, .int .i64 0, .string ⟨#[]⟩, .string ⟨#[]⟩, .int .i64 0, .slice none 0 0, .string ⟨#[]⟩, .int .i64 0] 24 (n := w.heap.size + 1) (by simp))
  clear HF2
  clear c0 c1 fr hwd
  have c0 := cells_of (HF3.out.blk 1 rfl) 0
  go_wp2_with fail
  refine (sign_none _ R _ _ (HF3.out.blk 2 rfl) N0.out N1.out N2.out N3.out N4.out N5.out N6.out N7.out).mono ?_
  rintro e w1 ⟨rfl, hr, ho⟩
  have HF8 := Lib.hid (HF3.out.call 2 ho hr (by refine ⟨?_, ?_, ?_, trivial⟩ <;> (simp only [Fq.apart]; first | omega | (intro b h1 h2; omega) | (intro b h1 h2 h3; omega))))
  have hz1 : w.heap.size + 2 ≤ w1.heap.size := by have := ho.size; simp at this; omega
  clear ho hr c0 HF3
  clear N0 N1 N2 N3 N4 N5 N6 N7
  have hb1 : w.heap.size + 1 < w1.heap.size := by omega
  have hb0 : w.heap.size < w1.heap.size := by omega
  have hbR : R < w1.heap.size := by omega
  have c0 := cells_of (HF8.out.blk 2 rfl) 0
  have r0 := cells_of (HF8.out.blk 0 rfl) 0
  have y0 : (ba (a :: t)).toList.isEmpty = false := by rw [ba_toList]; rfl
  have hs : 0 < (ba (a :: t)).size := by rw [ba_size, List.length_cons]; omega
  go_wp2_with fail
  have HF9 := Lib.hid (HF8.out.box #[.int .i64 0, .int .i64 0, .int .i64 0, .string ⟨#[]⟩, .string ⟨#[]⟩, .int .i64 0, .slice none 0 0, .string ⟨#[]⟩, .int .i64 0] 24 (n := w1.heap.size) (by rfl))
  clear HF8
  refine (digit_any _ _).mono ?_
  rintro e w2 ⟨rfl, rfl⟩
  have hg0 : digC ((ba (a :: t))[0]'hs) = false := HDG.out
  rw [hg0]
  clear hg0
  have c1 := cells_of (HF9.out.blk 3 rfl) 0
  go_wp2_with fail
  refine (run_q _ letC tells_letter R _ _ _ (HF9.out.blk 1 rfl) (by omega)).mono ?_
  rintro e w3 ⟨rfl, hr, ho⟩
  have HF9x := Lib.hid (HF9.out.call 1 ho hr (by refine ⟨?_, ?_, ?_, ?_, trivial⟩ <;> (simp only [Fq.apart]; first | omega | (intro b h1 h2; omega) | (intro b h1 h2 h3; omega))))
  have hz3 : w1.heap.size + 1 ≤ w3.heap.size := by have := ho.size; first | omega | (simp at this; omega)
  clear ho hr HF9
  obtain ⟨e0, e1, e2, e3, e4, e5, e6, e7, e8, fs⟩ := nine_cells (HF9x.out.blk 2 rfl)
  go_wp2_with fail
  have HF10 := Lib.hid (HF9x.out.put 2 rfl (by refine ⟨?_, ?_, ?_, ?_, trivial⟩ <;> (simp only [Fq.apart]; first | omega | (intro b h1 h2; omega) | (intro b h1 h2 h3; omega))) (.int .i64 2) (.int .i64 0) (.int .i64 0) (.string (spanN (a :: t))) (.string ⟨#[]⟩) (.int .i64 0) (.slice none 0 0) (.string ⟨#[]⟩) (.int .i64 0))
  clear HF9x
  refine leaves_cons (f := 38) (args := #[.pointer (some ⟨w.heap.size, 0, none⟩)]) (by simp) (invoke_term1 _ _) ?_
  refine (term1_any _ _ R _ ((d : Int) + 1) _ (HF10.out.blk 3 rfl) (HF10.out.blk 1 rfl)).mono ?_
  rintro e u' w9 ⟨rfl, rfl, rfl⟩
  have HF11 := Lib.hid (HF10.out.set (c := [.string (ba ((a :: t).dropWhile letC)), .int .i64 ((d : Int) + 1)]) 1 rfl 1 (.int .i64 (wrap64 ((d : Int) + 1 - 1))) (by refine ⟨?_, ?_, ?_, ?_, trivial⟩ <;> (simp only [Fq.apart]; first | omega | (intro b h1 h2; omega) | (intro b h1 h2 h3; omega))))
  clear HF10
  have hwd : wrap64 ((d : Int) + 1 - 1) = (d : Int) := by rw [i64w (by omega) (by omega)]; omega
  have HQ := HF11.out
  rw [hwd] at HQ
  have HQ := Lib.hid HQ
  clear HF11
  refine ⟨_, results_one rfl _ _ _ _ _ _ _ _ _ _ _ _ rfl (by rw [hwd]; exact (HQ.out.blk 1 rfl)), ?_⟩
  rw [hwd]
  exact ⟨none, 0, rfl, RdS.nil _ _ _, (HQ.out.blk 0 rfl), (HQ.out.base 4 rfl)⟩
set_option maxRecDepth 100000 in
set_option maxHeartbeats 8000000 in
theorem term_empty (d : Nat) (R : Nat) (w : World) (hr : Rb R ([]) (d : Int) w) (hd : d + 1 ≤ 2000)   :
    Calls Tryd.prog 24 #[.pointer (some ⟨R, 0, none⟩)] w (TermRes R (atomF (spanN []), .nil, []) (d : Int) w) := by
  have x1 : ¬ (2000 : Int) < (d : Int) + 1 := by omega
  have hRw : R < w.heap.size := hr.lt
  have HF0 := Lib.hid (show Bq w [.blk R #[.string (ba ([])), .int .i64 ((d : Int))] 56, .base (fun b => b = R) w] from ⟨hr, Ch.refl _ _, trivial⟩)
  have c0 := hr.c0
  have c1 := hr.c1
  have fr := hr.fr 1
  have hwd : wrap64 ((d : Int) + 1) = (d : Int) + 1 := i64w (by omega) (by omega)
  clear hr
  have hmf : ∀ (fn : Fn) (first cap : Array Value) (w : World), (Instr.makeFunc fn first cap).run Tryd.prog w = .ok (.func fn first cap) w := fun _ _ _ _ => rfl
  go_enter_defers Tryd.func24, Tryd.ntmps24
  go_wp2_with fail
  have HF1 := Lib.hid (HF0.out.set (c := [.string (ba ([])), .int .i64 ((d : Int))]) 0 rfl 1 (.int .i64 ((d : Int) + 1)) (by refine ⟨?_, trivial⟩ <;> (simp only [Fq.apart]; first | omega | (intro b h1 h2; omega) | (intro b h1 h2 h3; omega))))
  clear HF0
  have HF2 := Lib.hid (HF1.out.box #[.pointer (some ⟨R, 0, none⟩)] 71 (n := w.heap.size) (by simp))
  clear HF1
  have HF3 := Lib.hid (HF2.out.box #[.int .i64 0, .int .i64 0, .int .i64 0, .string ⟨#[]⟩, .string ⟨#[]⟩, .int .i64 0, .slice none 0 0, .string ⟨#[]⟩, .int .i64 0] 24 (n := w.heap.size + 1) (by simp))
  clear HF2
  clear c0 c1 fr hwd
  have c0 := cells_of (HF3.out.blk 1 rfl) 0
  go_wp2_with fail
  refine (sign_none _ R _ _ (HF3.out.blk 2 rfl) rfl rfl rfl rfl rfl rfl rfl rfl).mono ?_
  rintro e w1 ⟨rfl, hr, ho⟩
  have HF8 := Lib.hid (HF3.out.call 2 ho hr (by refine ⟨?_, ?_, ?_, trivial⟩ <;> (simp only [Fq.apart]; first | omega | (intro b h1 h2; omega) | (intro b h1 h2 h3; omega))))
  have hz1 : w.heap.size + 2 ≤ w1.heap.size := by have := ho.size; simp at this; omega
  clear ho hr c0 HF3
  have hb1 : w.heap.size + 1 < w1.heap.size := by omega
  have hb0 : w.heap.size < w1.heap.size := by omega
  have hbR : R < w1.heap.size := by omega
  have c0 := cells_of (HF8.out.blk 2 rfl) 0
  have r0 := cells_of (HF8.out.blk 0 rfl) 0
  have y0 : (ba []).toList.isEmpty = true := by rw [ba_toList]; rfl
  go_wp2_with fail
  have HF9 := Lib.hid (HF8.out.box #[.int .i64 0, .int .i64 0, .int .i64 0, .string ⟨#[]⟩, .string ⟨#[]⟩, .int .i64 0, .slice none 0 0, .string ⟨#[]⟩, .int .i64 0] 24 (n := w1.heap.size) (by rfl))
  clear HF8
  refine (run_q _ letC tells_letter R _ _ _ (HF9.out.blk 1 rfl) (by simp)).mono ?_
  rintro e w3 ⟨rfl, hr, ho⟩
  have HF9x := Lib.hid (HF9.out.call 1 ho hr (by refine ⟨?_, ?_, ?_, ?_, trivial⟩ <;> (simp only [Fq.apart]; first | omega | (intro b h1 h2; omega) | (intro b h1 h2 h3; omega))))
  have hz3 : w1.heap.size + 1 ≤ w3.heap.size := by have := ho.size; first | omega | (simp at this; omega)
  clear ho hr HF9
  obtain ⟨e0, e1, e2, e3, e4, e5, e6, e7, e8, fs⟩ := nine_cells (HF9x.out.blk 2 rfl)
  go_wp2_with fail
  have HF10 := Lib.hid (HF9x.out.put 2 rfl (by refine ⟨?_, ?_, ?_, ?_, trivial⟩ <;> (simp only [Fq.apart]; first | omega | (intro b h1 h2; omega) | (intro b h1 h2 h3; omega))) (.int .i64 2) (.int .i64 0) (.int .i64 0) (.string (spanN ([]))) (.string ⟨#[]⟩) (.int .i64 0) (.slice none 0 0) (.string ⟨#[]⟩) (.int .i64 0))
  clear HF9x
  refine leaves_cons (f := 38) (args := #[.pointer (some ⟨w.heap.size, 0, none⟩)]) (by simp) (invoke_term1 _ _) ?_
  refine (term1_any _ _ R _ ((d : Int) + 1) _ (HF10.out.blk 3 rfl) (HF10.out.blk 1 rfl)).mono ?_
  rintro e u' w9 ⟨rfl, rfl, rfl⟩
  have HF11 := Lib.hid (HF10.out.set (c := [.string (ba (([]).dropWhile letC)), .int .i64 ((d : Int) + 1)]) 1 rfl 1 (.int .i64 (wrap64 ((d : Int) + 1 - 1))) (by refine ⟨?_, ?_, ?_, ?_, trivial⟩ <;> (simp only [Fq.apart]; first | omega | (intro b h1 h2; omega) | (intro b h1 h2 h3; omega))))
  clear HF10
  have hwd : wrap64 ((d : Int) + 1 - 1) = (d : Int) := by rw [i64w (by omega) (by omega)]; omega
  have HQ := HF11.out
  rw [hwd] at HQ
  have HQ := Lib.hid HQ
  clear HF11
  refine ⟨_, results_one rfl _ _ _ _ _ _ _ _ _ _ _ _ rfl (by rw [hwd]; exact (HQ.out.blk 1 rfl)), ?_⟩
  rw [hwd]
  exact ⟨none, 0, rfl, RdS.nil _ _ _, (HQ.out.blk 0 rfl), (HQ.out.base 4 rfl)⟩
/-- term, whatever stands next -/
theorem term_all : ∀ j, j ≤ 1000000 → TermC j
  | 0, _ => fun _ _ l _ _ hl _ => absurd hl (Nat.not_lt_zero _)
  | n + 1, hn => by
    intro d R l w hr hl hd
    rw [pTerm]
    by_cases hdeep : 2000 < d + 1
    · rw [if_pos (by simpa using hdeep)]
      exact term_deep d R l w hr hdeep hd
    · rw [if_neg (by simpa using hdeep)]
      have hd1 : d + 1 ≤ 2000 := by omega
      have hword : ∀ p : List UInt8, 1 ≤ p.length → hp l p = true → ∃ j, n = j + 1 := fun p h1 h2 => ⟨n - 1, by have := hp_len h2; omega⟩
      unfold pSign
      by_cases n0 : hp l [91, 93] = true
      · rw [if_pos n0]
        obtain ⟨j, rfl⟩ := hword _ (by decide) n0
        exact term_word d R l w hr hd1 _ fun W hW => sign_w0 j (by omega) (d + 1) R l W hW (by omega)  n0
      rw [if_neg n0]
      by_cases n1 : hp l [91] = true
      · rw [if_pos n1]
        obtain ⟨j, rfl⟩ := hword _ (by decide) n1
        exact term_word d R l w hr hd1 _ fun W hW => sign_w1 j (term_all (j + 1) (by omega)) (by omega) (d + 1) hd1 R l W hW (by omega) (by simpa using n0) n1
      rw [if_neg n1]
      by_cases n2 : hp l [123] = true
      · rw [if_pos n2]
        obtain ⟨j, rfl⟩ := hword _ (by decide) n2
        exact term_word d R l w hr hd1 _ fun W hW => sign_w2 j (term_all (j + 1) (by omega)) (by omega) (d + 1) hd1 R l W hW (by omega) (by simpa using n0) (by simpa using n1) n2
      rw [if_neg n2]
      by_cases n3 : hp l [60, 60] = true
      · rw [if_pos n3]
        obtain ⟨j, rfl⟩ := hword _ (by decide) n3
        exact term_word d R l w hr hd1 _ fun W hW => sign_w3 j (by omega) (d + 1) R l W hW (by omega) (by simpa using n0) (by simpa using n1) (by simpa using n2) n3
      rw [if_neg n3]
      by_cases n4 : hp l [60] = true
      · rw [if_pos n4]
        obtain ⟨j, rfl⟩ := hword _ (by decide) n4
        exact term_word d R l w hr hd1 _ fun W hW => sign_w4 j (by omega) (d + 1) R l W hW (by omega) (by simpa using n0) (by simpa using n1) (by simpa using n2) (by simpa using n3) n4
      rw [if_neg n4]
      by_cases n5 : hp l [35, 82, 101, 102, 60] = true
      · rw [if_pos n5]
        obtain ⟨j, rfl⟩ := hword _ (by decide) n5
        exact term_word d R l w hr hd1 _ fun W hW => sign_w5 j (by omega) (d + 1) R l W hW (by omega) (by simpa using n0) (by simpa using n1) (by simpa using n2) (by simpa using n3) (by simpa using n4) n5
      rw [if_neg n5]
      by_cases n6 : hp l [35, 70, 117, 110, 60] = true
      · rw [if_pos n6]
        obtain ⟨j, rfl⟩ := hword _ (by decide) n6
        exact term_word d R l w hr hd1 _ fun W hW => sign_w6 j (term_all (j + 1) (by omega)) (by omega) (d + 1) hd1 R l W hW (by omega) (by simpa using n0) (by simpa using n1) (by simpa using n2) (by simpa using n3) (by simpa using n4) (by simpa using n5) n6
      rw [if_neg n6]
      by_cases n7 : hp l [102, 117, 110, 32] = true
      · rw [if_pos n7]
        obtain ⟨j, rfl⟩ := hword _ (by decide) n7
        exact term_word d R l w hr hd1 _ fun W hW => sign_w7 j (by omega) (d + 1) R l W hW (by omega) (by simpa using n0) (by simpa using n1) (by simpa using n2) (by simpa using n3) (by simpa using n4) (by simpa using n5) (by simpa using n6) n7
      rw [if_neg n7]
      unfold pPlain
      cases l with
      | nil => exact (term_empty d R w hr hd1).mono fun _ _ h => TermPost.res (x := (atomF (spanN []), .nil, [])) rfl h
      | cons a t =>
        cases hdig : digC a with
        | false =>
          rw [if_neg (by show ¬ digC a = true; rw [hdig]; decide), if_neg (by simp)]
          exact term_atom d R a t w hr hd1 (by omega) (by simpa using n0) (by simpa using n1) (by simpa using n2) (by simpa using n3) (by simpa using n4) (by simpa using n5) (by simpa using n6) (by simpa using n7) hdig
        | true =>
          rw [if_pos (by exact hdig)]
          cases hi : pInt (a :: t) with
          | none => exact term_intno d R a t w hr hd1 (by omega) (by simpa using n0) (by simpa using n1) (by simpa using n2) (by simpa using n3) (by simpa using n4) (by simpa using n5) (by simpa using n6) (by simpa using n7) hdig hi
          | some y => exact term_int d R a t w hr hd1 (by omega) (by simpa using n0) (by simpa using n1) (by simpa using n2) (by simpa using n3) (by simpa using n4) (by simpa using n5) (by simpa using n6) (by simpa using n7) y hdig hi
end Go.Proofs.YtgfodedmcjkmaaaDoor
namespace Go.Proofs.YtgfodedmcjkmaaaDoor
open Go.RowKit Go.Proofs.BitsM
theorem as_yes (w : World) : (Instr.typeAssert (.iface 53 (.agg #[])) 20 53 true).run Tryd.prog w = .ok (.tuple #[.agg #[], .bool true]) w := by kernel_rfl
theorem as_no (w : World) : (Instr.typeAssert .nilIface 20 53 true).run Tryd.prog w = .ok (.tuple #[.agg #[], .bool false]) w := by kernel_rfl
set_option maxRecDepth 100000 in
theorem catch_set (T2 T3 : Nat) (hne : ¬ T2 = T3) (t0 t1 t2 t3 t4 t5 t6 t7 t8 u0 : Value) (w : World) (h2 : w.heap[T2]? = some (.cells #[t0, t1, t2, t3, t4, t5, t6, t7, t8] 24 (0, 0))) (h3 : w.heap[T3]? = some (.cells #[u0] 28 (0, 0))) (Q : Exit → Act → World → Prop) (x2 x3 x4 x5 x6 x7 x8 x9 : Value) (hQ : ∀ z, Q .normal { tmps := #[.pointer (some ⟨T2, 0, none⟩), .pointer (some ⟨T3, 0, none⟩), x2, x3, x4, x5, x6, x7, x8, x9, z], defers := [] } ((((((((((w.setCell ⟨T2, 0, none⟩ (.int .i64 0)).setCell ⟨T2, 1, none⟩ (.int .i64 0)).setCell ⟨T2, 2, none⟩ (.int .i64 0)).setCell ⟨T2, 3, none⟩ (.string ⟨#[]⟩)).setCell ⟨T2, 4, none⟩ (.string ⟨#[]⟩)).setCell ⟨T2, 5, none⟩ (.int .i64 0)).setCell ⟨T2, 6, none⟩ (.slice none 0 0)).setCell ⟨T2, 7, none⟩ (.string ⟨#[]⟩)).setCell ⟨T2, 8, none⟩ (.int .i64 0)).setCell ⟨T3, 0, none⟩ (.int .i64 6))) :
    Code.wp Tryd.prog (.region 2
        #[{ dst := some 10, op := Op.build 24 #[], type := 24, pos := "show.go:291", after := #[], guard := none },
          { dst := none, op := Op.store 24 (Operand.tmp 0) (Operand.tmp 10), type := 0, pos := "show.go:291",
            after := #[{ on := 0, ground := Ground.data }, { on := 0, ground := Ground.phase }], guard := none },
          { dst := none, op := Op.store 28 (Operand.tmp 1) (Operand.const (Value.int IntKind.i64 6)), type := 0,
            pos := "show.go:291",
            after :=
              #[{ on := 1, ground := Ground.chain }, { on := 0, ground := Ground.phase },
                { on := 1, ground := Ground.phase }],
            guard := none }]
        false) Q { tmps := #[.pointer (some ⟨T2, 0, none⟩), .pointer (some ⟨T3, 0, none⟩), x2, x3, x4, x5, x6, x7, x8, x9, undef], defers := [] } w := by
  obtain ⟨c0, c1, c2, c3, c4, c5, c6, c7, c8, fr⟩ := nine_cells h2
  have d0 : w.cell? ⟨T3, 0, none⟩ = some u0 := cells_of h3 0
  have fs := frees_of h3 0
  go_wp2
  exact hQ _
theorem set_two {w : World} {T2 T3 : Nat} (hne : ¬ T2 = T3) {t0 t1 t2 t3 t4 t5 t6 t7 t8 u0 : Value} {ta tb : TypeId} (h2 : w.heap[T2]? = some (.cells #[t0, t1, t2, t3, t4, t5, t6, t7, t8] ta (0, 0))) (h3 : w.heap[T3]? = some (.cells #[u0] tb (0, 0))) (a0 a1 a2 a3 a4 a5 a6 a7 a8 b0 : Value) :
    let w' := (((((((((w.setCell ⟨T2, 0, none⟩ a0).setCell ⟨T2, 1, none⟩ a1).setCell ⟨T2, 2, none⟩ a2).setCell ⟨T2, 3, none⟩ a3).setCell ⟨T2, 4, none⟩ a4).setCell ⟨T2, 5, none⟩ a5).setCell ⟨T2, 6, none⟩ a6).setCell ⟨T2, 7, none⟩ a7).setCell ⟨T2, 8, none⟩ a8).setCell ⟨T3, 0, none⟩ b0
    w'.heap[T2]? = some (.cells #[a0, a1, a2, a3, a4, a5, a6, a7, a8] ta (0, 0)) ∧ w'.heap[T3]? = some (.cells #[b0] tb (0, 0)) ∧ Ch (fun b => b = T2 ∨ b = T3) w w' := by
  intro w'
  have H : Bq w [.blk T2 #[t0, t1, t2, t3, t4, t5, t6, t7, t8] ta, .blk T3 #[u0] tb, .base (fun b => b = T2 ∨ b = T3) w] := ⟨h2, h3, Ch.refl _ _, trivial⟩
  have H1 := H.put 0 rfl (by refine ⟨?_, ?_, trivial⟩ <;> (simp only [Fq.apart]; first | omega | (intro b h1 h2; omega) | (intro b h1 h2 h3; omega))) a0 a1 a2 a3 a4 a5 a6 a7 a8
  have H2 := H1.set (c := [u0]) 1 rfl 0 b0 (by refine ⟨?_, ?_, trivial⟩ <;> (simp only [Fq.apart]; first | omega | (intro b h1 h2; omega) | (intro b h1 h2 h3; omega)))
  exact ⟨H2.blk 1 rfl, H2.blk 0 rfl, H2.base 2 rfl⟩
theorem results_cell2 {fn : Func} {p q : Tmp} {ty tz : TypeId} (h : fn.results = #[.cell p ty, .cell q tz]) (tmps : Array Value) (P : Program) (w : World) :
    (results fn tmps).run P w =
      ((asAddr (tmps.getD p undef)).run P w).andThen fun a w₁ => ((loadVar ty a).run P w₁).andThen fun v w₂ => ((asAddr (tmps.getD q undef)).run P w₂).andThen fun a w₁ => ((loadVar tz a).run P w₁).andThen fun v' w₂ => .ok (.tuple #[v, v']) w₂ := by
  simp only [results, h]
  simp [Sem.run_bind, Result.andThen]
theorem results_two {fn : Func} {p q : Tmp} (h : fn.results = #[.cell p 24, .cell q 28]) (tmps : Array Value) (w : World) (g h1 : Nat) (a0 a1 a2 a3 a4 a5 a6 a7 a8 b0 : Value)
    (hp : tmps.getD p undef = .pointer (some ⟨g, 0, none⟩)) (hq : tmps.getD q undef = .pointer (some ⟨h1, 0, none⟩)) (hg : w.heap[g]? = some (.cells #[a0, a1, a2, a3, a4, a5, a6, a7, a8] 24 (0, 0))) (hh : w.heap[h1]? = some (.cells #[b0] 28 (0, 0))) :
    (results fn tmps).run Tryd.prog w = .ok (.tuple #[.agg #[a0, a1, a2, a3, a4, a5, a6, a7, a8], b0]) w := by
  have hl := run_loadVar_row (P := Tryd.prog) w g _ 24 _ _ _ hg Tryd.underlying24 rfl term_size
  have d0 : w.cell? ⟨h1, 0, none⟩ = some b0 := cells_of hh 0
  have hm : (loadVar 28 ⟨h1, 0, none⟩).run Tryd.prog w = .ok b0 w := by simp [go_sem, d0]
  rw [results_cell2 h, hp, hq]
  simp only [asAddr, Sem.run_pure, Result.andThen_ok, hl, hm]
set_option maxRecDepth 100000 in
theorem catch_panicking (T2 T3 : Nat) (hne : ¬ T2 = T3) (t0 t1 t2 t3 t4 t5 t6 t7 t8 u0 : Value) (w : World) (h2 : w.heap[T2]? = some (.cells #[t0, t1, t2, t3, t4, t5, t6, t7, t8] 24 (0, 0))) (h3 : w.heap[T3]? = some (.cells #[u0] 28 (0, 0))) :
    CallsD Tryd.prog 23 #[.pointer (some ⟨T2, 0, none⟩), .pointer (some ⟨T3, 0, none⟩)] (.panicking ({ v := .iface 53 (.agg #[]), recovered := false } :: [])) w fun e u' w' =>
      (e = .returned (.tuple #[]) ∧ u' = .panicking ({ v := .iface 53 (.agg #[]), recovered := true } :: [])) ∧ w'.heap[T2]? = some (.cells #[.int .i64 0, .int .i64 0, .int .i64 0, .string ⟨#[]⟩, .string ⟨#[]⟩, .int .i64 0, .slice none 0 0, .string ⟨#[]⟩, .int .i64 0] 24 (0, 0)) ∧ w'.heap[T3]? = some (.cells #[.int .i64 6] 28 (0, 0)) ∧ Ch (fun b => b = T2 ∨ b = T3) w w' := by
  refine callsD_of_wpS Tryd.func23 rfl fun c₀ cs hu => ?_
  apply wpS_seq
  apply wpS_region
  simp [wpOpsS, go_sem, recoverD, hu, Tryd.ntmps23, Exit.thenS, as_yes]
  have hx := set_two hne (heap_after h2 (.cells #[] 53 (0, 0))) (heap_after h3 (.cells #[] 53 (0, 0))) (.int .i64 0) (.int .i64 0) (.int .i64 0) (.string ⟨#[]⟩) (.string ⟨#[]⟩) (.int .i64 0) (.slice none 0 0) (.string ⟨#[]⟩) (.int .i64 0) (.int .i64 6)
  have h2' := heap_after h2 (.cells #[] 53 (0, 0))
  have h3' := heap_after h3 (.cells #[] 53 (0, 0))
  have ha : Ch (fun b => b = T2 ∨ b = T3) w (w.alloc (.cells #[] 53 (0, 0))) := Ch.of_below (below_alloc _ _)
  generalize w.alloc (.cells #[] 53 (0, 0)) = W at h2' h3' hx ha ⊢
  apply wpS_seq
  apply wpS_region
  simp [wpOpsS, go_sem, Exit.thenS]
  refine wpS_cond (t := true) (by simp [Act.eval, Array.replicate]) ?_
  rw [if_pos rfl]
  refine wpS_of_wp ?_
  refine catch_set T2 T3 hne t0 t1 t2 t3 t4 t5 t6 t7 t8 u0 W h2' h3' _ _ _ _ _ _ _ _ _ fun z => ?_
  refine ⟨rfl, _, rfl, _, results_none rfl _ _ _, ⟨rfl, rfl⟩, hx.1, hx.2.1, ha.trans hx.2.2 fun i _ h => ⟨h, h⟩⟩
set_option maxRecDepth 100000 in
theorem catch_idle (T2 T3 : Nat) (w : World) :
    CallsD Tryd.prog 23 #[.pointer (some ⟨T2, 0, none⟩), .pointer (some ⟨T3, 0, none⟩)] .returning w fun e u' w' =>
      (e = .returned (.tuple #[]) ∧ u' = .returning) ∧ Below w.heap.size w w' := by
  refine callsD_of_wpS Tryd.func23 rfl fun c₀ cs hu => ?_
  apply wpS_seq
  apply wpS_region
  simp [wpOpsS, go_sem, recoverD, hu, Tryd.ntmps23, Exit.thenS, as_no]
  have ha : Below w.heap.size w (w.alloc (.cells #[] 53 (0, 0))) := below_alloc _ _
  generalize w.alloc (.cells #[] 53 (0, 0)) = W at ha ⊢
  apply wpS_seq
  apply wpS_region
  simp [wpOpsS, go_sem, Exit.thenS]
  refine wpS_cond (t := false) (by simp [Act.eval, Array.replicate]) ?_
  rw [if_neg (by simp)]
  refine wpS_of_wp (wp_skip ?_)
  have hc : c₀ = { c₀ with mode := .returning } := by cases c₀; simp_all
  refine ⟨rfl, .returning, by rw [← hc], _, results_none rfl _ _ _, ⟨rfl, rfl⟩, ha⟩
end Go.Proofs.YtgfodedmcjkmaaaDoor
