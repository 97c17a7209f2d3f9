/-
  Walks: the reference's reader of show: terms. Walks: the reference's reader of show: list. Walks: Read of the reference.
-/
import Derived.Test.YtgfodedmcjkmaaaGreatDoorRrA
import Derived.Test.YtgfodedmcjkmaaaGreatDoorRdB
import Derived.Test.YtgfodedmcjkmaaaGreatDoorRdD
import Derived.Test.YtgfodedmcjkmaaaGreatDoorSets
namespace Go.Proofs.YtgfodedmcjkmaaaGreatDoor
open Go.RowKit Go.Proofs.BitsM
/-- what the reference's term answers: some term, and whether it is bad -/
def TQ (o : Option (Fd × TL × List UInt8)) (R : Nat) (l : List UInt8) (bad : Bool) (w : World) (e : Ending) (w' : World) : Prop :=
  ∃ (f : Fd) (it : TL) (ai : Option Addr) (ci : Nat) (l' : List UInt8) (b' : Bool), e = .returned (.agg #[.int .i64 f.k, .int .i64 f.i, .int .i64 f.g, .string f.nm, .string f.fn, .int .i64 f.ar, .slice ai it.len ci, .string f.bs, .int .i64 f.n]) ∧ RdS w' w.heap.size w'.heap.size it (.slice ai it.len ci) ∧ Rr R l' b' w' ∧ Ch (fun b => b = R) w w' ∧ l'.length ≤ l.length ∧ (bad = true → b' = true) ∧ (bad = false → o = if b' then none else some (f, it, l'))
def TermCr (j d : Nat) : Prop := ∀ (R : Nat) (l : List UInt8) (bad : Bool) (w : World), Rr R l bad w → l.length < j → Calls Tryz.prog 30 #[.pointer (some ⟨R, 0, none⟩)] w (TQ (pTerm false j d l) R l bad w)
def LQ (o : Option (TL × List UInt8)) (R : Nat) (l : List UInt8) (bad : Bool) (w : World) (e : Ending) (w' : World) : Prop :=
  ∃ (acc : TL) (v : Value) (l' : List UInt8) (b' : Bool), e = .returned v ∧ OwnT w.heap.size v acc w' ∧ acc.len ≤ l.length + 1 ∧ Rr R l' b' w' ∧ Ch (fun b => b = R) w w' ∧ l'.length ≤ l.length ∧ (bad = true → b' = true) ∧ (bad = false → o = if b' then none else some (acc, l'))
/-- where the loop stands -/
def ItR (rd : Rdr) (bad0 : Bool) (res : Option (TL × List UInt8)) (acc : TL) (s : List UInt8) (b : Bool) : Prop :=
  (bad0 = true → b = true) ∧ (bad0 = false → if b then res = none else ∃ j', s.length < j' ∧ res = (pItems rd j' s).map fun z => (acc.app z.1, z.2))
theorem leftLen_r {R : Nat} {s : List UInt8} {b : Bool} {w : World} (h : Rr R s b w) : leftLen R w = s.length := by
  unfold leftLen
  rw [h.c0]
  exact ba_size s
theorem eat_m (R : Nat) (l : List UInt8) (p : ByteArray) (bad : Bool) (w : World) (hr : Rr R l bad w) :
    Calls Tryz.prog 52 #[.pointer (some ⟨R, 0, none⟩), .string p] w fun e w' => e = .returned (.bool (!bad && hp l (bl p))) ∧ Rr R (if !bad && hp l (bl p) then l.drop (bl p).length else l) bad w' ∧ Ch (fun b => b = R) w w' := rEat_any R l (bl p) bad w hr
theorem ItR.none {rd : Rdr} {bad0 : Bool} {res : Option (TL × List UInt8)} {acc : TL} {s : List UInt8} (h : ItR rd bad0 res acc s false) (hn : rd s = none) : bad0 = false → res = Option.none := fun h0 => by
  obtain ⟨j', hj, e⟩ := h.2 h0
  rw [e]
  cases j' with
  | zero => omega
  | succ j' => rw [pItems, hn]; rfl
theorem ItR.stop {rd : Rdr} {bad0 : Bool} {res : Option (TL × List UInt8)} {acc : TL} {s s1 : List UInt8} {f : Fd} {it : TL} (h : ItR rd bad0 res acc s false) (hn : rd s = some (f, it, s1)) (hc : hp s1 [44] = false) : bad0 = false → res = some (acc.app (.cons f it .nil), s1) := fun h0 => by
  obtain ⟨j', hj, e⟩ := h.2 h0
  rw [e]
  cases j' with
  | zero => omega
  | succ j' => rw [pItems, hn]; simp [hc]
theorem ItR.next {rd : Rdr} {bad0 : Bool} {res : Option (TL × List UInt8)} {acc : TL} {s s1 : List UInt8} {f : Fd} {it : TL} (h : ItR rd bad0 res acc s false) (hn : rd s = some (f, it, s1)) (hc : hp s1 [44] = true) (hl : s1.length ≤ s.length) : ItR rd bad0 res (acc.app (.cons f it .nil)) (s1.drop 1) false :=
  ⟨h.1, fun h0 => by
    obtain ⟨j', hj, e⟩ := h.2 h0
    have hl1 := hp_len hc
    simp only [List.length_cons, List.length_nil] at hl1
    cases j' with
    | zero => omega
    | succ j' =>
      refine ⟨j', by rw [List.length_drop]; omega, ?_⟩
      rw [e, pItems, hn, Option.bind_some]
      simp only [hc, if_true, Option.map_map]
      congr 1
      funext z
      simp [Function.comp, app_assoc, TL.app]⟩
set_option maxRecDepth 100000 in
set_option maxHeartbeats 8000000 in
theorem terms_loop (j d : Nat) (hT : TermCr j d) (R : Nat) (l es : List UInt8) (bad : Bool) (w : World) (hr : Rr R l bad w) (hl : l.length < j) (hj : j ≤ 1000000) (hes : es.length ≤ 1000) (hno : ∀ a t, l = a :: t → decide (a ∈ es) = false) :
    Calls Tryz.prog 54 #[.pointer (some ⟨R, 0, none⟩), .string (ba es)] w (LQ (pItems (pTerm false j d) j l) R l bad w) := by
  have HT := Lib.hid hT
  have hRw : R < w.heap.size := lt_of_block hr
  have c0 := hr.c0
  have s1 : (ba l).size = l.length := ba_size l
  have HF := Lib.hid (show Bq w [.blk R #[.string (ba (l)), .bool (bad)] 60, .base (fun b => b = R) w] from ⟨hr, Ch.refl _ _, trivial⟩)
  have HIt := Lib.hid (show ItR (pTerm false j d) bad (pItems (pTerm false j d) j l) .nil l bad from ⟨fun h => h, fun h => by subst h; exact ⟨j, hl, by simp [TL.app]⟩⟩)
  generalize pItems (pTerm false j d) j l = res at HIt ⊢
  clear hT hr
  go_enter Tryz.func54, Tryz.ntmps54
  obtain ⟨n, hn⟩ : ∃ n, n = l.length := ⟨_, rfl⟩
  cases l with
  | nil =>
    have hn0 : ([] : List UInt8).length ≤ n := by omega
    have hn1 : n ≤ ([] : List UInt8).length := by omega
    clear hn
    go_wp2_with fail
    go_loopw [5] (fun v wr => ∃ (acc : TL) (s : List UInt8) (b : Bool), acc.len + s.length ≤ n ∧ Hid (ItR (pTerm false j d) bad res acc s b) ∧ Hid (Bq wr [.blk R #[.string (ba (s)), .bool (b)] 60, .base (fun b => b = R) w]) ∧ Hid (OwnT w.heap.size v acc wr) ∧ w.heap.size ≤ wr.heap.size) (fun _ wr => leftLen R wr)
    case atStart => exact ⟨.nil, _, bad, by simp only [TL.len]; omega, HIt, HF, Lib.hid (OwnT.nil _ _), Nat.le_refl _⟩
    case round =>
      obtain ⟨acc, s, b, hal, HST, HW, HO, hzr⟩ := hrel
      have hlen := leftLen_r (HW.out.blk 0 rfl)
      have k1 := cells_of (HW.out.blk 0 rfl) 1
      cases b with
      | true =>
        go_wp2_with fail
        go_ret
        exact ⟨acc, _, s, true, rfl, HO.out, by omega, HW.out.blk 0 rfl, HW.out.base 1 rfl, by omega, fun _ => rfl, fun h => by have := HST.out.2 h; simpa using this⟩
      | false =>
        have hbad : bad = false := by
          cases hb : bad with
          | false => rfl
          | true => exact absurd (HST.out.1 hb) (by decide)
        have HBad := Lib.hid hbad
        clear hbad
        go_wp2_with fail
        refine (HT.out R s false _ (HW.out.blk 0 rfl) (by omega)).mono ?_
        rintro e w1 ⟨f, it, ai, ci, s1, b1, rfl, hrd, hr, ho, hsl, -, hres⟩
        have HRes := Lib.hid (hres rfl)
        have HF1 := Lib.hid (HW.out.call 0 ho hr (by refine ⟨?_, trivial⟩ <;> (simp only [Fq.apart]; first | omega | (intro b h1 h2; omega) | (intro b h1 h2 h3; omega))))
        have hz1 : wr.heap.size ≤ w1.heap.size := ho.size
        have HK := Lib.hid (kids_new HO.out hrd (by omega) (.cells #[.int .i64 f.k, .int .i64 f.i, .int .i64 f.g, .string f.nm, .string f.fn, .int .i64 f.ar, .slice ai it.len ci, .string f.bs, .int .i64 f.n] 24 (0, 0)))
        have HO3 := Lib.hid ((HO.out.ch ho fun b h1 h2 => by omega).alloc (.cells #[.int .i64 f.k, .int .i64 f.i, .int .i64 f.g, .string f.nm, .string f.fn, .int .i64 f.ar, .slice ai it.len ci, .string f.bs, .int .i64 f.n] 24 (0, 0)))
        clear ho hr hrd hres HW HO k1
        obtain ⟨xs, hown, hkids⟩ := HO3.out
        have HKI := Lib.hid hkids
        clear hkids
        go_wp2_with (at_builtin; refine wpList_app rfl (.tmp 26) (.tmp 29) rfl w.heap.size (by rw [World.size_alloc]; omega) _ acc.len xs rfl hown w1.heap.size [.int .i64 f.k, .int .i64 f.i, .int .i64 f.g, .string f.nm, .string f.fn, .int .i64 f.ar, .slice ai it.len ci, .string f.bs, .int .i64 f.n] rfl (heap_alloc_new _ _) rfl (cells_one f ai it.len ci) (by omega) ?_)
        intro v' w4 hown' hgrow hnew
        have HO4 := Lib.hid (OwnT.app (f := f) HKI.out HK.out hown' hgrow (by rw [World.size_alloc]; exact hnew))
        have HW4 := Lib.hid ((HF1.out.alloc (.cells #[.int .i64 f.k, .int .i64 f.i, .int .i64 f.g, .string f.nm, .string f.fn, .int .i64 f.ar, .slice ai it.len ci, .string f.bs, .int .i64 f.n] 24 (0, 0))).move (Ch.grown hgrow (C := fun k => w.heap.size ≤ k) fun k hk => (hown.lt k hk).1) (by refine ⟨?_, ?_, trivial⟩ <;> (simp only [Fq.apart]; first | omega | (intro b h1 h2; omega) | (intro b h1 h2 h3; omega))))
        have hz4 : w1.heap.size ≤ w4.heap.size := by have := hgrow.size; rw [World.size_alloc] at this; omega
        clear hown hown' hgrow hnew HKI HK HO3 HF1
        go_wp2_with fail
        refine (eat_m R s1 _ b1 _ (HW4.out.blk 0 rfl)).mono ?_
        rintro e w5 ⟨rfl, hr, ho⟩
        have HO5 := Lib.hid (HO4.out.ch ho fun b h1 h2 => by omega)
        have hz5 : w4.heap.size ≤ w5.heap.size := ho.size
        cases hc : (!b1 && hp s1 [44]) with
        | false =>
          have HW5 := Lib.hid (HW4.out.call 0 ho hr (by refine ⟨?_, trivial⟩ <;> (simp only [Fq.apart]; first | omega | (intro b h1 h2; omega) | (intro b h1 h2 h3; omega))))
          have hc' : (!b1 && hp s1 (bl ⟨#[44]⟩)) = false := hc
          rw [hc'] at HW5 ⊢
          have HC := Lib.hid hc
          clear ho hr hc hc' HW4 HO4
          go_wp2_with fail
          go_ret
          refine ⟨_, _, s1, b1, rfl, HO5.out, by rw [TL.len_app]; simp only [TL.len]; omega, HW5.out.blk 0 rfl, HW5.out.base 1 rfl, by omega, (fun h => by rw [HBad.out] at h; cases h), fun h => ?_⟩
          cases b1 with
          | true => exact HST.out.none HRes.out h
          | false => exact HST.out.stop HRes.out (by simpa using HC.out) h
        | true =>
          have hb1 : b1 = false := by cases b1 <;> simp_all
          subst hb1
          have HW5 := Lib.hid (HW4.out.call 0 ho hr (by refine ⟨?_, trivial⟩ <;> (simp only [Fq.apart]; first | omega | (intro b h1 h2; omega) | (intro b h1 h2 h3; omega))))
          have hc' : (!false && hp s1 (bl ⟨#[44]⟩)) = true := hc
          rw [hc'] at HW5 ⊢
          have hc2 : hp s1 [44] = true := by simpa using hc
          have hl44 := hp_len hc2
          simp only [List.length_cons, List.length_nil] at hl44
          have HI2 := Lib.hid (HST.out.next HRes.out hc2 hsl)
          clear ho hr hc hc' hc2 HW4 HO4
          go_wp2_with fail
          go_roundw
          case rel => exact ⟨_, s1.drop 1, false, by rw [TL.len_app, List.length_drop]; simp only [TL.len]; omega, HI2, HW5, HO5, by omega⟩
          case measure => rw [hlen, leftLen_r (s := s1.drop 1) (b := false) (HW5.out.blk 0 rfl), List.length_drop]; omega
  | cons a t =>
    have hin := Lib.hid fun W => (in_any a es hes W).mono fun e w' h => (show e = .returned (.bool false) ∧ w' = W by rw [hno a t rfl] at h; exact h)
    have hn0 : (a :: t).length ≤ n := by omega
    have hn1 : n ≤ (a :: t).length := by omega
    clear hn
    have h00 : 0 < (ba (a :: t)).size := by rw [s1]; simp
    have hX : (ba (a :: t))[0]'h00 = a := rfl
    have x0 : (0 : Int) < ((ba (a :: t)).size : Int) := by omega
    go_wp2_with fail
    refine (hin.out _).mono ?_
    rintro e w0 ⟨rfl, hw0⟩
    rw [hw0]
    clear hw0
    go_wp2_with fail
    go_loopw [5] (fun v wr => ∃ (acc : TL) (s : List UInt8) (b : Bool), acc.len + s.length ≤ n ∧ Hid (ItR (pTerm false j d) bad res acc s b) ∧ Hid (Bq wr [.blk R #[.string (ba (s)), .bool (b)] 60, .base (fun b => b = R) w]) ∧ Hid (OwnT w.heap.size v acc wr) ∧ w.heap.size ≤ wr.heap.size) (fun _ wr => leftLen R wr)
    case atStart => exact ⟨.nil, _, bad, by simp only [TL.len]; omega, HIt, HF, Lib.hid (OwnT.nil _ _), Nat.le_refl _⟩
    case round =>
      obtain ⟨acc, s, b, hal, HST, HW, HO, hzr⟩ := hrel
      have hlen := leftLen_r (HW.out.blk 0 rfl)
      have k1 := cells_of (HW.out.blk 0 rfl) 1
      cases b with
      | true =>
        go_wp2_with fail
        go_ret
        exact ⟨acc, _, s, true, rfl, HO.out, by omega, HW.out.blk 0 rfl, HW.out.base 1 rfl, by omega, fun _ => rfl, fun h => by have := HST.out.2 h; simpa using this⟩
      | false =>
        have hbad : bad = false := by
          cases hb : bad with
          | false => rfl
          | true => exact absurd (HST.out.1 hb) (by decide)
        have HBad := Lib.hid hbad
        clear hbad
        go_wp2_with fail
        refine (HT.out R s false _ (HW.out.blk 0 rfl) (by omega)).mono ?_
        rintro e w1 ⟨f, it, ai, ci, s1, b1, rfl, hrd, hr, ho, hsl, -, hres⟩
        have HRes := Lib.hid (hres rfl)
        have HF1 := Lib.hid (HW.out.call 0 ho hr (by refine ⟨?_, trivial⟩ <;> (simp only [Fq.apart]; first | omega | (intro b h1 h2; omega) | (intro b h1 h2 h3; omega))))
        have hz1 : wr.heap.size ≤ w1.heap.size := ho.size
        have HK := Lib.hid (kids_new HO.out hrd (by omega) (.cells #[.int .i64 f.k, .int .i64 f.i, .int .i64 f.g, .string f.nm, .string f.fn, .int .i64 f.ar, .slice ai it.len ci, .string f.bs, .int .i64 f.n] 24 (0, 0)))
        have HO3 := Lib.hid ((HO.out.ch ho fun b h1 h2 => by omega).alloc (.cells #[.int .i64 f.k, .int .i64 f.i, .int .i64 f.g, .string f.nm, .string f.fn, .int .i64 f.ar, .slice ai it.len ci, .string f.bs, .int .i64 f.n] 24 (0, 0)))
        clear ho hr hrd hres HW HO k1
        obtain ⟨xs, hown, hkids⟩ := HO3.out
        have HKI := Lib.hid hkids
        clear hkids
        go_wp2_with (at_builtin; refine wpList_app rfl (.tmp 26) (.tmp 29) rfl w.heap.size (by rw [World.size_alloc]; omega) _ acc.len xs rfl hown w1.heap.size [.int .i64 f.k, .int .i64 f.i, .int .i64 f.g, .string f.nm, .string f.fn, .int .i64 f.ar, .slice ai it.len ci, .string f.bs, .int .i64 f.n] rfl (heap_alloc_new _ _) rfl (cells_one f ai it.len ci) (by omega) ?_)
        intro v' w4 hown' hgrow hnew
        have HO4 := Lib.hid (OwnT.app (f := f) HKI.out HK.out hown' hgrow (by rw [World.size_alloc]; exact hnew))
        have HW4 := Lib.hid ((HF1.out.alloc (.cells #[.int .i64 f.k, .int .i64 f.i, .int .i64 f.g, .string f.nm, .string f.fn, .int .i64 f.ar, .slice ai it.len ci, .string f.bs, .int .i64 f.n] 24 (0, 0))).move (Ch.grown hgrow (C := fun k => w.heap.size ≤ k) fun k hk => (hown.lt k hk).1) (by refine ⟨?_, ?_, trivial⟩ <;> (simp only [Fq.apart]; first | omega | (intro b h1 h2; omega) | (intro b h1 h2 h3; omega))))
        have hz4 : w1.heap.size ≤ w4.heap.size := by have := hgrow.size; rw [World.size_alloc] at this; omega
        clear hown hown' hgrow hnew HKI HK HO3 HF1
        go_wp2_with fail
        refine (eat_m R s1 _ b1 _ (HW4.out.blk 0 rfl)).mono ?_
        rintro e w5 ⟨rfl, hr, ho⟩
        have HO5 := Lib.hid (HO4.out.ch ho fun b h1 h2 => by omega)
        have hz5 : w4.heap.size ≤ w5.heap.size := ho.size
        cases hc : (!b1 && hp s1 [44]) with
        | false =>
          have HW5 := Lib.hid (HW4.out.call 0 ho hr (by refine ⟨?_, trivial⟩ <;> (simp only [Fq.apart]; first | omega | (intro b h1 h2; omega) | (intro b h1 h2 h3; omega))))
          have hc' : (!b1 && hp s1 (bl ⟨#[44]⟩)) = false := hc
          rw [hc'] at HW5 ⊢
          have HC := Lib.hid hc
          clear ho hr hc hc' HW4 HO4
          go_wp2_with fail
          go_ret
          refine ⟨_, _, s1, b1, rfl, HO5.out, by rw [TL.len_app]; simp only [TL.len]; omega, HW5.out.blk 0 rfl, HW5.out.base 1 rfl, by omega, (fun h => by rw [HBad.out] at h; cases h), fun h => ?_⟩
          cases b1 with
          | true => exact HST.out.none HRes.out h
          | false => exact HST.out.stop HRes.out (by simpa using HC.out) h
        | true =>
          have hb1 : b1 = false := by cases b1 <;> simp_all
          subst hb1
          have HW5 := Lib.hid (HW4.out.call 0 ho hr (by refine ⟨?_, trivial⟩ <;> (simp only [Fq.apart]; first | omega | (intro b h1 h2; omega) | (intro b h1 h2 h3; omega))))
          have hc' : (!false && hp s1 (bl ⟨#[44]⟩)) = true := hc
          rw [hc'] at HW5 ⊢
          have hc2 : hp s1 [44] = true := by simpa using hc
          have hl44 := hp_len hc2
          simp only [List.length_cons, List.length_nil] at hl44
          have HI2 := Lib.hid (HST.out.next HRes.out hc2 hsl)
          clear ho hr hc hc' hc2 HW4 HO4
          go_wp2_with fail
          go_roundw
          case rel => exact ⟨_, s1.drop 1, false, by rw [TL.len_app, List.length_drop]; simp only [TL.len]; omega, HI2, HW5, HO5, by omega⟩
          case measure => rw [hlen, leftLen_r (s := s1.drop 1) (b := false) (HW5.out.blk 0 rfl), List.length_drop]; omega
set_option maxRecDepth 100000 in
set_option maxHeartbeats 4000000 in
theorem terms_end (R : Nat) (a : UInt8) (t es : List UInt8) (bad : Bool) (w : World) (hr : Rr R (a :: t) bad w) (hes : es.length ≤ 1000) (hyes : decide (a ∈ es) = true) :
    Calls Tryz.prog 54 #[.pointer (some ⟨R, 0, none⟩), .string (ba es)] w fun e w' => e = .returned (.slice none 0 0) ∧ w' = w := by
  have hin := Lib.hid ((in_any a es hes w).mono fun e w' h => (show e = .returned (.bool true) ∧ w' = w by rw [hyes] at h; exact h))
  have c0 := hr.c0
  have s1 : (ba (a :: t)).size = t.length + 1 := by rw [ba_size]; rfl
  have h00 : 0 < (ba (a :: t)).size := by omega
  have hX : (ba (a :: t))[0]'h00 = a := rfl
  have x0 : (0 : Int) < ((ba (a :: t)).size : Int) := by omega
  clear hr hyes
  go_enter Tryz.func54, Tryz.ntmps54
  go_wp2_with fail
  refine hin.out.mono ?_
  rintro e w0 ⟨rfl, rfl⟩
  go_wp2_with fail
  go_ret
  exact ⟨rfl, rfl⟩
theorem rTerms_any (j d : Nat) (hT : TermCr j d) (R : Nat) (l : List UInt8) (es : ByteArray) (bad : Bool) (w : World) (hr : Rr R l bad w) (hl : l.length < j) (hj : j ≤ 1000000) (hes : (bl es).length ≤ 1000) :
    Calls Tryz.prog 54 #[.pointer (some ⟨R, 0, none⟩), .string es] w (LQ (pList (pTerm false j d) j ((bl es).map fun e => [e]) l) R l bad w) := by
  have hhp : ∀ (a e : UInt8) (t : List UInt8), hp (a :: t) [e] = (e == a) := fun a e t => by unfold hp Lib.hasPrefix; simp [List.isPrefixOf]
  by_cases h : ∃ a t, l = a :: t ∧ decide (a ∈ bl es) = true
  · obtain ⟨a, t, rfl, ha⟩ := h
    refine (terms_end R a t (bl es) bad w hr hes ha).mono ?_
    rintro e w' ⟨rfl, rfl⟩
    refine ⟨.nil, _, a :: t, bad, rfl, OwnT.nil _ _, Nat.zero_le _, hr, Ch.refl _ _, Nat.le_refl _, fun h => h, fun h => ?_⟩
    subst h
    unfold pList
    rw [if_pos]
    · rfl
    · rw [List.any_eq_true]
      exact ⟨[a], List.mem_map.2 ⟨a, by simpa using ha, rfl⟩, by rw [hhp]; simp⟩
  · have hno : ∀ a t, l = a :: t → decide (a ∈ bl es) = false := fun a t e => by
      cases hx : decide (a ∈ bl es) with
      | false => rfl
      | true => exact absurd ⟨a, t, e, hx⟩ h
    have e : pList (pTerm false j d) j ((bl es).map fun e => [e]) l = pItems (pTerm false j d) j l := by
      unfold pList
      rw [if_neg]
      rw [List.any_eq_true]
      rintro ⟨y, hy, hh⟩
      obtain ⟨x, hx, rfl⟩ := List.mem_map.1 hy
      cases l with
      | nil => cases hh
      | cons a t =>
        rw [hhp] at hh
        have hxa : x = a := by simpa using hh
        subst hxa
        have := hno x t rfl
        simp at this; exact this hx
    rw [e]
    exact terms_loop j d hT R l (bl es) bad w hr hl hj hes hno
end Go.Proofs.YtgfodedmcjkmaaaGreatDoor
namespace Go.Proofs.YtgfodedmcjkmaaaGreatDoor
open Go.RowKit Go.Proofs.BitsM
theorem pair_no {rd : Rdr} {j : Nat} {l s : List UInt8} {z : TL} {b1 : Bool} (h1 : pList rd j [[93], [124]] l = if b1 then none else some (z, s)) (hc : (!b1 && hp s [124]) = false) :
    pPair false rd j l = if mB b1 s [93] then none else some (kF 9, z.app (.cons (kF 8) .nil .nil), mL b1 s [93]) := by
  unfold pPair
  rw [h1]
  cases b1 with
  | true => rfl
  | false =>
    have hs : hp s [124] = false := by simpa using hc
    simp only [Bool.false_eq_true, if_false, Option.bind_some]
    unfold pTail
    simp only [hs, Bool.false_eq_true, if_false, Option.bind_some]
    rw [m_false]
    cases mB false s [93] <;> rfl
theorem pair_yes {rd : Rdr} {j : Nat} {l s s2 : List UInt8} {z it : TL} {f : Fd} {b2 : Bool} (h1 : pList rd j [[93], [124]] l = some (z, s)) (hc : hp s [124] = true) (h2 : rd (s.drop 1) = if b2 then none else some (f, it, s2)) :
    pPair false rd j l = if mB b2 s2 [93] then none else some (kF 9, z.app (.cons f it .nil), mL b2 s2 [93]) := by
  unfold pPair
  rw [h1, Option.bind_some]
  unfold pTail
  simp only [hc, if_true, h2]
  cases b2 with
  | true => simp [mB_true]
  | false =>
    simp only [Bool.false_eq_true, if_false, Option.bind_some, Bool.false_and]
    rw [m_false]
    cases mB false s2 [93] <;> rfl
set_option maxRecDepth 100000 in
set_option maxHeartbeats 8000000 in
theorem rPair_any (j d : Nat) (hT : TermCr j d) (R : Nat) (l : List UInt8) (bad : Bool) (w : World) (hr : Rr R l bad w) (hl : l.length < j) (hj : j ≤ 1000000) :
    Calls Tryz.prog 53 #[.pointer (some ⟨R, 0, none⟩)] w (TQ (pPair false (pTerm false j d) j l) R l bad w) := by
  have HT := Lib.hid hT
  clear hT
  have hRw : R < w.heap.size := lt_of_block hr
  have HF0 := Lib.hid (show Bq w [.blk R #[.string (ba (l)), .bool (bad)] 60, .base (fun b => b = R) w] from ⟨hr, Ch.refl _ _, trivial⟩)
  clear hr
  go_enter Tryz.func53, Tryz.ntmps53
  go_wp2_with fail
  have HF1 := Lib.hid (HF0.out.box #[.int .i64 0, .int .i64 0, .int .i64 0, .string ⟨#[]⟩, .string ⟨#[]⟩, .int .i64 0, .slice none 0 0, .string ⟨#[]⟩, .int .i64 0] 24 (n := w.heap.size) (by rfl))
  clear HF0
  refine (rTerms_any j d HT.out R l _ bad _ (HF1.out.blk 1 rfl) hl hj (by decide)).mono ?_
  rintro e w1 ⟨z, v, s, b1, rfl, hot, hzl, hr, ho, hsl, hbb, hres⟩
  have HT1 := Lib.hid hot
  have HRes := Lib.hid (show bad = false → pList (pTerm false j d) j [[93], [124]] l = if b1 then none else some (z, s) from hres)
  have HBB := Lib.hid hbb
  clear hot hres hbb
  have HF9 := Lib.hid (HF1.out.call 1 ho hr (by refine ⟨?_, ?_, trivial⟩ <;> (simp only [Fq.apart]; first | omega | (intro b h1 h2; omega) | (intro b h1 h2 h3; omega))))
  have hz1 : w.heap.size + 1 ≤ w1.heap.size := by have := ho.size; simp at this; omega
  clear HF1 ho hr
  obtain ⟨A, hA⟩ : ∃ A, A = w.heap.size + 1 := ⟨_, rfl⟩
  have HT1 := Lib.hid (show OwnT A v z w1 from by rw [hA]; have := HT1.out; simpa using this)
  have hAge : w.heap.size + 1 ≤ A := by omega
  have hAle : A ≤ w1.heap.size := by omega
  clear hA
  have HT2 := Lib.hid HT1.out.toB
  clear HT1
  go_wp2_with fail
  have HT2a := Lib.hid (HT2.out.alloc (.cells #[.int .i64 8, .int .i64 0, .int .i64 0, .string ⟨#[]⟩, .string ⟨#[]⟩, .int .i64 0, .slice none 0 0, .string ⟨#[]⟩, .int .i64 0] 24 (0, 0)))
  clear HT2
  have HF10 := Lib.hid (HF9.out.box #[.int .i64 8, .int .i64 0, .int .i64 0, .string ⟨#[]⟩, .string ⟨#[]⟩, .int .i64 0, .slice none 0 0, .string ⟨#[]⟩, .int .i64 0] 24 (n := w1.heap.size) (by rfl))
  clear HF9
  refine (eat_m R s ⟨#[124]⟩ b1 _ (HF10.out.blk 1 rfl)).mono ?_
  rintro e w2 ⟨rfl, hr, ho⟩
  have HF11 := Lib.hid (HF10.out.call 1 ho hr (by refine ⟨?_, ?_, ?_, trivial⟩ <;> (simp only [Fq.apart]; first | omega | (intro b h1 h2; omega) | (intro b h1 h2 h3; omega))))
  have hz2 : w1.heap.size + 1 ≤ w2.heap.size := by have := ho.size; first | omega | (simp at this; omega)
  have HT2 := Lib.hid (HT2a.out.ch ho fun b h1 h2 => by omega)
  clear HT2a
  clear HF10 ho hr 
  cases hc : (!b1 && hp s (bl ⟨#[124]⟩)) with
  | false =>
    rw [hc] at HF11
    have HC := Lib.hid hc
    clear hc
    have HF11 := Lib.hid (show Bq w2 [.blk R #[.string (ba (s)), .bool (b1)] 60, .blk (w1.heap.size) #[.int .i64 8, .int .i64 0, .int .i64 0, .string ⟨#[]⟩, .string ⟨#[]⟩, .int .i64 0, .slice none 0 0, .string ⟨#[]⟩, .int .i64 0] 24, .blk (w.heap.size) #[.int .i64 0, .int .i64 0, .int .i64 0, .string ⟨#[]⟩, .string ⟨#[]⟩, .int .i64 0, .slice none 0 0, .string ⟨#[]⟩, .int .i64 0] 24, .base (fun b => b = R) w] from HF11.out)
    go_wp2_with fail
    refine (rMust_m R s ⟨#[93]⟩ b1 _ (HF11.out.blk 0 rfl)).mono ?_
    rintro e w3 ⟨rfl, hr, ho⟩
    have HF12 := Lib.hid (HF11.out.call 0 ho hr (by refine ⟨?_, ?_, ?_, trivial⟩ <;> (simp only [Fq.apart]; first | omega | (intro b h1 h2; omega) | (intro b h1 h2 h3; omega))))
    have hz3 : w2.heap.size ≤ w3.heap.size := by have := ho.size; first | omega | (simp at this; omega)
    have HT3 := Lib.hid (HT2.out.ch ho fun b h1 h2 => by omega)
    clear HT2
    clear HF11 ho hr 
    obtain ⟨c0, c1, c2, c3, c4, c5, c6, c7, c8, -⟩ := nine_cells (HF12.out.blk 1 rfl)
    have HQ := Lib.hid (show Bq w3 [.blk R #[.string (ba (mL b1 s [93])), .bool (mB b1 s [93])] 60, .base (fun b => b = R) w, .blk (w.heap.size) #[.int .i64 0, .int .i64 0, .int .i64 0, .string ⟨#[]⟩, .string ⟨#[]⟩, .int .i64 0, .slice none 0 0, .string ⟨#[]⟩, .int .i64 0] 24] from ⟨(HF12.out.get 0 rfl), (HF12.out.base 3 rfl), (HF12.out.get 2 rfl), trivial⟩)
    obtain ⟨xs, hown, hkids⟩ := (HT3.out.alloc (.cells #[.int .i64 8, .int .i64 0, .int .i64 0, .string ⟨#[]⟩, .string ⟨#[]⟩, .int .i64 0, .slice none 0 0, .string ⟨#[]⟩, .int .i64 0] 24 (0, 0))).toT
    have HKI := Lib.hid hkids
    clear hkids
    have HKN := Lib.hid (show RdXS (w3.alloc (.cells #[.int .i64 8, .int .i64 0, .int .i64 0, .string ⟨#[]⟩, .string ⟨#[]⟩, .int .i64 0, .slice none 0 0, .string ⟨#[]⟩, .int .i64 0] 24 (0, 0))) (Kids A v (w3.alloc (.cells #[.int .i64 8, .int .i64 0, .int .i64 0, .string ⟨#[]⟩, .string ⟨#[]⟩, .int .i64 0, .slice none 0 0, .string ⟨#[]⟩, .int .i64 0] 24 (0, 0)))) .nil (.slice none 0 0) from RdXS.nil _ _)
    go_wp2_with (at_builtin; refine wpList_app rfl (.tmp 14) (.tmp 16) rfl A (by rw [World.size_alloc]; omega) _ z.len xs rfl hown w3.heap.size [.int .i64 8, .int .i64 0, .int .i64 0, .string ⟨#[]⟩, .string ⟨#[]⟩, .int .i64 0, .slice none 0 0, .string ⟨#[]⟩, .int .i64 0] rfl (heap_alloc_new _ _) rfl (cells_one (kF 8) _ _ _) (by omega) ?_)
    intro v' w8 hown' hgrow hnew
    have HT8 := Lib.hid (OwnT.app (f := (kF 8)) HKI.out HKN.out hown' hgrow (by rw [World.size_alloc]; exact hnew))
    have HW8 := Lib.hid ((HQ.out.alloc (.cells #[.int .i64 8, .int .i64 0, .int .i64 0, .string ⟨#[]⟩, .string ⟨#[]⟩, .int .i64 0, .slice none 0 0, .string ⟨#[]⟩, .int .i64 0] 24 (0, 0))).move (Ch.grown hgrow (C := fun k => A ≤ k) fun k hk => (hown.lt k hk).1) (by refine ⟨?_, ?_, ?_, trivial⟩ <;> (simp only [Fq.apart]; first | omega | (intro b h1 h2; omega) | (intro b h1 h2 h3; omega))))
    have hz8 : w3.heap.size ≤ w8.heap.size := by have := hgrow.size; rw [World.size_alloc] at this; omega
    clear hown hown' hgrow hnew HKI HKN HT3 c0 c1 c2 c3 c4 c5 c6 c7 c8
    obtain ⟨ao, ca, rfl⟩ := HT8.out.rds.slice
    obtain ⟨d0, d1, d2, d3, d4, d5, d6, d7, d8, fs⟩ := nine_cells (HW8.out.blk 2 rfl)
    go_wp2_with fail
    have HF13 := Lib.hid (HW8.out.put 2 rfl (by refine ⟨?_, ?_, trivial⟩ <;> (simp only [Fq.apart]; first | omega | (intro b h1 h2; omega) | (intro b h1 h2 h3; omega))) (.int .i64 9) (.int .i64 0) (.int .i64 0) (.string ⟨#[]⟩) (.string ⟨#[]⟩) (.int .i64 0) (.slice ao (z.app (.cons (kF 8) .nil .nil)).len ca) (.string ⟨#[]⟩) (.int .i64 0))
    clear HW8
    have ho9 := outs_nine w8 w.heap.size (.int .i64 9) (.int .i64 0) (.int .i64 0) (.string ⟨#[]⟩) (.string ⟨#[]⟩) (.int .i64 0) (.slice ao (z.app (.cons (kF 8) .nil .nil)).len ca) (.string ⟨#[]⟩) (.int .i64 0)
    have HT9 := Lib.hid (HT8.out.ch (C := fun b => b = w.heap.size) ⟨ho9.os, ho9.tape, ho9.output, ho9.size, fun j hj hc => ho9.block j hj (by omega)⟩ fun b h1 h2 => by omega)
    clear ho9
    refine bodyPost_ret (results_one rfl _ _ _ _ _ _ _ _ _ _ _ _ rfl (HF13.out.blk 0 rfl)) rfl ?_
    refine ⟨kF 9, z.app (.cons (kF 8) .nil .nil), ao, ca, mL b1 s [93], mB b1 s [93], rfl, HT9.out.rds.less (by omega), (HF13.out.blk 1 rfl), (HF13.out.base 2 rfl), Nat.le_trans (mL_len _ _ _) hsl, (fun h => by rw [HBB.out h]; rfl), fun h => pair_no (HRes.out h) HC.out⟩
  | true =>
    have hb1 : b1 = false := by cases b1 <;> simp_all
    subst hb1
    rw [hc] at HF11
    have HC := Lib.hid (show hp s [124] = true from (Bool.and_eq_true _ _ ▸ hc : _ ∧ _).2)
    clear hc
    have hl124 := hp_len HC.out
    simp only [List.length_cons, List.length_nil] at hl124
    have HF11 := Lib.hid (show Bq w2 [.blk R #[.string (ba (s.drop 1)), .bool (false)] 60, .blk (w1.heap.size) #[.int .i64 8, .int .i64 0, .int .i64 0, .string ⟨#[]⟩, .string ⟨#[]⟩, .int .i64 0, .slice none 0 0, .string ⟨#[]⟩, .int .i64 0] 24, .blk (w.heap.size) #[.int .i64 0, .int .i64 0, .int .i64 0, .string ⟨#[]⟩, .string ⟨#[]⟩, .int .i64 0, .slice none 0 0, .string ⟨#[]⟩, .int .i64 0] 24, .base (fun b => b = R) w] from HF11.out)
    go_wp2_with fail
    have HV := Lib.hid (show ∀ b, v.ownBlock = some b → b < w2.heap.size from fun b hb => by have := HT2.out.lt b hb; omega)
    refine (HT.out R (s.drop 1) false _ (HF11.out.blk 0 rfl) (by rw [List.length_drop]; omega)).mono ?_
    rintro e w3 ⟨f, it, ai, ci, s2, b2, rfl, hrd, hr, ho, hsl2, -, hres2⟩
    have HRD := Lib.hid hrd
    have HRes2 := Lib.hid (hres2 rfl)
    clear hrd hres2
    rw [List.length_drop] at hsl2
    have HF12 := Lib.hid (HF11.out.call 0 ho hr (by refine ⟨?_, ?_, ?_, trivial⟩ <;> (simp only [Fq.apart]; first | omega | (intro b h1 h2; omega) | (intro b h1 h2 h3; omega))))
    have hz3 : w2.heap.size ≤ w3.heap.size := by have := ho.size; first | omega | (simp at this; omega)
    have HT3 := Lib.hid (HT2.out.ch ho fun b h1 h2 => by omega)
    clear HT2
    clear HF11 ho hr 
    have HF13 := Lib.hid (HF12.out.add (f := .rd w2.heap.size w3.heap.size it (.slice ai it.len ci)) ⟨HRD.out, Nat.le_refl _⟩)
    clear HF12
    clear HRD
    obtain ⟨c0, c1, c2, c3, c4, c5, c6, c7, c8, fr⟩ := nine_cells (HF13.out.blk 2 rfl)
    have ho7 := outs_nine w3 (w1.heap.size) (.int .i64 f.k) (.int .i64 f.i) (.int .i64 f.g) (.string f.nm) (.string f.fn) (.int .i64 f.ar) (.slice ai it.len ci) (.string f.bs) (.int .i64 f.n)
    have HT7 := Lib.hid (HT3.out.ch (C := fun b => b = w1.heap.size) ⟨ho7.os, ho7.tape, ho7.output, ho7.size, fun j hj hc => ho7.block j hj (by omega)⟩ fun b h1 h2 => by omega)
    clear ho7
    go_wp2_with fail
    clear HT3 c0 c1 c2 c3 c4 c5 c6 c7 c8 fr
    have HF14 := Lib.hid (HF13.out.put 2 rfl (by refine ⟨?_, ?_, ?_, ?_, trivial⟩ <;> (simp only [Fq.apart]; first | omega | (intro b h1 h2; omega) | (intro b h1 h2 h3; omega))) (.int .i64 f.k) (.int .i64 f.i) (.int .i64 f.g) (.string f.nm) (.string f.fn) (.int .i64 f.ar) (.slice ai it.len ci) (.string f.bs) (.int .i64 f.n))
    clear HF13
    refine (rMust_m R s2 ⟨#[93]⟩ b2 _ (HF14.out.blk 2 rfl)).mono ?_
    rintro e w4 ⟨rfl, hr, ho⟩
    have HF15 := Lib.hid (HF14.out.call 2 ho hr (by refine ⟨?_, ?_, ?_, ?_, trivial⟩ <;> (simp only [Fq.apart]; first | omega | (intro b h1 h2; omega) | (intro b h1 h2 h3; omega))))
    have hz4 : w3.heap.size ≤ w4.heap.size := by have := ho.size; first | omega | (simp at this; omega)
    have HT4 := Lib.hid (HT7.out.ch ho fun b h1 h2 => by omega)
    clear HT7
    clear HF14 ho hr 
    obtain ⟨c0, c1, c2, c3, c4, c5, c6, c7, c8, -⟩ := nine_cells (HF15.out.blk 1 rfl)
    have HQ := Lib.hid (show Bq w4 [.blk R #[.string (ba (mL b2 s2 [93])), .bool (mB b2 s2 [93])] 60, .base (fun b => b = R) w, .blk (w.heap.size) #[.int .i64 0, .int .i64 0, .int .i64 0, .string ⟨#[]⟩, .string ⟨#[]⟩, .int .i64 0, .slice none 0 0, .string ⟨#[]⟩, .int .i64 0] 24] from ⟨(HF15.out.get 0 rfl), (HF15.out.base 4 rfl), (HF15.out.get 3 rfl), trivial⟩)
    obtain ⟨xs, hown, hkids⟩ := (HT4.out.alloc (.cells #[.int .i64 f.k, .int .i64 f.i, .int .i64 f.g, .string f.nm, .string f.fn, .int .i64 f.ar, .slice ai it.len ci, .string f.bs, .int .i64 f.n] 24 (0, 0))).toT
    have HKI := Lib.hid hkids
    clear hkids
    have HKN := Lib.hid (show RdXS (w4.alloc (.cells #[.int .i64 f.k, .int .i64 f.i, .int .i64 f.g, .string f.nm, .string f.fn, .int .i64 f.ar, .slice ai it.len ci, .string f.bs, .int .i64 f.n] 24 (0, 0))) (Kids A v (w4.alloc (.cells #[.int .i64 f.k, .int .i64 f.i, .int .i64 f.g, .string f.nm, .string f.fn, .int .i64 f.ar, .slice ai it.len ci, .string f.bs, .int .i64 f.n] 24 (0, 0)))) it (.slice ai it.len ci) from kids_old HV.out (HF15.out.rd 2 rfl).1 (HF15.out.rd 2 rfl).2 (by omega) (.cells #[.int .i64 f.k, .int .i64 f.i, .int .i64 f.g, .string f.nm, .string f.fn, .int .i64 f.ar, .slice ai it.len ci, .string f.bs, .int .i64 f.n] 24 (0, 0)))
    go_wp2_with (at_builtin; refine wpList_app rfl (.tmp 14) (.tmp 16) rfl A (by rw [World.size_alloc]; omega) _ z.len xs rfl hown w4.heap.size [.int .i64 f.k, .int .i64 f.i, .int .i64 f.g, .string f.nm, .string f.fn, .int .i64 f.ar, .slice ai it.len ci, .string f.bs, .int .i64 f.n] rfl (heap_alloc_new _ _) rfl (cells_one f _ _ _) (by omega) ?_)
    intro v' w8 hown' hgrow hnew
    have HT8 := Lib.hid (OwnT.app (f := f) HKI.out HKN.out hown' hgrow (by rw [World.size_alloc]; exact hnew))
    have HW8 := Lib.hid ((HQ.out.alloc (.cells #[.int .i64 f.k, .int .i64 f.i, .int .i64 f.g, .string f.nm, .string f.fn, .int .i64 f.ar, .slice ai it.len ci, .string f.bs, .int .i64 f.n] 24 (0, 0))).move (Ch.grown hgrow (C := fun k => A ≤ k) fun k hk => (hown.lt k hk).1) (by refine ⟨?_, ?_, ?_, trivial⟩ <;> (simp only [Fq.apart]; first | omega | (intro b h1 h2; omega) | (intro b h1 h2 h3; omega))))
    have hz8 : w4.heap.size ≤ w8.heap.size := by have := hgrow.size; rw [World.size_alloc] at this; omega
    clear hown hown' hgrow hnew HKI HKN HT4 c0 c1 c2 c3 c4 c5 c6 c7 c8
    obtain ⟨ao, ca, rfl⟩ := HT8.out.rds.slice
    obtain ⟨d0, d1, d2, d3, d4, d5, d6, d7, d8, fs⟩ := nine_cells (HW8.out.blk 2 rfl)
    go_wp2_with fail
    have HF16 := Lib.hid (HW8.out.put 2 rfl (by refine ⟨?_, ?_, trivial⟩ <;> (simp only [Fq.apart]; first | omega | (intro b h1 h2; omega) | (intro b h1 h2 h3; omega))) (.int .i64 9) (.int .i64 0) (.int .i64 0) (.string ⟨#[]⟩) (.string ⟨#[]⟩) (.int .i64 0) (.slice ao (z.app (.cons f it .nil)).len ca) (.string ⟨#[]⟩) (.int .i64 0))
    clear HW8
    have ho9 := outs_nine w8 w.heap.size (.int .i64 9) (.int .i64 0) (.int .i64 0) (.string ⟨#[]⟩) (.string ⟨#[]⟩) (.int .i64 0) (.slice ao (z.app (.cons f it .nil)).len ca) (.string ⟨#[]⟩) (.int .i64 0)
    have HT9 := Lib.hid (HT8.out.ch (C := fun b => b = w.heap.size) ⟨ho9.os, ho9.tape, ho9.output, ho9.size, fun j hj hc => ho9.block j hj (by omega)⟩ fun b h1 h2 => by omega)
    clear ho9
    refine bodyPost_ret (results_one rfl _ _ _ _ _ _ _ _ _ _ _ _ rfl (HF16.out.blk 0 rfl)) rfl ?_
    refine ⟨kF 9, z.app (.cons f it .nil), ao, ca, mL b2 s2 [93], mB b2 s2 [93], rfl, HT9.out.rds.less (by omega), (HF16.out.blk 1 rfl), (HF16.out.base 2 rfl), Nat.le_trans (mL_len _ _ _) (by omega), (fun h => absurd (HBB.out h) (by decide)), fun h => pair_yes (HRes.out h) HC.out HRes2.out⟩
end Go.Proofs.YtgfodedmcjkmaaaGreatDoor
namespace Go.Proofs.YtgfodedmcjkmaaaGreatDoor
open Go.RowKit Go.Proofs.BitsM
set_option maxRecDepth 100000 in
set_option maxHeartbeats 8000000 in
theorem rShowRead_of (l : List UInt8) (w : World) (hl : l.length < 1000000) (hT : TermCr (l.length + 1) 0) :
    Calls Tryz.prog 13 #[.string (ba l)] w (ReadPost (readRef l) w) := by
  have HT := Lib.hid hT
  clear hT
  have HF0 := Lib.hid (show Bq w [.base (fun _ => False) w] from ⟨Ch.refl _ _, trivial⟩)
  go_enter Tryz.func13, Tryz.ntmps13
  go_wp2_with fail
  have HF1 := Lib.hid (HF0.out.box #[.int .i64 0, .int .i64 0, .int .i64 0, .string ⟨#[]⟩, .string ⟨#[]⟩, .int .i64 0, .slice none 0 0, .string ⟨#[]⟩, .int .i64 0] 24 (n := w.heap.size) (by rfl))
  clear HF0
  have HF2 := Lib.hid (HF1.out.box #[.string (ba l), .bool false] 60 (n := w.heap.size + 1) (by simp))
  clear HF1
  refine (HT.out _ l false _ (HF2.out.blk 0 rfl) (by omega)).mono ?_
  rintro e w1 ⟨f, it, ai, ci, s, b1, rfl, hrd, hr, ho, hsl, -, hres⟩
  have HRD := Lib.hid hrd
  have HRes := Lib.hid (hres rfl)
  clear hrd hres
  have HF3 := Lib.hid (HF2.out.call 0 ho hr (by refine ⟨?_, ?_, trivial⟩ <;> (simp only [Fq.apart]; first | omega | (intro b h1 h2; omega) | (intro b h1 h2 h3; omega))))
  have hz1 : w.heap.size + 2 ≤ w1.heap.size := by have := ho.size; simp at this; omega
  clear HF2 ho hr
  have HF4 := Lib.hid (HF3.out.add (f := .rd (w.heap.size + 2) w1.heap.size it (.slice ai it.len ci)) ⟨by have := HRD.out; simpa using this, Nat.le_refl _⟩)
  clear HF3
  clear HRD
  go_upto_region 3 with (fail)
  have HF5 := Lib.hid (HF4.out.box #[.int .i64 f.k, .int .i64 f.i, .int .i64 f.g, .string f.nm, .string f.fn, .int .i64 f.ar, .slice ai it.len ci, .string f.bs, .int .i64 f.n] 24 (n := w1.heap.size) (by rfl))
  clear HF4
  generalize hw2 : w1.alloc _ = w2 at HF5 ⊢
  have hz2 : w1.heap.size + 1 = w2.heap.size := by rw [← hw2, World.size_alloc]
  clear hw2
  have hz2 := Lib.hid hz2
  have hb0 : w.heap.size < w2.heap.size := by have := hz2.out; omega
  have hb1 : w1.heap.size < w2.heap.size := by have := hz2.out; omega
  have k0 := cells_of (HF5.out.blk 2 rfl) 0
  have k1 := cells_of (HF5.out.blk 2 rfl) 1
  have k0 : w2.cell? ⟨w.heap.size + 1, 0, none⟩ = some (.string (ba s)) := k0
  have k1 : w2.cell? ⟨w.heap.size + 1, 1, none⟩ = some (.bool b1) := k1
  obtain ⟨c0, c1, c2, c3, c4, c5, c6, c7, c8, -⟩ := nine_cells (HF5.out.blk 0 rfl)
  cases b1 with
  | true =>
    obtain ⟨e0, e1, e2, e3, e4, e5, e6, e7, e8, fs⟩ := nine_cells (HF5.out.blk 3 rfl)
    have HN := Lib.hid (show readRef l = none from by unfold readRef; rw [HRes.out]; rfl)
    go_wp2_with fail
    have HF6 := Lib.hid (HF5.out.put 3 rfl (by refine ⟨?_, ?_, ?_, ?_, trivial⟩ <;> (simp only [Fq.apart]; first | omega | (intro b h1 h2; omega) | (intro b h1 h2 h3; omega))) (.int .i64 0) (.int .i64 0) (.int .i64 0) (.string ⟨#[]⟩) (.string ⟨#[]⟩) (.int .i64 0) (.slice none 0 0) (.string ⟨#[]⟩) (.int .i64 0))
    clear HF5
    rw [HN.out]
    exact bodyPost_ret (results_pair rfl _ _ w.heap.size _ _ _ _ _ _ _ _ _ rfl (HF6.out.blk 0 rfl)) rfl ⟨rfl, (HF6.out.base 4 rfl).below (Nat.le_refl _) fun _ _ h => h⟩
  | false =>
    have HRes := Lib.hid (show pTerm false (l.length + 1) 0 l = some (f, it, s) from HRes.out)
    have htm := Lib.hid (term_tame HRes.out (by omega))
    have HIk := Lib.hid (term_iok _ _ _ _ HRes.out)
    cases hx : s.isEmpty with
    | false =>
      have ht : (ba s).toList.isEmpty = false := by rw [ba_toList]; exact hx
      obtain ⟨e0, e1, e2, e3, e4, e5, e6, e7, e8, fs⟩ := nine_cells (HF5.out.blk 3 rfl)
      have HN := Lib.hid (show readRef l = none from by unfold readRef; rw [HRes.out, Option.bind_some]; simp only [hx]; rfl)
      go_wp2_with fail
      have HF6 := Lib.hid (HF5.out.put 3 rfl (by refine ⟨?_, ?_, ?_, ?_, trivial⟩ <;> (simp only [Fq.apart]; first | omega | (intro b h1 h2; omega) | (intro b h1 h2 h3; omega))) (.int .i64 0) (.int .i64 0) (.int .i64 0) (.string ⟨#[]⟩) (.string ⟨#[]⟩) (.int .i64 0) (.slice none 0 0) (.string ⟨#[]⟩) (.int .i64 0))
      clear HF5
      rw [HN.out]
      exact bodyPost_ret (results_pair rfl _ _ w.heap.size _ _ _ _ _ _ _ _ _ rfl (HF6.out.blk 0 rfl)) rfl ⟨rfl, (HF6.out.base 4 rfl).below (Nat.le_refl _) fun _ _ h => h⟩
    | true =>
      have ht : (ba s).toList.isEmpty = true := by rw [ba_toList]; exact hx
      go_wp2_with fail
      refine (rValid_any f it (.slice ai it.len ci) _ _ _ htm.out (HF5.out.rd 1 rfl).1 (HF5.out.rd 1 rfl).2).mono ?_
      cases hv : validF f it with
      | false =>
        rintro e w3 ⟨rfl, hb⟩
        have HF6 := Lib.hid (HF5.out.below hb)
        clear HF5
        have hz3 := Lib.hid (show w2.heap.size ≤ w3.heap.size from hb.size)
        clear hb c0 c1 c2 c3 c4 c5 c6 c7 c8 k0 k1 hb0 hb1
        have hb0 : w.heap.size < w3.heap.size := by have := hz2.out; have := hz3.out; omega
        have hb1 : w1.heap.size < w3.heap.size := by have := hz2.out; have := hz3.out; omega
        obtain ⟨e0, e1, e2, e3, e4, e5, e6, e7, e8, fs⟩ := nine_cells (HF6.out.blk 3 rfl)
        have HN := Lib.hid (show readRef l = none from by unfold readRef; rw [HRes.out, Option.bind_some]; simp only [hv, Bool.and_false, Bool.false_and]; rfl)
        go_wp2_with fail
        have HF7 := Lib.hid (HF6.out.put 3 rfl (by refine ⟨?_, ?_, ?_, ?_, trivial⟩ <;> (simp only [Fq.apart]; first | omega | (intro b h1 h2; omega) | (intro b h1 h2 h3; omega))) (.int .i64 0) (.int .i64 0) (.int .i64 0) (.string ⟨#[]⟩) (.string ⟨#[]⟩) (.int .i64 0) (.slice none 0 0) (.string ⟨#[]⟩) (.int .i64 0))
        clear HF6
        rw [HN.out]
        exact bodyPost_ret (results_pair rfl _ _ w.heap.size _ _ _ _ _ _ _ _ _ rfl (HF7.out.blk 0 rfl)) rfl ⟨rfl, (HF7.out.base 4 rfl).below (Nat.le_refl _) fun _ _ h => h⟩
      | true =>
        rintro e w3 ⟨rfl, hb⟩
        have HF6 := Lib.hid (HF5.out.below hb)
        clear HF5
        have hz3 := Lib.hid (show w2.heap.size ≤ w3.heap.size from hb.size)
        clear hb c0 c1 c2 c3 c4 c5 c6 c7 c8 k0 k1 hb0 hb1
        have hb0 : w.heap.size < w3.heap.size := by have := hz2.out; have := hz3.out; omega
        have hb1 : w1.heap.size < w3.heap.size := by have := hz2.out; have := hz3.out; omega
        have HV := Lib.hid hv
        clear hv
        obtain ⟨c0, c1, c2, c3, c4, c5, c6, c7, c8, -⟩ := nine_cells (HF6.out.blk 0 rfl)
        go_wp2_with fail
        refine (text_r (it.cnt + 1) f it (.slice ai it.len ci) _ _ _ (by omega) (valid_form HV.out).1 HIk.out.1 HIk.out.2 (by have := textT_len HV.out HIk.out.1 HIk.out.2; omega) (HF6.out.rd 1 rfl).1 (HF6.out.rd 1 rfl).2).mono ?_
        rintro e w4 ⟨rfl, hb⟩
        have HF7 := Lib.hid (HF6.out.below hb)
        clear HF6
        have hz4 := Lib.hid (show w3.heap.size ≤ w4.heap.size from hb.size)
        clear hb c0 c1 c2 c3 c4 c5 c6 c7 c8 hb0 hb1
        have hb0 : w.heap.size < w4.heap.size := by have := hz2.out; have := hz3.out; have := hz4.out; omega
        have hb1 : w1.heap.size < w4.heap.size := by have := hz2.out; have := hz3.out; have := hz4.out; omega
        by_cases he : textT f it = l
        · skip
          have HN := Lib.hid (show readRef l = some (f, it) by unfold readRef; rw [HRes.out, Option.bind_some]; simp only [hx, HV.out, he, decide_true, Bool.and_self, if_true])
          have y : (!(ba (textT f it)).toList == (ba l).toList) = false := by rw [he]; simp
          clear he
          obtain ⟨e0, e1, e2, e3, e4, e5, e6, e7, e8, fs⟩ := nine_cells (HF7.out.blk 3 rfl)
          obtain ⟨c0, c1, c2, c3, c4, c5, c6, c7, c8, -⟩ := nine_cells (HF7.out.blk 0 rfl)
          go_wp2_with fail
          have HF8 := Lib.hid (HF7.out.put 3 rfl (by refine ⟨?_, ?_, ?_, ?_, trivial⟩ <;> (simp only [Fq.apart]; first | omega | (intro b h1 h2; omega) | (intro b h1 h2 h3; omega))) (.int .i64 f.k) (.int .i64 f.i) (.int .i64 f.g) (.string f.nm) (.string f.fn) (.int .i64 f.ar) (.slice ai it.len ci) (.string f.bs) (.int .i64 f.n))
          clear HF7
          rw [HN.out]
          exact bodyPost_ret (results_pair rfl _ _ w.heap.size _ _ _ _ _ _ _ _ _ rfl (HF8.out.blk 0 rfl)) rfl ⟨ai, ci, rfl, ((HF8.out.rd 2 rfl).1.less (by omega)).more (HF8.out.rd 2 rfl).2, (HF8.out.base 4 rfl).below (Nat.le_refl _) fun _ _ h => h⟩
        · skip
          have y : (!(ba (textT f it)).toList == (ba l).toList) = true := by rw [ba_toList, ba_toList]; simpa using he
          have HE := Lib.hid he
          clear he
          obtain ⟨e0, e1, e2, e3, e4, e5, e6, e7, e8, fs⟩ := nine_cells (HF7.out.blk 3 rfl)
          have HN := Lib.hid (show readRef l = none from by unfold readRef; rw [HRes.out, Option.bind_some]; simp [HE.out])
          go_wp2_with fail
          have HF8 := Lib.hid (HF7.out.put 3 rfl (by refine ⟨?_, ?_, ?_, ?_, trivial⟩ <;> (simp only [Fq.apart]; first | omega | (intro b h1 h2; omega) | (intro b h1 h2 h3; omega))) (.int .i64 0) (.int .i64 0) (.int .i64 0) (.string ⟨#[]⟩) (.string ⟨#[]⟩) (.int .i64 0) (.slice none 0 0) (.string ⟨#[]⟩) (.int .i64 0))
          clear HF7
          rw [HN.out]
          exact bodyPost_ret (results_pair rfl _ _ w.heap.size _ _ _ _ _ _ _ _ _ rfl (HF8.out.blk 0 rfl)) rfl ⟨rfl, (HF8.out.base 4 rfl).below (Nat.le_refl _) fun _ _ h => h⟩
end Go.Proofs.YtgfodedmcjkmaaaGreatDoor
