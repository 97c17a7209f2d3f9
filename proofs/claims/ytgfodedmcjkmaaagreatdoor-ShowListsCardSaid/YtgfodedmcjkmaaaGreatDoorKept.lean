/-
  Walks: Kept and KeptList: what was lent is kept as long as nobody turns it.
-/
import Derived.Test.YtgfodedmcjkmaaaGreatDoorLend
import Derived.Test.YtgfodedmcjkmaaaGreatDoorKitSame
import Derived.IntWalk
namespace Go.Proofs.YtgfodedmcjkmaaaGreatDoor
open Go.RowKit
def markF : Fd := ⟨-7, 4711, 0, ⟨#[115, 112, 97, 114, 101]⟩, ⟨#[]⟩, 0, ⟨#[]⟩, 0⟩
/-- a term without items is the same as itself -/
theorem same_bare (f : Fd) (W : World) : Calls Tryz.prog 14 #[.agg #[.int .i64 f.k, .int .i64 f.i, .int .i64 f.g, .string f.nm, .string f.fn, .int .i64 f.ar, .slice none 0 0, .string f.bs, .int .i64 f.n], .agg #[.int .i64 f.k, .int .i64 f.i, .int .i64 f.g, .string f.nm, .string f.fn, .int .i64 f.ar, .slice none 0 0, .string f.bs, .int .i64 f.n]] W fun e w' => e = .returned (.bool true) ∧ Below W.heap.size W w' := by
  have h := (kitSame_all 0).1 f .nil f .nil (f.val (.slice none 0 0)) (f.val (.slice none 0 0)) W 0 0 (Nat.le_refl _) ⟨_, rfl, RdS.nil _ _ _⟩ ⟨_, rfl, RdS.nil _ _ _⟩ (Nat.zero_le _)
  rw [Fd.same_iff.2 rfl, TL.same_nil] at h
  exact h
theorem same_mark (W : World) : Calls Tryz.prog 14 #[.agg #[.int .i64 (-7), .int .i64 4711, .int .i64 0, .string ⟨#[115, 112, 97, 114, 101]⟩, .string ⟨#[]⟩, .int .i64 0, .slice none 0 0, .string ⟨#[]⟩, .int .i64 0], .agg #[.int .i64 (-7), .int .i64 4711, .int .i64 0, .string ⟨#[115, 112, 97, 114, 101]⟩, .string ⟨#[]⟩, .int .i64 0, .slice none 0 0, .string ⟨#[]⟩, .int .i64 0]] W fun e w' => e = .returned (.bool true) ∧ Below W.heap.size W w' := same_bare markF W
theorem KpR.at_ {w : World} {A B A' B' : Nat} : ∀ (l : TL) (xs : List Value) (b o k : Nat) (f : Fd) (it r : TL), KpR w A B A' B' l xs b o → l.drop k = .cons f it r →
    A' ≤ b ∧ b < B' ∧ ∃ iv ao' cap', (∀ j v, (f.cells iv)[j]? = some v → xs[k * 9 + j]? = some v) ∧ (∀ j v, (f.cells (.slice ao' it.len cap'))[j]? = some v → w.cell? ⟨b, o + k * 9 + j, none⟩ = some v) ∧ KpS w A B A' B' it iv (.slice ao' it.len cap')
  | .nil, _, _, _, 0, _, _, _, _, h => by simp [TL.drop] at h
  | .nil, _, _, _, _ + 1, _, _, _, _, h => by simp [TL.drop] at h
  | .cons f' it' r', xs, b, o, 0, f, it, r, h, hd => by
    rw [TL.drop] at hd
    injection hd with e1 e2 e3
    subst e1 e2
    obtain ⟨ha, hb, iv, ao', cap', rest, rfl, hc, hs, -⟩ := KpR.uncons h
    refine ⟨ha, hb, iv, ao', cap', fun j v hj => ?_, fun j v hj => ?_, hs⟩
    · rw [Nat.zero_mul, Nat.zero_add, List.getElem?_append_left (by
        rcases Nat.lt_or_ge j (f'.cells iv).length with h | h
        · exact h
        · rw [List.getElem?_eq_none h] at hj; cases hj)]
      exact hj
    · rw [Nat.zero_mul, Nat.add_zero]; exact hc j v hj
  | .cons f' it' r', xs, b, o, k + 1, f, it, r, h, hd => by
    obtain ⟨_, _, iv2, ao2, cap2, rest, rfl, _, _, hr⟩ := KpR.uncons h
    obtain ⟨ha, hb, iv, ao', cap', h1, h2, h3⟩ := KpR.at_ r' rest b (o + 9) k f it r hr hd
    refine ⟨ha, hb, iv, ao', cap', fun j v hj => ?_, fun j v hj => ?_, h3⟩
    · rw [List.getElem?_append_right (by rw [cells_len]; omega), cells_len, show (k + 1) * 9 + j - 9 = k * 9 + j by omega]
      exact h1 j v hj
    · rw [show o + (k + 1) * 9 + j = o + 9 + k * 9 + j by omega]
      exact h2 j v hj
def KeptC (m : Nat) : Prop := ∀ (f : Fd) (it : TL) (iv iv' : Value) (w : World) (A B A' B' : Nat), it.cnt ≤ m → KpS w A B A' B' it iv iv' → B ≤ w.heap.size → B' ≤ w.heap.size → Calls Tryz.prog 11 #[.agg #[.int .i64 f.k, .int .i64 f.i, .int .i64 f.g, .string f.nm, .string f.fn, .int .i64 f.ar, iv, .string f.bs, .int .i64 f.n], .agg #[.int .i64 f.k, .int .i64 f.i, .int .i64 f.g, .string f.nm, .string f.fn, .int .i64 f.ar, iv', .string f.bs, .int .i64 f.n]] w fun e w' => e = .returned (.bool true) ∧ Below w.heap.size w w'
def KeptsC (m : Nat) : Prop := ∀ (l : TL) (v v' : Value) (w : World) (A B A' B' : Nat), l.cnt ≤ m → KpS w A B A' B' l v v' → B ≤ w.heap.size → B' ≤ w.heap.size → Calls Tryz.prog 18 #[v, v'] w fun e w' => e = .returned (.bool true) ∧ Below w.heap.size w w'
theorem KpS.slices {w : World} {A B A' B' : Nat} {l : TL} {v v' : Value} (h : KpS w A B A' B' l v v') : (∃ ai ci, v = .slice ai l.len ci) ∧ ∃ ai ci, v' = .slice ai l.len ci := by
  refine ⟨h.nws.slice, ?_⟩
  obtain ⟨ao', cap', e, _⟩ := h
  exact ⟨_, _, e⟩
set_option maxHeartbeats 4000000 in
theorem kept_of (m : Nat) (hL : KeptsC m) : KeptC m := by
  intro f it iv iv' w A B A' B' hm hs hB hB'
  have hc := fun W (hb : Below w.heap.size w W) => hL it iv iv' W A B A' B' hm (hs.below hb hB hB') (Nat.le_trans hB hb.size) (Nat.le_trans hB' hb.size)
  obtain ⟨⟨ai, ci, rfl⟩, ai', ci', rfl⟩ := hs.slices
  have HC := Lib.hid hc
  have HS := Lib.hid (same_bare f)
  clear hc hs
  go_enter Tryz.func11, Tryz.ntmps11
  go_wp2_with fail
  go_quiet (fail)
  go_wp2_with fail
  refine (HS.out _).mono ?_
  rintro e w2 ⟨rfl, hb2⟩
  have HB := Lib.hid (show Below w.heap.size w w2 from bstep (by
    repeat (with_reducible refine bset ?_ (by simp) _)
    exact bdrew (balloc (balloc (Below.refl _ _) _) _) _) hb2)
  clear hb2
  go_wp2_with fail
  refine (HC.out _ HB.out).mono ?_
  rintro e w3 ⟨rfl, hb3⟩
  go_wp2_with fail
  go_ret
  exact ⟨rfl, bstep HB.out hb3⟩
set_option maxHeartbeats 8000000 in
theorem kepts_of (m : Nat) (hS : ∀ j, j < m → KeptC j) : KeptsC m := by
  intro l v v' w A B A' B' hm hv hB hB'
  have HV := Lib.hid hv
  have HS := Lib.hid hS
  obtain ⟨ao', cap', rfl, hcap, hmax, h⟩ := hv
  rcases h with ⟨rfl, rfl, rfl⟩ | ⟨a', g, cur, rfl, rfl, ga, gb, hh, hs, hmk, hx, b, o, hbo, hk⟩
  · have hq := fun (w : World) (n c : Nat) => Lib.run_eql_slice_nil (P := Tryz.prog) w 22 24 none n c 0 0 Tryz.underlying22
    clear hS
    go_enter Tryz.func18, Tryz.ntmps18
    go_wp2_with fail
    go_ret
    exact ⟨rfl, Below.refl _ _⟩
  · have HR := Lib.hid hbo
    have HK := Lib.hid hk
    have HH := Lib.hid hh
    have hmx : ∀ j, j < 18 → cur[l.len * 9 + j]? = (markC ++ markC)[j]? := fun j hj => by
      rw [← hmk, List.getElem?_drop]; simp
    have m0 : w.cell? ⟨g, l.len * 9, none⟩ = some (.int .i64 (-7)) := by rw [cells_of hh]; exact (by have h := hmx 0 (by omega); first | exact h | (rw [show l.len * 9 + 0 = l.len * 9 by omega] at h; exact h))
    have m1 : w.cell? ⟨g, l.len * 9 + 1, none⟩ = some (.int .i64 4711) := by rw [cells_of hh]; exact (by have h := hmx 1 (by omega); first | exact h | (rw [show l.len * 9 + 1 = l.len * 9 + 1 by omega] at h; exact h))
    have m2 : w.cell? ⟨g, l.len * 9 + 2, none⟩ = some (.int .i64 0) := by rw [cells_of hh]; exact (by have h := hmx 2 (by omega); first | exact h | (rw [show l.len * 9 + 2 = l.len * 9 + 2 by omega] at h; exact h))
    have m3 : w.cell? ⟨g, l.len * 9 + 3, none⟩ = some (.string ⟨#[115, 112, 97, 114, 101]⟩) := by rw [cells_of hh]; exact (by have h := hmx 3 (by omega); first | exact h | (rw [show l.len * 9 + 3 = l.len * 9 + 3 by omega] at h; exact h))
    have m4 : w.cell? ⟨g, l.len * 9 + 4, none⟩ = some (.string ⟨#[]⟩) := by rw [cells_of hh]; exact (by have h := hmx 4 (by omega); first | exact h | (rw [show l.len * 9 + 4 = l.len * 9 + 4 by omega] at h; exact h))
    have m5 : w.cell? ⟨g, l.len * 9 + 5, none⟩ = some (.int .i64 0) := by rw [cells_of hh]; exact (by have h := hmx 5 (by omega); first | exact h | (rw [show l.len * 9 + 5 = l.len * 9 + 5 by omega] at h; exact h))
    have m6 : w.cell? ⟨g, l.len * 9 + 6, none⟩ = some (.slice none 0 0) := by rw [cells_of hh]; exact (by have h := hmx 6 (by omega); first | exact h | (rw [show l.len * 9 + 6 = l.len * 9 + 6 by omega] at h; exact h))
    have m7 : w.cell? ⟨g, l.len * 9 + 7, none⟩ = some (.string ⟨#[]⟩) := by rw [cells_of hh]; exact (by have h := hmx 7 (by omega); first | exact h | (rw [show l.len * 9 + 7 = l.len * 9 + 7 by omega] at h; exact h))
    have m8 : w.cell? ⟨g, l.len * 9 + 8, none⟩ = some (.int .i64 0) := by rw [cells_of hh]; exact (by have h := hmx 8 (by omega); first | exact h | (rw [show l.len * 9 + 8 = l.len * 9 + 8 by omega] at h; exact h))
    have m9 : w.cell? ⟨g, (l.len + 1) * 9, none⟩ = some (.int .i64 (-7)) := by rw [cells_of hh]; exact (by have h := hmx 9 (by omega); first | exact h | (rw [show l.len * 9 + 9 = (l.len + 1) * 9 by omega] at h; exact h))
    have m10 : w.cell? ⟨g, (l.len + 1) * 9 + 1, none⟩ = some (.int .i64 4711) := by rw [cells_of hh]; exact (by have h := hmx 10 (by omega); first | exact h | (rw [show l.len * 9 + 10 = (l.len + 1) * 9 + 1 by omega] at h; exact h))
    have m11 : w.cell? ⟨g, (l.len + 1) * 9 + 2, none⟩ = some (.int .i64 0) := by rw [cells_of hh]; exact (by have h := hmx 11 (by omega); first | exact h | (rw [show l.len * 9 + 11 = (l.len + 1) * 9 + 2 by omega] at h; exact h))
    have m12 : w.cell? ⟨g, (l.len + 1) * 9 + 3, none⟩ = some (.string ⟨#[115, 112, 97, 114, 101]⟩) := by rw [cells_of hh]; exact (by have h := hmx 12 (by omega); first | exact h | (rw [show l.len * 9 + 12 = (l.len + 1) * 9 + 3 by omega] at h; exact h))
    have m13 : w.cell? ⟨g, (l.len + 1) * 9 + 4, none⟩ = some (.string ⟨#[]⟩) := by rw [cells_of hh]; exact (by have h := hmx 13 (by omega); first | exact h | (rw [show l.len * 9 + 13 = (l.len + 1) * 9 + 4 by omega] at h; exact h))
    have m14 : w.cell? ⟨g, (l.len + 1) * 9 + 5, none⟩ = some (.int .i64 0) := by rw [cells_of hh]; exact (by have h := hmx 14 (by omega); first | exact h | (rw [show l.len * 9 + 14 = (l.len + 1) * 9 + 5 by omega] at h; exact h))
    have m15 : w.cell? ⟨g, (l.len + 1) * 9 + 6, none⟩ = some (.slice none 0 0) := by rw [cells_of hh]; exact (by have h := hmx 15 (by omega); first | exact h | (rw [show l.len * 9 + 15 = (l.len + 1) * 9 + 6 by omega] at h; exact h))
    have m16 : w.cell? ⟨g, (l.len + 1) * 9 + 7, none⟩ = some (.string ⟨#[]⟩) := by rw [cells_of hh]; exact (by have h := hmx 16 (by omega); first | exact h | (rw [show l.len * 9 + 16 = (l.len + 1) * 9 + 7 by omega] at h; exact h))
    have m17 : w.cell? ⟨g, (l.len + 1) * 9 + 8, none⟩ = some (.int .i64 0) := by rw [cells_of hh]; exact (by have h := hmx 17 (by omega); first | exact h | (rw [show l.len * 9 + 17 = (l.len + 1) * 9 + 8 by omega] at h; exact h))
    have HSm := Lib.hid same_mark
    have HMk := Lib.hid mark_any
    have HB0 := Lib.hid (Below.refl w.heap.size w)
    unfold maxLen at hmax hx
    clear hS hbo hk hh hs hmk hmx
    have hq := fun (w : World) (a : Addr) (n c : Nat) => Lib.run_eql_slice_nil (P := Tryz.prog) w 22 24 (some a) n c 0 0 Tryz.underlying22
    go_enter Tryz.func18, Tryz.ntmps18
    have q0 : (0 : Int) ≤ (l.len : Int) := by omega
    have q1 : (l.len : Int) < (l.len : Int) + 2 := by omega
    have q2 : (0 : Int) ≤ (l.len : Int) + 1 := by omega
    have q3 : (l.len : Int) + 1 < (l.len : Int) + 2 := by omega
    go_wp2_with fail
    have q4 : IntKind.i64.wrap ((l.len : Int) + 1) = (l.len : Int) + 1 := IntWalk.i64_in _ (by omega)
    have q5 : ((l.len : Int) + 1).toNat = l.len + 1 := by omega
    go_region_held3 (fun w' => w'.cell? ⟨g, l.len * 9, none⟩ = some (.int .i64 (-7)) ∧ w'.cell? ⟨g, l.len * 9 + 1, none⟩ = some (.int .i64 4711) ∧ w'.cell? ⟨g, l.len * 9 + 2, none⟩ = some (.int .i64 0) ∧ w'.cell? ⟨g, l.len * 9 + 3, none⟩ = some (.string ⟨#[115, 112, 97, 114, 101]⟩) ∧ w'.cell? ⟨g, l.len * 9 + 4, none⟩ = some (.string ⟨#[]⟩) ∧ w'.cell? ⟨g, l.len * 9 + 5, none⟩ = some (.int .i64 0) ∧ w'.cell? ⟨g, l.len * 9 + 6, none⟩ = some (.slice none 0 0) ∧ w'.cell? ⟨g, l.len * 9 + 7, none⟩ = some (.string ⟨#[]⟩) ∧ w'.cell? ⟨g, l.len * 9 + 8, none⟩ = some (.int .i64 0) ∧ w'.cell? ⟨g, (l.len + 1) * 9, none⟩ = some (.int .i64 (-7)) ∧ w'.cell? ⟨g, (l.len + 1) * 9 + 1, none⟩ = some (.int .i64 4711) ∧ w'.cell? ⟨g, (l.len + 1) * 9 + 2, none⟩ = some (.int .i64 0) ∧ w'.cell? ⟨g, (l.len + 1) * 9 + 3, none⟩ = some (.string ⟨#[115, 112, 97, 114, 101]⟩) ∧ w'.cell? ⟨g, (l.len + 1) * 9 + 4, none⟩ = some (.string ⟨#[]⟩) ∧ w'.cell? ⟨g, (l.len + 1) * 9 + 5, none⟩ = some (.int .i64 0) ∧ w'.cell? ⟨g, (l.len + 1) * 9 + 6, none⟩ = some (.slice none 0 0) ∧ w'.cell? ⟨g, (l.len + 1) * 9 + 7, none⟩ = some (.string ⟨#[]⟩) ∧ w'.cell? ⟨g, (l.len + 1) * 9 + 8, none⟩ = some (.int .i64 0))
      (first
        | (exact ⟨m0, m1, m2, m3, m4, m5, m6, m7, m8, m9, m10, m11, m12, m13, m14, m15, m16, m17⟩)
        | (go_split_ands; refine ⟨?_, ?_, ?_, ?_, ?_, ?_, ?_, ?_, ?_, ?_, ?_, ?_, ?_, ?_, ?_, ?_, ?_, ?_⟩ <;> exact below_keep hb1 (by assumption)))
      (first
        | (go_at_call 32; ((with_reducible refine (HMk.out _).mono ?_); rintro e w1 ⟨rfl, hb1⟩); have HB0 := Lib.hid (show Below w.heap.size w w1 by first | exact bstep HB0.out hb1 | exact bstep HB0.out.drew hb1))
        | (go_at_call 14; ((with_reducible refine (HSm.out _).mono ?_); rintro e w1 ⟨rfl, hb1⟩); have HB0 := Lib.hid (show Below w.heap.size w w1 by first | exact bstep HB0.out hb1 | exact bstep HB0.out.drew hb1)))
    clear q4 q5 m0 m1 m2 m3 m4 m5 m6 m7 m8 m9 m10 m11 m12 m13 m14 m15 m16 m17 HSm HMk q0 q1 q2 q3
    have HB1 := HB0
    go_wp2_with fail
    go_loopw [6] (fun i wr => ∃ k : Nat, k ≤ l.len ∧ i = .int .i64 k ∧ Hid (Below w.heap.size w wr)) (fun i _ => l.len - (intOf i).toNat)
    case atStart => exact ⟨0, Nat.zero_le _, rfl, HB1⟩
    case round =>
      obtain ⟨k, hk, rfl, HB⟩ := hrel
      by_cases hlt : k < l.len
      · have hlt' : (k : Int) < (l.len : Int) := by omega
        have r1 : (0 : Int) ≤ (k : Int) := by omega
        obtain ⟨f, it, e1⟩ := TL.drop_at l k hlt
        have e2 := HR.out (by intro e; rw [e] at hlt; simp [TL.len] at hlt)
        subst e2
        obtain ⟨ha, hb, iv, ao', cap', h1, h2, hit⟩ := KpR.at_ l _ b o k f it _ HK.out e1
        have hhw : wr.heap[g]? = some (.cells cur 24 (0, 0)) := (HB.out.block g (by omega)).trans HH.out
        have hcw : ∀ j v, (f.cells iv)[j]? = some v → wr.cell? ⟨g, k * 9 + j, none⟩ = some v := fun j v hj => by
          rw [cells_of hhw]; simpa using h1 j v hj
        have hcd : ∀ j v, (f.cells (.slice ao' it.len cap'))[j]? = some v → wr.cell? ⟨b, o + k * 9 + j, none⟩ = some v := fun j v hj => (below_cells HB.out hB' b _ hb).trans (h2 j v hj)
        have hcnt : it.cnt < m := by
          have h1 := TL.cnt_drop l k
          rw [e1] at h1
          simp only [TL.cnt] at h1
          omega
        have hcall := fun W (hb : Below w.heap.size w W) => HS.out it.cnt hcnt f it iv (.slice ao' it.len cap') W A B A' B' (Nat.le_refl _) (hit.below hb hB hB') (Nat.le_trans hB hb.size) (Nat.le_trans hB' hb.size)
        obtain ⟨⟨ai, ci, rfl⟩, -⟩ := hit.slices
        have HCall := Lib.hid hcall
        have c0 : wr.cell? ⟨g, k * 9, none⟩ = some (.int .i64 f.k) := hcw 0 _ rfl
        have c1 : wr.cell? ⟨g, k * 9 + 1, none⟩ = some (.int .i64 f.i) := hcw 1 _ rfl
        have c2 : wr.cell? ⟨g, k * 9 + 2, none⟩ = some (.int .i64 f.g) := hcw 2 _ rfl
        have c3 : wr.cell? ⟨g, k * 9 + 3, none⟩ = some (.string f.nm) := hcw 3 _ rfl
        have c4 : wr.cell? ⟨g, k * 9 + 4, none⟩ = some (.string f.fn) := hcw 4 _ rfl
        have c5 : wr.cell? ⟨g, k * 9 + 5, none⟩ = some (.int .i64 f.ar) := hcw 5 _ rfl
        have c6 : wr.cell? ⟨g, k * 9 + 6, none⟩ = some (.slice ai it.len ci) := hcw 6 _ rfl
        have c7 : wr.cell? ⟨g, k * 9 + 7, none⟩ = some (.string f.bs) := hcw 7 _ rfl
        have c8 : wr.cell? ⟨g, k * 9 + 8, none⟩ = some (.int .i64 f.n) := hcw 8 _ rfl
        have d0 : wr.cell? ⟨b, o + k * 9, none⟩ = some (.int .i64 f.k) := hcd 0 _ rfl
        have d1 : wr.cell? ⟨b, o + k * 9 + 1, none⟩ = some (.int .i64 f.i) := hcd 1 _ rfl
        have d2 : wr.cell? ⟨b, o + k * 9 + 2, none⟩ = some (.int .i64 f.g) := hcd 2 _ rfl
        have d3 : wr.cell? ⟨b, o + k * 9 + 3, none⟩ = some (.string f.nm) := hcd 3 _ rfl
        have d4 : wr.cell? ⟨b, o + k * 9 + 4, none⟩ = some (.string f.fn) := hcd 4 _ rfl
        have d5 : wr.cell? ⟨b, o + k * 9 + 5, none⟩ = some (.int .i64 f.ar) := hcd 5 _ rfl
        have d6 : wr.cell? ⟨b, o + k * 9 + 6, none⟩ = some (.slice ao' it.len cap') := hcd 6 _ rfl
        have d7 : wr.cell? ⟨b, o + k * 9 + 7, none⟩ = some (.string f.bs) := hcd 7 _ rfl
        have d8 : wr.cell? ⟨b, o + k * 9 + 8, none⟩ = some (.int .i64 f.n) := hcd 8 _ rfl
        clear hcall hcw hcd h1 h2 hit hhw e1
        go_wp2_with fail
        go_region_held3 (fun w' => w'.cell? ⟨g, k * 9, none⟩ = some (.int .i64 f.k) ∧ w'.cell? ⟨g, k * 9 + 1, none⟩ = some (.int .i64 f.i) ∧ w'.cell? ⟨g, k * 9 + 2, none⟩ = some (.int .i64 f.g) ∧ w'.cell? ⟨g, k * 9 + 3, none⟩ = some (.string f.nm) ∧ w'.cell? ⟨g, k * 9 + 4, none⟩ = some (.string f.fn) ∧ w'.cell? ⟨g, k * 9 + 5, none⟩ = some (.int .i64 f.ar) ∧ w'.cell? ⟨g, k * 9 + 6, none⟩ = some (.slice ai it.len ci) ∧ w'.cell? ⟨g, k * 9 + 7, none⟩ = some (.string f.bs) ∧ w'.cell? ⟨g, k * 9 + 8, none⟩ = some (.int .i64 f.n) ∧ w'.cell? ⟨b, o + k * 9, none⟩ = some (.int .i64 f.k) ∧ w'.cell? ⟨b, o + k * 9 + 1, none⟩ = some (.int .i64 f.i) ∧ w'.cell? ⟨b, o + k * 9 + 2, none⟩ = some (.int .i64 f.g) ∧ w'.cell? ⟨b, o + k * 9 + 3, none⟩ = some (.string f.nm) ∧ w'.cell? ⟨b, o + k * 9 + 4, none⟩ = some (.string f.fn) ∧ w'.cell? ⟨b, o + k * 9 + 5, none⟩ = some (.int .i64 f.ar) ∧ w'.cell? ⟨b, o + k * 9 + 6, none⟩ = some (.slice ao' it.len cap') ∧ w'.cell? ⟨b, o + k * 9 + 7, none⟩ = some (.string f.bs) ∧ w'.cell? ⟨b, o + k * 9 + 8, none⟩ = some (.int .i64 f.n))
          (first
            | (exact ⟨c0, c1, c2, c3, c4, c5, c6, c7, c8, d0, d1, d2, d3, d4, d5, d6, d7, d8⟩)
            | (go_split_ands; refine ⟨?_, ?_, ?_, ?_, ?_, ?_, ?_, ?_, ?_, ?_, ?_, ?_, ?_, ?_, ?_, ?_, ?_, ?_⟩ <;> exact below_keep hb1 (by assumption)))
          (first
            | (go_at_call 11; ((with_reducible refine (HCall.out _ ?_).mono ?_); exact HB.out.drew; rintro e w1 ⟨rfl, hb1⟩)))
        have HB2 := Lib.hid (bstep HB.out (hdrew hb1))
        clear hb1 c0 c1 c2 c3 c4 c5 c6 c7 c8 d0 d1 d2 d3 d4 d5 d6 d7 d8
        go_wp2_with fail
        refine ⟨⟨k + 1, by omega, by go_num, HB2⟩, by simp only [intOf]; omega⟩
      · have hlt' : ¬ (k : Int) < (l.len : Int) := by omega
        go_wp2_with fail
        go_ret
        exact ⟨rfl, HB.out⟩
theorem kept_all (m : Nat) : KeptC m ∧ KeptsC m := by
  induction m using Nat.strongRecOn with
  | _ m ih =>
    have h := kepts_of m fun j hj => (ih j hj).1
    exact ⟨kept_of m h, h⟩
end Go.Proofs.YtgfodedmcjkmaaaGreatDoor
