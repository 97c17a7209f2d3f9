/-
  Walks: the reference mailbox: Look, Skip, Put. A region that draws its order, by words on values and a phase of the world, both over ghosts; the first n operations in any order, a forced tail. Walks: the reference mailbox: Put. Walks: the reference mailbox: Take.
-/
import Derived.Test.YtgbaelkoblnlhaaMail
import Derived.Test.YtgbaelkoblnlhaaPCheck
import Derived.Test.YtgbaelkoblnlhaaRegion3
import Derived.Deep.RegionHeld3
import Derived.Maps.AppendAt
namespace Go.Proofs.Ytgbaelkoblnlhaa
open Go.RowKit
theorem RdXL.at_ {w : World} {S : Nat → Prop} : ∀ {l : TL} {xs : List Value} (k : Nat) {f : Fd} {it r : TL}, RdXL w S l xs → l.drop k = .cons f it r →
    ∃ ai ci, (∀ j u, (f.cells (.slice ai it.len ci))[j]? = some u → xs[k * 9 + j]? = some u) ∧ RdXS w S it (.slice ai it.len ci)
  | .nil, _, 0, _, _, _, _, h => by simp [TL.drop] at h
  | .nil, _, _ + 1, _, _, _, _, h => by simp [TL.drop] at h
  | .cons f' it' r', _, 0, f, it, r, ⟨iv, rest, e, hi, _⟩, h => by
    rw [TL.drop] at h
    injection h with e1 e2 e3
    subst e1 e2 e
    obtain ⟨ai, ci, rfl⟩ := hi.slice
    refine ⟨ai, ci, fun j u hj => ?_, hi⟩
    rw [Nat.zero_mul, Nat.zero_add, List.getElem?_append_left (by
      rcases Nat.lt_or_ge j (f'.cells (.slice ai it'.len ci)).length with h | h
      · exact h
      · rw [List.getElem?_eq_none h] at hj; cases hj)]
    exact hj
  | .cons f' it' r', _, k + 1, f, it, r, ⟨iv, rest, e, _, hr⟩, h => by
    subst e
    obtain ⟨ai, ci, h1, h2⟩ := RdXL.at_ k hr h
    refine ⟨ai, ci, fun j u hj => ?_, h2⟩
    rw [List.getElem?_append_right (by rw [cells_len]; omega), cells_len, show (k + 1) * 9 + j - 9 = k * 9 + j by omega]
    exact h1 j u hj
/-- the reference's mailbox -/
structure Rb (w : World) (N : Nat) (T S : Nat → Prop) (R : Nat) (l : TL) (p : Nat) (v : Value) (xs : List Value) : Prop where
  box : w.heap[R]? = some (.cells #[v, .int .i64 p] 62 (0, 0))
  own : w.ownsRow N 24 9 v l.len xs
  rd : RdXL w T l xs
  pos : p ≤ l.len
  inR : S R
  ing : ∀ g, v.ownBlock = some g → S g
  lt : ∀ b, S b → N ≤ b ∧ b < w.heap.size
  ltT : ∀ b, T b → b < N
  leN : N ≤ w.heap.size
theorem own_blk {w : World} {base e size : Nat} {v : Value} {n g : Nat} {xs : List Value} (h : w.ownsRow base e size v n xs) (hg : v.ownBlock = some g) : ∃ cap cur, v = .slice (some ⟨g, 0, none⟩) n cap ∧ w.heap[g]? = some (.cells cur e (0, 0)) := by
  obtain ⟨_, ⟨e, h0⟩ | ⟨g', cap, cur, e, _, hh, _⟩⟩ := h
  · rw [e] at hg; cases hg
  · subst e; injection hg with hg; cases hg; exact ⟨cap, cur, rfl, hh⟩
theorem Rb.ne {w : World} {N : Nat} {T S : Nat → Prop} {R : Nat} {l : TL} {p : Nat} {v : Value} {xs : List Value} (h : Rb w N T S R l p v xs) {g : Nat} (hg : v.ownBlock = some g) : g ≠ R := fun e => by
  obtain ⟨_, cur, _, hh⟩ := own_blk h.own hg
  subst e
  rw [h.box] at hh
  injection hh with hh
  injection hh with _ h2 _
  revert h2; decide
theorem Rb.keep {w : World} {N : Nat} {T S : Nat → Prop} {R : Nat} {l : TL} {p : Nat} {v : Value} {xs : List Value} {w' : World} (h : Rb w N T S R l p v xs) (hz : w.heap.size ≤ w'.heap.size) (hk : ∀ b, S b ∨ T b → w'.heap[b]? = w.heap[b]?) : Rb w' N T S R l p v xs := by
  refine ⟨(hk R (.inl h.inR)).trans h.box, ?_, h.rd.keep2 (fun _ h => h) fun b o hb => cell_eq (hk b (.inr hb)) o, h.pos, h.inR, h.ing, fun b hb => ⟨(h.lt b hb).1, Nat.lt_of_lt_of_le (h.lt b hb).2 hz⟩, h.ltT, Nat.le_trans h.leN hz⟩
  obtain ⟨h1, h2 | ⟨g, cap, cur, e1, hg, hh, r⟩⟩ := h.own
  · exact ⟨h1, .inl h2⟩
  · exact ⟨h1, .inr ⟨g, cap, cur, e1, hg, (hk g (.inl (h.ing g (by rw [e1]; rfl)))).trans hh, r⟩⟩
theorem Rb.below {w : World} {N : Nat} {T S : Nat → Prop} {R : Nat} {l : TL} {p : Nat} {v : Value} {xs : List Value} {w' : World} (h : Rb w N T S R l p v xs) (hb : Below w.heap.size w w') : Rb w' N T S R l p v xs :=
  h.keep hb.size fun b hs => hb.block b (by
    rcases hs with hs | hs
    · exact (h.lt b hs).2
    · have := h.ltT b hs; have := h.leN; omega)
/-- the term at the position -/
theorem Rb.at_ {w : World} {N : Nat} {T S : Nat → Prop} {R : Nat} {l : TL} {p : Nat} {v : Value} {xs : List Value} (h : Rb w N T S R l p v xs) {k : Nat} {f : Fd} {it r : TL} (hd : l.drop k = .cons f it r) : ∃ g cap ai ci, v = .slice (some ⟨g, 0, none⟩) l.len cap ∧ (∀ j u, (f.cells (.slice ai it.len ci))[j]? = some u → w.cell? ⟨g, k * 9 + j, none⟩ = some u) ∧ RdXS w T it (.slice ai it.len ci) := by
  obtain ⟨ai, ci, h1, h2⟩ := h.rd.at_ k hd
  have hl : l.len ≠ 0 := fun e => by
    rw [TL.len_zero e] at hd
    cases k <;> simp [TL.drop] at hd
  have ho := h.own
  obtain ⟨_, ⟨e, h0⟩ | ⟨g, cap, cur, e, _⟩⟩ := ho
  · exact absurd h0 hl
  · subst e
    refine ⟨g, cap, ai, ci, rfl, fun j u hj => ?_, h2⟩
    have h3 := h.own.cells rfl (k * 9 + j) u (h1 j u hj)
    unfold Addr.add at h3
    split at h3
    · rename_i h0; rw [h0]; exact h3
    · simpa using h3
theorem Rb.stepped {w : World} {N : Nat} {T S : Nat → Prop} {R : Nat} {l : TL} {p : Nat} {v : Value} {xs : List Value} (h : Rb w N T S R l p v xs) (hp : p < l.len) : Rb (w.setCell ⟨R, 1, none⟩ (.int .i64 ((p : Int) + 1))) N T S R l (p + 1) v xs := by
  have hz : (w.setCell ⟨R, 1, none⟩ (.int .i64 ((p : Int) + 1))).heap.size = w.heap.size := size_setCell _ _ _
  have ho : ∀ k, k ≠ R → (w.setCell ⟨R, 1, none⟩ (.int .i64 ((p : Int) + 1))).heap[k]? = w.heap[k]? := fun k hk => Below.heap_setCell _ _ _ _ hk
  refine ⟨blk_set (c := [_, _]) h.box 1 _, ?_, h.rd.keep2 (fun _ h => h) fun b o hb => cell_eq (ho b fun e => ?_) o, hp, h.inR, h.ing, fun b hb => by rw [hz]; exact h.lt b hb, h.ltT, by rw [hz]; exact h.leN⟩
  · obtain ⟨h1, h2 | ⟨g, cap, cur, e1, hg, hh, r⟩⟩ := h.own
    · exact ⟨h1, .inl h2⟩
    · exact ⟨h1, .inr ⟨g, cap, cur, e1, hg, (ho g (h.ne (by rw [e1]; rfl))).trans hh, r⟩⟩
  · have := h.ltT b hb; have := (h.lt R h.inR).1; omega
theorem Rb.rewound {w : World} {N : Nat} {T S : Nat → Prop} {R : Nat} {l : TL} {p : Nat} {v : Value} {xs : List Value} (h : Rb w N T S R l p v xs) : Rb (w.setCell ⟨R, 1, none⟩ (.int .i64 0)) N T S R l 0 v xs := by
  have hz : (w.setCell ⟨R, 1, none⟩ (.int .i64 0)).heap.size = w.heap.size := size_setCell _ _ _
  have ho : ∀ k, k ≠ R → (w.setCell ⟨R, 1, none⟩ (.int .i64 0)).heap[k]? = w.heap[k]? := fun k hk => Below.heap_setCell _ _ _ _ hk
  refine ⟨blk_set (c := [_, _]) h.box 1 _, ?_, h.rd.keep2 (fun _ h => h) fun b o hb => cell_eq (ho b fun e => ?_) o, Nat.zero_le _, h.inR, h.ing, fun b hb => by rw [hz]; exact h.lt b hb, h.ltT, by rw [hz]; exact h.leN⟩
  · obtain ⟨h1, h2 | ⟨g, cap, cur, e1, hg, hh, r⟩⟩ := h.own
    · exact ⟨h1, .inl h2⟩
    · exact ⟨h1, .inr ⟨g, cap, cur, e1, hg, (ho g (h.ne (by rw [e1]; rfl))).trans hh, r⟩⟩
  · have := h.ltT b hb; have := (h.lt R h.inR).1; omega
set_option maxRecDepth 100000 in
theorem rLook_no {w : World} {N : Nat} {T S : Nat → Prop} {R : Nat} {l : TL} {v : Value} {xs : List Value} (hR : Rb w N T S R l l.len v xs) : Calls Try.prog 86 #[.pointer (some ⟨R, 0, none⟩)] w fun e w' => e = .returned (.tuple #[.agg #[.int .i64 0, .int .i64 0, .int .i64 0, .string ⟨#[]⟩, .string ⟨#[]⟩, .int .i64 0, .slice none 0 0, .string ⟨#[]⟩, .int .i64 0], .bool false]) ∧ Below w.heap.size w w' := by
  have d0 := cells_of hR.box 0
  have d1 := cells_of hR.box 1
  simp only [List.getElem?_toArray, List.getElem?_cons_succ, List.getElem?_cons_zero] at d0 d1
  obtain ⟨va, vc, rfl⟩ := own_slice hR.own
  clear hR
  go_enter Try.func86, Try.ntmps86
  go_upto_region 1 with (fail)
  have HB := Lib.hid (below_alloc w (.cells #[.int .i64 0, .int .i64 0, .int .i64 0, .string ⟨#[]⟩, .string ⟨#[]⟩, .int .i64 0, .slice none 0 0, .string ⟨#[]⟩, .int .i64 0] 24 (0, 0)))
  have HH := Lib.hid (heap_alloc_new w (.cells #[.int .i64 0, .int .i64 0, .int .i64 0, .string ⟨#[]⟩, .string ⟨#[]⟩, .int .i64 0, .slice none 0 0, .string ⟨#[]⟩, .int .i64 0] 24 (0, 0)))
  obtain ⟨w1, hw1⟩ : ∃ w1, w1 = w.alloc (.cells #[.int .i64 0, .int .i64 0, .int .i64 0, .string ⟨#[]⟩, .string ⟨#[]⟩, .int .i64 0, .slice none 0 0, .string ⟨#[]⟩, .int .i64 0] 24 (0, 0)) := ⟨_, rfl⟩
  rw [← hw1] at HB HH ⊢
  clear hw1
  replace d0 := below_keep HB.out d0
  replace d1 := below_keep HB.out d1
  obtain ⟨g0, g1, g2, g3, g4, g5, g6, g7, g8, fr⟩ := nine_cells HH.out
  go_still (by kernel_rfl)
  go_wp2_with fail
  exact bodyPost_ret (results_pair rfl _ _ w.heap.size _ _ _ _ _ _ _ _ _ rfl (drew_blk (nine_blk HH.out _ _ _ _ _ _ _ _ _))) rfl ⟨rfl, by
    refine Below.drew ?_
    repeat (with_reducible refine bset ?_ (by exact Nat.le_refl _) _)
    exact HB.out⟩
def LookR (T : Nat → Prop) (f : Fd) (it : TL) (w : World) (e : Ending) (w' : World) : Prop := ∃ ai ci, e = .returned (.tuple #[.agg #[.int .i64 f.k, .int .i64 f.i, .int .i64 f.g, .string f.nm, .string f.fn, .int .i64 f.ar, .slice ai it.len ci, .string f.bs, .int .i64 f.n], .bool true]) ∧ RdXS w' T it (.slice ai it.len ci) ∧ Below w.heap.size w w'
set_option maxRecDepth 100000 in
set_option maxHeartbeats 1000000 in
theorem rLook_yes {w : World} {N : Nat} {T S : Nat → Prop} {R : Nat} {l : TL} {p : Nat} {v : Value} {xs : List Value} (hR : Rb w N T S R l p v xs) {f : Fd} {it r : TL} (hd : l.drop p = .cons f it r) (hp : p < l.len) (hb : l.len ≤ 1000000000) : Calls Try.prog 86 #[.pointer (some ⟨R, 0, none⟩)] w (LookR T f it w) := by
  have d0 := cells_of hR.box 0
  have d1 := cells_of hR.box 1
  simp only [List.getElem?_toArray, List.getElem?_cons_succ, List.getElem?_cons_zero] at d0 d1
  obtain ⟨g, cap, ai, ci, rfl, hc, hi⟩ := hR.at_ hd
  have HI := Lib.hid fun w1 (hb1 : Below w.heap.size w w1) => (hi.below hb1 fun b hb => Nat.lt_of_lt_of_le (hR.ltT b hb) hR.leN)
  have c0 : w.cell? ⟨g, p * 9, none⟩ = some _ := hc 0 _ rfl
  have c1 : w.cell? ⟨g, p * 9 + 1, none⟩ = some _ := hc 1 _ rfl
  have c2 : w.cell? ⟨g, p * 9 + 2, none⟩ = some _ := hc 2 _ rfl
  have c3 : w.cell? ⟨g, p * 9 + 3, none⟩ = some _ := hc 3 _ rfl
  have c4 : w.cell? ⟨g, p * 9 + 4, none⟩ = some _ := hc 4 _ rfl
  have c5 : w.cell? ⟨g, p * 9 + 5, none⟩ = some _ := hc 5 _ rfl
  have c6 : w.cell? ⟨g, p * 9 + 6, none⟩ = some _ := hc 6 _ rfl
  have c7 : w.cell? ⟨g, p * 9 + 7, none⟩ = some _ := hc 7 _ rfl
  have c8 : w.cell? ⟨g, p * 9 + 8, none⟩ = some _ := hc 8 _ rfl
  have hp1 : (p : Int) < (l.len : Int) := by omega
  have hp2 : ((p : Int) == (l.len : Int)) = false := by simp; omega
  have hl2 : (l.len : Int) ≤ 1000000000 := by omega
  clear hR hc hi hd
  go_enter Try.func86, Try.ntmps86
  go_upto_region 1 with (fail)
  have HB := Lib.hid (below_alloc w (.cells #[.int .i64 0, .int .i64 0, .int .i64 0, .string ⟨#[]⟩, .string ⟨#[]⟩, .int .i64 0, .slice none 0 0, .string ⟨#[]⟩, .int .i64 0] 24 (0, 0)))
  have HH := Lib.hid (heap_alloc_new w (.cells #[.int .i64 0, .int .i64 0, .int .i64 0, .string ⟨#[]⟩, .string ⟨#[]⟩, .int .i64 0, .slice none 0 0, .string ⟨#[]⟩, .int .i64 0] 24 (0, 0)))
  obtain ⟨w1, hw1⟩ : ∃ w1, w1 = w.alloc (.cells #[.int .i64 0, .int .i64 0, .int .i64 0, .string ⟨#[]⟩, .string ⟨#[]⟩, .int .i64 0, .slice none 0 0, .string ⟨#[]⟩, .int .i64 0] 24 (0, 0)) := ⟨_, rfl⟩
  rw [← hw1] at HB HH ⊢
  clear hw1
  replace d0 := below_keep HB.out d0
  replace d1 := below_keep HB.out d1
  replace c0 := below_keep HB.out c0
  replace c1 := below_keep HB.out c1
  replace c2 := below_keep HB.out c2
  replace c3 := below_keep HB.out c3
  replace c4 := below_keep HB.out c4
  replace c5 := below_keep HB.out c5
  replace c6 := below_keep HB.out c6
  replace c7 := below_keep HB.out c7
  replace c8 := below_keep HB.out c8
  obtain ⟨h0, h1, h2, h3, h4, h5, h6, h7, h8, fr⟩ := nine_cells HH.out
  go_still (by kernel_rfl)
  go_upto_region 3 with (fail)
  obtain ⟨w2, hw2⟩ : ∃ w2, w2 = w1.drew := ⟨_, rfl⟩
  have HB2 := Lib.hid (show Below w1.heap.size w1 w2 by rw [hw2]; exact (Below.refl _ _).drew)
  have HBw := Lib.hid (show Below w.heap.size w w2 by rw [hw2]; exact HB.out.drew)
  change Code.wp Try.prog _ _ _ (World.drew _)
  rw [← hw2]
  clear hw2
  replace HH := Lib.hid (keepB HB2.out HH.out)
  replace d0 := below_keep HB2.out d0
  replace d1 := below_keep HB2.out d1
  replace c0 := below_keep HB2.out c0
  replace c1 := below_keep HB2.out c1
  replace c2 := below_keep HB2.out c2
  replace c3 := below_keep HB2.out c3
  replace c4 := below_keep HB2.out c4
  replace c5 := below_keep HB2.out c5
  replace c6 := below_keep HB2.out c6
  replace c7 := below_keep HB2.out c7
  replace c8 := below_keep HB2.out c8
  clear h0 h1 h2 h3 h4 h5 h6 h7 h8 fr
  obtain ⟨h0, h1, h2, h3, h4, h5, h6, h7, h8, fr⟩ := nine_cells HH.out
  go_still_tail 10, (by kernel_rfl)
  go_wp2_with fail
  refine bodyPost_ret (results_pair rfl _ _ w.heap.size _ _ _ _ _ _ _ _ _ rfl (drew_blk (nine_blk HH.out _ _ _ _ _ _ _ _ _))) rfl ⟨ai, ci, rfl, HI.out _ ?_, ?_⟩
  · refine Below.drew ?_
    repeat (with_reducible refine bset ?_ (by exact Nat.le_refl _) _)
    exact HBw.out
  · refine Below.drew ?_
    repeat (with_reducible refine bset ?_ (by exact Nat.le_refl _) _)
    exact HBw.out
set_option maxRecDepth 100000 in
theorem rSkip_no {w : World} {N : Nat} {T S : Nat → Prop} {R : Nat} {l : TL} {v : Value} {xs : List Value} (hR : Rb w N T S R l l.len v xs) : Calls Try.prog 89 #[.pointer (some ⟨R, 0, none⟩)] w fun e w' => e = .returned (.bool false) ∧ Below w.heap.size w w' := by
  have d0 := cells_of hR.box 0
  have d1 := cells_of hR.box 1
  simp only [List.getElem?_toArray, List.getElem?_cons_succ, List.getElem?_cons_zero] at d0 d1
  obtain ⟨va, vc, rfl⟩ := own_slice hR.own
  clear hR
  go_enter Try.func89, Try.ntmps89
  go_upto_region 1 with (fail)
  go_still (by kernel_rfl)
  go_wp2_with fail
  go_ret
  exact ⟨rfl, (Below.refl _ _).drew⟩
set_option maxRecDepth 100000 in
theorem rSkip_yes {w : World} {N : Nat} {T S : Nat → Prop} {R : Nat} {l : TL} {p : Nat} {v : Value} {xs : List Value} (hR : Rb w N T S R l p v xs) (hp : p < l.len) (hb : l.len ≤ 1000000000) : Calls Try.prog 89 #[.pointer (some ⟨R, 0, none⟩)] w fun e w' => e = .returned (.bool true) ∧ Rb w' N T S R l (p + 1) v xs ∧ OutsS S w w' := by
  have HR := Lib.hid hR
  have d0 := cells_of hR.box 0
  have d1 := cells_of hR.box 1
  simp only [List.getElem?_toArray, List.getElem?_cons_succ, List.getElem?_cons_zero] at d0 d1
  have fr : ∀ k, w.frozen? ⟨R, k, none⟩ = false := fun k => frees_of hR.box k
  have hvs := own_slice hR.own
  obtain ⟨va, vc, hv⟩ := hvs
  subst hv
  have HP := Lib.hid hp
  have hp2 : ((p : Int) == (l.len : Int)) = false := by simp; omega
  have hpi : (p : Int) ≤ 1000000000 := by omega
  clear hR hp hb
  go_enter Try.func89, Try.ntmps89
  go_upto_region 1 with (fail)
  go_still (by kernel_rfl)
  go_upto_region 3 with (fail)
  obtain ⟨w2, hw2⟩ : ∃ w2, w2 = w.drew := ⟨_, rfl⟩
  have HB2 := Lib.hid (show Below w.heap.size w w2 by rw [hw2]; exact (Below.refl _ _).drew)
  replace d0 := below_keep HB2.out d0
  replace d1 := below_keep HB2.out d1
  replace fr : ∀ k, w2.frozen? ⟨R, k, none⟩ = false := fun k => by rw [hw2]; exact fr k
  have HR2 := Lib.hid (HR.out.below HB2.out)
  change Code.wp Try.prog _ _ _ (World.drew _)
  rw [← hw2]
  clear hw2
  go_wp2_with fail
  go_ret
  refine ⟨rfl, HR2.out.stepped HP.out, ?_⟩
  with_reducible refine OutsS.put ?_ HR.out.inR _ _
  exact OutsS.of_below HB2.out
end Go.Proofs.Ytgbaelkoblnlhaa
namespace Go.Proofs.Ytgbaelkoblnlhaa
open Go.RowKit
section
variable {P : Program} {ops : Array Oper} {Q : Exit → Act → World → Prop}
theorem wp_region_ghost {id : Nat} {a0 : Act} {w0 : World} {G : Type} (hm : P.follows .mixedOrders = true) (n : Nat) (dl : List (Option Nat)) (W : G → Nat → Value → Prop) (Ph : G → (Nat → Bool) → World → Prop)
    (hd : downB .any ops = true) (hn : n ≤ ops.size) (hs : sinkB .any ops n = true) (hdist : distB dl n = true) (hfit : fitsB dl n a0.tmps.size = true)
    (h0 : ∃ g, Ph g (fun _ => false) w0.drew)
    (hstep : ∀ i o, i < n → ops[i]? = some o → ∀ f (v : Nat → Value) g w, f i = false → (∀ j, j < n → f j = true → W g j (v j)) → Ph g f w → (∀ e ∈ o.after, Region.binds .any e = true → f e.on = true) →
      ∀ A : Act, (∀ k t, k < n → dl.getD k none = some t → A.tmps[t]? = some (v k)) → (∀ t, freeB dl n t = true → A.tmps[t]? = a0.tmps[t]?) →
      ∀ K' : Act → World → Prop, (∀ x w' g', (∀ j y, j < n → f j = true → W g j y → W g' j y) → W g' i x → Ph g' (upd f i) w' → K' (A.put (dl.getD i none) x) w') →
        if Region.wanted o (yielded ops A.tmps) = true then Oper.wp P o A w K' Q else K' (A.put o.dst undef) w)
    (hend : ∀ f (v : Nat → Value) g w, (∀ k, k < n → f k = true) → (∀ j, j < n → W g j (v j)) → Ph g f w → wpList P ops Q (ops.toList.drop n) (canon (fun k => dl.getD k none) v n a0) w) : (Code.region id ops true).wp P Q a0 w0 := by
  refine wp_region_prefix hm (fun f a w => ∃ v g, a = canon (fun k => dl.getD k none) v n a0 ∧ (∀ j, j < n → f j = true → W g j (v j)) ∧ Ph g f w) n hd hn hs ?_ ?_ ?_
  · obtain ⟨g, hg⟩ := h0
    exact ⟨_, g, (canon_init a0 n).symm, fun _ _ h => by simp at h, hg⟩
  · rintro i o hin ho f a w hfi haft ⟨v, g, rfl, hw, hp⟩ K' hK
    have haft2 : ∀ e ∈ o.after, Region.binds .any e = true → f e.on = true := by
      intro e he hb
      rw [Array.all_eq_true'] at haft
      have := haft e he
      rw [hb] at this
      simpa using this
    refine hstep i o hin ho f v g w hfi hw hp haft2 _ (fun k t hk ht => canon_get a0 (fits_of hfit k t hk ht) n k hk ht (dist_of hdist)) (fun _ ht => canon_out a0 n (free_of ht)) K' fun x w' g' hm' hx hp' => ?_
    rw [canon_put a0 x n i hin (dist_of hdist)]
    refine hK _ _ ⟨updG v i x, g', rfl, fun j hj hfj => ?_, hp'⟩
    by_cases hji : j = i
    · subst hji; rw [updG_at]; exact hx
    · rw [upd_ne _ hji] at hfj
      rw [updG_ne _ _ hji]
      exact hm' j _ hj hfj (hw j hj hfj)
  · rintro f a w hall ⟨v, g, rfl, hw, hp⟩
    exact hend f v g w hall (fun j hj => hw j hj (hall j hj)) hp
end
end Go.Proofs.Ytgbaelkoblnlhaa
namespace Go.Proofs.Ytgbaelkoblnlhaa
open Go.RowKit
/-- an append onto a row that the call owns, at a step of a region that draws -/
theorem step_append_at {o : Oper} {a : Act} {w : World} {K : Act → World → Prop} {Q : Exit → Act → World → Prop} {b : Bool} (hw : b = true) (s x : Operand)
    (ho : o.op = .call { callee := .builtin .append, args := #[s, x], argTypes := #[22, 22] })
    (base : Nat) (v : Value) (n : Nat) (xs : List Value) (hs : a.eval s = v) (hown : w.ownsRow base 24 9 v n xs) (ad : Addr) (m c : Nat) (news : List Value) (hx : a.eval x = .slice (some ad) m c) (hl : news.length = m * 9)
    (hnews : ∀ j u, news[j]? = some u → w.cell? (ad.add j) = some u) (h1 : ∀ u ∈ news, u.oneCell' = true) (hn : n + m ≤ 1000000000000) (hbase : base ≤ w.heap.size)
    (h : ∀ v' w', w'.ownsRow base 24 9 v' (n + m) (xs ++ news) → w.grownBy w' v.ownBlock → (v'.ownBlock = v.ownBlock ∨ v'.ownBlock = some w.heap.size) → K (a.put o.dst v') w') :
    if b = true then o.wp Try.prog a w K Q else K (a.put o.dst undef) w := by
  obtain ⟨i0, hi, hz0, hz1, hz2⟩ := info_parts Try.info24
  obtain ⟨v', w', hr, h2, h3, -, h5⟩ := run_append_own_at (P := Try.prog) w base 22 o.type 24 i0 zeroV 9 112 Try.underlying22 hi hz0 hz1 hz2 rfl (by decide) v n xs hown ad m c news hl hnews h1 (by unfold maxLen; omega) (by omega) hbase
  rw [if_pos hw]
  unfold Oper.wp
  simp only [execOp, ho, resolve, invoke, builtin, Sem.run_bind, Sem.run_pure, Result.andThen_ok, List.map_toArray, List.map_cons, List.map_nil, hs, hx, hr]
  exact h v' w' h2 h3 h5
theorem wpList_nil_of {P : Program} {ops : Array Oper} {K : Act → World → Prop} {Q : Exit → Act → World → Prop} {a : Act} {w : World} (h : K a w) : wpList P ops (Exit.then K Q) [] a w := h
theorem own_some {w : World} {base e size : Nat} {v : Value} {n : Nat} {xs : List Value} (h : w.ownsRow base e size v n xs) (hn : n ≠ 0) : ∃ g cap, v = .slice (some ⟨g, 0, none⟩) n cap := by
  obtain ⟨_, ⟨e, h0⟩ | ⟨g, cap, cur, e, _⟩⟩ := h
  · exact absurd h0 hn
  · exact ⟨g, cap, e⟩
theorem grown_dr {w w2 w3 : World} {o : Obj} {v : Value} {k : Nat} (hg : (w2.alloc o).drew.grownBy w3 v.ownBlock) (hb : Below w.heap.size w w2) (hk : k < w.heap.size) (hn : v.ownBlock ≠ some k) : w3.heap[k]? = w.heap[k]? := by
  have hz := hb.size
  rw [hg.block k (by show k < (w2.alloc o).heap.size; simp; omega) (fun e => hn e.symm), drew_heap, Below.heap_alloc _ _ _ (by omega)]
  exact hb.block k hk
set_option maxHeartbeats 1000000 in
theorem rPut_bad {w : World} {N : Nat} {T S : Nat → Prop} {R : Nat} {l : TL} {p : Nat} {v : Value} {xs : List Value} (hR : Rb w N T S R l p v xs) (f : Fd) (it : TL) (ai : Option Addr) (ci : Nat) (ht : tame f it) (hv : validF f it = false) (hs : RdXS w T it (.slice ai it.len ci)) :
    Calls Try.prog 60 #[.pointer (some ⟨R, 0, none⟩), .agg #[.int .i64 f.k, .int .i64 f.i, .int .i64 f.g, .string f.nm, .string f.fn, .int .i64 f.ar, .slice ai it.len ci, .string f.bs, .int .i64 f.n]] w fun e w' => e = .returned (.int .i64 2) ∧ Below w.heap.size w w' := by
  have HB := Lib.hid (below_alloc w (.cells #[.int .i64 f.k, .int .i64 f.i, .int .i64 f.g, .string f.nm, .string f.fn, .int .i64 f.ar, .slice ai it.len ci, .string f.bs, .int .i64 f.n] 24 (0, 0)))
  have hsr := (hs.rds (A := 0) (B := w.heap.size) fun b hb => ⟨Nat.zero_le _, Nat.lt_of_lt_of_le (hR.ltT b hb) hR.leN⟩)
  have HV := Lib.hid ((rValid_any f it _ (w.alloc (.cells #[.int .i64 f.k, .int .i64 f.i, .int .i64 f.g, .string f.nm, .string f.fn, .int .i64 f.ar, .slice ai it.len ci, .string f.bs, .int .i64 f.n] 24 (0, 0))) 0 w.heap.size ht (hsr.below HB.out (Nat.le_refl _)) (by simp)).mono fun e w' h => (show e = .returned (.bool false) ∧ Below (w.alloc (.cells #[.int .i64 f.k, .int .i64 f.i, .int .i64 f.g, .string f.nm, .string f.fn, .int .i64 f.ar, .slice ai it.len ci, .string f.bs, .int .i64 f.n] 24 (0, 0))).heap.size (w.alloc (.cells #[.int .i64 f.k, .int .i64 f.i, .int .i64 f.g, .string f.nm, .string f.fn, .int .i64 f.ar, .slice ai it.len ci, .string f.bs, .int .i64 f.n] 24 (0, 0))) w' from ⟨h.1.trans (by rw [hv]), h.2⟩))
  clear hR hs hsr hv ht
  go_enter Try.func60, Try.ntmps60
  go_wp2_with fail
  refine HV.out.mono ?_
  rintro e w1 ⟨rfl, hb1⟩
  have HB2 := Lib.hid (bstep HB.out hb1)
  clear hb1
  go_wp2_with fail
  go_ret
  exact ⟨rfl, HB2.out⟩
/-- a row's nine last cells, stored anew -/
theorem own_last {w : World} {base g m cap : Nat} {xs : List Value} {b0 b1 b2 b3 b4 b5 b6 b7 b8 : Value} (h : w.ownsRow base 24 9 (.slice (some ⟨g, 0, none⟩) (m + 1) cap) (m + 1) (xs ++ [b0, b1, b2, b3, b4, b5, b6, b7, b8])) (hx : xs.length = m * 9) (a0 a1 a2 a3 a4 a5 a6 a7 a8 : Value) :
    (((((((((w.setCell ⟨g, m * 9, none⟩ a0).setCell ⟨g, m * 9 + 1, none⟩ a1).setCell ⟨g, m * 9 + 2, none⟩ a2).setCell ⟨g, m * 9 + 3, none⟩ a3).setCell ⟨g, m * 9 + 4, none⟩ a4).setCell ⟨g, m * 9 + 5, none⟩ a5).setCell ⟨g, m * 9 + 6, none⟩ a6).setCell ⟨g, m * 9 + 7, none⟩ a7).setCell ⟨g, m * 9 + 8, none⟩ a8).ownsRow base 24 9 (.slice (some ⟨g, 0, none⟩) (m + 1) cap) (m + 1) (xs ++ [a0, a1, a2, a3, a4, a5, a6, a7, a8]) := by
  have hs := (h.stored (m * 9) a0).1
  have hs := (hs.stored (m * 9 + 1) a1).1
  have hs := (hs.stored (m * 9 + 2) a2).1
  have hs := (hs.stored (m * 9 + 3) a3).1
  have hs := (hs.stored (m * 9 + 4) a4).1
  have hs := (hs.stored (m * 9 + 5) a5).1
  have hs := (hs.stored (m * 9 + 6) a6).1
  have hs := (hs.stored (m * 9 + 7) a7).1
  have hs := (hs.stored (m * 9 + 8) a8).1
  have e : ∀ (k : Nat) (cs : List Value) (u : Value), (xs ++ cs).set (m * 9 + k) u = xs ++ cs.set k u := fun k cs u => by
    rw [List.set_append_right _ _ (by omega), hx, show m * 9 + k - m * 9 = k by omega]
  have e0 : ∀ (cs : List Value) (u : Value), (xs ++ cs).set (m * 9) u = xs ++ cs.set 0 u := fun cs u => e 0 cs u
  simp only [e0, e] at hs
  exact hs
/-- the words of the region of the reference's Put -/
def RpW (R n : Nat) (V F : Value) (g : Nat × Nat × Nat) (i : Nat) (y : Value) : Prop :=
  match i with
  | 0 => y = .pointer (some ⟨R, 0, none⟩)
  | 1 => y = .pointer (some ⟨R, 0, none⟩)
  | 2 => y = .pointer (some ⟨R, 0, none⟩)
  | 3 => y = V
  | 4 => y = F
  | 5 => y = .int .i64 n
  | 6 => y = .slice (some ⟨g.1, 0, none⟩) 1 1
  | 7 => y = .slice (some ⟨g.2.1, 0, none⟩) (n + 1) g.2.2
  | 8 => y = .pointer (some ⟨g.2.1, n * 9, none⟩)
  | 10 => y = .pointer (some ⟨R, 0, none⟩)
  | 11 => y = .pointer (some ⟨R, 0, none⟩)
  | _ => True
def zeros9 : List Value := [.int .i64 0, .int .i64 0, .int .i64 0, .string ⟨#[]⟩, .string ⟨#[]⟩, .int .i64 0, .slice none 0 0, .string ⟨#[]⟩, .int .i64 0]
def RpP (w1 : World) (N : Nat) (S : Nat → Prop) (R n : Nat) (V : Value) (p : Nat) (xs cs : List Value) (g : Nat × Nat × Nat) (f : Nat → Bool) (w : World) : Prop :=
  (f 7 = true → ∀ j, j < 7 → f j = true) ∧ (f 8 = true ∨ f 9 = true ∨ f 12 = true → f 7 = true) ∧
  (f 7 = false → Below w1.heap.size w1 w ∧ (f 6 = true → w.heap[g.1]? = some (.cells zeros9.toArray 24 (0, 0)))) ∧
  (f 7 = true → w.ownsRow N 24 9 (.slice (some ⟨g.2.1, 0, none⟩) (n + 1) g.2.2) (n + 1) (xs ++ if f 9 = true then cs else zeros9) ∧
    w.heap[R]? = some (.cells #[if f 12 = true then .slice (some ⟨g.2.1, 0, none⟩) (n + 1) g.2.2 else V, .int .i64 p] 62 (0, 0)) ∧ OutsS S w1 w ∧ (S g.2.1 ∨ w1.heap.size ≤ g.2.1))
theorem RpP.pure {w1 : World} {N : Nat} {S : Nat → Prop} {R n : Nat} {V : Value} {p : Nat} {xs cs : List Value} {g : Nat × Nat × Nat} {f : Nat → Bool} {w : World} (h : RpP w1 N S R n V p xs cs g f w) {i : Nat} (hi : i < 6 ∨ (8 ≤ i ∧ i ≠ 9 ∧ i ≠ 12 ∧ f 7 = true)) : RpP w1 N S R n V p xs cs g (upd f i) w := by
  have h6 : upd f i 6 = f 6 := upd_ne _ (by omega)
  have h7 : upd f i 7 = f 7 := upd_ne _ (by omega)
  have h9 : upd f i 9 = f 9 := upd_ne _ (by omega)
  have h12 : upd f i 12 = f 12 := upd_ne _ (by omega)
  obtain ⟨a, b, c, d⟩ := h
  unfold RpP
  rw [h6, h7, h9, h12]
  refine ⟨fun e j hj => ?_, fun e => ?_, c, d⟩
  · by_cases hji : j = i
    · subst hji; exact upd_at _ _
    · rw [upd_ne _ hji]; exact a e j hj
  · rcases hi with hi | hi
    · rw [upd_ne _ (by omega)] at e; exact b e
    · exact hi.2.2.2
theorem RpP.init {w1 : World} {N : Nat} {S : Nat → Prop} {R n : Nat} {V : Value} {p : Nat} {xs cs : List Value} : RpP w1 N S R n V p xs cs (0, 0, 0) (fun _ => false) w1.drew :=
  ⟨fun h => by (cases h), fun h => by (rcases h with h | h | h <;> cases h), fun _ => ⟨(Below.refl _ _).drew, fun h => by (cases h)⟩, fun h => by (cases h)⟩
theorem RpP.six {w1 : World} {N : Nat} {S : Nat → Prop} {R n : Nat} {V : Value} {p : Nat} {xs cs : List Value} {z g c : Nat} {f : Nat → Bool} {w : World} (h : RpP w1 N S R n V p xs cs (z, g, c) f w) (h6 : f 6 = false) : RpP w1 N S R n V p xs cs (w.heap.size, g, c) (upd f 6) (w.alloc (.cells zeros9.toArray 24 (0, 0))) := by
  have h7 : f 7 = false := by
    cases e : f 7 with
    | false => rfl
    | true => rw [h.1 e 6 (by decide)] at h6; cases h6
  obtain ⟨_, b, c', _⟩ := h
  refine ⟨fun e => ?_, fun e => ?_, fun _ => ⟨balloc (c' h7).1 _, fun _ => heap_alloc_new _ _⟩, fun e => ?_⟩
  · rw [upd_ne _ (by decide), h7] at e; cases e
  · rw [upd_ne _ (by decide), upd_ne _ (by decide), upd_ne _ (by decide)] at e
    rw [b e] at h7; cases h7
  · rw [upd_ne _ (by decide), h7] at e; cases e
theorem RpP.seven {w1 : World} {N : Nat} {S : Nat → Prop} {R n : Nat} {V : Value} {p : Nat} {xs cs : List Value} {z g' c' : Nat} {f : Nat → Bool} {w w' : World} (hb : Below w1.heap.size w1 w) (hall : ∀ j, j < 7 → f j = true) (h9 : f 9 = false) (h12 : f 12 = false)
    (hown : w'.ownsRow N 24 9 (.slice (some ⟨g', 0, none⟩) (n + 1) c') (n + 1) (xs ++ zeros9)) (hg : w.grownBy w' V.ownBlock) (hat : g' = w.heap.size ∨ V.ownBlock = some g') (hS : ∀ k, V.ownBlock = some k → S k ∧ k ≠ R) (hbx : w1.heap[R]? = some (.cells #[V, .int .i64 p] 62 (0, 0))) : RpP w1 N S R n V p xs cs (z, g', c') (upd f 7) w' := by
  have hz := hb.size
  refine ⟨fun _ j hj => ?_, fun _ => upd_at _ _, fun e => ?_, fun _ => ?_⟩
  · rw [upd_ne _ (by omega)]; exact hall j hj
  · rw [upd_at] at e; cases e
  · rw [upd_ne _ (by decide), upd_ne _ (by decide), h9, h12]
    refine ⟨hown, ?_, ⟨hg.os.trans hb.os, hg.tape.trans hb.tape, hg.output.trans hb.output, Nat.le_trans hz hg.size, fun k hk hn => ?_⟩, ?_⟩
    · exact (hg.block R (Nat.lt_of_lt_of_le (lt_of_block hbx) hz) fun e => (hS R e.symm).2 rfl).trans (keepB hb hbx)
    · exact (hg.block k (by omega) fun e => hn (hS k e.symm).1).trans (hb.block k hk)
    · rcases hat with e | e
      · exact .inr (by rw [e]; exact hz)
      · exact .inl (hS _ e).1
theorem RpP.nine {w1 : World} {N : Nat} {S : Nat → Prop} {R n : Nat} {V : Value} {p : Nat} {xs : List Value} {z g c : Nat} {f : Nat → Bool} {w : World} {a0 a1 a2 a3 a4 a5 a6 a7 a8 : Value} (h : RpP w1 N S R n V p xs [a0, a1, a2, a3, a4, a5, a6, a7, a8] (z, g, c) f w) (h7 : f 7 = true) (h9 : f 9 = false) (hx : xs.length = n * 9) :
    RpP w1 N S R n V p xs [a0, a1, a2, a3, a4, a5, a6, a7, a8] (z, g, c) (upd f 9) (((((((((w.setCell ⟨g, n * 9, none⟩ a0).setCell ⟨g, n * 9 + 1, none⟩ a1).setCell ⟨g, n * 9 + 2, none⟩ a2).setCell ⟨g, n * 9 + 3, none⟩ a3).setCell ⟨g, n * 9 + 4, none⟩ a4).setCell ⟨g, n * 9 + 5, none⟩ a5).setCell ⟨g, n * 9 + 6, none⟩ a6).setCell ⟨g, n * 9 + 7, none⟩ a7).setCell ⟨g, n * 9 + 8, none⟩ a8) := by
  obtain ⟨a, b, _, d⟩ := h
  obtain ⟨d1, d2, d3, d4⟩ := d h7
  rw [h9] at d1
  have hne : R ≠ g := fun e => by
    obtain ⟨_, cur, _, hh⟩ := own_blk d1 rfl
    subst e
    rw [d2] at hh
    injection hh with hh
    injection hh with _ h2 _
    revert h2; decide
  refine ⟨fun e j hj => ?_, fun _ => ?_, fun e => ?_, fun _ => ⟨?_, ?_, ?_, d4⟩⟩
  · rw [upd_ne _ (by omega)]; exact a h7 j hj
  · rw [upd_ne _ (by decide)]; exact h7
  · rw [upd_ne _ (by decide), h7] at e; cases e
  · rw [upd_at]
    exact own_last d1 hx _ _ _ _ _ _ _ _ _
  · rw [upd_ne _ (by decide)]
    repeat (with_reducible refine blk_oth ?_ hne _ _)
    exact d2
  · rcases d4 with d4 | d4
    · repeat (with_reducible refine OutsS.put ?_ d4 _ _)
      exact d3
    · repeat (with_reducible refine OutsS.new ?_ d4 _ _)
      exact d3
theorem RpP.twelve {w1 : World} {N : Nat} {S : Nat → Prop} {R n : Nat} {V : Value} {p : Nat} {xs cs : List Value} {z g c : Nat} {f : Nat → Bool} {w : World} (h : RpP w1 N S R n V p xs cs (z, g, c) f w) (h7 : f 7 = true) (hR : S R) :
    RpP w1 N S R n V p xs cs (z, g, c) (upd f 12) (w.setCell ⟨R, 0, none⟩ (.slice (some ⟨g, 0, none⟩) (n + 1) c)) := by
  obtain ⟨a, b, _, d⟩ := h
  obtain ⟨d1, d2, d3, d4⟩ := d h7
  have hne : g ≠ R := fun e => by
    obtain ⟨_, cur, _, hh⟩ := own_blk d1 rfl
    subst e
    rw [d2] at hh
    injection hh with hh
    injection hh with _ h2 _
    revert h2; decide
  refine ⟨fun e j hj => ?_, fun _ => ?_, fun e => ?_, fun _ => ⟨?_, ?_, OutsS.put d3 hR _ _, d4⟩⟩
  · rw [upd_ne _ (by omega)]; exact a h7 j hj
  · rw [upd_ne _ (by decide)]; exact h7
  · rw [upd_ne _ (by decide), h7] at e; cases e
  · rw [upd_ne _ (by decide)]
    obtain ⟨h1, h2 | ⟨g', cap, cur, e1, hg, hh, r⟩⟩ := d1
    · exact ⟨h1, .inl h2⟩
    · refine ⟨h1, .inr ⟨g', cap, cur, e1, hg, ?_, r⟩⟩
      injection e1 with e1 _ _
      injection e1 with e1
      injection e1 with e1 _ _
      subst e1
      exact blk_oth hh hne _ _
  · rw [upd_at, if_pos rfl]
    exact blk_set (c := [_, _]) d2 0 _
theorem RpP.no {w1 : World} {N : Nat} {S : Nat → Prop} {R n : Nat} {V : Value} {p : Nat} {xs cs : List Value} {g : Nat × Nat × Nat} {f : Nat → Bool} {w : World} (h : RpP w1 N S R n V p xs cs g f w) (h7 : f 7 = false) : f 8 = false ∧ f 9 = false ∧ f 12 = false := by
  have hb := h.2.1
  rw [h7] at hb
  refine ⟨?_, ?_, ?_⟩
  · cases e : f 8 with
    | false => rfl
    | true => cases hb (.inl e)
  · cases e : f 9 with
    | false => rfl
    | true => cases hb (.inr (.inl e))
  · cases e : f 12 with
    | false => rfl
    | true => cases hb (.inr (.inr e))
theorem RpW.z {R n : Nat} {V F : Value} {z z' g c : Nat} {j : Nat} {y : Value} (hj : j ≠ 6) (h : RpW R n V F (z, g, c) j y) : RpW R n V F (z', g, c) j y := by
  unfold RpW at h ⊢
  split at h <;> first | exact h | (exact absurd rfl hj) | trivial
theorem RpW.g {R n : Nat} {V F : Value} {z g g' c c' : Nat} {j : Nat} {y : Value} (hj : j ≠ 7 ∧ j ≠ 8) (h : RpW R n V F (z, g, c) j y) : RpW R n V F (z, g', c') j y := by
  unfold RpW at h ⊢
  split at h <;> first | exact h | (exact absurd rfl hj.1) | (exact absurd rfl hj.2) | trivial
theorem own_fz {w : World} {base g n cap : Nat} {xs : List Value} (h : w.ownsRow base 24 9 (.slice (some ⟨g, 0, none⟩) n cap) n xs) (j : Nat) : w.frozen? ⟨g, j, none⟩ = false := by
  obtain ⟨_, cur, _, hh⟩ := own_blk h rfl
  exact frees_of hh j
theorem own_c9 {w : World} {g n : Nat} {xs ys : List Value} (h : ∀ j u, (xs ++ ys)[j]? = some u → w.cell? ((⟨g, 0, none⟩ : Addr).add j) = some u) (hx : xs.length = n * 9) (j : Nat) {u : Value} (hu : ys[j]? = some u) : w.cell? ⟨g, n * 9 + j, none⟩ = some u := by
  have h3 := h (n * 9 + j) u (by rw [List.getElem?_append_right (by omega), hx, show n * 9 + j - n * 9 = j by omega]; exact hu)
  unfold Addr.add at h3
  split at h3
  · rename_i h0; rw [h0]; exact h3
  · simpa using h3
theorem own_bel {w w' : World} {base e size : Nat} {v : Value} {n : Nat} {xs : List Value} (h : w.ownsRow base e size v n xs) (hb : Below w.heap.size w w') : w'.ownsRow base e size v n xs := own_below h hb (Nat.le_refl _)
def Rpd : List (Option Nat) := [some 8, some 9, some 10, some 11, some 12, some 13, some 14, some 15, some 16, none, some 17, some 18, none]
set_option maxRecDepth 100000 in
set_option maxHeartbeats 4000000 in
theorem rPut_ok {w : World} {N : Nat} {T S : Nat → Prop} {R : Nat} {l : TL} {p : Nat} {v : Value} {xs : List Value} (hR : Rb w N T S R l p v xs) (hb : l.len ≤ 1000000000) (f : Fd) (it : TL) (ai : Option Addr) (ci : Nat) (ht : tame f it) (hv : validF f it = true) (hs : RdXS w T it (.slice ai it.len ci)) :
    Calls Try.prog 60 #[.pointer (some ⟨R, 0, none⟩), .agg #[.int .i64 f.k, .int .i64 f.i, .int .i64 f.g, .string f.nm, .string f.fn, .int .i64 f.ar, .slice ai it.len ci, .string f.bs, .int .i64 f.n]] w fun e w' => e = .returned (.int .i64 0) ∧ (∃ v' xs', Rb w' N T (fun b => S b ∨ (w.heap.size ≤ b ∧ b < w'.heap.size)) R (l.app (.cons f it .nil)) p v' xs') ∧ OutsS S w w' := by
  have HB := Lib.hid (below_alloc w (.cells #[.int .i64 f.k, .int .i64 f.i, .int .i64 f.g, .string f.nm, .string f.fn, .int .i64 f.ar, .slice ai it.len ci, .string f.bs, .int .i64 f.n] 24 (0, 0)))
  have hsr := (hs.rds (A := 0) (B := w.heap.size) fun b hb => ⟨Nat.zero_le _, Nat.lt_of_lt_of_le (hR.ltT b hb) hR.leN⟩)
  have HV := Lib.hid ((rValid_any f it _ (w.alloc (.cells #[.int .i64 f.k, .int .i64 f.i, .int .i64 f.g, .string f.nm, .string f.fn, .int .i64 f.ar, .slice ai it.len ci, .string f.bs, .int .i64 f.n] 24 (0, 0))) 0 w.heap.size ht (hsr.below HB.out (Nat.le_refl _)) (by simp)).mono fun e w' h => (show e = .returned (.bool true) ∧ Below (w.alloc (.cells #[.int .i64 f.k, .int .i64 f.i, .int .i64 f.g, .string f.nm, .string f.fn, .int .i64 f.ar, .slice ai it.len ci, .string f.bs, .int .i64 f.n] 24 (0, 0))).heap.size (w.alloc (.cells #[.int .i64 f.k, .int .i64 f.i, .int .i64 f.g, .string f.nm, .string f.fn, .int .i64 f.ar, .slice ai it.len ci, .string f.bs, .int .i64 f.n] 24 (0, 0))) w' from ⟨h.1.trans (by rw [hv]), h.2⟩))
  have HR := Lib.hid hR
  have HI := Lib.hid hs
  have hlb : (l.len : Int) ≤ 1000000000 := by omega
  have hlb2 : l.len ≤ 1000000000 := hb
  have hRw := (hR.lt R hR.inR).2
  have hRN := (hR.lt R hR.inR).1
  obtain ⟨va, vc, hvs⟩ := own_slice hR.own
  subst hvs
  clear hR hs hsr hv ht hb
  go_enter Try.func60, Try.ntmps60
  go_wp2_with fail
  refine HV.out.mono ?_
  rintro e w1 ⟨rfl, hb1⟩
  have HB2 := Lib.hid (bstep HB.out hb1)
  have HH := Lib.hid (keepB hb1 (heap_alloc_new w (.cells #[.int .i64 f.k, .int .i64 f.i, .int .i64 f.g, .string f.nm, .string f.fn, .int .i64 f.ar, .slice ai it.len ci, .string f.bs, .int .i64 f.n] 24 (0, 0))))
  have hz : w.heap.size < w1.heap.size := by have := hb1.size; simp at this; omega
  have HR1 := Lib.hid (HR.out.below HB2.out)
  clear hb1
  go_upto_region 3 with (fail)
  rename_i Kr hKr
  have HKr := Lib.hid hKr
  clear hKr
  refine wp_region_ghost (by kernel_rfl) 13 Rpd (RpW R l.len (.slice va l.len vc) (.agg #[.int .i64 f.k, .int .i64 f.i, .int .i64 f.g, .string f.nm, .string f.fn, .int .i64 f.ar, .slice ai it.len ci, .string f.bs, .int .i64 f.n])) (RpP w1 N S R l.len (.slice va l.len vc) p xs (f.cells (.slice ai it.len ci))) (by kernel_rfl) (by decide) (by kernel_rfl) (by decide) (by rfl) ⟨(0, 0, 0), RpP.init⟩ ?_ ?_
  · intro i o hin ho fl v γ W hfi hw hp haft A hA hZ K' hK
    have HK := Lib.hid hK
    have HW := Lib.hid hw
    have HPh := Lib.hid hp
    have HAf := Lib.hid haft
    have HA := Lib.hid hA
    have HZ := Lib.hid hZ
    clear hK hw hp haft hA hZ
    obtain ⟨z, g, c⟩ := γ
    match i, hin, ho with
    | 0, _, ho =>
      have z0 : A.tmps[0]? = some (.pointer (some ⟨R, 0, none⟩)) := HZ.out 0 (by decide)
      clear HAf HA HZ HW
      cases ho
      go_simp
      exact HK.out (.pointer (some ⟨R, 0, none⟩)) W (z, g, c) (fun _ _ _ _ h => h) rfl (HPh.out.pure (.inl (by decide)))
    | 1, _, ho =>
      have f0 : fl 0 = true := by cases ho; exact HAf.out ⟨0, .data⟩ (by simp) rfl
      have s0 : A.tmps[8]? = some (.pointer (some ⟨R, 0, none⟩)) := (HA.out 0 8 (by decide) rfl).trans (congrArg some (HW.out 0 (by decide) f0))
      clear HAf HA HZ HW
      cases ho
      go_simp
      exact HK.out (.pointer (some ⟨R, 0, none⟩)) W (z, g, c) (fun _ _ _ _ h => h) rfl (HPh.out.pure (.inl (by decide)))
    | 2, _, ho =>
      have f1 : fl 1 = true := by cases ho; exact HAf.out ⟨1, .data⟩ (by simp) rfl
      have s1 : A.tmps[9]? = some (.pointer (some ⟨R, 0, none⟩)) := (HA.out 1 9 (by decide) rfl).trans (congrArg some (HW.out 1 (by decide) f1))
      clear HAf HA HZ HW
      cases ho
      go_simp
      exact HK.out (.pointer (some ⟨R, 0, none⟩)) W (z, g, c) (fun _ _ _ _ h => h) rfl (HPh.out.pure (.inl (by decide)))
    | 3, _, ho =>
      have f7 : fl 7 = false := by cases h : fl 7 with | false => rfl | true => rw [HPh.out.1 h _ (by decide)] at hfi; cases hfi
      have HPa := Lib.hid (HPh.out.2.2.1 f7)
      have f2 : fl 2 = true := by cases ho; exact HAf.out ⟨2, .data⟩ (by simp) rfl
      have s2 : A.tmps[10]? = some (.pointer (some ⟨R, 0, none⟩)) := (HA.out 2 10 (by decide) rfl).trans (congrArg some (HW.out 2 (by decide) f2))
      have d0 := cells_of HR1.out.box 0
      simp only [List.getElem?_toArray, List.getElem?_cons_zero] at d0
      replace d0 := below_keep HPa.out.1 d0
      clear HAf HA HZ HW
      cases ho
      go_simp
      exact HK.out (.slice va l.len vc) W (z, g, c) (fun _ _ _ _ h => h) rfl (HPh.out.pure (.inl (by decide)))
    | 4, _, ho =>
      have f7 : fl 7 = false := by cases h : fl 7 with | false => rfl | true => rw [HPh.out.1 h _ (by decide)] at hfi; cases hfi
      have HPa := Lib.hid (HPh.out.2.2.1 f7)
      have z3 : A.tmps[3]? = some (.pointer (some ⟨w.heap.size, 0, none⟩)) := HZ.out 3 (by decide)
      obtain ⟨c0, c1, c2, c3, c4, c5, c6, c7, c8, -⟩ := nine_cells (keepB HPa.out.1 HH.out)
      clear HAf HA HZ HW
      cases ho
      go_simp
      exact HK.out (.agg #[.int .i64 f.k, .int .i64 f.i, .int .i64 f.g, .string f.nm, .string f.fn, .int .i64 f.ar, .slice ai it.len ci, .string f.bs, .int .i64 f.n]) W (z, g, c) (fun _ _ _ _ h => h) rfl (HPh.out.pure (.inl (by decide)))
    | 5, _, ho =>
      have f3 : fl 3 = true := by cases ho; exact HAf.out ⟨3, .data⟩ (by simp) rfl
      have s3 : A.tmps[11]? = some (.slice va l.len vc) := (HA.out 3 11 (by decide) rfl).trans (congrArg some (HW.out 3 (by decide) f3))
      clear HAf HA HZ HW
      cases ho
      go_simp
      exact HK.out (.int .i64 l.len) W (z, g, c) (fun _ _ _ _ h => h) rfl (HPh.out.pure (.inl (by decide)))
    | 6, _, ho =>
      clear HAf HA HZ HW
      cases ho
      go_simp
      exact HK.out (.slice (some ⟨W.heap.size, 0, none⟩) 1 1) (W.alloc (.cells zeros9.toArray 24 (0, 0))) (W.heap.size, g, c) (fun j y _ hfj h => h.z (fun e => by subst e; rw [hfi] at hfj; cases hfj)) rfl (HPh.out.six hfi)
    | 7, _, ho =>
      have f3 : fl 3 = true := by cases ho; exact HAf.out ⟨3, .data⟩ (by simp) rfl
      have s3 : A.tmps[11]? = some (.slice va l.len vc) := (HA.out 3 11 (by decide) rfl).trans (congrArg some (HW.out 3 (by decide) f3))
      have f6 : fl 6 = true := by cases ho; exact HAf.out ⟨6, .data⟩ (by simp) rfl
      have s6 : A.tmps[14]? = some (.slice (some ⟨z, 0, none⟩) 1 1) := (HA.out 6 14 (by decide) rfl).trans (congrArg some (HW.out 6 (by decide) f6))
      have f7 : fl 7 = false := hfi
      have HPa := Lib.hid (HPh.out.2.2.1 f7)
      have hall : ∀ j, j < 7 → fl j = true := by
        intro j hj
        cases ho
        match j, hj with
        | 0, _ => exact HAf.out ⟨0, .phase⟩ (by simp) rfl
        | 1, _ => exact HAf.out ⟨1, .phase⟩ (by simp) rfl
        | 2, _ => exact HAf.out ⟨2, .phase⟩ (by simp) rfl
        | 3, _ => exact HAf.out ⟨3, .phase⟩ (by simp) rfl
        | 4, _ => exact HAf.out ⟨4, .phase⟩ (by simp) rfl
        | 5, _ => exact HAf.out ⟨5, .phase⟩ (by simp) rfl
        | 6, _ => exact HAf.out ⟨6, .phase⟩ (by simp) rfl
      have hzc := HPa.out.2 f6
      have hzW := HPa.out.1.size
      clear HAf HA HZ HW
      cases ho
      refine step_append_at (by rfl) (.tmp 11) (.tmp 14) (by rfl) N (.slice va l.len vc) l.len xs (by simp [Act.eval, s3]) (own_bel HR1.out.own HPa.out.1) ⟨z, 0, none⟩ 1 1 zeros9 (by simp [Act.eval, s6]) rfl (news_one hzc) (by intro u hu; simp only [zeros9, List.mem_cons, List.not_mem_nil, or_false] at hu; rcases hu with rfl | rfl | rfl | rfl | rfl | rfl | rfl | rfl | rfl <;> rfl) (by omega) (by omega) ?_
      intro v7 w7 hown7 hgrow7 hat7
      obtain ⟨g', c', rfl⟩ := own_some hown7 (by omega)
      refine HK.out (.slice (some ⟨g', 0, none⟩) (l.len + 1) c') w7 (z, g', c') (fun j y _ hfj h => h.g ⟨fun e => (by subst e; rw [hfi] at hfj; cases hfj), fun e => (by subst e; rw [(HPh.out.no f7).1] at hfj; cases hfj)⟩) rfl (RpP.seven HPa.out.1 hall (HPh.out.no f7).2.1 (HPh.out.no f7).2.2 hown7 hgrow7 ?_ (fun k hk => ⟨HR1.out.ing k hk, HR1.out.ne hk⟩) HR1.out.box)
      rcases hat7 with e | e
      · exact .inr e.symm
      · injection e with e; exact .inl e
    | 8, _, ho =>
      have f7 : fl 7 = true := by cases ho; exact HAf.out ⟨7, .data⟩ (by simp) rfl
      have f7 : fl 7 = true := by cases ho; exact HAf.out ⟨7, .data⟩ (by simp) rfl
      have s7 : A.tmps[15]? = some (.slice (some ⟨g, 0, none⟩) (l.len + 1) c) := (HA.out 7 15 (by decide) rfl).trans (congrArg some (HW.out 7 (by decide) f7))
      have f5 : fl 5 = true := by cases ho; exact HAf.out ⟨5, .data⟩ (by simp) rfl
      have s5 : A.tmps[13]? = some (.int .i64 l.len) := (HA.out 5 13 (by decide) rfl).trans (congrArg some (HW.out 5 (by decide) f5))
      have hlt : (l.len : Int) < (l.len : Int) + 1 := by omega
      clear HAf HA HZ HW
      cases ho
      go_simp
      exact HK.out (.pointer (some ⟨g, l.len * 9, none⟩)) W (z, g, c) (fun _ _ _ _ h => h) rfl (HPh.out.pure (.inr ⟨by decide, by decide, by decide, f7⟩))
    | 9, _, ho =>
      have f7 : fl 7 = true := by cases ho; exact HAf.out ⟨7, .chain⟩ (by simp) rfl
      have f8 : fl 8 = true := by cases ho; exact HAf.out ⟨8, .data⟩ (by simp) rfl
      have s8 : A.tmps[16]? = some (.pointer (some ⟨g, l.len * 9, none⟩)) := (HA.out 8 16 (by decide) rfl).trans (congrArg some (HW.out 8 (by decide) f8))
      have f4 : fl 4 = true := by cases ho; exact HAf.out ⟨4, .data⟩ (by simp) rfl
      have s4 : A.tmps[12]? = some (.agg #[.int .i64 f.k, .int .i64 f.i, .int .i64 f.g, .string f.nm, .string f.fn, .int .i64 f.ar, .slice ai it.len ci, .string f.bs, .int .i64 f.n]) := (HA.out 4 12 (by decide) rfl).trans (congrArg some (HW.out 4 (by decide) f4))
      obtain ⟨q1, q2, q3, q4⟩ := HPh.out.2.2.2 f7
      rw [hfi] at q1
      have qc : ∀ j u, (xs ++ zeros9)[j]? = some u → W.cell? ((⟨g, 0, none⟩ : Addr).add j) = some u := q1.cells rfl
      have qf : ∀ j, W.frozen? ⟨g, j, none⟩ = false := fun j => own_fz q1 j
      have hxl := HR1.out.own.1
      have b0 : W.cell? ⟨g, l.len * 9, none⟩ = some (.int .i64 0) := own_c9 qc hxl 0 rfl
      have b1 : W.cell? ⟨g, l.len * 9 + 1, none⟩ = some (.int .i64 0) := own_c9 qc hxl 1 rfl
      have b2 : W.cell? ⟨g, l.len * 9 + 2, none⟩ = some (.int .i64 0) := own_c9 qc hxl 2 rfl
      have b3 : W.cell? ⟨g, l.len * 9 + 3, none⟩ = some (.string ⟨#[]⟩) := own_c9 qc hxl 3 rfl
      have b4 : W.cell? ⟨g, l.len * 9 + 4, none⟩ = some (.string ⟨#[]⟩) := own_c9 qc hxl 4 rfl
      have b5 : W.cell? ⟨g, l.len * 9 + 5, none⟩ = some (.int .i64 0) := own_c9 qc hxl 5 rfl
      have b6 : W.cell? ⟨g, l.len * 9 + 6, none⟩ = some (.slice none 0 0) := own_c9 qc hxl 6 rfl
      have b7 : W.cell? ⟨g, l.len * 9 + 7, none⟩ = some (.string ⟨#[]⟩) := own_c9 qc hxl 7 rfl
      have b8 : W.cell? ⟨g, l.len * 9 + 8, none⟩ = some (.int .i64 0) := own_c9 qc hxl 8 rfl
      clear q1 q2 q3 q4 qc
      clear HAf HA HZ HW
      cases ho
      go_simp
      exact HK.out undef _ (z, g, c) (fun _ _ _ _ h => h) trivial (HPh.out.nine f7 hfi hxl)
    | 10, _, ho =>
      have f7 : fl 7 = true := by cases ho; exact HAf.out ⟨7, .phase⟩ (by simp) rfl
      have f0 : fl 0 = true := by cases ho; exact HAf.out ⟨0, .data⟩ (by simp) rfl
      have s0 : A.tmps[8]? = some (.pointer (some ⟨R, 0, none⟩)) := (HA.out 0 8 (by decide) rfl).trans (congrArg some (HW.out 0 (by decide) f0))
      clear HAf HA HZ HW
      cases ho
      go_simp
      exact HK.out (.pointer (some ⟨R, 0, none⟩)) W (z, g, c) (fun _ _ _ _ h => h) rfl (HPh.out.pure (.inr ⟨by decide, by decide, by decide, f7⟩))
    | 11, _, ho =>
      have f7 : fl 7 = true := by cases ho; exact HAf.out ⟨7, .phase⟩ (by simp) rfl
      have f10 : fl 10 = true := by cases ho; exact HAf.out ⟨10, .data⟩ (by simp) rfl
      have s10 : A.tmps[17]? = some (.pointer (some ⟨R, 0, none⟩)) := (HA.out 10 17 (by decide) rfl).trans (congrArg some (HW.out 10 (by decide) f10))
      clear HAf HA HZ HW
      cases ho
      go_simp
      exact HK.out (.pointer (some ⟨R, 0, none⟩)) W (z, g, c) (fun _ _ _ _ h => h) rfl (HPh.out.pure (.inr ⟨by decide, by decide, by decide, f7⟩))
    | 12, _, ho =>
      have f7 : fl 7 = true := by cases ho; exact HAf.out ⟨7, .data⟩ (by simp) rfl
      have f11 : fl 11 = true := by cases ho; exact HAf.out ⟨11, .data⟩ (by simp) rfl
      have s11 : A.tmps[18]? = some (.pointer (some ⟨R, 0, none⟩)) := (HA.out 11 18 (by decide) rfl).trans (congrArg some (HW.out 11 (by decide) f11))
      have f7 : fl 7 = true := by cases ho; exact HAf.out ⟨7, .data⟩ (by simp) rfl
      have s7 : A.tmps[15]? = some (.slice (some ⟨g, 0, none⟩) (l.len + 1) c) := (HA.out 7 15 (by decide) rfl).trans (congrArg some (HW.out 7 (by decide) f7))
      obtain ⟨q1, q2, q3, q4⟩ := HPh.out.2.2.2 f7
      have d0 := cells_of q2 0
      simp only [List.getElem?_toArray, List.getElem?_cons_zero] at d0
      have fr : ∀ j, W.frozen? ⟨R, j, none⟩ = false := fun j => frees_of q2 j
      clear q1 q2 q3 q4
      clear HAf HA HZ HW
      cases ho
      go_simp
      exact HK.out undef _ (z, g, c) (fun _ _ _ _ h => h) trivial (HPh.out.twelve f7 HR1.out.inR)
  · intro fl v γ W hall _ hp
    obtain ⟨z, g, c⟩ := γ
    obtain ⟨q1, q2, q3, q4⟩ := hp.2.2.2 (hall 7 (by decide))
    rw [hall 9 (by decide), if_pos rfl] at q1
    rw [hall 12 (by decide), if_pos rfl] at q2
    have HQ1 := Lib.hid q1
    have HQ2 := Lib.hid q2
    have HQ3 := Lib.hid q3
    have HQ4 := Lib.hid q4
    clear hall hp q1 q2 q3 q4
    simp only [canon, Rpd, Act.put, List.getD_cons_succ, List.getD_cons_zero, List.setIfInBounds_toArray, List.set_cons_succ, List.set_cons_zero]
    refine wpList_nil_of ?_
    refine HKr.out _ _ ?_
    go_wp2_with fail
    go_ret
    have hsz := HQ3.out.size
    have hIw := HI.out
    refine ⟨rfl, ⟨_, _, HQ2.out, by rw [TL.len_app]; exact HQ1.out, ?_, ?_, .inl HR.out.inR, ?_, ?_, HR.out.ltT, ?_⟩, (OutsS.of_below HB2.out).trans HQ3.out⟩
    · have hk : ∀ b o, T b → W.cell? ⟨b, o, none⟩ = w.cell? ⟨b, o, none⟩ := fun b o hb => by
        have h1 := HR.out.ltT b hb
        have h2 : ¬ S b := fun hs => by have := (HR.out.lt b hs).1; omega
        have h3 := HR.out.leN
        exact cell_eq ((HQ3.out.block b (by omega) h2).trans (HB2.out.block b (by omega))) o
      exact RdXL.app (HR.out.rd.keep2 (fun _ h => h) hk) (RdXL.single (HI.out.keep2 (fun _ h => h) hk))
    · rw [TL.len_app]; have := HR.out.pos; omega
    · intro g' hg
      obtain rfl : g = g' := Option.some.inj hg
      rcases HQ4.out with h | h
      · exact .inl h
      · exact .inr ⟨by omega, (HQ1.out.lt _ rfl).2⟩
    · intro b hb
      rcases hb with hb | hb
      · have := HR.out.lt b hb; exact ⟨this.1, by omega⟩
      · have := HR.out.leN; exact ⟨by omega, hb.2⟩
    · have := HR.out.leN; omega
end Go.Proofs.Ytgbaelkoblnlhaa
namespace Go.Proofs.Ytgbaelkoblnlhaa
open Go.RowKit
theorem RdXL.take {w : World} {S : Nat → Prop} : ∀ {l : TL} {xs : List Value} (k : Nat), RdXL w S l xs → RdXL w S (l.take k) (xs.take (k * 9))
  | l, xs, 0, _ => by rw [TL.take_zero, Nat.zero_mul, List.take_zero]; rfl
  | .nil, _, _ + 1, h => by rw [show _ = [] from h, List.take_nil]; rfl
  | .cons f it r, _, k + 1, ⟨iv, rest, e, hi, hr⟩ => by
    subst e
    refine ⟨iv, rest.take (k * 9), ?_, hi, RdXL.take k hr⟩
    rw [List.take_append, cells_len, List.take_of_length_le (by rw [cells_len]; omega), show (k + 1) * 9 - 9 = k * 9 by omega]
theorem RdXL.drop {w : World} {S : Nat → Prop} : ∀ {l : TL} {xs : List Value} (k : Nat), RdXL w S l xs → RdXL w S (l.drop k) (xs.drop (k * 9))
  | l, xs, 0, h => by rw [TL.drop_zero, Nat.zero_mul, List.drop_zero]; exact h
  | .nil, _, _ + 1, h => by rw [show _ = [] from h, List.drop_nil]; rfl
  | .cons f it r, _, k + 1, ⟨iv, rest, e, hi, hr⟩ => by
    subst e
    rw [List.drop_append, cells_len, List.drop_of_length_le (by rw [cells_len]; omega), show (k + 1) * 9 - 9 = k * 9 by omega, List.nil_append]
    exact RdXL.drop k hr
theorem RdXL.del {w : World} {S : Nat → Prop} {l : TL} {xs : List Value} (p : Nat) (h : RdXL w S l xs) : RdXL w S (l.del p) (xs.take (p * 9) ++ xs.drop ((p + 1) * 9)) := RdXL.app (h.take p) (h.drop (p + 1))
theorem get_take {xs : List Value} {n j : Nat} {u : Value} (h : (xs.take n)[j]? = some u) : xs[j]? = some u := by
  rw [List.getElem?_take] at h
  split at h
  · exact h
  · cases h
theorem get_drop {xs : List Value} {n j : Nat} {u : Value} (h : (xs.drop n)[j]? = some u) : xs[n + j]? = some u := by rwa [List.getElem?_drop] at h
theorem add_off2 (b o k : Nat) : (⟨b, o, none⟩ : Addr).add k = ⟨b, o + k, none⟩ := by
  unfold Addr.add
  split
  · rename_i h
    rw [h]; rfl
  · rfl
theorem add_cell {w : World} {g n j : Nat} {u : Value} (h : w.cell? ((⟨g, 0, none⟩ : Addr).add (n + j)) = some u) : w.cell? ((⟨g, n, none⟩ : Addr).add j) = some u := by
  rw [add_off2] at h ⊢
  rw [Nat.zero_add] at h
  exact h
theorem suf_cell {w : World} {g n cap p : Nat} {xs : List Value} (hx : xs.length = n * 9) (hc : n ≤ cap) (h : ∀ j u, xs[j]? = some u → w.cell? ((⟨g, 0, none⟩ : Addr).add j) = some u) : ∃ ad, (if cap = p + 1 then some (⟨g, 0, none⟩ : Addr) else some ⟨g, (p + 1) * 9, none⟩) = some ad ∧ ∀ j u, (xs.drop ((p + 1) * 9))[j]? = some u → w.cell? (ad.add j) = some u := by
  by_cases e : cap = p + 1
  · refine ⟨_, if_pos e, fun j u hu => ?_⟩
    have h2 := get_drop hu
    rw [List.getElem?_eq_none (by rw [hx]; omega)] at h2
    cases h2
  · exact ⟨_, if_neg e, fun j u hu => add_cell (h _ u (get_drop hu))⟩
theorem own_base {w : World} {base base' e size : Nat} {v : Value} {n : Nat} {xs : List Value} (h : w.ownsRow base e size v n xs) (hb : base' ≤ base) : w.ownsRow base' e size v n xs := by
  obtain ⟨h1, h2 | ⟨g, cap, cur, e1, hg, r⟩⟩ := h
  · exact ⟨h1, .inl h2⟩
  · exact ⟨h1, .inr ⟨g, cap, cur, e1, Nat.le_trans hb hg, r⟩⟩
theorem own_keep2 {w w' : World} {base e size : Nat} {v : Value} {n : Nat} {xs : List Value} (h : w.ownsRow base e size v n xs) (hk : ∀ k, v.ownBlock = some k → w'.heap[k]? = w.heap[k]?) : w'.ownsRow base e size v n xs := by
  obtain ⟨h1, h2 | ⟨g, cap, cur, e1, hg, hh, r⟩⟩ := h
  · exact ⟨h1, .inl h2⟩
  · exact ⟨h1, .inr ⟨g, cap, cur, e1, hg, (hk g (by rw [e1]; rfl)).trans hh, r⟩⟩
theorem OutsS.sets9 {S : Nat → Prop} {a w : World} (h : OutsS S a w) {L : Nat} (hL : a.heap.size ≤ L) (a0 a1 a2 a3 a4 a5 a6 a7 a8 : Value) : OutsS S a (((((((((w.setCell ⟨L, 0, none⟩ a0).setCell ⟨L, 1, none⟩ a1).setCell ⟨L, 2, none⟩ a2).setCell ⟨L, 3, none⟩ a3).setCell ⟨L, 4, none⟩ a4).setCell ⟨L, 5, none⟩ a5).setCell ⟨L, 6, none⟩ a6).setCell ⟨L, 7, none⟩ a7).setCell ⟨L, 8, none⟩ a8) := by
  repeat (with_reducible refine OutsS.new ?_ hL _ _)
  exact h
theorem cell_keep {w w' : World} (hb : Below w.heap.size w w') {a : Addr} {u : Value} (h : w.cell? a = some u) : w'.cell? a = some u := below_keep hb h
/-- the words of the region of the reference's Take -/
def RtW (R : Nat) (g cap n p : Nat) (γ : Value × Value) (i : Nat) (y : Value) : Prop :=
  match i with
  | 0 => y = .pointer (some ⟨R, 0, none⟩)
  | 1 => y = .pointer (some ⟨R, 0, none⟩)
  | 2 => y = .pointer (some ⟨R, 0, none⟩)
  | 3 => y = .pointer (some ⟨R, 0, none⟩)
  | 4 => y = .slice (some ⟨g, 0, none⟩) n cap
  | 5 => y = .pointer (some ⟨R, 0, none⟩)
  | 6 => y = .pointer (some ⟨R, 0, none⟩)
  | 7 => y = .pointer (some ⟨R, 1, none⟩)
  | 8 => y = .int .i64 p
  | 9 => y = .slice (some ⟨g, 0, none⟩) p cap
  | 11 => y = .pointer (some ⟨R, 0, none⟩)
  | 12 => y = .pointer (some ⟨R, 0, none⟩)
  | 13 => y = .pointer (some ⟨R, 0, none⟩)
  | 14 => y = .slice (some ⟨g, 0, none⟩) n cap
  | 15 => y = .pointer (some ⟨R, 0, none⟩)
  | 16 => y = .pointer (some ⟨R, 0, none⟩)
  | 17 => y = .pointer (some ⟨R, 1, none⟩)
  | 18 => y = .int .i64 p
  | 19 => y = .int .i64 ((p : Int) + 1)
  | 20 => y = .slice (if cap = p + 1 then some ⟨g, 0, none⟩ else some ⟨g, (p + 1) * 9, none⟩) (n - (p + 1)) (cap - (p + 1))
  | 10 => y = γ.1
  | 21 => y = γ.2
  | _ => True
theorem RtW.g1 {R g cap n p : Nat} {a a' b y : Value} {j : Nat} (h : RtW R g cap n p (a, b) j y) (hj : j ≠ 10) : RtW R g cap n p (a', b) j y := by
  unfold RtW at h ⊢
  split at h <;> first | exact h | (exact absurd rfl hj) | trivial
theorem RtW.g2 {R g cap n p : Nat} {a b b' y : Value} {j : Nat} (h : RtW R g cap n p (a, b) j y) (hj : j ≠ 21) : RtW R g cap n p (a, b') j y := by
  unfold RtW at h ⊢
  split at h <;> first | exact h | (exact absurd rfl hj) | trivial
def RtP (w1 : World) (n p : Nat) (xs : List Value) (γ : Value × Value) (f : Nat → Bool) (w : World) : Prop :=
  Below w1.heap.size w1 w ∧ (f 10 = true → f 21 = false → w.ownsRow w1.heap.size 24 9 γ.1 p (xs.take (p * 9))) ∧ (f 21 = true → w.ownsRow w1.heap.size 24 9 γ.2 (p + (n - (p + 1))) (xs.take (p * 9) ++ xs.drop ((p + 1) * 9))) ∧ (f 21 = true → f 10 = true)
theorem RtP.pure {w1 w : World} {n p : Nat} {xs : List Value} {γ : Value × Value} {f : Nat → Bool} (h : RtP w1 n p xs γ f w) {i : Nat} (hi : i ≠ 10 ∧ i ≠ 21) : RtP w1 n p xs γ (upd f i) w := by
  unfold RtP
  rw [upd_ne _ hi.1.symm, upd_ne _ hi.2.symm]
  exact h
theorem RtP.no {w1 w : World} {n p : Nat} {xs : List Value} {γ : Value × Value} {f : Nat → Bool} (h : RtP w1 n p xs γ f w) (h10 : f 10 = false) : f 21 = false := by
  cases e : f 21 with
  | false => rfl
  | true => rw [h.2.2.2 e] at h10; cases h10
theorem RtP.ten {w1 w w' : World} {n p : Nat} {xs : List Value} {a b c : Value} {f : Nat → Bool} (h : RtP w1 n p xs (a, b) f w) (h21 : f 21 = false) (hown : w'.ownsRow w1.heap.size 24 9 c p (xs.take (p * 9))) (hg : w.grownBy w' none) : RtP w1 n p xs (c, b) (upd f 10) w' := by
  refine ⟨h.1.grown hg h.1.size fun k e => (by cases e), fun _ _ => hown, fun e => ?_, fun e => ?_⟩
  · rw [upd_ne _ (by decide), h21] at e; cases e
  · rw [upd_ne _ (by decide), h21] at e; cases e
theorem RtP.last {w1 w w' : World} {n p : Nat} {xs : List Value} {a b c : Value} {f : Nat → Bool} (h : RtP w1 n p xs (a, b) f w) (h10 : f 10 = true) (ho : w.ownsRow w1.heap.size 24 9 a p (xs.take (p * 9))) (hown : w'.ownsRow w1.heap.size 24 9 c (p + (n - (p + 1))) (xs.take (p * 9) ++ xs.drop ((p + 1) * 9))) (hg : w.grownBy w' a.ownBlock) : RtP w1 n p xs (a, c) (upd f 21) w' := by
  refine ⟨h.1.grown hg h.1.size fun k e => (ho.lt k e).1, fun _ e => ?_, fun _ => hown, fun _ => ?_⟩
  · rw [upd_at] at e; cases e
  · rw [upd_ne _ (by decide)]; exact h10
def Rtd : List (Option Nat) := [some 12, some 13, some 14, some 15, some 16, some 17, some 18, some 19, some 20, some 21, some 22, some 23, some 24, some 25, some 26, some 27, some 28, some 29, some 30, some 31, some 32, some 33]
set_option maxHeartbeats 2000000 in
theorem rTake_no {w : World} {N : Nat} {T S : Nat → Prop} {R : Nat} {l : TL} {v : Value} {xs : List Value} (hR : Rb w N T S R l l.len v xs) : Calls Try.prog 65 #[.pointer (some ⟨R, 0, none⟩)] w fun e w' => e = .returned (.tuple #[.agg #[.int .i64 0, .int .i64 0, .int .i64 0, .string ⟨#[]⟩, .string ⟨#[]⟩, .int .i64 0, .slice none 0 0, .string ⟨#[]⟩, .int .i64 0], .bool false]) ∧ Below w.heap.size w w' := by
  have HB := Lib.hid (below_alloc w (.cells #[.int .i64 0, .int .i64 0, .int .i64 0, .string ⟨#[]⟩, .string ⟨#[]⟩, .int .i64 0, .slice none 0 0, .string ⟨#[]⟩, .int .i64 0] 24 (0, 0)))
  have HL := Lib.hid (rLook_no (hR.below HB.out))
  clear hR
  go_enter Try.func65, Try.ntmps65
  go_wp2_with fail
  refine HL.out.mono ?_
  rintro e w2 ⟨rfl, hb2⟩
  have HH := Lib.hid (keepB hb2 (heap_alloc_new w (.cells #[.int .i64 0, .int .i64 0, .int .i64 0, .string ⟨#[]⟩, .string ⟨#[]⟩, .int .i64 0, .slice none 0 0, .string ⟨#[]⟩, .int .i64 0] 24 (0, 0))))
  have HB2 := Lib.hid (bstep HB.out hb2)
  have hz : w.heap.size < w2.heap.size := by have := hb2.size; simp at this; omega
  clear hb2
  obtain ⟨g0, g1, g2, g3, g4, g5, g6, g7, g8, fr⟩ := nine_cells HH.out
  go_wp2_with fail
  refine bodyPost_ret (results_pair rfl _ _ w.heap.size _ _ _ _ _ _ _ _ _ rfl (heap_after (nine_blk HH.out _ _ _ _ _ _ _ _ _) _)) rfl ⟨rfl, ?_⟩
  refine balloc ?_ _
  repeat (with_reducible refine bset ?_ (by simp) _)
  exact HB2.out
def TakeR (f : Fd) (it : TL) (N : Nat) (T S : Nat → Prop) (R : Nat) (l : TL) (p : Nat) (w : World) (e : Ending) (w' : World) : Prop := ∃ ai ci, e = .returned (.tuple #[.agg #[.int .i64 f.k, .int .i64 f.i, .int .i64 f.g, .string f.nm, .string f.fn, .int .i64 f.ar, .slice ai it.len ci, .string f.bs, .int .i64 f.n], .bool true]) ∧ RdXS w' T it (.slice ai it.len ci) ∧ (∃ v xs, Rb w' N T (fun b => S b ∨ (w.heap.size ≤ b ∧ b < w'.heap.size)) R (l.del p) 0 v xs) ∧ OutsS S w w'
set_option maxRecDepth 100000 in
set_option maxHeartbeats 4000000 in
theorem rTake_yes {w : World} {N : Nat} {T S : Nat → Prop} {R : Nat} {l : TL} {p : Nat} {v : Value} {xs : List Value} (hR : Rb w N T S R l p v xs) {f : Fd} {it r : TL} (hd : l.drop p = .cons f it r) (hp : p < l.len) (hb : l.len ≤ 1000000000) : Calls Try.prog 65 #[.pointer (some ⟨R, 0, none⟩)] w (TakeR f it N T S R l p w) := by
  have HB := Lib.hid (below_alloc w (.cells #[.int .i64 0, .int .i64 0, .int .i64 0, .string ⟨#[]⟩, .string ⟨#[]⟩, .int .i64 0, .slice none 0 0, .string ⟨#[]⟩, .int .i64 0] 24 (0, 0)))
  have HL := Lib.hid (rLook_yes (hR.below HB.out) hd hp hb)
  have HR := Lib.hid hR
  have HP := Lib.hid hp
  have hpl : (p : Int) < (l.len : Int) := by omega
  have hlb : (l.len : Int) ≤ 1000000000 := by omega
  have hbl := hb
  have hp1 : (p : Int) ≤ 1000000000 := by omega
  have hg1 : (0 : Int) ≤ (p : Int) + 1 := by omega
  have hg2 : (p : Int) + 1 ≤ (l.len : Int) := by omega
  have hpl2 := hp
  obtain ⟨g, cap, hvs⟩ := own_some hR.own (by omega)
  subst hvs
  have hcap : l.len ≤ cap ∧ cap ≤ 9223372036854775807 := by
    obtain ⟨_, ⟨e, _⟩ | ⟨g', cap', cur, e, _, _, h1, h2, _⟩⟩ := hR.own
    · cases e
    · injection e with _ _ e
      unfold maxLen at h2
      omega
  have hpc : p ≤ cap := by omega
  have hRw := (hR.lt R hR.inR).2
  have hRN := (hR.lt R hR.inR).1
  clear hR hd hp hb
  go_enter Try.func65, Try.ntmps65
  go_wp2_with fail
  refine HL.out.mono ?_
  rintro e w2 ⟨ai, ci, rfl, hi2, hb2⟩
  have HH := Lib.hid (heap_after (keepB hb2 (heap_alloc_new w (.cells #[.int .i64 0, .int .i64 0, .int .i64 0, .string ⟨#[]⟩, .string ⟨#[]⟩, .int .i64 0, .slice none 0 0, .string ⟨#[]⟩, .int .i64 0] 24 (0, 0)))) (.cells #[.int .i64 f.k, .int .i64 f.i, .int .i64 f.g, .string f.nm, .string f.fn, .int .i64 f.ar, .slice ai it.len ci, .string f.bs, .int .i64 f.n] 24 (0, 0)))
  have HB2 := Lib.hid (balloc (bstep HB.out hb2) (.cells #[.int .i64 f.k, .int .i64 f.i, .int .i64 f.g, .string f.nm, .string f.fn, .int .i64 f.ar, .slice ai it.len ci, .string f.bs, .int .i64 f.n] 24 (0, 0)))
  have HT := Lib.hid (heap_alloc_new w2 (.cells #[.int .i64 f.k, .int .i64 f.i, .int .i64 f.g, .string f.nm, .string f.fn, .int .i64 f.ar, .slice ai it.len ci, .string f.bs, .int .i64 f.n] 24 (0, 0)))
  have hz : w.heap.size + 1 ≤ w2.heap.size := by have := hb2.size; simp at this; omega
  have HI2 := Lib.hid (hi2.below (below_alloc w2 (.cells #[.int .i64 f.k, .int .i64 f.i, .int .i64 f.g, .string f.nm, .string f.fn, .int .i64 f.ar, .slice ai it.len ci, .string f.bs, .int .i64 f.n] 24 (0, 0))) fun b hb => by have := HR.out.ltT b hb; have := HR.out.leN; omega)
  clear hb2 hi2 HL
  go_upto_region 3 with (fail)
  obtain ⟨w1, hw1⟩ : ∃ w1, w1 = w2.alloc (.cells #[.int .i64 f.k, .int .i64 f.i, .int .i64 f.g, .string f.nm, .string f.fn, .int .i64 f.ar, .slice ai it.len ci, .string f.bs, .int .i64 f.n] 24 (0, 0)) := ⟨_, rfl⟩
  have hz1 : w1.heap.size = w2.heap.size + 1 := by rw [hw1]; simp
  rw [← hw1] at HH HB2 HI2 HT ⊢
  clear hw1
  have HR1 := Lib.hid (HR.out.below HB2.out)
  rename_i Kr hKr
  have HKr := Lib.hid hKr
  clear hKr
  refine wp_region_ghost (by kernel_rfl) 22 Rtd (RtW R g cap l.len p) (RtP w1 l.len p xs) (by kernel_rfl) (by decide) (by kernel_rfl) (by decide) (by rfl) ⟨(undef, undef), (Below.refl _ _).drew, fun h => (by cases h), fun h => (by cases h), fun h => (by cases h)⟩ ?_ ?_
  · intro i o hin ho fl v γ W hfi hw hp haft A hA hZ K' hK
    have HK := Lib.hid hK
    have HW := Lib.hid hw
    have HPh := Lib.hid hp
    have HAf := Lib.hid haft
    have HA := Lib.hid hA
    have HZ := Lib.hid hZ
    clear hK hw hp haft hA hZ
    match i, hin, ho with
    | 0, _, ho =>
        have z0 : A.tmps[0]? = some (.pointer (some ⟨R, 0, none⟩)) := HZ.out 0 (by decide)
        clear HAf HA HZ HW
        cases ho
        go_simp
        exact HK.out (.pointer (some ⟨R, 0, none⟩)) W γ (fun _ _ _ _ h => h) rfl (HPh.out.pure (by decide))
    | 1, _, ho =>
        have z0 : A.tmps[0]? = some (.pointer (some ⟨R, 0, none⟩)) := HZ.out 0 (by decide)
        clear HAf HA HZ HW
        cases ho
        go_simp
        exact HK.out (.pointer (some ⟨R, 0, none⟩)) W γ (fun _ _ _ _ h => h) rfl (HPh.out.pure (by decide))
    | 2, _, ho =>
        have f1 : fl 1 = true := by cases ho; exact HAf.out ⟨1, .data⟩ (by simp) rfl
        have s1 : A.tmps[13]? = some (.pointer (some ⟨R, 0, none⟩)) := (HA.out 1 13 (by decide) rfl).trans (congrArg some (HW.out 1 (by decide) f1))
        clear HAf HA HZ HW
        cases ho
        go_simp
        exact HK.out (.pointer (some ⟨R, 0, none⟩)) W γ (fun _ _ _ _ h => h) rfl (HPh.out.pure (by decide))
    | 3, _, ho =>
        have f2 : fl 2 = true := by cases ho; exact HAf.out ⟨2, .data⟩ (by simp) rfl
        have s2 : A.tmps[14]? = some (.pointer (some ⟨R, 0, none⟩)) := (HA.out 2 14 (by decide) rfl).trans (congrArg some (HW.out 2 (by decide) f2))
        clear HAf HA HZ HW
        cases ho
        go_simp
        exact HK.out (.pointer (some ⟨R, 0, none⟩)) W γ (fun _ _ _ _ h => h) rfl (HPh.out.pure (by decide))
    | 4, _, ho =>
        have f3 : fl 3 = true := by cases ho; exact HAf.out ⟨3, .data⟩ (by simp) rfl
        have s3 : A.tmps[15]? = some (.pointer (some ⟨R, 0, none⟩)) := (HA.out 3 15 (by decide) rfl).trans (congrArg some (HW.out 3 (by decide) f3))
        have d0 := cells_of HR1.out.box 0
        simp only [List.getElem?_toArray, List.getElem?_cons_zero] at d0
        replace d0 := below_keep HPh.out.1 d0
        clear HAf HA HZ HW
        cases ho
        go_simp
        exact HK.out (.slice (some ⟨g, 0, none⟩) l.len cap) W γ (fun _ _ _ _ h => h) rfl (HPh.out.pure (by decide))
    | 5, _, ho =>
        have z0 : A.tmps[0]? = some (.pointer (some ⟨R, 0, none⟩)) := HZ.out 0 (by decide)
        clear HAf HA HZ HW
        cases ho
        go_simp
        exact HK.out (.pointer (some ⟨R, 0, none⟩)) W γ (fun _ _ _ _ h => h) rfl (HPh.out.pure (by decide))
    | 6, _, ho =>
        have f5 : fl 5 = true := by cases ho; exact HAf.out ⟨5, .data⟩ (by simp) rfl
        have s5 : A.tmps[17]? = some (.pointer (some ⟨R, 0, none⟩)) := (HA.out 5 17 (by decide) rfl).trans (congrArg some (HW.out 5 (by decide) f5))
        clear HAf HA HZ HW
        cases ho
        go_simp
        exact HK.out (.pointer (some ⟨R, 0, none⟩)) W γ (fun _ _ _ _ h => h) rfl (HPh.out.pure (by decide))
    | 7, _, ho =>
        have f6 : fl 6 = true := by cases ho; exact HAf.out ⟨6, .data⟩ (by simp) rfl
        have s6 : A.tmps[18]? = some (.pointer (some ⟨R, 0, none⟩)) := (HA.out 6 18 (by decide) rfl).trans (congrArg some (HW.out 6 (by decide) f6))
        clear HAf HA HZ HW
        cases ho
        go_simp
        exact HK.out (.pointer (some ⟨R, 1, none⟩)) W γ (fun _ _ _ _ h => h) rfl (HPh.out.pure (by decide))
    | 8, _, ho =>
        have f7 : fl 7 = true := by cases ho; exact HAf.out ⟨7, .data⟩ (by simp) rfl
        have s7 : A.tmps[19]? = some (.pointer (some ⟨R, 1, none⟩)) := (HA.out 7 19 (by decide) rfl).trans (congrArg some (HW.out 7 (by decide) f7))
        have d1 := cells_of HR1.out.box 1
        simp only [List.getElem?_toArray, List.getElem?_cons_succ, List.getElem?_cons_zero] at d1
        replace d1 := below_keep HPh.out.1 d1
        clear HAf HA HZ HW
        cases ho
        go_simp
        exact HK.out (.int .i64 p) W γ (fun _ _ _ _ h => h) rfl (HPh.out.pure (by decide))
    | 9, _, ho =>
        have f4 : fl 4 = true := by cases ho; exact HAf.out ⟨4, .data⟩ (by simp) rfl
        have s4 : A.tmps[16]? = some (.slice (some ⟨g, 0, none⟩) l.len cap) := (HA.out 4 16 (by decide) rfl).trans (congrArg some (HW.out 4 (by decide) f4))
        have f8 : fl 8 = true := by cases ho; exact HAf.out ⟨8, .data⟩ (by simp) rfl
        have s8 : A.tmps[20]? = some (.int .i64 p) := (HA.out 8 20 (by decide) rfl).trans (congrArg some (HW.out 8 (by decide) f8))
        clear HAf HA HZ HW
        cases ho
        go_simp
        exact HK.out (.slice (some ⟨g, 0, none⟩) p cap) W γ (fun _ _ _ _ h => h) rfl (HPh.out.pure (by decide))
    | 10, _, ho =>
        have f9 : fl 9 = true := by cases ho; exact HAf.out ⟨9, .data⟩ (by simp) rfl
        have s9 : A.tmps[21]? = some (.slice (some ⟨g, 0, none⟩) p cap) := (HA.out 9 21 (by decide) rfl).trans (congrArg some (HW.out 9 (by decide) f9))
        have f21 : fl 21 = false := HPh.out.no hfi
        have hq := HPh.out.1
        have hzq := hq.size
        have hcs := HR1.out.own.cells rfl
        clear HAf HA HZ HW
        cases ho
        refine step_append_at (by rfl) (.const (.slice none 0 0)) (.tmp 21) (by rfl) w1.heap.size (.slice none 0 0) 0 [] rfl (World.ownsRow_nil _ _ _ _) ⟨g, 0, none⟩ p cap (xs.take (p * 9)) (by simp [Act.eval, s9]) (by rw [List.length_take, HR1.out.own.1]; omega) (fun j u hu => cell_keep hq (hcs j u (get_take hu))) (fun u hu => HR1.out.rd.one u (List.mem_of_mem_take hu)) (by omega) hzq ?_
        intro v7 w7 hown7 hgrow7 _
        rw [Nat.zero_add, List.nil_append] at hown7
        exact HK.out v7 w7 (v7, γ.2) (fun j y _ hfj h => h.g1 (fun e => (by subst e; rw [hfi] at hfj; cases hfj))) rfl (RtP.ten HPh.out f21 hown7 hgrow7)
    | 11, _, ho =>
        have z0 : A.tmps[0]? = some (.pointer (some ⟨R, 0, none⟩)) := HZ.out 0 (by decide)
        clear HAf HA HZ HW
        cases ho
        go_simp
        exact HK.out (.pointer (some ⟨R, 0, none⟩)) W γ (fun _ _ _ _ h => h) rfl (HPh.out.pure (by decide))
    | 12, _, ho =>
        have f11 : fl 11 = true := by cases ho; exact HAf.out ⟨11, .data⟩ (by simp) rfl
        have s11 : A.tmps[23]? = some (.pointer (some ⟨R, 0, none⟩)) := (HA.out 11 23 (by decide) rfl).trans (congrArg some (HW.out 11 (by decide) f11))
        clear HAf HA HZ HW
        cases ho
        go_simp
        exact HK.out (.pointer (some ⟨R, 0, none⟩)) W γ (fun _ _ _ _ h => h) rfl (HPh.out.pure (by decide))
    | 13, _, ho =>
        have f12 : fl 12 = true := by cases ho; exact HAf.out ⟨12, .data⟩ (by simp) rfl
        have s12 : A.tmps[24]? = some (.pointer (some ⟨R, 0, none⟩)) := (HA.out 12 24 (by decide) rfl).trans (congrArg some (HW.out 12 (by decide) f12))
        clear HAf HA HZ HW
        cases ho
        go_simp
        exact HK.out (.pointer (some ⟨R, 0, none⟩)) W γ (fun _ _ _ _ h => h) rfl (HPh.out.pure (by decide))
    | 14, _, ho =>
        have f13 : fl 13 = true := by cases ho; exact HAf.out ⟨13, .data⟩ (by simp) rfl
        have s13 : A.tmps[25]? = some (.pointer (some ⟨R, 0, none⟩)) := (HA.out 13 25 (by decide) rfl).trans (congrArg some (HW.out 13 (by decide) f13))
        have d0 := cells_of HR1.out.box 0
        simp only [List.getElem?_toArray, List.getElem?_cons_zero] at d0
        replace d0 := below_keep HPh.out.1 d0
        clear HAf HA HZ HW
        cases ho
        go_simp
        exact HK.out (.slice (some ⟨g, 0, none⟩) l.len cap) W γ (fun _ _ _ _ h => h) rfl (HPh.out.pure (by decide))
    | 15, _, ho =>
        have z0 : A.tmps[0]? = some (.pointer (some ⟨R, 0, none⟩)) := HZ.out 0 (by decide)
        clear HAf HA HZ HW
        cases ho
        go_simp
        exact HK.out (.pointer (some ⟨R, 0, none⟩)) W γ (fun _ _ _ _ h => h) rfl (HPh.out.pure (by decide))
    | 16, _, ho =>
        have f15 : fl 15 = true := by cases ho; exact HAf.out ⟨15, .data⟩ (by simp) rfl
        have s15 : A.tmps[27]? = some (.pointer (some ⟨R, 0, none⟩)) := (HA.out 15 27 (by decide) rfl).trans (congrArg some (HW.out 15 (by decide) f15))
        clear HAf HA HZ HW
        cases ho
        go_simp
        exact HK.out (.pointer (some ⟨R, 0, none⟩)) W γ (fun _ _ _ _ h => h) rfl (HPh.out.pure (by decide))
    | 17, _, ho =>
        have f16 : fl 16 = true := by cases ho; exact HAf.out ⟨16, .data⟩ (by simp) rfl
        have s16 : A.tmps[28]? = some (.pointer (some ⟨R, 0, none⟩)) := (HA.out 16 28 (by decide) rfl).trans (congrArg some (HW.out 16 (by decide) f16))
        clear HAf HA HZ HW
        cases ho
        go_simp
        exact HK.out (.pointer (some ⟨R, 1, none⟩)) W γ (fun _ _ _ _ h => h) rfl (HPh.out.pure (by decide))
    | 18, _, ho =>
        have f17 : fl 17 = true := by cases ho; exact HAf.out ⟨17, .data⟩ (by simp) rfl
        have s17 : A.tmps[29]? = some (.pointer (some ⟨R, 1, none⟩)) := (HA.out 17 29 (by decide) rfl).trans (congrArg some (HW.out 17 (by decide) f17))
        have d1 := cells_of HR1.out.box 1
        simp only [List.getElem?_toArray, List.getElem?_cons_succ, List.getElem?_cons_zero] at d1
        replace d1 := below_keep HPh.out.1 d1
        clear HAf HA HZ HW
        cases ho
        go_simp
        exact HK.out (.int .i64 p) W γ (fun _ _ _ _ h => h) rfl (HPh.out.pure (by decide))
    | 19, _, ho =>
        have f18 : fl 18 = true := by cases ho; exact HAf.out ⟨18, .data⟩ (by simp) rfl
        have s18 : A.tmps[30]? = some (.int .i64 p) := (HA.out 18 30 (by decide) rfl).trans (congrArg some (HW.out 18 (by decide) f18))
        have hwr : IntKind.i64.wrap ((p : Int) + 1) = (p : Int) + 1 := by rw [IntKind.wrap_i64]; omega
        clear HAf HA HZ HW
        cases ho
        go_simp
        exact HK.out (.int .i64 ((p : Int) + 1)) W γ (fun _ _ _ _ h => h) rfl (HPh.out.pure (by decide))
    | 20, _, ho =>
        have f14 : fl 14 = true := by cases ho; exact HAf.out ⟨14, .data⟩ (by simp) rfl
        have s14 : A.tmps[26]? = some (.slice (some ⟨g, 0, none⟩) l.len cap) := (HA.out 14 26 (by decide) rfl).trans (congrArg some (HW.out 14 (by decide) f14))
        have f19 : fl 19 = true := by cases ho; exact HAf.out ⟨19, .data⟩ (by simp) rfl
        have s19 : A.tmps[31]? = some (.int .i64 ((p : Int) + 1)) := (HA.out 19 31 (by decide) rfl).trans (congrArg some (HW.out 19 (by decide) f19))
        clear HAf HA HZ HW
        cases ho
        go_simp
        exact HK.out (.slice (if cap = p + 1 then some ⟨g, 0, none⟩ else some ⟨g, (p + 1) * 9, none⟩) (l.len - (p + 1)) (cap - (p + 1))) W γ (fun _ _ _ _ h => h) rfl (HPh.out.pure (by decide))
    | 21, _, ho =>
        have f10 : fl 10 = true := by cases ho; exact HAf.out ⟨10, .data⟩ (by simp) rfl
        have s10 : A.tmps[22]? = some (γ.1) := (HA.out 10 22 (by decide) rfl).trans (congrArg some (HW.out 10 (by decide) f10))
        have f20 : fl 20 = true := by cases ho; exact HAf.out ⟨20, .data⟩ (by simp) rfl
        have s20 : A.tmps[32]? = some (.slice (if cap = p + 1 then some ⟨g, 0, none⟩ else some ⟨g, (p + 1) * 9, none⟩) (l.len - (p + 1)) (cap - (p + 1))) := (HA.out 20 32 (by decide) rfl).trans (congrArg some (HW.out 20 (by decide) f20))
        have hq := HPh.out.1
        have hzq := hq.size
        have hcs := HR1.out.own.cells rfl
        have ho1 := HPh.out.2.1 f10 hfi
        obtain ⟨ad, had, hac⟩ := suf_cell (cap := cap) HR1.out.own.1 hcap.1 hcs (p := p)
        clear HAf HA HZ HW
        cases ho
        refine step_append_at (by rfl) (.tmp 22) (.tmp 32) (by rfl) w1.heap.size γ.1 p (xs.take (p * 9)) (by simp [Act.eval, s10]) ho1 ad (l.len - (p + 1)) (cap - (p + 1)) (xs.drop ((p + 1) * 9)) (by simp [Act.eval, s20, had]) (by rw [List.length_drop, HR1.out.own.1]; omega) (fun j u hu => cell_keep hq (hac j u hu)) (fun u hu => HR1.out.rd.one u (List.mem_of_mem_drop hu)) (by omega) hzq ?_
        intro v7 w7 hown7 hgrow7 _
        exact HK.out v7 w7 (γ.1, v7) (fun j y _ hfj h => h.g2 (fun e => (by subst e; rw [hfi] at hfj; cases hfj))) rfl (RtP.last HPh.out f10 ho1 hown7 hgrow7)
    | k + 22, hk, _ => exact absurd hk (by omega)
  · intro fl v γ W hall hw hp
    obtain ⟨y10, y21⟩ := γ
    have h21 : v 21 = y21 := hw 21 (by decide)
    have h0 : v 0 = .pointer (some ⟨R, 0, none⟩) := hw 0 (by decide)
    obtain ⟨q1, -, q3, -⟩ := hp
    have q3 := q3 (hall 21 (by decide))
    obtain ⟨a21, c21, hy⟩ := own_slice q3
    subst hy
    have HQ1 := Lib.hid q1
    have HQ3 := Lib.hid q3
    have hqz := q1.size
    have HHq := Lib.hid (keepB q1 HH.out)
    have HTq := Lib.hid (keepB q1 HT.out)
    have HRq := Lib.hid (HR1.out.below q1)
    clear hall hw q1 q3
    simp only [canon, Rtd, Act.put, List.getD_cons_succ, List.getD_cons_zero, List.setIfInBounds_toArray, List.set_cons_succ, List.set_cons_zero, h21, h0]
    have d0 := cells_of HRq.out.box 0
    have d1 := cells_of HRq.out.box 1
    simp only [List.getElem?_toArray, List.getElem?_cons_succ, List.getElem?_cons_zero] at d0 d1
    have fR : ∀ k, W.frozen? ⟨R, k, none⟩ = false := fun k => frees_of HRq.out.box k
    simp only [List.drop_succ_cons, List.drop_zero]
    obtain ⟨t0, t1, t2, t3, t4, t5, t6, t7, t8, -⟩ := nine_cells HTq.out
    obtain ⟨b0, b1, b2, b3, b4, b5, b6, b7, b8, fb⟩ := nine_cells HHq.out
    have hne0 : ¬ R = w.heap.size := by omega
    have hne1 : ¬ R = w2.heap.size := by omega
    go_wp2_with fail
    refine HKr.out _ _ ?_
    go_wp2_with fail
    have HO := Lib.hid (OutsS.sets9 (OutsS.put (OutsS.put (OutsS.of_below (S := S) (bstep HB2.out HQ1.out)) HR.out.inR 0 (.slice a21 (p + (l.len - (p + 1))) c21)) HR.out.inR 1 (.int .i64 0)) (Nat.le_refl w.heap.size) (.int .i64 f.k) (.int .i64 f.i) (.int .i64 f.g) (.string f.nm) (.string f.fn) (.int .i64 f.ar) (.slice ai it.len ci) (.string f.bs) (.int .i64 f.n))
    have hT : ∀ b, T b → b < w.heap.size ∧ ¬ S b := fun b hb => ⟨by have := HR.out.ltT b hb; have := HR.out.leN; omega, fun hs => by have := HR.out.ltT b hb; have := (HR.out.lt b hs).1; omega⟩
    refine bodyPost_ret (results_pair rfl _ _ w.heap.size _ _ _ _ _ _ _ _ _ rfl (nine_blk (blk_oth (blk_oth HHq.out (Ne.symm hne0) _ _) (Ne.symm hne0) _ _) _ _ _ _ _ _ _ _ _)) rfl ⟨ai, ci, rfl, ?_, ⟨.slice a21 (p + (l.len - (p + 1))) c21, xs.take (p * 9) ++ xs.drop ((p + 1) * 9), ?_, ?_, ?_, Nat.zero_le _, .inl HR.out.inR, ?_, ?_, HR.out.ltT, ?_⟩, HO.out⟩
    · exact HI2.out.keep2 (fun _ h => h) fun b o hb => cell_eq ((HO.out.block b (hT b hb).1 (hT b hb).2).trans (HB2.out.block b (hT b hb).1).symm) o
    · have h1 := HRq.out.box
      repeat (with_reducible refine blk_oth ?_ hne0 _ _)
      exact blk_set (c := [_, _]) (blk_set (c := [_, _]) h1 0 _) 1 _
    · rw [TL.len_del _ _ HP.out, show l.len - 1 = p + (l.len - (p + 1)) by omega]
      refine own_keep2 (own_base HQ3.out (by omega)) fun k hk => ?_
      have hk2 := (HQ3.out.lt k hk).1
      repeat (with_reducible refine (Below.heap_setCell _ _ _ _ (by simp only []; omega)).trans ?_)
      rfl
    · exact RdXL.keep2 (fun _ h => h) (fun b o hb => cell_eq (HO.out.block b (hT b hb).1 (hT b hb).2) o) (HR.out.rd.del p)
    · intro k hk
      have hk2 := HQ3.out.lt k hk
      have := HO.out.size
      refine .inr ⟨by omega, ?_⟩
      have e : ∀ (W' : World) a u, (W'.setCell a u).heap.size = W'.heap.size := size_setCell
      simp only [e]
      exact hk2.2
    · intro b hb
      have := HO.out.size
      rcases hb with hb | hb
      · have := HR.out.lt b hb; exact ⟨this.1, by omega⟩
      · have := HR.out.leN; exact ⟨by omega, hb.2⟩
    · have := HR.out.leN; have := HO.out.size; omega
end Go.Proofs.Ytgbaelkoblnlhaa
