/-
  Walks: mark, Lend and LendList of terms, of any size; the relation between what is lent and the original.
-/
import Derived.Test.YtgfodedmcjkmaaaGreatDoorNine
import Derived.StillTailTactics
namespace Go.Proofs.YtgfodedmcjkmaaaGreatDoor
open Go.RowKit
def markC : List Value := [.int .i64 (-7), .int .i64 4711, .int .i64 0, .string ⟨#[115, 112, 97, 114, 101]⟩, .string ⟨#[]⟩, .int .i64 0, .slice none 0 0, .string ⟨#[]⟩, .int .i64 0]
/-- the cells of a lent row and the original's, which lies in block b from o on: the same terms; each lent row that is not nil has two marks behind it -/
def KpR (w : World) (A B A' B' : Nat) : TL → List Value → Nat → Nat → Prop
  | .nil, _, _, _ => True
  | .cons f it r, xs, b, o => (A' ≤ b ∧ b < B') ∧ (∃ iv ao' cap' rest, xs = f.cells iv ++ rest ∧ (∀ j v, (f.cells (.slice ao' it.len cap'))[j]? = some v → w.cell? ⟨b, o + j, none⟩ = some v) ∧ it.len ≤ cap' ∧ cap' ≤ maxLen ∧
      ((ao' = none ∧ it = .nil ∧ iv = .slice none 0 0) ∨ ∃ a' g cur, ao' = some a' ∧ iv = .slice (some ⟨g, 0, none⟩) it.len (it.len + 2) ∧ A ≤ g ∧ g < B ∧ w.heap[g]? = some (.cells cur 24 (0, 0)) ∧ cur.size = (it.len + 2) * 9 ∧ cur.toList.drop (it.len * 9) = markC ++ markC ∧ it.len + 2 ≤ maxLen ∧
        ∃ b' o', (it ≠ .nil → a' = ⟨b', o', none⟩) ∧ KpR w A B A' B' it cur.toList b' o') ∧ KpR w A B A' B' r rest b (o + 9))
def KpS (w : World) (A B A' B' : Nat) (l : TL) (v v' : Value) : Prop := ∃ ao' cap', v' = .slice ao' l.len cap' ∧ l.len ≤ cap' ∧ cap' ≤ maxLen ∧
      ((ao' = none ∧ l = .nil ∧ v = .slice none 0 0) ∨ ∃ a' g cur, ao' = some a' ∧ v = .slice (some ⟨g, 0, none⟩) l.len (l.len + 2) ∧ A ≤ g ∧ g < B ∧ w.heap[g]? = some (.cells cur 24 (0, 0)) ∧ cur.size = (l.len + 2) * 9 ∧ cur.toList.drop (l.len * 9) = markC ++ markC ∧ l.len + 2 ≤ maxLen ∧
        ∃ b' o', (l ≠ .nil → a' = ⟨b', o', none⟩) ∧ KpR w A B A' B' l cur.toList b' o')
theorem KpR.cons {w : World} {A B A' B' : Nat} {f : Fd} {it r : TL} {iv : Value} {ao' : Option Addr} {cap' : Nat} {rest : List Value} {b o : Nat} (ha : A' ≤ b) (hb : b < B') (hc : ∀ j v, (f.cells (.slice ao' it.len cap'))[j]? = some v → w.cell? ⟨b, o + j, none⟩ = some v) (h : KpS w A B A' B' it iv (.slice ao' it.len cap')) (hr : KpR w A B A' B' r rest b (o + 9)) : KpR w A B A' B' (.cons f it r) (f.cells iv ++ rest) b o := by
  obtain ⟨a1, c1, e, h1, h2, h3⟩ := h
  injection e with e1 e2 e3
  subst e1 e3
  exact ⟨⟨ha, hb⟩, iv, ao', cap', rest, rfl, hc, h1, h2, h3, hr⟩
theorem KpR.uncons {w : World} {A B A' B' : Nat} {f : Fd} {it r : TL} {xs : List Value} {b o : Nat} (h : KpR w A B A' B' (.cons f it r) xs b o) : A' ≤ b ∧ b < B' ∧ ∃ iv ao' cap' rest, xs = f.cells iv ++ rest ∧ (∀ j v, (f.cells (.slice ao' it.len cap'))[j]? = some v → w.cell? ⟨b, o + j, none⟩ = some v) ∧ KpS w A B A' B' it iv (.slice ao' it.len cap') ∧ KpR w A B A' B' r rest b (o + 9) := by
  obtain ⟨⟨ha, hb⟩, iv, ao', cap', rest, e, hc, h1, h2, h3, hr⟩ := h
  exact ⟨ha, hb, iv, ao', cap', rest, e, hc, ⟨ao', cap', rfl, h1, h2, h3⟩, hr⟩
theorem KpR.keep {w w' : World} {A B A' B' : Nat} (hk : ∀ k, A ≤ k → k < B → w'.heap[k]? = w.heap[k]?) (hc : ∀ b o, A' ≤ b → b < B' → w'.cell? ⟨b, o, none⟩ = w.cell? ⟨b, o, none⟩) : ∀ (l : TL) (xs : List Value) (b o : Nat), KpR w A B A' B' l xs b o → KpR w' A B A' B' l xs b o
  | .nil, _, _, _, _ => trivial
  | .cons f it r, xs, b, o, ⟨⟨ha, hb⟩, iv, ao', cap', rest, e, hcl, h1, h2, h3, hr⟩ => by
    refine ⟨⟨ha, hb⟩, iv, ao', cap', rest, e, fun j v hj => (hc b _ ha hb).trans (hcl j v hj), h1, h2, ?_, KpR.keep hk hc r rest b (o + 9) hr⟩
    rcases h3 with h3 | ⟨a', g, cur, e1, e2, ga, gb, hh, hs, hm, hx, b', o', e3, hi⟩
    · exact .inl h3
    · exact .inr ⟨a', g, cur, e1, e2, ga, gb, (hk g ga gb).trans hh, hs, hm, hx, b', o', e3, KpR.keep hk hc it _ b' o' hi⟩
theorem KpS.keep {w w' : World} {A B A' B' : Nat} {l : TL} {v v' : Value} (h : KpS w A B A' B' l v v') (hk : ∀ k, A ≤ k → k < B → w'.heap[k]? = w.heap[k]?) (hc : ∀ b o, A' ≤ b → b < B' → w'.cell? ⟨b, o, none⟩ = w.cell? ⟨b, o, none⟩) : KpS w' A B A' B' l v v' := by
  obtain ⟨ao', cap', e, h1, h2, h3⟩ := h
  refine ⟨ao', cap', e, h1, h2, ?_⟩
  rcases h3 with h3 | ⟨a', g, cur, e1, e2, ga, gb, hh, hs, hm, hx, b', o', e3, hi⟩
  · exact .inl h3
  · exact .inr ⟨a', g, cur, e1, e2, ga, gb, (hk g ga gb).trans hh, hs, hm, hx, b', o', e3, KpR.keep hk hc l _ b' o' hi⟩
theorem KpR.wide {w : World} {A B A' B' A2 B2 : Nat} (hA : A2 ≤ A) (hB : B ≤ B2) : ∀ (l : TL) (xs : List Value) (b o : Nat), KpR w A B A' B' l xs b o → KpR w A2 B2 A' B' l xs b o
  | .nil, _, _, _, _ => trivial
  | .cons f it r, xs, b, o, ⟨hab, iv, ao', cap', rest, e, hcl, h1, h2, h3, hr⟩ => by
    refine ⟨hab, iv, ao', cap', rest, e, hcl, h1, h2, ?_, KpR.wide hA hB r rest b (o + 9) hr⟩
    rcases h3 with h3 | ⟨a', g, cur, e1, e2, ga, gb, hh, hs, hm, hx, b', o', e3, hi⟩
    · exact .inl h3
    · exact .inr ⟨a', g, cur, e1, e2, by omega, by omega, hh, hs, hm, hx, b', o', e3, KpR.wide hA hB it _ b' o' hi⟩
theorem KpS.wide {w : World} {A B A' B' A2 B2 : Nat} {l : TL} {v v' : Value} (h : KpS w A B A' B' l v v') (hA : A2 ≤ A) (hB : B ≤ B2) : KpS w A2 B2 A' B' l v v' := by
  obtain ⟨ao', cap', e, h1, h2, h3⟩ := h
  refine ⟨ao', cap', e, h1, h2, ?_⟩
  rcases h3 with h3 | ⟨a', g, cur, e1, e2, ga, gb, hh, hs, hm, hx, b', o', e3, hi⟩
  · exact .inl h3
  · exact .inr ⟨a', g, cur, e1, e2, by omega, by omega, hh, hs, hm, hx, b', o', e3, KpR.wide hA hB l _ b' o' hi⟩
theorem KpS.below {w w' : World} {A B A' B' C : Nat} {l : TL} {v v' : Value} (h : KpS w A B A' B' l v v') (hb : Below C w w') (h1 : B ≤ C) (h2 : B' ≤ C) : KpS w' A B A' B' l v v' := h.keep (fun k _ hk => hb.block k (by omega)) (fun b o _ hk => below_cells hb h2 b o hk)
theorem KpR.more {w : World} {A B A' B' : Nat} : ∀ (l : TL) (xs ys : List Value) (b o : Nat), KpR w A B A' B' l xs b o → KpR w A B A' B' l (xs ++ ys) b o
  | .nil, _, _, _, _, _ => trivial
  | .cons f it r, xs, ys, b, o, h => by
    obtain ⟨ha, hb, iv, ao', cap', rest, rfl, hc, h1, hr⟩ := KpR.uncons h
    rw [List.append_assoc]
    exact KpR.cons ha hb hc h1 (KpR.more r rest ys b (o + 9) hr)
theorem KpR.snoc {w : World} {A B A' B' : Nat} {f : Fd} {it : TL} {iv : Value} {ao' : Option Addr} {cap' : Nat} : ∀ (l : TL) (xs : List Value) (b o : Nat), KpR w A B A' B' l xs b o → xs.length = l.len * 9 → A' ≤ b → b < B' → (∀ j v, (f.cells (.slice ao' it.len cap'))[j]? = some v → w.cell? ⟨b, o + l.len * 9 + j, none⟩ = some v) → KpS w A B A' B' it iv (.slice ao' it.len cap') →
    KpR w A B A' B' (l.app (.cons f it .nil)) (xs ++ f.cells iv) b o
  | .nil, xs, b, o, _, hl, ha, hb, hc, hi => by
    have : xs = [] := List.eq_nil_of_length_eq_zero (by simpa [TL.len] using hl)
    subst this
    have h2 := KpR.cons (w := w) (A := A) (B := B) (A' := A') (B' := B') (f := f) (r := .nil) (iv := iv) (rest := []) (o := o) ha hb (by simpa [TL.len] using hc) hi trivial
    rw [List.append_nil] at h2
    exact h2
  | .cons f2 it2 r, xs, b, o, h, hl, ha, hb, hc, hi => by
    obtain ⟨_, _, iv2, ao2, cap2, rest, rfl, hc2, h1, hr⟩ := KpR.uncons h
    rw [List.append_assoc]
    rw [List.length_append, cells_len] at hl
    simp only [TL.len] at hl hc
    refine KpR.cons ha hb hc2 h1 (KpR.snoc r rest b (o + 9) hr (by omega) ha hb (fun j v hj => ?_) hi)
    rw [show o + 9 + r.len * 9 + j = o + (r.len + 1) * 9 + j by omega]
    exact hc j v hj
theorem KpR.nwr {w : World} {A B A' B' : Nat} : ∀ (l : TL) (xs : List Value) (b o : Nat), KpR w A B A' B' l xs b o → NwR w A B l xs
  | .nil, _, _, _, _ => trivial
  | .cons f it r, xs, b, o, ⟨_, iv, ao', cap', rest, e, hcl, h1, h2, h3, hr⟩ => by
    rw [e]
    refine NwR.cons ?_ (KpR.nwr r rest b (o + 9) hr)
    rcases h3 with ⟨_, rfl, rfl⟩ | ⟨a', g, cur, e1, rfl, ga, gb, hh, hs, hm, hx, b', o', e3, hi⟩
    · exact NwS.nil _ _ _
    · exact ⟨_, _, rfl, by omega, hx, .inr ⟨g, cur, rfl, ga, gb, hh, hs, KpR.nwr it _ b' o' hi⟩⟩
/-- what is lent is new memory that reads as the original -/
theorem KpS.nws {w : World} {A B A' B' : Nat} {l : TL} {v v' : Value} (h : KpS w A B A' B' l v v') : NwS w A B l v := by
  obtain ⟨ao', cap', e, h1, h2, h3⟩ := h
  rcases h3 with ⟨_, rfl, rfl⟩ | ⟨a', g, cur, e1, rfl, ga, gb, hh, hs, hm, hx, b', o', e3, hi⟩
  · exact NwS.nil _ _ _
  · exact ⟨_, _, rfl, by omega, hx, .inr ⟨g, cur, rfl, ga, gb, hh, hs, KpR.nwr l _ b' o' hi⟩⟩
theorem mark_any (w : World) : Calls Tryz.prog 32 #[] w fun e w' => e = .returned (.agg #[.int .i64 (-7), .int .i64 4711, .int .i64 0, .string ⟨#[115, 112, 97, 114, 101]⟩, .string ⟨#[]⟩, .int .i64 0, .slice none 0 0, .string ⟨#[]⟩, .int .i64 0]) ∧ Below w.heap.size w w' := by
  go_enter Tryz.func32, Tryz.ntmps32
  go_wp2_with fail
  refine bodyPost_ret (results_one rfl _ _ w.heap.size _ _ _ _ _ _ _ _ _ rfl (heap_alloc_new _ _)) rfl ⟨rfl, below_alloc _ _⟩
def LendRet (f : Fd) (it : TL) (v' : Value) (A' B' : Nat) (w : World) (e : Ending) (w' : World) : Prop := ∃ ai ci, e = .returned (.agg #[.int .i64 f.k, .int .i64 f.i, .int .i64 f.g, .string f.nm, .string f.fn, .int .i64 f.ar, .slice ai it.len ci, .string f.bs, .int .i64 f.n]) ∧ KpS w' w.heap.size w'.heap.size A' B' it (.slice ai it.len ci) v' ∧ Below w.heap.size w w'
def LendsRet (l : TL) (v' : Value) (A' B' : Nat) (w : World) (e : Ending) (w' : World) : Prop := ∃ ai ci, e = .returned (.slice ai l.len ci) ∧ KpS w' w.heap.size w'.heap.size A' B' l (.slice ai l.len ci) v' ∧ Below w.heap.size w w'
def LendC (m : Nat) : Prop := ∀ (f : Fd) (it : TL) (v' : Value) (w : World) (A B : Nat), it.cnt ≤ m → m ≤ 1000000000 → RdS w A B it v' → B ≤ w.heap.size → Calls Tryz.prog 8 #[.agg #[.int .i64 f.k, .int .i64 f.i, .int .i64 f.g, .string f.nm, .string f.fn, .int .i64 f.ar, v', .string f.bs, .int .i64 f.n]] w (LendRet f it v' A B w)
def LendsC (m : Nat) : Prop := ∀ (l : TL) (v : Value) (w : World) (A B : Nat), l.cnt ≤ m → m ≤ 1000000000 → RdS w A B l v → B ≤ w.heap.size → Calls Tryz.prog 15 #[v] w (LendsRet l v A B w)
set_option maxHeartbeats 4000000 in
theorem lend_of (m : Nat) (hL : LendsC m) : LendC m := by
  intro f it iv w A B hm hbig hs hB
  have hc := fun W (hb : Below w.heap.size w W) => hL it iv W A B hm hbig (hs.below hb hB) (Nat.le_trans hB hb.size)
  obtain ⟨ao, cap, rfl, -, -, -⟩ := hs
  have HC := Lib.hid hc
  clear hc
  go_enter Tryz.func8, Tryz.ntmps8
  go_wp2_with fail
  refine (HC.out _ (balloc (below_alloc _ _) _)).mono ?_
  rintro e w2 ⟨ai, ci, rfl, hn, hb2⟩
  have HA := Lib.hid (keepB hb2 (new2_0 w _ _))
  have HR := Lib.hid (keepB hb2 (new2_1 w _ _))
  have HB := Lib.hid (bstep (balloc (balloc (Below.refl _ _) _) _) hb2)
  have HN := Lib.hid hn
  have hz : w.heap.size + 2 ≤ w2.heap.size := by have := hb2.size; simp at this; omega
  clear hb2 hn
  have c0 := cells_of HA.out 0
  have c1 := cells_of HA.out 1
  have c2 := cells_of HA.out 2
  have c3 := cells_of HA.out 3
  have c4 := cells_of HA.out 4
  have c5 := cells_of HA.out 5
  have c6 := cells_of HA.out 6
  have c7 := cells_of HA.out 7
  have c8 := cells_of HA.out 8
  simp only [List.getElem?_toArray, List.getElem?_cons_succ, List.getElem?_cons_zero] at c0 c1 c2 c3 c4 c5 c6 c7 c8
  have d0 := cells_of HR.out 0
  have d1 := cells_of HR.out 1
  have d2 := cells_of HR.out 2
  have d3 := cells_of HR.out 3
  have d4 := cells_of HR.out 4
  have d5 := cells_of HR.out 5
  have d6 := cells_of HR.out 6
  have d7 := cells_of HR.out 7
  have d8 := cells_of HR.out 8
  simp only [List.getElem?_toArray, List.getElem?_cons_succ, List.getElem?_cons_zero] at d0 d1 d2 d3 d4 d5 d6 d7 d8
  have fz : ∀ k, w2.frozen? ⟨w.heap.size, k, none⟩ = false := fun k => frees_of HA.out k
  have fr : ∀ k, w2.frozen? ⟨w.heap.size + 1, k, none⟩ = false := fun k => frees_of HR.out k
  simp only [World.size_alloc] at HN ⊢
  go_wp2_with fail
  refine bodyPost_ret (results_one rfl _ _ (w.heap.size + 1) _ _ _ _ _ _ _ _ _ rfl (nine_blk (blk_oth (HR.out) (by omega) _ _) _ _ _ _ _ _ _ _ _)) rfl ⟨_, _, rfl, ?_, ?_⟩
  · refine ((HN.out.keep (fun k h1 _ => ?_) fun b o _ h1 => World.cell?_of_block ?_).wide (by omega) (by simp))
    · repeat (rw [Below.heap_setCell _ _ _ _ (by simp only []; omega)])
    · repeat (rw [Below.heap_setCell _ _ _ _ (by simp only []; omega)])
  · repeat (with_reducible refine bset ?_ (by simp) _)
    exact HB.out
set_option maxHeartbeats 8000000 in
theorem lends_of (m : Nat) (hS : ∀ j, j < m → LendC j) : LendsC m := by
  intro l v w A B hm hbig hv hB
  obtain ⟨ao, cap, rfl, hcap, hmax, hr⟩ := hv
  have hll := TL.len_le_cnt l
  have hln : l.len ≤ 1000000000 := by omega
  cases ao with
  | none =>
    have hnil : l = .nil := by
      cases l with
      | nil => rfl
      | cons f it r => obtain ⟨_, _, h, _⟩ := hr (by simp); cases h
    subst hnil
    have hq := fun (w : World) (n c : Nat) => Lib.run_eql_slice_nil (P := Tryz.prog) w 22 24 none n c 0 0 Tryz.underlying22
    go_enter Tryz.func15, Tryz.ntmps15
    go_wp2_with fail
    go_ret
    exact ⟨none, 0, rfl, ⟨none, cap, rfl, hcap, hmax, .inl ⟨rfl, rfl, rfl⟩⟩, Below.refl _ _⟩
  | some a' =>
    obtain ⟨b, o, hbo⟩ : ∃ b o, l ≠ .nil → a' = ⟨b, o, none⟩ ∧ Rd w A B l b o := by
      by_cases hn : l = .nil
      · exact ⟨0, 0, fun h => absurd hn h⟩
      · obtain ⟨b, o, h1, h2⟩ := hr hn
        exact ⟨b, o, fun _ => ⟨by injection h1, h2⟩⟩
    have HR := Lib.hid hbo
    have HS := Lib.hid hS
    have HX := Lib.hid hmax
    have HMX := Lib.hid (show l.len + 2 ≤ maxLen by unfold maxLen; omega)
    clear hr hS hbo hmax
    obtain ⟨i0, hi, hz0, hz1, hz2⟩ := info_parts Tryz.info24
    have M1 := Lib.hid (show i0.bytes * (l.len + 2) ≤ 281474976710656 by rw [hz2]; omega)
    have hq := fun (w : World) (a : Addr) (n c : Nat) => Lib.run_eql_slice_nil (P := Tryz.prog) w 22 24 (some a) n c 0 0 Tryz.underlying22
    go_enter Tryz.func15, Tryz.ntmps15
    go_wp2_with (at_make; refine wpList_make_own _ rfl _ _ 22 rfl w.heap.size 24 i0 zeroV 9 Tryz.underlying22 hi hz0 hz1 _ _ _ (l.len + 2) rfl rfl (by omega) M1.out HMX.out (Nat.le_refl _) ?_; intro w0 hown0 hgrow0)
    have HO0 := Lib.hid hown0
    have HB0 := Lib.hid ((Below.refl w.heap.size w).grown hgrow0 (Nat.le_refl _) (fun k h => by cases h))
    clear hown0 hgrow0
    go_wp2_with fail
    go_loopw [3, 4] (fun out i wr => ∃ (k : Nat) (xs : List Value), k ≤ l.len ∧ i = .int .i64 k ∧ out = .slice (some ⟨w.heap.size, 0, none⟩) k (l.len + 2) ∧ Hid (wr.ownsRow w.heap.size 24 9 (.slice (some ⟨w.heap.size, 0, none⟩) k (l.len + 2)) k xs) ∧ Hid (KpR wr (w.heap.size + 1) wr.heap.size A B (l.take k) xs b o) ∧ Hid (Below w.heap.size w wr)) (fun _ i _ => l.len - (intOf i).toNat)
    case atStart => exact ⟨0, [], Nat.zero_le _, rfl, rfl, HO0, Lib.hid (by rw [TL.take_zero]; exact trivial), HB0⟩
    case round =>
      obtain ⟨k, xs, hk, rfl, rfl, HO, HN, HB⟩ := hrel
      have hzr := HB.out.size
      have hzr2 := (HO.out.lt w.heap.size rfl).2
      by_cases hlt : k < l.len
      · have hlt' : (k : Int) < (l.len : Int) := by omega
        obtain ⟨f, it, e1⟩ := TL.drop_at l k hlt
        obtain ⟨rfl, hrd⟩ := HR.out (by intro e; rw [e] at hlt; simp [TL.len] at hlt)
        obtain ⟨hb, ai, ci, ⟨c0, c1, c2, c3, c4, c5, c6, c7, c8⟩, hit⟩ := Rd.nine hrd e1 (below_cells HB.out hB)
        have hA := (Rd.at_ l b o k f it _ hrd e1).1
        have hcnt : it.cnt < m := by
          have h1 := TL.cnt_drop l k
          rw [e1] at h1
          simp only [TL.cnt] at h1
          omega
        have hcall := HS.out it.cnt hcnt f it (.slice ai it.len ci) wr A B (Nat.le_refl _) (by omega) hit (Nat.le_trans hB HB.out.size)
        have HCall := Lib.hid hcall
        have HTake := Lib.hid (take_snoc l k f it _ e1)
        have HC := Lib.hid (show ∀ j v, (f.cells (.slice ai it.len ci))[j]? = some v → wr.cell? ⟨b, o + k * 9 + j, none⟩ = some v from fun j v hj => by
          match j, hj with
          | 0, hj => cases hj; exact c0
          | 1, hj => cases hj; exact c1
          | 2, hj => cases hj; exact c2
          | 3, hj => cases hj; exact c3
          | 4, hj => cases hj; exact c4
          | 5, hj => cases hj; exact c5
          | 6, hj => cases hj; exact c6
          | 7, hj => cases hj; exact c7
          | 8, hj => cases hj; exact c8)
        clear hrd hit hcall e1
        go_wp2_with fail
        refine HCall.out.mono ?_
        rintro e w2 ⟨ai2, ci2, rfl, hn2, hb2⟩
        have HN2 := Lib.hid hn2
        have HB2 := Lib.hid hb2
        have hz2' := hb2.size
        have HO2 := Lib.hid (own_below HO.out hb2 (Nat.le_refl _))
        clear hn2 hb2 c0 c1 c2 c3 c4 c5 c6 c7 c8
        go_wp2_with (at_builtin; refine wpList_append_fits _ rfl (.tmp 17) (.tmp 23) 22 rfl w.heap.size 24 i0 9 Tryz.underlying22 hi hz1 w.heap.size k (l.len + 2) xs rfl (HO2.out.alloc _) ⟨w2.heap.size, 0, none⟩ 1 1 [.int .i64 f.k, .int .i64 f.i, .int .i64 f.g, .string f.nm, .string f.fn, .int .i64 f.ar, .slice ai2 it.len ci2, .string f.bs, .int .i64 f.n] rfl rfl (news_one (heap_alloc_new _ _)) (cells_one f ai2 it.len ci2) (by omega) ?_; intro w3 hown3 hgrow3)
        have hz3 : w2.heap.size ≤ w3.heap.size := by have := hgrow3.size; simp at this; omega
        refine ⟨⟨k + 1, _, by omega, by go_num, rfl, Lib.hid hown3, Lib.hid ?_, Lib.hid (below_chain HB.out HB2.out hgrow3 hzr (Nat.le_refl _))⟩, by simp only [intOf]; omega⟩
        rw [HTake.out]
        have hch : ∀ b o, A ≤ b → b < B → w3.cell? ⟨b, o, none⟩ = wr.cell? ⟨b, o, none⟩ := fun b o _ h2 => World.cell?_of_block (grown_chain HB2.out hgrow3 b (by omega) (by omega))
        refine KpR.snoc (iv := .slice ai2 it.len ci2) (ao' := ai) (cap' := ci) _ _ b o ?_ ?_ hA hb ?_ ?_
        · exact KpR.wide (Nat.le_refl _) (by omega) _ _ _ _ (KpR.keep (fun j h1 h2 => grown_chain HB2.out hgrow3 j h2 (by omega)) hch _ _ _ _ HN.out)
        · rw [take_len _ _ hk]; exact HO.out.1
        · intro j v hj
          rw [take_len _ _ hk]
          exact (hch b _ hA hb).trans (HC.out j v hj)
        · exact (HN2.out.keep (fun j h1 h2 => grown_chain (Below.refl _ _) hgrow3 j h2 (by omega)) fun b o _ h2 => World.cell?_of_block (grown_chain (Below.refl _ _) hgrow3 b (by omega) (by omega))).wide (by omega) (by omega)
      · have hlt' : ¬ (k : Int) < (l.len : Int) := by omega
        obtain rfl : k = l.len := by omega
        go_wp2_with fail
        refine (mark_any _).mono ?_
        rintro e w2 ⟨rfl, hb2⟩
        have HB2 := Lib.hid hb2
        clear hb2
        go_wp2_with fail
        refine (mark_any _).mono ?_
        rintro e w3 ⟨rfl, hb3⟩
        have HB3 := Lib.hid (HB2.out.trans (hb3.mono HB2.out.size))
        have hz3 := HB3.out.size
        clear hb3
        have HO3 := Lib.hid (own_below HO.out HB3.out (Nat.le_refl _))
        go_wp2_with (at_builtin; refine wpList_append_fits _ rfl (.tmp 25) (.tmp 28) 22 rfl w.heap.size 24 i0 9 Tryz.underlying22 hi hz1 w.heap.size l.len (l.len + 2) xs rfl (HO3.out.alloc _) ⟨w3.heap.size, 0, none⟩ 2 2 [.int .i64 (-7), .int .i64 4711, .int .i64 0, .string ⟨#[115, 112, 97, 114, 101]⟩, .string ⟨#[]⟩, .int .i64 0, .slice none 0 0, .string ⟨#[]⟩, .int .i64 0, .int .i64 (-7), .int .i64 4711, .int .i64 0, .string ⟨#[115, 112, 97, 114, 101]⟩, .string ⟨#[]⟩, .int .i64 0, .slice none 0 0, .string ⟨#[]⟩, .int .i64 0] rfl rfl (news_one (heap_alloc_new _ _)) (by decide) (by omega) ?_; intro w4 hown4 hgrow4)
        go_ret
        have hch : ∀ b o, A ≤ b → b < B → w4.cell? ⟨b, o, none⟩ = wr.cell? ⟨b, o, none⟩ := fun b o _ h2 => World.cell?_of_block (grown_chain HB3.out hgrow4 b (by omega) (by omega))
        have hz4 : w3.heap.size ≤ w4.heap.size := by have := hgrow4.size; simp at this; omega
        have hN : KpR wr (w.heap.size + 1) wr.heap.size A B l xs b o := by have h := HN.out; rwa [take_all _ _ (Nat.le_refl _)] at h
        have hl := HO.out.1
        obtain ⟨cur, hh, hs, ht⟩ := own_full hown4
        refine ⟨some ⟨w.heap.size, 0, none⟩, l.len + 2, rfl, ⟨some a', cap, rfl, hcap, HX.out, .inr ⟨a', w.heap.size, cur, rfl, rfl, Nat.le_refl _, by omega, hh, hs, ?_, HMX.out, b, o, fun h => (HR.out h).1, ?_⟩⟩, below_chain HB.out HB3.out hgrow4 hzr (Nat.le_refl _)⟩
        · rw [ht, ← hl]
          exact List.drop_left
        · rw [ht]
          exact KpR.more _ _ _ _ _ (KpR.wide (by omega) (by omega) _ _ _ _ (KpR.keep (fun j h1 h2 => grown_chain HB3.out hgrow4 j h2 (by omega)) hch _ _ _ _ hN))
theorem lend_all (m : Nat) : LendC m ∧ LendsC m := by
  induction m using Nat.strongRecOn with
  | _ m ih =>
    have h := lends_of m fun j hj => (ih j hj).1
    exact ⟨lend_of m h, h⟩
end Go.Proofs.YtgfodedmcjkmaaaGreatDoor
