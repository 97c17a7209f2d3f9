/-
  The makers of the program and of the reference answer one and the same: codes, fields and items under one name.
-/
import Derived.Test.YtgbaelkoblnlhaaBook
import Derived.Test.YtgbaelkoblnlhaaMake3
namespace Go.Proofs.Ytgbaelkoblnlhaa
open Go.RowKit
theorem left_cnt {l : TL} {m : Int} (hm : m ≤ 1000000) (h : 0 ≤ leftF l m) : (l.cnt : Int) ≤ m ∧ l.small 1000000 := by
  obtain ⟨h1, h2⟩ := leftF_cnt _ _ h
  exact ⟨by omega, TL.small_mono (by omega) _ h2⟩
theorem tame_zero : tame Fd.zero .nil := ⟨Nat.zero_le _, Nat.zero_le _, Nat.zero_le _, Nat.zero_le _, trivial⟩
theorem tame_k {k : Int} {l : TL} (hc : l.cnt ≤ 1000000) (hs : l.small 1000000) : tame (kF k) l := ⟨hc, Nat.zero_le _, Nat.zero_le _, Nat.zero_le _, hs⟩
theorem tame_res {c : Int} {f : Fd} {it : TL} (h : tame f it) : tame (resF c f) (resL c it) ∧ (resL c it).cnt ≤ it.cnt := by
  unfold resF resL
  split
  · exact ⟨h, Nat.le_refl _⟩
  · exact ⟨tame_zero, Nat.zero_le _⟩
theorem tame_list {l : TL} {f : Fd} {it : TL} (hm : l.cnt + it.cnt + 1 ≤ 1000000) (hsm : l.small 1000000) (ht : tame f it) : tame (lstF l f) (lstL l f it) ∧ (lstL l f it).cnt ≤ l.cnt + it.cnt + 1 := by
  unfold lstF lstL
  split
  · exact ⟨ht, by omega⟩
  · have h1 := tailL_cnt f it
    have h2 := app_cnt l (tailL f it)
    exact ⟨tame_k (by omega) (small_app hsm (tailL_small ht.2)), by omega⟩
theorem tuple_both (l : TL) (hm : l.cnt ≤ 1000000) (hsm : l.small 1000000) : ∃ (C : Int) (F : Fd) (L : TL),
    (∀ v w A B, RdS w A B l v → B ≤ w.heap.size → Calls Try.prog 33 #[v] w (NewP (.int .i64 C) F L w)) ∧
    (∀ S v w, (∀ b, S b → b < w.heap.size) → RdXS w S l v → Calls Try.prog 45 #[v] w (OldX S (.int .i64 C) F L w)) :=
  ⟨_, _, _, fun v w A B h hB => pTuple_any l v w A B (by omega) hsm h hB, fun S v w hS h => rTuple_any S l v w hS hm hsm h⟩
theorem list_both (l : TL) (f : Fd) (it : TL) (hm : l.cnt + it.cnt + 1 ≤ 1000000) (hsm : l.small 1000000) (ht : tame f it) : ∃ (C : Int) (F : Fd) (L : TL),
    (∀ v iv w A B A' B', RdS w A B l v → RdS w A' B' it iv → B ≤ w.heap.size → B' ≤ w.heap.size → Calls Try.prog 34 #[v, .agg #[.int .i64 f.k, .int .i64 f.i, .int .i64 f.g, .string f.nm, .string f.fn, .int .i64 f.ar, iv, .string f.bs, .int .i64 f.n]] w (NewP (.int .i64 C) F L w)) ∧
    (∀ S v iv w, (∀ b, S b → b < w.heap.size) → RdXS w S l v → RdXS w S it iv → Calls Try.prog 46 #[v, .agg #[.int .i64 f.k, .int .i64 f.i, .int .i64 f.g, .string f.nm, .string f.fn, .int .i64 f.ar, iv, .string f.bs, .int .i64 f.n]] w (OldX S (.int .i64 C) F L w)) ∧
    tame F L ∧ L.cnt ≤ l.cnt + it.cnt + 1 := by
  have h1 := tame_list hm hsm ht
  have h2 := tame_res (c := lstC l f it) h1.1
  exact ⟨_, _, _, fun v iv w A B A' B' h h' hB hB' => pList_any l v f it iv w A B A' B' (by omega) hsm ht h h' hB hB', fun S v iv w hS h h' => rList_any S l v f it iv w hS hm hsm ht.2 h h', h2.1, by omega⟩
theorem cons_both (f : Fd) (it : TL) (f' : Fd) (it' : TL) (hm : it.cnt + it'.cnt + 2 ≤ 1000000) (ht : tame f it) (ht' : tame f' it') : ∃ (C : Int) (F : Fd) (L : TL),
    (∀ iv iv' w A B A' B', RdS w A B it iv → RdS w A' B' it' iv' → B ≤ w.heap.size → B' ≤ w.heap.size → Calls Try.prog 36 #[.agg #[.int .i64 f.k, .int .i64 f.i, .int .i64 f.g, .string f.nm, .string f.fn, .int .i64 f.ar, iv, .string f.bs, .int .i64 f.n], .agg #[.int .i64 f'.k, .int .i64 f'.i, .int .i64 f'.g, .string f'.nm, .string f'.fn, .int .i64 f'.ar, iv', .string f'.bs, .int .i64 f'.n]] w (NewP (.int .i64 C) F L w)) ∧
    (∀ S iv iv' w, (∀ b, S b → b < w.heap.size) → RdXS w S it iv → RdXS w S it' iv' → Calls Try.prog 47 #[.agg #[.int .i64 f.k, .int .i64 f.i, .int .i64 f.g, .string f.nm, .string f.fn, .int .i64 f.ar, iv, .string f.bs, .int .i64 f.n], .agg #[.int .i64 f'.k, .int .i64 f'.i, .int .i64 f'.g, .string f'.nm, .string f'.fn, .int .i64 f'.ar, iv', .string f'.bs, .int .i64 f'.n]] w (OldX S (.int .i64 C) F L w)) :=
  ⟨_, _, _, fun iv iv' w A B A' B' h h' hB hB' => pCons_any f it iv f' it' iv' w A B A' B' ht (by omega) ht' h h' hB hB', fun S iv iv' w hS h h' => rCons_any S f it iv f' it' iv' w hS (by omega) ht.2 ht'.2 h h'⟩
end Go.Proofs.Ytgbaelkoblnlhaa
