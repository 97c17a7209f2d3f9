/-
  Walks: terms.Same and terms.alike of two terms, of any size.
-/
import Derived.Test.YtgfodedmcjkmaaaDoorKitSame
namespace Go.Proofs.YtgfodedmcjkmaaaDoor
open Go.RowKit
theorem keep_al1 {w : World} {a : Addr} {v : Value} (h : w.cell? a = some v) (o : Obj) : (w.alloc o).cell? a = some v := by
  have hlt : a.block < w.heap.size := World.block_lt_of_cell? w a h
  rw [World.cell?_of_block (w := w) (Below.heap_alloc _ _ _ hlt)]; exact h
def pgSameC (m : Nat) : Prop := ∀ (f : Fd) (it : TL) (f' : Fd) (it' : TL) (v v' : Value) (w : World) (A B : Nat), it.cnt ≤ m → RdT w A B f it v → RdT w A B f' it' v' → B ≤ w.heap.size →
  Calls Tryd.prog 82 #[v, v'] w fun e w' => e = .returned (.bool (f.same f' && it.same it')) ∧ Below w.heap.size w w'
def pgListC (m : Nat) : Prop := ∀ (l l' : TL) (v v' : Value) (w : World) (A B : Nat), l.cnt ≤ m → RdS w A B l v → RdS w A B l' v' → B ≤ w.heap.size →
  Calls Tryd.prog 91 #[v, v', .func (.func 82) #[] #[]] w fun e w' => e = .returned (.bool (l.same l')) ∧ Below w.heap.size w w'
set_option maxHeartbeats 4000000 in
theorem pgSame_of (m : Nat) (hL : pgListC m) : pgSameC m := by
  intro f it f' it' v v' w A B hm hv hv' hB
  obtain ⟨iv, rfl, hs⟩ := hv
  obtain ⟨iv', rfl, hs'⟩ := hv'
  have hc := fun W (hb : Below w.heap.size w W) => hL it it' iv iv' W A B hm (hs.below hb hB) (hs'.below hb hB) (Nat.le_trans hB hb.size)
  obtain ⟨ao, cap, rfl, -, -, -⟩ := hs
  obtain ⟨ao', cap', rfl, -, -, -⟩ := hs'
  obtain ⟨k, i, g, nm, fn, ar, bs, n⟩ := f
  obtain ⟨k', i', g', nm', fn', ar', bs', n'⟩ := f'
  have HC := Lib.hid hc
  clear hc
  unfold Fd.val Fd.cells
  by_cases hk : k = k'
  case neg =>
    have hx : (k == k') = false := by simpa using hk
    have HN := Lib.hid (show Fd.same (Fd.mk k i g nm fn ar bs n) (Fd.mk k' i' g' nm' fn' ar' bs' n') = false by
      cases e : Fd.same _ _
      · rfl
      · exact absurd (by have := Fd.same_iff.1 e; injection this) hk)
    rw [HN.out, Bool.false_and]
    clear hk
    go_enter Tryd.func82, Tryd.ntmps82
    go_wp2_with fail
    go_ret
    exact ⟨rfl, balloc (below_alloc _ _) _⟩
  subst hk
  by_cases hi : i = i'
  case neg =>
    have hx : (i == i') = false := by simpa using hi
    have HN := Lib.hid (show Fd.same (Fd.mk k i g nm fn ar bs n) (Fd.mk k i' g' nm' fn' ar' bs' n') = false by
      cases e : Fd.same _ _
      · rfl
      · exact absurd (by have := Fd.same_iff.1 e; injection this) hi)
    rw [HN.out, Bool.false_and]
    clear hi
    go_enter Tryd.func82, Tryd.ntmps82
    go_wp2_with fail
    go_ret
    exact ⟨rfl, balloc (below_alloc _ _) _⟩
  subst hi
  by_cases hg : g = g'
  case neg =>
    have hx : (g == g') = false := by simpa using hg
    have HN := Lib.hid (show Fd.same (Fd.mk k i g nm fn ar bs n) (Fd.mk k i g' nm' fn' ar' bs' n') = false by
      cases e : Fd.same _ _
      · rfl
      · exact absurd (by have := Fd.same_iff.1 e; injection this) hg)
    rw [HN.out, Bool.false_and]
    clear hg
    go_enter Tryd.func82, Tryd.ntmps82
    go_wp2_with fail
    go_ret
    exact ⟨rfl, balloc (below_alloc _ _) _⟩
  subst hg
  by_cases hnm : nm = nm'
  case neg =>
    have hx : (nm.toList == nm'.toList) = false := by
      rw [ByteArray.toList_eq, ByteArray.toList_eq]; simpa using fun e => hnm (ByteArray.ext (Array.ext' e))
    have HN := Lib.hid (show Fd.same (Fd.mk k i g nm fn ar bs n) (Fd.mk k i g nm' fn' ar' bs' n') = false by
      cases e : Fd.same _ _
      · rfl
      · exact absurd (by have := Fd.same_iff.1 e; injection this) hnm)
    rw [HN.out, Bool.false_and]
    clear hnm
    go_enter Tryd.func82, Tryd.ntmps82
    go_wp2_with fail
    go_ret
    exact ⟨rfl, balloc (below_alloc _ _) _⟩
  subst hnm
  by_cases hfn : fn = fn'
  case neg =>
    have hx : (fn.toList == fn'.toList) = false := by
      rw [ByteArray.toList_eq, ByteArray.toList_eq]; simpa using fun e => hfn (ByteArray.ext (Array.ext' e))
    have HN := Lib.hid (show Fd.same (Fd.mk k i g nm fn ar bs n) (Fd.mk k i g nm fn' ar' bs' n') = false by
      cases e : Fd.same _ _
      · rfl
      · exact absurd (by have := Fd.same_iff.1 e; injection this) hfn)
    rw [HN.out, Bool.false_and]
    clear hfn
    go_enter Tryd.func82, Tryd.ntmps82
    go_wp2_with fail
    go_ret
    exact ⟨rfl, balloc (below_alloc _ _) _⟩
  subst hfn
  by_cases har : ar = ar'
  case neg =>
    have hx : (ar == ar') = false := by simpa using har
    have HN := Lib.hid (show Fd.same (Fd.mk k i g nm fn ar bs n) (Fd.mk k i g nm fn ar' bs' n') = false by
      cases e : Fd.same _ _
      · rfl
      · exact absurd (by have := Fd.same_iff.1 e; injection this) har)
    rw [HN.out, Bool.false_and]
    clear har
    go_enter Tryd.func82, Tryd.ntmps82
    go_wp2_with fail
    go_ret
    exact ⟨rfl, balloc (below_alloc _ _) _⟩
  subst har
  by_cases hbs : bs = bs'
  case neg =>
    have hx : (bs.toList == bs'.toList) = false := by
      rw [ByteArray.toList_eq, ByteArray.toList_eq]; simpa using fun e => hbs (ByteArray.ext (Array.ext' e))
    have HN := Lib.hid (show Fd.same (Fd.mk k i g nm fn ar bs n) (Fd.mk k i g nm fn ar bs' n') = false by
      cases e : Fd.same _ _
      · rfl
      · exact absurd (by have := Fd.same_iff.1 e; injection this) hbs)
    rw [HN.out, Bool.false_and]
    clear hbs
    go_enter Tryd.func82, Tryd.ntmps82
    go_wp2_with fail
    go_ret
    exact ⟨rfl, balloc (below_alloc _ _) _⟩
  subst hbs
  by_cases hn : n = n'
  case neg =>
    have hx : (n == n') = false := by simpa using hn
    have HN := Lib.hid (show Fd.same (Fd.mk k i g nm fn ar bs n) (Fd.mk k i g nm fn ar bs n') = false by
      cases e : Fd.same _ _
      · rfl
      · exact absurd (by have := Fd.same_iff.1 e; injection this) hn)
    rw [HN.out, Bool.false_and]
    clear hn
    go_enter Tryd.func82, Tryd.ntmps82
    go_wp2_with fail
    go_ret
    exact ⟨rfl, balloc (below_alloc _ _) _⟩
  subst hn
  rw [Fd.same_iff.2 rfl, Bool.true_and]
  generalize it.same it' = s at HC ⊢
  go_enter Tryd.func82, Tryd.ntmps82
  go_wp2_with fail
  refine (HC.out _ (balloc (below_alloc _ _) _)).mono ?_
  rintro e w1 ⟨rfl, hb⟩
  go_wp2_with fail
  go_ret
  exact ⟨rfl, bstep (balloc (below_alloc _ _) _) hb⟩
set_option maxHeartbeats 4000000 in
theorem pgList_of (m : Nat) (hS : ∀ j, j < m → pgSameC j) : pgListC m := by
  intro l l' v v' w A B hm hv hv' hB
  have HV := Lib.hid hv
  have HV' := Lib.hid hv'
  obtain ⟨ao, cap, rfl, hcap, hmax, hr⟩ := hv
  obtain ⟨ao', cap', rfl, hcap', hmax', hr'⟩ := hv'
  unfold maxLen at hmax hmax'
  have HR := Lib.hid hr
  have HR' := Lib.hid hr'
  have HS := Lib.hid hS
  clear hr hr' hS
  by_cases hlen : l.len = l'.len
  · have HL := Lib.hid hlen
    have hlb : ((l.len : Int) != (l'.len : Int)) = false := by simp [hlen]
    clear hlen
    go_enter Tryd.func91, Tryd.ntmps91
    go_wp2_with fail
    go_loopw [16] (fun i wr => ∃ k : Nat, k ≤ l.len ∧ i = .int .i64 k ∧ Hid (l.same l' = (l.drop k).same (l'.drop k)) ∧ Hid (Below w.heap.size w wr)) (fun i _ => l.len - (intOf i).toNat)
    case atStart => exact ⟨0, Nat.zero_le _, rfl, Lib.hid (by rw [TL.drop_zero, TL.drop_zero]), Lib.hid (Below.refl _ _)⟩
    case round =>
      obtain ⟨k, hk, rfl, HE, HB⟩ := hrel
      by_cases hlt : k < l.len
      · have hlt' : (k : Int) < (l.len : Int) := by omega
        have hlt2 : (k : Int) < (l'.len : Int) := by have := HL.out; omega
        obtain ⟨f, it, e1⟩ := TL.drop_at l k hlt
        obtain ⟨f', it', e2⟩ := TL.drop_at l' k (by have := HL.out; omega)
        obtain ⟨b, o, rfl, hrd⟩ := HR.out (by intro e; rw [e] at hlt; simp [TL.len] at hlt)
        obtain ⟨b', o', rfl, hrd'⟩ := HR'.out (by intro e; have := HL.out; rw [e] at this; simp [TL.len] at this; omega)
        obtain ⟨-, hb, iv, hcl, hit⟩ := Rd.at_ l b o k f it _ hrd e1
        obtain ⟨-, hb', iv', hcl', hit'⟩ := Rd.at_ l' b' o' k f' it' _ hrd' e2
        have hcw : ∀ j v, (f.cells iv)[j]? = some v → wr.cell? ⟨b, o + 9 * k + j, none⟩ = some v := fun j v hj => (HB.out.cell (p := ⟨b, o + 9 * k + j, none⟩) (by exact Nat.lt_of_lt_of_le hb hB)).trans (hcl j v hj)
        have hcw' : ∀ j v, (f'.cells iv')[j]? = some v → wr.cell? ⟨b', o' + 9 * k + j, none⟩ = some v := fun j v hj => (HB.out.cell (p := ⟨b', o' + 9 * k + j, none⟩) (by exact Nat.lt_of_lt_of_le hb' hB)).trans (hcl' j v hj)
        have c0 : wr.cell? ⟨b, o + k * 9, none⟩ = some (.int .i64 f.k) := by have h := hcw 0 _ rfl; rw [Nat.mul_comm 9 k] at h; exact h
        have c1 : wr.cell? ⟨b, o + k * 9 + 1, none⟩ = some (.int .i64 f.i) := by have h := hcw 1 _ rfl; rw [Nat.mul_comm 9 k] at h; exact h
        have c2 : wr.cell? ⟨b, o + k * 9 + 2, none⟩ = some (.int .i64 f.g) := by have h := hcw 2 _ rfl; rw [Nat.mul_comm 9 k] at h; exact h
        have c3 : wr.cell? ⟨b, o + k * 9 + 3, none⟩ = some (.string f.nm) := by have h := hcw 3 _ rfl; rw [Nat.mul_comm 9 k] at h; exact h
        have c4 : wr.cell? ⟨b, o + k * 9 + 4, none⟩ = some (.string f.fn) := by have h := hcw 4 _ rfl; rw [Nat.mul_comm 9 k] at h; exact h
        have c5 : wr.cell? ⟨b, o + k * 9 + 5, none⟩ = some (.int .i64 f.ar) := by have h := hcw 5 _ rfl; rw [Nat.mul_comm 9 k] at h; exact h
        have c6 : wr.cell? ⟨b, o + k * 9 + 6, none⟩ = some (iv) := by have h := hcw 6 _ rfl; rw [Nat.mul_comm 9 k] at h; exact h
        have c7 : wr.cell? ⟨b, o + k * 9 + 7, none⟩ = some (.string f.bs) := by have h := hcw 7 _ rfl; rw [Nat.mul_comm 9 k] at h; exact h
        have c8 : wr.cell? ⟨b, o + k * 9 + 8, none⟩ = some (.int .i64 f.n) := by have h := hcw 8 _ rfl; rw [Nat.mul_comm 9 k] at h; exact h
        have d0 : wr.cell? ⟨b', o' + k * 9, none⟩ = some (.int .i64 f'.k) := by have h := hcw' 0 _ rfl; rw [Nat.mul_comm 9 k] at h; exact h
        have d1 : wr.cell? ⟨b', o' + k * 9 + 1, none⟩ = some (.int .i64 f'.i) := by have h := hcw' 1 _ rfl; rw [Nat.mul_comm 9 k] at h; exact h
        have d2 : wr.cell? ⟨b', o' + k * 9 + 2, none⟩ = some (.int .i64 f'.g) := by have h := hcw' 2 _ rfl; rw [Nat.mul_comm 9 k] at h; exact h
        have d3 : wr.cell? ⟨b', o' + k * 9 + 3, none⟩ = some (.string f'.nm) := by have h := hcw' 3 _ rfl; rw [Nat.mul_comm 9 k] at h; exact h
        have d4 : wr.cell? ⟨b', o' + k * 9 + 4, none⟩ = some (.string f'.fn) := by have h := hcw' 4 _ rfl; rw [Nat.mul_comm 9 k] at h; exact h
        have d5 : wr.cell? ⟨b', o' + k * 9 + 5, none⟩ = some (.int .i64 f'.ar) := by have h := hcw' 5 _ rfl; rw [Nat.mul_comm 9 k] at h; exact h
        have d6 : wr.cell? ⟨b', o' + k * 9 + 6, none⟩ = some (iv') := by have h := hcw' 6 _ rfl; rw [Nat.mul_comm 9 k] at h; exact h
        have d7 : wr.cell? ⟨b', o' + k * 9 + 7, none⟩ = some (.string f'.bs) := by have h := hcw' 7 _ rfl; rw [Nat.mul_comm 9 k] at h; exact h
        have d8 : wr.cell? ⟨b', o' + k * 9 + 8, none⟩ = some (.int .i64 f'.n) := by have h := hcw' 8 _ rfl; rw [Nat.mul_comm 9 k] at h; exact h
        have hcnt : it.cnt < m := by
          have h1 := TL.cnt_drop l k
          rw [e1] at h1
          simp only [TL.cnt] at h1
          omega
        have hcall := fun W (hb : Below w.heap.size w W) => HS.out it.cnt hcnt f it f' it' (f.val iv) (f'.val iv') W A B (Nat.le_refl _) ⟨iv, rfl, hit.below hb hB⟩ ⟨iv', rfl, hit'.below hb hB⟩ (Nat.le_trans hB hb.size)
        have hsc := TL.same_cons f f' it it' (l.drop (k + 1)) (l'.drop (k + 1))
        rw [← e1, ← e2, ← HE.out] at hsc
        generalize (f.same f' && it.same it') = s at hcall hsc
        have HSc := Lib.hid hsc
        clear hsc
        unfold Fd.val Fd.cells at hcall
        have HCall := Lib.hid hcall
        have HIT := Lib.hid hit
        clear hcl hcl' hcw hcw' hrd hrd' hcall e1 e2 hit hit'
        obtain ⟨ai, ci, rfl, -, -, -⟩ := HIT.out
        go_wp2_with fail
        have hz := World.block_lt_of_cell? wr _ d0
        simp only at hz
        go_region_held3 (fun w' => w'.cell? ⟨wr.heap.size, 0, none⟩ = some (.int .i64 f.k) ∧ w'.cell? ⟨wr.heap.size, 1, none⟩ = some (.int .i64 f.i) ∧ w'.cell? ⟨wr.heap.size, 2, none⟩ = some (.int .i64 f.g) ∧ w'.cell? ⟨wr.heap.size, 3, none⟩ = some (.string f.nm) ∧ w'.cell? ⟨wr.heap.size, 4, none⟩ = some (.string f.fn) ∧ w'.cell? ⟨wr.heap.size, 5, none⟩ = some (.int .i64 f.ar) ∧ w'.cell? ⟨wr.heap.size, 6, none⟩ = some ((.slice ai it.len ci)) ∧ w'.cell? ⟨wr.heap.size, 7, none⟩ = some (.string f.bs) ∧ w'.cell? ⟨wr.heap.size, 8, none⟩ = some (.int .i64 f.n) ∧ w'.cell? ⟨b', o' + k * 9, none⟩ = some (.int .i64 f'.k) ∧ w'.cell? ⟨b', o' + k * 9 + 1, none⟩ = some (.int .i64 f'.i) ∧ w'.cell? ⟨b', o' + k * 9 + 2, none⟩ = some (.int .i64 f'.g) ∧ w'.cell? ⟨b', o' + k * 9 + 3, none⟩ = some (.string f'.nm) ∧ w'.cell? ⟨b', o' + k * 9 + 4, none⟩ = some (.string f'.fn) ∧ w'.cell? ⟨b', o' + k * 9 + 5, none⟩ = some (.int .i64 f'.ar) ∧ w'.cell? ⟨b', o' + k * 9 + 6, none⟩ = some (iv') ∧ w'.cell? ⟨b', o' + k * 9 + 7, none⟩ = some (.string f'.bs) ∧ w'.cell? ⟨b', o' + k * 9 + 8, none⟩ = some (.int .i64 f'.n))
          (first
            | (exact ⟨cells_of (new1_0 wr (.cells #[.int .i64 f.k, .int .i64 f.i, .int .i64 f.g, .string f.nm, .string f.fn, .int .i64 f.ar, (.slice ai it.len ci), .string f.bs, .int .i64 f.n] 24)) 0, cells_of (new1_0 wr (.cells #[.int .i64 f.k, .int .i64 f.i, .int .i64 f.g, .string f.nm, .string f.fn, .int .i64 f.ar, (.slice ai it.len ci), .string f.bs, .int .i64 f.n] 24)) 1, cells_of (new1_0 wr (.cells #[.int .i64 f.k, .int .i64 f.i, .int .i64 f.g, .string f.nm, .string f.fn, .int .i64 f.ar, (.slice ai it.len ci), .string f.bs, .int .i64 f.n] 24)) 2, cells_of (new1_0 wr (.cells #[.int .i64 f.k, .int .i64 f.i, .int .i64 f.g, .string f.nm, .string f.fn, .int .i64 f.ar, (.slice ai it.len ci), .string f.bs, .int .i64 f.n] 24)) 3, cells_of (new1_0 wr (.cells #[.int .i64 f.k, .int .i64 f.i, .int .i64 f.g, .string f.nm, .string f.fn, .int .i64 f.ar, (.slice ai it.len ci), .string f.bs, .int .i64 f.n] 24)) 4, cells_of (new1_0 wr (.cells #[.int .i64 f.k, .int .i64 f.i, .int .i64 f.g, .string f.nm, .string f.fn, .int .i64 f.ar, (.slice ai it.len ci), .string f.bs, .int .i64 f.n] 24)) 5, cells_of (new1_0 wr (.cells #[.int .i64 f.k, .int .i64 f.i, .int .i64 f.g, .string f.nm, .string f.fn, .int .i64 f.ar, (.slice ai it.len ci), .string f.bs, .int .i64 f.n] 24)) 6, cells_of (new1_0 wr (.cells #[.int .i64 f.k, .int .i64 f.i, .int .i64 f.g, .string f.nm, .string f.fn, .int .i64 f.ar, (.slice ai it.len ci), .string f.bs, .int .i64 f.n] 24)) 7, cells_of (new1_0 wr (.cells #[.int .i64 f.k, .int .i64 f.i, .int .i64 f.g, .string f.nm, .string f.fn, .int .i64 f.ar, (.slice ai it.len ci), .string f.bs, .int .i64 f.n] 24)) 8, keep_al1 d0 _, keep_al1 d1 _, keep_al1 d2 _, keep_al1 d3 _, keep_al1 d4 _, keep_al1 d5 _, keep_al1 d6 _, keep_al1 d7 _, keep_al1 d8 _⟩)
            | (go_split_ands; refine ⟨?_, ?_, ?_, ?_, ?_, ?_, ?_, ?_, ?_, ?_, ?_, ?_, ?_, ?_, ?_, ?_, ?_, ?_⟩ <;> exact below_keep hb1 (by assumption)))
          (first
            | (go_at_call 82; ((with_reducible refine (HCall.out _ ?_).mono ?_); exact (balloc HB.out _).drew; rintro e w1 ⟨rfl, hb1⟩)))
        have HB1 := Lib.hid (bstep (balloc HB.out _) (hdrew hb1))
        clear hz hb1 c0 c1 c2 c3 c4 c5 c6 c7 c8 d0 d1 d2 d3 d4 d5 d6 d7 d8
        cases s
        · go_wp2_with fail
          go_ret
          exact ⟨by rw [HSc.out]; rfl, HB1.out⟩
        · go_wp2_with fail
          go_roundw
          case rel => exact ⟨k + 1, by omega, by go_num, Lib.hid (by rw [HSc.out, Bool.true_and]), HB1⟩
          case measure => simp only [intOf]; omega
      · have hlt' : ¬ (k : Int) < (l.len : Int) := by omega
        have hfin := Lib.hid (show l.same l' = true by rw [HE.out, TL.drop_len l k (by omega), TL.drop_len l' k (by have := HL.out; omega), TL.same_nil])
        go_wp2_with fail
        go_ret
        exact ⟨by rw [hfin.out]; rfl, HB.out⟩
  · have hlb : ((l.len : Int) != (l'.len : Int)) = true := by simp; omega
    have hfin := Lib.hid (TL.same_len hlen)
    clear hlen
    go_enter Tryd.func91, Tryd.ntmps91
    go_wp2_with fail
    go_ret
    exact ⟨by rw [hfin.out]; rfl, Below.refl _ _⟩
theorem pgSame_all (m : Nat) : pgSameC m ∧ pgListC m := by
  induction m using Nat.strongRecOn with
  | _ m ih =>
    have h := pgList_of m fun j hj => (ih j hj).1
    exact ⟨pgSame_of m h, h⟩
end Go.Proofs.YtgfodedmcjkmaaaDoor
