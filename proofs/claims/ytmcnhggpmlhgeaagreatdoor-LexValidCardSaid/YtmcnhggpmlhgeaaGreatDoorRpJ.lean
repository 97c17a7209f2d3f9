/-
  Walks: Join of lex.
-/
import Derived.Test.YtmcnhggpmlhgeaaGreatDoorRpI
import Derived.Test.YtmcnhggpmlhgeaaGreatDoorLxT
namespace Go.Proofs.YtmcnhggpmlhgeaaGreatDoor
open Go.RowKit
set_option maxRecDepth 100000 in
set_option maxHeartbeats 4000000 in
theorem bad_call (t : Tok) (w : World) (hl : t.tx.length ≤ 1000000) (hT : Tb w) : Calls Tryz.prog 29 #[.agg #[.int .i64 t.k, .string (ba t.tx), .int .u64 (t.n : Int), .int .i64 t.pos]] w fun e w' => e = .returned (.bool (!validTk t)) ∧ Below w.heap.size w w' := by
  have HV := Lib.hid (LexValid_any t (w.alloc (.cells #[.int .i64 t.k, .string (ba t.tx), .int .u64 (t.n : Int), .int .i64 t.pos] 36 (0, 0))) hl fun W hb => ((hT.below (below_alloc w _)).below hb).sp)
  clear hT
  go_enter Tryz.func29, Tryz.ntmps29
  go_wp2_with fail
  refine HV.out.mono ?_
  rintro e w1 ⟨rfl, hb⟩
  have HB := Lib.hid (bstep (below_alloc w _) hb)
  clear hb
  go_wp2_with fail
  go_ret
  exact ⟨ret_bool (by cases validTk t <;> rfl), HB.out⟩
set_option maxRecDepth 100000 in
set_option maxHeartbeats 8000000 in
theorem Index_any (B : Nat) (l : List Tok) (v : Value) (w : World) (hr : RdK w B v l) (hB : B ≤ w.heap.size) (hl : ∀ t ∈ l, t.tx.length ≤ 1000000) (hT : Tb w) :
    Calls Tryz.prog 64 #[v, .func (.func 29) #[] #[]] w fun e w' => ∃ r : Int, e = .returned (.int .i64 r) ∧ decide (0 ≤ r) = !l.all validTk ∧ Below w.heap.size w w' := by
  obtain ⟨ao, cap, rfl, hcap, hlen, hc⟩ := hr
  have HC := Lib.hid hc
  have HL := Lib.hid hl
  have HT := Lib.hid hT
  have HS := Lib.hid (show l.all validTk = (l.drop 0).all validTk from rfl)
  clear hc hl hT
  generalize l.all validTk = R at HS ⊢
  go_enter Tryz.func64, Tryz.ntmps64
  go_wp2_with fail
  go_loopw [8] (fun v wr => ∃ i : Nat, v = .int .i64 i ∧ i ≤ l.length ∧ Hid (R = (l.drop i).all validTk) ∧ Hid (Below w.heap.size w wr)) (fun v _ => l.length - (intOf v).toNat)
  case atStart => exact ⟨0, rfl, Nat.zero_le _, HS, Lib.hid (Below.refl _ _)⟩
  case round =>
    obtain ⟨i, rfl, hi, HS, HW⟩ := hrel
    have hz := HW.out.size
    by_cases hlt : i < l.length
    · have x1 : (i : Int) < (l.length : Int) := by omega
      have hne : l ≠ [] := by intro h; subst h; simp at hlt
      obtain ⟨b1, o1, rfl, hb1, hc1⟩ := HC.out hne
      obtain ⟨x, hx⟩ : ∃ x, l[i] = x := ⟨_, rfl⟩
      obtain ⟨c0, c1, c2, c3⟩ := tok_cells (w := wr) (fun j u hj => (cellsB HW.out hB b1 _ hb1).trans (hc1 j u hj)) hlt hx
      have HS1 := Lib.hid (show R = (validTk x && (l.drop (i + 1)).all validTk) from by rw [HS.out, List.drop_eq_getElem_cons hlt, hx, List.all_cons])
      have HBd := Lib.hid (bad_call x wr (HL.out x (hx ▸ List.getElem_mem hlt)) (HT.out.below HW.out))
      clear hc1 hne hx
      go_wp2_with fail
      refine HBd.out.mono ?_
      rintro e w1 ⟨rfl, hb⟩
      have HW1 := Lib.hid (bstep HW.out hb)
      clear hb c0 c1 c2 c3
      cases hv : validTk x with
      | true =>
        have HS2 := Lib.hid (show R = (l.drop (i + 1)).all validTk from by rw [HS1.out, hv, Bool.true_and])
        rw [show (!true) = false from rfl]
        clear hv
        go_wp2_with fail
        go_roundw
        case rel => exact ⟨i + 1, by go_num, by omega, HS2, HW1⟩
        case measure => simp only [intOf]; omega
      | false =>
        have HR := Lib.hid (show R = false from by rw [HS1.out, hv, Bool.false_and])
        rw [show (!false) = true from rfl]
        clear hv
        go_wp2_with fail
        go_ret
        exact ⟨(i : Int), rfl, by rw [HR.out]; simp, HW1.out⟩
    · have x1 : ¬ (i : Int) < (l.length : Int) := by omega
      have HR := Lib.hid (show R = true from by rw [HS.out, List.drop_eq_nil_of_le (by omega)]; rfl)
      go_wp2_with fail
      go_ret
      exact ⟨-1, rfl, by rw [HR.out]; rfl, HW.out⟩
set_option maxRecDepth 100000 in
set_option maxHeartbeats 4000000 in
theorem Contains_bad (B : Nat) (l : List Tok) (v : Value) (w : World) (hr : RdK w B v l) (hB : B ≤ w.heap.size) (hl : ∀ t ∈ l, t.tx.length ≤ 1000000) (hT : Tb w) :
    Calls Tryz.prog 28 #[v, .func (.func 29) #[] #[]] w fun e w' => e = .returned (.bool (!l.all validTk)) ∧ Below w.heap.size w w' := by
  have HI := Lib.hid (Index_any B l v w hr hB hl hT)
  obtain ⟨ao, cap, rfl, -⟩ := hr
  clear hl hT
  go_enter Tryz.func28, Tryz.ntmps28
  go_wp2_with fail
  refine HI.out.mono ?_
  rintro e w1 ⟨r, rfl, hr2, hb⟩
  have HB := Lib.hid hb
  have HR := Lib.hid hr2
  clear hb hr2
  go_wp2_with fail
  go_ret
  exact ⟨ret_bool HR.out, HB.out⟩
end Go.Proofs.YtmcnhggpmlhgeaaGreatDoor
