/-
  Walks: the closure of terms.kinds for lists: two or more items, the last one no list.
-/
import Derived.Test.YtgfodedmcjkmaaaDoorSets
namespace Go.Proofs.YtgfodedmcjkmaaaDoor
open Go.RowKit
/-- the kind of the last one -/
def TL.lastK : TL → Int
  | .nil => 0
  | .cons f _ .nil => f.k
  | .cons _ _ (.cons f it r) => (TL.cons f it r).lastK
theorem TL.lastK_at : ∀ (l : TL) (k : Nat) (f : Fd) (it : TL), l.drop k = .cons f it .nil → l.lastK = f.k
  | .nil, 0, _, _, h => by simp [TL.drop] at h
  | .nil, _ + 1, _, _, h => by simp [TL.drop] at h
  | .cons f' it' r', 0, f, it, h => by
    rw [TL.drop] at h
    injection h with e1 e2 e3
    subst e1 e2 e3
    rfl
  | .cons f' it' .nil, k + 1, f, it, h => by
    rw [TL.drop] at h
    cases k <;> simp [TL.drop] at h
  | .cons f' it' (.cons f2 it2 r2), k + 1, f, it, h => by
    rw [TL.drop] at h
    rw [TL.lastK]
    exact TL.lastK_at _ k f it h
set_option maxHeartbeats 2000000 in
theorem kind9_any (f : Fd) (it : TL) (iv : Value) (w : World) (A B : Nat) (hs : RdS w A B it iv) (hB : B ≤ w.heap.size) :
    Calls Tryd.prog 80 #[f.val iv] w fun e w' => e = kindRet f (.slice none 0 0) (decide (2 ≤ it.len) && it.lastK != 9) ∧ Below w.heap.size w w' := by
  obtain ⟨ao, cap, rfl, hcap, hmax, hr⟩ := hs
  obtain ⟨k, i, g, nm, fn, ar, bs, n⟩ := f
  unfold Fd.val Fd.cells
  unfold maxLen at hmax
  by_cases h2 : 2 ≤ it.len
  case neg =>
    have h2' : ¬ (2 : Int) ≤ (it.len : Int) := by omega
    rw [decide_eq_false h2]
    clear h2 hr
    go_enter Tryd.func80, Tryd.ntmps80
    go_wp2_with fail
    refine bodyPost_ret (results_pair rfl _ _ (w.heap.size + 1) _ _ _ _ _ _ _ _ _ rfl (new2_1 w _ _)) rfl ⟨rfl, ?_⟩
    exact balloc (balloc (Below.refl _ _) _) _
  case pos =>
    obtain ⟨lf, li, e1⟩ := TL.drop_at it (it.len - 1) (by omega)
    rw [TL.drop_len it (it.len - 1 + 1) (by omega)] at e1
    obtain ⟨b, o, rfl, hrd⟩ := hr (by intro e; rw [e] at h2; simp [TL.len] at h2)
    obtain ⟨-, hb, jv, hcl, -⟩ := Rd.at_ it b o (it.len - 1) lf li _ hrd e1
    have c0 : w.cell? ⟨b, o + (it.len - 1) * 9, none⟩ = some (.int .i64 lf.k) := by have h := hcl 0 _ rfl; rw [Nat.mul_comm 9] at h; exact h
    have hb2 : b < w.heap.size := by omega
    have hlk := TL.lastK_at it _ lf li e1
    rw [decide_eq_true h2, hlk]
    have h2' : (2 : Int) ≤ (it.len : Int) := by omega
    clear hcl hrd hlk e1
    go_enter Tryd.func80, Tryd.ntmps80
    go_wp2_with fail
    refine bodyPost_ret (results_pair rfl _ _ (w.heap.size + 1) _ _ _ _ _ _ _ _ _ rfl (new2_1 w _ _)) rfl ⟨rfl, ?_⟩
    exact balloc (balloc (Below.refl _ _) _) _
end Go.Proofs.YtgfodedmcjkmaaaDoor
