/-
  Walks: kept of the law; the laws of scanning.
-/
import Derived.Test.YtmcnhggpmlhgeaaGreatDoorYes
import Derived.Test.YtmcnhggpmlhgeaaGreatDoorLwb
import Derived.Test.YtmcnhggpmlhgeaaGreatDoorLwP
namespace Go.Proofs.YtmcnhggpmlhgeaaGreatDoor
open Go.RowKit
theorem LentK.mark {w : World} {g : Nat} {l : List Tok} (h5 : ∀ j u, (tksC (l ++ [mkT]))[j]? = some u → w.cell? ⟨g, j, none⟩ = some u) : w.cell? ⟨g, l.length * 4, none⟩ = some (.int .i64 (-7)) := by
  refine h5 _ _ ?_
  rw [tksC_app, List.getElem?_append_right (by rw [tksC_len]; exact Nat.le_refl _), tksC_len, Nat.sub_self]
  rfl
set_option maxRecDepth 100000 in
set_option maxHeartbeats 8000000 in
theorem kept_any (B : Nat) (l : List Tok) (v u : Value) (w : World) (hv : LentK w B v l) (hu : RdK w B u l) (hB : B ≤ w.heap.size) :
    Calls Tryz.prog 17 #[v, u] w fun e w' => e = .returned (.bool true) ∧ Below w.heap.size w w' := by
  have HE := Lib.hid (show Calls Tryz.prog 12 #[v, u] w fun e w' => e = .returned (.bool true) ∧ Below w.heap.size w w' from by
    have h := equal_any B l l v u w hv.rdk hu hB
    rw [eqL_refl] at h
    exact h)
  obtain ⟨g, cap, rfl, h2, h3, h4, h5⟩ := hv
  obtain ⟨ao, cap2, rfl, -⟩ := hu
  have c0 := LentK.mark h5
  have x1 : (l.length : Int) + 1 ≤ (cap : Int) := by omega
  have x2 : l.length + 1 ≤ cap := h2
  have x3 : (l.length : Int) < (l.length : Int) + 1 := by omega
  have x4 : l.length < l.length + 1 := by omega
  clear h5
  go_enter Tryz.func17, Tryz.ntmps17
  go_wp2_with fail
  refine HE.out.mono ?_
  rintro e w1 ⟨rfl, hb⟩
  have HB := Lib.hid hb
  have d0 := (hb.cell (p := ⟨g, l.length * 4, none⟩) (show g < w.heap.size by omega)).trans c0
  clear hb c0
  go_wp2_with fail
  go_ret
  exact ⟨rfl, HB.out⟩
def toksR : SR → List Tok
  | .bad _ _ => []
  | .ok l => l
def posR : SR → Int
  | .bad p _ => p
  | .ok _ => 0
def errR : SR → Int
  | .bad _ e => e
  | .ok _ => 0
/-- what Scan answers, to be read -/
def ScanQ (T : List UInt8) (w : World) (e : Ending) (w' : World) : Prop := ∃ v, e = .returned (.tuple #[v, .int .i64 (posR (scanL T)), .int .i64 (errR (scanL T))]) ∧ RdK w' w'.heap.size v (toksR (scanL T)) ∧ Below w.heap.size w w'
theorem ScanP.q {T : List UInt8} {w : World} {e : Ending} {w' : World} (h : ScanP (scanL T) w e w') : ScanQ T w e w' := by
  have hl := fun l => scan_ok_len (s := T) (l := l)
  unfold ScanQ
  generalize scanL T = r at h hl ⊢
  cases r with
  | bad p er => exact ⟨_, h.1, ⟨none, 0, rfl, Nat.le_refl _, by simp [toksR], fun h => absurd rfl h⟩, h.2⟩
  | ok m =>
    obtain ⟨v, h1, h2, h3⟩ := h
    exact ⟨v, h1, h2.rdk (by have := hl m rfl; omega), h3⟩
theorem scan_q (T : List UInt8) (w : World) (hT : T.length ≤ 9223372036854775807) (hTb : Tb w) : Calls Tryz.prog 10 #[.string (ba T)] w (ScanQ T w) := by
  rcases Nat.lt_or_ge 65536 T.length with h | h
  · exact (Scan_long T w h hT).mono fun _ _ h => h.q
  · exact (Scan_any T w h hTb).mono fun _ _ h => h.q
theorem wgt_mem : ∀ {l : List Tok} {t : Tok}, t ∈ l → t.tx.length ≤ wgt l
  | a :: l, t, h => by
    rw [wgt]
    rcases List.mem_cons.1 h with h | h
    · subst h; omega
    · have := wgt_mem h; omega
theorem wgt_len : ∀ l : List Tok, l.length ≤ wgt l
  | [] => Nat.le_refl _
  | a :: l => by
    have := wgt_len l
    rw [wgt, List.length_cons]; omega
end Go.Proofs.YtmcnhggpmlhgeaaGreatDoor
