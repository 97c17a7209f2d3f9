/-
  Walks: the law TermsMake: the makers answer what the reference says, as new memory.
-/
import Derived.Test.YtgbaelkoblnlhaaBoth
import Derived.Test.YtgbaelkoblnlhaaShown2
import Derived.Test.YtgbaelkoblnlhaaName
import Derived.Test.YtgbaelkoblnlhaaRegion3
import Derived.Deep.RegionHeld3
namespace Go.Proofs.Ytgbaelkoblnlhaa
open Go.RowKit
theorem Atom_ok (s : ByteArray) (hs : s.size ≤ maxLen) (hn : nameB s = true) (W : World) : Calls Try.prog 37 #[.string s] W fun e w' => e = .returned (.tuple #[.agg #[.int .i64 2, .int .i64 0, .int .i64 0, .string s, .string ⟨#[]⟩, .int .i64 0, .slice none 0 0, .string ⟨#[]⟩, .int .i64 0], .int .i64 0]) ∧ Below W.heap.size W w' := by
  have h := pAtom_any s hs W
  rw [show atC s = 0 by unfold atC; rw [hn]; rfl] at h
  exact h
theorem Atom_no (s : ByteArray) (hs : s.size ≤ maxLen) (hn : nameB s = false) (W : World) : Calls Try.prog 37 #[.string s] W fun e w' => e = .returned (.tuple #[.agg #[.int .i64 0, .int .i64 0, .int .i64 0, .string ⟨#[]⟩, .string ⟨#[]⟩, .int .i64 0, .slice none 0 0, .string ⟨#[]⟩, .int .i64 0], .int .i64 2]) ∧ Below W.heap.size W w' := by
  have h := pAtom_any s hs W
  rw [show atC s = 2 by unfold atC; rw [hn]; rfl] at h
  exact h
theorem Name_at (s : ByteArray) (hs : s.size ≤ maxLen) {b : Bool} (hn : nameB s = b) (W : World) : Calls Try.prog 38 #[.string s] W fun e w' => e = .returned (.bool b) ∧ Below W.heap.size W w' :=
  (Name_any s hs W).mono fun e w' h => ⟨h.1.trans (by rw [hn]), h.2 ▸ Below.refl _ _⟩
def AtW (s : ByteArray) (c : Int) (L : Nat) (w : World) : Prop := (nameB s = true ∧ c = 0 ∧ w.heap[L]? = some (.cells #[.int .i64 2, .int .i64 0, .int .i64 0, .string s, .string ⟨#[]⟩, .int .i64 0, .slice none 0 0, .string ⟨#[]⟩, .int .i64 0] 24 (0, 0))) ∨ (nameB s = false ∧ c = 2)
def NmP0 (s : ByteArray) (x : Value) (_l _h : Nat) (_w : World) : Prop := x = .string s
theorem NmC0 (s : ByteArray) {x : Value} {l h' : Nat} {w w' : World} (_hb : ∀ b, l ≤ b → b < h' → w'.heap[b]? = w.heap[b]?) (h : NmP0 s x l h' w) : NmP0 s x l h' w' := h
def NmP1  (x : Value) (_l _h : Nat) (_w : World) : Prop := x = .bool true
theorem NmC1  {x : Value} {l h' : Nat} {w w' : World} (_hb : ∀ b, l ≤ b → b < h' → w'.heap[b]? = w.heap[b]?) (h : NmP1  x l h' w) : NmP1  x l h' w' := h
def NmP2  (x : Value) (_l _h : Nat) (_w : World) : Prop := x = .int .i64 0
theorem NmC2  {x : Value} {l h' : Nat} {w w' : World} (_hb : ∀ b, l ≤ b → b < h' → w'.heap[b]? = w.heap[b]?) (h : NmP2  x l h' w) : NmP2  x l h' w' := h
def NmP3  (x : Value) (_l _h : Nat) (_w : World) : Prop := x = .bool true
theorem NmC3  {x : Value} {l h' : Nat} {w w' : World} (_hb : ∀ b, l ≤ b → b < h' → w'.heap[b]? = w.heap[b]?) (h : NmP3  x l h' w) : NmP3  x l h' w' := h
def NmP4  (x : Value) (_l _h : Nat) (_w : World) : Prop := x = .bool false
theorem NmC4  {x : Value} {l h' : Nat} {w w' : World} (_hb : ∀ b, l ≤ b → b < h' → w'.heap[b]? = w.heap[b]?) (h : NmP4  x l h' w) : NmP4  x l h' w' := h
def NmP5  (x : Value) (_l _h : Nat) (_w : World) : Prop := x = .bool false
theorem NmC5  {x : Value} {l h' : Nat} {w w' : World} (_hb : ∀ b, l ≤ b → b < h' → w'.heap[b]? = w.heap[b]?) (h : NmP5  x l h' w) : NmP5  x l h' w' := h
def NmP6  (x : Value) (_l _h : Nat) (_w : World) : Prop := x = .int .i64 0
theorem NmC6  {x : Value} {l h' : Nat} {w w' : World} (_hb : ∀ b, l ≤ b → b < h' → w'.heap[b]? = w.heap[b]?) (h : NmP6  x l h' w) : NmP6  x l h' w' := h
def NmP7  (x : Value) (_l _h : Nat) (_w : World) : Prop := x = .bool false
theorem NmC7  {x : Value} {l h' : Nat} {w w' : World} (_hb : ∀ b, l ≤ b → b < h' → w'.heap[b]? = w.heap[b]?) (h : NmP7  x l h' w) : NmP7  x l h' w' := h
def NmP8  (x : Value) (_l _h : Nat) (_w : World) : Prop := x = .bool false
theorem NmC8  {x : Value} {l h' : Nat} {w w' : World} (_hb : ∀ b, l ≤ b → b < h' → w'.heap[b]? = w.heap[b]?) (h : NmP8  x l h' w) : NmP8  x l h' w' := h
def NmP9  (x : Value) (_l _h : Nat) (_w : World) : Prop := x = undef
theorem NmC9  {x : Value} {l h' : Nat} {w w' : World} (_hb : ∀ b, l ≤ b → b < h' → w'.heap[b]? = w.heap[b]?) (h : NmP9  x l h' w) : NmP9  x l h' w' := h
def NmP10  (x : Value) (_l _h : Nat) (_w : World) : Prop := x = undef
theorem NmC10  {x : Value} {l h' : Nat} {w w' : World} (_hb : ∀ b, l ≤ b → b < h' → w'.heap[b]? = w.heap[b]?) (h : NmP10  x l h' w) : NmP10  x l h' w' := h
def NmP11  (x : Value) (_l _h : Nat) (_w : World) : Prop := x = .bool false
theorem NmC11  {x : Value} {l h' : Nat} {w w' : World} (_hb : ∀ b, l ≤ b → b < h' → w'.heap[b]? = w.heap[b]?) (h : NmP11  x l h' w) : NmP11  x l h' w' := h
def NmP12  (x : Value) (_l _h : Nat) (_w : World) : Prop := x = .bool false
theorem NmC12  {x : Value} {l h' : Nat} {w w' : World} (_hb : ∀ b, l ≤ b → b < h' → w'.heap[b]? = w.heap[b]?) (h : NmP12  x l h' w) : NmP12  x l h' w' := h
def NmP13  (x : Value) (_l _h : Nat) (_w : World) : Prop := x = .bool false
theorem NmC13  {x : Value} {l h' : Nat} {w w' : World} (_hb : ∀ b, l ≤ b → b < h' → w'.heap[b]? = w.heap[b]?) (h : NmP13  x l h' w) : NmP13  x l h' w' := h
def NmP14  (x : Value) (_l _h : Nat) (_w : World) : Prop := x = .int .i64 0
theorem NmC14  {x : Value} {l h' : Nat} {w w' : World} (_hb : ∀ b, l ≤ b → b < h' → w'.heap[b]? = w.heap[b]?) (h : NmP14  x l h' w) : NmP14  x l h' w' := h
def NmP15  (x : Value) (_l _h : Nat) (_w : World) : Prop := x = .bool true
theorem NmC15  {x : Value} {l h' : Nat} {w w' : World} (_hb : ∀ b, l ≤ b → b < h' → w'.heap[b]? = w.heap[b]?) (h : NmP15  x l h' w) : NmP15  x l h' w' := h
def NmP16  (x : Value) (_l _h : Nat) (_w : World) : Prop := x = .bool true
theorem NmC16  {x : Value} {l h' : Nat} {w w' : World} (_hb : ∀ b, l ≤ b → b < h' → w'.heap[b]? = w.heap[b]?) (h : NmP16  x l h' w) : NmP16  x l h' w' := h
def NmP17 (s : ByteArray) (x : Value) (_l _h : Nat) (_w : World) : Prop := x = .agg #[.int .i64 2, .int .i64 0, .int .i64 0, .string s, .string ⟨#[]⟩, .int .i64 0, .slice none 0 0, .string ⟨#[]⟩, .int .i64 0]
theorem NmC17 (s : ByteArray) {x : Value} {l h' : Nat} {w w' : World} (_hb : ∀ b, l ≤ b → b < h' → w'.heap[b]? = w.heap[b]?) (h : NmP17 s x l h' w) : NmP17 s x l h' w' := h
def NmP18 (s : ByteArray) (x : Value) (_l _h : Nat) (_w : World) : Prop := x = .string s
theorem NmC18 (s : ByteArray) {x : Value} {l h' : Nat} {w w' : World} (_hb : ∀ b, l ≤ b → b < h' → w'.heap[b]? = w.heap[b]?) (h : NmP18 s x l h' w) : NmP18 s x l h' w' := h
def NmP19 (s : ByteArray) (x : Value) (_l _h : Nat) (_w : World) : Prop := x = .agg #[.int .i64 2, .int .i64 0, .int .i64 0, .string s, .string ⟨#[]⟩, .int .i64 0, .slice none 0 0, .string ⟨#[]⟩, .int .i64 0]
theorem NmC19 (s : ByteArray) {x : Value} {l h' : Nat} {w w' : World} (_hb : ∀ b, l ≤ b → b < h' → w'.heap[b]? = w.heap[b]?) (h : NmP19 s x l h' w) : NmP19 s x l h' w' := h
def NmP20  (x : Value) (_l _h : Nat) (_w : World) : Prop := x = .bool true
theorem NmC20  {x : Value} {l h' : Nat} {w w' : World} (_hb : ∀ b, l ≤ b → b < h' → w'.heap[b]? = w.heap[b]?) (h : NmP20  x l h' w) : NmP20  x l h' w' := h
def NmP21  (x : Value) (_l _h : Nat) (_w : World) : Prop := x = .bool false
theorem NmC21  {x : Value} {l h' : Nat} {w w' : World} (_hb : ∀ b, l ≤ b → b < h' → w'.heap[b]? = w.heap[b]?) (h : NmP21  x l h' w) : NmP21  x l h' w' := h
def NmP22  (x : Value) (_l _h : Nat) (_w : World) : Prop := x = .bool false
theorem NmC22  {x : Value} {l h' : Nat} {w w' : World} (_hb : ∀ b, l ≤ b → b < h' → w'.heap[b]? = w.heap[b]?) (h : NmP22  x l h' w) : NmP22  x l h' w' := h
def NmP23  (x : Value) (_l _h : Nat) (_w : World) : Prop := x = .bool false
theorem NmC23  {x : Value} {l h' : Nat} {w w' : World} (_hb : ∀ b, l ≤ b → b < h' → w'.heap[b]? = w.heap[b]?) (h : NmP23  x l h' w) : NmP23  x l h' w' := h
def NmG (s : ByteArray) (i : Nat) (v : Nat → Value) (lo hi : Nat → Nat) (w : World) : Prop :=
  match i with
  | 0 => NmP0 s (v 0) (lo 0) (hi 0) w
  | 1 => NmP1  (v 1) (lo 1) (hi 1) w
  | 2 => NmP2  (v 2) (lo 2) (hi 2) w
  | 3 => NmP3  (v 3) (lo 3) (hi 3) w
  | 4 => NmP4  (v 4) (lo 4) (hi 4) w
  | 5 => NmP5  (v 5) (lo 5) (hi 5) w
  | 6 => NmP6  (v 6) (lo 6) (hi 6) w
  | 7 => NmP7  (v 7) (lo 7) (hi 7) w
  | 8 => NmP8  (v 8) (lo 8) (hi 8) w
  | 9 => NmP9  (v 9) (lo 9) (hi 9) w
  | 10 => NmP10  (v 10) (lo 10) (hi 10) w
  | 11 => NmP11  (v 11) (lo 11) (hi 11) w
  | 12 => NmP12  (v 12) (lo 12) (hi 12) w
  | 13 => NmP13  (v 13) (lo 13) (hi 13) w
  | 14 => NmP14  (v 14) (lo 14) (hi 14) w
  | 15 => NmP15  (v 15) (lo 15) (hi 15) w
  | 16 => NmP16  (v 16) (lo 16) (hi 16) w
  | 17 => NmP17 s (v 17) (lo 17) (hi 17) w
  | 18 => NmP18 s (v 18) (lo 18) (hi 18) w
  | 19 => NmP19 s (v 19) (lo 19) (hi 19) w
  | 20 => NmP20  (v 20) (lo 20) (hi 20) w
  | 21 => NmP21  (v 21) (lo 21) (hi 21) w
  | 22 => NmP22  (v 22) (lo 22) (hi 22) w
  | 23 => NmP23  (v 23) (lo 23) (hi 23) w
  | _ => True
def NmD : List (List Nat) := [[], [0], [], [2], [1, 3], [4], [5], [6, 5], [7, 5], [8], [8], [8, 10, 5], [5, 11], [12], [13], [14, 13], [15, 13], [16], [16], [18, 16], [17, 19, 16], [20, 16], [16, 21, 13], [13, 22]]
def Nmd : List (Option Nat) := [some 36, some 37, some 38, some 39, some 40, some 41, some 42, some 43, some 44, some 45, some 46, some 47, some 48, some 49, some 50, some 51, some 52, some 53, some 54, some 55, some 56, some 57, some 58, some 59]
theorem NmG_keep (s : ByteArray) (i : Nat) (v : Nat → Value) (lo hi : Nat → Nat) (w : World) (v' : Nat → Value) (lo' hi' : Nat → Nat) (w' : World) (hin : i < 24) (hsame : ∀ k, k = i ∨ k ∈ NmD.getD i [] → v' k = v k ∧ lo' k = lo k ∧ hi' k = hi k) (hb : ∀ k, k = i ∨ k ∈ NmD.getD i [] → ∀ b, lo k ≤ b → b < hi k → w'.heap[b]? = w.heap[b]?) (h : NmG s i v lo hi w) : NmG s i v' lo' hi' w' := by
  obtain ⟨e1, e2, e3⟩ := hsame i (.inl rfl)
  have hb0 := hb i (.inl rfl)
  match i, hin with
  | 0, _ =>
    show NmP0 s (v' 0) (lo' 0) (hi' 0) w'
    rw [e1, e2, e3]
    exact NmC0 s hb0 h
  | 1, _ =>
    show NmP1  (v' 1) (lo' 1) (hi' 1) w'
    rw [e1, e2, e3]
    exact NmC1  hb0 h
  | 2, _ =>
    show NmP2  (v' 2) (lo' 2) (hi' 2) w'
    rw [e1, e2, e3]
    exact NmC2  hb0 h
  | 3, _ =>
    show NmP3  (v' 3) (lo' 3) (hi' 3) w'
    rw [e1, e2, e3]
    exact NmC3  hb0 h
  | 4, _ =>
    show NmP4  (v' 4) (lo' 4) (hi' 4) w'
    rw [e1, e2, e3]
    exact NmC4  hb0 h
  | 5, _ =>
    show NmP5  (v' 5) (lo' 5) (hi' 5) w'
    rw [e1, e2, e3]
    exact NmC5  hb0 h
  | 6, _ =>
    show NmP6  (v' 6) (lo' 6) (hi' 6) w'
    rw [e1, e2, e3]
    exact NmC6  hb0 h
  | 7, _ =>
    show NmP7  (v' 7) (lo' 7) (hi' 7) w'
    rw [e1, e2, e3]
    exact NmC7  hb0 h
  | 8, _ =>
    show NmP8  (v' 8) (lo' 8) (hi' 8) w'
    rw [e1, e2, e3]
    exact NmC8  hb0 h
  | 9, _ =>
    show NmP9  (v' 9) (lo' 9) (hi' 9) w'
    rw [e1, e2, e3]
    exact NmC9  hb0 h
  | 10, _ =>
    show NmP10  (v' 10) (lo' 10) (hi' 10) w'
    rw [e1, e2, e3]
    exact NmC10  hb0 h
  | 11, _ =>
    show NmP11  (v' 11) (lo' 11) (hi' 11) w'
    rw [e1, e2, e3]
    exact NmC11  hb0 h
  | 12, _ =>
    show NmP12  (v' 12) (lo' 12) (hi' 12) w'
    rw [e1, e2, e3]
    exact NmC12  hb0 h
  | 13, _ =>
    show NmP13  (v' 13) (lo' 13) (hi' 13) w'
    rw [e1, e2, e3]
    exact NmC13  hb0 h
  | 14, _ =>
    show NmP14  (v' 14) (lo' 14) (hi' 14) w'
    rw [e1, e2, e3]
    exact NmC14  hb0 h
  | 15, _ =>
    show NmP15  (v' 15) (lo' 15) (hi' 15) w'
    rw [e1, e2, e3]
    exact NmC15  hb0 h
  | 16, _ =>
    show NmP16  (v' 16) (lo' 16) (hi' 16) w'
    rw [e1, e2, e3]
    exact NmC16  hb0 h
  | 17, _ =>
    show NmP17 s (v' 17) (lo' 17) (hi' 17) w'
    rw [e1, e2, e3]
    exact NmC17 s hb0 h
  | 18, _ =>
    show NmP18 s (v' 18) (lo' 18) (hi' 18) w'
    rw [e1, e2, e3]
    exact NmC18 s hb0 h
  | 19, _ =>
    show NmP19 s (v' 19) (lo' 19) (hi' 19) w'
    rw [e1, e2, e3]
    exact NmC19 s hb0 h
  | 20, _ =>
    show NmP20  (v' 20) (lo' 20) (hi' 20) w'
    rw [e1, e2, e3]
    exact NmC20  hb0 h
  | 21, _ =>
    show NmP21  (v' 21) (lo' 21) (hi' 21) w'
    rw [e1, e2, e3]
    exact NmC21  hb0 h
  | 22, _ =>
    show NmP22  (v' 22) (lo' 22) (hi' 22) w'
    rw [e1, e2, e3]
    exact NmC22  hb0 h
  | 23, _ =>
    show NmP23  (v' 23) (lo' 23) (hi' 23) w'
    rw [e1, e2, e3]
    exact NmC23  hb0 h
  | k + 24, hk => exact absurd hk (by omega)
def NnP0 (s : ByteArray) (x : Value) (_l _h : Nat) (_w : World) : Prop := x = .string s
theorem NnC0 (s : ByteArray) {x : Value} {l h' : Nat} {w w' : World} (_hb : ∀ b, l ≤ b → b < h' → w'.heap[b]? = w.heap[b]?) (h : NnP0 s x l h' w) : NnP0 s x l h' w' := h
def NnP1  (x : Value) (_l _h : Nat) (_w : World) : Prop := x = .bool false
theorem NnC1  {x : Value} {l h' : Nat} {w w' : World} (_hb : ∀ b, l ≤ b → b < h' → w'.heap[b]? = w.heap[b]?) (h : NnP1  x l h' w) : NnP1  x l h' w' := h
def NnP2  (x : Value) (_l _h : Nat) (_w : World) : Prop := x = .int .i64 2
theorem NnC2  {x : Value} {l h' : Nat} {w w' : World} (_hb : ∀ b, l ≤ b → b < h' → w'.heap[b]? = w.heap[b]?) (h : NnP2  x l h' w) : NnP2  x l h' w' := h
def NnP3  (x : Value) (_l _h : Nat) (_w : World) : Prop := x = .bool false
theorem NnC3  {x : Value} {l h' : Nat} {w w' : World} (_hb : ∀ b, l ≤ b → b < h' → w'.heap[b]? = w.heap[b]?) (h : NnP3  x l h' w) : NnP3  x l h' w' := h
def NnP4  (x : Value) (_l _h : Nat) (_w : World) : Prop := x = .bool false
theorem NnC4  {x : Value} {l h' : Nat} {w w' : World} (_hb : ∀ b, l ≤ b → b < h' → w'.heap[b]? = w.heap[b]?) (h : NnP4  x l h' w) : NnP4  x l h' w' := h
def NnP5  (x : Value) (_l _h : Nat) (_w : World) : Prop := x = .bool false
theorem NnC5  {x : Value} {l h' : Nat} {w w' : World} (_hb : ∀ b, l ≤ b → b < h' → w'.heap[b]? = w.heap[b]?) (h : NnP5  x l h' w) : NnP5  x l h' w' := h
def NnP6  (x : Value) (_l _h : Nat) (_w : World) : Prop := x = .int .i64 2
theorem NnC6  {x : Value} {l h' : Nat} {w w' : World} (_hb : ∀ b, l ≤ b → b < h' → w'.heap[b]? = w.heap[b]?) (h : NnP6  x l h' w) : NnP6  x l h' w' := h
def NnP7  (x : Value) (_l _h : Nat) (_w : World) : Prop := x = .bool true
theorem NnC7  {x : Value} {l h' : Nat} {w w' : World} (_hb : ∀ b, l ≤ b → b < h' → w'.heap[b]? = w.heap[b]?) (h : NnP7  x l h' w) : NnP7  x l h' w' := h
def NnP8  (x : Value) (_l _h : Nat) (_w : World) : Prop := x = .bool true
theorem NnC8  {x : Value} {l h' : Nat} {w w' : World} (_hb : ∀ b, l ≤ b → b < h' → w'.heap[b]? = w.heap[b]?) (h : NnP8  x l h' w) : NnP8  x l h' w' := h
def NnP9  (x : Value) (_l _h : Nat) (_w : World) : Prop := x = .int .i64 2
theorem NnC9  {x : Value} {l h' : Nat} {w w' : World} (_hb : ∀ b, l ≤ b → b < h' → w'.heap[b]? = w.heap[b]?) (h : NnP9  x l h' w) : NnP9  x l h' w' := h
def NnP10  (x : Value) (_l _h : Nat) (_w : World) : Prop := x = .bool false
theorem NnC10  {x : Value} {l h' : Nat} {w w' : World} (_hb : ∀ b, l ≤ b → b < h' → w'.heap[b]? = w.heap[b]?) (h : NnP10  x l h' w) : NnP10  x l h' w' := h
def NnP11  (x : Value) (_l _h : Nat) (_w : World) : Prop := x = .bool false
theorem NnC11  {x : Value} {l h' : Nat} {w w' : World} (_hb : ∀ b, l ≤ b → b < h' → w'.heap[b]? = w.heap[b]?) (h : NnP11  x l h' w) : NnP11  x l h' w' := h
def NnP12  (x : Value) (_l _h : Nat) (_w : World) : Prop := x = .bool false
theorem NnC12  {x : Value} {l h' : Nat} {w w' : World} (_hb : ∀ b, l ≤ b → b < h' → w'.heap[b]? = w.heap[b]?) (h : NnP12  x l h' w) : NnP12  x l h' w' := h
def NnP13  (x : Value) (_l _h : Nat) (_w : World) : Prop := x = .bool false
theorem NnC13  {x : Value} {l h' : Nat} {w w' : World} (_hb : ∀ b, l ≤ b → b < h' → w'.heap[b]? = w.heap[b]?) (h : NnP13  x l h' w) : NnP13  x l h' w' := h
def NnP14  (x : Value) (_l _h : Nat) (_w : World) : Prop := x = .int .i64 2
theorem NnC14  {x : Value} {l h' : Nat} {w w' : World} (_hb : ∀ b, l ≤ b → b < h' → w'.heap[b]? = w.heap[b]?) (h : NnP14  x l h' w) : NnP14  x l h' w' := h
def NnP15  (x : Value) (_l _h : Nat) (_w : World) : Prop := x = .bool false
theorem NnC15  {x : Value} {l h' : Nat} {w w' : World} (_hb : ∀ b, l ≤ b → b < h' → w'.heap[b]? = w.heap[b]?) (h : NnP15  x l h' w) : NnP15  x l h' w' := h
def NnP16  (x : Value) (_l _h : Nat) (_w : World) : Prop := x = .bool false
theorem NnC16  {x : Value} {l h' : Nat} {w w' : World} (_hb : ∀ b, l ≤ b → b < h' → w'.heap[b]? = w.heap[b]?) (h : NnP16  x l h' w) : NnP16  x l h' w' := h
def NnP17  (x : Value) (_l _h : Nat) (_w : World) : Prop := x = undef
theorem NnC17  {x : Value} {l h' : Nat} {w w' : World} (_hb : ∀ b, l ≤ b → b < h' → w'.heap[b]? = w.heap[b]?) (h : NnP17  x l h' w) : NnP17  x l h' w' := h
def NnP18  (x : Value) (_l _h : Nat) (_w : World) : Prop := x = undef
theorem NnC18  {x : Value} {l h' : Nat} {w w' : World} (_hb : ∀ b, l ≤ b → b < h' → w'.heap[b]? = w.heap[b]?) (h : NnP18  x l h' w) : NnP18  x l h' w' := h
def NnP19  (x : Value) (_l _h : Nat) (_w : World) : Prop := x = undef
theorem NnC19  {x : Value} {l h' : Nat} {w w' : World} (_hb : ∀ b, l ≤ b → b < h' → w'.heap[b]? = w.heap[b]?) (h : NnP19  x l h' w) : NnP19  x l h' w' := h
def NnP20  (x : Value) (_l _h : Nat) (_w : World) : Prop := x = undef
theorem NnC20  {x : Value} {l h' : Nat} {w w' : World} (_hb : ∀ b, l ≤ b → b < h' → w'.heap[b]? = w.heap[b]?) (h : NnP20  x l h' w) : NnP20  x l h' w' := h
def NnP21  (x : Value) (_l _h : Nat) (_w : World) : Prop := x = undef
theorem NnC21  {x : Value} {l h' : Nat} {w w' : World} (_hb : ∀ b, l ≤ b → b < h' → w'.heap[b]? = w.heap[b]?) (h : NnP21  x l h' w) : NnP21  x l h' w' := h
def NnP22  (x : Value) (_l _h : Nat) (_w : World) : Prop := x = .bool false
theorem NnC22  {x : Value} {l h' : Nat} {w w' : World} (_hb : ∀ b, l ≤ b → b < h' → w'.heap[b]? = w.heap[b]?) (h : NnP22  x l h' w) : NnP22  x l h' w' := h
def NnP23  (x : Value) (_l _h : Nat) (_w : World) : Prop := x = .bool false
theorem NnC23  {x : Value} {l h' : Nat} {w w' : World} (_hb : ∀ b, l ≤ b → b < h' → w'.heap[b]? = w.heap[b]?) (h : NnP23  x l h' w) : NnP23  x l h' w' := h
def NnG (s : ByteArray) (i : Nat) (v : Nat → Value) (lo hi : Nat → Nat) (w : World) : Prop :=
  match i with
  | 0 => NnP0 s (v 0) (lo 0) (hi 0) w
  | 1 => NnP1  (v 1) (lo 1) (hi 1) w
  | 2 => NnP2  (v 2) (lo 2) (hi 2) w
  | 3 => NnP3  (v 3) (lo 3) (hi 3) w
  | 4 => NnP4  (v 4) (lo 4) (hi 4) w
  | 5 => NnP5  (v 5) (lo 5) (hi 5) w
  | 6 => NnP6  (v 6) (lo 6) (hi 6) w
  | 7 => NnP7  (v 7) (lo 7) (hi 7) w
  | 8 => NnP8  (v 8) (lo 8) (hi 8) w
  | 9 => NnP9  (v 9) (lo 9) (hi 9) w
  | 10 => NnP10  (v 10) (lo 10) (hi 10) w
  | 11 => NnP11  (v 11) (lo 11) (hi 11) w
  | 12 => NnP12  (v 12) (lo 12) (hi 12) w
  | 13 => NnP13  (v 13) (lo 13) (hi 13) w
  | 14 => NnP14  (v 14) (lo 14) (hi 14) w
  | 15 => NnP15  (v 15) (lo 15) (hi 15) w
  | 16 => NnP16  (v 16) (lo 16) (hi 16) w
  | 17 => NnP17  (v 17) (lo 17) (hi 17) w
  | 18 => NnP18  (v 18) (lo 18) (hi 18) w
  | 19 => NnP19  (v 19) (lo 19) (hi 19) w
  | 20 => NnP20  (v 20) (lo 20) (hi 20) w
  | 21 => NnP21  (v 21) (lo 21) (hi 21) w
  | 22 => NnP22  (v 22) (lo 22) (hi 22) w
  | 23 => NnP23  (v 23) (lo 23) (hi 23) w
  | _ => True
def NnD : List (List Nat) := [[], [0], [], [2], [1, 3], [4], [5], [6, 5], [7, 5], [8], [9, 8], [8, 10, 5], [5, 11], [12], [13], [14, 13], [15, 13], [16], [16], [16], [16], [16], [16, 21, 13], [13, 22]]
def Nnd : List (Option Nat) := [some 36, some 37, some 38, some 39, some 40, some 41, some 42, some 43, some 44, some 45, some 46, some 47, some 48, some 49, some 50, some 51, some 52, some 53, some 54, some 55, some 56, some 57, some 58, some 59]
theorem NnG_keep (s : ByteArray) (i : Nat) (v : Nat → Value) (lo hi : Nat → Nat) (w : World) (v' : Nat → Value) (lo' hi' : Nat → Nat) (w' : World) (hin : i < 24) (hsame : ∀ k, k = i ∨ k ∈ NnD.getD i [] → v' k = v k ∧ lo' k = lo k ∧ hi' k = hi k) (hb : ∀ k, k = i ∨ k ∈ NnD.getD i [] → ∀ b, lo k ≤ b → b < hi k → w'.heap[b]? = w.heap[b]?) (h : NnG s i v lo hi w) : NnG s i v' lo' hi' w' := by
  obtain ⟨e1, e2, e3⟩ := hsame i (.inl rfl)
  have hb0 := hb i (.inl rfl)
  match i, hin with
  | 0, _ =>
    show NnP0 s (v' 0) (lo' 0) (hi' 0) w'
    rw [e1, e2, e3]
    exact NnC0 s hb0 h
  | 1, _ =>
    show NnP1  (v' 1) (lo' 1) (hi' 1) w'
    rw [e1, e2, e3]
    exact NnC1  hb0 h
  | 2, _ =>
    show NnP2  (v' 2) (lo' 2) (hi' 2) w'
    rw [e1, e2, e3]
    exact NnC2  hb0 h
  | 3, _ =>
    show NnP3  (v' 3) (lo' 3) (hi' 3) w'
    rw [e1, e2, e3]
    exact NnC3  hb0 h
  | 4, _ =>
    show NnP4  (v' 4) (lo' 4) (hi' 4) w'
    rw [e1, e2, e3]
    exact NnC4  hb0 h
  | 5, _ =>
    show NnP5  (v' 5) (lo' 5) (hi' 5) w'
    rw [e1, e2, e3]
    exact NnC5  hb0 h
  | 6, _ =>
    show NnP6  (v' 6) (lo' 6) (hi' 6) w'
    rw [e1, e2, e3]
    exact NnC6  hb0 h
  | 7, _ =>
    show NnP7  (v' 7) (lo' 7) (hi' 7) w'
    rw [e1, e2, e3]
    exact NnC7  hb0 h
  | 8, _ =>
    show NnP8  (v' 8) (lo' 8) (hi' 8) w'
    rw [e1, e2, e3]
    exact NnC8  hb0 h
  | 9, _ =>
    show NnP9  (v' 9) (lo' 9) (hi' 9) w'
    rw [e1, e2, e3]
    exact NnC9  hb0 h
  | 10, _ =>
    show NnP10  (v' 10) (lo' 10) (hi' 10) w'
    rw [e1, e2, e3]
    exact NnC10  hb0 h
  | 11, _ =>
    show NnP11  (v' 11) (lo' 11) (hi' 11) w'
    rw [e1, e2, e3]
    exact NnC11  hb0 h
  | 12, _ =>
    show NnP12  (v' 12) (lo' 12) (hi' 12) w'
    rw [e1, e2, e3]
    exact NnC12  hb0 h
  | 13, _ =>
    show NnP13  (v' 13) (lo' 13) (hi' 13) w'
    rw [e1, e2, e3]
    exact NnC13  hb0 h
  | 14, _ =>
    show NnP14  (v' 14) (lo' 14) (hi' 14) w'
    rw [e1, e2, e3]
    exact NnC14  hb0 h
  | 15, _ =>
    show NnP15  (v' 15) (lo' 15) (hi' 15) w'
    rw [e1, e2, e3]
    exact NnC15  hb0 h
  | 16, _ =>
    show NnP16  (v' 16) (lo' 16) (hi' 16) w'
    rw [e1, e2, e3]
    exact NnC16  hb0 h
  | 17, _ =>
    show NnP17  (v' 17) (lo' 17) (hi' 17) w'
    rw [e1, e2, e3]
    exact NnC17  hb0 h
  | 18, _ =>
    show NnP18  (v' 18) (lo' 18) (hi' 18) w'
    rw [e1, e2, e3]
    exact NnC18  hb0 h
  | 19, _ =>
    show NnP19  (v' 19) (lo' 19) (hi' 19) w'
    rw [e1, e2, e3]
    exact NnC19  hb0 h
  | 20, _ =>
    show NnP20  (v' 20) (lo' 20) (hi' 20) w'
    rw [e1, e2, e3]
    exact NnC20  hb0 h
  | 21, _ =>
    show NnP21  (v' 21) (lo' 21) (hi' 21) w'
    rw [e1, e2, e3]
    exact NnC21  hb0 h
  | 22, _ =>
    show NnP22  (v' 22) (lo' 22) (hi' 22) w'
    rw [e1, e2, e3]
    exact NnC22  hb0 h
  | 23, _ =>
    show NnP23  (v' 23) (lo' 23) (hi' 23) w'
    rw [e1, e2, e3]
    exact NnC23  hb0 h
  | k + 24, hk => exact absurd hk (by omega)
def MkP0 (ll : TL) (al : Option Addr) (cl : Nat) (x : Value) (_l _h : Nat) (_w : World) : Prop := x = .slice al ll.len cl
theorem MkC0 (ll : TL) (al : Option Addr) (cl : Nat) {x : Value} {l h' : Nat} {w w' : World} (_hb : ∀ b, l ≤ b → b < h' → w'.heap[b]? = w.heap[b]?) (h : MkP0 ll al cl x l h' w) : MkP0 ll al cl x l h' w' := h
def MkP1 (w0 : World) (ll : TL) (al : Option Addr) (cl : Nat) (H : Nat) (x : Value) (l h : Nat) (w : World) : Prop := ∃ aj cj, x = .slice aj ll.len cj ∧ ∀ W', (∀ b, l ≤ b → b < h → W'.heap[b]? = w.heap[b]?) → Below w0.heap.size w0 W' → KpS W' l h 0 H ll (.slice aj ll.len cj) (.slice al ll.len cl)
theorem MkC1 (w0 : World) (ll : TL) (al : Option Addr) (cl : Nat) (H : Nat) {x : Value} {l h' : Nat} {w w' : World} (hb : ∀ b, l ≤ b → b < h' → w'.heap[b]? = w.heap[b]?) (h : MkP1 w0 ll al cl H x l h' w) : MkP1 w0 ll al cl H x l h' w' := h.elim fun aj h => h.elim fun cj h => ⟨aj, cj, h.1, fun W1 h1 h2 => h.2 W1 (fun b a c => (h1 b a c).trans (hb b a c)) h2⟩
def MkP2 (f : Fd) (it : TL) (ai : Option Addr) (ci : Nat) (x : Value) (_l _h : Nat) (_w : World) : Prop := x = .agg #[.int .i64 f.k, .int .i64 f.i, .int .i64 f.g, .string f.nm, .string f.fn, .int .i64 f.ar, .slice ai it.len ci, .string f.bs, .int .i64 f.n]
theorem MkC2 (f : Fd) (it : TL) (ai : Option Addr) (ci : Nat) {x : Value} {l h' : Nat} {w w' : World} (_hb : ∀ b, l ≤ b → b < h' → w'.heap[b]? = w.heap[b]?) (h : MkP2 f it ai ci x l h' w) : MkP2 f it ai ci x l h' w' := h
def MkP3 (w0 : World) (f : Fd) (it : TL) (ai : Option Addr) (ci : Nat) (H : Nat) (x : Value) (l h : Nat) (w : World) : Prop := ∃ aj cj, x = .agg #[.int .i64 f.k, .int .i64 f.i, .int .i64 f.g, .string f.nm, .string f.fn, .int .i64 f.ar, .slice aj it.len cj, .string f.bs, .int .i64 f.n] ∧ ∀ W', (∀ b, l ≤ b → b < h → W'.heap[b]? = w.heap[b]?) → Below w0.heap.size w0 W' → KpS W' l h 0 H it (.slice aj it.len cj) (.slice ai it.len ci)
theorem MkC3 (w0 : World) (f : Fd) (it : TL) (ai : Option Addr) (ci : Nat) (H : Nat) {x : Value} {l h' : Nat} {w w' : World} (hb : ∀ b, l ≤ b → b < h' → w'.heap[b]? = w.heap[b]?) (h : MkP3 w0 f it ai ci H x l h' w) : MkP3 w0 f it ai ci H x l h' w' := h.elim fun aj h => h.elim fun cj h => ⟨aj, cj, h.1, fun W1 h1 h2 => h.2 W1 (fun b a c => (h1 b a c).trans (hb b a c)) h2⟩
def MkP4  (x : Value) (l h : Nat) (w : World) : Prop := x = .pointer (some ⟨l, 0, none⟩) ∧ l < h ∧ w.heap[l]? = some (.cells #[.int .i64 0, .int .i64 0, .int .i64 0, .string ⟨#[]⟩, .string ⟨#[]⟩, .int .i64 0, .slice none 0 0, .string ⟨#[]⟩, .int .i64 0] 24 (0, 0))
theorem MkC4  {x : Value} {l h' : Nat} {w w' : World} (hb : ∀ b, l ≤ b → b < h' → w'.heap[b]? = w.heap[b]?) (h : MkP4  x l h' w) : MkP4  x l h' w' := ⟨h.1, h.2.1, (hb _ (Nat.le_refl _) h.2.1).trans h.2.2⟩
def MkG (w0 : World) (ll : TL) (al : Option Addr) (cl : Nat) (f : Fd) (it : TL) (ai : Option Addr) (ci : Nat) (H : Nat) (i : Nat) (v : Nat → Value) (lo hi : Nat → Nat) (w : World) : Prop :=
  match i with
  | 0 => MkP0 ll al cl (v 0) (lo 0) (hi 0) w
  | 1 => MkP1 w0 ll al cl H (v 1) (lo 1) (hi 1) w
  | 2 => MkP2 f it ai ci (v 2) (lo 2) (hi 2) w
  | 3 => MkP3 w0 f it ai ci H (v 3) (lo 3) (hi 3) w
  | 4 => MkP4  (v 4) (lo 4) (hi 4) w
  | _ => True
def MkD : List (List Nat) := [[], [0], [], [2], []]
def Mkd : List (Option Nat) := [some 86, some 87, some 88, some 89, some 10]
theorem MkG_keep (w0 : World) (ll : TL) (al : Option Addr) (cl : Nat) (f : Fd) (it : TL) (ai : Option Addr) (ci : Nat) (H : Nat) (i : Nat) (v : Nat → Value) (lo hi : Nat → Nat) (w : World) (v' : Nat → Value) (lo' hi' : Nat → Nat) (w' : World) (hin : i < 5) (hsame : ∀ k, k = i ∨ k ∈ MkD.getD i [] → v' k = v k ∧ lo' k = lo k ∧ hi' k = hi k) (hb : ∀ k, k = i ∨ k ∈ MkD.getD i [] → ∀ b, lo k ≤ b → b < hi k → w'.heap[b]? = w.heap[b]?) (h : MkG w0 ll al cl f it ai ci H i v lo hi w) : MkG w0 ll al cl f it ai ci H i v' lo' hi' w' := by
  obtain ⟨e1, e2, e3⟩ := hsame i (.inl rfl)
  have hb0 := hb i (.inl rfl)
  match i, hin with
  | 0, _ =>
    show MkP0 ll al cl (v' 0) (lo' 0) (hi' 0) w'
    rw [e1, e2, e3]
    exact MkC0 ll al cl hb0 h
  | 1, _ =>
    show MkP1 w0 ll al cl H (v' 1) (lo' 1) (hi' 1) w'
    rw [e1, e2, e3]
    exact MkC1 w0 ll al cl H hb0 h
  | 2, _ =>
    show MkP2 f it ai ci (v' 2) (lo' 2) (hi' 2) w'
    rw [e1, e2, e3]
    exact MkC2 f it ai ci hb0 h
  | 3, _ =>
    show MkP3 w0 f it ai ci H (v' 3) (lo' 3) (hi' 3) w'
    rw [e1, e2, e3]
    exact MkC3 w0 f it ai ci H hb0 h
  | 4, _ =>
    show MkP4  (v' 4) (lo' 4) (hi' 4) w'
    rw [e1, e2, e3]
    exact MkC4  hb0 h

set_option maxRecDepth 100000 in
set_option maxHeartbeats 1000000 in
theorem making_long (l : TL) (al : Option Addr) (cl : Nat) (f : Fd) (it : TL) (ai : Option Addr) (ci : Nat) (s : ByteArray) (w : World) (hl : RdS w 0 w.heap.size l (.slice al l.len cl)) (hs : RdS w 0 w.heap.size it (.slice ai it.len ci)) (_ : s.size ≤ maxLen) (hg : 1000 < s.size) :
    Calls Try.prog 7 #[.slice al l.len cl, .agg #[.int .i64 f.k, .int .i64 f.i, .int .i64 f.g, .string f.nm, .string f.fn, .int .i64 f.ar, .slice ai it.len ci, .string f.bs, .int .i64 f.n], .string s] w (Yes w) := by
  have hg' : (1000 : Int) < (s.size : Int) := by omega
  have HF0 := Lib.hid (show Bk w [.rx (fun b => b < w.heap.size) l (.slice al l.len cl), .rx (fun b => b < w.heap.size) it (.slice ai it.len ci), .base w] from ⟨⟨hl.x fun b _ h => h, fun b h => h⟩, ⟨hs.x fun b _ h => h, fun b h => h⟩, Below.refl _ _, trivial⟩)
  clear hl hs
  go_enter Try.func7, Try.ntmps7
  go_wp2_with fail
  refine (shown_any _).mono ?_
  rintro e w1 ⟨rfl, hb1⟩
  have HF := Lib.hid ((HF0.out.box #[.int .i64 f.k, .int .i64 f.i, .int .i64 f.g, .string f.nm, .string f.fn, .int .i64 f.ar, .slice ai it.len ci, .string f.bs, .int .i64 f.n]).below hb1)
  have hz1 : w.heap.size + 1 ≤ w1.heap.size := by have := hb1.size; simp at this; omega
  clear hb1 HF0
  -- [0 box t, 1 rx l, 2 rx t, 3 base]
  go_wp2_with fail
  go_ret
  exact ⟨rfl, HF.out.base 3 rfl⟩
set_option maxRecDepth 100000 in
set_option maxHeartbeats 1000000 in
theorem making_great1 (l : TL) (al : Option Addr) (cl : Nat) (f : Fd) (it : TL) (ai : Option Addr) (ci : Nat) (s : ByteArray) (w : World) (hl : RdS w 0 w.heap.size l (.slice al l.len cl)) (hs : RdS w 0 w.heap.size it (.slice ai it.len ci)) (_ : s.size ≤ maxLen) (hg : ¬ 1000 < s.size) (hg1 : leftF l 20000 < 0) :
    Calls Try.prog 7 #[.slice al l.len cl, .agg #[.int .i64 f.k, .int .i64 f.i, .int .i64 f.g, .string f.nm, .string f.fn, .int .i64 f.ar, .slice ai it.len ci, .string f.bs, .int .i64 f.n], .string s] w (Yes w) := by
  have hg' : ¬ (1000 : Int) < (s.size : Int) := by omega
  have HG1 := Lib.hid hg1
  clear hg1
  have HF0 := Lib.hid (show Bk w [.rx (fun b => b < w.heap.size) l (.slice al l.len cl), .rx (fun b => b < w.heap.size) it (.slice ai it.len ci), .base w] from ⟨⟨hl.x fun b _ h => h, fun b h => h⟩, ⟨hs.x fun b _ h => h, fun b h => h⟩, Below.refl _ _, trivial⟩)
  clear hl hs
  go_enter Try.func7, Try.ntmps7
  go_wp2_with fail
  refine (shown_any _).mono ?_
  rintro e w1 ⟨rfl, hb1⟩
  have HF := Lib.hid ((HF0.out.box #[.int .i64 f.k, .int .i64 f.i, .int .i64 f.g, .string f.nm, .string f.fn, .int .i64 f.ar, .slice ai it.len ci, .string f.bs, .int .i64 f.n]).below hb1)
  have hz1 : w.heap.size + 1 ≤ w1.heap.size := by have := hb1.size; simp at this; omega
  clear hb1 HF0
  -- [0 box t, 1 rx l, 2 rx t, 3 base]
  have hgd : decide ((1000 : Int) < (s.size : Int)) = false := by simp; omega
  go_wp2_with fail
  refine (Great_yes l _ _ _ _ _ (HF.out.rx0 1 rfl) (Nat.le_refl _) (by decide) (by decide) HG1.out).mono ?_
  rintro e w2 ⟨rfl, hb2⟩
  have HF := Lib.hid (HF.out.below hb2)
  have hz2 : w1.heap.size ≤ w2.heap.size := hb2.size
  clear hb2
  go_wp2_with fail
  go_ret
  exact ⟨rfl, HF.out.base 3 rfl⟩
set_option maxRecDepth 100000 in
set_option maxHeartbeats 1000000 in
theorem making_great2 (l : TL) (al : Option Addr) (cl : Nat) (f : Fd) (it : TL) (ai : Option Addr) (ci : Nat) (s : ByteArray) (w : World) (hl : RdS w 0 w.heap.size l (.slice al l.len cl)) (hs : RdS w 0 w.heap.size it (.slice ai it.len ci)) (_ : s.size ≤ maxLen) (hg : ¬ 1000 < s.size) (hg1 : 0 ≤ leftF l 20000) (hg2 : leftF (.cons f it .nil) 20000 < 0) :
    Calls Try.prog 7 #[.slice al l.len cl, .agg #[.int .i64 f.k, .int .i64 f.i, .int .i64 f.g, .string f.nm, .string f.fn, .int .i64 f.ar, .slice ai it.len ci, .string f.bs, .int .i64 f.n], .string s] w (Yes w) := by
  have hg' : ¬ (1000 : Int) < (s.size : Int) := by omega
  have HG1 := Lib.hid hg1
  have HG2 := Lib.hid hg2
  clear hg1 hg2
  have HF0 := Lib.hid (show Bk w [.rx (fun b => b < w.heap.size) l (.slice al l.len cl), .rx (fun b => b < w.heap.size) it (.slice ai it.len ci), .base w] from ⟨⟨hl.x fun b _ h => h, fun b h => h⟩, ⟨hs.x fun b _ h => h, fun b h => h⟩, Below.refl _ _, trivial⟩)
  clear hl hs
  go_enter Try.func7, Try.ntmps7
  go_wp2_with fail
  refine (shown_any _).mono ?_
  rintro e w1 ⟨rfl, hb1⟩
  have HF := Lib.hid ((HF0.out.box #[.int .i64 f.k, .int .i64 f.i, .int .i64 f.g, .string f.nm, .string f.fn, .int .i64 f.ar, .slice ai it.len ci, .string f.bs, .int .i64 f.n]).below hb1)
  have hz1 : w.heap.size + 1 ≤ w1.heap.size := by have := hb1.size; simp at this; omega
  clear hb1 HF0
  -- [0 box t, 1 rx l, 2 rx t, 3 base]
  have hgd : decide ((1000 : Int) < (s.size : Int)) = false := by simp; omega
  go_wp2_with fail
  refine (Great_no l _ _ _ _ _ (HF.out.rx0 1 rfl) (Nat.le_refl _) (by decide) (by decide) HG1.out).mono ?_
  rintro e w2 ⟨rfl, hb2⟩
  have HF := Lib.hid (HF.out.below hb2)
  have hz2 : w1.heap.size ≤ w2.heap.size := hb2.size
  clear hb2
  obtain ⟨c0, c1, c2, c3, c4, c5, c6, c7, c8, -⟩ := nine_cells (HF.out.blk 0 rfl)
  go_wp2_with fail
  have h1 := RdS.one0 (f := f) (HF.out.rx0 2 rfl)
  refine (Great_yes _ _ _ _ _ _ h1 (by simp) (by decide) (by decide) HG2.out).mono ?_
  rintro e w3 ⟨rfl, hb3⟩
  have HF := Lib.hid ((HF.out.alloc _).below hb3)
  have hz3 : w2.heap.size + 1 ≤ w3.heap.size := by have := hb3.size; simp at this; omega
  clear hb3 h1 c0 c1 c2 c3 c4 c5 c6 c7 c8
  go_wp2_with fail
  go_ret
  exact ⟨rfl, HF.out.base 3 rfl⟩
set_option maxRecDepth 100000 in
set_option maxHeartbeats 4000000 in
theorem making_main (l : TL) (al : Option Addr) (cl : Nat) (f : Fd) (it : TL) (ai : Option Addr) (ci : Nat) (s : ByteArray) (w : World) (hl : RdS w 0 w.heap.size l (.slice al l.len cl)) (hs : RdS w 0 w.heap.size it (.slice ai it.len ci)) (hsz : s.size ≤ maxLen) (hg : ¬ 1000 < s.size) (hg1 : 0 ≤ leftF l 20000) (hg2 : 0 ≤ leftF (.cons f it .nil) 20000) :
    Calls Try.prog 7 #[.slice al l.len cl, .agg #[.int .i64 f.k, .int .i64 f.i, .int .i64 f.g, .string f.nm, .string f.fn, .int .i64 f.ar, .slice ai it.len ci, .string f.bs, .int .i64 f.n], .string s] w (Yes w) := by
  have hg' : ¬ (1000 : Int) < (s.size : Int) := by omega
  obtain ⟨hn1, hm1⟩ := left_cnt (by decide) hg1
  obtain ⟨ht, hn2⟩ := tame_of (by decide) hg2
  obtain ⟨C1, F1, L1, t1, t2⟩ := tuple_both l (by omega) hm1
  obtain ⟨C2, F2, L2, t3, t4, t5, t6⟩ := list_both l f it (by omega) hm1 ht
  obtain ⟨C3, F3, L3, t7, t8⟩ := cons_both f it F2 L2 (by omega) ht t5
  have HT1 := Lib.hid t1
  have HT2 := Lib.hid t2
  have HT3 := Lib.hid t3
  have HT4 := Lib.hid t4
  have HT7 := Lib.hid t7
  have HT8 := Lib.hid t8
  have HN1 := Lib.hid hn1
  have HN2 := Lib.hid hn2
  have HG1 := Lib.hid hg1
  have HG2 := Lib.hid hg2
  have HSz := Lib.hid (show s.size ≤ maxLen from hsz)
  clear hn1 hm1 ht hn2 t1 t2 t3 t4 t5 t6 t7 t8 hg1 hg2
  unfold maxLen at hsz
  have HF0 := Lib.hid (show Bk w [.rx (fun b => b < w.heap.size) l (.slice al l.len cl), .rx (fun b => b < w.heap.size) it (.slice ai it.len ci), .base w] from ⟨⟨hl.x fun b _ h => h, fun b h => h⟩, ⟨hs.x fun b _ h => h, fun b h => h⟩, Below.refl _ _, trivial⟩)
  clear hl hs
  go_enter Try.func7, Try.ntmps7
  go_wp2_with fail
  refine (shown_any _).mono ?_
  rintro e w1 ⟨rfl, hb1⟩
  have HF := Lib.hid ((HF0.out.box #[.int .i64 f.k, .int .i64 f.i, .int .i64 f.g, .string f.nm, .string f.fn, .int .i64 f.ar, .slice ai it.len ci, .string f.bs, .int .i64 f.n]).below hb1)
  have hz1 : w.heap.size + 1 ≤ w1.heap.size := by have := hb1.size; simp at this; omega
  clear hb1 HF0
  -- [0 box t, 1 rx l, 2 rx t, 3 base]
  have hgd : decide ((1000 : Int) < (s.size : Int)) = false := by simp; omega
  go_wp2_with fail
  refine (Great_no l _ _ _ _ _ (HF.out.rx0 1 rfl) (Nat.le_refl _) (by decide) (by decide) HG1.out).mono ?_
  rintro e w2 ⟨rfl, hb2⟩
  have HF := Lib.hid (HF.out.below hb2)
  have hz2 : w1.heap.size ≤ w2.heap.size := hb2.size
  clear hb2
  obtain ⟨c0, c1, c2, c3, c4, c5, c6, c7, c8, -⟩ := nine_cells (HF.out.blk 0 rfl)
  go_wp2_with fail
  have h1 := RdS.one0 (f := f) (HF.out.rx0 2 rfl)
  refine (Great_no _ _ _ _ _ _ h1 (by simp) (by decide) (by decide) HG2.out).mono ?_
  rintro e w3 ⟨rfl, hb3⟩
  have HF := Lib.hid ((HF.out.alloc _).below hb3)
  have hz3 : w2.heap.size + 1 ≤ w3.heap.size := by have := hb3.size; simp at this; omega
  clear hb3 h1 c0 c1 c2 c3 c4 c5 c6 c7 c8
  go_upto_region 5 with (fail)
  go_cut [7, 8] (fun s7 s8 wx => ∃ c, s8 = .int .i64 c ∧ s7 = .pointer (some ⟨wx.heap.size - 1, 0, none⟩) ∧ Hid (AtW s c (wx.heap.size - 1) wx) ∧ Hid (Bk wx [.blk w.heap.size #[.int .i64 f.k, .int .i64 f.i, .int .i64 f.g, .string f.nm, .string f.fn, .int .i64 f.ar, .slice ai it.len ci, .string f.bs, .int .i64 f.n], .rx (fun b => b < w.heap.size) l (.slice al l.len cl), .rx (fun b => b < w.heap.size) it (.slice ai it.len ci), .base w]) ∧ Hid (w.heap.size + 2 ≤ wx.heap.size))
  case first =>
    by_cases hn : nameB s = true
    · have HNb := Lib.hid hn
      clear hn
      go_wp2_with fail
      refine (Atom_ok s HSz.out HNb.out _).mono ?_
      rintro e w4 ⟨rfl, hb4⟩
      have HF := Lib.hid (HF.out.below hb4)
      have HZ := Lib.hid (show w.heap.size + 2 ≤ w4.heap.size by have := hb4.size; omega)
      clear hb4
      go_wp2_with fail
      go_meet
      exact ⟨0, rfl, by simp, Lib.hid (.inl ⟨HNb.out, rfl, by simp only [World.size_alloc, Nat.add_sub_cancel]; exact heap_alloc_new _ _⟩), Lib.hid (HF.out.alloc _), Lib.hid (by simp; have := HZ.out; omega)⟩
    · have HNb := Lib.hid (show nameB s = false by simpa using hn)
      clear hn
      go_wp2_with fail
      refine (Atom_no s HSz.out HNb.out _).mono ?_
      rintro e w4 ⟨rfl, hb4⟩
      have HF := Lib.hid (HF.out.below hb4)
      have HZ := Lib.hid (show w.heap.size + 2 ≤ w4.heap.size by have := hb4.size; omega)
      clear hb4
      go_wp2_with fail
      go_meet
      exact ⟨2, rfl, by simp, Lib.hid (.inr ⟨HNb.out, rfl⟩), Lib.hid (HF.out.alloc _), Lib.hid (by simp; have := HZ.out; omega)⟩
  case rest =>
    obtain ⟨c, rfl, rfl, HA, HF, HZ⟩ := hcut
    have hz4 := HZ.out
    clear HZ
    obtain ⟨w4, hw4⟩ : ∃ w4, w4 = wc := ⟨_, rfl⟩
    rw [← hw4] at HA HF hz4 ⊢
    clear hw4
    obtain ⟨L8, hL8⟩ : ∃ L8, L8 = w4.heap.size - 1 := ⟨_, rfl⟩
    rw [← hL8] at HA ⊢
    clear hL8
    go_upto_region 6 with (fail)
    go_cut [59] (fun s59 wx => s59 = .bool false ∧ Hid (Bk wx [.blk w.heap.size #[.int .i64 f.k, .int .i64 f.i, .int .i64 f.g, .string f.nm, .string f.fn, .int .i64 f.ar, .slice ai it.len ci, .string f.bs, .int .i64 f.n], .rx (fun b => b < w.heap.size) l (.slice al l.len cl), .rx (fun b => b < w.heap.size) it (.slice ai it.len ci), .base w]))
    case first =>
      rcases HA.out with ⟨hn, rfl, ha⟩ | ⟨hn, rfl⟩
      · have HNm := Lib.hid fun W => Name_at s HSz.out hn W
        have HRa := Lib.hid fun W => (show Calls Try.prog 39 #[.string s] W fun e w' => e = .returned (.agg #[.int .i64 2, .int .i64 0, .int .i64 0, .string s, .string ⟨#[]⟩, .int .i64 0, .slice none 0 0, .string ⟨#[]⟩, .int .i64 0]) ∧ Below W.heap.size W w' from rAtom_any s W)
        have HSm := Lib.hid fun W => (show Calls Try.prog 30 #[.agg #[.int .i64 2, .int .i64 0, .int .i64 0, .string s, .string ⟨#[]⟩, .int .i64 0, .slice none 0 0, .string ⟨#[]⟩, .int .i64 0], .agg #[.int .i64 2, .int .i64 0, .int .i64 0, .string s, .string ⟨#[]⟩, .int .i64 0, .slice none 0 0, .string ⟨#[]⟩, .int .i64 0]] W fun e w' => e = .returned (.bool true) ∧ Below W.heap.size W w' from kitSame_eq (atomF s) .nil none none 0 0 W (RdS.nil _ _ _) (RdS.nil _ _ _))
        have HAt := Lib.hid ha
        clear hn ha HA
        refine wp_region_slots (by kernel_rfl) 24 w4.heap.size Nmd (fun i => NmD.getD i []) (fun _ => none) (NmG s) (Nat.le_refl _) (by kernel_rfl) (by decide) (by kernel_rfl) (by decide) (by rfl) (dep_of (by kernel_rfl)) (fun _ _ _ h => by cases h) (NmG_keep s) ?_ ?_
        · intro i o hin ho f0 v lo hi W hk haft A hA hZ K' hK
          have HK := Lib.hid hK
          have HKn := Lib.hid hk
          have HAf := Lib.hid haft
          have HA := Lib.hid hA
          have HZ := Lib.hid hZ
          clear hK hk haft hA hZ
          match i, hin, ho with
          | 0, _, ho =>
            have z2 : A.tmps[2]? = some (.string s) := HZ.out 2 (by decide)
            clear HAf HA HZ
            cases ho
            go_simp
            exact HK.out (.string s) W (Moves.of_below (Below.refl _ _)) (fun _ h => by cases h) (updG_at v 0 _)
          | 1, _, ho =>
            have f0 : f0 0 = true := by cases ho; exact HAf.out ⟨0, .data⟩ (by simp) rfl
            have h0 : v 0 = .string s := HKn.out.word 0 (by decide) f0
            have s0 : A.tmps[36]? = some (.string s) := (HA.out 0 36 (by decide) rfl).trans (congrArg some h0)
            clear HAf HA HZ f0 h0
            cases ho
            go_simp
            refine (HNm.out W).mono ?_
            rintro e wq ⟨rfl, hb2⟩
            exact HK.out (.bool true) wq (Moves.of_below hb2) (fun _ h => by cases h) (updG_at v 1 _)
          | 2, _, ho =>
            have z8 : A.tmps[8]? = some (.int .i64 0) := HZ.out 8 (by decide)
            clear HAf HA HZ
            cases ho
            go_simp
            exact HK.out (.int .i64 0) W (Moves.of_below (Below.refl _ _)) (fun _ h => by cases h) (updG_at v 2 _)
          | 3, _, ho =>
            have f2 : f0 2 = true := by cases ho; exact HAf.out ⟨2, .data⟩ (by simp) rfl
            have h2 : v 2 = .int .i64 0 := HKn.out.word 2 (by decide) f2
            have s2 : A.tmps[38]? = some (.int .i64 0) := (HA.out 2 38 (by decide) rfl).trans (congrArg some h2)
            clear HAf HA HZ f2 h2
            cases ho
            go_simp
            exact HK.out (.bool true) W (Moves.of_below (Below.refl _ _)) (fun _ h => by cases h) (updG_at v 3 _)
          | 4, _, ho =>
            have f1 : f0 1 = true := by cases ho; exact HAf.out ⟨1, .data⟩ (by simp) rfl
            have h1 : v 1 = .bool true := HKn.out.word 1 (by decide) f1
            have s1 : A.tmps[37]? = some (.bool true) := (HA.out 1 37 (by decide) rfl).trans (congrArg some h1)
            have f3 : f0 3 = true := by cases ho; exact HAf.out ⟨3, .data⟩ (by simp) rfl
            have h3 : v 3 = .bool true := HKn.out.word 3 (by decide) f3
            have s3 : A.tmps[39]? = some (.bool true) := (HA.out 3 39 (by decide) rfl).trans (congrArg some h3)
            clear HAf HA HZ f1 h1 f3 h3
            cases ho
            go_simp
            exact HK.out (.bool false) W (Moves.of_below (Below.refl _ _)) (fun _ h => by cases h) (updG_at v 4 _)
          | 5, _, ho =>
            have f4 : f0 4 = true := by cases ho; exact HAf.out ⟨4, .data⟩ (by simp) rfl
            have h4 : v 4 = .bool false := HKn.out.word 4 (by decide) f4
            have s4 : A.tmps[40]? = some (.bool false) := (HA.out 4 40 (by decide) rfl).trans (congrArg some h4)
            clear HAf HA HZ f4 h4
            cases ho
            go_simp
            exact HK.out (.bool false) W (Moves.of_below (Below.refl _ _)) (fun _ h => by cases h) (updG_at v 5 _)
          | 6, _, ho =>
            have f5 : f0 5 = true := by cases ho; exact HAf.out ⟨5, .guard⟩ (by simp) rfl
            have h5 : v 5 = .bool false := HKn.out.word 5 (by decide) f5
            have s5 : A.tmps[41]? = some (.bool false) := (HA.out 5 41 (by decide) rfl).trans (congrArg some h5)
            have z8 : A.tmps[8]? = some (.int .i64 0) := HZ.out 8 (by decide)
            clear HAf HA HZ f5 h5
            cases ho
            go_simp
            exact HK.out (.int .i64 0) W (Moves.of_below (Below.refl _ _)) (fun _ h => by cases h) (updG_at v 6 _)
          | 7, _, ho =>
            have f6 : f0 6 = true := by cases ho; exact HAf.out ⟨6, .data⟩ (by simp) rfl
            have h6 : v 6 = .int .i64 0 := HKn.out.word 6 (by decide) f6
            have s6 : A.tmps[42]? = some (.int .i64 0) := (HA.out 6 42 (by decide) rfl).trans (congrArg some h6)
            have f5 : f0 5 = true := by cases ho; exact HAf.out ⟨5, .guard⟩ (by simp) rfl
            have h5 : v 5 = .bool false := HKn.out.word 5 (by decide) f5
            have s5 : A.tmps[41]? = some (.bool false) := (HA.out 5 41 (by decide) rfl).trans (congrArg some h5)
            clear HAf HA HZ f6 h6 f5 h5
            cases ho
            go_simp
            exact HK.out (.bool false) W (Moves.of_below (Below.refl _ _)) (fun _ h => by cases h) (updG_at v 7 _)
          | 8, _, ho =>
            have f7 : f0 7 = true := by cases ho; exact HAf.out ⟨7, .data⟩ (by simp) rfl
            have h7 : v 7 = .bool false := HKn.out.word 7 (by decide) f7
            have s7 : A.tmps[43]? = some (.bool false) := (HA.out 7 43 (by decide) rfl).trans (congrArg some h7)
            have f5 : f0 5 = true := by cases ho; exact HAf.out ⟨5, .guard⟩ (by simp) rfl
            have h5 : v 5 = .bool false := HKn.out.word 5 (by decide) f5
            have s5 : A.tmps[41]? = some (.bool false) := (HA.out 5 41 (by decide) rfl).trans (congrArg some h5)
            clear HAf HA HZ f7 h7 f5 h5
            cases ho
            go_simp
            exact HK.out (.bool false) W (Moves.of_below (Below.refl _ _)) (fun _ h => by cases h) (updG_at v 8 _)
          | 9, _, ho =>
            have f8 : f0 8 = true := by cases ho; exact HAf.out ⟨8, .guard⟩ (by simp) rfl
            have h8 : v 8 = .bool false := HKn.out.word 8 (by decide) f8
            have s8 : A.tmps[44]? = some (.bool false) := (HA.out 8 44 (by decide) rfl).trans (congrArg some h8)
            clear HAf HA HZ f8 h8
            cases ho
            go_simp
            exact HK.out (undef) W (Moves.of_below (Below.refl _ _)) (fun _ h => by cases h) (updG_at v 9 _)
          | 10, _, ho =>
            have f8 : f0 8 = true := by cases ho; exact HAf.out ⟨8, .guard⟩ (by simp) rfl
            have h8 : v 8 = .bool false := HKn.out.word 8 (by decide) f8
            have s8 : A.tmps[44]? = some (.bool false) := (HA.out 8 44 (by decide) rfl).trans (congrArg some h8)
            clear HAf HA HZ f8 h8
            cases ho
            go_simp
            exact HK.out (undef) W (Moves.of_below (Below.refl _ _)) (fun _ h => by cases h) (updG_at v 10 _)
          | 11, _, ho =>
            have f8 : f0 8 = true := by cases ho; exact HAf.out ⟨8, .data⟩ (by simp) rfl
            have h8 : v 8 = .bool false := HKn.out.word 8 (by decide) f8
            have s8 : A.tmps[44]? = some (.bool false) := (HA.out 8 44 (by decide) rfl).trans (congrArg some h8)
            have f10 : f0 10 = true := by cases ho; exact HAf.out ⟨10, .data⟩ (by simp) rfl
            have h10 : v 10 = undef := HKn.out.word 10 (by decide) f10
            have s10 : A.tmps[46]? = some (undef) := (HA.out 10 46 (by decide) rfl).trans (congrArg some h10)
            have f5 : f0 5 = true := by cases ho; exact HAf.out ⟨5, .guard⟩ (by simp) rfl
            have h5 : v 5 = .bool false := HKn.out.word 5 (by decide) f5
            have s5 : A.tmps[41]? = some (.bool false) := (HA.out 5 41 (by decide) rfl).trans (congrArg some h5)
            clear HAf HA HZ f8 h8 f10 h10 f5 h5
            cases ho
            go_simp
            exact HK.out (.bool false) W (Moves.of_below (Below.refl _ _)) (fun _ h => by cases h) (updG_at v 11 _)
          | 12, _, ho =>
            have f5 : f0 5 = true := by cases ho; exact HAf.out ⟨5, .data⟩ (by simp) rfl
            have h5 : v 5 = .bool false := HKn.out.word 5 (by decide) f5
            have s5 : A.tmps[41]? = some (.bool false) := (HA.out 5 41 (by decide) rfl).trans (congrArg some h5)
            have f11 : f0 11 = true := by cases ho; exact HAf.out ⟨11, .data⟩ (by simp) rfl
            have h11 : v 11 = .bool false := HKn.out.word 11 (by decide) f11
            have s11 : A.tmps[47]? = some (.bool false) := (HA.out 11 47 (by decide) rfl).trans (congrArg some h11)
            clear HAf HA HZ f5 h5 f11 h11
            cases ho
            go_simp
            exact HK.out (.bool false) W (Moves.of_below (Below.refl _ _)) (fun _ h => by cases h) (updG_at v 12 _)
          | 13, _, ho =>
            have f12 : f0 12 = true := by cases ho; exact HAf.out ⟨12, .data⟩ (by simp) rfl
            have h12 : v 12 = .bool false := HKn.out.word 12 (by decide) f12
            have s12 : A.tmps[48]? = some (.bool false) := (HA.out 12 48 (by decide) rfl).trans (congrArg some h12)
            clear HAf HA HZ f12 h12
            cases ho
            go_simp
            exact HK.out (.bool false) W (Moves.of_below (Below.refl _ _)) (fun _ h => by cases h) (updG_at v 13 _)
          | 14, _, ho =>
            have f13 : f0 13 = true := by cases ho; exact HAf.out ⟨13, .guard⟩ (by simp) rfl
            have h13 : v 13 = .bool false := HKn.out.word 13 (by decide) f13
            have s13 : A.tmps[49]? = some (.bool false) := (HA.out 13 49 (by decide) rfl).trans (congrArg some h13)
            have z8 : A.tmps[8]? = some (.int .i64 0) := HZ.out 8 (by decide)
            clear HAf HA HZ f13 h13
            cases ho
            go_simp
            exact HK.out (.int .i64 0) W (Moves.of_below (Below.refl _ _)) (fun _ h => by cases h) (updG_at v 14 _)
          | 15, _, ho =>
            have f14 : f0 14 = true := by cases ho; exact HAf.out ⟨14, .data⟩ (by simp) rfl
            have h14 : v 14 = .int .i64 0 := HKn.out.word 14 (by decide) f14
            have s14 : A.tmps[50]? = some (.int .i64 0) := (HA.out 14 50 (by decide) rfl).trans (congrArg some h14)
            have f13 : f0 13 = true := by cases ho; exact HAf.out ⟨13, .guard⟩ (by simp) rfl
            have h13 : v 13 = .bool false := HKn.out.word 13 (by decide) f13
            have s13 : A.tmps[49]? = some (.bool false) := (HA.out 13 49 (by decide) rfl).trans (congrArg some h13)
            clear HAf HA HZ f14 h14 f13 h13
            cases ho
            go_simp
            exact HK.out (.bool true) W (Moves.of_below (Below.refl _ _)) (fun _ h => by cases h) (updG_at v 15 _)
          | 16, _, ho =>
            have f15 : f0 15 = true := by cases ho; exact HAf.out ⟨15, .data⟩ (by simp) rfl
            have h15 : v 15 = .bool true := HKn.out.word 15 (by decide) f15
            have s15 : A.tmps[51]? = some (.bool true) := (HA.out 15 51 (by decide) rfl).trans (congrArg some h15)
            have f13 : f0 13 = true := by cases ho; exact HAf.out ⟨13, .guard⟩ (by simp) rfl
            have h13 : v 13 = .bool false := HKn.out.word 13 (by decide) f13
            have s13 : A.tmps[49]? = some (.bool false) := (HA.out 13 49 (by decide) rfl).trans (congrArg some h13)
            clear HAf HA HZ f15 h15 f13 h13
            cases ho
            go_simp
            exact HK.out (.bool true) W (Moves.of_below (Below.refl _ _)) (fun _ h => by cases h) (updG_at v 16 _)
          | 17, _, ho =>
            have f16 : f0 16 = true := by cases ho; exact HAf.out ⟨16, .guard⟩ (by simp) rfl
            have h16 : v 16 = .bool true := HKn.out.word 16 (by decide) f16
            have s16 : A.tmps[52]? = some (.bool true) := (HA.out 16 52 (by decide) rfl).trans (congrArg some h16)
            have z7 : A.tmps[7]? = some (.pointer (some ⟨L8, 0, none⟩)) := HZ.out 7 (by decide)
            obtain ⟨c0, c1, c2, c3, c4, c5, c6, c7, c8, -⟩ := nine_cells (keepB HKn.out.below (HAt.out))
            clear HAf HA HZ f16 h16
            cases ho
            go_simp
            exact HK.out (.agg #[.int .i64 2, .int .i64 0, .int .i64 0, .string s, .string ⟨#[]⟩, .int .i64 0, .slice none 0 0, .string ⟨#[]⟩, .int .i64 0]) W (Moves.of_below (Below.refl _ _)) (fun _ h => by cases h) (updG_at v 17 _)
          | 18, _, ho =>
            have f16 : f0 16 = true := by cases ho; exact HAf.out ⟨16, .guard⟩ (by simp) rfl
            have h16 : v 16 = .bool true := HKn.out.word 16 (by decide) f16
            have s16 : A.tmps[52]? = some (.bool true) := (HA.out 16 52 (by decide) rfl).trans (congrArg some h16)
            have z2 : A.tmps[2]? = some (.string s) := HZ.out 2 (by decide)
            clear HAf HA HZ f16 h16
            cases ho
            go_simp
            exact HK.out (.string s) W (Moves.of_below (Below.refl _ _)) (fun _ h => by cases h) (updG_at v 18 _)
          | 19, _, ho =>
            have f18 : f0 18 = true := by cases ho; exact HAf.out ⟨18, .data⟩ (by simp) rfl
            have h18 : v 18 = .string s := HKn.out.word 18 (by decide) f18
            have s18 : A.tmps[54]? = some (.string s) := (HA.out 18 54 (by decide) rfl).trans (congrArg some h18)
            have f16 : f0 16 = true := by cases ho; exact HAf.out ⟨16, .guard⟩ (by simp) rfl
            have h16 : v 16 = .bool true := HKn.out.word 16 (by decide) f16
            have s16 : A.tmps[52]? = some (.bool true) := (HA.out 16 52 (by decide) rfl).trans (congrArg some h16)
            clear HAf HA HZ f18 h18 f16 h16
            cases ho
            go_simp
            refine (HRa.out W).mono ?_
            rintro e wq ⟨rfl, hb2⟩
            exact HK.out (.agg #[.int .i64 2, .int .i64 0, .int .i64 0, .string s, .string ⟨#[]⟩, .int .i64 0, .slice none 0 0, .string ⟨#[]⟩, .int .i64 0]) wq (Moves.of_below hb2) (fun _ h => by cases h) (updG_at v 19 _)
          | 20, _, ho =>
            have f17 : f0 17 = true := by cases ho; exact HAf.out ⟨17, .data⟩ (by simp) rfl
            have h17 : v 17 = .agg #[.int .i64 2, .int .i64 0, .int .i64 0, .string s, .string ⟨#[]⟩, .int .i64 0, .slice none 0 0, .string ⟨#[]⟩, .int .i64 0] := HKn.out.word 17 (by decide) f17
            have s17 : A.tmps[53]? = some (.agg #[.int .i64 2, .int .i64 0, .int .i64 0, .string s, .string ⟨#[]⟩, .int .i64 0, .slice none 0 0, .string ⟨#[]⟩, .int .i64 0]) := (HA.out 17 53 (by decide) rfl).trans (congrArg some h17)
            have f19 : f0 19 = true := by cases ho; exact HAf.out ⟨19, .data⟩ (by simp) rfl
            have h19 : v 19 = .agg #[.int .i64 2, .int .i64 0, .int .i64 0, .string s, .string ⟨#[]⟩, .int .i64 0, .slice none 0 0, .string ⟨#[]⟩, .int .i64 0] := HKn.out.word 19 (by decide) f19
            have s19 : A.tmps[55]? = some (.agg #[.int .i64 2, .int .i64 0, .int .i64 0, .string s, .string ⟨#[]⟩, .int .i64 0, .slice none 0 0, .string ⟨#[]⟩, .int .i64 0]) := (HA.out 19 55 (by decide) rfl).trans (congrArg some h19)
            have f16 : f0 16 = true := by cases ho; exact HAf.out ⟨16, .guard⟩ (by simp) rfl
            have h16 : v 16 = .bool true := HKn.out.word 16 (by decide) f16
            have s16 : A.tmps[52]? = some (.bool true) := (HA.out 16 52 (by decide) rfl).trans (congrArg some h16)
            clear HAf HA HZ f17 h17 f19 h19 f16 h16
            cases ho
            go_simp
            refine (HSm.out W).mono ?_
            rintro e wq ⟨rfl, hb2⟩
            exact HK.out (.bool true) wq (Moves.of_below hb2) (fun _ h => by cases h) (updG_at v 20 _)
          | 21, _, ho =>
            have f20 : f0 20 = true := by cases ho; exact HAf.out ⟨20, .data⟩ (by simp) rfl
            have h20 : v 20 = .bool true := HKn.out.word 20 (by decide) f20
            have s20 : A.tmps[56]? = some (.bool true) := (HA.out 20 56 (by decide) rfl).trans (congrArg some h20)
            have f16 : f0 16 = true := by cases ho; exact HAf.out ⟨16, .guard⟩ (by simp) rfl
            have h16 : v 16 = .bool true := HKn.out.word 16 (by decide) f16
            have s16 : A.tmps[52]? = some (.bool true) := (HA.out 16 52 (by decide) rfl).trans (congrArg some h16)
            clear HAf HA HZ f20 h20 f16 h16
            cases ho
            go_simp
            exact HK.out (.bool false) W (Moves.of_below (Below.refl _ _)) (fun _ h => by cases h) (updG_at v 21 _)
          | 22, _, ho =>
            have f16 : f0 16 = true := by cases ho; exact HAf.out ⟨16, .data⟩ (by simp) rfl
            have h16 : v 16 = .bool true := HKn.out.word 16 (by decide) f16
            have s16 : A.tmps[52]? = some (.bool true) := (HA.out 16 52 (by decide) rfl).trans (congrArg some h16)
            have f21 : f0 21 = true := by cases ho; exact HAf.out ⟨21, .data⟩ (by simp) rfl
            have h21 : v 21 = .bool false := HKn.out.word 21 (by decide) f21
            have s21 : A.tmps[57]? = some (.bool false) := (HA.out 21 57 (by decide) rfl).trans (congrArg some h21)
            have f13 : f0 13 = true := by cases ho; exact HAf.out ⟨13, .guard⟩ (by simp) rfl
            have h13 : v 13 = .bool false := HKn.out.word 13 (by decide) f13
            have s13 : A.tmps[49]? = some (.bool false) := (HA.out 13 49 (by decide) rfl).trans (congrArg some h13)
            clear HAf HA HZ f16 h16 f21 h21 f13 h13
            cases ho
            go_simp
            exact HK.out (.bool false) W (Moves.of_below (Below.refl _ _)) (fun _ h => by cases h) (updG_at v 22 _)
          | 23, _, ho =>
            have f13 : f0 13 = true := by cases ho; exact HAf.out ⟨13, .data⟩ (by simp) rfl
            have h13 : v 13 = .bool false := HKn.out.word 13 (by decide) f13
            have s13 : A.tmps[49]? = some (.bool false) := (HA.out 13 49 (by decide) rfl).trans (congrArg some h13)
            have f22 : f0 22 = true := by cases ho; exact HAf.out ⟨22, .data⟩ (by simp) rfl
            have h22 : v 22 = .bool false := HKn.out.word 22 (by decide) f22
            have s22 : A.tmps[58]? = some (.bool false) := (HA.out 22 58 (by decide) rfl).trans (congrArg some h22)
            clear HAf HA HZ f13 h13 f22 h22
            cases ho
            go_simp
            exact HK.out (.bool false) W (Moves.of_below (Below.refl _ _)) (fun _ h => by cases h) (updG_at v 23 _)
          | k + 24, hk, _ => exact absurd hk (by omega)
        · intro v lo hi W hk
          have hbz := hk.below
          have HFn := Lib.hid (HF.out.below hbz)
          have H59 := Lib.hid (hk.word 23 (by decide) rfl)
          clear hk hbz
          simp only [canon, Nmd, Act.put, List.getD_cons_succ, List.getD_cons_zero, List.drop_succ_cons, List.drop_zero, List.setIfInBounds_toArray, List.set_cons_zero, List.set_cons_succ]
          rw [show v 23 = .bool false from H59.out]
          simp only [wpList]
          refine (‹∀ (a' : Act) (w' : World), Met _ a' w' → _› _ _ ?_)
          go_meet
          exact ⟨rfl, HFn⟩
      · have HNm := Lib.hid fun W => Name_at s HSz.out hn W
        clear hn HA
        refine wp_region_slots (by kernel_rfl) 24 w4.heap.size Nnd (fun i => NnD.getD i []) (fun _ => none) (NnG s) (Nat.le_refl _) (by kernel_rfl) (by decide) (by kernel_rfl) (by decide) (by rfl) (dep_of (by kernel_rfl)) (fun _ _ _ h => by cases h) (NnG_keep s) ?_ ?_
        · intro i o hin ho f0 v lo hi W hk haft A hA hZ K' hK
          have HK := Lib.hid hK
          have HKn := Lib.hid hk
          have HAf := Lib.hid haft
          have HA := Lib.hid hA
          have HZ := Lib.hid hZ
          clear hK hk haft hA hZ
          match i, hin, ho with
          | 0, _, ho =>
            have z2 : A.tmps[2]? = some (.string s) := HZ.out 2 (by decide)
            clear HAf HA HZ
            cases ho
            go_simp
            exact HK.out (.string s) W (Moves.of_below (Below.refl _ _)) (fun _ h => by cases h) (updG_at v 0 _)
          | 1, _, ho =>
            have f0 : f0 0 = true := by cases ho; exact HAf.out ⟨0, .data⟩ (by simp) rfl
            have h0 : v 0 = .string s := HKn.out.word 0 (by decide) f0
            have s0 : A.tmps[36]? = some (.string s) := (HA.out 0 36 (by decide) rfl).trans (congrArg some h0)
            clear HAf HA HZ f0 h0
            cases ho
            go_simp
            refine (HNm.out W).mono ?_
            rintro e wq ⟨rfl, hb2⟩
            exact HK.out (.bool false) wq (Moves.of_below hb2) (fun _ h => by cases h) (updG_at v 1 _)
          | 2, _, ho =>
            have z8 : A.tmps[8]? = some (.int .i64 2) := HZ.out 8 (by decide)
            clear HAf HA HZ
            cases ho
            go_simp
            exact HK.out (.int .i64 2) W (Moves.of_below (Below.refl _ _)) (fun _ h => by cases h) (updG_at v 2 _)
          | 3, _, ho =>
            have f2 : f0 2 = true := by cases ho; exact HAf.out ⟨2, .data⟩ (by simp) rfl
            have h2 : v 2 = .int .i64 2 := HKn.out.word 2 (by decide) f2
            have s2 : A.tmps[38]? = some (.int .i64 2) := (HA.out 2 38 (by decide) rfl).trans (congrArg some h2)
            clear HAf HA HZ f2 h2
            cases ho
            go_simp
            exact HK.out (.bool false) W (Moves.of_below (Below.refl _ _)) (fun _ h => by cases h) (updG_at v 3 _)
          | 4, _, ho =>
            have f1 : f0 1 = true := by cases ho; exact HAf.out ⟨1, .data⟩ (by simp) rfl
            have h1 : v 1 = .bool false := HKn.out.word 1 (by decide) f1
            have s1 : A.tmps[37]? = some (.bool false) := (HA.out 1 37 (by decide) rfl).trans (congrArg some h1)
            have f3 : f0 3 = true := by cases ho; exact HAf.out ⟨3, .data⟩ (by simp) rfl
            have h3 : v 3 = .bool false := HKn.out.word 3 (by decide) f3
            have s3 : A.tmps[39]? = some (.bool false) := (HA.out 3 39 (by decide) rfl).trans (congrArg some h3)
            clear HAf HA HZ f1 h1 f3 h3
            cases ho
            go_simp
            exact HK.out (.bool false) W (Moves.of_below (Below.refl _ _)) (fun _ h => by cases h) (updG_at v 4 _)
          | 5, _, ho =>
            have f4 : f0 4 = true := by cases ho; exact HAf.out ⟨4, .data⟩ (by simp) rfl
            have h4 : v 4 = .bool false := HKn.out.word 4 (by decide) f4
            have s4 : A.tmps[40]? = some (.bool false) := (HA.out 4 40 (by decide) rfl).trans (congrArg some h4)
            clear HAf HA HZ f4 h4
            cases ho
            go_simp
            exact HK.out (.bool false) W (Moves.of_below (Below.refl _ _)) (fun _ h => by cases h) (updG_at v 5 _)
          | 6, _, ho =>
            have f5 : f0 5 = true := by cases ho; exact HAf.out ⟨5, .guard⟩ (by simp) rfl
            have h5 : v 5 = .bool false := HKn.out.word 5 (by decide) f5
            have s5 : A.tmps[41]? = some (.bool false) := (HA.out 5 41 (by decide) rfl).trans (congrArg some h5)
            have z8 : A.tmps[8]? = some (.int .i64 2) := HZ.out 8 (by decide)
            clear HAf HA HZ f5 h5
            cases ho
            go_simp
            exact HK.out (.int .i64 2) W (Moves.of_below (Below.refl _ _)) (fun _ h => by cases h) (updG_at v 6 _)
          | 7, _, ho =>
            have f6 : f0 6 = true := by cases ho; exact HAf.out ⟨6, .data⟩ (by simp) rfl
            have h6 : v 6 = .int .i64 2 := HKn.out.word 6 (by decide) f6
            have s6 : A.tmps[42]? = some (.int .i64 2) := (HA.out 6 42 (by decide) rfl).trans (congrArg some h6)
            have f5 : f0 5 = true := by cases ho; exact HAf.out ⟨5, .guard⟩ (by simp) rfl
            have h5 : v 5 = .bool false := HKn.out.word 5 (by decide) f5
            have s5 : A.tmps[41]? = some (.bool false) := (HA.out 5 41 (by decide) rfl).trans (congrArg some h5)
            clear HAf HA HZ f6 h6 f5 h5
            cases ho
            go_simp
            exact HK.out (.bool true) W (Moves.of_below (Below.refl _ _)) (fun _ h => by cases h) (updG_at v 7 _)
          | 8, _, ho =>
            have f7 : f0 7 = true := by cases ho; exact HAf.out ⟨7, .data⟩ (by simp) rfl
            have h7 : v 7 = .bool true := HKn.out.word 7 (by decide) f7
            have s7 : A.tmps[43]? = some (.bool true) := (HA.out 7 43 (by decide) rfl).trans (congrArg some h7)
            have f5 : f0 5 = true := by cases ho; exact HAf.out ⟨5, .guard⟩ (by simp) rfl
            have h5 : v 5 = .bool false := HKn.out.word 5 (by decide) f5
            have s5 : A.tmps[41]? = some (.bool false) := (HA.out 5 41 (by decide) rfl).trans (congrArg some h5)
            clear HAf HA HZ f7 h7 f5 h5
            cases ho
            go_simp
            exact HK.out (.bool true) W (Moves.of_below (Below.refl _ _)) (fun _ h => by cases h) (updG_at v 8 _)
          | 9, _, ho =>
            have f8 : f0 8 = true := by cases ho; exact HAf.out ⟨8, .guard⟩ (by simp) rfl
            have h8 : v 8 = .bool true := HKn.out.word 8 (by decide) f8
            have s8 : A.tmps[44]? = some (.bool true) := (HA.out 8 44 (by decide) rfl).trans (congrArg some h8)
            have z8 : A.tmps[8]? = some (.int .i64 2) := HZ.out 8 (by decide)
            clear HAf HA HZ f8 h8
            cases ho
            go_simp
            exact HK.out (.int .i64 2) W (Moves.of_below (Below.refl _ _)) (fun _ h => by cases h) (updG_at v 9 _)
          | 10, _, ho =>
            have f9 : f0 9 = true := by cases ho; exact HAf.out ⟨9, .data⟩ (by simp) rfl
            have h9 : v 9 = .int .i64 2 := HKn.out.word 9 (by decide) f9
            have s9 : A.tmps[45]? = some (.int .i64 2) := (HA.out 9 45 (by decide) rfl).trans (congrArg some h9)
            have f8 : f0 8 = true := by cases ho; exact HAf.out ⟨8, .guard⟩ (by simp) rfl
            have h8 : v 8 = .bool true := HKn.out.word 8 (by decide) f8
            have s8 : A.tmps[44]? = some (.bool true) := (HA.out 8 44 (by decide) rfl).trans (congrArg some h8)
            clear HAf HA HZ f9 h9 f8 h8
            cases ho
            go_simp
            exact HK.out (.bool false) W (Moves.of_below (Below.refl _ _)) (fun _ h => by cases h) (updG_at v 10 _)
          | 11, _, ho =>
            have f8 : f0 8 = true := by cases ho; exact HAf.out ⟨8, .data⟩ (by simp) rfl
            have h8 : v 8 = .bool true := HKn.out.word 8 (by decide) f8
            have s8 : A.tmps[44]? = some (.bool true) := (HA.out 8 44 (by decide) rfl).trans (congrArg some h8)
            have f10 : f0 10 = true := by cases ho; exact HAf.out ⟨10, .data⟩ (by simp) rfl
            have h10 : v 10 = .bool false := HKn.out.word 10 (by decide) f10
            have s10 : A.tmps[46]? = some (.bool false) := (HA.out 10 46 (by decide) rfl).trans (congrArg some h10)
            have f5 : f0 5 = true := by cases ho; exact HAf.out ⟨5, .guard⟩ (by simp) rfl
            have h5 : v 5 = .bool false := HKn.out.word 5 (by decide) f5
            have s5 : A.tmps[41]? = some (.bool false) := (HA.out 5 41 (by decide) rfl).trans (congrArg some h5)
            clear HAf HA HZ f8 h8 f10 h10 f5 h5
            cases ho
            go_simp
            exact HK.out (.bool false) W (Moves.of_below (Below.refl _ _)) (fun _ h => by cases h) (updG_at v 11 _)
          | 12, _, ho =>
            have f5 : f0 5 = true := by cases ho; exact HAf.out ⟨5, .data⟩ (by simp) rfl
            have h5 : v 5 = .bool false := HKn.out.word 5 (by decide) f5
            have s5 : A.tmps[41]? = some (.bool false) := (HA.out 5 41 (by decide) rfl).trans (congrArg some h5)
            have f11 : f0 11 = true := by cases ho; exact HAf.out ⟨11, .data⟩ (by simp) rfl
            have h11 : v 11 = .bool false := HKn.out.word 11 (by decide) f11
            have s11 : A.tmps[47]? = some (.bool false) := (HA.out 11 47 (by decide) rfl).trans (congrArg some h11)
            clear HAf HA HZ f5 h5 f11 h11
            cases ho
            go_simp
            exact HK.out (.bool false) W (Moves.of_below (Below.refl _ _)) (fun _ h => by cases h) (updG_at v 12 _)
          | 13, _, ho =>
            have f12 : f0 12 = true := by cases ho; exact HAf.out ⟨12, .data⟩ (by simp) rfl
            have h12 : v 12 = .bool false := HKn.out.word 12 (by decide) f12
            have s12 : A.tmps[48]? = some (.bool false) := (HA.out 12 48 (by decide) rfl).trans (congrArg some h12)
            clear HAf HA HZ f12 h12
            cases ho
            go_simp
            exact HK.out (.bool false) W (Moves.of_below (Below.refl _ _)) (fun _ h => by cases h) (updG_at v 13 _)
          | 14, _, ho =>
            have f13 : f0 13 = true := by cases ho; exact HAf.out ⟨13, .guard⟩ (by simp) rfl
            have h13 : v 13 = .bool false := HKn.out.word 13 (by decide) f13
            have s13 : A.tmps[49]? = some (.bool false) := (HA.out 13 49 (by decide) rfl).trans (congrArg some h13)
            have z8 : A.tmps[8]? = some (.int .i64 2) := HZ.out 8 (by decide)
            clear HAf HA HZ f13 h13
            cases ho
            go_simp
            exact HK.out (.int .i64 2) W (Moves.of_below (Below.refl _ _)) (fun _ h => by cases h) (updG_at v 14 _)
          | 15, _, ho =>
            have f14 : f0 14 = true := by cases ho; exact HAf.out ⟨14, .data⟩ (by simp) rfl
            have h14 : v 14 = .int .i64 2 := HKn.out.word 14 (by decide) f14
            have s14 : A.tmps[50]? = some (.int .i64 2) := (HA.out 14 50 (by decide) rfl).trans (congrArg some h14)
            have f13 : f0 13 = true := by cases ho; exact HAf.out ⟨13, .guard⟩ (by simp) rfl
            have h13 : v 13 = .bool false := HKn.out.word 13 (by decide) f13
            have s13 : A.tmps[49]? = some (.bool false) := (HA.out 13 49 (by decide) rfl).trans (congrArg some h13)
            clear HAf HA HZ f14 h14 f13 h13
            cases ho
            go_simp
            exact HK.out (.bool false) W (Moves.of_below (Below.refl _ _)) (fun _ h => by cases h) (updG_at v 15 _)
          | 16, _, ho =>
            have f15 : f0 15 = true := by cases ho; exact HAf.out ⟨15, .data⟩ (by simp) rfl
            have h15 : v 15 = .bool false := HKn.out.word 15 (by decide) f15
            have s15 : A.tmps[51]? = some (.bool false) := (HA.out 15 51 (by decide) rfl).trans (congrArg some h15)
            have f13 : f0 13 = true := by cases ho; exact HAf.out ⟨13, .guard⟩ (by simp) rfl
            have h13 : v 13 = .bool false := HKn.out.word 13 (by decide) f13
            have s13 : A.tmps[49]? = some (.bool false) := (HA.out 13 49 (by decide) rfl).trans (congrArg some h13)
            clear HAf HA HZ f15 h15 f13 h13
            cases ho
            go_simp
            exact HK.out (.bool false) W (Moves.of_below (Below.refl _ _)) (fun _ h => by cases h) (updG_at v 16 _)
          | 17, _, ho =>
            have f16 : f0 16 = true := by cases ho; exact HAf.out ⟨16, .guard⟩ (by simp) rfl
            have h16 : v 16 = .bool false := HKn.out.word 16 (by decide) f16
            have s16 : A.tmps[52]? = some (.bool false) := (HA.out 16 52 (by decide) rfl).trans (congrArg some h16)
            clear HAf HA HZ f16 h16
            cases ho
            go_simp
            exact HK.out (undef) W (Moves.of_below (Below.refl _ _)) (fun _ h => by cases h) (updG_at v 17 _)
          | 18, _, ho =>
            have f16 : f0 16 = true := by cases ho; exact HAf.out ⟨16, .guard⟩ (by simp) rfl
            have h16 : v 16 = .bool false := HKn.out.word 16 (by decide) f16
            have s16 : A.tmps[52]? = some (.bool false) := (HA.out 16 52 (by decide) rfl).trans (congrArg some h16)
            clear HAf HA HZ f16 h16
            cases ho
            go_simp
            exact HK.out (undef) W (Moves.of_below (Below.refl _ _)) (fun _ h => by cases h) (updG_at v 18 _)
          | 19, _, ho =>
            have f16 : f0 16 = true := by cases ho; exact HAf.out ⟨16, .guard⟩ (by simp) rfl
            have h16 : v 16 = .bool false := HKn.out.word 16 (by decide) f16
            have s16 : A.tmps[52]? = some (.bool false) := (HA.out 16 52 (by decide) rfl).trans (congrArg some h16)
            clear HAf HA HZ f16 h16
            cases ho
            go_simp
            exact HK.out (undef) W (Moves.of_below (Below.refl _ _)) (fun _ h => by cases h) (updG_at v 19 _)
          | 20, _, ho =>
            have f16 : f0 16 = true := by cases ho; exact HAf.out ⟨16, .guard⟩ (by simp) rfl
            have h16 : v 16 = .bool false := HKn.out.word 16 (by decide) f16
            have s16 : A.tmps[52]? = some (.bool false) := (HA.out 16 52 (by decide) rfl).trans (congrArg some h16)
            clear HAf HA HZ f16 h16
            cases ho
            go_simp
            exact HK.out (undef) W (Moves.of_below (Below.refl _ _)) (fun _ h => by cases h) (updG_at v 20 _)
          | 21, _, ho =>
            have f16 : f0 16 = true := by cases ho; exact HAf.out ⟨16, .guard⟩ (by simp) rfl
            have h16 : v 16 = .bool false := HKn.out.word 16 (by decide) f16
            have s16 : A.tmps[52]? = some (.bool false) := (HA.out 16 52 (by decide) rfl).trans (congrArg some h16)
            clear HAf HA HZ f16 h16
            cases ho
            go_simp
            exact HK.out (undef) W (Moves.of_below (Below.refl _ _)) (fun _ h => by cases h) (updG_at v 21 _)
          | 22, _, ho =>
            have f16 : f0 16 = true := by cases ho; exact HAf.out ⟨16, .data⟩ (by simp) rfl
            have h16 : v 16 = .bool false := HKn.out.word 16 (by decide) f16
            have s16 : A.tmps[52]? = some (.bool false) := (HA.out 16 52 (by decide) rfl).trans (congrArg some h16)
            have f21 : f0 21 = true := by cases ho; exact HAf.out ⟨21, .data⟩ (by simp) rfl
            have h21 : v 21 = undef := HKn.out.word 21 (by decide) f21
            have s21 : A.tmps[57]? = some (undef) := (HA.out 21 57 (by decide) rfl).trans (congrArg some h21)
            have f13 : f0 13 = true := by cases ho; exact HAf.out ⟨13, .guard⟩ (by simp) rfl
            have h13 : v 13 = .bool false := HKn.out.word 13 (by decide) f13
            have s13 : A.tmps[49]? = some (.bool false) := (HA.out 13 49 (by decide) rfl).trans (congrArg some h13)
            clear HAf HA HZ f16 h16 f21 h21 f13 h13
            cases ho
            go_simp
            exact HK.out (.bool false) W (Moves.of_below (Below.refl _ _)) (fun _ h => by cases h) (updG_at v 22 _)
          | 23, _, ho =>
            have f13 : f0 13 = true := by cases ho; exact HAf.out ⟨13, .data⟩ (by simp) rfl
            have h13 : v 13 = .bool false := HKn.out.word 13 (by decide) f13
            have s13 : A.tmps[49]? = some (.bool false) := (HA.out 13 49 (by decide) rfl).trans (congrArg some h13)
            have f22 : f0 22 = true := by cases ho; exact HAf.out ⟨22, .data⟩ (by simp) rfl
            have h22 : v 22 = .bool false := HKn.out.word 22 (by decide) f22
            have s22 : A.tmps[58]? = some (.bool false) := (HA.out 22 58 (by decide) rfl).trans (congrArg some h22)
            clear HAf HA HZ f13 h13 f22 h22
            cases ho
            go_simp
            exact HK.out (.bool false) W (Moves.of_below (Below.refl _ _)) (fun _ h => by cases h) (updG_at v 23 _)
          | k + 24, hk, _ => exact absurd hk (by omega)
        · intro v lo hi W hk
          have hbz := hk.below
          have HFn := Lib.hid (HF.out.below hbz)
          have H59 := Lib.hid (hk.word 23 (by decide) rfl)
          clear hk hbz
          simp only [canon, Nnd, Act.put, List.getD_cons_succ, List.getD_cons_zero, List.drop_succ_cons, List.drop_zero, List.setIfInBounds_toArray, List.set_cons_zero, List.set_cons_succ]
          rw [show v 23 = .bool false from H59.out]
          simp only [wpList]
          refine (‹∀ (a' : Act) (w' : World), Met _ a' w' → _› _ _ ?_)
          go_meet
          exact ⟨rfl, HFn⟩
    case rest =>
      obtain ⟨rfl, HF⟩ := hcut
      clear HA hz1 hz2 hz3 hz4
      go_upto_region 8 with (fail)
      have HI1 := Lib.hid fun W (_ : Below wc.heap.size wc W) => (show Calls Try.prog 32 #[.int .i64 f.i] W fun e w' => e = .returned (.agg #[.int .i64 1, .int .i64 f.i, .int .i64 0, .string ⟨#[]⟩, .string ⟨#[]⟩, .int .i64 0, .slice none 0 0, .string ⟨#[]⟩, .int .i64 0]) ∧ Below W.heap.size W w' from pInt_any f.i W)
      have HI2 := Lib.hid fun W (_ : Below wc.heap.size wc W) => (show Calls Try.prog 40 #[.int .i64 f.i] W fun e w' => e = .returned (.agg #[.int .i64 1, .int .i64 f.i, .int .i64 0, .string ⟨#[]⟩, .string ⟨#[]⟩, .int .i64 0, .slice none 0 0, .string ⟨#[]⟩, .int .i64 0]) ∧ Below W.heap.size W w' from rInt_any f.i W)
      have HS1 := Lib.hid fun W (_ : Below wc.heap.size wc W) => (show Calls Try.prog 30 #[.agg #[.int .i64 1, .int .i64 f.i, .int .i64 0, .string ⟨#[]⟩, .string ⟨#[]⟩, .int .i64 0, .slice none 0 0, .string ⟨#[]⟩, .int .i64 0], .agg #[.int .i64 1, .int .i64 f.i, .int .i64 0, .string ⟨#[]⟩, .string ⟨#[]⟩, .int .i64 0, .slice none 0 0, .string ⟨#[]⟩, .int .i64 0]] W fun e w' => e = .returned (.bool true) ∧ Below W.heap.size W w' from kitSame_eq (intF f.i) .nil none none 0 0 W (RdS.nil _ _ _) (RdS.nil _ _ _))
      have HB1 := Lib.hid fun W (_ : Below wc.heap.size wc W) => (show Calls Try.prog 41 #[.bool true] W fun e w' => e = .returned (.agg #[.int .i64 2, .int .i64 0, .int .i64 0, .string ⟨#[116, 114, 117, 101]⟩, .string ⟨#[]⟩, .int .i64 0, .slice none 0 0, .string ⟨#[]⟩, .int .i64 0]) ∧ Below W.heap.size W w' from pBoolT_any W)
      have HB2 := Lib.hid fun W (_ : Below wc.heap.size wc W) => (show Calls Try.prog 42 #[.bool true] W fun e w' => e = .returned (.agg #[.int .i64 2, .int .i64 0, .int .i64 0, .string ⟨#[116, 114, 117, 101]⟩, .string ⟨#[]⟩, .int .i64 0, .slice none 0 0, .string ⟨#[]⟩, .int .i64 0]) ∧ Below W.heap.size W w' from rBoolT_any W)
      have HS2 := Lib.hid fun W (_ : Below wc.heap.size wc W) => (show Calls Try.prog 30 #[.agg #[.int .i64 2, .int .i64 0, .int .i64 0, .string ⟨#[116, 114, 117, 101]⟩, .string ⟨#[]⟩, .int .i64 0, .slice none 0 0, .string ⟨#[]⟩, .int .i64 0], .agg #[.int .i64 2, .int .i64 0, .int .i64 0, .string ⟨#[116, 114, 117, 101]⟩, .string ⟨#[]⟩, .int .i64 0, .slice none 0 0, .string ⟨#[]⟩, .int .i64 0]] W fun e w' => e = .returned (.bool true) ∧ Below W.heap.size W w' from kitSame_eq (atomF ⟨#[116, 114, 117, 101]⟩) .nil none none 0 0 W (RdS.nil _ _ _) (RdS.nil _ _ _))
      have HB3 := Lib.hid fun W (_ : Below wc.heap.size wc W) => (show Calls Try.prog 41 #[.bool false] W fun e w' => e = .returned (.agg #[.int .i64 2, .int .i64 0, .int .i64 0, .string ⟨#[102, 97, 108, 115, 101]⟩, .string ⟨#[]⟩, .int .i64 0, .slice none 0 0, .string ⟨#[]⟩, .int .i64 0]) ∧ Below W.heap.size W w' from pBoolF_any W)
      have HB4 := Lib.hid fun W (_ : Below wc.heap.size wc W) => (show Calls Try.prog 42 #[.bool false] W fun e w' => e = .returned (.agg #[.int .i64 2, .int .i64 0, .int .i64 0, .string ⟨#[102, 97, 108, 115, 101]⟩, .string ⟨#[]⟩, .int .i64 0, .slice none 0 0, .string ⟨#[]⟩, .int .i64 0]) ∧ Below W.heap.size W w' from rBoolF_any W)
      have HS3 := Lib.hid fun W (_ : Below wc.heap.size wc W) => (show Calls Try.prog 30 #[.agg #[.int .i64 2, .int .i64 0, .int .i64 0, .string ⟨#[102, 97, 108, 115, 101]⟩, .string ⟨#[]⟩, .int .i64 0, .slice none 0 0, .string ⟨#[]⟩, .int .i64 0], .agg #[.int .i64 2, .int .i64 0, .int .i64 0, .string ⟨#[102, 97, 108, 115, 101]⟩, .string ⟨#[]⟩, .int .i64 0, .slice none 0 0, .string ⟨#[]⟩, .int .i64 0]] W fun e w' => e = .returned (.bool true) ∧ Below W.heap.size W w' from kitSame_eq (atomF ⟨#[102, 97, 108, 115, 101]⟩) .nil none none 0 0 W (RdS.nil _ _ _) (RdS.nil _ _ _))
      have HL1 := Lib.hid fun W (_ : Below wc.heap.size wc W) => (show Calls Try.prog 35 #[] W fun e w' => e = .returned (.agg #[.int .i64 8, .int .i64 0, .int .i64 0, .string ⟨#[]⟩, .string ⟨#[]⟩, .int .i64 0, .slice none 0 0, .string ⟨#[]⟩, .int .i64 0]) ∧ Below W.heap.size W w' from pNil_any W)
      have HL2 := Lib.hid fun W (_ : Below wc.heap.size wc W) => (show Calls Try.prog 43 #[] W fun e w' => e = .returned (.agg #[.int .i64 8, .int .i64 0, .int .i64 0, .string ⟨#[]⟩, .string ⟨#[]⟩, .int .i64 0, .slice none 0 0, .string ⟨#[]⟩, .int .i64 0]) ∧ Below W.heap.size W w' from rNil_any W)
      have HS4 := Lib.hid fun W (_ : Below wc.heap.size wc W) => (show Calls Try.prog 30 #[.agg #[.int .i64 8, .int .i64 0, .int .i64 0, .string ⟨#[]⟩, .string ⟨#[]⟩, .int .i64 0, .slice none 0 0, .string ⟨#[]⟩, .int .i64 0], .agg #[.int .i64 8, .int .i64 0, .int .i64 0, .string ⟨#[]⟩, .string ⟨#[]⟩, .int .i64 0, .slice none 0 0, .string ⟨#[]⟩, .int .i64 0]] W fun e w' => e = .returned (.bool true) ∧ Below W.heap.size W w' from kitSame_eq (kF 8) .nil none none 0 0 W (RdS.nil _ _ _) (RdS.nil _ _ _))
      obtain ⟨c0, c1, c2, c3, c4, c5, c6, c7, c8, -⟩ := nine_cells (HF.out.blk 0 rfl)
      have HBc := Lib.hid (Below.refl wc.heap.size wc)
      go_region_held3 (fun w' => w'.cell? ⟨w.heap.size, 0, none⟩ = some (.int .i64 f.k) ∧ w'.cell? ⟨w.heap.size, 1, none⟩ = some (.int .i64 f.i) ∧ w'.cell? ⟨w.heap.size, 2, none⟩ = some (.int .i64 f.g) ∧ w'.cell? ⟨w.heap.size, 3, none⟩ = some (.string f.nm) ∧ w'.cell? ⟨w.heap.size, 4, none⟩ = some (.string f.fn) ∧ w'.cell? ⟨w.heap.size, 5, none⟩ = some (.int .i64 f.ar) ∧ w'.cell? ⟨w.heap.size, 6, none⟩ = some (.slice ai it.len ci) ∧ w'.cell? ⟨w.heap.size, 7, none⟩ = some (.string f.bs) ∧ w'.cell? ⟨w.heap.size, 8, none⟩ = some (.int .i64 f.n))
        (first
          | (exact ⟨c0, c1, c2, c3, c4, c5, c6, c7, c8⟩)
          | (go_split_ands; refine ⟨?_, ?_, ?_, ?_, ?_, ?_, ?_, ?_, ?_⟩ <;> exact below_keep hb1 (by assumption)))
        (first
          | (go_at_call 32; ((with_reducible refine (HI1.out _ (by first | exact HBc.out | exact HBc.out.drew)).mono ?_); rintro e w1 ⟨rfl, hb1⟩); have HBc := Lib.hid (show Below wc.heap.size wc w1 by first | exact bstep HBc.out hb1 | exact bstep HBc.out.drew hb1))
          | (go_at_call 40; ((with_reducible refine (HI2.out _ (by first | exact HBc.out | exact HBc.out.drew)).mono ?_); rintro e w1 ⟨rfl, hb1⟩); have HBc := Lib.hid (show Below wc.heap.size wc w1 by first | exact bstep HBc.out hb1 | exact bstep HBc.out.drew hb1))
          | (go_at_call 30; ((with_reducible refine (HS1.out _ (by first | exact HBc.out | exact HBc.out.drew)).mono ?_); rintro e w1 ⟨rfl, hb1⟩); have HBc := Lib.hid (show Below wc.heap.size wc w1 by first | exact bstep HBc.out hb1 | exact bstep HBc.out.drew hb1))
          | (go_at_call 41; ((with_reducible refine (HB1.out _ (by first | exact HBc.out | exact HBc.out.drew)).mono ?_); rintro e w1 ⟨rfl, hb1⟩); have HBc := Lib.hid (show Below wc.heap.size wc w1 by first | exact bstep HBc.out hb1 | exact bstep HBc.out.drew hb1))
          | (go_at_call 42; ((with_reducible refine (HB2.out _ (by first | exact HBc.out | exact HBc.out.drew)).mono ?_); rintro e w1 ⟨rfl, hb1⟩); have HBc := Lib.hid (show Below wc.heap.size wc w1 by first | exact bstep HBc.out hb1 | exact bstep HBc.out.drew hb1))
          | (go_at_call 30; ((with_reducible refine (HS2.out _ (by first | exact HBc.out | exact HBc.out.drew)).mono ?_); rintro e w1 ⟨rfl, hb1⟩); have HBc := Lib.hid (show Below wc.heap.size wc w1 by first | exact bstep HBc.out hb1 | exact bstep HBc.out.drew hb1))
          | (go_at_call 41; ((with_reducible refine (HB3.out _ (by first | exact HBc.out | exact HBc.out.drew)).mono ?_); rintro e w1 ⟨rfl, hb1⟩); have HBc := Lib.hid (show Below wc.heap.size wc w1 by first | exact bstep HBc.out hb1 | exact bstep HBc.out.drew hb1))
          | (go_at_call 42; ((with_reducible refine (HB4.out _ (by first | exact HBc.out | exact HBc.out.drew)).mono ?_); rintro e w1 ⟨rfl, hb1⟩); have HBc := Lib.hid (show Below wc.heap.size wc w1 by first | exact bstep HBc.out hb1 | exact bstep HBc.out.drew hb1))
          | (go_at_call 30; ((with_reducible refine (HS3.out _ (by first | exact HBc.out | exact HBc.out.drew)).mono ?_); rintro e w1 ⟨rfl, hb1⟩); have HBc := Lib.hid (show Below wc.heap.size wc w1 by first | exact bstep HBc.out hb1 | exact bstep HBc.out.drew hb1))
          | (go_at_call 35; ((with_reducible refine (HL1.out _ (by first | exact HBc.out | exact HBc.out.drew)).mono ?_); rintro e w1 ⟨rfl, hb1⟩); have HBc := Lib.hid (show Below wc.heap.size wc w1 by first | exact bstep HBc.out hb1 | exact bstep HBc.out.drew hb1))
          | (go_at_call 43; ((with_reducible refine (HL2.out _ (by first | exact HBc.out | exact HBc.out.drew)).mono ?_); rintro e w1 ⟨rfl, hb1⟩); have HBc := Lib.hid (show Below wc.heap.size wc w1 by first | exact bstep HBc.out hb1 | exact bstep HBc.out.drew hb1))
          | (go_at_call 30; ((with_reducible refine (HS4.out _ (by first | exact HBc.out | exact HBc.out.drew)).mono ?_); rintro e w1 ⟨rfl, hb1⟩); have HBc := Lib.hid (show Below wc.heap.size wc w1 by first | exact bstep HBc.out hb1 | exact bstep HBc.out.drew hb1)))
      have HF := Lib.hid (HF.out.below HBc.out)

      clear c0 c1 c2 c3 c4 c5 c6 c7 c8 HI1 HI2 HS1 HB1 HB2 HS2 HB3 HB4 HS3 HL1 HL2 HS4
      go_upto_region 10 with (fail)
      go_cut [9, 10] (fun s9 s10 wx => ∃ L10 aj cj ak ck l1 h1 l3 h3, s9 = .slice aj l.len cj ∧ s10 = .pointer (some ⟨L10, 0, none⟩) ∧ Hid (Bk wx [.blk L10 #[.int .i64 f.k, .int .i64 f.i, .int .i64 f.g, .string f.nm, .string f.fn, .int .i64 f.ar, .slice ak it.len ck, .string f.bs, .int .i64 f.n], .kp l3 h3 0 w.heap.size it (.slice ak it.len ck) (.slice ai it.len ci), .kp l1 h1 0 w.heap.size l (.slice aj l.len cj) (.slice al l.len cl), .blk w.heap.size #[.int .i64 f.k, .int .i64 f.i, .int .i64 f.g, .string f.nm, .string f.fn, .int .i64 f.ar, .slice ai it.len ci, .string f.bs, .int .i64 f.n], .rx (fun b => b < w.heap.size) l (.slice al l.len cl), .rx (fun b => b < w.heap.size) it (.slice ai it.len ci), .base w]))
      case first =>
        have HRl := Lib.hid fun W (hb : Below w1.heap.size w1 W) => ((HF.out.rx 1 rfl).1.rd0 (B := w.heap.size) fun b h => h).below hb (HF.out.base 3 rfl).size
        have HRt := Lib.hid fun W (hb : Below w1.heap.size w1 W) => ((HF.out.rx 2 rfl).1.rd0 (B := w.heap.size) fun b h => h).below hb (HF.out.base 3 rfl).size
        have HHw := Lib.hid (HF.out.base 3 rfl).size
        refine wp_region_slots (by kernel_rfl) 5 w1.heap.size Mkd (fun i => MkD.getD i []) (fun _ => none) (MkG w1 l al cl f it ai ci w.heap.size) (Nat.le_refl _) (by kernel_rfl) (by decide) (by kernel_rfl) (by decide) (by rfl) (dep_of (by kernel_rfl)) (fun _ _ _ h => by cases h) (MkG_keep w1 l al cl f it ai ci w.heap.size) ?_ ?_
        · intro i o hin ho f0 v lo hi W hk haft A hA hZ K' hK
          have HK := Lib.hid hK
          have HKn := Lib.hid hk
          have HAf := Lib.hid haft
          have HA := Lib.hid hA
          have HZ := Lib.hid hZ
          clear hK hk haft hA hZ
          match i, hin, ho with
          | 0, _, ho =>
            have z0 : A.tmps[0]? = some (.slice al l.len cl) := HZ.out 0 (by decide)
            clear HAf HA HZ
            cases ho
            go_simp
            exact HK.out (.slice al l.len cl) W (Moves.of_below (Below.refl _ _)) (fun _ h => by cases h) (updG_at v 0 _)
          | 1, _, ho =>
            have f0 : f0 0 = true := by cases ho; exact HAf.out ⟨0, .data⟩ (by simp) rfl
            have h0 : v 0 = .slice al l.len cl := HKn.out.word 0 (by decide) f0
            have s0 : A.tmps[86]? = some (.slice al l.len cl) := (HA.out 0 86 (by decide) rfl).trans (congrArg some h0)
            clear HAf HA HZ f0 h0
            cases ho
            go_simp
            refine ((lend_all l.cnt).2 l _ W 0 w.heap.size (Nat.le_refl _) (by have := HN1.out; omega) (HRl.out W HKn.out.below) (Nat.le_trans HHw.out HKn.out.below.size)).mono ?_
            rintro e wq ⟨aj, cj, rfl, hk, hb2⟩
            have hB2 := bstep HKn.out.below hb2
            exact HK.out (.slice aj l.len cj) wq (Moves.of_below hb2) (fun _ h => by cases h) (by show MkP1 w1 l al cl w.heap.size _ _ _ _; rw [updG_at, updG_at, updG_at]; exact ⟨aj, cj, rfl, fun W' hB3 hB4 => hk.keep (fun b h1 h2 => hB3 b h1 h2) (fun b o _ h2 => cell_eq ((hB4.block b (Nat.lt_of_lt_of_le h2 HHw.out)).trans (hB2.block b (Nat.lt_of_lt_of_le h2 HHw.out)).symm) o)⟩)
          | 2, _, ho =>
            have z4 : A.tmps[4]? = some (.pointer (some ⟨w.heap.size, 0, none⟩)) := HZ.out 4 (by decide)
            obtain ⟨c0, c1, c2, c3, c4, c5, c6, c7, c8, -⟩ := nine_cells (keepB HKn.out.below (HF.out.blk 0 rfl))
            clear HAf HA HZ
            cases ho
            go_simp
            exact HK.out (.agg #[.int .i64 f.k, .int .i64 f.i, .int .i64 f.g, .string f.nm, .string f.fn, .int .i64 f.ar, .slice ai it.len ci, .string f.bs, .int .i64 f.n]) W (Moves.of_below (Below.refl _ _)) (fun _ h => by cases h) (updG_at v 2 _)
          | 3, _, ho =>
            have f2 : f0 2 = true := by cases ho; exact HAf.out ⟨2, .data⟩ (by simp) rfl
            have h2 : v 2 = .agg #[.int .i64 f.k, .int .i64 f.i, .int .i64 f.g, .string f.nm, .string f.fn, .int .i64 f.ar, .slice ai it.len ci, .string f.bs, .int .i64 f.n] := HKn.out.word 2 (by decide) f2
            have s2 : A.tmps[88]? = some (.agg #[.int .i64 f.k, .int .i64 f.i, .int .i64 f.g, .string f.nm, .string f.fn, .int .i64 f.ar, .slice ai it.len ci, .string f.bs, .int .i64 f.n]) := (HA.out 2 88 (by decide) rfl).trans (congrArg some h2)
            clear HAf HA HZ f2 h2
            cases ho
            go_simp
            refine ((lend_all it.cnt).1 f it _ W 0 w.heap.size (Nat.le_refl _) (by have := HN2.out; omega) (HRt.out W HKn.out.below) (Nat.le_trans HHw.out HKn.out.below.size)).mono ?_
            rintro e wq ⟨aj, cj, rfl, hk, hb2⟩
            have hB2 := bstep HKn.out.below hb2
            exact HK.out (.agg #[.int .i64 f.k, .int .i64 f.i, .int .i64 f.g, .string f.nm, .string f.fn, .int .i64 f.ar, .slice aj it.len cj, .string f.bs, .int .i64 f.n]) wq (Moves.of_below hb2) (fun _ h => by cases h) (by show MkP3 w1 f it ai ci w.heap.size _ _ _ _; rw [updG_at, updG_at, updG_at]; exact ⟨aj, cj, rfl, fun W' hB3 hB4 => hk.keep (fun b h1 h2 => hB3 b h1 h2) (fun b o _ h2 => cell_eq ((hB4.block b (Nat.lt_of_lt_of_le h2 HHw.out)).trans (hB2.block b (Nat.lt_of_lt_of_le h2 HHw.out)).symm) o)⟩)
          | 4, _, ho =>
            clear HAf HA HZ
            cases ho
            go_simp
            exact HK.out (.pointer (some ⟨W.heap.size, 0, none⟩)) (W.alloc (.cells #[.int .i64 0, .int .i64 0, .int .i64 0, .string ⟨#[]⟩, .string ⟨#[]⟩, .int .i64 0, .slice none 0 0, .string ⟨#[]⟩, .int .i64 0] 24 (0, 0))) (Moves.of_below (below_alloc _ _)) (fun _ h => by cases h) (by show MkP4  _ _ _ _; rw [updG_at, updG_at, updG_at]; exact ⟨rfl, by simp, heap_alloc_new _ _⟩)
        · intro v lo hi W hk
          have q1 := hk.word 1 (by decide) rfl
          have q3 := hk.word 3 (by decide) rfl
          obtain ⟨aj, cj, h1, hk1⟩ := q1
          obtain ⟨ak, ck, h3, hk3⟩ := q3
          obtain ⟨h4, hl4, hc4⟩ := hk.word 4 (by decide) rfl
          have r1 := hk.range 1 (by decide) rfl
          have r3 := hk.range 3 (by decide) rfl
          have r4 := hk.range 4 (by decide) rfl
          have a14 := hk.apart 1 4 (by decide) (by decide) (by decide) rfl rfl
          have a34 := hk.apart 3 4 (by decide) (by decide) (by decide) rfl rfl
          have HF1 := ((((HF.out.below hk.below).add (f := .kp (lo 1) (hi 1) 0 w.heap.size l (.slice aj l.len cj) (.slice al l.len cl)) ⟨hk1 _ (fun _ _ _ => rfl) hk.below, r1.2.1, r1.2.2, by have := HHw.out; omega⟩).add (f := .kp (lo 3) (hi 3) 0 w.heap.size it (.slice ak it.len ck) (.slice ai it.len ci)) ⟨hk3 _ (fun _ _ _ => rfl) hk.below, r3.2.1, r3.2.2, by have := HHw.out; omega⟩)).add (f := .blk (lo 4) #[.int .i64 0, .int .i64 0, .int .i64 0, .string ⟨#[]⟩, .string ⟨#[]⟩, .int .i64 0, .slice none 0 0, .string ⟨#[]⟩, .int .i64 0]) hc4
          -- [0 blk own t, 1 kp t, 2 kp l, 3 box t, 4 rx l, 5 rx t, 6 base]
          have hHw := HHw.out
          have hqt := lt_of_block (HF.out.blk 0 rfl)
          have HF3 := Lib.hid (HF1.put 0 rfl (by refine ⟨?_, ?_, ?_, ?_, ?_, ?_, trivial⟩ <;> (simp only [Fct.apart]; first | omega | (intro b hb; omega))) (.int .i64 f.k) (.int .i64 f.i) (.int .i64 f.g) (.string f.nm) (.string f.fn) (.int .i64 f.ar) (.slice ak it.len ck) (.string f.bs) (.int .i64 f.n))
          obtain ⟨c0, c1, c2, c3, c4, c5, c6, c7, c8, fr⟩ := nine_cells hc4
          have HH := Lib.hid h1
          have HH3 := Lib.hid h3
          have HH4 := Lib.hid h4
          clear hk HF1 hk1 hk3 a14 a34 r1 r3 r4 hc4 hl4 h1 h3 h4 HF HRl HRt HHw hqt hHw
          simp only [canon, Mkd, Act.put, List.getD_cons_succ, List.getD_cons_zero, List.drop_succ_cons, List.drop_zero, List.setIfInBounds_toArray, List.set_cons_zero, List.set_cons_succ]
          rw [HH.out, HH3.out, HH4.out]
          go_wp2_with fail
          go_meet
          exact ⟨lo 4, aj, cj, ak, ck, lo 1, hi 1, lo 3, hi 3, rfl, rfl, HF3⟩

      case rest =>
        obtain ⟨L10, aj, cj, ak, ck, l1, h1, l3, h3, rfl, rfl, HF⟩ := hcut
        have hq1 := (HF.out.kp 2 rfl).2.2.1
        have hq3 := (HF.out.kp 1 rfl).2.2.1
        have hqL := lt_of_block (HF.out.blk 0 rfl)
        have hqt := lt_of_block (HF.out.blk 3 rfl)
        go_wp2_with fail
        refine (HT1.out _ _ _ _ (HF.out.kp0 2 rfl) (Nat.le_refl _)).mono ?_
        rintro e w11 ⟨a11, c11, rfl, hnw11, hbw11⟩
        have hzw11 : wc.heap.size + 0 ≤ w11.heap.size := by have := hbw11.size; first | omega | (simp at this; omega)
        have HF := Lib.hid (((HF.out).below hbw11).add (f := .nw (wc.heap.size + 0) w11.heap.size L1 _) ⟨hnw11.wide (by simp) (Nat.le_refl _), by omega, Nat.le_refl _⟩)
        clear hbw11 hnw11
        have HF := Lib.hid (HF.out.box #[.int .i64 F1.k, .int .i64 F1.i, .int .i64 F1.g, .string F1.nm, .string F1.fn, .int .i64 F1.ar, .slice a11 L1.len c11, .string F1.bs, .int .i64 F1.n])
        go_wp2_with fail
        refine (HT2.out _ _ _ (HF.out.rx 6 rfl).2 (HF.out.rx 6 rfl).1).mono ?_
        rintro e w12 ⟨a12, c12, rfl, hxw12, hbw12⟩
        have hzw12 : w11.heap.size + 1 ≤ w12.heap.size := by have := hbw12.size; first | omega | (simp at this; omega)
        have HF := Lib.hid (((HF.out).below hbw12).add (f := .rx (fun b => b < w.heap.size ∨ (w11.heap.size + 1 ≤ b ∧ b < w12.heap.size)) L1 _) ⟨hxw12.mono (fun b h => by simp at h; omega), fun b h => by omega⟩)
        clear hbw12 hxw12
        have HF := Lib.hid (HF.out.box #[.int .i64 F1.k, .int .i64 F1.i, .int .i64 F1.g, .string F1.nm, .string F1.fn, .int .i64 F1.ar, .slice a12 L1.len c12, .string F1.bs, .int .i64 F1.n])
        obtain ⟨c0, c1, c2, c3, c4, c5, c6, c7, c8, -⟩ := nine_cells (HF.out.blk 2 rfl)
        go_wp2_with fail
        refine (kitSame_eq F1 L1 _ _ _ _ _ (HF.out.nw0 3 rfl) (HF.out.rx0 1 rfl)).mono ?_
        rintro e w13 ⟨rfl, hbw13⟩
        have HF := Lib.hid ((HF.out).below hbw13)
        have hzw13 : w12.heap.size + 1 ≤ w13.heap.size := by have := hbw13.size; first | omega | (simp at this; omega)
        clear hbw13 c0 c1 c2 c3 c4 c5 c6 c7 c8
        obtain ⟨c0, c1, c2, c3, c4, c5, c6, c7, c8, -⟩ := nine_cells (HF.out.blk 4 rfl)
        go_wp2_with fail
        refine (HT3.out _ _ _ _ _ _ _ (HF.out.kp0 6 rfl) (HF.out.kp0 5 rfl) (Nat.le_refl _) (Nat.le_refl _)).mono ?_
        rintro e w15 ⟨a15, c15, rfl, hnw15, hbw15⟩
        have hzw15 : w13.heap.size + 0 ≤ w15.heap.size := by have := hbw15.size; first | omega | (simp at this; omega)
        have HF := Lib.hid (((HF.out).below hbw15).add (f := .nw (w13.heap.size + 0) w15.heap.size L2 _) ⟨hnw15.wide (by simp) (Nat.le_refl _), by omega, Nat.le_refl _⟩)
        clear hbw15 hnw15 c0 c1 c2 c3 c4 c5 c6 c7 c8
        have HF := Lib.hid (HF.out.box #[.int .i64 F2.k, .int .i64 F2.i, .int .i64 F2.g, .string F2.nm, .string F2.fn, .int .i64 F2.ar, .slice a15 L2.len c15, .string F2.bs, .int .i64 F2.n])
        obtain ⟨c0, c1, c2, c3, c4, c5, c6, c7, c8, -⟩ := nine_cells (HF.out.blk 9 rfl)
        go_wp2_with fail
        refine (HT4.out _ _ _ _ (HF.out.rx 10 rfl).2 (HF.out.rx 10 rfl).1 (HF.out.rx 11 rfl).1).mono ?_
        rintro e w16 ⟨a16, c16, rfl, hxw16, hbw16⟩
        have hzw16 : w15.heap.size + 1 ≤ w16.heap.size := by have := hbw16.size; first | omega | (simp at this; omega)
        have HF := Lib.hid (((HF.out).below hbw16).add (f := .rx (fun b => b < w.heap.size ∨ (w15.heap.size + 1 ≤ b ∧ b < w16.heap.size)) L2 _) ⟨hxw16.mono (fun b h => by simp at h; omega), fun b h => by omega⟩)
        clear hbw16 hxw16 c0 c1 c2 c3 c4 c5 c6 c7 c8
        obtain ⟨d0, d1, d2, d3, d4, d5, d6, d7, d8, frd⟩ := nine_cells (HF.out.blk 3 rfl)
        go_upto_region 17 with (fail)
        have HF := Lib.hid (HF.out.put 3 rfl (by refine ⟨?_, ?_, ?_, ?_, ?_, ?_, ?_, ?_, ?_, ?_, ?_, ?_, ?_, trivial⟩ <;> (simp only [Fct.apart]; first | omega | (intro b hb; omega))) (.int .i64 F2.k) (.int .i64 F2.i) (.int .i64 F2.g) (.string F2.nm) (.string F2.fn) (.int .i64 F2.ar) (.slice a16 L2.len c16) (.string F2.bs) (.int .i64 F2.n))
        obtain ⟨W16, hW16⟩ : ∃ W16, W16 = (((((((((w16.setCell ⟨w12.heap.size, 0, none⟩ (.int .i64 F2.k)).setCell ⟨w12.heap.size, 1, none⟩ (.int .i64 F2.i)).setCell ⟨w12.heap.size, 2, none⟩ (.int .i64 F2.g)).setCell ⟨w12.heap.size, 3, none⟩ (.string F2.nm)).setCell ⟨w12.heap.size, 4, none⟩ (.string F2.fn)).setCell ⟨w12.heap.size, 5, none⟩ (.int .i64 F2.ar)).setCell ⟨w12.heap.size, 6, none⟩ (.slice a16 L2.len c16)).setCell ⟨w12.heap.size, 7, none⟩ (.string F2.bs)).setCell ⟨w12.heap.size, 8, none⟩ (.int .i64 F2.n)) := ⟨_, rfl⟩
        have hzW16 : w16.heap.size ≤ W16.heap.size := by rw [hW16]; exact (outs_nine _ _ _ _ _ _ _ _ _ _ _).size
        rw [← hW16] at HF ⊢
        clear hW16
        clear d0 d1 d2 d3 d4 d5 d6 d7 d8 frd
        obtain ⟨c0, c1, c2, c3, c4, c5, c6, c7, c8, -⟩ := nine_cells (HF.out.blk 2 rfl)
        obtain ⟨d0, d1, d2, d3, d4, d5, d6, d7, d8, -⟩ := nine_cells (HF.out.blk 0 rfl)
        go_wp2_with fail
        refine (kitSame_eq F2 L2 _ _ _ _ _ (HF.out.nw0 3 rfl) (HF.out.rx0 1 rfl)).mono ?_
        rintro e w17 ⟨rfl, hbw17⟩
        have HF := Lib.hid ((HF.out).below hbw17)
        have hzw17 : W16.heap.size + 0 ≤ w17.heap.size := by have := hbw17.size; first | omega | (simp at this; omega)
        clear hbw17 c0 c1 c2 c3 c4 c5 c6 c7 c8 d0 d1 d2 d3 d4 d5 d6 d7 d8
        obtain ⟨c0, c1, c2, c3, c4, c5, c6, c7, c8, -⟩ := nine_cells (HF.out.blk 7 rfl)
        obtain ⟨d0, d1, d2, d3, d4, d5, d6, d7, d8, -⟩ := nine_cells (HF.out.blk 2 rfl)
        go_wp2_with fail
        refine (HT7.out _ _ _ _ _ _ _ (HF.out.kp0 8 rfl) (HF.out.nw0 3 rfl) (Nat.le_refl _) (Nat.le_refl _)).mono ?_
        rintro e w19 ⟨a19, c19, rfl, hnw19, hbw19⟩
        have hzw19 : w17.heap.size + 0 ≤ w19.heap.size := by have := hbw19.size; first | omega | (simp at this; omega)
        have HF := Lib.hid (((HF.out).below hbw19).add (f := .nw (w17.heap.size + 0) w19.heap.size L3 _) ⟨hnw19.wide (by simp) (Nat.le_refl _), by omega, Nat.le_refl _⟩)
        clear hbw19 hnw19 c0 c1 c2 c3 c4 c5 c6 c7 c8 d0 d1 d2 d3 d4 d5 d6 d7 d8
        have HF := Lib.hid (HF.out.box #[.int .i64 F3.k, .int .i64 F3.i, .int .i64 F3.g, .string F3.nm, .string F3.fn, .int .i64 F3.ar, .slice a19 L3.len c19, .string F3.bs, .int .i64 F3.n])
        obtain ⟨c0, c1, c2, c3, c4, c5, c6, c7, c8, -⟩ := nine_cells (HF.out.blk 12 rfl)
        obtain ⟨d0, d1, d2, d3, d4, d5, d6, d7, d8, -⟩ := nine_cells (HF.out.blk 2 rfl)
        go_wp2_with fail
        refine (HT8.out _ _ _ _ (HF.out.rx 3 rfl).2 ((HF.out.rx 14 rfl).1.mono fun b h => .inl h) (HF.out.rx 3 rfl).1).mono ?_
        rintro e w20 ⟨a20, c20, rfl, hxw20, hbw20⟩
        have hzw20 : w19.heap.size + 1 ≤ w20.heap.size := by have := hbw20.size; first | omega | (simp at this; omega)
        have HF := Lib.hid (((HF.out).below hbw20).add (f := .rx (fun b => (b < w.heap.size ∨ (w15.heap.size + 1 ≤ b ∧ b < w16.heap.size)) ∨ (w19.heap.size + 1 ≤ b ∧ b < w20.heap.size)) L3 _) ⟨hxw20.mono (fun b h => by simp at h; omega), fun b h => by omega⟩)
        clear hbw20 hxw20 c0 c1 c2 c3 c4 c5 c6 c7 c8 d0 d1 d2 d3 d4 d5 d6 d7 d8
        obtain ⟨d0, d1, d2, d3, d4, d5, d6, d7, d8, frd⟩ := nine_cells (HF.out.blk 3 rfl)
        go_upto_region 21 with (fail)
        have HF := Lib.hid (HF.out.put 3 rfl (by refine ⟨?_, ?_, ?_, ?_, ?_, ?_, ?_, ?_, ?_, ?_, ?_, ?_, ?_, ?_, ?_, ?_, trivial⟩ <;> (simp only [Fct.apart]; first | omega | (intro b hb; omega))) (.int .i64 F3.k) (.int .i64 F3.i) (.int .i64 F3.g) (.string F3.nm) (.string F3.fn) (.int .i64 F3.ar) (.slice a20 L3.len c20) (.string F3.bs) (.int .i64 F3.n))
        obtain ⟨W20, hW20⟩ : ∃ W20, W20 = (((((((((w20.setCell ⟨w12.heap.size, 0, none⟩ (.int .i64 F3.k)).setCell ⟨w12.heap.size, 1, none⟩ (.int .i64 F3.i)).setCell ⟨w12.heap.size, 2, none⟩ (.int .i64 F3.g)).setCell ⟨w12.heap.size, 3, none⟩ (.string F3.nm)).setCell ⟨w12.heap.size, 4, none⟩ (.string F3.fn)).setCell ⟨w12.heap.size, 5, none⟩ (.int .i64 F3.ar)).setCell ⟨w12.heap.size, 6, none⟩ (.slice a20 L3.len c20)).setCell ⟨w12.heap.size, 7, none⟩ (.string F3.bs)).setCell ⟨w12.heap.size, 8, none⟩ (.int .i64 F3.n)) := ⟨_, rfl⟩
        have hzW20 : w20.heap.size ≤ W20.heap.size := by rw [hW20]; exact (outs_nine _ _ _ _ _ _ _ _ _ _ _).size
        rw [← hW20] at HF ⊢
        clear hW20
        clear d0 d1 d2 d3 d4 d5 d6 d7 d8 frd
        obtain ⟨c0, c1, c2, c3, c4, c5, c6, c7, c8, -⟩ := nine_cells (HF.out.blk 2 rfl)
        obtain ⟨d0, d1, d2, d3, d4, d5, d6, d7, d8, -⟩ := nine_cells (HF.out.blk 0 rfl)
        go_wp2_with fail
        refine (kitSame_eq F3 L3 _ _ _ _ _ (HF.out.nw0 3 rfl) (HF.out.rx0 1 rfl)).mono ?_
        rintro e w21 ⟨rfl, hbw21⟩
        have HF := Lib.hid ((HF.out).below hbw21)
        have hzw21 : W20.heap.size + 0 ≤ w21.heap.size := by have := hbw21.size; first | omega | (simp at this; omega)
        clear hbw21 c0 c1 c2 c3 c4 c5 c6 c7 c8 d0 d1 d2 d3 d4 d5 d6 d7 d8
        obtain ⟨c0, c1, c2, c3, c4, c5, c6, c7, c8, -⟩ := nine_cells (HF.out.blk 8 rfl)
        go_wp2_with fail
        refine (Spoil_any F1 L1.cnt _ _ _ _ _ _ ((HF.out.nw 9 rfl).1.sp _ _ _ (Nat.le_refl _)) (HF.out.nw 9 rfl).2.2).mono ?_
        rintro e w23 ⟨rfl, hsw23⟩
        have HF := Lib.hid (Bk.move (Outs.of_spw hsw23) ((((HF.out.del 9).del 7).del 4).del 1) (by refine ⟨?_, ?_, ?_, ?_, ?_, ?_, ?_, ?_, ?_, ?_, ?_, ?_, ?_, trivial⟩ <;> (simp only [Fct.apart]; first | omega | (intro b hb; omega))))
        have hzw23 : w21.heap.size ≤ w23.heap.size := hsw23.size
        clear hsw23 c0 c1 c2 c3 c4 c5 c6 c7 c8
        obtain ⟨c0, c1, c2, c3, c4, c5, c6, c7, c8, -⟩ := nine_cells (HF.out.blk 3 rfl)
        go_wp2_with fail
        refine (Spoil_any F2 L2.cnt _ _ _ _ _ _ ((HF.out.nw 4 rfl).1.sp _ _ _ (Nat.le_refl _)) (HF.out.nw 4 rfl).2.2).mono ?_
        rintro e w24 ⟨rfl, hsw24⟩
        have HF := Lib.hid (Bk.move (Outs.of_spw hsw24) (HF.out.del 4) (by refine ⟨?_, ?_, ?_, ?_, ?_, ?_, ?_, ?_, ?_, ?_, ?_, ?_, trivial⟩ <;> (simp only [Fct.apart]; first | omega | (intro b hb; omega))))
        have hzw24 : w23.heap.size ≤ w24.heap.size := hsw24.size
        clear hsw24 c0 c1 c2 c3 c4 c5 c6 c7 c8
        obtain ⟨c0, c1, c2, c3, c4, c5, c6, c7, c8, -⟩ := nine_cells (HF.out.blk 1 rfl)
        go_wp2_with fail
        refine (Spoil_any F3 L3.cnt _ _ _ _ _ _ ((HF.out.nw 2 rfl).1.sp _ _ _ (Nat.le_refl _)) (HF.out.nw 2 rfl).2.2).mono ?_
        rintro e w25 ⟨rfl, hsw25⟩
        have HF := Lib.hid (Bk.move (Outs.of_spw hsw25) (HF.out.del 2) (by refine ⟨?_, ?_, ?_, ?_, ?_, ?_, ?_, ?_, ?_, ?_, ?_, trivial⟩ <;> (simp only [Fct.apart]; first | omega | (intro b hb; omega))))
        have hzw25 : w24.heap.size ≤ w25.heap.size := hsw25.size
        clear hsw25 c0 c1 c2 c3 c4 c5 c6 c7 c8
        go_wp2_with fail
        refine ((kept_all l.cnt).2 l _ _ _ _ _ _ _ (Nat.le_refl _) (HF.out.kp 6 rfl).1 (HF.out.kp 6 rfl).2.2.1 (HF.out.kp 6 rfl).2.2.2).mono ?_
        rintro e w26 ⟨rfl, hbw26⟩
        have HF := Lib.hid ((HF.out).below hbw26)
        have hzw26 : w25.heap.size + 0 ≤ w26.heap.size := by have := hbw26.size; first | omega | (simp at this; omega)
        clear hbw26
        obtain ⟨c0, c1, c2, c3, c4, c5, c6, c7, c8, -⟩ := nine_cells (HF.out.blk 4 rfl)
        obtain ⟨d0, d1, d2, d3, d4, d5, d6, d7, d8, -⟩ := nine_cells (HF.out.blk 7 rfl)
        go_wp2_with fail
        refine ((kept_all it.cnt).1 f it _ _ _ _ _ _ _ (Nat.le_refl _) (HF.out.kp 5 rfl).1 (HF.out.kp 5 rfl).2.2.1 (HF.out.kp 5 rfl).2.2.2).mono ?_
        rintro e w27 ⟨rfl, hbw27⟩
        have HF := Lib.hid ((HF.out).below hbw27)
        have hzw27 : w26.heap.size + 0 ≤ w27.heap.size := by have := hbw27.size; first | omega | (simp at this; omega)
        clear hbw27 c0 c1 c2 c3 c4 c5 c6 c7 c8 d0 d1 d2 d3 d4 d5 d6 d7 d8
        go_wp2_with fail
        go_ret
        exact ⟨rfl, HF.out.base 10 rfl⟩
end Go.Proofs.Ytgbaelkoblnlhaa
