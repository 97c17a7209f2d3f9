/-
  Terms as trees, and how they lie in memory. No program in sight.
-/
import Derived.WalkKit
import Derived.Below
import Derived.Lib.Hide
import Derived.Deep.Draws
namespace Go.Proofs.YtgfodedmcjkmaaaDoor
open Go.RowKit
/-- the fields of a term, but its items -/
structure Fd where
  k : Int
  i : Int
  g : Int
  nm : ByteArray
  fn : ByteArray
  ar : Int
  bs : ByteArray
  n : Int
/-- a list of terms: fields, items, the rest -/
inductive TL where
  | nil : TL
  | cons (f : Fd) (it : TL) (r : TL) : TL
def TL.len : TL → Nat
  | .nil => 0
  | .cons _ _ r => r.len + 1
/-- how many terms there are altogether -/
def TL.cnt : TL → Nat
  | .nil => 0
  | .cons _ it r => it.cnt + r.cnt + 1
theorem TL.len_le_cnt : ∀ l : TL, l.len ≤ l.cnt
  | .nil => Nat.le_refl _
  | .cons _ it r => by have := r.len_le_cnt; simp only [TL.len, TL.cnt]; omega
theorem TL.len_zero : ∀ {l : TL}, l.len = 0 → l = .nil
  | .nil, _ => rfl
  | .cons _ _ _, h => by simp [TL.len] at h
def TL.app : TL → TL → TL
  | .nil, m => m
  | .cons f it r, m => .cons f it (r.app m)
def TL.drop : TL → Nat → TL
  | l, 0 => l
  | .nil, _ + 1 => .nil
  | .cons _ _ r, k + 1 => r.drop k
def TL.take : TL → Nat → TL
  | _, 0 => .nil
  | .nil, _ + 1 => .nil
  | .cons f it r, k + 1 => .cons f it (r.take k)
theorem TL.drop_zero (l : TL) : l.drop 0 = l := by cases l <;> rfl
theorem TL.take_zero (l : TL) : l.take 0 = .nil := by cases l <;> rfl
theorem TL.app_nil : ∀ l : TL, l.app .nil = l
  | .nil => rfl
  | .cons f it r => by rw [TL.app, TL.app_nil r]
theorem TL.len_app : ∀ l m : TL, (l.app m).len = l.len + m.len
  | .nil, m => by simp [TL.app, TL.len]
  | .cons f it r, m => by simp only [TL.app, TL.len, TL.len_app r m]; omega
theorem TL.drop_at : ∀ (l : TL) (k : Nat), k < l.len → ∃ f it, l.drop k = .cons f it (l.drop (k + 1))
  | .nil, _, h => by simp [TL.len] at h
  | .cons f it r, 0, _ => ⟨f, it, by rw [TL.drop, TL.drop, TL.drop_zero]⟩
  | .cons f it r, k + 1, h => by
    obtain ⟨f', it', e⟩ := TL.drop_at r k (by simp only [TL.len] at h; omega)
    exact ⟨f', it', e⟩
theorem TL.drop_len : ∀ (l : TL) (k : Nat), l.len ≤ k → l.drop k = .nil
  | .nil, 0, _ => rfl
  | .nil, _ + 1, _ => rfl
  | .cons _ _ r, 0, h => by simp [TL.len] at h
  | .cons _ _ r, k + 1, h => TL.drop_len r k (by simp only [TL.len] at h; omega)
theorem TL.cnt_drop : ∀ (l : TL) (k : Nat), (l.drop k).cnt ≤ l.cnt
  | .nil, 0 => Nat.le_refl _
  | .nil, _ + 1 => Nat.le_refl _
  | .cons _ _ _, 0 => Nat.le_refl _
  | .cons _ it r, k + 1 => by have := TL.cnt_drop r k; simp only [TL.drop, TL.cnt]; omega
open Classical in
/-- are the fields the same? -/
noncomputable def Fd.same (a b : Fd) : Bool := decide (a = b)
open Classical in
noncomputable def TL.same (a b : TL) : Bool := decide (a = b)
theorem TL.same_iff {a b : TL} : a.same b = true ↔ a = b := by unfold TL.same; simp
theorem Fd.same_iff {a b : Fd} : a.same b = true ↔ a = b := by unfold Fd.same; simp
theorem TL.same_nil : TL.nil.same .nil = true := TL.same_iff.2 rfl
theorem TL.same_cons (f f' : Fd) (it it' r r' : TL) : (TL.cons f it r).same (.cons f' it' r') = (f.same f' && it.same it' && r.same r') := by
  rw [Bool.eq_iff_iff, TL.same_iff, Bool.and_eq_true, Bool.and_eq_true, Fd.same_iff, TL.same_iff, TL.same_iff]
  constructor
  · intro h; injection h with a b c; exact ⟨⟨a, b⟩, c⟩
  · rintro ⟨⟨rfl, rfl⟩, rfl⟩; rfl
theorem TL.same_len {a b : TL} (h : a.len ≠ b.len) : a.same b = false := by
  cases e : a.same b
  · rfl
  · rw [TL.same_iff.1 e] at h; exact absurd rfl h
/-- the nine cells of a term -/
def Fd.cells (f : Fd) (items : Value) : List Value := [.int .i64 f.k, .int .i64 f.i, .int .i64 f.g, .string f.nm, .string f.fn, .int .i64 f.ar, items, .string f.bs, .int .i64 f.n]
/-- a term by value -/
def Fd.val (f : Fd) (items : Value) : Value := .agg (f.cells items).toArray
/-- a row of terms that lies in memory, below block B, from an offset on; the arrays of the items likewise -/
def Rd (w : World) (A B : Nat) : TL → Nat → Nat → Prop
  | .nil, _, _ => True
  | .cons f it r, b, o => A ≤ b ∧ b < B ∧ (∃ ao cap, (∀ j v, (f.cells (.slice ao it.len cap))[j]? = some v → w.cell? ⟨b, o + j, none⟩ = some v) ∧ it.len ≤ cap ∧ cap ≤ maxLen ∧ (it ≠ .nil → ∃ b' o', ao = some ⟨b', o', none⟩ ∧ Rd w A B it b' o')) ∧ Rd w A B r b (o + 9)
/-- a slice value that reads as this list of terms -/
def RdS (w : World) (A B : Nat) (l : TL) (v : Value) : Prop := ∃ ao cap, v = .slice ao l.len cap ∧ l.len ≤ cap ∧ cap ≤ maxLen ∧ (l ≠ .nil → ∃ b o, ao = some ⟨b, o, none⟩ ∧ Rd w A B l b o)
/-- a value that reads as this term -/
def RdT (w : World) (A B : Nat) (f : Fd) (it : TL) (v : Value) : Prop := ∃ iv, v = f.val iv ∧ RdS w A B it iv
theorem Rd.keep {w w' : World} {A B : Nat} (hk : ∀ b o, b < B → w'.cell? ⟨b, o, none⟩ = w.cell? ⟨b, o, none⟩) : ∀ (l : TL) (b o : Nat), Rd w A B l b o → Rd w' A B l b o
  | .nil, _, _, _ => trivial
  | .cons f it r, b, o, ⟨ha, hb, ⟨ao, cap, h1, h2, h3, h4⟩, hr⟩ =>
    ⟨ha, hb, ⟨ao, cap, fun j v hj => (hk _ _ hb).trans (h1 j v hj), h2, h3, fun hn => by
      obtain ⟨b', o', e, h⟩ := h4 hn
      exact ⟨b', o', e, Rd.keep hk it b' o' h⟩⟩, Rd.keep hk r b (o + 9) hr⟩
theorem Rd.more {w : World} {A B B' : Nat} (hB : B ≤ B') : ∀ (l : TL) (b o : Nat), Rd w A B l b o → Rd w A B' l b o
  | .nil, _, _, _ => trivial
  | .cons f it r, b, o, ⟨ha, hb, ⟨ao, cap, h1, h2, h3, h4⟩, hr⟩ =>
    ⟨ha, by omega, ⟨ao, cap, h1, h2, h3, fun hn => by
      obtain ⟨b', o', e, h⟩ := h4 hn
      exact ⟨b', o', e, Rd.more hB it b' o' h⟩⟩, Rd.more hB r b (o + 9) hr⟩
theorem RdS.keep {w w' : World} {A B : Nat} {l : TL} {v : Value} (h : RdS w A B l v) (hk : ∀ b o, b < B → w'.cell? ⟨b, o, none⟩ = w.cell? ⟨b, o, none⟩) : RdS w' A B l v := by
  obtain ⟨ao, cap, e, h1, h2, h3⟩ := h
  exact ⟨ao, cap, e, h1, h2, fun hn => (h3 hn).imp fun b hb => hb.imp fun o ho => ⟨ho.1, Rd.keep hk l b o ho.2⟩⟩
theorem RdS.below {w w' : World} {A B C : Nat} {l : TL} {v : Value} (h : RdS w A B l v) (hb : Below C w w') (hC : B ≤ C) : RdS w' A B l v := h.keep fun _ _ hlt => hb.cell (by exact Nat.lt_of_lt_of_le hlt hC)
theorem RdS.more {w : World} {A B B' : Nat} {l : TL} {v : Value} (h : RdS w A B l v) (hB : B ≤ B') : RdS w A B' l v := by
  obtain ⟨ao, cap, e, h1, h2, h3⟩ := h
  exact ⟨ao, cap, e, h1, h2, fun hn => (h3 hn).imp fun b hb => hb.imp fun o ho => ⟨ho.1, Rd.more hB l b o ho.2⟩⟩
theorem RdS.drew {w : World} {A B : Nat} {l : TL} {v : Value} (h : RdS w A B l v) (n : Nat) : RdS (w.drewN n) A B l v := h.keep fun _ _ _ => rfl
theorem RdS.nil (w : World) (A B : Nat) : RdS w A B .nil (.slice none 0 0) := ⟨none, 0, rfl, Nat.le_refl _, by unfold maxLen; omega, fun h => absurd rfl h⟩
theorem Rd.less {w : World} {A A' B : Nat} (hA : A' ≤ A) : ∀ (l : TL) (b o : Nat), Rd w A B l b o → Rd w A' B l b o
  | .nil, _, _, _ => trivial
  | .cons f it r, b, o, ⟨ha, hb, ⟨ao, cap, h1, h2, h3, h4⟩, hr⟩ =>
    ⟨by omega, hb, ⟨ao, cap, h1, h2, h3, fun hn => by
      obtain ⟨b', o', e, h⟩ := h4 hn
      exact ⟨b', o', e, Rd.less hA it b' o' h⟩⟩, Rd.less hA r b (o + 9) hr⟩
theorem RdS.less {w : World} {A A' B : Nat} {l : TL} {v : Value} (h : RdS w A B l v) (hA : A' ≤ A) : RdS w A' B l v := by
  obtain ⟨ao, cap, e, h1, h2, h3⟩ := h
  exact ⟨ao, cap, e, h1, h2, fun hn => (h3 hn).imp fun b hb => hb.imp fun o ho => ⟨ho.1, Rd.less hA l b o ho.2⟩⟩
/-- the k-th term of a row: its cells, and the reading of its items -/
theorem Rd.at_ {w : World} {A B : Nat} : ∀ (l : TL) (b o k : Nat) (f : Fd) (it r : TL), Rd w A B l b o → l.drop k = .cons f it r →
    A ≤ b ∧ b < B ∧ ∃ iv, (∀ j v, (f.cells iv)[j]? = some v → w.cell? ⟨b, o + 9 * k + j, none⟩ = some v) ∧ RdS w A B it iv
  | .nil, _, _, 0, _, _, _, _, h => by simp [TL.drop] at h
  | .nil, _, _, _ + 1, _, _, _, _, h => by simp [TL.drop] at h
  | .cons f' it' r', b, o, 0, f, it, r, ⟨ha, hb, ⟨ao, cap, h1, h2, h3, h4⟩, _⟩, h => by
    rw [TL.drop] at h
    injection h with e1 e2 e3
    subst e1 e2
    exact ⟨ha, hb, _, h1, ao, cap, rfl, h2, h3, h4⟩
  | .cons f' it' r', b, o, k + 1, f, it, r, ⟨_, _, _, hr⟩, h => by
    have := Rd.at_ r' b (o + 9) k f it r hr h
    rw [show o + 9 * (k + 1) = o + 9 + 9 * k by omega]
    exact this
theorem TL.same_drop (a b : TL) (h : a.len = b.len) : ∀ k, k ≤ a.len → (∀ j, j < k → ∀ f it r f' it' r', a.drop j = .cons f it r → b.drop j = .cons f' it' r' → f = f' ∧ it = it') → a.drop k = b.drop k → a = b := by
  intro k
  induction k with
  | zero => intro _ _ h0; rwa [TL.drop_zero, TL.drop_zero] at h0
  | succ k ih =>
    intro hk hj hd
    obtain ⟨f, it, e⟩ := TL.drop_at a k (by omega)
    obtain ⟨f', it', e'⟩ := TL.drop_at b k (by omega)
    obtain ⟨rfl, rfl⟩ := hj k (by omega) f it _ f' it' _ e e'
    exact ih (by omega) (fun j hjk => hj j (by omega)) (by rw [e, e', hd])
end Go.Proofs.YtgfodedmcjkmaaaDoor
