/-
  Lists of bytes and strings.
-/
import Derived.Test.YtmcnhggpmlhgeaaGreatDoorSteps
namespace Go.Proofs.YtmcnhggpmlhgeaaGreatDoor
open Go.RowKit
def bl (s : ByteArray) : List UInt8 := s.data.toList
/-- a string of these bytes -/
def ba (l : List UInt8) : ByteArray := ⟨l.toArray⟩
theorem bl_ba (l : List UInt8) : bl (ba l) = l := rfl
theorem ba_bl (s : ByteArray) : ba (bl s) = s := rfl
theorem ba_size (l : List UInt8) : (ba l).size = l.length := List.size_toArray
theorem ba_at (l : List UInt8) (k : Nat) (h : k < (ba l).size) : (ba l)[k]'h = l[k]'(by rw [ba_size] at h; exact h) := rfl
theorem extract_ba (l : List UInt8) (a b : Nat) : (ba l).extract a b = ba ((l.drop a).take (b - a)) := by
  unfold ba; rw [ByteArray.extract_mk]
theorem tw_take (q : UInt8 → Bool) : ∀ l : List UInt8, l.take (l.takeWhile q).length = l.takeWhile q
  | [] => rfl
  | c :: l => by
    rw [List.takeWhile_cons]
    split
    · rw [List.length_cons, List.take_succ_cons, tw_take q l]
    · rfl
theorem tw_drop (q : UInt8 → Bool) : ∀ l : List UInt8, l.drop (l.takeWhile q).length = l.dropWhile q
  | [] => rfl
  | c :: l => by
    rw [List.takeWhile_cons, List.dropWhile_cons]
    split
    · rw [List.length_cons, List.drop_succ_cons, tw_drop q l]
    · rfl
theorem tw_at (q : UInt8 → Bool) : ∀ (l : List UInt8) (k : Nat) (h : k < l.length), k < (l.takeWhile q).length → q (l[k]'h) = true
  | [], _, h, _ => absurd h (Nat.not_lt_zero _)
  | c :: l, 0, _, hk => by
    rw [List.takeWhile_cons] at hk
    split at hk
    · rename_i hc; exact hc
    · exact absurd hk (Nat.not_lt_zero _)
  | c :: l, k + 1, h, hk => by
    rw [List.takeWhile_cons] at hk
    split at hk
    · exact tw_at q l k (by simpa using h) (by simpa using hk)
    · exact absurd hk (Nat.not_lt_zero _)
theorem tw_stop (q : UInt8 → Bool) : ∀ (l : List UInt8) (h : (l.takeWhile q).length < l.length), q (l[(l.takeWhile q).length]'h) = false
  | [], h => absurd h (Nat.not_lt_zero _)
  | c :: l, h => by
    cases hq : q c with
    | false => simp [hq]
    | true =>
      have e : ((c :: l).takeWhile q) = c :: l.takeWhile q := by rw [List.takeWhile_cons, if_pos hq]
      simp only [e, List.length_cons, List.getElem_cons_succ]
      exact tw_stop q l (by rw [e] at h; simpa using h)
theorem tw_le (q : UInt8 → Bool) (l : List UInt8) : (l.takeWhile q).length ≤ l.length := by
  have := congrArg List.length (List.takeWhile_append_dropWhile (p := q) (l := l))
  rw [List.length_append] at this; omega
theorem ba_toList (l : List UInt8) : (ba l).toList = l := by rw [ByteArray.toList_eq]; rfl
theorem ba_app (x y : List UInt8) : ba x ++ ba y = ba (x ++ y) := by
  apply ByteArray.ext; simp [ba, ByteArray.data_append]
end Go.Proofs.YtmcnhggpmlhgeaaGreatDoor
