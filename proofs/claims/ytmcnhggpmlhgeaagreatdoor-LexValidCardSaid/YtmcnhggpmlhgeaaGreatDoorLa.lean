/-
  Tokens: what a text is scanned as, what tokens are joined to. No program in sight. Walks: the predicates on bytes of lex and of its reference. Walks: the reserved words of lex (a map that the call makes), and of the reference (lists of strings). Walks: the scanner of lex: run, skip. Walks: the scanner of lex: skip. Walks: the scanner of lex: name, number.
-/
import Derived.Test.YtmcnhggpmlhgeaaGreatDoorName
import Derived.Test.YtmcnhggpmlhgeaaGreatDoorBytes
import Derived.Test.YtmcnhggpmlhgeaaGreatDoorBookL
import Derived.Test.YtmcnhggpmlhgeaaGreatDoorShelf
import Derived.Lib.ItoaNum
import Derived.Maps.OwnOps
import Derived.Maps.Views
import Derived.StringKeys
import Derived.StillTailTactics
import Derived.Laws.ResultCell
import Derived.Laws.Rows
namespace Go.Proofs.YtmcnhggpmlhgeaaGreatDoor
open Go.RowKit Go.Proofs.BitsM
structure Tok where
  k : Int
  tx : List UInt8
  n : Nat
  pos : Int
def wordL : List (List UInt8) := [[97, 102, 116, 101, 114], [97, 110, 100], [97, 110, 100, 97, 108, 115, 111], [98, 97, 110, 100], [98, 101, 103, 105, 110], [98, 110, 111, 116], [98, 111, 114], [98, 115, 108], [98, 115, 114], [98, 120, 111, 114], [99, 97, 115, 101], [99, 97, 116, 99, 104], [100, 105, 118], [101, 110, 100], [102, 117, 110], [110, 111, 116], [111, 102], [111, 114], [111, 114, 101, 108, 115, 101], [114, 101, 99, 101, 105, 118, 101], [114, 101, 109], [116, 114, 121], [119, 104, 101, 110], [120, 111, 114]]
def sign3 : List (List UInt8) := [[61, 58, 61], [61, 47, 61]]
def sign2 : List (List UInt8) := [[45, 62], [43, 43], [60, 60], [62, 62], [61, 60], [62, 61]]
def sign1 : List UInt8 := [40, 41, 91, 93, 123, 125, 44, 59, 46, 58, 47, 124, 33, 61, 43, 45, 42, 60, 62]
def resB (s : List UInt8) : Bool := wordL.contains s
def namC (c : UInt8) : Bool := okC c.toNat
def smallC (c : UInt8) : Bool := decide (97 ≤ c.toNat) && decide (c.toNat ≤ 122)
def capC (c : UInt8) : Bool := decide (65 ≤ c.toNat) && decide (c.toNat ≤ 90)
def numC (c : UInt8) : Bool := decide (48 ≤ c.toNat) && decide (c.toNat ≤ 57)
def wsC (c : UInt8) : Bool := decide (c.toNat = 32) || decide (c.toNat = 9) || decide (c.toNat = 10) || decide (c.toNat = 13)
def headC (c : UInt8) : Bool := smallC c || capC c || decide (c.toNat = 95)
/-- the length of the longest sign at the beginning -/
def signN (s : List UInt8) : Nat := if sign3.contains (s.take 3) then 3 else if sign2.contains (s.take 2) then 2 else match s with | c :: _ => if sign1.contains c then 1 else 0 | [] => 0
/-- the number that digits write -/
def numV (l : List UInt8) : Nat := l.foldl (fun a c => 10 * a + (c.toNat - 48)) 0
/-- is the sequence of digits, with what follows it, an integer? -/
def numOk (w rest : List UInt8) : Bool := decide (numV w ≤ 9223372036854775808) && !(decide (1 < w.length) && decide (w.head? = some 48)) && !(match rest with | c :: _ => namC c | [] => false)
/-- what stands behind the first quote: the bytes, and what is left -/
def quoT : List UInt8 → Option (List UInt8 × List UInt8)
  | [] => none
  | c :: r => if c.toNat = 34 then some ([], r) else if c.toNat < 32 ∨ 126 < c.toNat then none else if c.toNat = 92 then (match r with
      | [] => none
      | d :: r' => if d.toNat = 92 ∨ d.toNat = 34 then (quoT r').map fun z => (d :: z.1, z.2) else if d.toNat = 110 then (quoT r').map fun z => (10 :: z.1, z.2) else none)
    else (quoT r).map fun z => (c :: z.1, z.2)
/-- an error, or a token and what is left -/
inductive TR where
  | bad (e : Int)
  | tok (k : Int) (tx : List UInt8) (n : Nat) (rest : List UInt8)
def nameT (c : UInt8) (s : List UInt8) : TR :=
  let w := s.takeWhile namC
  if 32 < w.length then .bad 91 else .tok (if resB w then 5 else if smallC c then 1 else 2) w 0 (s.dropWhile namC)
def numT (s : List UInt8) : TR :=
  let w := s.takeWhile numC
  if numOk w (s.dropWhile numC) then .tok 3 [] (numV w) (s.dropWhile numC) else .bad 92
def tokT : List UInt8 → TR
  | [] => .bad 90
  | c :: r =>
    if headC c then nameT c (c :: r)
    else if numC c then numT (c :: r)
    else if c.toNat = 34 then (match quoT r with | none => .bad 93 | some z => .tok 4 z.1 0 z.2)
    else if signN (c :: r) = 0 then .bad 90 else .tok 6 ((c :: r).take (signN (c :: r))) 0 ((c :: r).drop (signN (c :: r)))
/-- white space and comments passed; i: inside a comment -/
def skipT : Bool → List UInt8 → List UInt8
  | _, [] => []
  | i, c :: r => if ((i && decide (c.toNat ≠ 10)) || decide (c.toNat = 37)) || wsC c then skipT ((i && decide (c.toNat ≠ 10)) || decide (c.toNat = 37)) r else c :: r
/-- the first error with its offset from the end, or the tokens (offsets from the end of the text) -/
inductive SR where
  | bad (left : Nat) (e : Int)
  | ok (l : List Tok)
def scanT (len : Nat) : Nat → List UInt8 → SR
  | 0, _ => .ok []
  | j + 1, s => match skipT false s with
    | [] => .ok []
    | c :: r => match tokT (c :: r) with
      | .bad e => .bad (len - (c :: r).length) e
      | .tok k tx n rest => match scanT len j rest with
        | .bad p e => .bad p e
        | .ok l => .ok (⟨k, tx, n, ((len - (c :: r).length : Nat) : Int)⟩ :: l)
/-- Scan -/
def scanL (s : List UInt8) : SR := if 65536 < s.length then .bad 0 3 else scanT s.length (s.length + 1) s
/-- a token that is valid -/
def varB (s : List UInt8) : Bool := decide (1 ≤ s.length) && decide (s.length ≤ 32) && s.all namC && (match s with | c :: _ => capC c || decide (c.toNat = 95) | [] => false)
def plainB (s : List UInt8) : Bool := s.all fun c => decide (c.toNat = 10) || (decide (32 ≤ c.toNat) && decide (c.toNat ≤ 126))
def signB (s : List UInt8) : Bool := sign3.contains s || sign2.contains s || (match s with | [c] => sign1.contains c | _ => false)
def validTk (t : Tok) : Bool :=
  if t.k = 3 then t.tx.isEmpty && decide (t.n ≤ 9223372036854775808)
  else if t.n ≠ 0 then false
  else if t.k = 1 then nameB ⟨t.tx.toArray⟩ && !resB t.tx
  else if t.k = 2 then varB t.tx
  else if t.k = 4 then plainB t.tx
  else if t.k = 5 then resB t.tx
  else if t.k = 6 then signB t.tx
  else false
def escT : List UInt8 → List UInt8
  | [] => []
  | c :: r => if c.toNat = 92 ∨ c.toNat = 34 then 92 :: c :: escT r else if c.toNat = 10 then 92 :: 110 :: escT r else c :: escT r
/-- the text of a token -/
def textTk (t : Tok) : List UInt8 := if t.k = 3 then Lib.decDigits t.n else if t.k = 4 then 34 :: (escT t.tx ++ [34]) else t.tx
/-- are two tokens read as something else when they stand side by side? -/
def joinB (a b : Tok) : Bool :=
  let x := textTk a; let y := textTk b
  match x.getLast?, y with
  | none, _ => false
  | _, [] => false
  | some c, d :: _ => if namC c then namC d else if a.k ≠ 6 ∨ b.k ≠ 6 then false else if x = [61] ∧ (y = [58] ∨ y = [47]) then true else decide (signN (x ++ y) ≠ x.length)
def joinTk : List Tok → List UInt8
  | [] => []
  | a :: r => textTk a ++ (match r with | [] => [] | b :: _ => if joinB a b then 32 :: joinTk r else joinTk r)
def sameTk (a b : Tok) : Bool := decide (a.k = b.k) && decide (a.tx = b.tx) && decide (a.n = b.n)
end Go.Proofs.YtmcnhggpmlhgeaaGreatDoor
namespace Go.Proofs.YtmcnhggpmlhgeaaGreatDoor
open Go.RowKit
/-- a predicate on bytes that a function of the program computes -/
def Tells (g : Nat) (q : UInt8 → Bool) : Prop := (∀ (args : Array Value) (w : World), (callFunc g args).run Tryz.prog w = .ok (.enter g args) w) ∧ ∀ (c : UInt8) (w : World), Calls Tryz.prog g #[.int .u8 (c.toNat : Int)] w fun e w' => e = .returned (.bool (q c)) ∧ w' = w
def letC2 (c : UInt8) : Bool := smallC c || capC c
theorem numC_iff (c : UInt8) : numC c = true ↔ 48 ≤ c.toNat ∧ c.toNat ≤ 57 := by unfold numC; simp
theorem smallC_iff (c : UInt8) : smallC c = true ↔ 97 ≤ c.toNat ∧ c.toNat ≤ 122 := by unfold smallC; simp
theorem capC_iff (c : UInt8) : capC c = true ↔ 65 ≤ c.toNat ∧ c.toNat ≤ 90 := by unfold capC; simp
theorem letC2_iff (c : UInt8) : letC2 c = true ↔ (97 ≤ c.toNat ∧ c.toNat ≤ 122) ∨ (65 ≤ c.toNat ∧ c.toNat ≤ 90) := by unfold letC2; rw [Bool.or_eq_true, smallC_iff, capC_iff]
theorem namC_iff (c : UInt8) : namC c = true ↔ (97 ≤ c.toNat ∧ c.toNat ≤ 122) ∨ (65 ≤ c.toNat ∧ c.toNat ≤ 90) ∨ (48 ≤ c.toNat ∧ c.toNat ≤ 57) ∨ c.toNat = 95 ∨ c.toNat = 64 := by unfold namC okC lowC; simp [or_assoc]
theorem headC_iff (c : UInt8) : headC c = true ↔ (97 ≤ c.toNat ∧ c.toNat ≤ 122) ∨ (65 ≤ c.toNat ∧ c.toNat ≤ 90) ∨ c.toNat = 95 := by unfold headC smallC capC; simp [or_assoc]
theorem wsC_iff (c : UInt8) : wsC c = true ↔ c.toNat = 32 ∨ c.toNat = 9 ∨ c.toNat = 10 ∨ c.toNat = 13 := by unfold wsC; simp [or_assoc]
theorem callFunc_enter {F : FuncId} {fn : Func} (hf : Tryz.prog.funcs[F]? = some fn) (hn : (fn.name == "runtime.NumGoroutine") = false) (hb : fn.body.isNone = false) (args : Array Value) (W : World) : (callFunc F args).run Tryz.prog W = .ok (.enter F args) W := by
  simp only [beq_eq_false_iff_ne, ne_eq] at hn
  have hb2 : fn.body ≠ none := by intro e; rw [e] at hb; cases hb
  simp [callFunc, go_sem, hf, hn, hb2]
theorem digit_p (c : UInt8) (w : World) : Calls Tryz.prog 57 #[.int .u8 (c.toNat : Int)] w fun e w' => e = .returned (.bool (numC c)) ∧ w' = w := by
  go_enter Tryz.func57, Tryz.ntmps57
  go_wp2_with fail
  all_goals (try simp only [beq_iff_eq, beq_eq_false_iff_ne, ne_eq, Bool.not_eq_true] at *) <;> (go_ret; refine ⟨ret_bool (Eq.symm ?_), rfl⟩; first | (rw [numC_iff]; omega) | (rw [← Bool.not_eq_true, numC_iff]; omega) | (rw [Bool.eq_iff_iff, numC_iff, decide_eq_true_eq]; omega) | (rw [Bool.eq_iff_iff, numC_iff, beq_iff_eq]; omega))
theorem letter_p (c : UInt8) (w : World) : Calls Tryz.prog 55 #[.int .u8 (c.toNat : Int)] w fun e w' => e = .returned (.bool (letC2 c)) ∧ w' = w := by
  go_enter Tryz.func55, Tryz.ntmps55
  go_wp2_with fail
  all_goals (try simp only [beq_iff_eq, beq_eq_false_iff_ne, ne_eq, Bool.not_eq_true] at *) <;> (go_ret; refine ⟨ret_bool (Eq.symm ?_), rfl⟩; first | (rw [letC2_iff]; omega) | (rw [← Bool.not_eq_true, letC2_iff]; omega) | (rw [Bool.eq_iff_iff, letC2_iff, decide_eq_true_eq]; omega) | (rw [Bool.eq_iff_iff, letC2_iff, beq_iff_eq]; omega))
theorem small_r (c : UInt8) (w : World) : Calls Tryz.prog 60 #[.int .u8 (c.toNat : Int)] w fun e w' => e = .returned (.bool (smallC c)) ∧ w' = w := by
  go_enter Tryz.func60, Tryz.ntmps60
  go_wp2_with fail
  all_goals (try simp only [beq_iff_eq, beq_eq_false_iff_ne, ne_eq, Bool.not_eq_true] at *) <;> (go_ret; refine ⟨ret_bool (Eq.symm ?_), rfl⟩; first | (rw [smallC_iff]; omega) | (rw [← Bool.not_eq_true, smallC_iff]; omega) | (rw [Bool.eq_iff_iff, smallC_iff, decide_eq_true_eq]; omega) | (rw [Bool.eq_iff_iff, smallC_iff, beq_iff_eq]; omega))
theorem capital_r (c : UInt8) (w : World) : Calls Tryz.prog 46 #[.int .u8 (c.toNat : Int)] w fun e w' => e = .returned (.bool (capC c)) ∧ w' = w := by
  go_enter Tryz.func46, Tryz.ntmps46
  go_wp2_with fail
  all_goals (try simp only [beq_iff_eq, beq_eq_false_iff_ne, ne_eq, Bool.not_eq_true] at *) <;> (go_ret; refine ⟨ret_bool (Eq.symm ?_), rfl⟩; first | (rw [capC_iff]; omega) | (rw [← Bool.not_eq_true, capC_iff]; omega) | (rw [Bool.eq_iff_iff, capC_iff, decide_eq_true_eq]; omega) | (rw [Bool.eq_iff_iff, capC_iff, beq_iff_eq]; omega))
theorem digit_r (c : UInt8) (w : World) : Calls Tryz.prog 61 #[.int .u8 (c.toNat : Int)] w fun e w' => e = .returned (.bool (numC c)) ∧ w' = w := by
  go_enter Tryz.func61, Tryz.ntmps61
  go_wp2_with fail
  all_goals (try simp only [beq_iff_eq, beq_eq_false_iff_ne, ne_eq, Bool.not_eq_true] at *) <;> (go_ret; refine ⟨ret_bool (Eq.symm ?_), rfl⟩; first | (rw [numC_iff]; omega) | (rw [← Bool.not_eq_true, numC_iff]; omega) | (rw [Bool.eq_iff_iff, numC_iff, decide_eq_true_eq]; omega) | (rw [Bool.eq_iff_iff, numC_iff, beq_iff_eq]; omega))
theorem named_p (c : UInt8) (w : World) : Calls Tryz.prog 40 #[.int .u8 (c.toNat : Int)] w fun e w' => e = .returned (.bool (namC c)) ∧ w' = w := by
  have K0 := Lib.hid fun W => digit_p c W
  have K1 := Lib.hid fun W => letter_p c W
  rcases Bool.eq_false_or_eq_true (numC c) with h0 | h0 <;> rcases Bool.eq_false_or_eq_true (letC2 c) with h1 | h1
  all_goals
    rw [h0] at K0
    have H0 := Lib.hid h0
    clear h0
    rw [h1] at K1
    have H1 := Lib.hid h1
    clear h1
    go_enter Tryz.func40, Tryz.ntmps40
    go_wp2_with (first | (go_at_call 57; refine (K0.out _).mono ?_; rintro e w1 ⟨rfl, rfl⟩) | (go_at_call 55; refine (K1.out _).mono ?_; rintro e w1 ⟨rfl, rfl⟩))
    all_goals (try simp only [beq_iff_eq, beq_eq_false_iff_ne, ne_eq, Bool.not_eq_true] at *) <;> (have G0 := H0.out; (first | rw [numC_iff] at G0 | rw [← Bool.not_eq_true, numC_iff] at G0); have G1 := H1.out; (first | rw [letC2_iff] at G1 | rw [← Bool.not_eq_true, letC2_iff] at G1); go_ret; refine ⟨ret_bool (Eq.symm ?_), rfl⟩; first | (rw [namC_iff]; omega) | (rw [← Bool.not_eq_true, namC_iff]; omega) | (rw [Bool.eq_iff_iff, namC_iff, decide_eq_true_eq]; omega) | (rw [Bool.eq_iff_iff, namC_iff, beq_iff_eq]; omega))
theorem named_r (c : UInt8) (w : World) : Calls Tryz.prog 71 #[.int .u8 (c.toNat : Int)] w fun e w' => e = .returned (.bool (namC c)) ∧ w' = w := by
  have K0 := Lib.hid fun W => small_r c W
  have K1 := Lib.hid fun W => capital_r c W
  have K2 := Lib.hid fun W => digit_r c W
  rcases Bool.eq_false_or_eq_true (smallC c) with h0 | h0 <;> rcases Bool.eq_false_or_eq_true (capC c) with h1 | h1 <;> rcases Bool.eq_false_or_eq_true (numC c) with h2 | h2
  all_goals
    rw [h0] at K0
    have H0 := Lib.hid h0
    clear h0
    rw [h1] at K1
    have H1 := Lib.hid h1
    clear h1
    rw [h2] at K2
    have H2 := Lib.hid h2
    clear h2
    go_enter Tryz.func71, Tryz.ntmps71
    go_wp2_with (first | (go_at_call 60; refine (K0.out _).mono ?_; rintro e w1 ⟨rfl, rfl⟩) | (go_at_call 46; refine (K1.out _).mono ?_; rintro e w1 ⟨rfl, rfl⟩) | (go_at_call 61; refine (K2.out _).mono ?_; rintro e w1 ⟨rfl, rfl⟩))
    all_goals (try simp only [beq_iff_eq, beq_eq_false_iff_ne, ne_eq, Bool.not_eq_true] at *) <;> (have G0 := H0.out; (first | rw [smallC_iff] at G0 | rw [← Bool.not_eq_true, smallC_iff] at G0); have G1 := H1.out; (first | rw [capC_iff] at G1 | rw [← Bool.not_eq_true, capC_iff] at G1); have G2 := H2.out; (first | rw [numC_iff] at G2 | rw [← Bool.not_eq_true, numC_iff] at G2); go_ret; refine ⟨ret_bool (Eq.symm ?_), rfl⟩; first | (rw [namC_iff]; omega) | (rw [← Bool.not_eq_true, namC_iff]; omega) | (rw [Bool.eq_iff_iff, namC_iff, decide_eq_true_eq]; omega) | (rw [Bool.eq_iff_iff, namC_iff, beq_iff_eq]; omega))
theorem digit_t : Tells 57 numC := ⟨callFunc_enter Tryz.func57 (by kernel_rfl) (by kernel_rfl), digit_p⟩
theorem named_t : Tells 40 namC := ⟨callFunc_enter Tryz.func40 (by kernel_rfl) (by kernel_rfl), named_p⟩
end Go.Proofs.YtmcnhggpmlhgeaaGreatDoor
namespace Go.Proofs.YtmcnhggpmlhgeaaGreatDoor
open Go.RowKit Go.Maps Go.WideMaps
theorem lawS : Keyed Tryz.prog 9 := string_keyed Tryz.underlying9
theorem zeroI (w : World) : (zeroValue 3).run Tryz.prog w = .ok (.int .i64 0) w := by kernel_rfl
def wOne : DataW Unit := .lit (.int .i64 1)
def wZero : DataW Unit := .lit (.int .i64 0)
def wD (k : Nat) : DataW Unit := setOf wOne ((wordL.take k).map Lit.string)
theorem lits_key (acc : List (List UInt8)) : ∀ x ∈ acc.map Lit.string, WideAt.IsKeyLit x := by
  intro x hx
  obtain ⟨y, _, rfl⟩ := List.mem_map.1 hx
  exact (by first | trivial | exact rfl | simp [WideAt.IsKeyLit])
theorem set_at (s : List UInt8) (acc : List (List UInt8)) : (setOf wOne (acc.map Lit.string)).atKey (.string s) wZero = if acc.contains s then wOne else wZero := by
  obtain ⟨n, hn⟩ : ∃ n, acc.length = n := ⟨_, rfl⟩
  induction n generalizing acc with
  | zero => rw [List.length_eq_zero_iff.1 hn]; rfl
  | succ n ih =>
    rcases List.eq_nil_or_concat acc with rfl | ⟨acc, x, rfl⟩
    · cases hn
    have ih := ih acc (by simpa using hn)
    rw [List.concat_eq_append, List.map_append, List.map_singleton, setOf_snoc]
    by_cases h : s = x
    · subst h
      rw [atKey_put_same (tidy_setOf _ _ (lits_key acc)).isMap (by first | trivial | exact rfl | simp [WideAt.IsKeyLit])]
      simp
    · rw [atKey_put_other (by simpa using h), ih]
      simp [h]
theorem wD_step {k : Nat} {x : List UInt8} (h : wordL[k]? = some x) : wD (k + 1) = (wD k).put (.string x) wOne := by
  unfold wD
  rw [List.take_add_one, h, Option.toList_some, List.map_append, List.map_singleton, setOf_snoc]
theorem wD_new {k : Nat} {x : List UInt8} (h : wordL[k]? = some x) : (wordL.take k).contains x = false := by
  have H : (List.range 24).all (fun k => match wordL[k]? with | some x => !(wordL.take k).contains x | none => true) = true := by decide +kernel
  have hk : k < 24 := by
    rcases Nat.lt_or_ge k 24 with h' | h'
    · exact h'
    · rw [List.getElem?_eq_none (show wordL.length ≤ k from h')] at h; cases h
  have := List.all_eq_true.1 H k (List.mem_range.2 hk)
  simp only [h, Bool.not_eq_true'] at this
  exact this
theorem word_len {k : Nat} {x : List UInt8} (h : wordL[k]? = some x) : (ba x).size ≤ maxLen := by
  have H : wordL.all (fun x => decide (x.length ≤ 10)) = true := by decide +kernel
  have := List.all_eq_true.1 H x (List.mem_of_getElem? h)
  rw [decide_eq_true_eq] at this
  rw [ba_size]; unfold maxLen; omega
def wordA : Array Value := (wordL.map fun l => Value.string (ba l)).toArray
theorem wordA_at {k : Nat} {x : List UInt8} (h : wordL[k]? = some x) : wordA[k]? = some (.string (ba x)) := by
  unfold wordA; rw [List.getElem?_toArray, List.getElem?_map, h]; rfl
/-- the reserved words in block b, a map -/
def Wds (b : Nat) (w : World) : Prop := w.ownsMap Tryz.prog 9 (plainElem Tryz.prog 3) b 24 (wD 24)
theorem Wds.keep {b : Nat} {w w' : World} (h : Wds b w) (hk : ∀ k, k = b → k < w.heap.size → w'.heap[k]? = w.heap[k]?) (_ : w.heap.size ≤ w'.heap.size) : Wds b w' := by
  obtain ⟨es, clock, h1, h2⟩ := h
  exact ⟨es, clock, (hk b rfl (lt_of_block h1)).trans h1, h2⟩
theorem wds_at (s : List UInt8) : (wD 24).atKey (.string s) wZero = if resB s then wOne else wZero := set_at s _
theorem wds_lit {s : List UInt8} {c : Int} (h : (wD 24).atKey (.string s) (.lit (.int .i64 0)) = .lit (.int .i64 c)) : c = if resB s then 1 else 0 := by
  rw [show (DataW.lit (.int .i64 0) : DataW Unit) = wZero from rfl, wds_at] at h
  cases hr : resB s with
  | true => rw [hr, if_pos rfl] at h; injection h with h; injection h with _ h; exact h.symm
  | false => rw [hr, if_neg (by decide)] at h; injection h with h; injection h with _ h; exact h.symm
theorem fields_w : Lib.fields [97, 102, 116, 101, 114, 32, 97, 110, 100, 32, 97, 110, 100, 97, 108, 115, 111, 32, 98, 97, 110, 100, 32, 98, 101, 103, 105, 110, 32, 98, 110, 111, 116, 32, 98, 111, 114, 32, 98, 115, 108, 32, 98, 115, 114, 32, 98, 120, 111, 114, 32, 99, 97, 115, 101, 32, 99, 97, 116, 99, 104, 32, 100, 105, 118, 32, 101, 110, 100, 32, 102, 117, 110, 32, 110, 111, 116, 32, 111, 102, 32, 111, 114, 32, 111, 114, 101, 108, 115, 101, 32, 114, 101, 99, 101, 105, 118, 101, 32, 114, 101, 109, 32, 116, 114, 121, 32, 119, 104, 101, 110, 32, 120, 111, 114] = wordL := by decide +kernel
/-- the table of white space is laid -/
def As (w : World) : Prop := Lib.TabIs Tryz.prog w "strings.asciiSpace" .u8 Lib.asciiSpaceTab
theorem fields_c (w : World) (hT : As w) : Calls Tryz.prog 53 #[.string ⟨#[97, 102, 116, 101, 114, 32, 97, 110, 100, 32, 97, 110, 100, 97, 108, 115, 111, 32, 98, 97, 110, 100, 32, 98, 101, 103, 105, 110, 32, 98, 110, 111, 116, 32, 98, 111, 114, 32, 98, 115, 108, 32, 98, 115, 114, 32, 98, 120, 111, 114, 32, 99, 97, 115, 101, 32, 99, 97, 116, 99, 104, 32, 100, 105, 118, 32, 101, 110, 100, 32, 102, 117, 110, 32, 110, 111, 116, 32, 111, 102, 32, 111, 114, 32, 111, 114, 101, 108, 115, 101, 32, 114, 101, 99, 101, 105, 118, 101, 32, 114, 101, 109, 32, 116, 114, 121, 32, 119, 104, 101, 110, 32, 120, 111, 114]⟩] w fun e w' => e = .returned (.slice (some ⟨w.heap.size, 0, none⟩) 24 24) ∧ w' = w.alloc (.cells wordA 9 (0, 0)) := by
  have h := Tryz.strings_Fields ⟨#[97, 102, 116, 101, 114, 32, 97, 110, 100, 32, 97, 110, 100, 97, 108, 115, 111, 32, 98, 97, 110, 100, 32, 98, 101, 103, 105, 110, 32, 98, 110, 111, 116, 32, 98, 111, 114, 32, 98, 115, 108, 32, 98, 115, 114, 32, 98, 120, 111, 114, 32, 99, 97, 115, 101, 32, 99, 97, 116, 99, 104, 32, 100, 105, 118, 32, 101, 110, 100, 32, 102, 117, 110, 32, 110, 111, 116, 32, 111, 102, 32, 111, 114, 32, 111, 114, 101, 108, 115, 101, 32, 114, 101, 99, 101, 105, 118, 101, 32, 114, 101, 109, 32, 116, 114, 121, 32, 119, 104, 101, 110, 32, 120, 111, 114]⟩ w (by decide) (by
    intro j b hb
    have H : ([97, 102, 116, 101, 114, 32, 97, 110, 100, 32, 97, 110, 100, 97, 108, 115, 111, 32, 98, 97, 110, 100, 32, 98, 101, 103, 105, 110, 32, 98, 110, 111, 116, 32, 98, 111, 114, 32, 98, 115, 108, 32, 98, 115, 114, 32, 98, 120, 111, 114, 32, 99, 97, 115, 101, 32, 99, 97, 116, 99, 104, 32, 100, 105, 118, 32, 101, 110, 100, 32, 102, 117, 110, 32, 110, 111, 116, 32, 111, 102, 32, 111, 114, 32, 111, 114, 101, 108, 115, 101, 32, 114, 101, 99, 101, 105, 118, 101, 32, 114, 101, 109, 32, 116, 114, 121, 32, 119, 104, 101, 110, 32, 120, 111, 114] : List UInt8).all (fun b => decide (b.toNat < 128)) = true := by decide +kernel
    have := List.all_eq_true.1 H b (List.mem_of_getElem? hb)
    simpa using this) hT
  rw [show (⟨#[97, 102, 116, 101, 114, 32, 97, 110, 100, 32, 97, 110, 100, 97, 108, 115, 111, 32, 98, 97, 110, 100, 32, 98, 101, 103, 105, 110, 32, 98, 110, 111, 116, 32, 98, 111, 114, 32, 98, 115, 108, 32, 98, 115, 114, 32, 98, 120, 111, 114, 32, 99, 97, 115, 101, 32, 99, 97, 116, 99, 104, 32, 100, 105, 118, 32, 101, 110, 100, 32, 102, 117, 110, 32, 110, 111, 116, 32, 111, 102, 32, 111, 114, 32, 111, 114, 101, 108, 115, 101, 32, 114, 101, 99, 101, 105, 118, 101, 32, 114, 101, 109, 32, 116, 114, 121, 32, 119, 104, 101, 110, 32, 120, 111, 114]⟩ : ByteArray).data.toList = [97, 102, 116, 101, 114, 32, 97, 110, 100, 32, 97, 110, 100, 97, 108, 115, 111, 32, 98, 97, 110, 100, 32, 98, 101, 103, 105, 110, 32, 98, 110, 111, 116, 32, 98, 111, 114, 32, 98, 115, 108, 32, 98, 115, 114, 32, 98, 120, 111, 114, 32, 99, 97, 115, 101, 32, 99, 97, 116, 99, 104, 32, 100, 105, 118, 32, 101, 110, 100, 32, 102, 117, 110, 32, 110, 111, 116, 32, 111, 102, 32, 111, 114, 32, 111, 114, 101, 108, 115, 101, 32, 114, 101, 99, 101, 105, 118, 101, 32, 114, 101, 109, 32, 116, 114, 121, 32, 119, 104, 101, 110, 32, 120, 111, 114] from rfl, fields_w] at h
  exact h
set_option maxRecDepth 100000 in
set_option maxHeartbeats 4000000 in
theorem reserved_any (w : World) (hT : ∀ W, Below w.heap.size w W → As W) : Calls Tryz.prog 24 #[] w fun e w' => e = .returned (.map (some w.heap.size)) ∧ Wds w.heap.size w' ∧ Below w.heap.size w w' := by
  have hmm := @run_makeMap Tryz.prog
  have HT := Lib.hid hT
  clear hT
  go_enter Tryz.func24, Tryz.ntmps24
  go_wp2_with fail
  refine (fields_c _ (HT.out _ (below_alloc _ _))).mono ?_
  rintro e w1 ⟨rfl, hw1⟩
  have HM := Lib.hid (show w1.ownsMap Tryz.prog 9 (plainElem Tryz.prog 3) w.heap.size 0 (wD 0) from hw1 ▸ (World.ownsMap_made w Tryz.prog 9 _).alloc _)
  have HG := Lib.hid (show w1.heap[w.heap.size + 1]? = some (.cells wordA 9 (0, 0)) from hw1 ▸ (by have h := heap_alloc_new (w.alloc (.map #[] 0)) (.cells wordA 9 (0, 0)); rw [World.size_alloc] at h; exact h))
  have HB := Lib.hid (show Below w.heap.size w w1 from hw1 ▸ balloc (below_alloc _ _) _)
  clear hw1 hmm
  have hsz : (w.alloc (.map #[] 0)).heap.size = w.heap.size + 1 := World.size_alloc _ _
  rw [hsz]
  clear hsz
  go_wp2_with fail
  go_loopw [7] (fun i wr => ∃ k : Nat, k ≤ 24 ∧ i = .int .i64 k ∧ Hid (wr.ownsMap Tryz.prog 9 (plainElem Tryz.prog 3) w.heap.size k (wD k)) ∧ Hid (wr.heap[w.heap.size + 1]? = some (.cells wordA 9 (0, 0))) ∧ Hid (Below w.heap.size w wr)) (fun i _ => 24 - (intOf i).toNat)
  case atStart => exact ⟨0, by omega, rfl, HM, HG, HB⟩
  case round =>
    obtain ⟨k, hk, rfl, HM, HG, HB⟩ := hrel
    by_cases hlt : k < 24
    · have hlt' : (k : Int) < 24 := by omega
      obtain ⟨x, hx⟩ : ∃ x, wordL[k]? = some x := ⟨wordL[k]'hlt, List.getElem?_eq_getElem hlt⟩
      have hc : wr.cell? ⟨w.heap.size + 1, k, none⟩ = some (.string (ba x)) := (cells_of HG.out k).trans (wordA_at hx)
      have HK := Lib.hid (keyOf_string_mk Tryz.underlying9 (word_len hx))
      have HX := Lib.hid hx
      clear hx
      go_wp2_with (first
        | (at_lookup; refine wpList_lookup_own_int _ rfl _ _ 40 rfl 9 3 .i64 lawS Tryz.underlying40 Tryz.underlying3 (zeroI _) w.heap.size k _ rfl HM.out _ _ rfl HK.out ?_; intro c hat hwc)
        | (at_mapUpdate; refine wpList_mapUpdate_own _ rfl _ _ _ 40 rfl 9 3 lawS Tryz.underlying40 _ w.heap.size k _ rfl HM.out (by unfold maxLen; omega) _ _ _ rfl rfl HK.out _ [] (plainElem_int Tryz.underlying3 (wrap64_wf _)) ?_; intro w1 hown1 hgrow1))
      have hc0 : c = 0 := by
        have h := (set_at x (wordL.take k)).symm.trans hat
        rw [wD_new HX.out, if_neg (by decide)] at h
        injection h with h; injection h with _ h; exact h.symm
      subst hc0
      have hw1 : wrap64 (0 + 1) = 1 := by decide +kernel
      rw [hw1] at hown1
      have hown2 : w1.ownsMap Tryz.prog 9 (plainElem Tryz.prog 3) w.heap.size (k + 1) ((wD k).put (.string x) wOne) := hown1
      go_roundw
      case rel => exact ⟨k + 1, by omega, by go_num, Lib.hid (wD_step HX.out ▸ hown2), Lib.hid ((hgrow1.block _ (lt_of_block HG.out) (by simp)).trans HG.out), Lib.hid (HB.out.grown hgrow1 HB.out.size (fun j hj => by cases hj; exact Nat.le_refl _))⟩
      case measure => simp only [intOf]; omega
    · have hlt' : ¬ (k : Int) < 24 := by omega
      obtain rfl : k = 24 := by omega
      go_wp2_with fail
      go_ret
      exact ⟨rfl, HM.out, HB.out⟩
set_option maxRecDepth 100000 in
theorem Reserved_p (s : List UInt8) (hs : s.length ≤ 9223372036854775807) (w : World) (hT : ∀ W, Below w.heap.size w W → As W) : Calls Tryz.prog 20 #[.string (ba s)] w fun e w' => e = .returned (.bool (resB s)) ∧ Below w.heap.size w w' := by
  have HR := Lib.hid (reserved_any w hT)
  clear hT
  have HK := Lib.hid (keyOf_string_mk Tryz.underlying9 (show (ba s).size ≤ maxLen by rw [ba_size]; unfold maxLen; omega))
  go_enter Tryz.func20, Tryz.ntmps20
  go_wp2_with fail
  refine HR.out.mono ?_
  rintro e w1 ⟨rfl, hm, hb⟩
  have HB := Lib.hid hb
  clear hb
  go_wp2_with (at_lookup; refine wpList_lookup_own_int _ rfl _ _ 40 rfl 9 3 .i64 lawS Tryz.underlying40 Tryz.underlying3 (zeroI _) w.heap.size 24 _ rfl hm _ _ rfl HK.out ?_; intro c hat hwc)
  have hc : c = if resB s then 1 else 0 := wds_lit hat
  go_ret
  refine ⟨ret_bool ?_, HB.out⟩
  cases hr : resB s with
  | true => rw [hr, if_pos rfl] at hc; subst hc; rfl
  | false => rw [hr, if_neg (by decide)] at hc; subst hc; rfl
end Go.Proofs.YtmcnhggpmlhgeaaGreatDoor
namespace Go.Proofs.YtmcnhggpmlhgeaaGreatDoor
open Go.RowKit
/-- a fact that nothing unfolds -/
structure Shut (p : Prop) : Prop where
  out : p
section
variable {P : Program} {ops : Array Oper} {w : World} {Q : Act → Prop} {a : Act} {o : Oper} {rest : List Oper}
/-- a step in a still region, its rest behind a word that nothing unfolds -/
theorem stH_step (h : ∀ K : Act → Prop, (∀ a, Shut (wpStill P ops w Q rest a) → K a) → if Region.wanted o (yielded ops a.tmps) then o.still P a w K else K (a.put o.dst undef)) : Shut (wpStill P ops w Q (o :: rest) a) :=
  ⟨wpStill_step fun K hK => h K fun a ha => hK a ha.out⟩
theorem stH_nil (h : Q a) : Shut (wpStill P ops w Q [] a) := ⟨h⟩
end
/-- the scanner in block R: the text, where it stands, the reserved words -/
def Sc (R : Nat) (T : List UInt8) (p : Nat) (m : Value) (w : World) : Prop := w.heap[R]? = some (.cells #[.string (ba T), .int .i64 (p : Int), m] 43 (0, 0))
/-- where the scanner stands -/
def atOf (R : Nat) (w : World) : Nat := match w.cell? ⟨R, 1, none⟩ with | some (.int _ n) => n.toNat | _ => 0
theorem atOf_of {R : Nat} {T : List UInt8} {p : Nat} {m : Value} {w : World} (h : Sc R T p m w) : atOf R w = p := by
  unfold atOf; rw [cells_of h 1]; rfl
theorem Bq.dr {w : World} {fs : List Fq} (h : Bq w fs) : Bq w.drew fs := h.below ⟨rfl, rfl, rfl, Nat.le_refl _, fun _ _ => rfl⟩
theorem pos_in {q : UInt8 → Bool} {T : List UInt8} {p n P : Nat} (hn : ((T.drop p).takeWhile q).length = n) (h1 : p ≤ P) (h2 : P < p + n) (hP : P < T.length) : q (T[P]'hP) = true := by
  have h := tw_at q (T.drop p) (P - p) (by rw [List.length_drop]; omega) (by rw [hn]; omega)
  rw [List.getElem_drop] at h
  simpa [Nat.add_sub_cancel' h1] using h
theorem pos_stop {q : UInt8 → Bool} {T : List UInt8} {p n : Nat} (hn : ((T.drop p).takeWhile q).length = n) (hP : p + n < T.length) : q (T[p + n]'hP) = false := by
  subst hn
  have h := tw_stop q (T.drop p) (by rw [List.length_drop]; omega)
  rw [List.getElem_drop] at h; exact h
theorem pos_stop2 {q : UInt8 → Bool} {T : List UInt8} {p n P : Nat} (hn : ((T.drop p).takeWhile q).length = n) (h : P = p + n) (hP : P < T.length) : q (T[P]'hP) = false := by
  subst h; exact pos_stop hn hP
theorem ext_run {q : UInt8 → Bool} {T : List UInt8} {p n : Nat} (hn : ((T.drop p).takeWhile q).length = n) : (ba T).extract p (p + n) = ba ((T.drop p).takeWhile q) := by
  subst hn
  rw [extract_ba, Nat.add_sub_cancel_left, tw_take]
/-- skip's closure: the state, whether the byte is passed -/
def skS (i : Bool) (c : UInt8) : Bool := (i && decide (c.toNat ≠ 10)) || decide (c.toNat = 37)
def skQ (i : Bool) (c : UInt8) : Bool := skS i c || wsC c
theorem skipT_cons (i : Bool) (c : UInt8) (r : List UInt8) : skipT i (c :: r) = if skQ i c then skipT (skS i c) r else c :: r := by
  rw [skipT]; rfl
set_option maxRecDepth 100000 in
set_option maxHeartbeats 4000000 in
theorem run_t (g : Nat) (q : UInt8 → Bool) (hg : Tells g q) (R : Nat) (T : List UInt8) (p : Nat) (m : Value) (w : World) (hr : Sc R T p m w) (hT : T.length ≤ 1000000000000) (hp : p ≤ T.length) :
    Calls Tryz.prog 39 #[.pointer (some ⟨R, 0, none⟩), .func (.func g) #[] #[]] w fun e w' => e = .returned (.string (ba ((T.drop p).takeWhile q))) ∧ Sc R T (p + ((T.drop p).takeWhile q).length) m w' ∧ Ch (fun b => b = R) w w' := by
  have HQ := Lib.hid hg.2
  have hcf := hg.1
  clear hg
  have hsz : ((ba T).size : Int) = (T.length : Int) := by rw [ba_size]
  have htl := tw_le q (T.drop p)
  rw [List.length_drop] at htl
  obtain ⟨n, hn⟩ : ∃ n, ((T.drop p).takeWhile q).length = n := ⟨_, rfl⟩
  rw [hn] at htl ⊢
  have HN := Lib.hid hn
  clear hn
  have HF0 := Lib.hid (show Bq w [.blk R #[.string (ba T), .int .i64 ((p : Nat)), m] 43, .base (fun b => b = R) w] from ⟨hr, Ch.refl _ _, trivial⟩)
  clear hr
  go_enter Tryz.func39, Tryz.ntmps39
  have c0 := cells_of (HF0.out.blk 0 rfl) 0
  have c1 := cells_of (HF0.out.blk 0 rfl) 1
  have c2 := cells_of (HF0.out.blk 0 rfl) 2
  go_wp2_with fail
  clear c0 c1 c2
  go_loopw [] (fun wr => ∃ P : Nat, p ≤ P ∧ P ≤ p + n ∧ Hid (Bq wr [.blk R #[.string (ba T), .int .i64 ((P : Int)), m] 43, .base (fun b => b = R) w])) (fun wr => p + n - atOf R wr)
  case atStart => exact ⟨p, Nat.le_refl _, by omega, HF0⟩
  case round =>
    obtain ⟨P, hP, hP2, HW⟩ := hrel
    clear HF0
    have hat0 := atOf_of (p := P) (HW.out.blk 0 rfl)
    have c0 := cells_of (HW.out.blk 0 rfl) 0
    have c1 := cells_of (HW.out.blk 0 rfl) 1
    have c2 := cells_of (HW.out.blk 0 rfl) 2
    have fr := frees_of (HW.out.blk 0 rfl)
    have frk := fr 1
    by_cases hkl : P < T.length
    · skip
      have x1 : (P : Int) < (T.length : Int) := by omega
      have hks : P < (ba T).size := by rw [ba_size]; exact hkl
      go_upto_region 2 with (fail)
      go_still_tail 21, (by kernel_rfl)
      go_wp2_with fail
      refine (HQ.out _ _).mono ?_
      rintro e w1 ⟨rfl, hw1⟩
      have HW1 := Lib.hid (show Bq w1 [.blk R #[.string (ba T), .int .i64 ((P : Int)), m] 43, .base (fun b => b = R) w] from hw1 ▸ HW.out.dr)
      clear HW hw1 c0 c1 c2 fr frk
      by_cases hkt : P < p + n
      · skip
        have c0 := cells_of (HW1.out.blk 0 rfl) 0
        have c1 := cells_of (HW1.out.blk 0 rfl) 1
        have c2 := cells_of (HW1.out.blk 0 rfl) 2
        have fr := frees_of (HW1.out.blk 0 rfl)
        have frk := fr 1
        have hq : q ((ba T)[P]'hks) = true := pos_in HN.out hP hkt hkl
        rw [hq]
        go_wp2_with fail
        have ep : ((P + 1 : Nat) : Int) = (P : Int) + 1 := by omega
        have HF1 := Lib.hid (HW1.out.set (c := [.string (ba T), .int .i64 ((P : Int)), m]) 0 rfl 1 (.int .i64 ((P : Int) + 1)) (by refine ⟨?_, trivial⟩ <;> (simp only [Fq.apart]; first | omega | (intro b h1 h2; omega) | (intro b h1 h2 h3; omega))))
        clear HW1
        go_roundw
        case rel => exact ⟨P + 1, by omega, by omega, Lib.hid (by rw [ep]; exact HF1.out)⟩
        case measure =>
          have hat2 := atOf_of (p := P + 1) (show Sc R T (P + 1) m (w1.setCell ⟨R, 1, none⟩ (.int .i64 ((P : Int) + 1))) by unfold Sc; rw [ep]; exact HF1.out.blk 0 rfl)
          rw [hat2, hat0]; omega
      · skip
        have hPn : P = p + n := by omega
        have hq : q ((ba T)[P]'hks) = false := pos_stop2 HN.out hPn hkl
        rw [hq]
        have HPN := Lib.hid hPn
        clear hPn
        have c0 := cells_of (HW1.out.blk 0 rfl) 0
        have c1 := cells_of (HW1.out.blk 0 rfl) 1
        have c2 := cells_of (HW1.out.blk 0 rfl) 2
        have E1 := Lib.hid (show (ba T).extract p P = ba ((T.drop p).takeWhile q) by rw [HPN.out]; exact ext_run HN.out)
        have hq2 : P ≤ T.length := by omega
        go_upto_region 4 with (fail)
        go_still_tail 9, (by kernel_rfl)
        go_wp2_with fail
        go_ret
        exact ⟨by rw [E1.out]; rfl, by rw [← HPN.out]; exact (HW1.out.dr.blk 0 rfl), HW1.out.dr.base 1 rfl⟩
    · skip
      have hPn : P = p + n := by omega
      have x1 : ¬ (P : Int) < (T.length : Int) := by omega
      have x2 : (T.length : Int) ≤ (P : Int) := by omega
      have HPN := Lib.hid hPn
      clear hPn
      have E1 := Lib.hid (show (ba T).extract p P = ba ((T.drop p).takeWhile q) by rw [HPN.out]; exact ext_run HN.out)
      have hq2 : P ≤ T.length := by omega
      go_upto_region 2 with (fail)
      refine wp_region_still_tail 21 (by kernel_rfl) (by kernel_rfl) ?_
      simp only [List.take_succ_cons, List.take_zero, List.drop_succ_cons, List.drop_zero]
      refine Shut.out ?_
      iterate 21 (refine stH_step (fun K hK => ?_); go_simp; refine hK _ ?_; clear hK K)
      refine stH_nil ?_
      have HW1 := Lib.hid (show Bq wr.drew [.blk R #[.string (ba T), .int .i64 ((P : Int)), m] 43, .base (fun b => b = R) w] from HW.out.dr)
      go_upto_region 4 with (fail)
      clear c0 c1 c2 fr frk
      generalize wr.drew = w1 at HW1 ⊢
      have c0 := cells_of (HW1.out.blk 0 rfl) 0
      have c1 := cells_of (HW1.out.blk 0 rfl) 1
      have c2 := cells_of (HW1.out.blk 0 rfl) 2
      go_still_tail 9, (by kernel_rfl)
      go_wp2_with fail
      go_ret
      exact ⟨by rw [E1.out]; rfl, by rw [← HPN.out]; exact (HW1.out.dr.blk 0 rfl), HW1.out.dr.base 1 rfl⟩
end Go.Proofs.YtmcnhggpmlhgeaaGreatDoor
namespace Go.Proofs.YtmcnhggpmlhgeaaGreatDoor
open Go.RowKit
theorem skS_iff (i : Bool) (c : UInt8) : skS i c = true ↔ (i = true ∧ c.toNat ≠ 10) ∨ c.toNat = 37 := by unfold skS; simp
theorem skQ_iff (i : Bool) (c : UInt8) : skQ i c = true ↔ ((i = true ∧ c.toNat ≠ 10) ∨ c.toNat = 37) ∨ c.toNat = 32 ∨ c.toNat = 9 ∨ c.toNat = 10 ∨ c.toNat = 13 := by unfold skQ; rw [Bool.or_eq_true, skS_iff, wsC_iff]
set_option maxRecDepth 100000 in
set_option maxHeartbeats 4000000 in
theorem skip1_any (L : Nat) (i : Bool) (c : UInt8) (W : World) (h : W.heap[L]? = some (.cells #[.bool i] 4 (0, 0))) : Calls Tryz.prog 54 #[.int .u8 (c.toNat : Int), .pointer (some ⟨L, 0, none⟩)] W fun e w' => e = .returned (.bool (skQ i c)) ∧ w' = W.setCell ⟨L, 0, none⟩ (.bool (skS i c)) := by
  have c0 := cells_of h 0
  have fr := frees_of h 0
  clear h
  obtain ⟨s, hs⟩ : ∃ s, skS i c = s := ⟨_, rfl⟩
  have HS := Lib.hid hs
  rw [hs]
  clear hs
  cases s <;> cases i <;> rcases Nat.decEq c.toNat 10 with h10 | h10 <;> rcases Nat.decEq c.toNat 37 with h37 | h37
  all_goals (first | (exfalso; have hh := HS.out; first | (rw [skS_iff] at hh; simp at hh; omega) | (rw [← Bool.not_eq_true, skS_iff] at hh; simp at hh; omega)) | skip)
  all_goals (first | (have x10 : ((c.toNat : Int) == 10) = true := by simp; omega) | (have x10 : ((c.toNat : Int) == 10) = false := by simp; omega))
  all_goals (first | (have x37 : ((c.toNat : Int) == 37) = true := by simp; omega) | (have x37 : ((c.toNat : Int) == 37) = false := by simp; omega))
  all_goals
    go_enter Tryz.func54, Tryz.ntmps54
    go_wp2_with fail
  all_goals (try (exfalso; omega))
  all_goals (go_ret; refine ⟨ret_bool (Eq.symm ?_), rfl⟩; first | (rw [skQ_iff]; simp; omega) | (rw [← Bool.not_eq_true, skQ_iff]; simp; omega) | (rw [Bool.eq_iff_iff, skQ_iff, decide_eq_true_eq]; simp; omega) | (rw [Bool.eq_iff_iff, skQ_iff, beq_iff_eq]; simp; omega))
theorem skip_step {i : Bool} {T rest : List UInt8} {P : Nat} (hP : P < T.length) (h : skipT i (T.drop P) = rest) (hq : skQ i T[P] = true) : skipT (skS i T[P]) (T.drop (P + 1)) = rest := by
  rw [List.drop_eq_getElem_cons hP, skipT_cons, if_pos hq] at h; exact h
theorem skip_stop {i : Bool} {T rest : List UInt8} {P : Nat} (hP : P < T.length) (h : skipT i (T.drop P) = rest) (hq : skQ i T[P] = false) : T.drop P = rest := by
  rw [List.drop_eq_getElem_cons hP, skipT_cons, hq] at h
  rw [List.drop_eq_getElem_cons hP]; exact h
theorem skip_end {i : Bool} {T rest : List UInt8} {P : Nat} (hP : T.length ≤ P) (h : skipT i (T.drop P) = rest) : T.drop P = rest := by
  rw [List.drop_of_length_le hP] at h ⊢; exact h
set_option maxRecDepth 100000 in
set_option maxHeartbeats 4000000 in
theorem run_k (L : Nat) (R : Nat) (hLR : ¬ L = R) (T : List UInt8) (p : Nat) (m : Value) (w : World) (hr : Sc R T p m w) (hl : w.heap[L]? = some (.cells #[.bool false] 4 (0, 0))) (hT : T.length ≤ 1000000000000) (hp : p ≤ T.length) :
    Calls Tryz.prog 39 #[.pointer (some ⟨R, 0, none⟩), .func (.func 54) #[] #[.pointer (some ⟨L, 0, none⟩)]] w fun e w' => ∃ (s : ByteArray) (P : Nat), e = .returned (.string s) ∧ p ≤ P ∧ P ≤ T.length ∧ T.drop P = skipT false (T.drop p) ∧ Sc R T P m w' ∧ Ch (fun b => b = R ∨ b = L) w w' := by
  have hsz : ((ba T).size : Int) = (T.length : Int) := by rw [ba_size]
  generalize hrest : skipT false (T.drop p) = rest
  have HRest := Lib.hid hrest
  clear hrest
  have HF0 := Lib.hid (show Bq w [.blk R #[.string (ba T), .int .i64 ((p : Nat)), m] 43, .blk L #[.bool false] 4, .base (fun b => b = R ∨ b = L) w] from ⟨hr, hl, Ch.refl _ _, trivial⟩)
  clear hr hl
  go_enter Tryz.func39, Tryz.ntmps39
  have c0 := cells_of (HF0.out.blk 0 rfl) 0
  have c1 := cells_of (HF0.out.blk 0 rfl) 1
  have c2 := cells_of (HF0.out.blk 0 rfl) 2
  go_wp2_with fail
  clear c0 c1 c2
  go_loopw [] (fun wr => ∃ (P : Nat) (i : Bool), p ≤ P ∧ P ≤ T.length ∧ Hid (skipT i (T.drop P) = rest) ∧ Hid (Bq wr [.blk R #[.string (ba T), .int .i64 ((P : Int)), m] 43, .blk L #[.bool i] 4, .base (fun b => b = R ∨ b = L) w])) (fun wr => T.length - atOf R wr)
  case atStart => exact ⟨p, false, Nat.le_refl _, hp, HRest, HF0⟩
  case round =>
    obtain ⟨P, i, hP, hP2, HS, HW⟩ := hrel
    clear HF0
    have hat0 := atOf_of (p := P) (HW.out.blk 0 rfl)
    have c0 := cells_of (HW.out.blk 0 rfl) 0
    have c1 := cells_of (HW.out.blk 0 rfl) 1
    have c2 := cells_of (HW.out.blk 0 rfl) 2
    have fr := frees_of (HW.out.blk 0 rfl)
    have frk := fr 1
    by_cases hkl : P < T.length
    · skip
      have x1 : (P : Int) < (T.length : Int) := by omega
      have hks : P < (ba T).size := by rw [ba_size]; exact hkl
      go_upto_region 2 with (fail)
      go_still_tail 21, (by kernel_rfl)
      go_wp2_with fail
      refine (skip1_any L i ((ba T)[P]'hks) _ (HW.out.dr.blk 1 rfl)).mono ?_
      rintro e w1 ⟨rfl, hw1⟩
      obtain ⟨j, hj⟩ : ∃ j, skS i ((ba T)[P]'hks) = j := ⟨_, rfl⟩
      rw [hj] at hw1
      have HW1 := Lib.hid (show Bq w1 [.blk L #[.bool j] 4, .blk R #[.string (ba T), .int .i64 ((P : Int)), m] 43, .base (fun b => b = R ∨ b = L) w] from hw1 ▸ HW.out.dr.set (c := [.bool i]) 1 rfl 0 (.bool j) (by refine ⟨?_, ?_, trivial⟩ <;> (simp only [Fq.apart]; first | omega | (intro b h1 h2; omega) | (intro b h1 h2 h3; omega))))
      have HJ := Lib.hid hj
      clear HW hw1 hj c0 c1 c2 fr frk
      cases hq : skQ i ((ba T)[P]'hks) with
      | false =>
        have HE := Lib.hid (skip_stop hkl HS.out hq)
        clear hq
        have c0 := cells_of (HW1.out.blk 1 rfl) 0
        have c1 := cells_of (HW1.out.blk 1 rfl) 1
        have c2 := cells_of (HW1.out.blk 1 rfl) 2
        go_upto_region 4 with (fail)
        go_still_tail 9, (by kernel_rfl)
        go_wp2_with fail
        go_ret
        first | exact ⟨_, P, rfl, hP, hP2, HE.out, (HW1.out.dr.blk 1 rfl), HW1.out.dr.base 2 rfl⟩ | exact ⟨⟨_, rfl⟩, P, hP, hP2, HE.out, (HW1.out.dr.blk 1 rfl), HW1.out.dr.base 2 rfl⟩
      | true =>
        have HS2 := Lib.hid (show skipT j (T.drop (P + 1)) = rest from by rw [← HJ.out]; exact skip_step hkl HS.out hq)
        clear hq
        have c0 := cells_of (HW1.out.blk 1 rfl) 0
        have c1 := cells_of (HW1.out.blk 1 rfl) 1
        have c2 := cells_of (HW1.out.blk 1 rfl) 2
        have fr := frees_of (HW1.out.blk 1 rfl)
        have frk := fr 1
        go_wp2_with fail
        have ep : ((P + 1 : Nat) : Int) = (P : Int) + 1 := by omega
        have HF1 := Lib.hid (HW1.out.set (c := [.string (ba T), .int .i64 ((P : Int)), m]) 1 rfl 1 (.int .i64 ((P : Int) + 1)) (by refine ⟨?_, ?_, trivial⟩ <;> (simp only [Fq.apart]; first | omega | (intro b h1 h2; omega) | (intro b h1 h2 h3; omega))))
        clear HW1
        go_roundw
        case rel => exact ⟨P + 1, j, by omega, by omega, HS2, Lib.hid ⟨by rw [ep]; exact (HF1.out.blk 0 rfl), (HF1.out.blk 1 rfl), (HF1.out.base 2 rfl), trivial⟩⟩
        case measure =>
          have hat2 := atOf_of (p := P + 1) (show Sc R T (P + 1) m (w1.setCell ⟨R, 1, none⟩ (.int .i64 ((P : Int) + 1))) by unfold Sc; rw [ep]; exact (HF1.out.blk 0 rfl))
          rw [hat2, hat0]; omega
    · skip
      have HE := Lib.hid (skip_end (by omega) HS.out)
      have x1 : ¬ (P : Int) < (T.length : Int) := by omega
      go_upto_region 2 with (fail)
      refine wp_region_still_tail 21 (by kernel_rfl) (by kernel_rfl) ?_
      simp only [List.take_succ_cons, List.take_zero, List.drop_succ_cons, List.drop_zero]
      refine Shut.out ?_
      iterate 21 (refine stH_step (fun K hK => ?_); go_simp; refine hK _ ?_; clear hK K)
      refine stH_nil ?_
      have HW1 := Lib.hid (show Bq wr.drew [.blk R #[.string (ba T), .int .i64 ((P : Int)), m] 43, .blk L #[.bool i] 4, .base (fun b => b = R ∨ b = L) w] from HW.out.dr)
      go_upto_region 4 with (fail)
      clear c0 c1 c2 fr frk
      generalize wr.drew = w1 at HW1 ⊢
      have c0 := cells_of (HW1.out.blk 0 rfl) 0
      have c1 := cells_of (HW1.out.blk 0 rfl) 1
      have c2 := cells_of (HW1.out.blk 0 rfl) 2
      go_still_tail 9, (by kernel_rfl)
      go_wp2_with fail
      go_ret
      first | exact ⟨_, P, rfl, hP, hP2, HE.out, (HW1.out.dr.blk 0 rfl), HW1.out.dr.base 2 rfl⟩ | exact ⟨⟨_, rfl⟩, P, hP, hP2, HE.out, (HW1.out.dr.blk 0 rfl), HW1.out.dr.base 2 rfl⟩
set_option maxRecDepth 100000 in
theorem skip_any (R : Nat) (T : List UInt8) (p : Nat) (m : Value) (w : World) (hr : Sc R T p m w) (hT : T.length ≤ 1000000000000) (hp : p ≤ T.length) :
    Calls Tryz.prog 25 #[.pointer (some ⟨R, 0, none⟩)] w fun e w' => e = .returned (.tuple #[]) ∧ ∃ P : Nat, p ≤ P ∧ P ≤ T.length ∧ T.drop P = skipT false (T.drop p) ∧ Sc R T P m w' ∧ Ch (fun b => b = R) w w' := by
  have hRw : R < w.heap.size := lt_of_block hr
  have HR := Lib.hid (run_k w.heap.size R (by omega) T p m (w.alloc (.cells #[.bool false] 4 (0, 0))) (heap_after hr _) (heap_alloc_new _ _) hT hp)
  clear hr hT hp
  go_enter Tryz.func25, Tryz.ntmps25
  go_wp2_with fail
  refine HR.out.mono ?_
  rintro e w1 ⟨s, P, rfl, h1, h2, h3, h4, h5⟩
  have H3 := Lib.hid h3
  have H4 := Lib.hid h4
  have H5 := Lib.hid (show Ch (fun b => b = R) w w1 from Ch.trans (Ch.of_below (C := fun _ => False) (below_alloc w _)) h5 fun i hi he => ⟨fun h => h, by omega⟩)
  clear h3 h4 h5
  go_wp2_with fail
  go_end0
  exact ⟨rfl, P, h1, h2, H3.out, H4.out, H5.out⟩
end Go.Proofs.YtmcnhggpmlhgeaaGreatDoor
namespace Go.Proofs.YtmcnhggpmlhgeaaGreatDoor
open Go.RowKit Go.Maps Go.WideMaps
theorem token_size : (Tryz.prog.info? 36).map (·.size) = some 4 := by kernel_rfl
theorem results_tok {fn : Func} {p u : Tmp} (h : fn.results = #[.cell p 36, .tmp u]) (tmps : Array Value) (w : World) (g : Nat) (a0 a1 a2 a3 : Value)
    (hp : tmps.getD p undef = .pointer (some ⟨g, 0, none⟩)) (hg : w.heap[g]? = some (.cells #[a0, a1, a2, a3] 36 (0, 0))) :
    (results fn tmps).run Tryz.prog w = .ok (.tuple #[.agg #[a0, a1, a2, a3], tmps.getD u undef]) w := by
  rw [results_cell_tmp h, hp]
  have hl := run_loadVar_row (P := Tryz.prog) w g _ 36 _ _ _ hg Tryz.underlying36 rfl token_size
  simp only [asAddr, Sem.run_pure, Result.andThen_ok, hl]
/-- what a token's reader answers, as a value -/
def tokV : TR → Value
  | .bad e => .tuple #[.agg #[.int .i64 0, .string ⟨#[]⟩, .int .u64 0, .int .i64 0], .int .i64 e]
  | .tok k tx n _ => .tuple #[.agg #[.int .i64 k, .string (ba tx), .int .u64 (n : Int), .int .i64 0], .int .i64 0]
/-- what is left behind it -/
def restV (T : List UInt8) (P : Nat) : TR → Prop
  | .bad _ => True
  | .tok _ _ _ rest => T.drop P = rest
def TokP (tr : TR) (R : Nat) (T : List UInt8) (p : Nat) (m : Value) (w : World) (e : Ending) (w' : World) : Prop := e = .returned (tokV tr) ∧ ∃ P : Nat, p ≤ P ∧ P ≤ T.length ∧ restV T P tr ∧ Sc R T P m w' ∧ Ch (fun k => k = R) w w'
theorem drop_tw (q : UInt8 → Bool) (T : List UInt8) (p : Nat) : T.drop (p + ((T.drop p).takeWhile q).length) = (T.drop p).dropWhile q := by
  rw [← tw_drop q (T.drop p), List.drop_drop]
theorem tw_bound (q : UInt8 → Bool) {T : List UInt8} {p : Nat} (hp : p ≤ T.length) : p + ((T.drop p).takeWhile q).length ≤ T.length := by
  have h := tw_le q (T.drop p)
  rw [List.length_drop] at h; omega
set_option maxRecDepth 100000 in
set_option maxHeartbeats 4000000 in
theorem name_long (R : Nat) (T : List UInt8) (p : Nat) (b : Nat) (k : Int) (w : World) (hr : Sc R T p (.map (some b)) w) (hw : Wds b w) (hbR : ¬ b = R) (hT : T.length ≤ 1000000) (hp : p ≤ T.length) (hl : 32 < ((T.drop p).takeWhile namC).length) :
    Calls Tryz.prog 56 #[.pointer (some ⟨R, 0, none⟩), .int .i64 k] w (TokP (.bad 91) R T p (.map (some b)) w) := by
  have hb1 := tw_bound namC hp
  have hd1 := drop_tw namC T p
  have HD1 := Lib.hid hd1
  clear hd1
  have hln := tw_le namC (T.drop p)
  rw [List.length_drop] at hln
  have hRw : R < w.heap.size := lt_of_block hr
  obtain ⟨hbw, HKW⟩ : b < w.heap.size ∧ True := ⟨World.ownsMap.lt hw, trivial⟩
  have HF0 := Lib.hid (show Bq w [.blk R #[.string (ba T), .int .i64 ((p : Nat)), .map (some b)] 43, .any (fun k => k = b) (Wds b) (fun _ _ h hk hz => Wds.keep h hk hz), .base (fun k => k = R) w] from ⟨hr, hw, Ch.refl _ _, trivial⟩)
  clear hr hw HKW
  go_enter Tryz.func56, Tryz.ntmps56
  go_wp2_with fail
  have HF1 := Lib.hid (HF0.out.box #[.int .i64 0, .string ⟨#[]⟩, .int .u64 0, .int .i64 0] 36 (n := w.heap.size) (by rfl))
  clear HF0
  have hRun := run_t _ namC named_t R T p (.map (some b)) _ (HF1.out.blk 1 rfl) (by omega) hp
  generalize hwd : (T.drop p).takeWhile namC = wd at *
  have HWD := Lib.hid hwd
  clear hwd
  refine (hRun).mono ?_
  rintro e w1 ⟨rfl, hr, ho⟩
  have HF2 := Lib.hid (HF1.out.call 1 ho hr (by refine ⟨?_, ?_, ?_, trivial⟩ <;> (simp only [Fq.apart]; first | omega | (intro b h1 h2; omega) | (intro b h1 h2 h3; omega))))
  have hz1 : w.heap.size + 1 ≤ w1.heap.size := by have := ho.size; first | omega | (simp at this; omega)
  clear HF1 ho hr
  clear hRun
  have x1 : (32 : Int) < (wd.length : Int) := by omega
  have s1 : (ba wd).size = wd.length := ba_size _
  obtain ⟨c0, c1, c2, c3, fr⟩ := four_cells (HF2.out.blk 1 rfl)
  have hb0 := lt_of_block (HF2.out.blk 1 rfl)
  go_wp2_with fail
  have HF3 := Lib.hid (HF2.out.put 1 rfl (by refine ⟨?_, ?_, ?_, trivial⟩ <;> (simp only [Fq.apart]; first | omega | (intro b h1 h2; omega) | (intro b h1 h2 h3; omega))) (.int .i64 0) (.string ⟨#[]⟩) (.int .u64 0) (.int .i64 0))
  clear HF2
  refine bodyPost_ret (results_tok rfl _ _ _ _ _ _ _ rfl (HF3.out.blk 0 rfl)) rfl ?_
  exact ⟨rfl, p + wd.length, by omega, hb1, trivial, (HF3.out.blk 1 rfl), (HF3.out.base 3 rfl)⟩
set_option maxRecDepth 100000 in
set_option maxHeartbeats 4000000 in
theorem name_res (R : Nat) (T : List UInt8) (p : Nat) (b : Nat) (k : Int) (w : World) (hr : Sc R T p (.map (some b)) w) (hw : Wds b w) (hbR : ¬ b = R) (hT : T.length ≤ 1000000) (hp : p ≤ T.length) (hl : ¬ 32 < ((T.drop p).takeWhile namC).length) (hr2 : resB ((T.drop p).takeWhile namC) = true) :
    Calls Tryz.prog 56 #[.pointer (some ⟨R, 0, none⟩), .int .i64 k] w (TokP (.tok 5 ((T.drop p).takeWhile namC) 0 ((T.drop p).dropWhile namC)) R T p (.map (some b)) w) := by
  have HR2 := Lib.hid hr2
  clear hr2
  have hb1 := tw_bound namC hp
  have hd1 := drop_tw namC T p
  have HD1 := Lib.hid hd1
  clear hd1
  have hln := tw_le namC (T.drop p)
  rw [List.length_drop] at hln
  have hRw : R < w.heap.size := lt_of_block hr
  obtain ⟨hbw, HKW⟩ : b < w.heap.size ∧ True := ⟨World.ownsMap.lt hw, trivial⟩
  have HF0 := Lib.hid (show Bq w [.blk R #[.string (ba T), .int .i64 ((p : Nat)), .map (some b)] 43, .any (fun k => k = b) (Wds b) (fun _ _ h hk hz => Wds.keep h hk hz), .base (fun k => k = R) w] from ⟨hr, hw, Ch.refl _ _, trivial⟩)
  clear hr hw HKW
  go_enter Tryz.func56, Tryz.ntmps56
  go_wp2_with fail
  have HF1 := Lib.hid (HF0.out.box #[.int .i64 0, .string ⟨#[]⟩, .int .u64 0, .int .i64 0] 36 (n := w.heap.size) (by rfl))
  clear HF0
  have hRun := run_t _ namC named_t R T p (.map (some b)) _ (HF1.out.blk 1 rfl) (by omega) hp
  generalize hwd : (T.drop p).takeWhile namC = wd at *
  have HWD := Lib.hid hwd
  clear hwd
  refine (hRun).mono ?_
  rintro e w1 ⟨rfl, hr, ho⟩
  have HF2 := Lib.hid (HF1.out.call 1 ho hr (by refine ⟨?_, ?_, ?_, trivial⟩ <;> (simp only [Fq.apart]; first | omega | (intro b h1 h2; omega) | (intro b h1 h2 h3; omega))))
  have hz1 : w.heap.size + 1 ≤ w1.heap.size := by have := ho.size; first | omega | (simp at this; omega)
  clear HF1 ho hr
  clear hRun
  have x1 : ¬ (32 : Int) < (wd.length : Int) := by omega
  have s1 : (ba wd).size = wd.length := ba_size _
  obtain ⟨c0, c1, c2, c3, fr⟩ := four_cells (HF2.out.blk 1 rfl)
  have hb0 := lt_of_block (HF2.out.blk 1 rfl)
  have d0 := cells_of (HF2.out.blk 0 rfl) 0
  have d1 := cells_of (HF2.out.blk 0 rfl) 1
  have d2 := cells_of (HF2.out.blk 0 rfl) 2
  have HKy := Lib.hid (keyOf_string_mk Tryz.underlying9 (show (ba wd).size ≤ maxLen by rw [ba_size]; unfold maxLen; omega))
  have HM := Lib.hid (HF2.out.any 2 rfl)
  go_wp2_with (at_lookup; refine wpList_lookup_own_int _ rfl _ _ 40 rfl 9 3 .i64 lawS Tryz.underlying40 Tryz.underlying3 (zeroI _) b 24 _ rfl HM.out _ _ rfl HKy.out ?_; intro c hat hwc; (have hc : c = 1 := (wds_lit (s := wd) hat).trans (by rw [HR2.out]; rfl)); subst hc)
  have HF3 := Lib.hid (HF2.out.put 1 rfl (by refine ⟨?_, ?_, ?_, trivial⟩ <;> (simp only [Fq.apart]; first | omega | (intro b h1 h2; omega) | (intro b h1 h2 h3; omega))) (.int .i64 5) (.string (ba (wd))) (.int .u64 0) (.int .i64 0))
  clear HF2
  refine bodyPost_ret (results_tok rfl _ _ _ _ _ _ _ rfl (HF3.out.blk 0 rfl)) rfl ?_
  exact ⟨rfl, p + wd.length, by omega, hb1, HD1.out, (HF3.out.blk 1 rfl), (HF3.out.base 3 rfl)⟩
set_option maxRecDepth 100000 in
set_option maxHeartbeats 4000000 in
theorem name_no (R : Nat) (T : List UInt8) (p : Nat) (b : Nat) (k : Int) (w : World) (hr : Sc R T p (.map (some b)) w) (hw : Wds b w) (hbR : ¬ b = R) (hT : T.length ≤ 1000000) (hp : p ≤ T.length) (hl : ¬ 32 < ((T.drop p).takeWhile namC).length) (hr2 : resB ((T.drop p).takeWhile namC) = false) :
    Calls Tryz.prog 56 #[.pointer (some ⟨R, 0, none⟩), .int .i64 k] w (TokP (.tok k ((T.drop p).takeWhile namC) 0 ((T.drop p).dropWhile namC)) R T p (.map (some b)) w) := by
  have HR2 := Lib.hid hr2
  clear hr2
  have hb1 := tw_bound namC hp
  have hd1 := drop_tw namC T p
  have HD1 := Lib.hid hd1
  clear hd1
  have hln := tw_le namC (T.drop p)
  rw [List.length_drop] at hln
  have hRw : R < w.heap.size := lt_of_block hr
  obtain ⟨hbw, HKW⟩ : b < w.heap.size ∧ True := ⟨World.ownsMap.lt hw, trivial⟩
  have HF0 := Lib.hid (show Bq w [.blk R #[.string (ba T), .int .i64 ((p : Nat)), .map (some b)] 43, .any (fun k => k = b) (Wds b) (fun _ _ h hk hz => Wds.keep h hk hz), .base (fun k => k = R) w] from ⟨hr, hw, Ch.refl _ _, trivial⟩)
  clear hr hw HKW
  go_enter Tryz.func56, Tryz.ntmps56
  go_wp2_with fail
  have HF1 := Lib.hid (HF0.out.box #[.int .i64 0, .string ⟨#[]⟩, .int .u64 0, .int .i64 0] 36 (n := w.heap.size) (by rfl))
  clear HF0
  have hRun := run_t _ namC named_t R T p (.map (some b)) _ (HF1.out.blk 1 rfl) (by omega) hp
  generalize hwd : (T.drop p).takeWhile namC = wd at *
  have HWD := Lib.hid hwd
  clear hwd
  refine (hRun).mono ?_
  rintro e w1 ⟨rfl, hr, ho⟩
  have HF2 := Lib.hid (HF1.out.call 1 ho hr (by refine ⟨?_, ?_, ?_, trivial⟩ <;> (simp only [Fq.apart]; first | omega | (intro b h1 h2; omega) | (intro b h1 h2 h3; omega))))
  have hz1 : w.heap.size + 1 ≤ w1.heap.size := by have := ho.size; first | omega | (simp at this; omega)
  clear HF1 ho hr
  clear hRun
  have x1 : ¬ (32 : Int) < (wd.length : Int) := by omega
  have s1 : (ba wd).size = wd.length := ba_size _
  obtain ⟨c0, c1, c2, c3, fr⟩ := four_cells (HF2.out.blk 1 rfl)
  have hb0 := lt_of_block (HF2.out.blk 1 rfl)
  have d0 := cells_of (HF2.out.blk 0 rfl) 0
  have d1 := cells_of (HF2.out.blk 0 rfl) 1
  have d2 := cells_of (HF2.out.blk 0 rfl) 2
  have HKy := Lib.hid (keyOf_string_mk Tryz.underlying9 (show (ba wd).size ≤ maxLen by rw [ba_size]; unfold maxLen; omega))
  have HM := Lib.hid (HF2.out.any 2 rfl)
  go_wp2_with (at_lookup; refine wpList_lookup_own_int _ rfl _ _ 40 rfl 9 3 .i64 lawS Tryz.underlying40 Tryz.underlying3 (zeroI _) b 24 _ rfl HM.out _ _ rfl HKy.out ?_; intro c hat hwc; (have hc : c = 0 := (wds_lit (s := wd) hat).trans (by rw [HR2.out]; rfl)); subst hc)
  have HF3 := Lib.hid (HF2.out.put 1 rfl (by refine ⟨?_, ?_, ?_, trivial⟩ <;> (simp only [Fq.apart]; first | omega | (intro b h1 h2; omega) | (intro b h1 h2 h3; omega))) (.int .i64 (k)) (.string (ba (wd))) (.int .u64 0) (.int .i64 0))
  clear HF2
  refine bodyPost_ret (results_tok rfl _ _ _ _ _ _ _ rfl (HF3.out.blk 0 rfl)) rfl ?_
  exact ⟨rfl, p + wd.length, by omega, hb1, HD1.out, (HF3.out.blk 1 rfl), (HF3.out.base 3 rfl)⟩
end Go.Proofs.YtmcnhggpmlhgeaaGreatDoor
