/-
  Walks: the signs of lex. (Printed by gen_lxg.py.) Walks: the scanner of lex: quoted. (Printed by gen_lxh.py.) The scanner of lex: name and number, all cases together. Walks: the scanner of lex: token, where it calls name, number, quoted. (Printed by gen_lxj.py.) The scanner of lex: token, where a sign stands: plain facts. Walks: the scanner of lex: token, where a sign stands. (Printed by gen_lxl.py.)
-/
import Derived.Test.YtmcnhggpmlhgeaaGreatDoorLxF
namespace Go.Proofs.YtmcnhggpmlhgeaaGreatDoor
open Go.RowKit
def eightB (x : List UInt8) : Bool := sign3.contains x || sign2.contains x
def signD : Nat → List UInt8 → Nat
  | 0, _ => 0
  | n + 1, s => if eightB (s.take (n + 1)) = true then n + 1 else if n = 0 ∧ sign1.contains (s.headD 0) = true then 1 else signD n s
theorem signD_eq (s : List UInt8) : signD (min 3 s.length) s = signN s := by
  match s with
  | [] => simp [signD, signN, sign3, sign2]
  | [a] => simp [signD, signN, eightB, sign3, sign2]
  | [a, b] => simp [signD, signN, eightB, sign3, sign2]
  | a :: b :: c :: r =>
    have e : min 3 (a :: b :: c :: r).length = 3 := by simp only [List.length_cons]; omega
    rw [e]
    simp [signD, signN, eightB, sign3, sign2]
theorem signD_yes {n : Nat} {T : List UInt8} {v : Nat} (h : signD (n + 1) T = v) (q : eightB (T.take (n + 1)) = true) : v = n + 1 := by rw [← h, signD, if_pos q]
theorem signD_no {n : Nat} {T : List UInt8} {v : Nat} (h : signD (n + 1) T = v) (q : eightB (T.take (n + 1)) = false) (q2 : ¬ (n = 0 ∧ sign1.contains (T.headD 0) = true)) : signD n T = v := by rw [← h, signD, if_neg (by rw [q]; exact Bool.noConfusion), if_neg q2]
theorem signD_one {T : List UInt8} {v : Nat} (h : signD 1 T = v) (q : eightB (T.take 1) = false) (q2 : sign1.contains (T.headD 0) = true) : v = 1 := by rw [← h, signD, if_neg (by rw [q]; exact Bool.noConfusion), if_pos ⟨rfl, q2⟩]
theorem sign1_index (c : UInt8) : decide (0 ≤ Lib.indexByte sign1 c) = sign1.contains c := by
  have h : ∀ k : Fin 256, decide (0 ≤ Lib.indexByte sign1 (UInt8.ofNat k.val)) = sign1.contains (UInt8.ofNat k.val) := by decide +kernel
  have := h ⟨c.toNat, c.toNat_lt⟩
  simpa using this
theorem extract_one {T : List UInt8} (h : 0 < T.length) : (ba T).extract 0 1 = ⟨#[T.headD 0]⟩ := by
  cases T with
  | nil => exact absurd h (Nat.lt_irrefl _)
  | cons c r => rw [extract_ba]; rfl
set_option maxRecDepth 100000 in
set_option maxHeartbeats 4000000 in
theorem sign_any (T : List UInt8) (w : World) (hT : T.length ≤ 1000000000000) :
    Calls Tryz.prog 43 #[.string (ba T)] w fun e w' => e = .returned (.int .i64 (signN T : Int)) ∧ w' = w := by
  have s1 : ((ba T).size : Int) = (T.length : Int) := by rw [ba_size]
  have s2 : (ba T).size = T.length := by rw [ba_size]
  obtain ⟨M, hM⟩ : ∃ M, M = min 3 T.length := ⟨_, rfl⟩
  have HE := Lib.hid (show signD M T = signN T from by rw [hM]; exact signD_eq T)
  have hM3 : M ≤ 3 := by omega
  have hML : M ≤ T.length := by omega
  have hmin : min (3 : Int) (T.length : Int) = (M : Int) := by omega
  have hmin2 : min 3 T.length = M := by omega
  clear hM
  go_enter Tryz.func43, Tryz.ntmps43
  go_wp2_with fail
  clear hmin hmin2
  go_loopw [3] (fun v wr => ∃ n : Nat, n ≤ M ∧ v = .int .i64 (n : Int) ∧ Hid (signD n T = signN T) ∧ wr = w) (fun v wr => (match v with | .int _ n => n.toNat | _ => 0))
  case atStart => exact ⟨M, Nat.le_refl _, by first | rfl | simp [hmin], HE, rfl⟩
  case round =>
    obtain ⟨n, hn, rfl, HS, rfl⟩ := hrel
    cases n with
    | zero =>
      go_wp2_with fail
      go_ret
      exact ⟨by rw [← HS.out]; rfl, rfl⟩
    | succ n =>
      have x1 : (0 : Int) < ((n + 1 : Nat) : Int) := by omega
      have e0 : ((ba T).extract 0 (n + 1)).toList = T.take (n + 1) := by rw [extract_ba, ba_toList]; rfl
      have HE0 := Lib.hid e0
      clear e0
      rcases Bool.eq_false_or_eq_true (T.take (n + 1) == ([61, 58, 61] : List UInt8)) with q0 | q0
      · have t0 : (((ba T).extract 0 (n + 1)).toList == ([61, 58, 61] : List UInt8)) = true := by rw [HE0.out]; exact q0
        have HV := Lib.hid (show Ending.returned (.int .i64 ((n + 1 : Nat) : Int)) = Ending.returned (.int .i64 (signN T : Int)) from by rw [signD_yes HS.out (by rw [eq_of_beq q0]; rfl)])
        clear q0
        go_wp2_with fail
        all_goals (try (exfalso; omega))
        go_ret
        exact ⟨HV.out, rfl⟩
      have t0 : (((ba T).extract 0 (n + 1)).toList == ([61, 58, 61] : List UInt8)) = false := by rw [HE0.out]; exact q0
      have HQ0 := Lib.hid q0
      clear q0
      rcases Bool.eq_false_or_eq_true (T.take (n + 1) == ([61, 47, 61] : List UInt8)) with q1 | q1
      · have t1 : (((ba T).extract 0 (n + 1)).toList == ([61, 47, 61] : List UInt8)) = true := by rw [HE0.out]; exact q1
        have HV := Lib.hid (show Ending.returned (.int .i64 ((n + 1 : Nat) : Int)) = Ending.returned (.int .i64 (signN T : Int)) from by rw [signD_yes HS.out (by rw [eq_of_beq q1]; rfl)])
        clear q1
        go_wp2_with fail
        all_goals (try (exfalso; omega))
        go_ret
        exact ⟨HV.out, rfl⟩
      have t1 : (((ba T).extract 0 (n + 1)).toList == ([61, 47, 61] : List UInt8)) = false := by rw [HE0.out]; exact q1
      have HQ1 := Lib.hid q1
      clear q1
      rcases Bool.eq_false_or_eq_true (T.take (n + 1) == ([45, 62] : List UInt8)) with q2 | q2
      · have t2 : (((ba T).extract 0 (n + 1)).toList == ([45, 62] : List UInt8)) = true := by rw [HE0.out]; exact q2
        have HV := Lib.hid (show Ending.returned (.int .i64 ((n + 1 : Nat) : Int)) = Ending.returned (.int .i64 (signN T : Int)) from by rw [signD_yes HS.out (by rw [eq_of_beq q2]; rfl)])
        clear q2
        go_wp2_with fail
        all_goals (try (exfalso; omega))
        go_ret
        exact ⟨HV.out, rfl⟩
      have t2 : (((ba T).extract 0 (n + 1)).toList == ([45, 62] : List UInt8)) = false := by rw [HE0.out]; exact q2
      have HQ2 := Lib.hid q2
      clear q2
      rcases Bool.eq_false_or_eq_true (T.take (n + 1) == ([43, 43] : List UInt8)) with q3 | q3
      · have t3 : (((ba T).extract 0 (n + 1)).toList == ([43, 43] : List UInt8)) = true := by rw [HE0.out]; exact q3
        have HV := Lib.hid (show Ending.returned (.int .i64 ((n + 1 : Nat) : Int)) = Ending.returned (.int .i64 (signN T : Int)) from by rw [signD_yes HS.out (by rw [eq_of_beq q3]; rfl)])
        clear q3
        go_wp2_with fail
        all_goals (try (exfalso; omega))
        go_ret
        exact ⟨HV.out, rfl⟩
      have t3 : (((ba T).extract 0 (n + 1)).toList == ([43, 43] : List UInt8)) = false := by rw [HE0.out]; exact q3
      have HQ3 := Lib.hid q3
      clear q3
      rcases Bool.eq_false_or_eq_true (T.take (n + 1) == ([60, 60] : List UInt8)) with q4 | q4
      · have t4 : (((ba T).extract 0 (n + 1)).toList == ([60, 60] : List UInt8)) = true := by rw [HE0.out]; exact q4
        have HV := Lib.hid (show Ending.returned (.int .i64 ((n + 1 : Nat) : Int)) = Ending.returned (.int .i64 (signN T : Int)) from by rw [signD_yes HS.out (by rw [eq_of_beq q4]; rfl)])
        clear q4
        go_wp2_with fail
        all_goals (try (exfalso; omega))
        go_ret
        exact ⟨HV.out, rfl⟩
      have t4 : (((ba T).extract 0 (n + 1)).toList == ([60, 60] : List UInt8)) = false := by rw [HE0.out]; exact q4
      have HQ4 := Lib.hid q4
      clear q4
      rcases Bool.eq_false_or_eq_true (T.take (n + 1) == ([62, 62] : List UInt8)) with q5 | q5
      · have t5 : (((ba T).extract 0 (n + 1)).toList == ([62, 62] : List UInt8)) = true := by rw [HE0.out]; exact q5
        have HV := Lib.hid (show Ending.returned (.int .i64 ((n + 1 : Nat) : Int)) = Ending.returned (.int .i64 (signN T : Int)) from by rw [signD_yes HS.out (by rw [eq_of_beq q5]; rfl)])
        clear q5
        go_wp2_with fail
        all_goals (try (exfalso; omega))
        go_ret
        exact ⟨HV.out, rfl⟩
      have t5 : (((ba T).extract 0 (n + 1)).toList == ([62, 62] : List UInt8)) = false := by rw [HE0.out]; exact q5
      have HQ5 := Lib.hid q5
      clear q5
      rcases Bool.eq_false_or_eq_true (T.take (n + 1) == ([61, 60] : List UInt8)) with q6 | q6
      · have t6 : (((ba T).extract 0 (n + 1)).toList == ([61, 60] : List UInt8)) = true := by rw [HE0.out]; exact q6
        have HV := Lib.hid (show Ending.returned (.int .i64 ((n + 1 : Nat) : Int)) = Ending.returned (.int .i64 (signN T : Int)) from by rw [signD_yes HS.out (by rw [eq_of_beq q6]; rfl)])
        clear q6
        go_wp2_with fail
        all_goals (try (exfalso; omega))
        go_ret
        exact ⟨HV.out, rfl⟩
      have t6 : (((ba T).extract 0 (n + 1)).toList == ([61, 60] : List UInt8)) = false := by rw [HE0.out]; exact q6
      have HQ6 := Lib.hid q6
      clear q6
      rcases Bool.eq_false_or_eq_true (T.take (n + 1) == ([62, 61] : List UInt8)) with q7 | q7
      · have t7 : (((ba T).extract 0 (n + 1)).toList == ([62, 61] : List UInt8)) = true := by rw [HE0.out]; exact q7
        have HV := Lib.hid (show Ending.returned (.int .i64 ((n + 1 : Nat) : Int)) = Ending.returned (.int .i64 (signN T : Int)) from by rw [signD_yes HS.out (by rw [eq_of_beq q7]; rfl)])
        clear q7
        go_wp2_with fail
        all_goals (try (exfalso; omega))
        go_ret
        exact ⟨HV.out, rfl⟩
      have t7 : (((ba T).extract 0 (n + 1)).toList == ([62, 61] : List UInt8)) = false := by rw [HE0.out]; exact q7
      have HQ7 := Lib.hid q7
      clear q7
      have HN := Lib.hid (show eightB (T.take (n + 1)) = false from by simp only [eightB, sign3, sign2, List.contains_cons, List.contains_nil, HQ0.out, HQ1.out, HQ2.out, HQ3.out, HQ4.out, HQ5.out, HQ6.out, HQ7.out, Bool.or_false])
      clear HQ0 HQ1 HQ2 HQ3 HQ4 HQ5 HQ6 HQ7
      cases n with
      | zero =>
        have hT0 : 0 < T.length := by omega
        go_wp2_with fail
        all_goals (try (exfalso; omega))
        refine (show Calls Tryz.prog 70 #[.string ⟨#[40, 41, 91, 93, 123, 125, 44, 59, 46, 58, 47, 124, 33, 61, 43, 45, 42, 60, 62]⟩, .string ((ba T).extract 0 1)] wr (fun e w' => e = .returned (.bool (sign1.contains (T.headD 0))) ∧ w' = wr) from by rw [extract_one hT0, ← sign1_index]; exact Tryz.strings_Contains_one _ _ _).mono ?_
        rintro e w' ⟨rfl, rfl⟩
        obtain ⟨b, hb⟩ : ∃ b, sign1.contains (T.headD 0) = b := ⟨_, rfl⟩
        have HB := Lib.hid hb
        rw [hb]
        clear hb
        have HO : b = true → Ending.returned (.int .i64 1) = Ending.returned (.int .i64 (signN T : Int)) := fun hb => by rw [signD_one HS.out HN.out (by rw [HB.out]; exact hb)]; rfl
        cases b
        · go_wp2_with fail
          all_goals (try (exfalso; omega))
          go_roundw
          · exact ⟨0, by omega, rfl, Lib.hid (signD_no HS.out HN.out (fun h => by rw [HB.out] at h; exact absurd h.2 Bool.noConfusion)), trivial⟩
          · show (0 : Int).toNat < ((0 + 1 : Nat) : Int).toNat; decide
        · have HO2 := Lib.hid (HO rfl)
          clear HO
          go_wp2_with fail
          all_goals (try (exfalso; omega))
          go_ret
          exact ⟨HO2.out, rfl⟩
      | succ n =>
        have x3 : (((n + 1 + 1 : Nat) : Int) == 1) = false := by simp; omega
        go_wp2_with fail
        all_goals (try (exfalso; omega))
        go_roundw
        · exact ⟨n + 1, by omega, by simp, Lib.hid (signD_no HS.out HN.out (fun h => absurd h.1 (Nat.succ_ne_zero _))), trivial⟩
        · simp; omega
end Go.Proofs.YtmcnhggpmlhgeaaGreatDoor
namespace Go.Proofs.YtmcnhggpmlhgeaaGreatDoor
open Go.RowKit
theorem Wr.fresh (w : World) : Wr w.heap.size w.heap.size [] (w.alloc (.cells #[.pointer none, .slice none 0 0] 52 (0, 0))) :=
  .inl ⟨Nat.le_refl _, .slice none 0 0, heap_alloc_new _ _, ⟨by simp [Lib.byteCells], .inl ⟨rfl, rfl⟩⟩, by simp [Value.ownBlock]⟩
theorem Wr.keepS {B b : Nat} {bs : List UInt8} {w w' : World} (h : Wr B b bs w) (hk : ∀ k, B ≤ k → k < w.heap.size → w'.heap[k]? = w.heap[k]?) : Wr B b bs w' := by
  have aux : ∀ {p : Value}, Lib.BuilderAtF 52 5 B b p (Lib.byteCells bs) w → Lib.BuilderAtF 52 5 B b p (Lib.byteCells bs) w' := by
    rintro p ⟨hB, v, hb, hown, hne⟩
    refine ⟨hB, v, (hk b hB (Array.getElem?_eq_some_iff.1 hb).1).trans hb, ⟨hown.1, ?_⟩, hne⟩
    rcases hown.2 with hn | ⟨g, cap, cur, fz, hv, hbg, hg, rest⟩
    · exact .inl hn
    · exact .inr ⟨g, cap, cur, fz, hv, hbg, (hk g hbg (Array.getElem?_eq_some_iff.1 hg).1).trans hg, rest⟩
  exact h.elim (fun x => .inl (aux x)) (fun x => .inr (aux x))
/-- a writer as a fact of the book -/
def WrQ (B : Nat) (acc : List UInt8) : Fq := .any (fun k => B ≤ k) (Wr B B acc) (fun _ _ h hk _ => h.keepS hk)
def quoE : Option (List UInt8 × List UInt8) → TR
  | none => .bad 93
  | some z => .tok 4 z.1 0 z.2
def preQ (acc : List UInt8) (q : Option (List UInt8 × List UInt8)) : Option (List UInt8 × List UInt8) := q.map fun z => (acc ++ z.1, z.2)
theorem preQ_map (acc : List UInt8) (d : UInt8) (q : Option (List UInt8 × List UInt8)) : preQ acc (q.map fun z => (d :: z.1, z.2)) = preQ (acc ++ [d]) q := by
  cases q <;> simp [preQ]
variable {Q : Option (List UInt8 × List UInt8)} {acc T : List UInt8} {P : Nat}
theorem q_end (h : Q = preQ acc (quoT (T.drop P))) (hP : T.length ≤ P) : Q = none := by
  rw [List.drop_of_length_le hP] at h; exact h
theorem quo34 {c : UInt8} (r : List UInt8) (h : c.toNat = 34) : quoT (c :: r) = some ([], r) := by rw [quoT.eq_def]; simp [h]
theorem quobad {c : UInt8} (r : List UInt8) (h : ¬ c.toNat = 34) (hb : c.toNat < 32 ∨ 126 < c.toNat) : quoT (c :: r) = none := by rw [quoT.eq_def]; simp [h, hb]
theorem quo92nil {c : UInt8} (h : c.toNat = 92) : quoT [c] = none := by rw [quoT.eq_def]; simp [h]
theorem quo92self {c d : UInt8} (r : List UInt8) (h : c.toNat = 92) (hd : d.toNat = 92 ∨ d.toNat = 34) : quoT (c :: d :: r) = (quoT r).map fun z => (d :: z.1, z.2) := by rw [quoT.eq_def]; simp [h, hd]
theorem quo92line {c d : UInt8} (r : List UInt8) (h : c.toNat = 92) (hd : d.toNat = 110) : quoT (c :: d :: r) = (quoT r).map fun z => (10 :: z.1, z.2) := by rw [quoT.eq_def]; simp [h, hd]
theorem quo92bad {c d : UInt8} (r : List UInt8) (h : c.toNat = 92) (hd : ¬ (d.toNat = 92 ∨ d.toNat = 34)) (hd2 : ¬ d.toNat = 110) : quoT (c :: d :: r) = none := by rw [quoT.eq_def]; simp [h, hd, hd2]
theorem quooth {c : UInt8} (r : List UInt8) (h : ¬ c.toNat = 34) (hb : ¬ (c.toNat < 32 ∨ 126 < c.toNat)) (h92 : ¬ c.toNat = 92) : quoT (c :: r) = (quoT r).map fun z => (c :: z.1, z.2) := by rw [quoT.eq_def]; simp only [if_neg h, if_neg hb, if_neg h92]
theorem q_quote {c : UInt8} (h : Q = preQ acc (quoT (T.drop P))) (hP : P < T.length) (hn : T[P] = c) (hc : c.toNat = 34) : Q = some (acc, T.drop (P + 1)) := by
  rw [List.drop_eq_getElem_cons hP, hn, quo34 _ hc] at h; rw [h]; simp [preQ]
theorem q_bad {c : UInt8} (h : Q = preQ acc (quoT (T.drop P))) (hP : P < T.length) (hn : T[P] = c) (hc : ¬ c.toNat = 34) (hb : c.toNat < 32 ∨ 126 < c.toNat) : Q = none := by
  rw [List.drop_eq_getElem_cons hP, hn, quobad _ hc hb] at h; exact h
theorem q_plain {c : UInt8} (h : Q = preQ acc (quoT (T.drop P))) (hP : P < T.length) (hn : T[P] = c) (hc : ¬ c.toNat = 34) (hb : ¬ (c.toNat < 32 ∨ 126 < c.toNat)) (h92 : ¬ c.toNat = 92) : Q = preQ (acc ++ [c]) (quoT (T.drop (P + 1))) := by
  rw [List.drop_eq_getElem_cons hP, hn, quooth _ hc hb h92, preQ_map] at h; exact h
theorem q_esc_end {c : UInt8} (h : Q = preQ acc (quoT (T.drop P))) (hP : P < T.length) (hn : T[P] = c) (h92 : c.toNat = 92) (hE : ¬ P + 1 < T.length) : Q = none := by
  rw [List.drop_eq_getElem_cons hP, hn, List.drop_of_length_le (by omega), quo92nil h92] at h; exact h
theorem q_esc_self {c d : UInt8} (h : Q = preQ acc (quoT (T.drop P))) (hP : P < T.length) (hn : T[P] = c) (h92 : c.toNat = 92) (hE : P + 1 < T.length) (hm : T[P + 1] = d) (hd : d.toNat = 92 ∨ d.toNat = 34) : Q = preQ (acc ++ [d]) (quoT (T.drop (P + 2))) := by
  rw [List.drop_eq_getElem_cons hP, hn, List.drop_eq_getElem_cons hE, hm, quo92self _ h92 hd, preQ_map] at h; exact h
theorem q_esc_line {c d : UInt8} (h : Q = preQ acc (quoT (T.drop P))) (hP : P < T.length) (hn : T[P] = c) (h92 : c.toNat = 92) (hE : P + 1 < T.length) (hm : T[P + 1] = d) (hd : d.toNat = 110) : Q = preQ (acc ++ [10]) (quoT (T.drop (P + 2))) := by
  rw [List.drop_eq_getElem_cons hP, hn, List.drop_eq_getElem_cons hE, hm, quo92line _ h92 hd, preQ_map] at h; exact h
theorem q_esc_bad {c d : UInt8} (h : Q = preQ acc (quoT (T.drop P))) (hP : P < T.length) (hn : T[P] = c) (h92 : c.toNat = 92) (hE : P + 1 < T.length) (hm : T[P + 1] = d) (hd : ¬ (d.toNat = 92 ∨ d.toNat = 34)) (hd2 : ¬ d.toNat = 110) : Q = none := by
  rw [List.drop_eq_getElem_cons hP, hn, List.drop_eq_getElem_cons hE, hm, quo92bad _ h92 hd hd2] at h; exact h
theorem esc_index (d : UInt8) : Lib.indexByte [92, 34, 110] d = if d.toNat = 92 then 0 else if d.toNat = 34 then 1 else if d.toNat = 110 then 2 else -1 := by
  have h : ∀ k : Fin 256, Lib.indexByte [92, 34, 110] (UInt8.ofNat k.val) = if k.val = 92 then 0 else if k.val = 34 then 1 else if k.val = 110 then 2 else -1 := by decide +kernel
  have := h ⟨d.toNat, d.toNat_lt⟩
  simpa using this
theorem esc_call (d : UInt8) (k : Int) (hk : (if d.toNat = 92 then 0 else if d.toNat = 34 then 1 else if d.toNat = 110 then 2 else -1) = k) (W : World) : Calls Tryz.prog 75 #[.string ⟨#[92, 34, 110]⟩, .int .u8 (d.toNat : Int)] W fun e w' => e = .returned (.int .i64 k) ∧ w' = W := by
  refine (Tryz.strings_IndexByte ⟨#[92, 34, 110]⟩ (d.toNat : Int) W).mono ?_
  rintro e w' ⟨rfl, rfl⟩
  refine ⟨?_, rfl⟩
  rw [← hk, ← esc_index]
  simp
set_option maxRecDepth 100000 in
set_option maxHeartbeats 8000000 in
theorem quoted_any (R : Nat) (T : List UInt8) (p : Nat) (m : Value) (w : World) (hr : Sc R T p m w) (hT : T.length ≤ 1000000) (hp : p < T.length) :
    Calls Tryz.prog 59 #[.pointer (some ⟨R, 0, none⟩)] w (TokP (quoE (quoT (T.drop (p + 1)))) R T p m w) := by
  have s1 : ((ba T).size : Int) = (T.length : Int) := by rw [ba_size]
  have s2 : (ba T).size = T.length := by rw [ba_size]
  generalize hQ : quoT (T.drop (p + 1)) = Q
  have HQ0 := Lib.hid (show Q = preQ [] (quoT (T.drop (p + 1))) from by rw [hQ]; cases Q <;> simp [preQ])
  clear hQ
  have hRw : R < w.heap.size := lt_of_block hr
  have HA := Lib.hid (show Bq w [.blk R #[.string (ba T), .int .i64 ((p : Nat)), m] 43, .base (fun b => b = R) w] from ⟨hr, Ch.refl _ _, trivial⟩)
  clear hr
  go_enter Tryz.func59, Tryz.ntmps59
  go_upto_region 2 with (fail)
  have HA1 := Lib.hid (HA.out.box #[.int .i64 0, .string ⟨#[]⟩, .int .u64 0, .int .i64 0] 36 (n := w.heap.size) rfl)
  have HA2 := Lib.hid ((HA1.out.alloc (.cells #[.pointer none, .slice none 0 0] 52 (0, 0))).add (f := WrQ (w.heap.size + 1) []) (show Wr (w.heap.size + 1) (w.heap.size + 1) [] _ from by have h := Wr.fresh (w.alloc (.cells #[.int .i64 0, .string ⟨#[]⟩, .int .u64 0, .int .i64 0] 36 (0, 0))); simpa using h))
  clear HA HA1
  generalize (w.alloc (.cells #[.int .i64 0, .string ⟨#[]⟩, .int .u64 0, .int .i64 0] 36 (0, 0))).alloc (.cells #[.pointer none, .slice none 0 0] 52 (0, 0)) = w1 at HA2 ⊢
  have c0 := cells_of (HA2.out.blk 2 rfl) 0
  have c1 := cells_of (HA2.out.blk 2 rfl) 1
  have c2 := cells_of (HA2.out.blk 2 rfl) 2
  have fr := frees_of (HA2.out.blk 2 rfl)
  have frk := fr 1
  go_wp2_with fail
  clear c0 c1 c2 fr frk
  have HA3 := Lib.hid (HA2.out.set (c := [.string (ba T), .int .i64 (p : Int), m]) 2 rfl 1 (.int .i64 ((p : Int) + 1)) (by refine ⟨?_, ?_, ?_, trivial⟩ <;> (simp only [Fq.apart]; first | omega | (intro b h1 h2; omega) | (intro b h1; omega) | (intro b h1 h2 h3; omega))))
  clear HA2
  have ep0 : ((p + 1 : Nat) : Int) = (p : Int) + 1 := by omega
  go_loopw [] (fun wr => ∃ (P : Nat) (acc : List UInt8), p < P ∧ P ≤ T.length ∧ acc.length ≤ P ∧ Hid (Q = preQ acc (quoT (T.drop P))) ∧ Hid (Bq wr [WrQ (w.heap.size + 1) acc, .blk R #[.string (ba T), .int .i64 ((P : Int)), m] 43, .blk w.heap.size #[.int .i64 0, .string ⟨#[]⟩, .int .u64 0, .int .i64 0] 36, .base (fun b => b = R) w])) (fun wr => T.length - atOf R wr)
  case atStart => exact ⟨p + 1, [], by omega, by omega, Nat.zero_le _, HQ0, Lib.hid ⟨(HA3.out.get 1 rfl), by rw [ep0]; exact (HA3.out.blk 0 rfl), (HA3.out.blk 2 rfl), (HA3.out.base 3 rfl), trivial⟩⟩
  case round =>
    obtain ⟨P, acc, hP, hP2, hac, HQ, HW⟩ := hrel
    clear HA3 HQ0 ep0
    have hat0 := Lib.hid (atOf_of (p := P) (HW.out.blk 1 rfl))
    have hGw : w.heap.size < wr.heap.size := lt_of_block (HW.out.blk 2 rfl)
    by_cases hkl : P < T.length
    · skip
      have x1 : (P : Int) < (T.length : Int) := by omega
      have hks : P < (ba T).size := by rw [ba_size]; exact hkl
      go_upto_region 3 with (fail)
      have c0 := cells_of (HW.out.blk 1 rfl) 0
      have c1 := cells_of (HW.out.blk 1 rfl) 1
      have c2 := cells_of (HW.out.blk 1 rfl) 2
      go_still_tail 9, (by kernel_rfl)
      go_upto_region 5 with (fail)
      clear c0 c1 c2
      have HW1 := Lib.hid (HW.out.dr)
      clear HW
      generalize wr.drew = w2 at HW1 ⊢
      have c0 := cells_of (HW1.out.blk 1 rfl) 0
      have c1 := cells_of (HW1.out.blk 1 rfl) 1
      have c2 := cells_of (HW1.out.blk 1 rfl) 2
      go_still_tail 9, (by kernel_rfl)
      go_upto_region 6 with (fail)
      clear c0 c1 c2
      have HW2 := Lib.hid (HW1.out.dr)
      have HCv := Lib.hid (show (ba T)[P]'hks = T[P] from rfl)
      generalize (ba T)[P]'hks = c at HCv ⊢
      have HcT := Lib.hid (show T[P] = c from HCv.out.symm)
      clear HCv
      by_cases e34 : c.toNat = 34
      · skip
        have x34 : ((c.toNat : Int) == 34) = true := by simp; omega
        have HN := Lib.hid (q_quote HQ.out hkl HcT.out e34)
        clear e34
        have c0 := cells_of (HW2.out.blk 1 rfl) 0
        have c1 := cells_of (HW2.out.blk 1 rfl) 1
        have c2 := cells_of (HW2.out.blk 1 rfl) 2
        have fr := frees_of (HW2.out.blk 1 rfl)
        have frk := fr 1
        go_wp2_with fail
        clear c0 c1 c2 fr frk
        have HF1 := Lib.hid (HW2.out.set (c := [.string (ba T), .int .i64 (P : Int), m]) 1 rfl 1 (.int .i64 ((P : Int) + 1)) (by refine ⟨?_, ?_, ?_, trivial⟩ <;> (simp only [Fq.apart]; first | omega | (intro b h1 h2; omega) | (intro b h1; omega) | (intro b h1 h2 h3; omega))))
        clear HW2
        have hsz : (w.heap.size + 1) ≤ (w2.drew.setCell ⟨R, 1, none⟩ (.int .i64 ((P : Int) + 1))).heap.size := by have := lt_of_block (HF1.out.blk 2 rfl); omega
        refine (Tryz.Builder_String_any_f (w.heap.size + 1) (w.heap.size + 1) acc _ (HF1.out.any 1 rfl) hsz).mono ?_
        rintro e w5 ⟨rfl, hWr, hWb⟩
        have HF2 := Lib.hid ((HF1.out.del 1).move (Ch.of_belowB hWb) (by refine ⟨?_, ?_, ?_, trivial⟩ <;> (simp only [Fq.apart]; first | omega | (intro b h1 h2; omega) | (intro b h1; omega) | (intro b h1 h2 h3; omega))))
        clear HF1 hWr hWb hsz
        obtain ⟨d0, d1, d2, d3, fd⟩ := four_cells (HF2.out.blk 1 rfl)
        go_wp2_with fail
        have HE := Lib.hid (HF2.out.put 1 rfl (by refine ⟨?_, ?_, trivial⟩ <;> (simp only [Fq.apart]; first | omega | (intro b h1 h2; omega) | (intro b h1; omega) | (intro b h1 h2 h3; omega))) (.int .i64 4) (.string ⟨acc.toArray⟩) (.int .u64 0) (.int .i64 0))
        clear HF2
        refine bodyPost_ret (results_tok rfl _ _ _ _ _ _ _ rfl (HE.out.blk 0 rfl)) rfl ?_
        obtain rfl := HN.out
        exact ⟨rfl, P + 1, by omega, by omega, rfl, (show Sc R T (P + 1) m _ from by unfold Sc; rw [show ((P + 1 : Nat) : Int) = (P : Int) + 1 from by omega]; exact (HE.out.blk 1 rfl)), HE.out.base 2 rfl⟩
      have x34 : ((c.toNat : Int) == 34) = false := by simp; omega
      by_cases elo : c.toNat < 32
      · skip
        have x32 : (c.toNat : Int) < 32 := by omega
        have HN := Lib.hid (q_bad HQ.out hkl HcT.out e34 (by omega))
        clear e34 elo
        obtain ⟨d0, d1, d2, d3, fd⟩ := four_cells (HW1.out.blk 2 rfl)
        go_wp2_with fail
        all_goals (try (exfalso; omega))
        have HE := Lib.hid ((HW1.out.put 2 rfl (by refine ⟨?_, ?_, ?_, trivial⟩ <;> (simp only [Fq.apart]; first | omega | (intro b h1 h2; omega) | (intro b h1; omega) | (intro b h1 h2 h3; omega))) (.int .i64 0) (.string ⟨#[]⟩) (.int .u64 0) (.int .i64 0)).dr)
        clear HW2
        refine bodyPost_ret (results_tok rfl _ _ _ _ _ _ _ rfl (HE.out.blk 0 rfl)) rfl ?_
        obtain rfl := HN.out
        exact ⟨rfl, P, by omega, by omega, trivial, (HE.out.blk 2 rfl), HE.out.base 3 rfl⟩
      by_cases ehi : 126 < c.toNat
      · skip
        have x32 : ¬ (c.toNat : Int) < 32 := by omega
        have x126 : (126 : Int) < (c.toNat : Int) := by omega
        have HN := Lib.hid (q_bad HQ.out hkl HcT.out e34 (by omega))
        clear e34 ehi
        obtain ⟨d0, d1, d2, d3, fd⟩ := four_cells (HW1.out.blk 2 rfl)
        go_wp2_with fail
        all_goals (try (exfalso; omega))
        have HE := Lib.hid ((HW1.out.put 2 rfl (by refine ⟨?_, ?_, ?_, trivial⟩ <;> (simp only [Fq.apart]; first | omega | (intro b h1 h2; omega) | (intro b h1; omega) | (intro b h1 h2 h3; omega))) (.int .i64 0) (.string ⟨#[]⟩) (.int .u64 0) (.int .i64 0)).dr)
        clear HW2
        refine bodyPost_ret (results_tok rfl _ _ _ _ _ _ _ rfl (HE.out.blk 0 rfl)) rfl ?_
        obtain rfl := HN.out
        exact ⟨rfl, P, by omega, by omega, trivial, (HE.out.blk 2 rfl), HE.out.base 3 rfl⟩
      have x32 : ¬ (c.toNat : Int) < 32 := by omega
      have x126 : ¬ (126 : Int) < (c.toNat : Int) := by omega
      by_cases e92 : c.toNat = 92
      · skip
        have x92 : ((c.toNat : Int) == 92) = true := by simp; omega
        have H92 := Lib.hid e92
        clear e34 elo ehi e92
        have c0 := cells_of (HW2.out.blk 1 rfl) 0
        have c1 := cells_of (HW2.out.blk 1 rfl) 1
        have c2 := cells_of (HW2.out.blk 1 rfl) 2
        have fr := frees_of (HW2.out.blk 1 rfl)
        have frk := fr 1
        go_upto_region 14 with (fail)
        clear c0 c1 c2 fr frk
        have HF1 := Lib.hid ((HW1.out.set (c := [.string (ba T), .int .i64 (P : Int), m]) 1 rfl 1 (.int .i64 ((P : Int) + 1)) (by refine ⟨?_, ?_, ?_, trivial⟩ <;> (simp only [Fq.apart]; first | omega | (intro b h1 h2; omega) | (intro b h1; omega) | (intro b h1 h2 h3; omega)))).dr)
        clear HW2 HW1
        generalize (w2.setCell ⟨R, 1, none⟩ (.int .i64 ((P : Int) + 1))).drew = w4a at HF1 ⊢
        obtain ⟨P1, hP1⟩ : ∃ P1, P1 = P + 1 := ⟨_, rfl⟩
        have ha1 : P < P1 := by omega
        have ha2 : P1 ≤ P + 1 := by omega
        have HP1 := Lib.hid hP1
        have HF1b := Lib.hid (show Bq w4a [.blk R #[.string (ba T), .int .i64 ((P1 : Int)), m] 43, WrQ (w.heap.size + 1) acc, .blk w.heap.size #[.int .i64 0, .string ⟨#[]⟩, .int .u64 0, .int .i64 0] 36, .base (fun b => b = R) w] from by have h := HF1.out; rw [show (P : Int) + 1 = (P1 : Int) from by omega] at h; exact h)
        clear HF1 hP1
        by_cases hk2 : P1 < T.length
        · skip
          have x3 : (P1 : Int) < (T.length : Int) := by omega
          have hks2 : P1 < (ba T).size := by rw [ba_size]; exact hk2
          have c0 := cells_of (HF1b.out.blk 0 rfl) 0
          have c1 := cells_of (HF1b.out.blk 0 rfl) 1
          have c2 := cells_of (HF1b.out.blk 0 rfl) 2
          go_still_tail 9, (by kernel_rfl)
          go_upto_region 15 with (fail)
          clear c0 c1 c2
          have HF2 := Lib.hid (HF1b.out.dr)
          clear HF1b
          generalize w4a.drew = w5 at HF2 ⊢
          have c0 := cells_of (HF2.out.blk 0 rfl) 0
          have c1 := cells_of (HF2.out.blk 0 rfl) 1
          have c2 := cells_of (HF2.out.blk 0 rfl) 2
          go_still_tail 9, (by kernel_rfl)
          go_wp2_with fail
          clear c0 c1 c2
          have HF3 := Lib.hid HF2.out.dr
          clear HF2
          have HdT := Lib.hid (show T[P1] = (ba T)[P1]'hks2 from rfl)
          generalize (ba T)[P1]'hks2 = d at HdT ⊢
          by_cases d92 : d.toNat = 92
          · skip
            refine (esc_call d 0 (by simp [d92]) _).mono ?_
            rintro e w7 ⟨rfl, hw7⟩
            rw [← hw7] at HF3
            clear hw7
            have HN := Lib.hid (show Q = preQ (acc ++ [(92 : UInt8)]) (quoT (T.drop (P1 + 1))) from by have e := HP1.out; subst e; have h := q_esc_self HQ.out hkl HcT.out H92.out hk2 HdT.out (by omega); rw [show d = (92 : UInt8) from UInt8.toNat_inj.1 (by rw [d92]; rfl)] at h; exact h)
            clear d92
            go_wp2_with fail
            have hsz : (w.heap.size + 1) ≤ (w7).heap.size := by have := lt_of_block (HF3.out.blk 2 rfl); omega
            refine (WriteByte_any (w.heap.size + 1) (w.heap.size + 1) acc (92 : UInt8) _ (HF3.out.any 1 rfl) (by omega) hsz).mono ?_
            rintro e w8 ⟨rfl, hWr, hWk⟩
            have HB := Lib.hid (((HF3.out.del 1).move (Ch.of_belowB hWk.low) (by refine ⟨?_, ?_, ?_, trivial⟩ <;> (simp only [Fq.apart]; first | omega | (intro b h1 h2; omega) | (intro b h1; omega) | (intro b h1 h2 h3; omega)))).add (f := WrQ (w.heap.size + 1) (acc ++ [(92 : UInt8)])) hWr)
            clear HF3 hWr hWk hsz
            have c0 := cells_of (HB.out.blk 1 rfl) 0
            have c1 := cells_of (HB.out.blk 1 rfl) 1
            have c2 := cells_of (HB.out.blk 1 rfl) 2
            have fr := frees_of (HB.out.blk 1 rfl)
            have frk := fr 1
            go_wp2_with fail
            clear c0 c1 c2 fr frk
            have HC := Lib.hid (HB.out.set (c := [.string (ba T), .int .i64 ((P1 : Int)), m]) 1 rfl 1 (.int .i64 ((P1 : Int) + 1)) (by refine ⟨?_, ?_, ?_, trivial⟩ <;> (simp only [Fq.apart]; first | omega | (intro b h1 h2; omega) | (intro b h1; omega) | (intro b h1 h2 h3; omega))))
            clear HB
            have ep : ((P1 + 1 : Nat) : Int) = (P1 : Int) + 1 := by omega
            go_roundw
            case rel => exact ⟨P1 + 1, acc ++ [(92 : UInt8)], by omega, by omega, by simp only [List.length_append, List.length_cons, List.length_nil]; omega, Lib.hid (HN.out), Lib.hid ⟨(HC.out.get 1 rfl), by rw [ep]; exact (HC.out.blk 0 rfl), (HC.out.blk 2 rfl), (HC.out.base 3 rfl), trivial⟩⟩
            case measure =>
              have hat2 := atOf_of (p := P1 + 1) (show Sc R T (P1 + 1) m _ by unfold Sc; rw [ep]; exact (HC.out.blk 0 rfl))
              rw [hat2, hat0.out]; omega
          by_cases d34 : d.toNat = 34
          · skip
            refine (esc_call d 1 (by simp [d34]) _).mono ?_
            rintro e w7 ⟨rfl, hw7⟩
            rw [← hw7] at HF3
            clear hw7
            have HN := Lib.hid (show Q = preQ (acc ++ [(34 : UInt8)]) (quoT (T.drop (P1 + 1))) from by have e := HP1.out; subst e; have h := q_esc_self HQ.out hkl HcT.out H92.out hk2 HdT.out (by omega); rw [show d = (34 : UInt8) from UInt8.toNat_inj.1 (by rw [d34]; rfl)] at h; exact h)
            clear d34 d92
            go_wp2_with fail
            have hsz : (w.heap.size + 1) ≤ (w7).heap.size := by have := lt_of_block (HF3.out.blk 2 rfl); omega
            refine (WriteByte_any (w.heap.size + 1) (w.heap.size + 1) acc (34 : UInt8) _ (HF3.out.any 1 rfl) (by omega) hsz).mono ?_
            rintro e w8 ⟨rfl, hWr, hWk⟩
            have HB := Lib.hid (((HF3.out.del 1).move (Ch.of_belowB hWk.low) (by refine ⟨?_, ?_, ?_, trivial⟩ <;> (simp only [Fq.apart]; first | omega | (intro b h1 h2; omega) | (intro b h1; omega) | (intro b h1 h2 h3; omega)))).add (f := WrQ (w.heap.size + 1) (acc ++ [(34 : UInt8)])) hWr)
            clear HF3 hWr hWk hsz
            have c0 := cells_of (HB.out.blk 1 rfl) 0
            have c1 := cells_of (HB.out.blk 1 rfl) 1
            have c2 := cells_of (HB.out.blk 1 rfl) 2
            have fr := frees_of (HB.out.blk 1 rfl)
            have frk := fr 1
            go_wp2_with fail
            clear c0 c1 c2 fr frk
            have HC := Lib.hid (HB.out.set (c := [.string (ba T), .int .i64 ((P1 : Int)), m]) 1 rfl 1 (.int .i64 ((P1 : Int) + 1)) (by refine ⟨?_, ?_, ?_, trivial⟩ <;> (simp only [Fq.apart]; first | omega | (intro b h1 h2; omega) | (intro b h1; omega) | (intro b h1 h2 h3; omega))))
            clear HB
            have ep : ((P1 + 1 : Nat) : Int) = (P1 : Int) + 1 := by omega
            go_roundw
            case rel => exact ⟨P1 + 1, acc ++ [(34 : UInt8)], by omega, by omega, by simp only [List.length_append, List.length_cons, List.length_nil]; omega, Lib.hid (HN.out), Lib.hid ⟨(HC.out.get 1 rfl), by rw [ep]; exact (HC.out.blk 0 rfl), (HC.out.blk 2 rfl), (HC.out.base 3 rfl), trivial⟩⟩
            case measure =>
              have hat2 := atOf_of (p := P1 + 1) (show Sc R T (P1 + 1) m _ by unfold Sc; rw [ep]; exact (HC.out.blk 0 rfl))
              rw [hat2, hat0.out]; omega
          by_cases d110 : d.toNat = 110
          · skip
            refine (esc_call d 2 (by simp [d110]) _).mono ?_
            rintro e w7 ⟨rfl, hw7⟩
            rw [← hw7] at HF3
            clear hw7
            have HN := Lib.hid (show Q = preQ (acc ++ [(10 : UInt8)]) (quoT (T.drop (P1 + 1))) from by have e := HP1.out; subst e; exact q_esc_line HQ.out hkl HcT.out H92.out hk2 HdT.out d110)
            clear d110 d92 d34
            go_wp2_with fail
            have hsz : (w.heap.size + 1) ≤ (w7).heap.size := by have := lt_of_block (HF3.out.blk 2 rfl); omega
            refine (WriteByte_any (w.heap.size + 1) (w.heap.size + 1) acc (10 : UInt8) _ (HF3.out.any 1 rfl) (by omega) hsz).mono ?_
            rintro e w8 ⟨rfl, hWr, hWk⟩
            have HB := Lib.hid (((HF3.out.del 1).move (Ch.of_belowB hWk.low) (by refine ⟨?_, ?_, ?_, trivial⟩ <;> (simp only [Fq.apart]; first | omega | (intro b h1 h2; omega) | (intro b h1; omega) | (intro b h1 h2 h3; omega)))).add (f := WrQ (w.heap.size + 1) (acc ++ [(10 : UInt8)])) hWr)
            clear HF3 hWr hWk hsz
            have c0 := cells_of (HB.out.blk 1 rfl) 0
            have c1 := cells_of (HB.out.blk 1 rfl) 1
            have c2 := cells_of (HB.out.blk 1 rfl) 2
            have fr := frees_of (HB.out.blk 1 rfl)
            have frk := fr 1
            go_wp2_with fail
            clear c0 c1 c2 fr frk
            have HC := Lib.hid (HB.out.set (c := [.string (ba T), .int .i64 ((P1 : Int)), m]) 1 rfl 1 (.int .i64 ((P1 : Int) + 1)) (by refine ⟨?_, ?_, ?_, trivial⟩ <;> (simp only [Fq.apart]; first | omega | (intro b h1 h2; omega) | (intro b h1; omega) | (intro b h1 h2 h3; omega))))
            clear HB
            have ep : ((P1 + 1 : Nat) : Int) = (P1 : Int) + 1 := by omega
            go_roundw
            case rel => exact ⟨P1 + 1, acc ++ [(10 : UInt8)], by omega, by omega, by simp only [List.length_append, List.length_cons, List.length_nil]; omega, Lib.hid (HN.out), Lib.hid ⟨(HC.out.get 1 rfl), by rw [ep]; exact (HC.out.blk 0 rfl), (HC.out.blk 2 rfl), (HC.out.base 3 rfl), trivial⟩⟩
            case measure =>
              have hat2 := atOf_of (p := P1 + 1) (show Sc R T (P1 + 1) m _ by unfold Sc; rw [ep]; exact (HC.out.blk 0 rfl))
              rw [hat2, hat0.out]; omega
          refine (esc_call d (-1) (by simp [d92, d34, d110]) _).mono ?_
          rintro e w7 ⟨rfl, hw7⟩
          rw [← hw7] at HF3
          clear hw7
          have HN := Lib.hid (show Q = none from by have e := HP1.out; subst e; exact q_esc_bad HQ.out hkl HcT.out H92.out hk2 HdT.out (by omega) d110)
          clear d92 d34 d110
          obtain ⟨d0, d1, d2, d3, fd⟩ := four_cells (HF3.out.blk 2 rfl)
          go_wp2_with fail
          all_goals (try (exfalso; omega))
          have HE := Lib.hid (HF3.out.put 2 rfl (by refine ⟨?_, ?_, ?_, trivial⟩ <;> (simp only [Fq.apart]; first | omega | (intro b h1 h2; omega) | (intro b h1; omega) | (intro b h1 h2 h3; omega))) (.int .i64 0) (.string ⟨#[]⟩) (.int .u64 0) (.int .i64 0))
          clear HF3
          refine bodyPost_ret (results_tok rfl _ _ _ _ _ _ _ rfl (HE.out.blk 0 rfl)) rfl ?_
          obtain rfl := HN.out
          exact ⟨rfl, P1, by omega, by omega, trivial, (HE.out.blk 1 rfl), HE.out.base 3 rfl⟩
        have x3 : ((P1 : Int) < (T.length : Int)) = False := by apply eq_false; omega
        have x3n : (P1 < T.length) = False := by apply eq_false; omega
        have HN := Lib.hid (show Q = none from by have e := HP1.out; subst e; exact q_esc_end HQ.out hkl HcT.out H92.out hk2)
        clear hk2
        have c0 := cells_of (HF1b.out.blk 0 rfl) 0
        have c1 := cells_of (HF1b.out.blk 0 rfl) 1
        have c2 := cells_of (HF1b.out.blk 0 rfl) 2
        go_still_tail 9, (by kernel_rfl)
        go_upto_region 16 with (fail)
        clear c0 c1 c2
        have HF2 := Lib.hid (HF1b.out.dr)
        clear HF1b
        generalize w4a.drew = w5 at HF2 ⊢
        obtain ⟨d0, d1, d2, d3, fd⟩ := four_cells (HF2.out.blk 2 rfl)
        go_wp2_with fail
        all_goals (try (exfalso; omega))
        have HE := Lib.hid (HF2.out.put 2 rfl (by refine ⟨?_, ?_, ?_, trivial⟩ <;> (simp only [Fq.apart]; first | omega | (intro b h1 h2; omega) | (intro b h1; omega) | (intro b h1 h2 h3; omega))) (.int .i64 0) (.string ⟨#[]⟩) (.int .u64 0) (.int .i64 0))
        clear HF2
        refine bodyPost_ret (results_tok rfl _ _ _ _ _ _ _ rfl (HE.out.blk 0 rfl)) rfl ?_
        obtain rfl := HN.out
        exact ⟨rfl, P1, by omega, by omega, trivial, (HE.out.blk 1 rfl), HE.out.base 3 rfl⟩
      have x92 : ((c.toNat : Int) == 92) = false := by simp; omega
      have HN := Lib.hid (show Q = preQ (acc ++ [c]) (quoT (T.drop (P + 1))) from q_plain HQ.out hkl HcT.out e34 (by omega) e92)
      clear e34 elo ehi e92
      go_wp2_with fail
      all_goals (try (exfalso; omega))
      have hsz : (w.heap.size + 1) ≤ (w2.drew).heap.size := by have := lt_of_block (HW2.out.blk 2 rfl); omega
      refine (WriteByte_any (w.heap.size + 1) (w.heap.size + 1) acc c _ (HW2.out.any 0 rfl) (by omega) hsz).mono ?_
      rintro e w8 ⟨rfl, hWr, hWk⟩
      have HB := Lib.hid (((HW2.out.del 0).move (Ch.of_belowB hWk.low) (by refine ⟨?_, ?_, ?_, trivial⟩ <;> (simp only [Fq.apart]; first | omega | (intro b h1 h2; omega) | (intro b h1; omega) | (intro b h1 h2 h3; omega)))).add (f := WrQ (w.heap.size + 1) (acc ++ [c])) hWr)
      clear HW2 hWr hWk hsz
      have c0 := cells_of (HB.out.blk 1 rfl) 0
      have c1 := cells_of (HB.out.blk 1 rfl) 1
      have c2 := cells_of (HB.out.blk 1 rfl) 2
      have fr := frees_of (HB.out.blk 1 rfl)
      have frk := fr 1
      go_wp2_with fail
      clear c0 c1 c2 fr frk
      have HC := Lib.hid (HB.out.set (c := [.string (ba T), .int .i64 ((P : Int)), m]) 1 rfl 1 (.int .i64 ((P : Int) + 1)) (by refine ⟨?_, ?_, ?_, trivial⟩ <;> (simp only [Fq.apart]; first | omega | (intro b h1 h2; omega) | (intro b h1; omega) | (intro b h1 h2 h3; omega))))
      clear HB
      have ep : ((P + 1 : Nat) : Int) = (P : Int) + 1 := by omega
      go_roundw
      case rel => exact ⟨P + 1, acc ++ [c], by omega, by omega, by simp only [List.length_append, List.length_cons, List.length_nil]; omega, Lib.hid (HN.out), Lib.hid ⟨(HC.out.get 1 rfl), by rw [ep]; exact (HC.out.blk 0 rfl), (HC.out.blk 2 rfl), (HC.out.base 3 rfl), trivial⟩⟩
      case measure =>
        have hat2 := atOf_of (p := P + 1) (show Sc R T (P + 1) m _ by unfold Sc; rw [ep]; exact (HC.out.blk 0 rfl))
        rw [hat2, hat0.out]; omega
    · skip
      have x1 : ((P : Int) < (T.length : Int)) = False := by apply eq_false; omega
      have HN := Lib.hid (q_end HQ.out (by omega))
      go_upto_region 3 with (fail)
      have c0 := cells_of (HW.out.blk 1 rfl) 0
      have c1 := cells_of (HW.out.blk 1 rfl) 1
      have c2 := cells_of (HW.out.blk 1 rfl) 2
      go_still_tail 9, (by kernel_rfl)
      go_upto_region 20 with (fail)
      clear c0 c1 c2
      have HW1 := Lib.hid (HW.out.dr)
      clear HW
      generalize wr.drew = w2 at HW1 ⊢
      obtain ⟨d0, d1, d2, d3, fd⟩ := four_cells (HW1.out.blk 2 rfl)
      go_wp2_with fail
      all_goals (try (exfalso; omega))
      have HE := Lib.hid (HW1.out.put 2 rfl (by refine ⟨?_, ?_, ?_, trivial⟩ <;> (simp only [Fq.apart]; first | omega | (intro b h1 h2; omega) | (intro b h1; omega) | (intro b h1 h2 h3; omega))) (.int .i64 0) (.string ⟨#[]⟩) (.int .u64 0) (.int .i64 0))
      clear HW1
      refine bodyPost_ret (results_tok rfl _ _ _ _ _ _ _ rfl (HE.out.blk 0 rfl)) rfl ?_
      obtain rfl := HN.out
      exact ⟨rfl, P, by omega, by omega, trivial, (HE.out.blk 2 rfl), HE.out.base 3 rfl⟩
end Go.Proofs.YtmcnhggpmlhgeaaGreatDoor
namespace Go.Proofs.YtmcnhggpmlhgeaaGreatDoor
open Go.RowKit
theorem name_any (R : Nat) (T : List UInt8) (p : Nat) (b : Nat) (c : UInt8) (w : World) (hr : Sc R T p (.map (some b)) w) (hw : Wds b w) (hbR : ¬ b = R) (hT : T.length ≤ 1000000) (hp : p ≤ T.length) :
    Calls Tryz.prog 56 #[.pointer (some ⟨R, 0, none⟩), .int .i64 (if smallC c then 1 else 2)] w (TokP (nameT c (T.drop p)) R T p (.map (some b)) w) := by
  by_cases hl : 32 < ((T.drop p).takeWhile namC).length
  · rw [show nameT c (T.drop p) = .bad 91 from by unfold nameT; rw [if_pos hl]]
    exact name_long R T p b _ w hr hw hbR hT hp hl
  · cases h2 : resB ((T.drop p).takeWhile namC) with
    | true =>
      rw [show nameT c (T.drop p) = .tok 5 ((T.drop p).takeWhile namC) 0 ((T.drop p).dropWhile namC) from by unfold nameT; rw [if_neg hl, h2]; rfl]
      exact name_res R T p b _ w hr hw hbR hT hp hl h2
    | false =>
      rw [show nameT c (T.drop p) = .tok (if smallC c then 1 else 2) ((T.drop p).takeWhile namC) 0 ((T.drop p).dropWhile namC) from by unfold nameT; rw [if_neg hl, h2]; rfl]
      exact name_no R T p b _ w hr hw hbR hT hp hl h2
theorem numT_bad {s : List UInt8} (h : numOk (s.takeWhile numC) (s.dropWhile numC) = false) : numT s = .bad 92 := by
  unfold numT; simp only [h]; rfl
theorem numT_ok {s : List UInt8} (h : numOk (s.takeWhile numC) (s.dropWhile numC) = true) : numT s = .tok 3 [] (numV (s.takeWhile numC)) (s.dropWhile numC) := by
  unfold numT; simp only [h]; rfl
theorem numOk_great {x r : List UInt8} (h : ¬ numV x ≤ 9223372036854775808) : numOk x r = false := by unfold numOk; rw [decide_eq_false h]; rfl
theorem numOk_lead {x r : List UInt8} (h : 1 < x.length) (h2 : x.head? = some 48) : numOk x r = false := by unfold numOk; rw [decide_eq_true h, decide_eq_true h2]; simp
theorem numOk_rest {x r : List UInt8} (h : numV x ≤ 9223372036854775808) (h3 : ¬ (1 < x.length ∧ x.head? = some 48)) : numOk x r = !(match r with | c :: _ => namC c | [] => false) := by
  unfold numOk
  rw [decide_eq_true h, show (decide (1 < x.length) && decide (x.head? = some 48)) = false from by rw [← Bool.decide_and, decide_eq_false_iff_not]; exact h3]
  rfl
theorem number_any (R : Nat) (T : List UInt8) (p : Nat) (b : Nat) (w : World) (hr : Sc R T p (.map (some b)) w) (hw : Wds b w) (hbR : ¬ b = R) (hT : T.length ≤ 1000000) (hp : p ≤ T.length) (h0 : ((T.drop p).takeWhile numC) ≠ []) (hTb : Tb w) (h9 : 6 ≤ R) :
    Calls Tryz.prog 58 #[.pointer (some ⟨R, 0, none⟩)] w (TokP (numT (T.drop p)) R T p (.map (some b)) w) := by
  have hd := drop_tw numC T p
  have hb := tw_bound numC hp
  by_cases h1 : numV ((T.drop p).takeWhile numC) ≤ 18446744073709551615
  · by_cases h2 : numV ((T.drop p).takeWhile numC) ≤ 9223372036854775808
    · by_cases h3 : 1 < ((T.drop p).takeWhile numC).length ∧ ((T.drop p).takeWhile numC).head? = some 48
      · rw [numT_bad (numOk_lead h3.1 h3.2)]
        exact number_lead R T p b w hr hw hbR hT hp h2 h3.1 h3.2 h0
      · by_cases h4 : p + ((T.drop p).takeWhile numC).length = T.length
        · rw [numT_ok (by rw [numOk_rest h2 h3, ← hd, List.drop_of_length_le (by omega)]; rfl)]
          exact number_end R T p b w hr hw hbR hT hp h2 h3 h4 h0
        · have h5 : p + ((T.drop p).takeWhile numC).length < T.length := by omega
          have e : (match (T.drop p).dropWhile numC with | c :: _ => namC c | [] => false) = namC (T[p + ((T.drop p).takeWhile numC).length]) := by rw [← hd, List.drop_eq_getElem_cons h5]
          cases h6 : namC (T[p + ((T.drop p).takeWhile numC).length]) with
          | true =>
            rw [numT_bad (by rw [numOk_rest h2 h3, e, h6]; rfl)]
            exact number_named R T p b w hr hw hbR hT hp h2 h3 h5 h6 h0
          | false =>
            rw [numT_ok (by rw [numOk_rest h2 h3, e, h6]; rfl)]
            exact number_ok R T p b w hr hw hbR hT hp h2 h3 h5 h6 h0
    · rw [numT_bad (numOk_great h2)]
      exact number_big R T p b w hr hw hbR hT hp h1 (by omega) h0
  · rw [numT_bad (numOk_great (by omega))]
    exact number_er R T p b w hr hw hbR hT hp h1 h0 hTb h9
end Go.Proofs.YtmcnhggpmlhgeaaGreatDoor
namespace Go.Proofs.YtmcnhggpmlhgeaaGreatDoor
open Go.RowKit
set_option maxRecDepth 100000 in
set_option maxHeartbeats 8000000 in
theorem token_small (R : Nat) (T : List UInt8) (p : Nat) (b : Nat) (c : UInt8) (w : World) (hr : Sc R T p (.map (some b)) w) (hw : Wds b w) (hbR : ¬ b = R) (hT : T.length ≤ 1000000) (hp : p < T.length) (hc : T[p] = c) (h1 : 97 ≤ c.toNat) (h2 : c.toNat ≤ 122) (hTb : Tb w) (h9 : 6 ≤ R) :
    Calls Tryz.prog 26 #[.pointer (some ⟨R, 0, none⟩)] w (TokP (nameT c (T.drop p)) R T p (.map (some b)) w) := by
  generalize htr : nameT c (T.drop p) = tr
  have HTR := Lib.hid htr
  clear htr
  have s1 : ((ba T).size : Int) = (T.length : Int) := by rw [ba_size]
  have s2 : (ba T).size = T.length := by rw [ba_size]
  have hpi : (p : Int) < (T.length : Int) := by omega
  have hks : p < (ba T).size := by rw [ba_size]; exact hp
  have HTb := Lib.hid hTb
  clear hTb
  have HC := Lib.hid (show (ba T)[p]'hks = c from hc)
  clear hc
  have hRw : R < w.heap.size := lt_of_block hr
  have hbw : b < w.heap.size := World.ownsMap.lt hw
  have HA := Lib.hid (show Bq w [.blk R #[.string (ba T), .int .i64 ((p : Int)), .map (some b)] 43, .any (fun k => k = b) (Wds b) (fun _ _ h hk hz => Wds.keep h hk hz), .base (fun b => b = R) w] from ⟨hr, hw, Ch.refl _ _, trivial⟩)
  clear hr hw
  go_enter Tryz.func26, Tryz.ntmps26
  go_upto_region 2 with (fail)
  have HB := Lib.hid (HA.out.box #[.int .i64 0, .string ⟨#[]⟩, .int .u64 0, .int .i64 0] 36 (n := w.heap.size) rfl)
  have HL := Lib.hid (show Tb (w.alloc (.cells #[.int .i64 0, .string ⟨#[]⟩, .int .u64 0, .int .i64 0] 36 (0, 0))) from HTb.out.below (below_alloc w _))
  clear HA
  generalize w.alloc (.cells #[.int .i64 0, .string ⟨#[]⟩, .int .u64 0, .int .i64 0] 36 (0, 0)) = w1 at HB HL ⊢
  have c0 := cells_of (HB.out.blk 1 rfl) 0
  have c1 := cells_of (HB.out.blk 1 rfl) 1
  have c2 := cells_of (HB.out.blk 1 rfl) 2
  go_still_tail 9, (by kernel_rfl)
  go_upto_region 3 with (fail)
  clear c0 c1 c2
  have hcc := HC.out.symm
  generalize (ba T)[p]'hks = c' at hcc ⊢
  subst hcc
  have HD := Lib.hid HB.out.dr
  clear HB
  have HT := Lib.hid (show Tb w1.drew from HL.out.below ⟨rfl, rfl, rfl, Nat.le_refl _, fun _ _ => rfl⟩)
  clear HL
  have l97 : (97 : Int) ≤ (c.toNat : Int) := by omega
  have l122 : (c.toNat : Int) ≤ 122 := by omega
  have hs : smallC c = true := by rw [smallC_iff]; omega
  have hCall := Lib.hid (show Calls Tryz.prog 56 #[.pointer (some ⟨R, 0, none⟩), .int .i64 1] w1.drew (TokP tr R T p (.map (some b)) w1.drew) from by rw [← HTR.out]; exact (by have h := name_any R T p b c w1.drew (HD.out.blk 1 rfl) (HD.out.any 2 rfl) hbR hT (by omega); rw [hs] at h; exact h))
  clear HTR
  go_wp2_with fail
  all_goals (try (exfalso; omega))
  all_goals
    refine (hCall.out).mono ?_
    rintro e w3 ⟨rfl, P, hP1, hP2, hRest, hr, ho⟩
    have HRest := Lib.hid hRest
    clear hRest
    have HF := Lib.hid (HD.out.call 1 ho hr (by refine ⟨?_, ?_, ?_, trivial⟩ <;> (simp only [Fq.apart]; first | omega | (intro b h1 h2; omega) | (intro b h1; omega) | (intro b h1 h2 h3; omega))))
    clear HD ho hr hCall
    obtain ⟨d0, d1, d2, d3, fd⟩ := four_cells (HF.out.blk 1 rfl)
    cases tr with
    | bad e =>
      rw [show tokV (.bad e) = .tuple #[.agg #[.int .i64 0, .string ⟨#[]⟩, .int .u64 0, .int .i64 0], .int .i64 e] from rfl]
      go_wp2_with fail
      have HE := Lib.hid (HF.out.put 1 rfl (by refine ⟨?_, ?_, ?_, trivial⟩ <;> (simp only [Fq.apart]; first | omega | (intro b h1 h2; omega) | (intro b h1; omega) | (intro b h1 h2 h3; omega))) (.int .i64 0) (.string ⟨#[]⟩) (.int .u64 0) (.int .i64 0))
      clear HF
      refine bodyPost_ret (results_tok rfl _ _ _ _ _ _ _ rfl (HE.out.blk 0 rfl)) rfl ?_
      exact ⟨rfl, P, hP1, hP2, HRest.out, (HE.out.blk 1 rfl), HE.out.base 3 rfl⟩
    | tok k tx n rest =>
      rw [show tokV (.tok k tx n rest) = .tuple #[.agg #[.int .i64 k, .string (ba tx), .int .u64 (n : Int), .int .i64 0], .int .i64 0] from rfl]
      go_wp2_with fail
      have HE := Lib.hid (HF.out.put 1 rfl (by refine ⟨?_, ?_, ?_, trivial⟩ <;> (simp only [Fq.apart]; first | omega | (intro b h1 h2; omega) | (intro b h1; omega) | (intro b h1 h2 h3; omega))) (.int .i64 k) (.string (ba tx)) (.int .u64 (n : Int)) (.int .i64 0))
      clear HF
      refine bodyPost_ret (results_tok rfl _ _ _ _ _ _ _ rfl (HE.out.blk 0 rfl)) rfl ?_
      exact ⟨rfl, P, hP1, hP2, HRest.out, (HE.out.blk 1 rfl), HE.out.base 3 rfl⟩
set_option maxRecDepth 100000 in
set_option maxHeartbeats 8000000 in
theorem token_cap (R : Nat) (T : List UInt8) (p : Nat) (b : Nat) (c : UInt8) (w : World) (hr : Sc R T p (.map (some b)) w) (hw : Wds b w) (hbR : ¬ b = R) (hT : T.length ≤ 1000000) (hp : p < T.length) (hc : T[p] = c) (h1 : 65 ≤ c.toNat) (h2 : c.toNat ≤ 90) (hTb : Tb w) (h9 : 6 ≤ R) :
    Calls Tryz.prog 26 #[.pointer (some ⟨R, 0, none⟩)] w (TokP (nameT c (T.drop p)) R T p (.map (some b)) w) := by
  generalize htr : nameT c (T.drop p) = tr
  have HTR := Lib.hid htr
  clear htr
  have s1 : ((ba T).size : Int) = (T.length : Int) := by rw [ba_size]
  have s2 : (ba T).size = T.length := by rw [ba_size]
  have hpi : (p : Int) < (T.length : Int) := by omega
  have hks : p < (ba T).size := by rw [ba_size]; exact hp
  have HTb := Lib.hid hTb
  clear hTb
  have HC := Lib.hid (show (ba T)[p]'hks = c from hc)
  clear hc
  have hRw : R < w.heap.size := lt_of_block hr
  have hbw : b < w.heap.size := World.ownsMap.lt hw
  have HA := Lib.hid (show Bq w [.blk R #[.string (ba T), .int .i64 ((p : Int)), .map (some b)] 43, .any (fun k => k = b) (Wds b) (fun _ _ h hk hz => Wds.keep h hk hz), .base (fun b => b = R) w] from ⟨hr, hw, Ch.refl _ _, trivial⟩)
  clear hr hw
  go_enter Tryz.func26, Tryz.ntmps26
  go_upto_region 2 with (fail)
  have HB := Lib.hid (HA.out.box #[.int .i64 0, .string ⟨#[]⟩, .int .u64 0, .int .i64 0] 36 (n := w.heap.size) rfl)
  have HL := Lib.hid (show Tb (w.alloc (.cells #[.int .i64 0, .string ⟨#[]⟩, .int .u64 0, .int .i64 0] 36 (0, 0))) from HTb.out.below (below_alloc w _))
  clear HA
  generalize w.alloc (.cells #[.int .i64 0, .string ⟨#[]⟩, .int .u64 0, .int .i64 0] 36 (0, 0)) = w1 at HB HL ⊢
  have c0 := cells_of (HB.out.blk 1 rfl) 0
  have c1 := cells_of (HB.out.blk 1 rfl) 1
  have c2 := cells_of (HB.out.blk 1 rfl) 2
  go_still_tail 9, (by kernel_rfl)
  go_upto_region 3 with (fail)
  clear c0 c1 c2
  have hcc := HC.out.symm
  generalize (ba T)[p]'hks = c' at hcc ⊢
  subst hcc
  have HD := Lib.hid HB.out.dr
  clear HB
  have HT := Lib.hid (show Tb w1.drew from HL.out.below ⟨rfl, rfl, rfl, Nat.le_refl _, fun _ _ => rfl⟩)
  clear HL
  have l97 : ¬ (97 : Int) ≤ (c.toNat : Int) := by omega
  have hs : smallC c = false := by rw [← Bool.not_eq_true, smallC_iff]; omega
  have hlc : letC2 c = true := by rw [letC2_iff]; omega
  have HLt := Lib.hid fun W => (letter_p c W).mono fun e w' h => (show e = .returned (.bool true) ∧ w' = W by rw [show letC2 c = true from hlc] at h; exact h)
  clear hlc
  have hCall := Lib.hid (show Calls Tryz.prog 56 #[.pointer (some ⟨R, 0, none⟩), .int .i64 2] w1.drew (TokP tr R T p (.map (some b)) w1.drew) from by rw [← HTR.out]; exact (by have h := name_any R T p b c w1.drew (HD.out.blk 1 rfl) (HD.out.any 2 rfl) hbR hT (by omega); rw [hs] at h; exact h))
  clear HTR
  go_wp2_with fail
  all_goals (try (exfalso; omega))
  refine (HLt.out w1.drew).mono ?_
  rintro e w' ⟨rfl, rfl⟩
  go_wp2_with fail
  all_goals (try (exfalso; omega))
  all_goals
    refine (hCall.out).mono ?_
    rintro e w3 ⟨rfl, P, hP1, hP2, hRest, hr, ho⟩
    have HRest := Lib.hid hRest
    clear hRest
    have HF := Lib.hid (HD.out.call 1 ho hr (by refine ⟨?_, ?_, ?_, trivial⟩ <;> (simp only [Fq.apart]; first | omega | (intro b h1 h2; omega) | (intro b h1; omega) | (intro b h1 h2 h3; omega))))
    clear HD ho hr hCall
    obtain ⟨d0, d1, d2, d3, fd⟩ := four_cells (HF.out.blk 1 rfl)
    cases tr with
    | bad e =>
      rw [show tokV (.bad e) = .tuple #[.agg #[.int .i64 0, .string ⟨#[]⟩, .int .u64 0, .int .i64 0], .int .i64 e] from rfl]
      go_wp2_with fail
      have HE := Lib.hid (HF.out.put 1 rfl (by refine ⟨?_, ?_, ?_, trivial⟩ <;> (simp only [Fq.apart]; first | omega | (intro b h1 h2; omega) | (intro b h1; omega) | (intro b h1 h2 h3; omega))) (.int .i64 0) (.string ⟨#[]⟩) (.int .u64 0) (.int .i64 0))
      clear HF
      refine bodyPost_ret (results_tok rfl _ _ _ _ _ _ _ rfl (HE.out.blk 0 rfl)) rfl ?_
      exact ⟨rfl, P, hP1, hP2, HRest.out, (HE.out.blk 1 rfl), HE.out.base 3 rfl⟩
    | tok k tx n rest =>
      rw [show tokV (.tok k tx n rest) = .tuple #[.agg #[.int .i64 k, .string (ba tx), .int .u64 (n : Int), .int .i64 0], .int .i64 0] from rfl]
      go_wp2_with fail
      have HE := Lib.hid (HF.out.put 1 rfl (by refine ⟨?_, ?_, ?_, trivial⟩ <;> (simp only [Fq.apart]; first | omega | (intro b h1 h2; omega) | (intro b h1; omega) | (intro b h1 h2 h3; omega))) (.int .i64 k) (.string (ba tx)) (.int .u64 (n : Int)) (.int .i64 0))
      clear HF
      refine bodyPost_ret (results_tok rfl _ _ _ _ _ _ _ rfl (HE.out.blk 0 rfl)) rfl ?_
      exact ⟨rfl, P, hP1, hP2, HRest.out, (HE.out.blk 1 rfl), HE.out.base 3 rfl⟩
set_option maxRecDepth 100000 in
set_option maxHeartbeats 8000000 in
theorem token_under (R : Nat) (T : List UInt8) (p : Nat) (b : Nat) (c : UInt8) (w : World) (hr : Sc R T p (.map (some b)) w) (hw : Wds b w) (hbR : ¬ b = R) (hT : T.length ≤ 1000000) (hp : p < T.length) (hc : T[p] = c) (h1 : c.toNat = 95) (hTb : Tb w) (h9 : 6 ≤ R) :
    Calls Tryz.prog 26 #[.pointer (some ⟨R, 0, none⟩)] w (TokP (nameT c (T.drop p)) R T p (.map (some b)) w) := by
  generalize htr : nameT c (T.drop p) = tr
  have HTR := Lib.hid htr
  clear htr
  have s1 : ((ba T).size : Int) = (T.length : Int) := by rw [ba_size]
  have s2 : (ba T).size = T.length := by rw [ba_size]
  have hpi : (p : Int) < (T.length : Int) := by omega
  have hks : p < (ba T).size := by rw [ba_size]; exact hp
  have HTb := Lib.hid hTb
  clear hTb
  have HC := Lib.hid (show (ba T)[p]'hks = c from hc)
  clear hc
  have hRw : R < w.heap.size := lt_of_block hr
  have hbw : b < w.heap.size := World.ownsMap.lt hw
  have HA := Lib.hid (show Bq w [.blk R #[.string (ba T), .int .i64 ((p : Int)), .map (some b)] 43, .any (fun k => k = b) (Wds b) (fun _ _ h hk hz => Wds.keep h hk hz), .base (fun b => b = R) w] from ⟨hr, hw, Ch.refl _ _, trivial⟩)
  clear hr hw
  go_enter Tryz.func26, Tryz.ntmps26
  go_upto_region 2 with (fail)
  have HB := Lib.hid (HA.out.box #[.int .i64 0, .string ⟨#[]⟩, .int .u64 0, .int .i64 0] 36 (n := w.heap.size) rfl)
  have HL := Lib.hid (show Tb (w.alloc (.cells #[.int .i64 0, .string ⟨#[]⟩, .int .u64 0, .int .i64 0] 36 (0, 0))) from HTb.out.below (below_alloc w _))
  clear HA
  generalize w.alloc (.cells #[.int .i64 0, .string ⟨#[]⟩, .int .u64 0, .int .i64 0] 36 (0, 0)) = w1 at HB HL ⊢
  have c0 := cells_of (HB.out.blk 1 rfl) 0
  have c1 := cells_of (HB.out.blk 1 rfl) 1
  have c2 := cells_of (HB.out.blk 1 rfl) 2
  go_still_tail 9, (by kernel_rfl)
  go_upto_region 3 with (fail)
  clear c0 c1 c2
  have hcc := HC.out.symm
  generalize (ba T)[p]'hks = c' at hcc ⊢
  subst hcc
  have HD := Lib.hid HB.out.dr
  clear HB
  have HT := Lib.hid (show Tb w1.drew from HL.out.below ⟨rfl, rfl, rfl, Nat.le_refl _, fun _ _ => rfl⟩)
  clear HL
  have l97 : ¬ (97 : Int) ≤ (c.toNat : Int) := by omega
  have hs : smallC c = false := by rw [← Bool.not_eq_true, smallC_iff]; omega
  have hlc : letC2 c = false := by rw [← Bool.not_eq_true, letC2_iff]; omega
  have HLt := Lib.hid fun W => (letter_p c W).mono fun e w' h => (show e = .returned (.bool false) ∧ w' = W by rw [show letC2 c = false from hlc] at h; exact h)
  clear hlc
  have x95 : ((c.toNat : Int) == 95) = true := by simp; omega
  clear h1
  have hCall := Lib.hid (show Calls Tryz.prog 56 #[.pointer (some ⟨R, 0, none⟩), .int .i64 2] w1.drew (TokP tr R T p (.map (some b)) w1.drew) from by rw [← HTR.out]; exact (by have h := name_any R T p b c w1.drew (HD.out.blk 1 rfl) (HD.out.any 2 rfl) hbR hT (by omega); rw [hs] at h; exact h))
  clear HTR
  go_wp2_with fail
  all_goals (try (exfalso; omega))
  refine (HLt.out w1.drew).mono ?_
  rintro e w' ⟨rfl, rfl⟩
  go_wp2_with fail
  all_goals (try (exfalso; omega))
  all_goals
    refine (hCall.out).mono ?_
    rintro e w3 ⟨rfl, P, hP1, hP2, hRest, hr, ho⟩
    have HRest := Lib.hid hRest
    clear hRest
    have HF := Lib.hid (HD.out.call 1 ho hr (by refine ⟨?_, ?_, ?_, trivial⟩ <;> (simp only [Fq.apart]; first | omega | (intro b h1 h2; omega) | (intro b h1; omega) | (intro b h1 h2 h3; omega))))
    clear HD ho hr hCall
    obtain ⟨d0, d1, d2, d3, fd⟩ := four_cells (HF.out.blk 1 rfl)
    cases tr with
    | bad e =>
      rw [show tokV (.bad e) = .tuple #[.agg #[.int .i64 0, .string ⟨#[]⟩, .int .u64 0, .int .i64 0], .int .i64 e] from rfl]
      go_wp2_with fail
      have HE := Lib.hid (HF.out.put 1 rfl (by refine ⟨?_, ?_, ?_, trivial⟩ <;> (simp only [Fq.apart]; first | omega | (intro b h1 h2; omega) | (intro b h1; omega) | (intro b h1 h2 h3; omega))) (.int .i64 0) (.string ⟨#[]⟩) (.int .u64 0) (.int .i64 0))
      clear HF
      refine bodyPost_ret (results_tok rfl _ _ _ _ _ _ _ rfl (HE.out.blk 0 rfl)) rfl ?_
      exact ⟨rfl, P, hP1, hP2, HRest.out, (HE.out.blk 1 rfl), HE.out.base 3 rfl⟩
    | tok k tx n rest =>
      rw [show tokV (.tok k tx n rest) = .tuple #[.agg #[.int .i64 k, .string (ba tx), .int .u64 (n : Int), .int .i64 0], .int .i64 0] from rfl]
      go_wp2_with fail
      have HE := Lib.hid (HF.out.put 1 rfl (by refine ⟨?_, ?_, ?_, trivial⟩ <;> (simp only [Fq.apart]; first | omega | (intro b h1 h2; omega) | (intro b h1; omega) | (intro b h1 h2 h3; omega))) (.int .i64 k) (.string (ba tx)) (.int .u64 (n : Int)) (.int .i64 0))
      clear HF
      refine bodyPost_ret (results_tok rfl _ _ _ _ _ _ _ rfl (HE.out.blk 0 rfl)) rfl ?_
      exact ⟨rfl, P, hP1, hP2, HRest.out, (HE.out.blk 1 rfl), HE.out.base 3 rfl⟩
set_option maxRecDepth 100000 in
set_option maxHeartbeats 8000000 in
theorem token_digit (R : Nat) (T : List UInt8) (p : Nat) (b : Nat) (c : UInt8) (w : World) (hr : Sc R T p (.map (some b)) w) (hw : Wds b w) (hbR : ¬ b = R) (hT : T.length ≤ 1000000) (hp : p < T.length) (hc : T[p] = c) (h1 : 48 ≤ c.toNat) (h2 : c.toNat ≤ 57) (hne : (T.drop p).takeWhile numC ≠ []) (hTb : Tb w) (h9 : 6 ≤ R) :
    Calls Tryz.prog 26 #[.pointer (some ⟨R, 0, none⟩)] w (TokP (numT (T.drop p)) R T p (.map (some b)) w) := by
  generalize htr : numT (T.drop p) = tr
  have HTR := Lib.hid htr
  clear htr
  have s1 : ((ba T).size : Int) = (T.length : Int) := by rw [ba_size]
  have s2 : (ba T).size = T.length := by rw [ba_size]
  have hpi : (p : Int) < (T.length : Int) := by omega
  have hks : p < (ba T).size := by rw [ba_size]; exact hp
  have HTb := Lib.hid hTb
  clear hTb
  have HC := Lib.hid (show (ba T)[p]'hks = c from hc)
  clear hc
  have hRw : R < w.heap.size := lt_of_block hr
  have hbw : b < w.heap.size := World.ownsMap.lt hw
  have HA := Lib.hid (show Bq w [.blk R #[.string (ba T), .int .i64 ((p : Int)), .map (some b)] 43, .any (fun k => k = b) (Wds b) (fun _ _ h hk hz => Wds.keep h hk hz), .base (fun b => b = R) w] from ⟨hr, hw, Ch.refl _ _, trivial⟩)
  clear hr hw
  go_enter Tryz.func26, Tryz.ntmps26
  go_upto_region 2 with (fail)
  have HB := Lib.hid (HA.out.box #[.int .i64 0, .string ⟨#[]⟩, .int .u64 0, .int .i64 0] 36 (n := w.heap.size) rfl)
  have HL := Lib.hid (show Tb (w.alloc (.cells #[.int .i64 0, .string ⟨#[]⟩, .int .u64 0, .int .i64 0] 36 (0, 0))) from HTb.out.below (below_alloc w _))
  clear HA
  generalize w.alloc (.cells #[.int .i64 0, .string ⟨#[]⟩, .int .u64 0, .int .i64 0] 36 (0, 0)) = w1 at HB HL ⊢
  have c0 := cells_of (HB.out.blk 1 rfl) 0
  have c1 := cells_of (HB.out.blk 1 rfl) 1
  have c2 := cells_of (HB.out.blk 1 rfl) 2
  go_still_tail 9, (by kernel_rfl)
  go_upto_region 3 with (fail)
  clear c0 c1 c2
  have hcc := HC.out.symm
  generalize (ba T)[p]'hks = c' at hcc ⊢
  subst hcc
  have HD := Lib.hid HB.out.dr
  clear HB
  have HT := Lib.hid (show Tb w1.drew from HL.out.below ⟨rfl, rfl, rfl, Nat.le_refl _, fun _ _ => rfl⟩)
  clear HL
  have HNE := Lib.hid hne
  clear hne
  have l97 : ¬ (97 : Int) ≤ (c.toNat : Int) := by omega
  have hlc : letC2 c = false := by rw [← Bool.not_eq_true, letC2_iff]; omega
  have HLt := Lib.hid fun W => (letter_p c W).mono fun e w' h => (show e = .returned (.bool false) ∧ w' = W by rw [show letC2 c = false from hlc] at h; exact h)
  clear hlc
  have x95 : ((c.toNat : Int) == 95) = false := by simp; omega
  have hdc : numC c = true := by rw [numC_iff]; omega
  have HDg := Lib.hid fun W => (digit_p c W).mono fun e w' h => (show e = .returned (.bool true) ∧ w' = W by rw [show numC c = true from hdc] at h; exact h)
  clear hdc
  have hCall := Lib.hid (show Calls Tryz.prog 58 #[.pointer (some ⟨R, 0, none⟩)] w1.drew (TokP tr R T p (.map (some b)) w1.drew) from by rw [← HTR.out]; exact (number_any R T p b w1.drew (HD.out.blk 1 rfl) (HD.out.any 2 rfl) hbR hT (by omega) HNE.out HT.out h9))
  clear HTR
  go_wp2_with fail
  all_goals (try (exfalso; omega))
  refine (HLt.out w1.drew).mono ?_
  rintro e w' ⟨rfl, rfl⟩
  go_wp2_with fail
  all_goals (try (exfalso; omega))
  refine (HDg.out w1.drew).mono ?_
  rintro e w' ⟨rfl, rfl⟩
  go_wp2_with fail
  all_goals (try (exfalso; omega))
  all_goals
    refine (hCall.out).mono ?_
    rintro e w3 ⟨rfl, P, hP1, hP2, hRest, hr, ho⟩
    have HRest := Lib.hid hRest
    clear hRest
    have HF := Lib.hid (HD.out.call 1 ho hr (by refine ⟨?_, ?_, ?_, trivial⟩ <;> (simp only [Fq.apart]; first | omega | (intro b h1 h2; omega) | (intro b h1; omega) | (intro b h1 h2 h3; omega))))
    clear HD ho hr hCall
    obtain ⟨d0, d1, d2, d3, fd⟩ := four_cells (HF.out.blk 1 rfl)
    cases tr with
    | bad e =>
      rw [show tokV (.bad e) = .tuple #[.agg #[.int .i64 0, .string ⟨#[]⟩, .int .u64 0, .int .i64 0], .int .i64 e] from rfl]
      go_wp2_with fail
      have HE := Lib.hid (HF.out.put 1 rfl (by refine ⟨?_, ?_, ?_, trivial⟩ <;> (simp only [Fq.apart]; first | omega | (intro b h1 h2; omega) | (intro b h1; omega) | (intro b h1 h2 h3; omega))) (.int .i64 0) (.string ⟨#[]⟩) (.int .u64 0) (.int .i64 0))
      clear HF
      refine bodyPost_ret (results_tok rfl _ _ _ _ _ _ _ rfl (HE.out.blk 0 rfl)) rfl ?_
      exact ⟨rfl, P, hP1, hP2, HRest.out, (HE.out.blk 1 rfl), HE.out.base 3 rfl⟩
    | tok k tx n rest =>
      rw [show tokV (.tok k tx n rest) = .tuple #[.agg #[.int .i64 k, .string (ba tx), .int .u64 (n : Int), .int .i64 0], .int .i64 0] from rfl]
      go_wp2_with fail
      have HE := Lib.hid (HF.out.put 1 rfl (by refine ⟨?_, ?_, ?_, trivial⟩ <;> (simp only [Fq.apart]; first | omega | (intro b h1 h2; omega) | (intro b h1; omega) | (intro b h1 h2 h3; omega))) (.int .i64 k) (.string (ba tx)) (.int .u64 (n : Int)) (.int .i64 0))
      clear HF
      refine bodyPost_ret (results_tok rfl _ _ _ _ _ _ _ rfl (HE.out.blk 0 rfl)) rfl ?_
      exact ⟨rfl, P, hP1, hP2, HRest.out, (HE.out.blk 1 rfl), HE.out.base 3 rfl⟩
set_option maxRecDepth 100000 in
set_option maxHeartbeats 8000000 in
theorem token_quote (R : Nat) (T : List UInt8) (p : Nat) (b : Nat) (c : UInt8) (w : World) (hr : Sc R T p (.map (some b)) w) (hw : Wds b w) (hbR : ¬ b = R) (hT : T.length ≤ 1000000) (hp : p < T.length) (hc : T[p] = c) (h1 : c.toNat = 34) (hTb : Tb w) (h9 : 6 ≤ R) :
    Calls Tryz.prog 26 #[.pointer (some ⟨R, 0, none⟩)] w (TokP (quoE (quoT (T.drop (p + 1)))) R T p (.map (some b)) w) := by
  generalize htr : quoE (quoT (T.drop (p + 1))) = tr
  have HTR := Lib.hid htr
  clear htr
  have s1 : ((ba T).size : Int) = (T.length : Int) := by rw [ba_size]
  have s2 : (ba T).size = T.length := by rw [ba_size]
  have hpi : (p : Int) < (T.length : Int) := by omega
  have hks : p < (ba T).size := by rw [ba_size]; exact hp
  have HTb := Lib.hid hTb
  clear hTb
  have HC := Lib.hid (show (ba T)[p]'hks = c from hc)
  clear hc
  have hRw : R < w.heap.size := lt_of_block hr
  have hbw : b < w.heap.size := World.ownsMap.lt hw
  have HA := Lib.hid (show Bq w [.blk R #[.string (ba T), .int .i64 ((p : Int)), .map (some b)] 43, .any (fun k => k = b) (Wds b) (fun _ _ h hk hz => Wds.keep h hk hz), .base (fun b => b = R) w] from ⟨hr, hw, Ch.refl _ _, trivial⟩)
  clear hr hw
  go_enter Tryz.func26, Tryz.ntmps26
  go_upto_region 2 with (fail)
  have HB := Lib.hid (HA.out.box #[.int .i64 0, .string ⟨#[]⟩, .int .u64 0, .int .i64 0] 36 (n := w.heap.size) rfl)
  have HL := Lib.hid (show Tb (w.alloc (.cells #[.int .i64 0, .string ⟨#[]⟩, .int .u64 0, .int .i64 0] 36 (0, 0))) from HTb.out.below (below_alloc w _))
  clear HA
  generalize w.alloc (.cells #[.int .i64 0, .string ⟨#[]⟩, .int .u64 0, .int .i64 0] 36 (0, 0)) = w1 at HB HL ⊢
  have c0 := cells_of (HB.out.blk 1 rfl) 0
  have c1 := cells_of (HB.out.blk 1 rfl) 1
  have c2 := cells_of (HB.out.blk 1 rfl) 2
  go_still_tail 9, (by kernel_rfl)
  go_upto_region 3 with (fail)
  clear c0 c1 c2
  have hcc := HC.out.symm
  generalize (ba T)[p]'hks = c' at hcc ⊢
  subst hcc
  have HD := Lib.hid HB.out.dr
  clear HB
  have HT := Lib.hid (show Tb w1.drew from HL.out.below ⟨rfl, rfl, rfl, Nat.le_refl _, fun _ _ => rfl⟩)
  clear HL
  have l97 : ¬ (97 : Int) ≤ (c.toNat : Int) := by omega
  have hlc : letC2 c = false := by rw [← Bool.not_eq_true, letC2_iff]; omega
  have HLt := Lib.hid fun W => (letter_p c W).mono fun e w' h => (show e = .returned (.bool false) ∧ w' = W by rw [show letC2 c = false from hlc] at h; exact h)
  clear hlc
  have x95 : ((c.toNat : Int) == 95) = false := by simp; omega
  have hdc : numC c = false := by rw [← Bool.not_eq_true, numC_iff]; omega
  have HDg := Lib.hid fun W => (digit_p c W).mono fun e w' h => (show e = .returned (.bool false) ∧ w' = W by rw [show numC c = false from hdc] at h; exact h)
  clear hdc
  have x34 : ((c.toNat : Int) == 34) = true := by simp; omega
  clear h1
  have hCall := Lib.hid (show Calls Tryz.prog 59 #[.pointer (some ⟨R, 0, none⟩)] w1.drew (TokP tr R T p (.map (some b)) w1.drew) from by rw [← HTR.out]; exact (quoted_any R T p (.map (some b)) w1.drew (HD.out.blk 1 rfl) hT hp))
  clear HTR
  go_wp2_with fail
  all_goals (try (exfalso; omega))
  refine (HLt.out w1.drew).mono ?_
  rintro e w' ⟨rfl, rfl⟩
  go_wp2_with fail
  all_goals (try (exfalso; omega))
  refine (HDg.out w1.drew).mono ?_
  rintro e w' ⟨rfl, rfl⟩
  go_wp2_with fail
  all_goals (try (exfalso; omega))
  all_goals
    refine (hCall.out).mono ?_
    rintro e w3 ⟨rfl, P, hP1, hP2, hRest, hr, ho⟩
    have HRest := Lib.hid hRest
    clear hRest
    have HF := Lib.hid (HD.out.call 1 ho hr (by refine ⟨?_, ?_, ?_, trivial⟩ <;> (simp only [Fq.apart]; first | omega | (intro b h1 h2; omega) | (intro b h1; omega) | (intro b h1 h2 h3; omega))))
    clear HD ho hr hCall
    obtain ⟨d0, d1, d2, d3, fd⟩ := four_cells (HF.out.blk 1 rfl)
    cases tr with
    | bad e =>
      rw [show tokV (.bad e) = .tuple #[.agg #[.int .i64 0, .string ⟨#[]⟩, .int .u64 0, .int .i64 0], .int .i64 e] from rfl]
      go_wp2_with fail
      have HE := Lib.hid (HF.out.put 1 rfl (by refine ⟨?_, ?_, ?_, trivial⟩ <;> (simp only [Fq.apart]; first | omega | (intro b h1 h2; omega) | (intro b h1; omega) | (intro b h1 h2 h3; omega))) (.int .i64 0) (.string ⟨#[]⟩) (.int .u64 0) (.int .i64 0))
      clear HF
      refine bodyPost_ret (results_tok rfl _ _ _ _ _ _ _ rfl (HE.out.blk 0 rfl)) rfl ?_
      exact ⟨rfl, P, hP1, hP2, HRest.out, (HE.out.blk 1 rfl), HE.out.base 3 rfl⟩
    | tok k tx n rest =>
      rw [show tokV (.tok k tx n rest) = .tuple #[.agg #[.int .i64 k, .string (ba tx), .int .u64 (n : Int), .int .i64 0], .int .i64 0] from rfl]
      go_wp2_with fail
      have HE := Lib.hid (HF.out.put 1 rfl (by refine ⟨?_, ?_, ?_, trivial⟩ <;> (simp only [Fq.apart]; first | omega | (intro b h1 h2; omega) | (intro b h1; omega) | (intro b h1 h2 h3; omega))) (.int .i64 k) (.string (ba tx)) (.int .u64 (n : Int)) (.int .i64 0))
      clear HF
      refine bodyPost_ret (results_tok rfl _ _ _ _ _ _ _ rfl (HE.out.blk 0 rfl)) rfl ?_
      exact ⟨rfl, P, hP1, hP2, HRest.out, (HE.out.blk 1 rfl), HE.out.base 3 rfl⟩
end Go.Proofs.YtmcnhggpmlhgeaaGreatDoor
namespace Go.Proofs.YtmcnhggpmlhgeaaGreatDoor
open Go.RowKit
theorem signD_le (s : List UInt8) : ∀ n : Nat, signD n s ≤ n
  | 0 => Nat.le_refl _
  | n + 1 => by
    rw [signD]
    split
    · exact Nat.le_refl _
    · split
      · omega
      · exact Nat.le_succ_of_le (signD_le s n)
theorem signN_le (s : List UInt8) : signN s ≤ s.length := by
  rw [← signD_eq]
  exact Nat.le_trans (signD_le s _) (Nat.min_le_right _ _)
theorem signN_le3 (s : List UInt8) : signN s ≤ 3 := by
  rw [← signD_eq]
  exact Nat.le_trans (signD_le s _) (Nat.min_le_left _ _)
theorem extract_drop (T : List UInt8) (p : Nat) : (ba T).extract p T.length = ba (T.drop p) := by
  rw [extract_ba, List.take_of_length_le (by rw [List.length_drop]; omega)]
theorem extract_sign (T : List UInt8) (p n : Nat) : (ba T).extract p (p + n) = ba ((T.drop p).take n) := by
  rw [extract_ba, Nat.add_sub_cancel_left]
/-- the sign's case of a token -/
theorem tokT_sign {T : List UInt8} {p : Nat} {c : UInt8} (hp : p < T.length) (hc : T[p] = c) (h1 : headC c = false) (h2 : numC c = false) (h3 : ¬ c.toNat = 34) :
    tokT (T.drop p) = if signN (T.drop p) = 0 then .bad 90 else .tok 6 ((T.drop p).take (signN (T.drop p))) 0 ((T.drop p).drop (signN (T.drop p))) := by
  rw [List.drop_eq_getElem_cons hp, hc, tokT]
  simp only [h1, h2, if_neg h3, Bool.false_eq_true, if_false]
end Go.Proofs.YtmcnhggpmlhgeaaGreatDoor
namespace Go.Proofs.YtmcnhggpmlhgeaaGreatDoor
open Go.RowKit
set_option maxRecDepth 100000 in
set_option maxHeartbeats 8000000 in
theorem token_nosign (R : Nat) (T : List UInt8) (p : Nat) (b : Nat) (c : UInt8) (w : World) (hr : Sc R T p (.map (some b)) w) (hw : Wds b w) (hbR : ¬ b = R) (hT : T.length ≤ 1000000) (hp : p < T.length) (hc : T[p] = c) (hhc : headC c = false) (hnc : numC c = false) (h34 : ¬ c.toNat = 34) (h97 : ¬ 97 ≤ c.toNat) (hz : signN (T.drop p) = 0) :
    Calls Tryz.prog 26 #[.pointer (some ⟨R, 0, none⟩)] w (TokP (.bad 90) R T p (.map (some b)) w) := by
  have s1 : ((ba T).size : Int) = (T.length : Int) := by rw [ba_size]
  have s2 : (ba T).size = T.length := by rw [ba_size]
  have hpi : (p : Int) < (T.length : Int) := by omega
  have hks : p < (ba T).size := by rw [ba_size]; exact hp
  have HC := Lib.hid (show (ba T)[p]'hks = c from hc)
  clear hc
  have hRw : R < w.heap.size := lt_of_block hr
  have hbw : b < w.heap.size := World.ownsMap.lt hw
  have HA := Lib.hid (show Bq w [.blk R #[.string (ba T), .int .i64 ((p : Int)), .map (some b)] 43, .any (fun k => k = b) (Wds b) (fun _ _ h hk hz => Wds.keep h hk hz), .base (fun b => b = R) w] from ⟨hr, hw, Ch.refl _ _, trivial⟩)
  clear hr hw
  have HZ := Lib.hid hz
  clear hz
  go_enter Tryz.func26, Tryz.ntmps26
  go_upto_region 2 with (fail)
  have HB := Lib.hid (HA.out.box #[.int .i64 0, .string ⟨#[]⟩, .int .u64 0, .int .i64 0] 36 (n := w.heap.size) rfl)
  clear HA
  generalize w.alloc (.cells #[.int .i64 0, .string ⟨#[]⟩, .int .u64 0, .int .i64 0] 36 (0, 0)) = w1 at HB ⊢
  have c0 := cells_of (HB.out.blk 1 rfl) 0
  have c1 := cells_of (HB.out.blk 1 rfl) 1
  have c2 := cells_of (HB.out.blk 1 rfl) 2
  go_still_tail 9, (by kernel_rfl)
  go_upto_region 3 with (fail)
  have hcc := HC.out.symm
  generalize (ba T)[p]'hks = c' at hcc ⊢
  subst hcc
  have hH := (Bool.not_eq_true _).mpr hhc
  rw [headC_iff] at hH
  have hN := (Bool.not_eq_true _).mpr hnc
  rw [numC_iff] at hN
  have hlc : letC2 c = false := by rw [← Bool.not_eq_true, letC2_iff]; omega
  have HLt := Lib.hid fun W => (letter_p c W).mono fun e w' h => (show e = .returned (.bool false) ∧ w' = W by rw [show letC2 c = false from hlc] at h; exact h)
  clear hlc
  have x95 : ((c.toNat : Int) == 95) = false := by simp; omega
  have hdc : numC c = false := by rw [← Bool.not_eq_true, numC_iff]; omega
  have HDg := Lib.hid fun W => (digit_p c W).mono fun e w' h => (show e = .returned (.bool false) ∧ w' = W by rw [show numC c = false from hdc] at h; exact h)
  clear hdc
  have x34 : ((c.toNat : Int) == 34) = false := by simp; omega
  have l97 : ¬ (97 : Int) ≤ (c.toNat : Int) := by omega
  clear hH hN hhc hnc h34
  go_wp2_with fail
  all_goals (try (exfalso; omega))
  refine (HLt.out w1.drew).mono ?_
  rintro e w' ⟨rfl, rfl⟩
  go_wp2_with fail
  all_goals (try (exfalso; omega))
  refine (HDg.out w1.drew).mono ?_
  rintro e w' ⟨rfl, rfl⟩
  go_upto_region 11 with (fail)
  clear c0 c1 c2
  have hp0 : (p : Int) ≤ (T.length : Int) := by omega
  have hp1 : p ≤ T.length := by omega
  have hp00 : (0 : Int) ≤ (p : Int) := by omega
  have HD := Lib.hid HB.out.dr
  generalize w1.drew = w2 at HD ⊢
  have c0 := cells_of (HD.out.blk 1 rfl) 0
  have c1 := cells_of (HD.out.blk 1 rfl) 1
  have c2 := cells_of (HD.out.blk 1 rfl) 2
  go_still_tail 9, (by kernel_rfl)
  go_wp2_with fail
  refine (show Calls Tryz.prog 43 #[.string ((ba T).extract p T.length)] w2.drew (fun e w' => e = .returned (.int .i64 (signN (T.drop p) : Int)) ∧ w' = w2.drew) from by rw [extract_drop]; exact sign_any _ _ (by rw [List.length_drop]; omega)).mono ?_
  rintro e w3 ⟨rfl, hw3⟩
  have HF := Lib.hid (HD.out.dr)
  rw [← hw3] at HF
  clear hw3 c0 c1 c2
  rw [HZ.out]
  obtain ⟨d0, d1, d2, d3, fd⟩ := four_cells (HF.out.blk 0 rfl)
  go_wp2_with fail
  have HE := Lib.hid (HF.out.put 0 rfl (by refine ⟨?_, ?_, ?_, trivial⟩ <;> (simp only [Fq.apart]; first | omega | (intro b h1 h2; omega) | (intro b h1; omega) | (intro b h1 h2 h3; omega))) (.int .i64 0) (.string ⟨#[]⟩) (.int .u64 0) (.int .i64 0))
  refine bodyPost_ret (results_tok rfl _ _ _ _ _ _ _ rfl (HE.out.blk 0 rfl)) rfl ?_
  exact ⟨rfl, p, Nat.le_refl _, by omega, trivial, (HE.out.blk 1 rfl), HE.out.base 3 rfl⟩
set_option maxRecDepth 100000 in
set_option maxHeartbeats 8000000 in
theorem token_nosign2 (R : Nat) (T : List UInt8) (p : Nat) (b : Nat) (c : UInt8) (w : World) (hr : Sc R T p (.map (some b)) w) (hw : Wds b w) (hbR : ¬ b = R) (hT : T.length ≤ 1000000) (hp : p < T.length) (hc : T[p] = c) (hhc : headC c = false) (hnc : numC c = false) (h34 : ¬ c.toNat = 34) (h97 : 97 ≤ c.toNat) (h122 : ¬ c.toNat ≤ 122) (hz : signN (T.drop p) = 0) :
    Calls Tryz.prog 26 #[.pointer (some ⟨R, 0, none⟩)] w (TokP (.bad 90) R T p (.map (some b)) w) := by
  have s1 : ((ba T).size : Int) = (T.length : Int) := by rw [ba_size]
  have s2 : (ba T).size = T.length := by rw [ba_size]
  have hpi : (p : Int) < (T.length : Int) := by omega
  have hks : p < (ba T).size := by rw [ba_size]; exact hp
  have HC := Lib.hid (show (ba T)[p]'hks = c from hc)
  clear hc
  have hRw : R < w.heap.size := lt_of_block hr
  have hbw : b < w.heap.size := World.ownsMap.lt hw
  have HA := Lib.hid (show Bq w [.blk R #[.string (ba T), .int .i64 ((p : Int)), .map (some b)] 43, .any (fun k => k = b) (Wds b) (fun _ _ h hk hz => Wds.keep h hk hz), .base (fun b => b = R) w] from ⟨hr, hw, Ch.refl _ _, trivial⟩)
  clear hr hw
  have HZ := Lib.hid hz
  clear hz
  go_enter Tryz.func26, Tryz.ntmps26
  go_upto_region 2 with (fail)
  have HB := Lib.hid (HA.out.box #[.int .i64 0, .string ⟨#[]⟩, .int .u64 0, .int .i64 0] 36 (n := w.heap.size) rfl)
  clear HA
  generalize w.alloc (.cells #[.int .i64 0, .string ⟨#[]⟩, .int .u64 0, .int .i64 0] 36 (0, 0)) = w1 at HB ⊢
  have c0 := cells_of (HB.out.blk 1 rfl) 0
  have c1 := cells_of (HB.out.blk 1 rfl) 1
  have c2 := cells_of (HB.out.blk 1 rfl) 2
  go_still_tail 9, (by kernel_rfl)
  go_upto_region 3 with (fail)
  have hcc := HC.out.symm
  generalize (ba T)[p]'hks = c' at hcc ⊢
  subst hcc
  have hH := (Bool.not_eq_true _).mpr hhc
  rw [headC_iff] at hH
  have hN := (Bool.not_eq_true _).mpr hnc
  rw [numC_iff] at hN
  have hlc : letC2 c = false := by rw [← Bool.not_eq_true, letC2_iff]; omega
  have HLt := Lib.hid fun W => (letter_p c W).mono fun e w' h => (show e = .returned (.bool false) ∧ w' = W by rw [show letC2 c = false from hlc] at h; exact h)
  clear hlc
  have x95 : ((c.toNat : Int) == 95) = false := by simp; omega
  have hdc : numC c = false := by rw [← Bool.not_eq_true, numC_iff]; omega
  have HDg := Lib.hid fun W => (digit_p c W).mono fun e w' h => (show e = .returned (.bool false) ∧ w' = W by rw [show numC c = false from hdc] at h; exact h)
  clear hdc
  have x34 : ((c.toNat : Int) == 34) = false := by simp; omega
  have l97 : (97 : Int) ≤ (c.toNat : Int) := by omega
  have l122 : ¬ (c.toNat : Int) ≤ 122 := by omega
  clear hH hN hhc hnc h34
  go_wp2_with fail
  all_goals (try (exfalso; omega))
  refine (HLt.out w1.drew).mono ?_
  rintro e w' ⟨rfl, rfl⟩
  go_wp2_with fail
  all_goals (try (exfalso; omega))
  refine (HDg.out w1.drew).mono ?_
  rintro e w' ⟨rfl, rfl⟩
  go_upto_region 11 with (fail)
  clear c0 c1 c2
  have hp0 : (p : Int) ≤ (T.length : Int) := by omega
  have hp1 : p ≤ T.length := by omega
  have hp00 : (0 : Int) ≤ (p : Int) := by omega
  have HD := Lib.hid HB.out.dr
  generalize w1.drew = w2 at HD ⊢
  have c0 := cells_of (HD.out.blk 1 rfl) 0
  have c1 := cells_of (HD.out.blk 1 rfl) 1
  have c2 := cells_of (HD.out.blk 1 rfl) 2
  go_still_tail 9, (by kernel_rfl)
  go_wp2_with fail
  refine (show Calls Tryz.prog 43 #[.string ((ba T).extract p T.length)] w2.drew (fun e w' => e = .returned (.int .i64 (signN (T.drop p) : Int)) ∧ w' = w2.drew) from by rw [extract_drop]; exact sign_any _ _ (by rw [List.length_drop]; omega)).mono ?_
  rintro e w3 ⟨rfl, hw3⟩
  have HF := Lib.hid (HD.out.dr)
  rw [← hw3] at HF
  clear hw3 c0 c1 c2
  rw [HZ.out]
  obtain ⟨d0, d1, d2, d3, fd⟩ := four_cells (HF.out.blk 0 rfl)
  go_wp2_with fail
  have HE := Lib.hid (HF.out.put 0 rfl (by refine ⟨?_, ?_, ?_, trivial⟩ <;> (simp only [Fq.apart]; first | omega | (intro b h1 h2; omega) | (intro b h1; omega) | (intro b h1 h2 h3; omega))) (.int .i64 0) (.string ⟨#[]⟩) (.int .u64 0) (.int .i64 0))
  refine bodyPost_ret (results_tok rfl _ _ _ _ _ _ _ rfl (HE.out.blk 0 rfl)) rfl ?_
  exact ⟨rfl, p, Nat.le_refl _, by omega, trivial, (HE.out.blk 1 rfl), HE.out.base 3 rfl⟩
end Go.Proofs.YtmcnhggpmlhgeaaGreatDoor
