/-
  Walks: the law of lines.
-/
import Derived.Test.YtmcnhggpmlhgeaaGreatDoorLwF
import Derived.BigFrame
namespace Go.Proofs.YtmcnhggpmlhgeaaGreatDoor
open Go.RowKit
theorem scanT_pos (len : Nat) : ∀ (j : Nat) (s : List UInt8) (l : List Tok), scanT len j s = .ok l → ∀ t ∈ l, 0 ≤ t.pos ∧ t.pos ≤ (len : Int)
  | 0, s, l, h => by
    rw [scanT] at h
    injection h with h
    rw [← h]; intro t ht; cases ht
  | j + 1, s, l, h => by
    rw [scanT] at h
    split at h
    · injection h with h
      rw [← h]; intro t ht; cases ht
    · split at h
      · cases h
      · split at h
        · cases h
        · rename_i hs
          have h2 := scanT_pos len j _ _ hs
          injection h with h
          rw [← h]
          intro t ht
          rcases List.mem_cons.1 ht with h3 | h3
          · subst h3
            constructor
            · exact Int.natCast_nonneg _
            · show (((len - _ : Nat)) : Int) ≤ _; omega
          · exact h2 t h3
theorem scan_pos {T : List UInt8} {l : List Tok} (h : scanL T = .ok l) : ∀ t ∈ l, 0 ≤ t.pos ∧ t.pos ≤ 65536 := fun t ht => by
  have hs := scan_short h
  rw [scanL_eq hs] at h
  have := scanT_pos _ _ _ _ h t ht
  omega
theorem scanT_bad_pos (len : Nat) : ∀ (j : Nat) (s : List UInt8) (p : Nat) (e : Int), scanT len j s = .bad p e → p ≤ len
  | 0, s, p, e, h => by rw [scanT] at h; cases h
  | j + 1, s, p, e, h => by
    rw [scanT] at h
    split at h
    · cases h
    · split at h
      · injection h with h1 h2
        omega
      · split at h
        · rename_i hs
          injection h with h1 h2
          rw [← h1]; exact scanT_bad_pos len j _ _ _ hs
        · cases h
theorem scan_bad_pos {T : List UInt8} {p : Nat} {e : Int} (h : scanL T = .bad p e) : p ≤ 65536 := by
  unfold scanL at h
  split at h
  · injection h with h1 h2
    omega
  · have := scanT_bad_pos _ _ _ _ _ h
    omega
/-- the scan of two lines -/
theorem scan_lines (a b : List UInt8) (h : a.length + 1 + b.length ≤ 65536) : scanL (a ++ 10 :: b) = match scanL a with
    | .bad p e => .bad p e
    | .ok l => match scanL b with
      | .bad p e => .bad (a.length + 1 + p) e
      | .ok m => .ok (l ++ m.map (shiftT ((a.length + 1 : Nat) : Int))) := by
  have h1 : (a ++ 10 :: b).length = a.length + 1 + b.length := by simp only [List.length_append, List.length_cons]; omega
  rw [scanL_eq (by omega), scanL_eq (show a.length ≤ 65536 by omega), scanL_eq (show b.length ≤ 65536 by omega), h1]
  exact scan_line a.length b a.length a rfl
theorem wpList_append_want {ops : Array Oper} {rest : List Oper} {o : Oper} {a : Act} {w : World} {Q : Exit → Act → World → Prop} (hw : Region.wanted o (yielded ops a.tmps) = true) (s x : Operand)
    (ho : o.op = .call { callee := .builtin .append, args := #[s, x], argTypes := #[23, 23] }) (ht : o.type = 23) (v u v' : Value) (w' : World) (hs : a.eval s = v) (hx : a.eval x = u)
    (hrun : (Builtin.append_ #[23, 23] 23 #[v, u]).run Tryz.prog w = .ok v' w') (h : wpList Tryz.prog ops Q rest (a.put o.dst v') w') : wpList Tryz.prog ops Q (o :: rest) a w := by
  refine BigFrame.wpList_want hw fun K hK => ?_
  unfold Oper.wp
  simp only [execOp, ho, ht, resolve, invoke, builtin, Sem.run_bind, Sem.run_pure, Result.andThen_ok, List.map_toArray, List.map_cons, List.map_nil, hs, hx, hrun]
  exact hK _ _ h
def setPos (q : Int) (t : Tok) : Tok := ⟨t.k, t.tx, t.n, q⟩
theorem tksC_set (q : Int) : ∀ (l : List Tok) (i : Nat) (h : i < l.length), tksC (l.set i (setPos q l[i])) = (tksC l).set (i * 4 + 3) (.int .i64 q)
  | t :: l, 0, _ => rfl
  | t :: l, i + 1, h => by
    have hi : i < l.length := by simpa using h
    have ih := tksC_set q l i hi
    show tkC t ++ tksC (l.set i (setPos q (l[i]'hi))) = (tkC t ++ tksC l).set ((i + 1) * 4 + 3) (.int .i64 q)
    rw [ih, List.set_append_right _ _ (by show 4 ≤ _; omega)]
    congr 1
    congr 1
    show i * 4 + 3 = (i + 1) * 4 + 3 - 4
    omega
theorem OwnK.setAt {A g cap n : Nat} {l : List Tok} {w : World} (h : OwnK A (.slice (some ⟨g, 0, none⟩) n cap) l w) {i : Nat} (hi : i < l.length) (q : Int) :
    OwnK A (.slice (some ⟨g, 0, none⟩) n cap) (l.set i (setPos q l[i])) (w.setCell ⟨g, i * 4 + 3, none⟩ (.int .i64 q)) := by
  unfold OwnK at *
  obtain ⟨h1, h2⟩ := h
  rcases h2 with ⟨e, _⟩ | ⟨g', cap', cur, e, h3, h4, h5, h6, h7, h8⟩
  · cases e
  · injection e with e1 e2 e3
    injection e1 with e1
    injection e1 with e1
    subst e1 e2 e3
    rw [List.length_set, tksC_set]
    refine ⟨by rw [List.length_set]; exact h1, .inr ⟨g, cap, _, rfl, h3, block_setCell h4 _ _, h5, h6, by rw [Array.size_setIfInBounds]; exact h7, ?_⟩⟩
    rw [Array.toList_setIfInBounds, List.take_set, h8]
def partL (d : Int) (m : List Tok) (i : Nat) : List Tok := (m.take i).map (shiftT d) ++ m.drop i
theorem partL_len (d : Int) (m : List Tok) (i : Nat) (h : i ≤ m.length) : (partL d m i).length = m.length := by
  unfold partL
  rw [List.length_append, List.length_map, List.length_take, List.length_drop]; omega
theorem partL_at (d : Int) (m : List Tok) (i : Nat) (h : i < m.length) (h2 : i < (partL d m i).length) : (partL d m i)[i] = m[i] := by
  have hl : ((m.take i).map (shiftT d)).length = i := by rw [List.length_map, List.length_take]; omega
  apply Option.some.inj
  rw [← List.getElem?_eq_getElem h2, ← List.getElem?_eq_getElem h]
  unfold partL
  rw [List.getElem?_append_right (by omega), hl, Nat.sub_self, List.getElem?_drop, Nat.add_zero]
theorem partL_step (d : Int) (m : List Tok) (i : Nat) (h : i < m.length) (h2 : i < (partL d m i).length) : (partL d m i).set i (setPos (m[i].pos + d) (partL d m i)[i]) = partL d m (i + 1) := by
  rw [partL_at d m i h h2]
  have hl : ((m.take i).map (shiftT d)).length = i := by rw [List.length_map, List.length_take]; omega
  unfold partL
  rw [List.set_append_right _ _ (by omega), hl, Nat.sub_self, List.drop_eq_getElem_cons h, List.set_cons_zero, List.take_succ_eq_append_getElem h, List.map_append, List.append_assoc]
  rfl
theorem OwnK.readAt {A g cap n : Nat} {l : List Tok} {w : World} (h : OwnK A (.slice (some ⟨g, 0, none⟩) n cap) l w) {i : Nat} (hi : i < l.length) {t : Tok} (ht : l[i] = t) : w.cell? ⟨g, i * 4 + 3, none⟩ = some (.int .i64 t.pos) ∧ w.frozen? ⟨g, i * 4 + 3, none⟩ = false ∧ A ≤ g ∧ g < w.heap.size := by
  rcases h.2 with ⟨e, _⟩ | ⟨g', cap', cur, e, h3, h4, h5, h6, h7, h8⟩
  · cases e
  · injection e with e1 e2 e3
    injection e1 with e1
    injection e1 with e1
    subst e1 e3
    refine ⟨?_, frees_of h4 _, h3, lt_of_block h4⟩
    have h9 := tksC_at l i hi 3 (.int .i64 t.pos) (by rw [ht]; rfl)
    rw [cells_of h4, ← Array.getElem?_toList]
    rw [← h8, List.getElem?_take] at h9
    split at h9
    · exact h9
    · cases h9
set_option maxRecDepth 100000 in
set_option maxHeartbeats 16000000 in
theorem LexLines_any (a b : List UInt8) (w : World) (ha : a.length ≤ 9223372036854775807) (hb : b.length ≤ 9223372036854775807) (hTb : Tb w) :
    Calls Tryz.prog 8 #[.string (ba a), .string (ba b)] w (Yes w) := by
  have HSh := Lib.hid (shown_any w hTb)
  have HTb := Lib.hid hTb
  have HSc := Lib.hid fun T W (hT : T.length ≤ 65536) (hb : Below w.heap.size w W) => Scan_any T W hT (hTb.below hb)
  have s1 : ((ba a).size : Int) = (a.length : Int) := by rw [ba_size]
  have s2 : ((ba b).size : Int) = (b.length : Int) := by rw [ba_size]
  have s3 : (ba a).size = a.length := ba_size a
  have s4 : (ba b).size = b.length := ba_size b
  clear hTb
  by_cases hab : 65536 < a.length + b.length + 1
  · have hbig : decide ((65536 : Int) < (a.length : Int) + (b.length : Int) + 1) = true := decide_eq_true (by omega)
    by_cases h1 : 65536 < a.length
    · have x1 : (65536 : Int) < (a.length : Int) := by omega
      go_enter Tryz.func8, Tryz.ntmps8
      go_wp2_with fail
      refine HSh.out.mono ?_
      rintro e w1 ⟨rfl, hb1⟩
      have HW1 := Lib.hid hb1
      clear hb1
      go_wp2_with fail
      go_ret
      exact ⟨rfl, HW1.out⟩
    · have x1 : decide ((65536 : Int) < (a.length : Int)) = false := decide_eq_false (by omega)
      by_cases h2 : 65536 < b.length
      · have x2 : (65536 : Int) < (b.length : Int) := by omega
        go_enter Tryz.func8, Tryz.ntmps8
        go_wp2_with fail
        refine HSh.out.mono ?_
        rintro e w1 ⟨rfl, hb1⟩
        have HW1 := Lib.hid hb1
        clear hb1
        go_wp2_with fail
        go_ret
        exact ⟨rfl, HW1.out⟩
      · have x2 : decide ((65536 : Int) < (b.length : Int)) = false := decide_eq_false (by omega)
        go_enter Tryz.func8, Tryz.ntmps8
        go_wp2_with fail
        refine HSh.out.mono ?_
        rintro e w1 ⟨rfl, hb1⟩
        have HW1 := Lib.hid hb1
        clear hb1
        go_wp2_with fail
        go_ret
        exact ⟨rfl, HW1.out⟩
  · have x1 : decide ((65536 : Int) < (a.length : Int)) = false := decide_eq_false (by omega)
    have x2 : decide ((65536 : Int) < (b.length : Int)) = false := decide_eq_false (by omega)
    have x3 : decide ((65536 : Int) < (a.length : Int) + (b.length : Int) + 1) = false := decide_eq_false (by omega)
    have hla : a.length ≤ 65536 := by omega
    have hlb : b.length ≤ 65536 := by omega
    have HSl := Lib.hid (scan_lines a b (by omega))
    have HSab := Lib.hid fun W (hb : Below w.heap.size w W) => (show Calls Tryz.prog 10 #[.string (ba a ++ ⟨#[10]⟩ ++ ba b)] W (ScanP (scanL (a ++ 10 :: b)) W) from by
      have e : ba a ++ (⟨#[10]⟩ : ByteArray) ++ ba b = ba (a ++ 10 :: b) := by
        apply ByteArray.ext; simp [ba]
      rw [e]
      exact HSc.out _ W (by simp only [List.length_append, List.length_cons]; omega) hb)
    have HPb := Lib.hid fun m => scan_pos (T := b) (l := m)
    have HNa := Lib.hid fun p e => scan_bad_ne (s := a) (p := p) (e := e)
    have HNb := Lib.hid fun p e => scan_bad_ne (s := b) (p := p) (e := e)
    have HBb := Lib.hid fun p e => scan_bad_pos (T := b) (p := p) (e := e)
    have HLa := Lib.hid fun l => scan_ok_len (s := a) (l := l)
    have HLb := Lib.hid fun l => scan_ok_len (s := b) (l := l)
    have HLab := Lib.hid fun l => scan_ok_len (s := a ++ 10 :: b) (l := l)
    have HSa := Lib.hid fun W (hb : Below w.heap.size w W) => HSc.out a W hla hb
    have HSb := Lib.hid fun W (hb : Below w.heap.size w W) => HSc.out b W hlb hb
    generalize scanL (a ++ 10 :: b) = rab at HSl HSab HLab
    generalize scanL a = ra at HSl HNa HLa HSa
    generalize scanL b = rb at HSl HNb HLb HSb HPb HBb
    have y1 : ¬ 9223372036854775807 < a.length + 1 := by omega
    have y2 : ¬ 9223372036854775807 < a.length + 1 + b.length := by omega
    clear hab HSc
    go_enter Tryz.func8, Tryz.ntmps8
    go_wp2_with fail
    refine HSh.out.mono ?_
    rintro e w1 ⟨rfl, hb1⟩
    have HW1 := Lib.hid hb1
    have hz1 := hb1.size
    clear hb1 HSh
    go_wp2_with fail
    refine (HSa.out w1 HW1.out).mono ?_
    intro e w2 hs2
    cases ra with
    | bad p er =>
      obtain ⟨rfl, hb2⟩ := hs2
      have HW2 := Lib.hid (bstep HW1.out hb2)
      have hen := HNa.out p er rfl
      have hrab : rab = .bad p er := HSl.out
      subst hrab
      clear hb2 HSl
      go_wp2_with fail
      refine (HSb.out w2 HW2.out).mono ?_
      intro e w3 hs3
      obtain ⟨v3, q, f, rfl, hb3⟩ : ∃ v3 q f, e = .returned (.tuple #[v3, .int .i64 q, .int .i64 f]) ∧ Below w2.heap.size w2 w3 := by
        cases rb with
        | bad p e => exact ⟨_, _, _, hs3.1, hs3.2⟩
        | ok m =>
          obtain ⟨v, h1, h2, h3⟩ := hs3
          exact ⟨_, _, _, h1, h3⟩
      have HW3 := Lib.hid (bstep HW2.out hb3)
      clear hb3 hs3
      go_wp2_with fail
      refine (HSab.out w3 HW3.out).mono ?_
      rintro e w4 ⟨rfl, hb4⟩
      have HW4 := Lib.hid (bstep HW3.out hb4)
      clear hb4
      go_wp2_with fail
      go_ret
      exact ⟨rfl, HW4.out⟩
    | ok l =>
      obtain ⟨v2, rfl, hv2, hb2⟩ := hs2
      have HW2 := Lib.hid (bstep HW1.out hb2)
      have hz2 := hb2.size
      have HV2 := Lib.hid (hv2.rdk (by have := HLa.out l rfl; omega))
      clear hb2 hv2
      go_wp2_with fail
      refine (HSb.out w2 HW2.out).mono ?_
      intro e w3 hs3
      cases rb with
      | bad p er =>
        obtain ⟨rfl, hb3⟩ := hs3
        have HW3 := Lib.hid (bstep HW2.out hb3)
        have hen := HNb.out p er rfl
        have hpb := HBb.out p er rfl
        have hrab : rab = .bad (a.length + 1 + p) er := HSl.out
        subst hrab
        have xq : (((a.length + 1 + p : Nat) : Int)) = (a.length : Int) + 1 + (p : Int) := by omega
        clear hb3 HSl
        go_wp2_with fail
        refine (HSab.out w3 HW3.out).mono ?_
        rintro e w4 ⟨rfl, hb4⟩
        have HW4 := Lib.hid (bstep HW3.out hb4)
        clear hb4
        rw [xq]
        clear xq
        go_wp2_with fail
        go_ret
        exact ⟨rfl, HW4.out⟩
      | ok m =>
        obtain ⟨v3, rfl, hv3, hb3⟩ := hs3
        have HW3 := Lib.hid (bstep HW2.out hb3)
        have HV3 := Lib.hid (HV2.out.below hb3 (Nat.le_refl _))
        have hz3 := hb3.size
        have HO3 := Lib.hid hv3
        have hrab : rab = .ok (l ++ m.map (shiftT ((a.length + 1 : Nat) : Int))) := HSl.out
        have hll := HLa.out l rfl
        have hml := HLb.out m rfl
        have hPm := HPb.out m rfl
        have HPm := Lib.hid hPm
        have HPL := Lib.hid (show m.map (shiftT ((a.length + 1 : Nat) : Int)) = partL ((a.length + 1 : Nat) : Int) m m.length from by unfold partL; rw [List.take_length, List.drop_length, List.append_nil])
        rw [HPL.out] at hrab
        subst hrab
        have hnl := HLab.out _ rfl
        rw [List.length_append, partL_len _ _ _ (Nat.le_refl _)] at hnl
        clear hb3 hv3 HSl hPm HPb HBb HNa HNb HLa HLb HLab HPL
        go_wp2_with fail
        refine (HSab.out w3 HW3.out).mono ?_
        rintro e w4 ⟨v4, rfl, hv4, hb4⟩
        have HW4 := Lib.hid (bstep HW3.out hb4)
        have HV4 := Lib.hid (HV3.out.below hb4 hz3)
        have hz4 := hb4.size
        have HO4 := Lib.hid (HO3.out.below hb4)
        have HN4 := Lib.hid hv4
        have hd : (((a.length + 1 : Nat)) : Int) = (a.length : Int) + 1 := by omega
        have hm0 : ∃ ao cap, v3 = .slice ao m.length cap ∧ (m ≠ [] → ∃ g, ao = some ⟨g, 0, none⟩ ∧ g < w3.heap.size) := by
          rcases HO3.out.2 with ⟨e1, e2⟩ | ⟨g, cap, cur, e1, e2, e3, -⟩
          · exact ⟨none, 0, by rw [e1, e2], fun h => absurd (List.length_eq_zero_iff.1 e2) h⟩
          · exact ⟨_, cap, e1, fun _ => ⟨g, rfl, lt_of_block e3⟩⟩
        obtain ⟨ao, cap, rfl, hg0⟩ := hm0
        have HG0 := Lib.hid hg0
        clear hb4 hv4 hg0 HSab HSa HSb HV3 HO3
        generalize hD : (((a.length + 1 : Nat)) : Int) = D at *
        go_wp2_with fail
        go_loopw [14] (fun v wr => ∃ i : Nat, v = .int .i64 (i : Int) ∧ i ≤ m.length ∧ Hid (OwnK w2.heap.size (.slice ao m.length cap) (partL D m i) wr) ∧ Hid (OwnK w3.heap.size v4 (l ++ partL D m m.length) wr) ∧ Hid (Below w2.heap.size w4 wr)) (fun v _ => m.length - (intOf v).toNat)
        case atStart => exact ⟨0, rfl, Nat.zero_le _, HO4, HN4, Lib.hid (Below.refl _ _)⟩
        case round =>
          obtain ⟨i, rfl, hi, HO, HN, HB⟩ := hrel
          clear HO4 HN4
          by_cases hlt : i < m.length
          · have z1 : (i : Int) < (m.length : Int) := by omega
            have hne : m ≠ [] := by intro h; subst h; simp at hlt
            obtain ⟨g, rfl, hg⟩ := HG0.out hne
            have hil : i < (partL D m i).length := by rw [partL_len _ _ _ hi]; exact hlt
            obtain ⟨x, hx⟩ : ∃ x, m[i] = x := ⟨_, rfl⟩
            obtain ⟨c3, fr, hAg, hgs⟩ := HO.out.readAt hil ((partL_at D m i hlt hil).trans hx)
            have hset := HO.out.setAt hil (m[i].pos + D)
            rw [partL_step D m i hlt hil, hx] at hset
            have hp := HPm.out x (hx ▸ List.getElem_mem hlt)
            have HO2 := Lib.hid hset
            have HN2 := Lib.hid (HN.out.ch (Ch.of_set wr g (i * 4 + 3) (.int .i64 (x.pos + D))) (fun b h1 _ h2 => by omega))
            have HB2 := Lib.hid (HB.out.trans ((Ch.of_set wr g (i * 4 + 3) (.int .i64 (x.pos + D))).below (by have := HB.out.size; omega) (fun k h1 h2 => by omega)))
            have xD : x.pos + D = x.pos + (a.length : Int) + 1 := by omega
            rw [xD] at HO2 HN2 HB2
            clear hset hx hne xD
            go_wp2_with fail
            go_roundw
            case rel => exact ⟨i + 1, by go_num, by omega, HO2, HN2, HB2⟩
            case measure => simp only [intOf]; omega
          · have z1 : ¬ (i : Int) < (m.length : Int) := by omega
            obtain rfl : i = m.length := by omega
            have hpl := partL_len D m m.length (Nat.le_refl _)
            have hVl := HV4.out.below HB.out (Nat.le_refl _)
            have hzz := HB.out.size
            have hVm := HO.out.rdk (by omega)
            have hVn := HN.out.rdk (by rw [List.length_append]; omega)
            have hownE : OwnK wr.heap.size (.slice (some ⟨wr.heap.size, 0, none⟩) ([] : List Tok).length 0) [] (wr.alloc (.cells #[] 36 (0, 0))) :=
              ⟨rfl, .inr ⟨wr.heap.size, 0, #[], rfl, Nat.le_refl _, heap_alloc_new wr _, Nat.le_refl _, Nat.zero_le _, rfl, rfl⟩⟩
            have hbE := below_alloc wr (.cells #[] 36 (0, 0))
            obtain ⟨g5, cap5, w5, hrun5, hown5, hb5, -⟩ := append_run _ wr.heap.size wr.heap.size 0 [] l wr.heap.size v2 hownE ((hVl.below hbE (by omega)).more (by omega)) (by simp only [List.length_nil]; omega) hbE.size
            simp only [List.length_nil, Nat.zero_add, List.nil_append] at hrun5 hown5
            have hb5' := hbE.trans hb5
            obtain ⟨g6, cap6, w6, hrun6, hown6, hb6, -⟩ := append_run w5 wr.heap.size g5 cap5 l (partL D m m.length) wr.heap.size _ hown5 (hVm.below hb5' (Nat.le_refl _)) (by omega) hb5'.size
            rw [hpl] at hrun6 hown6
            have hb6' := hb5'.trans hb6
            have HEq := Lib.hid (show Calls Tryz.prog 12 #[v4, .slice (some ⟨g6, 0, none⟩) (l.length + m.length) cap6] w6 fun e w' => e = .returned (.bool true) ∧ Below w6.heap.size w6 w' from by
              have h := equal_any w6.heap.size _ _ _ _ w6 ((hVn.below hb6' (Nat.le_refl _)).more hb6'.size) (hown6.rdk (by rw [List.length_append]; omega)) (Nat.le_refl _)
              rw [eqL_refl] at h
              exact h)
            have HW6 := Lib.hid (bstep (HW4.out.trans (HB.out.mono HW2.out.size)) hb6')
            have HRun5 := Lib.hid hrun5
            have HRun6 := Lib.hid hrun6
            clear hrun5 hrun6 hown5 hown6 hb5 hb6 hb5' hb6' hbE hownE hVl hVm hVn hpl
            go_wp2_with (at_builtin; first | (refine wpList_append_want (by rfl) _ _ rfl rfl _ _ _ _ rfl rfl HRun5.out ?_) | (refine wpList_append_want (by rfl) _ _ rfl rfl _ _ _ _ rfl rfl HRun6.out ?_))
            refine HEq.out.mono ?_
            rintro e w7 ⟨rfl, hb7⟩
            have HW7 := Lib.hid (bstep HW6.out hb7)
            clear hb7
            go_wp2_with fail
            go_ret
            exact ⟨rfl, HW7.out⟩
end Go.Proofs.YtmcnhggpmlhgeaaGreatDoor
