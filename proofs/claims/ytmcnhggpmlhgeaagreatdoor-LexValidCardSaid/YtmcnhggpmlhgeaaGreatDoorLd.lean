/-
  Walks: Scan of lex. Walks: Same of lex; rows of tokens that are read.
-/
import Derived.Test.YtmcnhggpmlhgeaaGreatDoorLxM
import Derived.Test.YtmcnhggpmlhgeaaGreatDoorLc
import Derived.Laws.AppendOwn
namespace Go.Proofs.YtmcnhggpmlhgeaaGreatDoor
open Go.RowKit
/-- Scan, where white space has been passed -/
def headT (len j : Nat) (s : List UInt8) : SR := match s with
  | [] => .ok []
  | c :: r => match tokT (c :: r) with
    | .bad e => .bad (len - (c :: r).length) e
    | .tok k tx n rest => match scanT len j rest with
      | .bad p e => .bad p e
      | .ok l => .ok (⟨k, tx, n, ((len - (c :: r).length : Nat) : Int)⟩ :: l)
theorem scanT_head (len j : Nat) (s : List UInt8) : scanT len (j + 1) s = headT len j (skipT false s) := by rw [scanT]; rfl
def appS (acc : List Tok) : SR → SR
  | .bad p e => .bad p e
  | .ok l => .ok (acc ++ l)
/-- where the loop of Scan stands -/
def ScSt (len : Nat) (res : SR) (acc : List Tok) (s : List UInt8) : Prop := ∃ j, s.length ≤ j ∧ res = appS acc (headT len j s)
theorem ScSt.start (T : List UInt8) : ScSt T.length (scanF T.length T) [] (skipT false T) := by
  refine ⟨T.length, skip_len _ _, ?_⟩
  unfold scanF
  rw [scanT_head]
  cases headT T.length T.length (skipT false T) <;> rfl
theorem ScSt.stop {len : Nat} {res : SR} {acc : List Tok} (h : ScSt len res acc []) : res = .ok acc := by
  obtain ⟨j, _, rfl⟩ := h
  show SR.ok (acc ++ []) = _
  rw [List.append_nil]
theorem ScSt.bad {len : Nat} {res : SR} {acc : List Tok} {s : List UInt8} {e : Int} (h : ScSt len res acc s) (h0 : s ≠ []) (ht : tokT s = .bad e) : res = .bad (len - s.length) e := by
  obtain ⟨j, _, rfl⟩ := h
  cases s with
  | nil => exact absurd rfl h0
  | cons c r => unfold headT; simp only [ht]; rfl
theorem ScSt.next {len : Nat} {res : SR} {acc : List Tok} {s : List UInt8} {k : Int} {tx : List UInt8} {n : Nat} {rest : List UInt8} (h : ScSt len res acc s) (ht : tokT s = .tok k tx n rest) : ScSt len res (acc ++ [⟨k, tx, n, ((len - s.length : Nat) : Int)⟩]) (skipT false rest) := by
  obtain ⟨j, hj, rfl⟩ := h
  have hl := tok_len ht
  cases s with
  | nil => simp at hl
  | cons c r =>
    cases j with
    | zero => simp at hj
    | succ j =>
      refine ⟨j, Nat.le_trans (skip_len _ _) (by omega), ?_⟩
      rw [headT]
      simp only [ht]
      rw [scanT_head]
      cases headT len j (skipT false rest) with
      | bad p e => rfl
      | ok l => simp [appS]
theorem bad_ne {s : List UInt8} {e : Int} (h : tokT s = .bad e) : e = 90 ∨ e = 91 ∨ e = 92 ∨ e = 93 := by
  cases s with
  | nil => rw [tokT] at h; injection h with h; omega
  | cons c r =>
    rw [tokT] at h
    split at h
    · rw [nameT] at h
      split at h
      · injection h with h; omega
      · cases h
    · split at h
      · rw [numT] at h
        split at h
        · cases h
        · injection h with h; omega
      · split at h
        · split at h
          · injection h with h; omega
          · cases h
        · split at h
          · injection h with h; omega
          · cases h
/-- a row of tokens, as cells -/
def tkC (t : Tok) : List Value := [.int .i64 t.k, .string (ba t.tx), .int .u64 (t.n : Int), .int .i64 t.pos]
def tksC (l : List Tok) : List Value := l.flatMap tkC
theorem tksC_app (l m : List Tok) : tksC (l ++ m) = tksC l ++ tksC m := by unfold tksC; rw [List.flatMap_append]
theorem tksC_one (t : Tok) : tksC [t] = tkC t := by unfold tksC; simp
theorem tkC_cell (t : Tok) : ∀ u ∈ tkC t, u.oneCell' = true := by
  intro u hu
  simp only [tkC, List.mem_cons, List.not_mem_nil, or_false] at hu
  rcases hu with rfl | rfl | rfl | rfl <;> rfl
/-- a row of tokens that the call owns -/
def OwnK (A : Nat) (v : Value) (l : List Tok) (w : World) : Prop := w.ownsRow A 36 4 v l.length (tksC l)
theorem OwnK.nil (A : Nat) (w : World) : OwnK A (.slice none 0 0) [] w := World.ownsRow_nil _ _ _ _
theorem OwnK.ch {A : Nat} {v : Value} {l : List Tok} {w w' : World} {C : Nat → Prop} (h : OwnK A v l w) (hm : Ch C w w') (hC : ∀ b, A ≤ b → b < w.heap.size → ¬ C b) : OwnK A v l w' := by
  obtain ⟨h1, h2 | ⟨g, cap, cur, e1, hg, hh, r⟩⟩ := h
  · exact ⟨h1, .inl h2⟩
  · exact ⟨h1, .inr ⟨g, cap, cur, e1, hg, (hm.block g (lt_of_block hh) (hC g hg (lt_of_block hh))).trans hh, r⟩⟩
theorem OwnK.below {A : Nat} {v : Value} {l : List Tok} {w w' : World} (h : OwnK A v l w) (hb : Below w.heap.size w w') : OwnK A v l w' := h.ch (Ch.of_below (C := fun _ => False) hb) fun _ _ _ h => h
theorem OwnK.less {A B : Nat} {v : Value} {l : List Tok} {w : World} (h : OwnK B v l w) (hA : A ≤ B) : OwnK A v l w := by
  refine ⟨h.1, h.2.imp_right ?_⟩
  rintro ⟨g, cap, cur, e1, hg, r⟩
  exact ⟨g, cap, cur, e1, by omega, r⟩
theorem tok_news {w : World} {N : Nat} {xs : List Value} (h : w.heap[N]? = some (.cells xs.toArray 36 (0, 0))) : ∀ j u, xs[j]? = some u → w.cell? ((⟨N, 0, none⟩ : Addr).add j) = some u := fun j u hj => by
  have e : (⟨N, 0, none⟩ : Addr).add j = ⟨N, j, none⟩ := by
    unfold Addr.add; split <;> simp_all
  rw [e]
  have := cells_of h j
  rwa [List.getElem?_toArray, hj] at this
theorem Tryz.tokinfo : (Tryz.prog.info? 36).map (fun i => (i.zero, i.size, i.bytes)) = some (some (.agg #[.int .i64 0, .string ⟨#[]⟩, .int .u64 0, .int .i64 0]), 4, 40) := by kernel_rfl
theorem Tb.ch {w w' : World} {C : Nat → Prop} (h : Tb w) (hb : Ch C w w') (h9 : ∀ k, C k → 6 ≤ k) : Tb w' := by
  obtain ⟨h1, ⟨tp, p, h2⟩, h3, h4⟩ := h
  have hb9 : Below 6 w w' := ⟨hb.os, hb.tape, hb.output, hb.size, fun k hk => hb.block k (Nat.lt_of_lt_of_le hk h4) (fun hc => by have := h9 k hc; omega)⟩
  exact ⟨var?_below hb9 g_as (by decide) h1, ⟨tp, p, var?_below hb9 g_er (by decide) h2⟩, var?_below hb9 g_pw (by decide) h3, Nat.le_trans h4 hb.size⟩
/-- what Scan answers -/
def ScanP (r : SR) (w : World) (e : Ending) (w' : World) : Prop := match r with
  | .bad p er => e = .returned (.tuple #[.slice none 0 0, .int .i64 (p : Int), .int .i64 er]) ∧ Below w.heap.size w w'
  | .ok l => ∃ v, e = .returned (.tuple #[v, .int .i64 0, .int .i64 0]) ∧ OwnK w.heap.size v l w' ∧ Below w.heap.size w w'
theorem ScanP.bad {r : SR} {w w' : World} {e : Ending} {p : Nat} {er : Int} (h : r = .bad p er) (h1 : e = .returned (.tuple #[.slice none 0 0, .int .i64 (p : Int), .int .i64 er])) (hb : Below w.heap.size w w') : ScanP r w e w' := by subst h; exact ⟨h1, hb⟩
theorem ScanP.ok {r : SR} {w w' : World} {e : Ending} {l : List Tok} {v : Value} (h : r = .ok l) (h1 : e = .returned (.tuple #[v, .int .i64 0, .int .i64 0])) (hv : OwnK w.heap.size v l w') (hb : Below w.heap.size w w') : ScanP r w e w' := by subst h; exact ⟨v, h1, hv, hb⟩
set_option maxRecDepth 100000 in
set_option maxHeartbeats 8000000 in
theorem Scan_long (T : List UInt8) (w : World) (hT : 65536 < T.length) (hT2 : T.length ≤ 9223372036854775807) :
    Calls Tryz.prog 10 #[.string (ba T)] w (ScanP (scanL T) w) := by
  have hr := scanL_long hT
  generalize scanL T = r at hr ⊢
  have HR := Lib.hid hr
  clear hr
  have s1 : ((ba T).size : Int) = (T.length : Int) := by rw [ba_size]
  have s2 : (ba T).size = T.length := by rw [ba_size]
  have x1 : (65536 : Int) < (T.length : Int) := by omega
  go_enter Tryz.func10, Tryz.ntmps10
  go_wp2_with fail
  go_ret3
  exact ScanP.bad HR.out rfl (Below.refl _ _)
set_option maxRecDepth 100000 in
set_option maxHeartbeats 8000000 in
theorem Scan_any (T : List UInt8) (w : World) (hT : T.length ≤ 65536) (hTb : Tb w) :
    Calls Tryz.prog 10 #[.string (ba T)] w (ScanP (scanL T) w) := by
  have hr := scanL_eq hT
  have hst := ScSt.start T
  rw [← hr] at hst
  clear hr
  generalize scanL T = r at hst ⊢
  have HS := Lib.hid hst
  clear hst
  have s1 : ((ba T).size : Int) = (T.length : Int) := by rw [ba_size]
  have s2 : (ba T).size = T.length := by rw [ba_size]
  have x1 : ¬ (65536 : Int) < (T.length : Int) := by omega
  have hw9 := hTb.sz
  have HTb := Lib.hid hTb
  clear hTb
  have HRs := Lib.hid (reserved_any w fun W hb => (HTb.out.below hb).sp)
  obtain ⟨i0, hi0, hk0⟩ := Option.map_eq_some_iff.1 Tryz.tokinfo
  simp only [Prod.mk.injEq] at hk0
  obtain ⟨iz0, iz1, iz2⟩ := hk0
  have HI := Lib.hid (And.intro hi0 (And.intro iz0 (And.intro iz1 iz2)))
  clear hi0 iz0 iz1 iz2
  go_enter Tryz.func10, Tryz.ntmps10
  go_wp2_with fail
  refine (HRs.out).mono ?_
  rintro e w1 ⟨rfl, hm, hb⟩
  have hz1 := hb.size
  have hmlt : w.heap.size < w1.heap.size := World.ownsMap.lt hm
  have HT1 := Lib.hid (HTb.out.below hb)
  have hb9 : 6 ≤ w1.heap.size := HT1.out.sz
  have HA := Lib.hid (show Bq w1 [.any (fun k => k = w.heap.size) (Wds w.heap.size) (fun _ _ h hk hz => Wds.keep h hk hz), .base (fun b => w.heap.size ≤ b) w] from ⟨hm, Ch.of_belowB hb, trivial⟩)
  clear hm hb HRs
  go_wp2_with fail
  have HB := Lib.hid (HA.out.box #[.string (ba T), .int .i64 ((0 : Nat) : Int), .map (some w.heap.size)] 43 (n := w1.heap.size) rfl)
  clear HA
  refine (skip_any w1.heap.size T 0 (.map (some w.heap.size)) _ (HB.out.blk 0 rfl) (by omega) (Nat.zero_le _)).mono ?_
  rintro e w2 ⟨rfl, P, -, hP, hsk, hr, ho⟩
  have HT2 := Lib.hid ((HT1.out.below (below_alloc _ _)).chR ho hb9)
  have HC := Lib.hid (HB.out.call 0 ho hr (by refine ⟨?_, ?_, trivial⟩ <;> (simp only [Fq.apart]; first | omega | (intro b h1 h2; omega) | (intro b h1; omega) | (intro b h1 h2 h3; omega))))
  have hz2 := ho.size
  rw [World.size_alloc] at hz2
  clear HB ho hr HT1
  rw [List.drop_zero] at hsk
  rw [← hsk] at HS
  clear hsk
  generalize hA : w1.heap.size + 1 = A at hz2
  generalize w1.heap.size = R at *
  go_wp2_with fail
  go_loopw [2] (fun v wr => ∃ (P : Nat) (acc : List Tok), P ≤ T.length ∧ acc.length ≤ P ∧ Hid (ScSt T.length r acc (T.drop P)) ∧ Hid (Bq wr [.blk R #[.string (ba T), .int .i64 ((P : Nat) : Int), .map (some w.heap.size)] 43, .any (fun k => k = w.heap.size) (Wds w.heap.size) (fun _ _ h hk hz => Wds.keep h hk hz), .base (fun b => w.heap.size ≤ b) w]) ∧ Hid (OwnK A v acc wr) ∧ Hid (Tb wr) ∧ A ≤ wr.heap.size) (fun _ wr => T.length - atOf R wr)
  case atStart => exact ⟨P, [], hP, Nat.zero_le _, HS, HC, Lib.hid (OwnK.nil _ _), HT2, hz2⟩
  case round =>
    clear HS HC HT2 hz2 hP P
    obtain ⟨P, acc, hP, hacc, HS, HC, HO, HT, hzr⟩ := hrel
    have hat := atOf_of (p := P) (HC.out.blk 0 rfl)
    have c0 := cells_of (HC.out.blk 0 rfl) 0
    have c1 := cells_of (HC.out.blk 0 rfl) 1
    have c2 := cells_of (HC.out.blk 0 rfl) 2
    by_cases hlt : P < T.length
    · skip
      have x2 : (P : Int) < (T.length : Int) := by omega
      go_wp2_with fail
      have hdl : (T.drop P).length = T.length - P := List.length_drop
      have hne : T.drop P ≠ [] := by intro h; rw [h] at hdl; simp at hdl; omega
      have HTk := Lib.hid (token_any R T P w.heap.size wr (HC.out.blk 0 rfl) (HC.out.any 1 rfl) (by omega) (by omega) hlt HT.out (by omega))
      cases htr : tokT (T.drop P) with
      | bad er =>
        have HR := Lib.hid (HS.out.bad hne htr)
        rw [hdl, show T.length - (T.length - P) = P by omega] at HR
        have he := bad_ne htr
        rw [htr] at HTk
        clear htr
        refine HTk.out.mono ?_
        rintro e w3 ⟨rfl, P3, hP31, hP32, -, hr, ho⟩
        rw [show tokV (.bad er) = .tuple #[.agg #[.int .i64 0, .string ⟨#[]⟩, .int .u64 0, .int .i64 0], .int .i64 er] from rfl]
        have HD := Lib.hid (HC.out.call 0 ho hr (by refine ⟨?_, ?_, trivial⟩ <;> (simp only [Fq.apart]; first | omega | (intro b h1 h2; omega) | (intro b h1; omega) | (intro b h1 h2 h3; omega))))
        clear HTk ho hr c0 c1 c2
        have xe : ¬ er = 0 := by omega
        go_wp2_with fail
        go_ret3
        exact ScanP.bad HR.out rfl (balloc ((HD.out.base 2 rfl).below (Nat.le_refl _) (fun k h1 h2 => by omega)) _)
      | tok k tx n rest =>
        have hlr := tok_len htr
        rw [hdl] at hlr
        have HN := Lib.hid (HS.out.next htr)
        rw [hdl, show T.length - (T.length - P) = P by omega] at HN
        rw [htr] at HTk
        clear htr
        refine HTk.out.mono ?_
        rintro e w3 ⟨rfl, P3, hP31, hP32, hrest, hr, ho⟩
        have hrest : T.drop P3 = rest := hrest
        have hPP : P < P3 := by rw [← hrest, List.length_drop] at hlr; omega
        rw [show tokV (.tok k tx n rest) = .tuple #[.agg #[.int .i64 k, .string (ba tx), .int .u64 (n : Int), .int .i64 0], .int .i64 0] from rfl]
        have hz3 := ho.size
        have HO3 := Lib.hid (HO.out.ch ho fun b h1 h2 => by omega)
        have HT3 := Lib.hid (HT.out.chR ho (by omega))
        have HD := Lib.hid (HC.out.call 0 ho hr (by refine ⟨?_, ?_, trivial⟩ <;> (simp only [Fq.apart]; first | omega | (intro b h1 h2; omega) | (intro b h1; omega) | (intro b h1 h2 h3; omega))))
        clear HTk ho hr c0 c1 c2
        have HO4 := Lib.hid (HO3.out.below (balloc (below_alloc w3 (.cells #[.int .i64 k, .string (ba tx), .int .u64 (n : Int), .int .i64 (P : Int)] 36 (0, 0))) (.cells #[.int .i64 k, .string (ba tx), .int .u64 (n : Int), .int .i64 (P : Int)] 36 (0, 0))))
        have HN4 := Lib.hid (heap_alloc_new (w3.alloc (.cells #[.int .i64 k, .string (ba tx), .int .u64 (n : Int), .int .i64 (P : Int)] 36 (0, 0))) (.cells #[.int .i64 k, .string (ba tx), .int .u64 (n : Int), .int .i64 (P : Int)] 36 (0, 0)))
        have HD4 := Lib.hid ((HD.out.alloc (.cells #[.int .i64 k, .string (ba tx), .int .u64 (n : Int), .int .i64 (P : Int)] 36 (0, 0))).alloc (.cells #[.int .i64 k, .string (ba tx), .int .u64 (n : Int), .int .i64 (P : Int)] 36 (0, 0)))
        have HT4 := Lib.hid (HT3.out.below (balloc (below_alloc w3 (.cells #[.int .i64 k, .string (ba tx), .int .u64 (n : Int), .int .i64 (P : Int)] 36 (0, 0))) (.cells #[.int .i64 k, .string (ba tx), .int .u64 (n : Int), .int .i64 (P : Int)] 36 (0, 0))))
        clear HO HC HT HO3 HT3 HD HS
        have hz4 : ((w3.alloc (.cells #[.int .i64 k, .string (ba tx), .int .u64 (n : Int), .int .i64 (P : Int)] 36 (0, 0))).alloc (.cells #[.int .i64 k, .string (ba tx), .int .u64 (n : Int), .int .i64 (P : Int)] 36 (0, 0))).heap.size = w3.heap.size + 1 + 1 := by rw [World.size_alloc, World.size_alloc]
        have HZ4 := Lib.hid hz4
        clear hz4
        go_wp2_with (at_builtin; refine wpList_append_own _ rfl (.tmp 34) (.tmp 36) 23 rfl A 36 i0 (.agg #[.int .i64 0, .string ⟨#[]⟩, .int .u64 0, .int .i64 0]) 4 40 Tryz.underlying23 HI.out.1 HI.out.2.1 HI.out.2.2.1 HI.out.2.2.2 rfl (by decide) _ acc.length (tksC acc) rfl HO4.out ⟨w3.heap.size + 1, 0, none⟩ 1 1 (tkC ⟨k, tx, n, (P : Int)⟩) rfl rfl (tok_news (by have h := HN4.out; rw [World.size_alloc] at h; exact h)) (tkC_cell _) (by unfold maxLen; omega) (by omega) (by rw [HZ4.out]; omega) ?_; intro v1 w4 hown4 hgrow4 _)
        have HO5 := Lib.hid (show OwnK A v1 (acc ++ [⟨k, tx, n, (P : Int)⟩]) w4 from by unfold OwnK; rw [tksC_app, tksC_one, List.length_append]; exact hown4)
        have hm5 : Ch (fun b => A ≤ b) _ w4 := Ch.grown hgrow4 (fun j hj => (World.ownsRow.lt HO4.out j hj).1)
        have HD5 := Lib.hid (HD4.out.move hm5 (by refine ⟨?_, ?_, ?_, trivial⟩ <;> (simp only [Fq.apart]; first | omega | (intro b h1 h2; omega) | (intro b h1; omega) | (intro b h1 h2 h3; omega))))
        have HT5 := Lib.hid (HT4.out.ch hm5 (fun j hj => by omega))
        have hz5 := hm5.size
        rw [HZ4.out] at hz5
        clear hm5 hown4 hgrow4 HD4 HT4 HO4 HN4 HZ4
        refine (skip_any R T P3 (.map (some w.heap.size)) w4 (HD5.out.blk 0 rfl) (by omega) hP32).mono ?_
        rintro e w6 ⟨rfl, P6, hP61, hP62, hsk, hr, ho⟩
        rw [hrest] at hsk
        rw [← hsk] at HN
        clear hsk hrest
        have HO6 := Lib.hid (HO5.out.ch ho fun b h1 h2 => by omega)
        have HT6 := Lib.hid (HT5.out.chR ho (by omega))
        have hz6 := ho.size
        have HD6 := Lib.hid (HD5.out.call 0 ho hr (by refine ⟨?_, ?_, trivial⟩ <;> (simp only [Fq.apart]; first | omega | (intro b h1 h2; omega) | (intro b h1; omega) | (intro b h1 h2 h3; omega))))
        clear HO5 HT5 HD5 ho hr
        go_wp2_with fail
        go_roundw
        case rel => exact ⟨P6, _, hP62, by rw [List.length_append]; show acc.length + 1 ≤ P6; omega, HN, HD6, HO6, HT6, by omega⟩
        case measure => rw [atOf_of (p := P6) (HD6.out.blk 0 rfl), hat]; omega
    · skip
      have x2 : ¬ (P : Int) < (T.length : Int) := by omega
      obtain rfl : P = T.length := by omega
      rw [List.drop_length] at HS
      go_wp2_with fail
      go_ret3
      exact ScanP.ok HS.out.stop rfl (HO.out.less (by omega)) ((HC.out.base 2 rfl).below (Nat.le_refl _) (fun k h1 h2 => by omega))
end Go.Proofs.YtmcnhggpmlhgeaaGreatDoor
namespace Go.Proofs.YtmcnhggpmlhgeaaGreatDoor
open Go.RowKit
/-- a slice that reads as these tokens; its block lies below B -/
def RdK (w : World) (B : Nat) (v : Value) (l : List Tok) : Prop := ∃ ao cap, v = .slice ao l.length cap ∧ l.length ≤ cap ∧ l.length ≤ 1000000000 ∧ (l ≠ [] → ∃ b o, ao = some ⟨b, o, none⟩ ∧ b < B ∧ ∀ j u, (tksC l)[j]? = some u → w.cell? ⟨b, o + j, none⟩ = some u)
theorem cellsB {w wr : World} {B C : Nat} (hb : Below C w wr) (hC : B ≤ C) : ∀ b o, b < B → wr.cell? ⟨b, o, none⟩ = w.cell? ⟨b, o, none⟩ := fun b o h => hb.cell (p := ⟨b, o, none⟩) (by exact Nat.lt_of_lt_of_le h hC)
theorem RdK.below {w w' : World} {B C : Nat} {v : Value} {l : List Tok} (h : RdK w B v l) (hb : Below C w w') (hC : B ≤ C) : RdK w' B v l := by
  obtain ⟨ao, cap, h1, h2, h3, h4⟩ := h
  refine ⟨ao, cap, h1, h2, h3, fun hne => ?_⟩
  obtain ⟨b, o, e, hbB, hc⟩ := h4 hne
  exact ⟨b, o, e, hbB, fun j u hj => (cellsB hb hC b _ hbB).trans (hc j u hj)⟩
theorem RdK.more {w : World} {B C : Nat} {v : Value} {l : List Tok} (h : RdK w B v l) (hC : B ≤ C) : RdK w C v l := by
  obtain ⟨ao, cap, h1, h2, h3, h4⟩ := h
  refine ⟨ao, cap, h1, h2, h3, fun hne => ?_⟩
  obtain ⟨b, o, e, hbB, hc⟩ := h4 hne
  exact ⟨b, o, e, by omega, hc⟩
theorem tksC_len (l : List Tok) : (tksC l).length = l.length * 4 := by
  induction l with
  | nil => rfl
  | cons a l ih =>
    show (tkC a ++ tksC l).length = _
    rw [List.length_append, ih, List.length_cons]
    show 4 + _ = _
    omega
theorem tksC_at : ∀ (l : List Tok) (i : Nat) (h : i < l.length) (c : Nat) (u : Value), (tkC l[i])[c]? = some u → (tksC l)[i * 4 + c]? = some u
  | a :: l, 0, _, c, u, hu => by
    show (tkC a ++ tksC l)[0 * 4 + c]? = some u
    have hc : c < (tkC a).length := by
      rcases Nat.lt_or_ge c (tkC a).length with h | h
      · exact h
      · rw [List.getElem_cons_zero, List.getElem?_eq_none h] at hu; cases hu
    rw [show 0 * 4 + c = c by omega, List.getElem?_append_left hc]; exact hu
  | a :: l, i + 1, h, c, u, hu => by
    show (tkC a ++ tksC l)[(i + 1) * 4 + c]? = some u
    rw [List.getElem?_append_right (by show 4 ≤ _; omega)]
    show (tksC l)[(i + 1) * 4 + c - 4]? = some u
    rw [show (i + 1) * 4 + c - 4 = i * 4 + c by omega]
    exact tksC_at l i (by simpa using h) c u (by simpa using hu)
/-- the four cells of a row's i-th token -/
theorem tok_cells {w : World} {b o : Nat} {l : List Tok} (hc : ∀ j u, (tksC l)[j]? = some u → w.cell? ⟨b, o + j, none⟩ = some u) {i : Nat} (h : i < l.length) {t : Tok} (ht : l[i] = t) :
    w.cell? ⟨b, o + i * 4, none⟩ = some (.int .i64 t.k) ∧ w.cell? ⟨b, o + i * 4 + 1, none⟩ = some (.string (ba t.tx)) ∧ w.cell? ⟨b, o + i * 4 + 2, none⟩ = some (.int .u64 (t.n : Int)) ∧ w.cell? ⟨b, o + i * 4 + 3, none⟩ = some (.int .i64 t.pos) := by
  subst ht
  have q := fun c u hu => hc _ _ (tksC_at l i h c u hu)
  refine ⟨?_, ?_, ?_, ?_⟩
  · have := q 0 _ rfl; simpa using this
  · have := q 1 _ rfl; simpa [Nat.add_assoc] using this
  · have := q 2 _ rfl; simpa [Nat.add_assoc] using this
  · have := q 3 _ rfl; simpa [Nat.add_assoc] using this
theorem OwnK.rdk {A : Nat} {v : Value} {l : List Tok} {w : World} (h : OwnK A v l w) (hl : l.length ≤ 1000000000) : RdK w w.heap.size v l := by
  have h1 := h.1
  rcases h.2 with ⟨rfl, h0⟩ | ⟨g, cap, cur, rfl, hbg, hg, hnc, hcm, hcs, ht⟩
  · have : l = [] := List.length_eq_zero_iff.1 h0
    subst this
    exact ⟨none, 0, rfl, Nat.le_refl _, by simp, fun h => absurd rfl h⟩
  · refine ⟨_, cap, rfl, hnc, hl, fun _ => ⟨g, 0, rfl, lt_of_block hg, fun j u hj => ?_⟩⟩
    rw [cells_of hg, Nat.zero_add]
    rw [← ht, List.getElem?_take] at hj
    split at hj
    · simpa using hj
    · cases hj
theorem ba_inj {a b : List UInt8} (h : ba a = ba b) : a = b := by
  have := congrArg bl h
  rwa [bl_ba, bl_ba] at this
def tkV (t : Tok) : Value := .agg #[.int .i64 t.k, .string (ba t.tx), .int .u64 (t.n : Int), .int .i64 t.pos]
set_option maxRecDepth 100000 in
set_option maxHeartbeats 4000000 in
theorem Same1_any (kx ky : Int) (tx ty : List UInt8) (nx ny : Nat) (px py : Int) (w : World) :
    Calls Tryz.prog 52 #[.agg #[.int .i64 kx, .string (ba tx), .int .u64 (nx : Int), .int .i64 px], .agg #[.int .i64 ky, .string (ba ty), .int .u64 (ny : Int), .int .i64 py]] w fun e w' => e = .returned (.bool (sameTk ⟨kx, tx, nx, px⟩ ⟨ky, ty, ny, py⟩)) ∧ Below w.heap.size w w' := by
  have hs : sameTk ⟨kx, tx, nx, px⟩ ⟨ky, ty, ny, py⟩ = (decide (kx = ky) && decide (tx = ty) && decide (nx = ny)) := rfl
  generalize sameTk ⟨kx, tx, nx, px⟩ ⟨ky, ty, ny, py⟩ = r at hs ⊢
  have hb : Below w.heap.size w ((w.alloc (.cells #[.int .i64 kx, .string (ba tx), .int .u64 (nx : Int), .int .i64 px] 36 (0, 0))).alloc (.cells #[.int .i64 ky, .string (ba ty), .int .u64 (ny : Int), .int .i64 py] 36 (0, 0))) := balloc (below_alloc _ _) _
  have HB := Lib.hid hb
  clear hb
  by_cases h1 : kx = ky
  · by_cases h2 : tx = ty
    · by_cases h3 : nx = ny
      · subst h1 h2 h3
        have HR := Lib.hid (show r = true by rw [hs]; simp)
        clear hs
        go_enter Tryz.func52, Tryz.ntmps52
        go_wp2_with fail
        go_ret
        exact ⟨by rw [HR.out]; rfl, HB.out⟩
      · have HR := Lib.hid (show r = false by rw [hs]; simp [h3])
        clear hs
        subst h1 h2
        have x3 : ((nx : Int) == (ny : Int)) = false := by simp; omega
        clear h3
        go_enter Tryz.func52, Tryz.ntmps52
        go_wp2_with fail
        go_ret
        exact ⟨by rw [HR.out]; rfl, HB.out⟩
    · have HR := Lib.hid (show r = false by rw [hs]; simp [h2])
      clear hs
      subst h1
      have x2 : ((ba tx).toList == (ba ty).toList) = false := by rw [ba_toList, ba_toList]; simpa using h2
      clear h2
      go_enter Tryz.func52, Tryz.ntmps52
      go_wp2_with fail
      go_ret
      exact ⟨by rw [HR.out]; rfl, HB.out⟩
  · have HR := Lib.hid (show r = false by rw [hs]; simp [h1])
    clear hs
    have x1 : (kx == ky) = false := by simpa using h1
    clear h1
    go_enter Tryz.func52, Tryz.ntmps52
    go_wp2_with fail
    go_ret
    exact ⟨by rw [HR.out]; rfl, HB.out⟩
theorem sameL_len : ∀ {a b : List Tok}, a.length ≠ b.length → sameL a b = false
  | [], [], h => absurd rfl h
  | [], _ :: _, _ => rfl
  | _ :: _, [], _ => rfl
  | x :: a, y :: b, h => by
    rw [sameL, sameL_len (a := a) (b := b) (by simpa using h), Bool.and_false]
theorem sameL_step {a b : List Tok} {i : Nat} (ha : i < a.length) (hb : i < b.length) : sameL (a.drop i) (b.drop i) = (sameTk a[i] b[i] && sameL (a.drop (i + 1)) (b.drop (i + 1))) := by
  rw [List.drop_eq_getElem_cons ha, List.drop_eq_getElem_cons hb, sameL]
set_option maxRecDepth 100000 in
set_option maxHeartbeats 8000000 in
theorem Equal_any (B : Nat) (a b : List Tok) (va vb : Value) (w : World) (ha : RdK w B va a) (hb : RdK w B vb b) (hB : B ≤ w.heap.size) :
    Calls Tryz.prog 51 #[va, vb, .func (.func 52) #[] #[]] w fun e w' => e = .returned (.bool (sameL a b)) ∧ Below w.heap.size w w' := by
  obtain ⟨aa, ca, rfl, hca, hla, ha⟩ := ha
  obtain ⟨ab, cb, rfl, hcb, hlb, hb⟩ := hb
  have HA := Lib.hid ha
  have HB := Lib.hid hb
  clear ha hb
  by_cases hn : a.length = b.length
  · have HS := Lib.hid (show sameL (a.drop 0) (b.drop 0) = sameL a b from rfl)
    generalize sameL a b = r at HS ⊢
    have HN := Lib.hid hn
    rw [← hn]
    clear hn
    go_enter Tryz.func51, Tryz.ntmps51
    go_wp2_with fail
    go_loopw [17] (fun v wr => ∃ i : Nat, v = .int .i64 i ∧ i ≤ a.length ∧ Hid (sameL (a.drop i) (b.drop i) = r) ∧ Hid (Below w.heap.size w wr)) (fun v _ => a.length - (intOf v).toNat)
    case atStart => exact ⟨0, rfl, Nat.zero_le _, HS, Lib.hid (Below.refl _ _)⟩
    case round =>
      obtain ⟨i, rfl, hi, HS, HW⟩ := hrel
      have hz := HW.out.size
      by_cases hlt : i < a.length
      · have x1 : (i : Int) < (a.length : Int) := by omega
        have hne : a ≠ [] := by intro h; subst h; simp at hlt
        have hltb : i < b.length := by have := HN.out; omega
        have hneb : b ≠ [] := by intro h; subst h; simp at hltb
        obtain ⟨b1, o1, rfl, hb1, hc1⟩ := HA.out hne
        obtain ⟨b2, o2, rfl, hb2, hc2⟩ := HB.out hneb
        obtain ⟨x, hx⟩ : ∃ x, a[i] = x := ⟨_, rfl⟩
        obtain ⟨y, hy⟩ : ∃ y, b[i] = y := ⟨_, rfl⟩
        obtain ⟨c0, c1, c2, c3⟩ := tok_cells (w := wr) (fun j u hj => (cellsB HW.out hB b1 _ hb1).trans (hc1 j u hj)) hlt hx
        obtain ⟨d0, d1, d2, d3⟩ := tok_cells (w := wr) (fun j u hj => (cellsB HW.out hB b2 _ hb2).trans (hc2 j u hj)) hltb hy
        have hst := sameL_step hlt hltb
        rw [hx, hy] at hst
        have HT := Lib.hid (HS.out.symm.trans hst)
        clear hst hx hy hc1 hc2 hne hneb
        have hw1 : b1 < wr.heap.size := by omega
        have hw2 : b2 < wr.heap.size := by omega
        have hn1 : ¬ b1 = wr.heap.size := by omega
        have hn2 : ¬ b2 = wr.heap.size := by omega
        go_wp2_with fail
        refine (Same1_any x.k y.k x.tx y.tx x.n y.n x.pos y.pos _).mono ?_
        rintro e w1 ⟨rfl, hb1⟩
        have HW1 := Lib.hid (bstep (balloc (balloc HW.out (.cells #[.int .i64 x.k, .string (ba x.tx), .int .u64 (x.n : Int), .int .i64 x.pos] 36 (0, 0))) (.cells #[.int .i64 y.k, .string (ba y.tx), .int .u64 (y.n : Int), .int .i64 y.pos] 36 (0, 0))) hb1)
        clear hb1 c0 c1 c2 c3 d0 d1 d2 d3
        have ht : sameTk ⟨x.k, x.tx, x.n, x.pos⟩ ⟨y.k, y.tx, y.n, y.pos⟩ = sameTk x y := rfl
        rw [ht]
        clear ht
        cases hs : sameTk x y with
        | true =>
          have HS2 := Lib.hid (show sameL (a.drop (i + 1)) (b.drop (i + 1)) = r from by have h := HT.out; rw [hs, Bool.true_and] at h; exact h.symm)
          clear hs
          go_wp2_with fail
          go_roundw
          case rel => exact ⟨i + 1, by go_num, by omega, HS2, HW1⟩
          case measure => simp only [intOf]; omega
        | false =>
          have HR := Lib.hid (show r = false from by have h := HT.out; rw [hs, Bool.false_and] at h; exact h)
          clear hs
          go_wp2_with fail
          go_ret
          exact ⟨by rw [HR.out]; rfl, HW1.out⟩
      · have x1 : ¬ (i : Int) < (a.length : Int) := by omega
        have HR := Lib.hid (show r = true from by
          have h := HS.out
          rw [List.drop_eq_nil_of_le (by omega), List.drop_eq_nil_of_le (by have := HN.out; omega)] at h
          exact h.symm)
        go_wp2_with fail
        go_ret
        exact ⟨by rw [HR.out]; rfl, HW.out⟩
  · have HR := Lib.hid (sameL_len hn)
    generalize sameL a b = r at HR ⊢
    have x1 : ((a.length : Int) == (b.length : Int)) = false := by simp; omega
    clear hn
    go_enter Tryz.func51, Tryz.ntmps51
    go_wp2_with fail
    go_ret
    exact ⟨by rw [HR.out]; rfl, Below.refl _ _⟩
theorem Same_any (B : Nat) (a b : List Tok) (va vb : Value) (w : World) (ha : RdK w B va a) (hb : RdK w B vb b) (hB : B ≤ w.heap.size) :
    Calls Tryz.prog 22 #[va, vb] w fun e w' => e = .returned (.bool (sameL a b)) ∧ Below w.heap.size w w' := by
  have HE := Lib.hid (Equal_any B a b va vb w ha hb hB)
  obtain ⟨aa, ca, rfl, -⟩ := ha
  obtain ⟨ab, cb, rfl, -⟩ := hb
  go_enter Tryz.func22, Tryz.ntmps22
  go_wp2_with fail
  refine HE.out.mono ?_
  rintro e w1 ⟨rfl, hb1⟩
  have HB := Lib.hid hb1
  clear hb1
  go_wp2_with fail
  go_ret
  exact ⟨rfl, HB.out⟩
end Go.Proofs.YtmcnhggpmlhgeaaGreatDoor
