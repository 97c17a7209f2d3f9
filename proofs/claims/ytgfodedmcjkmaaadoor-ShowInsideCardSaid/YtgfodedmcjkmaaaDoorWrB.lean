/-
  Walks: the writer of show: term, kind by kind. Walks: the writer of show: term, all kinds; Term. Walks: Term of package show. Walks: List of package show.
-/
import Derived.Test.YtgfodedmcjkmaaaDoorWrA
import Derived.Test.YtgfodedmcjkmaaaDoorPCheck
import Derived.Test.YtgfodedmcjkmaaaDoorRdD
import Derived.Laws.Concat
namespace Go.Proofs.YtgfodedmcjkmaaaDoor
open Go.RowKit Go.Proofs.BitsM
theorem Rd.left {w : World} {A B : Nat} : ∀ (l m : TL) (b o : Nat), Rd w A B (l.app m) b o → Rd w A B l b o
  | .nil, _, _, _, _ => trivial
  | .cons _ _ r, m, b, o, ⟨ha, hb, hx, hr⟩ => ⟨ha, hb, hx, Rd.left r m b (o + 9) hr⟩
def tailT (f : Fd) (it : TL) : List UInt8 := if f.k = 8 then [] else 124 :: textT f it
theorem drop_app : ∀ (l m : TL), (l.app m).drop l.len = m
  | .nil, m => by rw [TL.app, TL.len, TL.drop_zero]
  | .cons f it r, m => by rw [TL.app, TL.len, TL.drop, drop_app r m]
set_option maxRecDepth 100000 in
set_option maxHeartbeats 8000000 in
theorem w_k1 (fi fg far fnn : Int) (fnm ffn fbs : ByteArray) (it : TL) (ai : Option Addr) (ci : Nat) (B b : Nat) (bs : List UInt8) (w : World) (h : Wr B b bs w) (hBw : B ≤ w.heap.size) (hP : Pw B w) (hi : -9223372036854775808 ≤ fi ∧ fi ≤ 9223372036854775807) (hlen : bs.length + (textT (⟨1, fi, fg, fnm, ffn, far, fbs, fnn⟩ : Fd) it).length ≤ 1000000000) :
    Calls Tryd.prog 21 #[.pointer (some ⟨b, 0, none⟩), .agg #[.int .i64 1, .int .i64 fi, .int .i64 fg, .string fnm, .string ffn, .int .i64 far, (.slice ai it.len ci), .string fbs, .int .i64 fnn]] w (WrPost B b (bs ++ textT (⟨1, fi, fg, fnm, ffn, far, fbs, fnn⟩ : Fd) it) w) := by
  have hx : textT (⟨1, fi, fg, fnm, ffn, far, fbs, fnn⟩ : Fd) it = Lib.itoa fi := textT_k1 (f := (⟨1, fi, fg, fnm, ffn, far, fbs, fnn⟩ : Fd)) (it := it) rfl
  rw [hx] at hlen ⊢
  have HQ := Lib.hid (show (bs ++ (Lib.itoa fi)).length ≤ 1000000000 by rw [List.length_append]; exact hlen)
  have HS := Lib.hid (WS.start h hBw hP #[.int .i64 1, .int .i64 fi, .int .i64 fg, .string fnm, .string ffn, .int .i64 far, (.slice ai it.len ci), .string fbs, .int .i64 fnn])
  have HI := Lib.hid hi
  clear hi
  clear h hBw hP hlen hx
  go_enter Tryd.func21, Tryd.ntmps21
  go_upto_region 1 with (fail)
  generalize w.alloc _ = w1 at HS ⊢
  have c0 : w1.cell? ⟨w.heap.size, 0, none⟩ = some (.int .i64 1) := cells_of HS.out.box 0
  have c1 : w1.cell? ⟨w.heap.size, 1, none⟩ = some (.int .i64 fi) := cells_of HS.out.box 1
  go_wp2_with fail
  refine (HS.out.int fi (by have := HQ.out; simp at this ⊢; omega) HI.out.1 HI.out.2).mono ?_
  rintro e v1 ⟨rfl, hs⟩
  have HS := Lib.hid hs
  clear hs c0 c1
  go_wp2_with fail
  go_end0
  exact HS.out.post (by simp)
set_option maxRecDepth 100000 in
set_option maxHeartbeats 8000000 in
theorem w_k2 (fi fg far fnn : Int) (fnm ffn fbs : ByteArray) (it : TL) (ai : Option Addr) (ci : Nat) (B b : Nat) (bs : List UInt8) (w : World) (h : Wr B b bs w) (hBw : B ≤ w.heap.size) (hP : Pw B w)  (hlen : bs.length + (textT (⟨2, fi, fg, fnm, ffn, far, fbs, fnn⟩ : Fd) it).length ≤ 1000000000) :
    Calls Tryd.prog 21 #[.pointer (some ⟨b, 0, none⟩), .agg #[.int .i64 2, .int .i64 fi, .int .i64 fg, .string fnm, .string ffn, .int .i64 far, (.slice ai it.len ci), .string fbs, .int .i64 fnn]] w (WrPost B b (bs ++ textT (⟨2, fi, fg, fnm, ffn, far, fbs, fnn⟩ : Fd) it) w) := by
  have hx : textT (⟨2, fi, fg, fnm, ffn, far, fbs, fnn⟩ : Fd) it = bl fnm := textT_k2 (f := (⟨2, fi, fg, fnm, ffn, far, fbs, fnn⟩ : Fd)) (it := it) rfl
  rw [hx] at hlen ⊢
  have HQ := Lib.hid (show (bs ++ (bl fnm)).length ≤ 1000000000 by rw [List.length_append]; exact hlen)
  have HS := Lib.hid (WS.start h hBw hP #[.int .i64 2, .int .i64 fi, .int .i64 fg, .string fnm, .string ffn, .int .i64 far, (.slice ai it.len ci), .string fbs, .int .i64 fnn])
  clear h hBw hP hlen hx
  go_enter Tryd.func21, Tryd.ntmps21
  go_upto_region 1 with (fail)
  generalize w.alloc _ = w1 at HS ⊢
  have c0 : w1.cell? ⟨w.heap.size, 0, none⟩ = some (.int .i64 2) := cells_of HS.out.box 0
  go_upto_region 5 with (fail)
  have c3 : w1.cell? ⟨w.heap.size, 3, none⟩ = some (.string fnm) := cells_of HS.out.box 3
  have HSd := Lib.hid (show WS B b w w.heap.size _ _ w1.drew from HS.out.drew)
  have HWs := Lib.hid (HSd.out.str (fnm) (bl fnm) (rfl) (by have := HQ.out; simp at this ⊢; omega))
  go_region_held3 (fun w' => w'.cell? ⟨w.heap.size, 3, none⟩ = some (.string fnm)) (first | exact c3 | exact cells_of HS.out.box 3)
    (first | (go_at_call 33; ((with_reducible refine (HWs.out).mono ?_); rintro e v1 ⟨⟨m2, rfl⟩, hs⟩); have HS := Lib.hid hs))
  clear c0 c3
  go_wp2_with fail
  go_end0
  exact HS.out.post (by simp)
set_option maxRecDepth 100000 in
set_option maxHeartbeats 8000000 in
theorem w_k3 (fi fg far fnn : Int) (fnm ffn fbs : ByteArray) (it : TL) (ai : Option Addr) (ci : Nat) (B b : Nat) (bs : List UInt8) (w : World) (h : Wr B b bs w) (hBw : B ≤ w.heap.size) (hP : Pw B w) (hi : -9223372036854775808 ≤ fi ∧ fi ≤ 9223372036854775807) (hg : -9223372036854775808 ≤ fg ∧ fg ≤ 9223372036854775807) (hlen : bs.length + (textT (⟨3, fi, fg, fnm, ffn, far, fbs, fnn⟩ : Fd) it).length ≤ 1000000000) :
    Calls Tryd.prog 21 #[.pointer (some ⟨b, 0, none⟩), .agg #[.int .i64 3, .int .i64 fi, .int .i64 fg, .string fnm, .string ffn, .int .i64 far, (.slice ai it.len ci), .string fbs, .int .i64 fnn]] w (WrPost B b (bs ++ textT (⟨3, fi, fg, fnm, ffn, far, fbs, fnn⟩ : Fd) it) w) := by
  have hx : textT (⟨3, fi, fg, fnm, ffn, far, fbs, fnn⟩ : Fd) it = [35, 82, 101, 102, 60] ++ (markT (⟨3, fi, fg, fnm, ffn, far, fbs, fnn⟩ : Fd) ++ [62]) := textT_k3 (f := (⟨3, fi, fg, fnm, ffn, far, fbs, fnn⟩ : Fd)) (it := it) rfl
  rw [hx] at hlen ⊢
  have HQ := Lib.hid (show (bs ++ ([35, 82, 101, 102, 60] ++ (markT (⟨3, fi, fg, fnm, ffn, far, fbs, fnn⟩ : Fd) ++ [62]))).length ≤ 1000000000 by rw [List.length_append]; exact hlen)
  have HS := Lib.hid (WS.start h hBw hP #[.int .i64 3, .int .i64 fi, .int .i64 fg, .string fnm, .string ffn, .int .i64 far, (.slice ai it.len ci), .string fbs, .int .i64 fnn])
  have HI := Lib.hid hi
  clear hi
  have HG := Lib.hid hg
  clear hg
  clear h hBw hP hlen hx
  go_enter Tryd.func21, Tryd.ntmps21
  go_upto_region 1 with (fail)
  generalize w.alloc _ = w1 at HS ⊢
  have c0 : w1.cell? ⟨w.heap.size, 0, none⟩ = some (.int .i64 3) := cells_of HS.out.box 0
  go_wp2_with fail
  refine (HS.out.str _ [35, 82, 101, 102] rfl (by have := HQ.out; simp at this ⊢; omega)).mono ?_
  rintro e v1 ⟨⟨m0, rfl⟩, hs⟩
  have HS := Lib.hid hs
  clear hs c0
  go_wp2_with fail
  refine (HS.out.byte 60 _ rfl (by have := HQ.out; simp at this ⊢; omega)).mono ?_
  rintro e v2 ⟨rfl, hs⟩
  have HS := Lib.hid hs
  clear hs 
  have c0 : v2.cell? ⟨w.heap.size, 0, none⟩ = some (.int .i64 3) := cells_of HS.out.box 0
  have c1 : v2.cell? ⟨w.heap.size, 1, none⟩ = some (.int .i64 fi) := cells_of HS.out.box 1
  have c2 : v2.cell? ⟨w.heap.size, 2, none⟩ = some (.int .i64 fg) := cells_of HS.out.box 2
  have c3 : v2.cell? ⟨w.heap.size, 3, none⟩ = some (.string fnm) := cells_of HS.out.box 3
  have c4 : v2.cell? ⟨w.heap.size, 4, none⟩ = some (.string ffn) := cells_of HS.out.box 4
  have c5 : v2.cell? ⟨w.heap.size, 5, none⟩ = some (.int .i64 far) := cells_of HS.out.box 5
  have c6 : v2.cell? ⟨w.heap.size, 6, none⟩ = some ((.slice ai it.len ci)) := cells_of HS.out.box 6
  have c7 : v2.cell? ⟨w.heap.size, 7, none⟩ = some (.string fbs) := cells_of HS.out.box 7
  have c8 : v2.cell? ⟨w.heap.size, 8, none⟩ = some (.int .i64 fnn) := cells_of HS.out.box 8
  go_wp2_with fail
  refine (marked_any B b _ (⟨3, fi, fg, fnm, ffn, far, fbs, fnn⟩ : Fd) (.slice ai it.len ci) _ HS.out.wr (by have := HQ.out; simp at this ⊢; omega) HS.out.bw HS.out.pw HI.out HG.out).mono ?_
  rintro e v3 hx
  obtain ⟨rfl, hs⟩ := HS.out.sub hx
  have HS := Lib.hid hs
  clear hs hx c0 c1 c2 c3 c4 c5 c6 c7 c8
  go_wp2_with fail
  refine (HS.out.byte 62 _ rfl (by have := HQ.out; simp at this ⊢; omega)).mono ?_
  rintro e v4 ⟨rfl, hs⟩
  have HS := Lib.hid hs
  clear hs 
  go_wp2_with fail
  go_end0
  exact HS.out.post (by simp)
set_option maxRecDepth 100000 in
set_option maxHeartbeats 8000000 in
theorem w_k6 (fi fg far fnn : Int) (fnm ffn fbs : ByteArray) (it : TL) (ai : Option Addr) (ci : Nat) (B b : Nat) (bs : List UInt8) (w : World) (h : Wr B b bs w) (hBw : B ≤ w.heap.size) (hP : Pw B w) (hi : -9223372036854775808 ≤ fi ∧ fi ≤ 9223372036854775807) (hg : -9223372036854775808 ≤ fg ∧ fg ≤ 9223372036854775807) (hlen : bs.length + (textT (⟨6, fi, fg, fnm, ffn, far, fbs, fnn⟩ : Fd) it).length ≤ 1000000000) :
    Calls Tryd.prog 21 #[.pointer (some ⟨b, 0, none⟩), .agg #[.int .i64 6, .int .i64 fi, .int .i64 fg, .string fnm, .string ffn, .int .i64 far, (.slice ai it.len ci), .string fbs, .int .i64 fnn]] w (WrPost B b (bs ++ textT (⟨6, fi, fg, fnm, ffn, far, fbs, fnn⟩ : Fd) it) w) := by
  have hx : textT (⟨6, fi, fg, fnm, ffn, far, fbs, fnn⟩ : Fd) it = [60] ++ (markT (⟨6, fi, fg, fnm, ffn, far, fbs, fnn⟩ : Fd) ++ [62]) := textT_k6 (f := (⟨6, fi, fg, fnm, ffn, far, fbs, fnn⟩ : Fd)) (it := it) rfl
  rw [hx] at hlen ⊢
  have HQ := Lib.hid (show (bs ++ ([60] ++ (markT (⟨6, fi, fg, fnm, ffn, far, fbs, fnn⟩ : Fd) ++ [62]))).length ≤ 1000000000 by rw [List.length_append]; exact hlen)
  have HS := Lib.hid (WS.start h hBw hP #[.int .i64 6, .int .i64 fi, .int .i64 fg, .string fnm, .string ffn, .int .i64 far, (.slice ai it.len ci), .string fbs, .int .i64 fnn])
  have HI := Lib.hid hi
  clear hi
  have HG := Lib.hid hg
  clear hg
  clear h hBw hP hlen hx
  go_enter Tryd.func21, Tryd.ntmps21
  go_upto_region 1 with (fail)
  generalize w.alloc _ = w1 at HS ⊢
  have c0 : w1.cell? ⟨w.heap.size, 0, none⟩ = some (.int .i64 6) := cells_of HS.out.box 0
  go_wp2_with fail
  refine (HS.out.byte 60 _ rfl (by have := HQ.out; simp at this ⊢; omega)).mono ?_
  rintro e v1 ⟨rfl, hs⟩
  have HS := Lib.hid hs
  clear hs c0
  have c0 : v1.cell? ⟨w.heap.size, 0, none⟩ = some (.int .i64 6) := cells_of HS.out.box 0
  have c1 : v1.cell? ⟨w.heap.size, 1, none⟩ = some (.int .i64 fi) := cells_of HS.out.box 1
  have c2 : v1.cell? ⟨w.heap.size, 2, none⟩ = some (.int .i64 fg) := cells_of HS.out.box 2
  have c3 : v1.cell? ⟨w.heap.size, 3, none⟩ = some (.string fnm) := cells_of HS.out.box 3
  have c4 : v1.cell? ⟨w.heap.size, 4, none⟩ = some (.string ffn) := cells_of HS.out.box 4
  have c5 : v1.cell? ⟨w.heap.size, 5, none⟩ = some (.int .i64 far) := cells_of HS.out.box 5
  have c6 : v1.cell? ⟨w.heap.size, 6, none⟩ = some ((.slice ai it.len ci)) := cells_of HS.out.box 6
  have c7 : v1.cell? ⟨w.heap.size, 7, none⟩ = some (.string fbs) := cells_of HS.out.box 7
  have c8 : v1.cell? ⟨w.heap.size, 8, none⟩ = some (.int .i64 fnn) := cells_of HS.out.box 8
  go_wp2_with fail
  refine (marked_any B b _ (⟨6, fi, fg, fnm, ffn, far, fbs, fnn⟩ : Fd) (.slice ai it.len ci) _ HS.out.wr (by have := HQ.out; simp at this ⊢; omega) HS.out.bw HS.out.pw HI.out HG.out).mono ?_
  rintro e v2 hx
  obtain ⟨rfl, hs⟩ := HS.out.sub hx
  have HS := Lib.hid hs
  clear hs hx c0 c1 c2 c3 c4 c5 c6 c7 c8
  go_wp2_with fail
  refine (HS.out.byte 62 _ rfl (by have := HQ.out; simp at this ⊢; omega)).mono ?_
  rintro e v3 ⟨rfl, hs⟩
  have HS := Lib.hid hs
  clear hs 
  go_wp2_with fail
  go_end0
  exact HS.out.post (by simp)
set_option maxRecDepth 100000 in
set_option maxHeartbeats 8000000 in
theorem w_k4 (fi fg far fnn : Int) (fnm ffn fbs : ByteArray) (it : TL) (ai : Option Addr) (ci : Nat) (B b : Nat) (bs : List UInt8) (w : World) (h : Wr B b bs w) (hBw : B ≤ w.heap.size) (hP : Pw B w) (hi : -9223372036854775808 ≤ fi ∧ fi ≤ 9223372036854775807) (hg : -9223372036854775808 ≤ fg ∧ fg ≤ 9223372036854775807) (ha : -9223372036854775808 ≤ far ∧ far ≤ 9223372036854775807) (A m : Nat) (hT : TermW m) (hm : it.cnt ≤ m) (hf : formL it = true) (hii : it.iok) (hs : RdS w A B it (.slice ai it.len ci)) (hlen : bs.length + (textT (⟨4, fi, fg, fnm, ffn, far, fbs, fnn⟩ : Fd) it).length ≤ 1000000000) :
    Calls Tryd.prog 21 #[.pointer (some ⟨b, 0, none⟩), .agg #[.int .i64 4, .int .i64 fi, .int .i64 fg, .string fnm, .string ffn, .int .i64 far, (.slice ai it.len ci), .string fbs, .int .i64 fnn]] w (WrPost B b (bs ++ textT (⟨4, fi, fg, fnm, ffn, far, fbs, fnn⟩ : Fd) it) w) := by
  have hx : textT (⟨4, fi, fg, fnm, ffn, far, fbs, fnn⟩ : Fd) it = [35, 70, 117, 110, 60] ++ (markT (⟨4, fi, fg, fnm, ffn, far, fbs, fnn⟩ : Fd) ++ 47 :: (Lib.itoa far ++ 62 :: 123 :: (joinC it.texts ++ [125]))) := textT_k4 (f := (⟨4, fi, fg, fnm, ffn, far, fbs, fnn⟩ : Fd)) (it := it) rfl
  rw [hx] at hlen ⊢
  have HQ := Lib.hid (show (bs ++ ([35, 70, 117, 110, 60] ++ (markT (⟨4, fi, fg, fnm, ffn, far, fbs, fnn⟩ : Fd) ++ 47 :: (Lib.itoa far ++ 62 :: 123 :: (joinC it.texts ++ [125]))))).length ≤ 1000000000 by rw [List.length_append]; exact hlen)
  have HS := Lib.hid (WS.start h hBw hP #[.int .i64 4, .int .i64 fi, .int .i64 fg, .string fnm, .string ffn, .int .i64 far, (.slice ai it.len ci), .string fbs, .int .i64 fnn])
  have HI := Lib.hid hi
  clear hi
  have HG := Lib.hid hg
  clear hg
  have HA := Lib.hid ha
  clear ha
  have HT := Lib.hid hT
  clear hT
  have HM := Lib.hid hm
  clear hm
  have HF := Lib.hid hf
  clear hf
  have HII := Lib.hid hii
  clear hii
  have HIT := Lib.hid hs
  clear hs
  clear h hBw hP hlen hx
  go_enter Tryd.func21, Tryd.ntmps21
  go_upto_region 1 with (fail)
  generalize w.alloc _ = w1 at HS ⊢
  have c0 : w1.cell? ⟨w.heap.size, 0, none⟩ = some (.int .i64 4) := cells_of HS.out.box 0
  go_wp2_with fail
  refine (HS.out.str _ [35, 70, 117, 110, 60] rfl (by have := HQ.out; simp at this ⊢; omega)).mono ?_
  rintro e v1 ⟨⟨m0, rfl⟩, hs⟩
  have HS := Lib.hid hs
  clear hs c0
  have c0 : v1.cell? ⟨w.heap.size, 0, none⟩ = some (.int .i64 4) := cells_of HS.out.box 0
  have c1 : v1.cell? ⟨w.heap.size, 1, none⟩ = some (.int .i64 fi) := cells_of HS.out.box 1
  have c2 : v1.cell? ⟨w.heap.size, 2, none⟩ = some (.int .i64 fg) := cells_of HS.out.box 2
  have c3 : v1.cell? ⟨w.heap.size, 3, none⟩ = some (.string fnm) := cells_of HS.out.box 3
  have c4 : v1.cell? ⟨w.heap.size, 4, none⟩ = some (.string ffn) := cells_of HS.out.box 4
  have c5 : v1.cell? ⟨w.heap.size, 5, none⟩ = some (.int .i64 far) := cells_of HS.out.box 5
  have c6 : v1.cell? ⟨w.heap.size, 6, none⟩ = some ((.slice ai it.len ci)) := cells_of HS.out.box 6
  have c7 : v1.cell? ⟨w.heap.size, 7, none⟩ = some (.string fbs) := cells_of HS.out.box 7
  have c8 : v1.cell? ⟨w.heap.size, 8, none⟩ = some (.int .i64 fnn) := cells_of HS.out.box 8
  go_wp2_with fail
  refine (marked_any B b _ (⟨4, fi, fg, fnm, ffn, far, fbs, fnn⟩ : Fd) (.slice ai it.len ci) _ HS.out.wr (by have := HQ.out; simp at this ⊢; omega) HS.out.bw HS.out.pw HI.out HG.out).mono ?_
  rintro e v2 hx
  obtain ⟨rfl, hs⟩ := HS.out.sub hx
  have HS := Lib.hid hs
  clear hs hx c0 c1 c2 c3 c4 c5 c6 c7 c8
  go_wp2_with fail
  refine (HS.out.byte 47 _ rfl (by have := HQ.out; simp at this ⊢; omega)).mono ?_
  rintro e v3 ⟨rfl, hs⟩
  have HS := Lib.hid hs
  clear hs 
  have c5 : v3.cell? ⟨w.heap.size, 5, none⟩ = some (.int .i64 far) := cells_of HS.out.box 5
  go_wp2_with fail
  refine (HS.out.int far (by have := HQ.out; simp at this ⊢; omega) HA.out.1 HA.out.2).mono ?_
  rintro e v4 ⟨rfl, hs⟩
  have HS := Lib.hid hs
  clear hs c5
  go_wp2_with fail
  refine (HS.out.str _ [62, 123] rfl (by have := HQ.out; simp at this ⊢; omega)).mono ?_
  rintro e v5 ⟨⟨m4, rfl⟩, hs⟩
  have HS := Lib.hid hs
  clear hs 
  have c6 : v5.cell? ⟨w.heap.size, 6, none⟩ = some ((.slice ai it.len ci)) := cells_of HS.out.box 6
  go_wp2_with fail
  refine (list_w m HT.out it (.slice ai it.len ci) B b _ A _ HM.out HF.out HII.out (by have := HQ.out; simp at this ⊢; omega) HS.out.wr HS.out.bw HS.out.pw (HIT.out.below HS.out.wk.low (Nat.le_refl _))).mono ?_
  rintro e v6 hx
  obtain ⟨rfl, hs⟩ := HS.out.sub hx
  have HS := Lib.hid hs
  clear hs hx c6
  go_wp2_with fail
  refine (HS.out.byte 125 _ rfl (by have := HQ.out; simp at this ⊢; omega)).mono ?_
  rintro e v7 ⟨rfl, hs⟩
  have HS := Lib.hid hs
  clear hs 
  go_wp2_with fail
  go_end0
  exact HS.out.post (by simp)
set_option maxRecDepth 100000 in
set_option maxHeartbeats 8000000 in
theorem w_k5 (fi fg far fnn : Int) (fnm ffn fbs : ByteArray) (it : TL) (ai : Option Addr) (ci : Nat) (B b : Nat) (bs : List UInt8) (w : World) (h : Wr B b bs w) (hBw : B ≤ w.heap.size) (hP : Pw B w) (ha : -9223372036854775808 ≤ far ∧ far ≤ 9223372036854775807) (hlen : bs.length + (textT (⟨5, fi, fg, fnm, ffn, far, fbs, fnn⟩ : Fd) it).length ≤ 1000000000) :
    Calls Tryd.prog 21 #[.pointer (some ⟨b, 0, none⟩), .agg #[.int .i64 5, .int .i64 fi, .int .i64 fg, .string fnm, .string ffn, .int .i64 far, (.slice ai it.len ci), .string fbs, .int .i64 fnn]] w (WrPost B b (bs ++ textT (⟨5, fi, fg, fnm, ffn, far, fbs, fnn⟩ : Fd) it) w) := by
  have hx : textT (⟨5, fi, fg, fnm, ffn, far, fbs, fnn⟩ : Fd) it = [102, 117, 110, 32] ++ (bl fnm ++ 58 :: (bl ffn ++ 47 :: Lib.itoa far)) := textT_k5 (f := (⟨5, fi, fg, fnm, ffn, far, fbs, fnn⟩ : Fd)) (it := it) rfl
  rw [hx] at hlen ⊢
  have HQ := Lib.hid (show (bs ++ ([102, 117, 110, 32] ++ (bl fnm ++ 58 :: (bl ffn ++ 47 :: Lib.itoa far)))).length ≤ 1000000000 by rw [List.length_append]; exact hlen)
  have HS := Lib.hid (WS.start h hBw hP #[.int .i64 5, .int .i64 fi, .int .i64 fg, .string fnm, .string ffn, .int .i64 far, (.slice ai it.len ci), .string fbs, .int .i64 fnn])
  have HA := Lib.hid ha
  clear ha
  clear h hBw hP hlen hx
  go_enter Tryd.func21, Tryd.ntmps21
  go_upto_region 1 with (fail)
  generalize w.alloc _ = w1 at HS ⊢
  have c0 : w1.cell? ⟨w.heap.size, 0, none⟩ = some (.int .i64 5) := cells_of HS.out.box 0
  go_upto_region 22 with (fail)
  have c3 : w1.cell? ⟨w.heap.size, 3, none⟩ = some (.string fnm) := cells_of HS.out.box 3
  have c4 : w1.cell? ⟨w.heap.size, 4, none⟩ = some (.string ffn) := cells_of HS.out.box 4
  have HSd := Lib.hid (show WS B b w w.heap.size _ _ w1.drew from HS.out.drew)
  have HWs := Lib.hid (HSd.out.str (⟨#[102, 117, 110, 32]⟩ ++ fnm ++ ⟨#[58]⟩ ++ ffn ++ ⟨#[47]⟩) ([102, 117, 110, 32] ++ bl fnm ++ [58] ++ bl ffn ++ [47]) (by rw [bl_app, bl_app, bl_app, bl_app]; rfl) (by have := HQ.out; simp at this ⊢; omega))
  have hq : fnm.size + ffn.size ≤ 1000000000 := by have e1 : fnm.size = (bl fnm).length := Array.length_toList.symm; have e2 : ffn.size = (bl ffn).length := Array.length_toList.symm; have := HQ.out; simp at this; omega
  have hq1 : ¬ (9223372036854775807 < 4 + fnm.size) := by omega
  have hq2 : ¬ (9223372036854775807 < 4 + fnm.size + 1) := by omega
  have hq3 : ¬ (9223372036854775807 < 4 + fnm.size + 1 + ffn.size) := by omega
  have hq4 : ¬ (9223372036854775807 < 4 + fnm.size + 1 + ffn.size + 1) := by omega
  go_region_held3 (fun w' => w'.cell? ⟨w.heap.size, 3, none⟩ = some (.string fnm) ∧ w'.cell? ⟨w.heap.size, 4, none⟩ = some (.string ffn)) (first | exact ⟨c3, c4⟩ | exact ⟨cells_of HS.out.box 3, cells_of HS.out.box 4⟩)
    (first | (go_at_call 33; ((with_reducible refine (HWs.out).mono ?_); rintro e v1 ⟨⟨m2, rfl⟩, hs⟩); have HS := Lib.hid hs))
  clear c0 c3 c4 hq hq1 hq2 hq3 hq4
  have c5 : v1.cell? ⟨w.heap.size, 5, none⟩ = some (.int .i64 far) := cells_of HS.out.box 5
  go_wp2_with fail
  refine (HS.out.int far (by have := HQ.out; simp at this ⊢; omega) HA.out.1 HA.out.2).mono ?_
  rintro e v2 ⟨rfl, hs⟩
  have HS := Lib.hid hs
  clear hs c5
  go_wp2_with fail
  go_end0
  exact HS.out.post (by simp)
set_option maxRecDepth 100000 in
set_option maxHeartbeats 8000000 in
theorem w_k7 (fi fg far fnn : Int) (fnm ffn fbs : ByteArray) (it : TL) (ai : Option Addr) (ci : Nat) (B b : Nat) (bs : List UInt8) (w : World) (h : Wr B b bs w) (hBw : B ≤ w.heap.size) (hP : Pw B w) (A m : Nat) (hT : TermW m) (hm : it.cnt ≤ m) (hf : formL it = true) (hii : it.iok) (hs : RdS w A B it (.slice ai it.len ci)) (hlen : bs.length + (textT (⟨7, fi, fg, fnm, ffn, far, fbs, fnn⟩ : Fd) it).length ≤ 1000000000) :
    Calls Tryd.prog 21 #[.pointer (some ⟨b, 0, none⟩), .agg #[.int .i64 7, .int .i64 fi, .int .i64 fg, .string fnm, .string ffn, .int .i64 far, (.slice ai it.len ci), .string fbs, .int .i64 fnn]] w (WrPost B b (bs ++ textT (⟨7, fi, fg, fnm, ffn, far, fbs, fnn⟩ : Fd) it) w) := by
  have hx : textT (⟨7, fi, fg, fnm, ffn, far, fbs, fnn⟩ : Fd) it = [123] ++ (joinC it.texts ++ [125]) := textT_k7 (f := (⟨7, fi, fg, fnm, ffn, far, fbs, fnn⟩ : Fd)) (it := it) rfl
  rw [hx] at hlen ⊢
  have HQ := Lib.hid (show (bs ++ ([123] ++ (joinC it.texts ++ [125]))).length ≤ 1000000000 by rw [List.length_append]; exact hlen)
  have HS := Lib.hid (WS.start h hBw hP #[.int .i64 7, .int .i64 fi, .int .i64 fg, .string fnm, .string ffn, .int .i64 far, (.slice ai it.len ci), .string fbs, .int .i64 fnn])
  have HT := Lib.hid hT
  clear hT
  have HM := Lib.hid hm
  clear hm
  have HF := Lib.hid hf
  clear hf
  have HII := Lib.hid hii
  clear hii
  have HIT := Lib.hid hs
  clear hs
  clear h hBw hP hlen hx
  go_enter Tryd.func21, Tryd.ntmps21
  go_upto_region 1 with (fail)
  generalize w.alloc _ = w1 at HS ⊢
  have c0 : w1.cell? ⟨w.heap.size, 0, none⟩ = some (.int .i64 7) := cells_of HS.out.box 0
  go_wp2_with fail
  refine (HS.out.byte 123 _ rfl (by have := HQ.out; simp at this ⊢; omega)).mono ?_
  rintro e v1 ⟨rfl, hs⟩
  have HS := Lib.hid hs
  clear hs c0
  have c6 : v1.cell? ⟨w.heap.size, 6, none⟩ = some ((.slice ai it.len ci)) := cells_of HS.out.box 6
  go_wp2_with fail
  refine (list_w m HT.out it (.slice ai it.len ci) B b _ A _ HM.out HF.out HII.out (by have := HQ.out; simp at this ⊢; omega) HS.out.wr HS.out.bw HS.out.pw (HIT.out.below HS.out.wk.low (Nat.le_refl _))).mono ?_
  rintro e v2 hx
  obtain ⟨rfl, hs⟩ := HS.out.sub hx
  have HS := Lib.hid hs
  clear hs hx c6
  go_wp2_with fail
  refine (HS.out.byte 125 _ rfl (by have := HQ.out; simp at this ⊢; omega)).mono ?_
  rintro e v3 ⟨rfl, hs⟩
  have HS := Lib.hid hs
  clear hs 
  go_wp2_with fail
  go_end0
  exact HS.out.post (by simp)
set_option maxRecDepth 100000 in
set_option maxHeartbeats 8000000 in
theorem w_k8 (fi fg far fnn : Int) (fnm ffn fbs : ByteArray) (it : TL) (ai : Option Addr) (ci : Nat) (B b : Nat) (bs : List UInt8) (w : World) (h : Wr B b bs w) (hBw : B ≤ w.heap.size) (hP : Pw B w)  (hlen : bs.length + (textT (⟨8, fi, fg, fnm, ffn, far, fbs, fnn⟩ : Fd) it).length ≤ 1000000000) :
    Calls Tryd.prog 21 #[.pointer (some ⟨b, 0, none⟩), .agg #[.int .i64 8, .int .i64 fi, .int .i64 fg, .string fnm, .string ffn, .int .i64 far, (.slice ai it.len ci), .string fbs, .int .i64 fnn]] w (WrPost B b (bs ++ textT (⟨8, fi, fg, fnm, ffn, far, fbs, fnn⟩ : Fd) it) w) := by
  have hx : textT (⟨8, fi, fg, fnm, ffn, far, fbs, fnn⟩ : Fd) it = [91, 93] := textT_k8 (f := (⟨8, fi, fg, fnm, ffn, far, fbs, fnn⟩ : Fd)) (it := it) rfl
  rw [hx] at hlen ⊢
  have HQ := Lib.hid (show (bs ++ ([91, 93])).length ≤ 1000000000 by rw [List.length_append]; exact hlen)
  have HS := Lib.hid (WS.start h hBw hP #[.int .i64 8, .int .i64 fi, .int .i64 fg, .string fnm, .string ffn, .int .i64 far, (.slice ai it.len ci), .string fbs, .int .i64 fnn])
  clear h hBw hP hlen hx
  go_enter Tryd.func21, Tryd.ntmps21
  go_upto_region 1 with (fail)
  generalize w.alloc _ = w1 at HS ⊢
  have c0 : w1.cell? ⟨w.heap.size, 0, none⟩ = some (.int .i64 8) := cells_of HS.out.box 0
  go_wp2_with fail
  refine (HS.out.str _ [91, 93] rfl (by have := HQ.out; simp at this ⊢; omega)).mono ?_
  rintro e v1 ⟨⟨m0, rfl⟩, hs⟩
  have HS := Lib.hid hs
  clear hs c0
  go_wp2_with fail
  go_end0
  exact HS.out.post (by simp)
set_option maxRecDepth 100000 in
set_option maxHeartbeats 8000000 in
theorem w_k10 (fi fg far fnn : Int) (fnm ffn fbs : ByteArray) (it : TL) (ai : Option Addr) (ci : Nat) (B b : Nat) (bs : List UInt8) (w : World) (h : Wr B b bs w) (hBw : B ≤ w.heap.size) (hP : Pw B w) (hn0 : 0 ≤ fnn) (hn1 : fnn ≤ 16384) (hsz : (fbs.size : Int) = (fnn + 7) / 8) (hlen : bs.length + (textT (⟨10, fi, fg, fnm, ffn, far, fbs, fnn⟩ : Fd) it).length ≤ 1000000000) :
    Calls Tryd.prog 21 #[.pointer (some ⟨b, 0, none⟩), .agg #[.int .i64 10, .int .i64 fi, .int .i64 fg, .string fnm, .string ffn, .int .i64 far, (.slice ai it.len ci), .string fbs, .int .i64 fnn]] w (WrPost B b (bs ++ textT (⟨10, fi, fg, fnm, ffn, far, fbs, fnn⟩ : Fd) it) w) := by
  have hx : textT (⟨10, fi, fg, fnm, ffn, far, fbs, fnn⟩ : Fd) it = [60, 60] ++ (joinC (segs (bl fbs) fnn) ++ [62, 62]) := textT_k10 (f := (⟨10, fi, fg, fnm, ffn, far, fbs, fnn⟩ : Fd)) (it := it) rfl
  rw [hx] at hlen ⊢
  have HQ := Lib.hid (show (bs ++ ([60, 60] ++ (joinC (segs (bl fbs) fnn) ++ [62, 62]))).length ≤ 1000000000 by rw [List.length_append]; exact hlen)
  have HS := Lib.hid (WS.start h hBw hP #[.int .i64 10, .int .i64 fi, .int .i64 fg, .string fnm, .string ffn, .int .i64 far, (.slice ai it.len ci), .string fbs, .int .i64 fnn])
  have HN0 := Lib.hid hn0
  clear hn0
  have HN1 := Lib.hid hn1
  clear hn1
  have HSz := Lib.hid hsz
  clear hsz
  clear h hBw hP hlen hx
  go_enter Tryd.func21, Tryd.ntmps21
  go_upto_region 1 with (fail)
  generalize w.alloc _ = w1 at HS ⊢
  have c0 : w1.cell? ⟨w.heap.size, 0, none⟩ = some (.int .i64 10) := cells_of HS.out.box 0
  go_wp2_with fail
  refine (HS.out.str _ [60, 60] rfl (by have := HQ.out; simp at this ⊢; omega)).mono ?_
  rintro e v1 ⟨⟨m0, rfl⟩, hs⟩
  have HS := Lib.hid hs
  clear hs c0
  have c0 : v1.cell? ⟨w.heap.size, 0, none⟩ = some (.int .i64 10) := cells_of HS.out.box 0
  have c1 : v1.cell? ⟨w.heap.size, 1, none⟩ = some (.int .i64 fi) := cells_of HS.out.box 1
  have c2 : v1.cell? ⟨w.heap.size, 2, none⟩ = some (.int .i64 fg) := cells_of HS.out.box 2
  have c3 : v1.cell? ⟨w.heap.size, 3, none⟩ = some (.string fnm) := cells_of HS.out.box 3
  have c4 : v1.cell? ⟨w.heap.size, 4, none⟩ = some (.string ffn) := cells_of HS.out.box 4
  have c5 : v1.cell? ⟨w.heap.size, 5, none⟩ = some (.int .i64 far) := cells_of HS.out.box 5
  have c6 : v1.cell? ⟨w.heap.size, 6, none⟩ = some ((.slice ai it.len ci)) := cells_of HS.out.box 6
  have c7 : v1.cell? ⟨w.heap.size, 7, none⟩ = some (.string fbs) := cells_of HS.out.box 7
  have c8 : v1.cell? ⟨w.heap.size, 8, none⟩ = some (.int .i64 fnn) := cells_of HS.out.box 8
  go_wp2_with fail
  refine (bits_w B b _ (⟨10, fi, fg, fnm, ffn, far, fbs, fnn⟩ : Fd) (.slice ai it.len ci) _ HS.out.wr (by have := HQ.out; simp at this ⊢; omega) HS.out.bw HS.out.pw HN0.out HN1.out HSz.out).mono ?_
  rintro e v2 hx
  obtain ⟨rfl, hs⟩ := HS.out.sub hx
  have HS := Lib.hid hs
  clear hs hx c0 c1 c2 c3 c4 c5 c6 c7 c8
  go_wp2_with fail
  refine (HS.out.str _ [62, 62] rfl (by have := HQ.out; simp at this ⊢; omega)).mono ?_
  rintro e v3 ⟨⟨m2, rfl⟩, hs⟩
  have HS := Lib.hid hs
  clear hs 
  go_wp2_with fail
  go_end0
  exact HS.out.post (by simp)
set_option maxRecDepth 100000 in
set_option maxHeartbeats 8000000 in
theorem w_k9 (fi fg far fnn : Int) (fnm ffn fbs : ByteArray) (it : TL) (ai : Option Addr) (ci : Nat) (B b : Nat) (bs : List UInt8) (w : World) (h : Wr B b bs w) (hBw : B ≤ w.heap.size) (hP : Pw B w) (A m : Nat) (hT : TermW m) (hm : it.cnt ≤ m) (hf : formL it = true) (hii : it.iok) (l0 : TL) (f' : Fd) (it' : TL) (he : it = l0.app (.cons f' it' .nil)) (hs : RdS w A B it (.slice ai (l0.len + 1) ci)) (hlen : bs.length + (textT (⟨9, fi, fg, fnm, ffn, far, fbs, fnn⟩ : Fd) it).length ≤ 1000000000) :
    Calls Tryd.prog 21 #[.pointer (some ⟨b, 0, none⟩), .agg #[.int .i64 9, .int .i64 fi, .int .i64 fg, .string fnm, .string ffn, .int .i64 far, (.slice ai (l0.len + 1) ci), .string fbs, .int .i64 fnn]] w (WrPost B b (bs ++ textT (⟨9, fi, fg, fnm, ffn, far, fbs, fnn⟩ : Fd) it) w) := by
  have hx : textT (⟨9, fi, fg, fnm, ffn, far, fbs, fnn⟩ : Fd) it = [91] ++ (joinC l0.texts ++ (tailT f' it' ++ [93])) := by rw [textT_k9 rfl, he, lisT_snoc]; rfl
  rw [hx] at hlen ⊢
  have HQ := Lib.hid (show (bs ++ ([91] ++ (joinC l0.texts ++ (tailT f' it' ++ [93])))).length ≤ 1000000000 by rw [List.length_append]; exact hlen)
  have HS := Lib.hid (WS.start h hBw hP #[.int .i64 9, .int .i64 fi, .int .i64 fg, .string fnm, .string ffn, .int .i64 far, (.slice ai (l0.len + 1) ci), .string fbs, .int .i64 fnn])
  have HT := Lib.hid hT
  clear hT
  clear h hBw hP hlen hx
  obtain ⟨ao, cap, hv, hcap, hmax, hr⟩ := hs
  have hlen2 : it.len = l0.len + 1 := by rw [he, TL.len_app]; rfl
  rw [hlen2] at hv hcap
  injection hv with hv1 hv2 hv3
  subst hv1; subst hv3
  unfold maxLen at hmax
  have hmx : ci ≤ 9223372036854775807 := by omega
  obtain ⟨ob, o, rfl, hrd⟩ := hr (by intro e; rw [e] at hlen2; simp [TL.len] at hlen2)
  rw [he] at hrd
  obtain ⟨-, hob, iv', hcl, hit⟩ := Rd.at_ _ ob o l0.len f' it' .nil hrd (drop_app l0 _)
  have HL0 := Lib.hid (show RdS w A B l0 (.slice (some ⟨ob, o, none⟩) l0.len ci) from ⟨_, _, rfl, by omega, by unfold maxLen; exact hmax, fun _ => ⟨ob, o, rfl, Rd.left l0 _ ob o hrd⟩⟩)
  have HIT := Lib.hid hit
  have HC := Lib.hid fun (W : World) (hW : Below B w W) j v (hj : (f'.cells iv')[j]? = some v) => (show W.cell? ⟨ob, o + l0.len * 9 + j, none⟩ = some v by rw [Nat.mul_comm l0.len 9]; exact (hW.cell (p := ⟨ob, o + 9 * l0.len + j, none⟩) hob).trans (hcl j v hj))
  have hc9 : l0.cnt + (it'.cnt + 1) ≤ m := by rw [he, cnt_app] at hm; simp only [TL.cnt] at hm; omega
  have HM0 := Lib.hid (show l0.cnt ≤ m by omega)
  have HM1 := Lib.hid (show it'.cnt < m by omega)
  rw [he, formL_app, Bool.and_eq_true] at hf
  rw [he] at hii
  have HF0 := Lib.hid hf.1
  have HF1 := Lib.hid (show formT f' it' = true by have := hf.2; rw [formL_cons, Bool.and_eq_true] at this; exact this.1)
  have HI0 := Lib.hid (iok_app.1 hii).1
  have HI1 := Lib.hid (show f'.iok ∧ it'.iok from ⟨(iok_app.1 hii).2.1, (iok_app.1 hii).2.2.1⟩)
  clear hrd hcl hit hc9 hf hii hm hr hlen2 he
  go_enter Tryd.func21, Tryd.ntmps21
  go_upto_region 1 with (fail)
  generalize w.alloc _ = w1 at HS ⊢
  have c0 : w1.cell? ⟨w.heap.size, 0, none⟩ = some (.int .i64 9) := cells_of HS.out.box 0
  have c6 : w1.cell? ⟨w.heap.size, 6, none⟩ = some ((.slice (some ⟨ob, o, none⟩) (l0.len + 1) ci)) := cells_of HS.out.box 6
  go_wp2_with fail
  all_goals (try (exfalso; omega))
  refine (HS.out.byte 91 _ rfl (by have := HQ.out; simp at this ⊢; omega)).mono ?_
  rintro e v1 ⟨rfl, hs⟩
  have HS := Lib.hid hs
  clear hs c0 c6
  have c6 : v1.cell? ⟨w.heap.size, 6, none⟩ = some ((.slice (some ⟨ob, o, none⟩) (l0.len + 1) ci)) := cells_of HS.out.box 6
  go_wp2_with fail
  refine (list_w m HT.out l0 (.slice (some ⟨ob, o, none⟩) l0.len ci) B b _ A _ HM0.out HF0.out HI0.out (by have := HQ.out; simp at this ⊢; omega) HS.out.wr HS.out.bw HS.out.pw (HL0.out.below HS.out.wk.low (Nat.le_refl _))).mono ?_
  rintro e v2 hx
  obtain ⟨rfl, hs⟩ := HS.out.sub hx
  have HS := Lib.hid hs
  clear hs hx c6
  have c6 : v2.cell? ⟨w.heap.size, 6, none⟩ = some ((.slice (some ⟨ob, o, none⟩) (l0.len + 1) ci)) := cells_of HS.out.box 6
  have d0 : v2.cell? ⟨ob, o + l0.len * 9, none⟩ = some (.int .i64 f'.k) := HC.out _ HS.out.wk.low 0 _ rfl
  by_cases h8 : f'.k = 8
  · skip
    have q8 : (f'.k == 8) = true := by rw [h8]; rfl
    have H8 := Lib.hid (show tailT f' it' = [] by unfold tailT; rw [if_pos h8])
    clear h8
    go_wp2_with fail
    refine (HS.out.byte 93 _ rfl (by have := HQ.out; rw [H8.out] at this; simp at this ⊢; omega)).mono ?_
    rintro e v3 ⟨rfl, hs⟩
    have HS := Lib.hid hs
    clear hs c6 d0
    go_wp2_with fail
    go_end0
    exact HS.out.post (by rw [H8.out]; simp)
  · skip
    have q8 : (f'.k == 8) = false := by simpa using h8
    have H8 := Lib.hid (show tailT f' it' = 124 :: textT f' it' by unfold tailT; rw [if_neg h8])
    go_wp2_with fail
    refine (HS.out.byte 124 _ rfl (by have := HQ.out; rw [H8.out] at this; simp at this ⊢; omega)).mono ?_
    rintro e v3 ⟨rfl, hs⟩
    have HS := Lib.hid hs
    clear hs c6 d0
    obtain ⟨ai', ci', hiv, -, -, -⟩ := id HIT.out
    subst hiv
    have c6 : v3.cell? ⟨w.heap.size, 6, none⟩ = some ((.slice (some ⟨ob, o, none⟩) (l0.len + 1) ci)) := cells_of HS.out.box 6
    have d0 : v3.cell? ⟨ob, o + l0.len * 9, none⟩ = some (.int .i64 f'.k) := HC.out _ HS.out.wk.low 0 _ rfl
    have d1 : v3.cell? ⟨ob, o + l0.len * 9 + 1, none⟩ = some (.int .i64 f'.i) := HC.out _ HS.out.wk.low 1 _ rfl
    have d2 : v3.cell? ⟨ob, o + l0.len * 9 + 2, none⟩ = some (.int .i64 f'.g) := HC.out _ HS.out.wk.low 2 _ rfl
    have d3 : v3.cell? ⟨ob, o + l0.len * 9 + 3, none⟩ = some (.string f'.nm) := HC.out _ HS.out.wk.low 3 _ rfl
    have d4 : v3.cell? ⟨ob, o + l0.len * 9 + 4, none⟩ = some (.string f'.fn) := HC.out _ HS.out.wk.low 4 _ rfl
    have d5 : v3.cell? ⟨ob, o + l0.len * 9 + 5, none⟩ = some (.int .i64 f'.ar) := HC.out _ HS.out.wk.low 5 _ rfl
    have d6 : v3.cell? ⟨ob, o + l0.len * 9 + 6, none⟩ = some (.slice ai' it'.len ci') := HC.out _ HS.out.wk.low 6 _ rfl
    have d7 : v3.cell? ⟨ob, o + l0.len * 9 + 7, none⟩ = some (.string f'.bs) := HC.out _ HS.out.wk.low 7 _ rfl
    have d8 : v3.cell? ⟨ob, o + l0.len * 9 + 8, none⟩ = some (.int .i64 f'.n) := HC.out _ HS.out.wk.low 8 _ rfl
    go_wp2_with fail
    refine (HT.out f' it' (.slice ai' it'.len ci') B b _ A _ HM1.out HF1.out HI1.out.1 HI1.out.2 (by have := HQ.out; rw [H8.out] at this; simp at this ⊢; omega) HS.out.wr HS.out.bw HS.out.pw (HIT.out.below HS.out.wk.low (Nat.le_refl _))).mono ?_
    rintro e v4 hx
    obtain ⟨rfl, hs⟩ := HS.out.sub hx
    have HS := Lib.hid hs
    clear hs hx c6 d0 d1 d2 d3 d4 d5 d6 d7 d8
    go_wp2_with fail
    refine (HS.out.byte 93 _ rfl (by have := HQ.out; rw [H8.out] at this; simp at this ⊢; omega)).mono ?_
    rintro e v5 ⟨rfl, hs⟩
    have HS := Lib.hid hs
    clear hs 
    go_wp2_with fail
    go_end0
    exact HS.out.post (by rw [H8.out]; simp)
end Go.Proofs.YtgfodedmcjkmaaaDoor
namespace Go.Proofs.YtgfodedmcjkmaaaDoor
open Go.RowKit Go.Proofs.BitsM
theorem valid_size {s : ByteArray} {n : Int} (h : validB s n = true) : (s.size : Int) = (n + 7) / 8 := by
  unfold validB at h
  simp only [Bool.and_eq_true, decide_eq_true_eq] at h
  exact h.1.2
theorem term_step (m : Nat) (hT : TermW m) : TermW (m + 1) := by
  intro f it iv B b bs A w hc hf hi hii hlen h hBw hP hs
  have hok := node_ok (form_node hf).1
  have hfl := (form_node hf).2
  obtain ⟨ai, ci, hiv, h4, h5, h6⟩ := id hs
  subst hiv
  rcases ok_kinds hok with hk | hk | hk | hk | hk | hk | hk | hk | hk | hk
  · obtain ⟨k, fi, fg, fnm, ffn, far, fbs, fnn⟩ := f
    simp only at hk; subst hk
    exact w_k1 fi fg far fnn fnm ffn fbs it ai ci B b bs w h hBw hP hi hlen
  · obtain ⟨k, fi, fg, fnm, ffn, far, fbs, fnn⟩ := f
    simp only at hk; subst hk
    exact w_k2 fi fg far fnn fnm ffn fbs it ai ci B b bs w h hBw hP hlen
  · obtain ⟨-, -, -, h1, h2⟩ := shape36 hf (.inl hk)
    obtain ⟨k, fi, fg, fnm, ffn, far, fbs, fnn⟩ := f
    simp only at hk h1 h2; subst hk
    exact w_k3 fi fg far fnn fnm ffn fbs it ai ci B b bs w h hBw hP hi ⟨by omega, by omega⟩ hlen
  · obtain ⟨-, -, h1, h2, h3⟩ := shape4 hf hk
    obtain ⟨k, fi, fg, fnm, ffn, far, fbs, fnn⟩ := f
    simp only at hk h1 h2 h3; subst hk
    exact w_k4 fi fg far fnn fnm ffn fbs it ai ci B b bs w h hBw hP hi ⟨by omega, by omega⟩ ⟨by omega, by omega⟩ A m hT (by omega) hfl hii hs hlen
  · obtain ⟨-, -, -, -, h1⟩ := shape5 hf hk
    obtain ⟨k, fi, fg, fnm, ffn, far, fbs, fnn⟩ := f
    simp only at hk h1; subst hk
    exact w_k5 fi fg far fnn fnm ffn fbs it ai ci B b bs w h hBw hP ⟨by omega, by omega⟩ hlen
  · obtain ⟨-, -, -, h1, h2⟩ := shape36 hf (.inr hk)
    obtain ⟨k, fi, fg, fnm, ffn, far, fbs, fnn⟩ := f
    simp only at hk h1 h2; subst hk
    exact w_k6 fi fg far fnn fnm ffn fbs it ai ci B b bs w h hBw hP hi ⟨by omega, by omega⟩ hlen
  · obtain ⟨k, fi, fg, fnm, ffn, far, fbs, fnn⟩ := f
    simp only at hk; subst hk
    exact w_k7 fi fg far fnn fnm ffn fbs it ai ci B b bs w h hBw hP A m hT (by omega) hfl hii hs hlen
  · obtain ⟨k, fi, fg, fnm, ffn, far, fbs, fnn⟩ := f
    simp only at hk; subst hk
    exact w_k8 fi fg far fnn fnm ffn fbs it ai ci B b bs w h hBw hP hlen
  · have h2 := (ok_list hok hk).1
    obtain ⟨l0, f', it', e, hl⟩ := snoc_of (l := it) (by intro e; rw [e] at h2; simp [TL.len] at h2)
    rw [hl] at hs ⊢
    obtain ⟨k, fi, fg, fnm, ffn, far, fbs, fnn⟩ := f
    simp only at hk; subst hk
    exact w_k9 fi fg far fnn fnm ffn fbs it ai ci B b bs w h hBw hP A m hT (by omega) hfl hii l0 f' it' e hs hlen
  · obtain ⟨h1, h2, h3⟩ := ok_bits hok hk
    obtain ⟨k, fi, fg, fnm, ffn, far, fbs, fnn⟩ := f
    simp only at hk h1 h2 h3; subst hk
    exact w_k10 fi fg far fnn fnm ffn fbs it ai ci B b bs w h hBw hP h1 h2 (valid_size h3) hlen
theorem term_w : ∀ m, TermW m
  | 0 => fun _ _ _ _ _ _ _ _ hc => absurd hc (by omega)
  | m + 1 => term_step m (term_w m)
end Go.Proofs.YtgfodedmcjkmaaaDoor
namespace Go.Proofs.YtgfodedmcjkmaaaDoor
open Go.RowKit Go.Proofs.BitsM
theorem Pw.more {B B' : Nat} {w : World} (h : Pw B w) (hB : B ≤ B') : Pw B' w := ⟨h.1, h.2.imp fun _ hg => ⟨hg.1, Nat.lt_of_lt_of_le hg.2 hB⟩⟩
theorem Wr.fresh (w : World) : Wr w.heap.size w.heap.size [] (w.alloc (.cells #[.pointer none, .slice none 0 0] 49 (0, 0))) :=
  .inl ⟨Nat.le_refl _, .slice none 0 0, heap_alloc_new _ _, ⟨by simp [Lib.byteCells], .inl ⟨rfl, rfl⟩⟩, by simp [Value.ownBlock]⟩
noncomputable def termR (f : Fd) (it : TL) : Value := if validF f it then .tuple #[.string (ba (textT f it)), .int .i64 0] else .tuple #[.string ⟨#[]⟩, .int .i64 2]
set_option maxRecDepth 100000 in
set_option maxHeartbeats 4000000 in
theorem Term_bad (f : Fd) (it : TL) (ai : Option Addr) (ci : Nat) (A B : Nat) (w : World) (hv : validF f it = false) (ht : tame f it) (hs : RdS w A B it (.slice ai it.len ci)) (hB : B ≤ w.heap.size) :
    Calls Tryd.prog 9 #[.agg #[.int .i64 f.k, .int .i64 f.i, .int .i64 f.g, .string f.nm, .string f.fn, .int .i64 f.ar, .slice ai it.len ci, .string f.bs, .int .i64 f.n]] w fun e w' => e = .returned (.tuple #[.string ⟨#[]⟩, .int .i64 2]) ∧ Below w.heap.size w w' := by
  have HV := Lib.hid fun W (hb : Below w.heap.size w W) => (pValid_any f it (.slice ai it.len ci) W A B ht (hs.below hb hB) (Nat.le_trans hB hb.size)).mono fun e w' h => (show e = .returned (.bool false) ∧ Below W.heap.size W w' by rw [hv] at h; exact h)
  clear hv ht hs
  go_enter Tryd.func9, Tryd.ntmps9
  go_wp2_with fail
  refine (HV.out _ (below_alloc _ _)).mono ?_
  rintro e w1 ⟨rfl, hb⟩
  have HB := Lib.hid (bstep (below_alloc _ _) hb)
  clear hb
  go_wp2_with fail
  go_ret2
  exact ⟨rfl, HB.out⟩
set_option maxRecDepth 100000 in
set_option maxHeartbeats 4000000 in
theorem Term_ok (f : Fd) (it : TL) (ai : Option Addr) (ci : Nat) (A B : Nat) (w : World) (hv : validF f it = true) (ht : tame f it) (hi : f.iok) (hii : it.iok) (hs : RdS w A B it (.slice ai it.len ci)) (hB : B ≤ w.heap.size) (hP : Pw w.heap.size w) :
    Calls Tryd.prog 9 #[.agg #[.int .i64 f.k, .int .i64 f.i, .int .i64 f.g, .string f.nm, .string f.fn, .int .i64 f.ar, .slice ai it.len ci, .string f.bs, .int .i64 f.n]] w fun e w' => e = .returned (.tuple #[.string (ba (textT f it)), .int .i64 0]) ∧ Below w.heap.size w w' := by
  have HV := Lib.hid fun W (hb : Below w.heap.size w W) => (pValid_any f it (.slice ai it.len ci) W A B ht (hs.below hb hB) (Nat.le_trans hB hb.size)).mono fun e w' h => (show e = .returned (.bool true) ∧ Below W.heap.size W w' by rw [hv] at h; exact h)
  have hf := (valid_form hv).1
  have hne : textT f it ≠ [] := by obtain ⟨c, t, e, _⟩ := text_head hf; rw [e]; simp
  have hlen := textT_len hv hi hii
  have HT := Lib.hid fun W (hb : Below w.heap.size w W) b (h : Wr b b [] W) (hbw : b ≤ W.heap.size) (hwb : w.heap.size ≤ b) => term_w (it.cnt + 1) f it (.slice ai it.len ci) b b [] A W (by omega) hf hi hii (by simp; omega) h hbw ((hP.keep hb).more hwb) ((hs.below hb hB).more (by omega))
  have HNe := Lib.hid hne
  clear hv ht hi hii hs hP hf hne hlen
  have HF := Lib.hid (show Bq w [.base (fun _ => False) w] from ⟨Ch.refl _ _, trivial⟩)
  go_enter Tryd.func9, Tryd.ntmps9
  go_upto_region 1 with (fail)
  have HF := Lib.hid (HF.out.box #[.int .i64 f.k, .int .i64 f.i, .int .i64 f.g, .string f.nm, .string f.fn, .int .i64 f.ar, .slice ai it.len ci, .string f.bs, .int .i64 f.n] 24 (n := w.heap.size) rfl)
  go_wp2_with fail
  refine (HV.out _ ((HF.out.base 1 rfl).below (Nat.le_refl _) fun _ _ h => h)).mono ?_
  rintro e w1 ⟨rfl, hb⟩
  have HF := Lib.hid (HF.out.below hb)
  have hz1 : w.heap.size + 1 ≤ w1.heap.size := by have := hb.size; simp at this; omega
  clear hb
  obtain ⟨c0, c1, c2, c3, c4, c5, c6, c7, c8, -⟩ := nine_cells (HF.out.blk 0 rfl)
  have hb1 : w.heap.size < w1.heap.size := by omega
  go_wp2_with fail
  have hA : Below w.heap.size w (w1.alloc (.cells #[.pointer none, .slice none 0 0] 49 (0, 0))) := ((HF.out.alloc _).base 1 rfl).below (Nat.le_refl _) fun _ _ h => h
  refine (HT.out _ hA w1.heap.size (Wr.fresh w1) (by simp) (by omega)).mono ?_
  rintro e w2 ⟨rfl, hw, hk⟩
  have HW := Lib.hid (show Wr w1.heap.size w1.heap.size (textT f it) w2 from hw)
  have HB := Lib.hid (show Below w.heap.size w w2 from ⟨hk.low.os.trans hA.os, hk.low.tape.trans hA.tape, hk.low.output.trans hA.output, Nat.le_trans hA.size hk.low.size, fun k hlt => (hk.low.block k (by omega)).trans (hA.block k hlt)⟩)
  clear hw hk hA c0 c1 c2 c3 c4 c5 c6 c7 c8
  go_wp2_with fail
  refine (String_some _ _ _ _ HW.out HNe.out).mono ?_
  rintro e w3 ⟨rfl, hb⟩
  have HB := Lib.hid (show Below w.heap.size w w3 from ⟨hb.os.trans HB.out.os, hb.tape.trans HB.out.tape, hb.output.trans HB.out.output, Nat.le_trans HB.out.size hb.size, fun k hlt => (hb.block k (by omega)).trans (HB.out.block k hlt)⟩)
  clear hb
  go_wp2_with fail
  go_ret2
  exact ⟨rfl, HB.out⟩
theorem Term_any (f : Fd) (it : TL) (ai : Option Addr) (ci : Nat) (A B : Nat) (w : World) (ht : tame f it) (hi : f.iok) (hii : it.iok) (hs : RdS w A B it (.slice ai it.len ci)) (hB : B ≤ w.heap.size) (hP : Pw w.heap.size w) :
    Calls Tryd.prog 9 #[.agg #[.int .i64 f.k, .int .i64 f.i, .int .i64 f.g, .string f.nm, .string f.fn, .int .i64 f.ar, .slice ai it.len ci, .string f.bs, .int .i64 f.n]] w fun e w' => e = .returned (termR f it) ∧ Below w.heap.size w w' := by
  unfold termR
  cases hv : validF f it with
  | false => exact Term_bad f it ai ci A B w hv ht hs hB
  | true => exact Term_ok f it ai ci A B w hv ht hi hii hs hB hP
end Go.Proofs.YtgfodedmcjkmaaaDoor
namespace Go.Proofs.YtgfodedmcjkmaaaDoor
open Go.RowKit Go.Proofs.BitsM
theorem info_str : (Tryd.prog.info? 9).map (fun i => (i.zero, i.size, i.bytes)) = some (some (.string ⟨#[]⟩), 1, 16) := by kernel_rfl
noncomputable def validL : TL → Bool
  | .nil => true
  | .cons f it r => validF f it && validL r
def joinW (l : TL) : List UInt8 := Lib.join l.texts [32]
noncomputable def listR (l : TL) : Value := if validL l then .tuple #[.string (ba (joinW l)), .int .i64 0] else .tuple #[.string ⟨#[]⟩, .int .i64 2]
def strs (ts : List (List UInt8)) : List Value := ts.map fun t => .string (ba t)
theorem one_str {w : World} {x : ByteArray} : ∀ j u, [Value.string x][j]? = some u → (w.alloc (.cells #[.string x] 9 (0, 0))).cell? ((⟨w.heap.size, 0, none⟩ : Addr).add j) = some u := by
  intro j u hj
  match j, hj with
  | 0, hj => simp at hj; subst hj; simp [Addr.add]
theorem tame_at : ∀ {l : TL} {k : Nat} {f : Fd} {it r : TL}, l.cnt ≤ 1000000 → l.small 1000000 → l.iok → l.drop k = .cons f it r → tame f it ∧ f.iok ∧ it.iok
  | .nil, k, _, _, _, _, _, _, h => by cases k <;> simp [TL.drop] at h
  | .cons f it r, 0, _, _, _, h0, h1, h2, h => by
    rw [TL.drop_zero] at h; injection h with a b c
    subst a; subst b
    simp only [TL.cnt] at h0
    exact ⟨⟨by omega, h1.1, h1.2.1, h1.2.2.1, h1.2.2.2.1⟩, h2.1, h2.2.1⟩
  | .cons f it r, k + 1, _, _, _, h0, h1, h2, h => by
    rw [TL.drop] at h
    simp only [TL.cnt] at h0
    exact tame_at (by omega) h1.2.2.2.2 h2.2.2 h
theorem strs_take (ts : List (List UInt8)) (k : Nat) (x : List UInt8) (h : ts[k]? = some x) : strs (ts.take (k + 1)) = strs (ts.take k) ++ [.string (ba x)] := by
  rw [List.take_add_one, h]; unfold strs; rw [List.map_append]; rfl
theorem jt_len : ∀ l : TL, validL l = true → l.iok → (Lib.joinTail [32] l.texts).length ≤ 440001 * l.len
  | .nil, _, _ => Nat.zero_le _
  | .cons f it r, h, hi => by
    simp only [validL, Bool.and_eq_true] at h
    have a := textT_len h.1 hi.1 hi.2.1
    have b := jt_len r h.2 hi.2.2
    have e : (Lib.joinTail [32] (TL.cons f it r).texts).length = 1 + (textT f it).length + (Lib.joinTail [32] r.texts).length := by
      rw [texts_cons]; unfold Lib.joinTail
      simp only [List.map_cons, List.flatten_cons, List.length_append, List.length_cons, List.length_nil]
    rw [e, TL.len]; omega
theorem joinW_len (l : TL) (h : validL l = true) (hi : l.iok) : (joinW l).length ≤ 440001 * l.len := by
  cases l with
  | nil => exact Nat.zero_le _
  | cons f it r =>
    simp only [validL, Bool.and_eq_true] at h
    have a := textT_len h.1 hi.1 hi.2.1
    have b := jt_len r h.2 hi.2.2
    unfold joinW
    rw [texts_cons, Lib.join_cons, List.length_append, TL.len]; omega
set_option maxRecDepth 100000 in
set_option maxHeartbeats 8000000 in
theorem List_any (l : TL) (v : Value) (A B : Nat) (w : World) (hm : l.cnt ≤ 1000000) (hsm : l.small 1000000) (hi : l.iok) (hs : RdS w A B l v) (hB : B ≤ w.heap.size) (hP : Pw w.heap.size w) :
    Calls Tryd.prog 17 #[v] w fun e w' => e = .returned (listR l) ∧ Below w.heap.size w w' := by
  have hll := l.len_le_cnt
  have HX := Lib.hid fun k f it r (e : l.drop k = .cons f it r) => tame_at hm hsm hi e
  have HP := Lib.hid hP
  have HII := Lib.hid hi
  obtain ⟨ao, cap, rfl, hcap, hmax, hr⟩ := hs
  unfold maxLen at hmax
  have HR := Lib.hid hr
  obtain ⟨i0, hi0, hj⟩ := Option.map_eq_some_iff.1 info_str
  simp only [Prod.mk.injEq] at hj
  obtain ⟨iz0, iz1, iz2⟩ := hj
  have hl2 : l.len ≤ 1000000 := by omega
  clear hr hsm hi hP hm hll
  go_enter Tryd.func17, Tryd.ntmps17
  go_wp2_with fail
  go_loopw [4, 11] (fun out i wr => ∃ k : Nat, k ≤ l.len ∧ i = .int .i64 k ∧ Hid (Below w.heap.size w wr) ∧ Hid (wr.ownsRow w.heap.size 9 1 out k (strs (l.texts.take k))) ∧ Hid (validL l = validL (l.drop k))) (fun _ i _ => l.len - (intOf i).toNat)
  case atStart => exact ⟨0, Nat.zero_le _, rfl, Lib.hid (Below.refl _ _), Lib.hid (World.ownsRow_nil _ _ _ _), Lib.hid (by rw [TL.drop_zero])⟩
  case round =>
    obtain ⟨k, hk, rfl, HB, HO, HE⟩ := hrel
    by_cases hlt : k < l.len
    · have hlt' : (k : Int) < (l.len : Int) := by omega
      obtain ⟨f, it, e1⟩ := TL.drop_at l k hlt
      obtain ⟨ob, o, rfl, hrd⟩ := HR.out (by intro e; rw [e] at hlt; simp [TL.len] at hlt)
      obtain ⟨-, hb, iv, hcl, hit⟩ := Rd.at_ l ob o k f it _ hrd e1
      have hcw : ∀ j v, (f.cells iv)[j]? = some v → wr.cell? ⟨ob, o + 9 * k + j, none⟩ = some v := fun j v hj => (HB.out.cell (p := ⟨ob, o + 9 * k + j, none⟩) (by exact Nat.lt_of_lt_of_le hb hB)).trans (hcl j v hj)
      have c0 : wr.cell? ⟨ob, o + k * 9, none⟩ = some (.int .i64 f.k) := by have h := hcw 0 _ rfl; rw [Nat.mul_comm 9 k] at h; exact h
      have c1 : wr.cell? ⟨ob, o + k * 9 + 1, none⟩ = some (.int .i64 f.i) := by have h := hcw 1 _ rfl; rw [Nat.mul_comm 9 k] at h; exact h
      have c2 : wr.cell? ⟨ob, o + k * 9 + 2, none⟩ = some (.int .i64 f.g) := by have h := hcw 2 _ rfl; rw [Nat.mul_comm 9 k] at h; exact h
      have c3 : wr.cell? ⟨ob, o + k * 9 + 3, none⟩ = some (.string f.nm) := by have h := hcw 3 _ rfl; rw [Nat.mul_comm 9 k] at h; exact h
      have c4 : wr.cell? ⟨ob, o + k * 9 + 4, none⟩ = some (.string f.fn) := by have h := hcw 4 _ rfl; rw [Nat.mul_comm 9 k] at h; exact h
      have c5 : wr.cell? ⟨ob, o + k * 9 + 5, none⟩ = some (.int .i64 f.ar) := by have h := hcw 5 _ rfl; rw [Nat.mul_comm 9 k] at h; exact h
      have c6 : wr.cell? ⟨ob, o + k * 9 + 6, none⟩ = some (iv) := by have h := hcw 6 _ rfl; rw [Nat.mul_comm 9 k] at h; exact h
      have c7 : wr.cell? ⟨ob, o + k * 9 + 7, none⟩ = some (.string f.bs) := by have h := hcw 7 _ rfl; rw [Nat.mul_comm 9 k] at h; exact h
      have c8 : wr.cell? ⟨ob, o + k * 9 + 8, none⟩ = some (.int .i64 f.n) := by have h := hcw 8 _ rfl; rw [Nat.mul_comm 9 k] at h; exact h
      have HIT := Lib.hid hit
      have HXK := Lib.hid (HX.out k f it _ e1)
      have HVL := Lib.hid (show validL l = (validF f it && validL (l.drop (k + 1))) by rw [HE.out, e1]; rfl)
      have HTk := Lib.hid (strs_take _ _ _ (texts_at e1))
      clear hcl hcw hrd e1 hit
      obtain ⟨ai, ci, rfl, -, -, -⟩ := HIT.out
      have HCall := Lib.hid fun W (hbW : Below w.heap.size w W) => Term_any f it ai ci A B W HXK.out.1 HXK.out.2.1 HXK.out.2.2 (HIT.out.below hbW hB) (Nat.le_trans hB hbW.size) ((HP.out.keep hbW).more hbW.size)
      cases hv : validF f it with
      | false =>
        have HV := Lib.hid hv
        have HCall := Lib.hid fun W (hbW : Below w.heap.size w W) => (HCall.out W hbW).mono fun e w' h => (show e = .returned (.tuple #[.string ⟨#[]⟩, .int .i64 2]) ∧ Below W.heap.size W w' by unfold termR at h; rw [hv] at h; exact h)
        clear hv
        go_wp2_with fail
        refine (HCall.out _ (balloc HB.out _)).mono ?_
        rintro e w1 ⟨rfl, hb1⟩
        have HB1 := Lib.hid (bstep (balloc HB.out _) hb1)
        clear hb1 c0 c1 c2 c3 c4 c5 c6 c7 c8
        go_wp2_with fail
        go_ret2
        exact ⟨by unfold listR; rw [HVL.out, HV.out]; rfl, HB1.out⟩
      | true =>
        have HCall := Lib.hid fun W (hbW : Below w.heap.size w W) => (HCall.out W hbW).mono fun e w' h => (show e = .returned (.tuple #[.string (ba (textT f it)), .int .i64 0]) ∧ Below W.heap.size W w' by unfold termR at h; rw [hv] at h; exact h)
        have HV := Lib.hid hv
        clear hv
        go_wp2_with fail
        refine (HCall.out _ (balloc HB.out _)).mono ?_
        rintro e w1 ⟨rfl, hb1⟩
        have HB1 := Lib.hid (bstep (balloc HB.out _) hb1)
        have HO1 := Lib.hid (own_keep (HO.out.alloc _) fun k _ hlt => hb1.block k hlt)
        have hz1 : w.heap.size ≤ w1.heap.size := HB1.out.size
        clear hb1 c0 c1 c2 c3 c4 c5 c6 c7 c8
        go_wp2_with (at_builtin; refine wpList_append_own _ rfl (.tmp 23) (.tmp 25) 59 rfl w.heap.size 9 i0 (.string ⟨#[]⟩) 1 16 Tryd.underlying59 hi0 iz0 iz1 iz2 rfl (by decide) _ _ _ rfl (HO1.out.alloc _) ⟨w1.heap.size, 0, none⟩ 1 1 [.string (ba (textT f it))] rfl rfl (by exact one_str) (by intro u hu; simp at hu; subst hu; rfl) (by unfold maxLen; omega) (by omega) (by simp; omega) ?_)
        intro v' w2 hown' hgrow _
        have HB2 := Lib.hid (show Below w.heap.size w w2 from (balloc HB1.out _).grown hgrow (by simp; omega) fun k hk => (HO1.out.lt k hk).1)
        have HO2 := Lib.hid hown'
        clear hown' hgrow
        go_wp2_with fail
        go_roundw
        case rel => exact ⟨k + 1, by omega, by go_num, HB2, Lib.hid (by rw [HTk.out]; exact HO2.out), Lib.hid (by rw [HVL.out, HV.out, Bool.true_and])⟩
        case measure => simp only [intOf]; omega
    · have x1 : ¬ (k : Int) < (l.len : Int) := by omega
      obtain rfl : k = l.len := by omega
      have HVL := Lib.hid (show validL l = true by rw [HE.out, TL.drop_len l _ (Nat.le_refl _)]; rfl)
      have hown := HO.out
      rw [← texts_len, List.take_length] at hown
      have HTx := Lib.hid (joinW_len l HVL.out HII.out)
      go_wp2_with fail
      rcases hown.2 with ⟨rfl, h0⟩ | ⟨g, cp, cur, rfl, hg, hgg, hcp, -⟩
      · have hl0 : l = .nil := TL.len_zero (by rw [← texts_len]; exact h0)
        subst hl0
        refine (Tryd.strings_Join_none none 0 ⟨#[32]⟩ wr).mono ?_
        rintro e w1 ⟨rfl, rfl⟩
        go_wp2_with fail
        go_ret2
        exact ⟨by unfold listR; rw [HVL.out]; rfl, HB.out⟩
      · have hc := hown.cells (g := g) rfl
        have hn := hown.1
        have hmm : (l.texts.map ba).map (·.data.toList) = l.texts := by
          rw [List.map_map]
          have : ((fun s : ByteArray => s.data.toList) ∘ ba) = id := by funext x; rfl
          rw [this, List.map_id]
        have hj := Tryd.strings_Join g 0 cp (l.texts.map ba) ⟨#[32]⟩ wr (by
          intro j x hx
          have h1 := hc j (.string x) (by
            unfold strs
            rw [List.getElem?_map] at hx ⊢
            cases ht : l.texts[j]? with
            | none => rw [ht] at hx; cases hx
            | some y => rw [ht] at hx; injection hx with hx; subst hx; rfl)
          rw [Nat.zero_add]
          cases j with
          | zero => exact h1
          | succ j => simpa [Addr.add] using h1) (lt_of_block hgg) (by rw [List.length_map, texts_len]; omega) (by rw [List.length_map]; exact hcp) (by rw [hmm]; have := HTx.out; unfold joinW at this; exact Nat.le_trans this (by omega))
        rw [hmm, List.length_map] at hj
        have HJ := Lib.hid hj
        clear hj hc hn hmm
        refine HJ.out.mono ?_
        rintro e w1 ⟨rfl, hb⟩
        have HB1 := Lib.hid (bstep HB.out hb)
        clear hb
        go_wp2_with fail
        go_ret2
        exact ⟨by unfold listR; rw [HVL.out]; rfl, HB1.out⟩
end Go.Proofs.YtgfodedmcjkmaaaDoor
