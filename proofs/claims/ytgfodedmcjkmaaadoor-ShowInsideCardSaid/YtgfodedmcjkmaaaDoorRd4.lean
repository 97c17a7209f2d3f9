/-
  Walks: the program's reader of show: bits.
-/
import Derived.Test.YtgfodedmcjkmaaaDoorRdA
import Derived.Test.YtgfodedmcjkmaaaDoorWriter
import Derived.Laws.BytesArg
namespace Go.Proofs.YtgfodedmcjkmaaaDoor
open Go.RowKit Go.Proofs.BitsM
theorem hasPre (l : List UInt8) (p : ByteArray) (w : World) : Calls Tryd.prog 68 #[.string (ba l), .string p] w fun e w' => e = .returned (.bool (hp l (bl p))) ∧ w' = w := Tryd.strings_HasPrefix (ba l) p w
/-- how much is left -/
def leftLen (R : Nat) (w : World) : Nat := match w.cell? ⟨R, 0, none⟩ with | some (.string s) => s.size | _ => 0
theorem leftLen_of {R : Nat} {l : List UInt8} {d : Int} {w : World} (h : Rb R l d w) : leftLen R w = l.length := by
  unfold leftLen; rw [h.c0]; exact ba_size l
theorem nums_ba (l : List UInt8) : strOfNums (l.map fun c => (c.toNat : Int)) = ba l := by
  unfold strOfNums ba
  congr 2
  rw [List.map_map]
  conv => rhs; rw [← List.map_id l]
  refine List.map_congr_left fun c _ => ?_
  simp
/-- an owned row of bytes, converted to a string -/
theorem conv_bl {w : World} {base : Nat} {v : Value} {l : List UInt8} (h : w.ownsRow base 5 1 v l.length (Lib.byteCells l)) : (convert 45 9 v).run Tryd.prog w = .ok (.string (ba l)) w := by
  rcases h.2 with ⟨rfl, h0⟩ | ⟨g, cap, cur, rfl, hb, hg, hn, hcap, hsz, htake⟩
  · have e : l = [] := List.length_eq_zero_iff.1 h0
    subst e
    exact run_convert_bytes_nil w 45 5 Tryd.underlying45 Tryd.underlying5 _ _ _ Tryd.underlying9
  · rw [← nums_ba l]
    refine run_convert_bytes_arg w 45 5 Tryd.underlying45 Tryd.underlying5 g 0 _ cap (l.map fun c => (c.toNat : Int)) (List.length_map _) ?_ _ Tryd.underlying9
    intro i hi
    rw [Nat.zero_add, h.cellAt i (by omega)]
    simp [Lib.byteCells, List.getD, hi]
/-- where the loop stands: what has been read, what is to come -/
def BitsSt (m0 : Option (List UInt8 × Int × List UInt8)) (acc : List UInt8) (cnt : Int) (s : List UInt8) : Bool → Prop
  | true => ∃ j, s.length < j ∧ m0 = (pSegs true j s).map fun z => (acc ++ z.1, cnt + z.2.1, z.2.2)
  | false => m0 = some (acc, cnt, s)
theorem eatN (R : Nat) (l : List UInt8) (d : Int) (p : ByteArray) (w : World) (hr : Rb R l d w) (h : hp l (bl p) = false) :
    Calls Tryd.prog 54 #[.pointer (some ⟨R, 0, none⟩), .string p] w (Rt R (.bool false) l d w) := by
  refine (eat_no R l d p w hr h).mono ?_
  rintro e w' ⟨rfl, rfl⟩
  exact ⟨rfl, hr, Ch.refl _ _⟩
def BitsPost (R : Nat) (m0 : Option (List UInt8 × Int × List UInt8)) (d : Int) (w : World) (e : Ending) (w' : World) : Prop :=
  match m0.bind fun z => (pMust [62, 62] z.2.2).bind fun s' => some (bitF z.1 z.2.1, s') with
  | none => Bad R w e w'
  | some x => Rt R (.agg #[.int .i64 10, .int .i64 0, .int .i64 0, .string ⟨#[]⟩, .string ⟨#[]⟩, .int .i64 0, .slice none 0 0, .string x.1.bs, .int .i64 x.1.n]) x.2 d w e w'
theorem bits_bad {R : Nat} {m0 : Option (List UInt8 × Int × List UInt8)} {d : Int} {w : World} {e : Ending} {w' : World} (h : (m0.bind fun z => (pMust [62, 62] z.2.2).bind fun s' => some (bitF z.1 z.2.1, s')) = none) (hb : Bad R w e w') : BitsPost R m0 d w e w' := by
  unfold BitsPost; rw [h]; exact hb
theorem bits_good {R : Nat} {m0 : Option (List UInt8 × Int × List UInt8)} {d : Int} {w : World} {e : Ending} {w' : World} {x : Fd × List UInt8} (h : (m0.bind fun z => (pMust [62, 62] z.2.2).bind fun s' => some (bitF z.1 z.2.1, s')) = some x)
    (hb : Rt R (.agg #[.int .i64 10, .int .i64 0, .int .i64 0, .string ⟨#[]⟩, .string ⟨#[]⟩, .int .i64 0, .slice none 0 0, .string x.1.bs, .int .i64 x.1.n]) x.2 d w e w') : BitsPost R m0 d w e w' := by
  unfold BitsPost; rw [h]; exact hb
theorem segB_val1 {v : Int} (h0 : 0 ≤ v) (h1 : v < 2) : v * 128 = ((segB v 1).toNat : Int) := by
  have e : (segB v 1).toNat = v.toNat * 128 := by
    show (UInt8.ofNat (v.toNat * 128)).toNat = _
    rw [UInt8.toNat_ofNat', Nat.mod_eq_of_lt (by omega)]
  rw [e]; omega
theorem segB_val2 {v : Int} (h0 : 0 ≤ v) (h1 : v < 4) : v * 64 = ((segB v 2).toNat : Int) := by
  have e : (segB v 2).toNat = v.toNat * 64 := by
    show (UInt8.ofNat (v.toNat * 64)).toNat = _
    rw [UInt8.toNat_ofNat', Nat.mod_eq_of_lt (by omega)]
  rw [e]; omega
theorem segB_val3 {v : Int} (h0 : 0 ≤ v) (h1 : v < 8) : v * 32 = ((segB v 3).toNat : Int) := by
  have e : (segB v 3).toNat = v.toNat * 32 := by
    show (UInt8.ofNat (v.toNat * 32)).toNat = _
    rw [UInt8.toNat_ofNat', Nat.mod_eq_of_lt (by omega)]
  rw [e]; omega
theorem segB_val4 {v : Int} (h0 : 0 ≤ v) (h1 : v < 16) : v * 16 = ((segB v 4).toNat : Int) := by
  have e : (segB v 4).toNat = v.toNat * 16 := by
    show (UInt8.ofNat (v.toNat * 16)).toNat = _
    rw [UInt8.toNat_ofNat', Nat.mod_eq_of_lt (by omega)]
  rw [e]; omega
theorem segB_val5 {v : Int} (h0 : 0 ≤ v) (h1 : v < 32) : v * 8 = ((segB v 5).toNat : Int) := by
  have e : (segB v 5).toNat = v.toNat * 8 := by
    show (UInt8.ofNat (v.toNat * 8)).toNat = _
    rw [UInt8.toNat_ofNat', Nat.mod_eq_of_lt (by omega)]
  rw [e]; omega
theorem segB_val6 {v : Int} (h0 : 0 ≤ v) (h1 : v < 64) : v * 4 = ((segB v 6).toNat : Int) := by
  have e : (segB v 6).toNat = v.toNat * 4 := by
    show (UInt8.ofNat (v.toNat * 4)).toNat = _
    rw [UInt8.toNat_ofNat', Nat.mod_eq_of_lt (by omega)]
  rw [e]; omega
theorem segB_val7 {v : Int} (h0 : 0 ≤ v) (h1 : v < 128) : v * 2 = ((segB v 7).toNat : Int) := by
  have e : (segB v 7).toNat = v.toNat * 2 := by
    show (UInt8.ofNat (v.toNat * 2)).toNat = _
    rw [UInt8.toNat_ofNat', Nat.mod_eq_of_lt (by omega)]
  rw [e]; omega
theorem segB_val8 {v : Int} (h0 : 0 ≤ v) (h1 : v < 256) : v = ((segB v 8).toNat : Int) := by
  have e : (segB v 8).toNat = v.toNat * 1 := by
    show (UInt8.ofNat (v.toNat * 1)).toNat = _
    rw [UInt8.toNat_ofNat', Nat.mod_eq_of_lt (by omega)]
  rw [e]; omega
/-- one byte more in an owned row of bytes -/
theorem own_byte {w : World} {base : Nat} {v : Value} {acc : List UInt8} {c : UInt8} {z : Int} (h : w.ownsRow base 5 1 v (acc.length + 1) (Lib.byteCells acc ++ [.int .u8 z])) (hz : z = (c.toNat : Int)) : w.ownsRow base 5 1 v (acc ++ [c]).length (Lib.byteCells (acc ++ [c])) := by
  subst hz
  rw [List.length_append, List.length_singleton, show Lib.byteCells (acc ++ [c]) = Lib.byteCells acc ++ [.int .u8 (c.toNat : Int)] by simp [Lib.byteCells]]
  exact h
theorem one_u8 {w : World} {u : Value} : ∀ (j : Nat) (u' : Value), [u][j]? = some u' → (w.alloc (.cells #[u] 5)).cell? ((⟨w.heap.size, 0, none⟩ : Addr).add j) = some u' := by
  intro j u' hj
  match j, hj with
  | 0, hj => simp at hj; subst hj; simp [Addr.add]
set_option maxRecDepth 100000 in
set_option maxHeartbeats 8000000 in
theorem bits_any (R : Nat) (l : List UInt8) (d : Int) (j : Nat) (w : World) (hr : Rb R l d w) (hl : l.length ≤ 1000000000) (hj : l.length < j) (m0 : Option (List UInt8 × Int × List UInt8)) (hm : m0 = if hp l [62, 62] then some ([], 0, l) else pSegs true j l) :
    Calls Tryd.prog 59 #[.pointer (some ⟨R, 0, none⟩)] w (BitsPost R m0 d w) := by
  have hst : BitsSt m0 [] 0 l (!hp l [62, 62]) := by
    cases hh : hp l [62, 62] with
    | true => rw [hh] at hm; exact hm
    | false =>
      rw [hh] at hm
      refine ⟨j, hj, ?_⟩
      rw [hm]
      cases pSegs true j l with
      | none => rfl
      | some z => simp
  have HST := Lib.hid hst
  clear hst hm hj
  obtain ⟨i0, hi, hk0⟩ := Option.map_eq_some_iff.1 Tryd.info5
  simp only [Prod.mk.injEq] at hk0
  obtain ⟨iz0, iz1, iz2⟩ := hk0
  have hRw : R < w.heap.size := hr.lt
  have HF0 := Lib.hid (show Bq w [.blk R #[.string (ba (l)), .int .i64 d] 56, .base (fun b => b = R) w] from ⟨hr, Ch.refl _ _, trivial⟩)
  clear hr
  go_enter Tryd.func59, Tryd.ntmps59
  have c0 := cells_of (HF0.out.blk 0 rfl) 0
  go_wp2_with fail
  refine (hasPre l ⟨#[62, 62]⟩ _).mono ?_
  rintro e w1 ⟨rfl, rfl⟩
  have HF1 := Lib.hid (HF0.out.box #[.int .i64 0, .int .i64 0, .int .i64 0, .string ⟨#[]⟩, .string ⟨#[]⟩, .int .i64 0, .slice none 0 0, .string ⟨#[]⟩, .int .i64 0] 24 (n := w.heap.size) (by rfl))
  clear HF0
  clear c0
  have HB : Hid (hp l (bl ⟨#[62, 62]⟩) = hp l [62, 62]) := Lib.hid rfl
  rw [HB.out]
  clear HB
  generalize hp l [62, 62] = b0 at HST
  go_wp2_with fail
  go_loopw [3, 4, 5] (fun v i o wr => ∃ (acc s : List UInt8) (cnt : Int) (mo : Bool), o = .bool mo ∧ i = .int .i64 cnt ∧ 0 ≤ cnt ∧ cnt + 8 * (s.length : Int) ≤ 8000000000 ∧ acc.length + s.length ≤ 1000000000 ∧ Hid (BitsSt m0 acc cnt s mo) ∧ Hid (Bq wr [.blk R #[.string (ba (s)), .int .i64 d] 56, .base (fun b => b = R) w, .blk w.heap.size #[.int .i64 0, .int .i64 0, .int .i64 0, .string ⟨#[]⟩, .string ⟨#[]⟩, .int .i64 0, .slice none 0 0, .string ⟨#[]⟩, .int .i64 0] 24]) ∧ Hid (wr.ownsRow (w.heap.size + 1) 5 1 v acc.length (Lib.byteCells acc))) (fun _ _ _ wr => leftLen R wr)
  case atStart => exact ⟨[], l, 0, !b0, rfl, rfl, by omega, by omega, by simpa using hl, HST, Lib.hid ⟨(HF1.out.blk 1 rfl), (HF1.out.base 2 rfl), (HF1.out.get 0 rfl), trivial⟩, Lib.hid (World.ownsRow_nil _ _ _ _)⟩
  case round =>
    obtain ⟨acc, s, cnt, mo, rfl, rfl, hc0, hc1, hal, HS, HW, HO⟩ := hrel
    clear HST HF1
    have hzr : w.heap.size < wr.heap.size := lt_of_block (HW.out.blk 2 rfl)
    have hlen := leftLen_of (HW.out.blk 0 rfl)
    cases mo with
    | false =>
      have HS0 := Lib.hid (show m0 = some (acc, cnt, s) from HS.out)
      clear HS
      cases h1 : pMust [62, 62] s with
      | none =>
        have H1 := Lib.hid h1
        clear h1
        go_wp2_with fail
        refine (mustN R _ d ⟨#[62, 62]⟩ _ (HW.out.blk 0 rfl) H1.out).mono ?_
        rintro e w9 ⟨rfl, ⟨l9, d9, hr⟩, ho⟩
        have HZ := Lib.hid (HW.out.call 0 ho hr (by refine ⟨?_, ?_, trivial⟩ <;> (simp only [Fq.apart]; first | omega | (intro b h1 h2; omega) | (intro b h1 h2 h3; omega))))
        clear ho hr
        go_wp2_with fail
        exact ⟨rfl, bits_bad (by rw [HS0.out, Option.bind_some, H1.out]; rfl) ⟨rfl, ⟨_, _, (HZ.out.blk 0 rfl)⟩, (HZ.out.base 1 rfl)⟩⟩
      | some s1 =>
        have H1 := Lib.hid h1
        clear h1
        go_wp2_with fail
        refine (mustY R _ s1 d ⟨#[62, 62]⟩ _ (HW.out.blk 0 rfl) H1.out).mono ?_
        rintro e w1 ⟨rfl, hr, ho⟩
        have HF1 := Lib.hid (HW.out.call 0 ho hr (by refine ⟨?_, ?_, trivial⟩ <;> (simp only [Fq.apart]; first | omega | (intro b h1 h2; omega) | (intro b h1 h2 h3; omega))))
        have hz1 : wr.heap.size ≤ w1.heap.size := by have := ho.size; first | omega | (simp at this; omega)
        have HO1 := Lib.hid (own_keep HO.out fun k hk hlt => ho.block k hlt (by omega))
        clear HO
        clear HW ho hr
        have hconv := conv_bl HO1.out
        obtain ⟨d0, d1, d2, d3, d4, d5, d6, d7, d8, fs⟩ := nine_cells (HF1.out.blk 2 rfl)
        go_wp2_with fail
        have HF2 := Lib.hid (HF1.out.put 2 rfl (by refine ⟨?_, ?_, trivial⟩ <;> (simp only [Fq.apart]; first | omega | (intro b h1 h2; omega) | (intro b h1 h2 h3; omega))) (.int .i64 10) (.int .i64 0) (.int .i64 0) (.string ⟨#[]⟩) (.string ⟨#[]⟩) (.int .i64 0) (.slice none 0 0) (.string (ba acc)) (.int .i64 cnt))
        clear HF1
        refine bodyPost_ret (results_one rfl _ _ _ _ _ _ _ _ _ _ _ _ rfl (HF2.out.blk 0 rfl)) rfl ?_
        exact bits_good (x := (bitF acc cnt, s1)) (by rw [HS0.out, Option.bind_some, H1.out]; rfl) ⟨rfl, (HF2.out.blk 1 rfl), (HF2.out.base 2 rfl)⟩
    | true =>
      obtain ⟨j', hj', hm0⟩ := HS.out
      clear HS
      cases j' with
      | zero => exact absurd hj' (Nat.not_lt_zero _)
      | succ j' =>
        rw [pSegs] at hm0
        cases h1 : pInt s with
        | none =>
          rw [h1] at hm0
          have HM := Lib.hid hm0
          have H1 := Lib.hid h1
          clear hm0 h1
          go_wp2_with fail
          refine (int_none R s d _ (HW.out.blk 0 rfl) (by omega) H1.out).mono ?_
          rintro e w9 ⟨rfl, ⟨l9, d9, hr⟩, ho⟩
          have HZ := Lib.hid (HW.out.call 0 ho hr (by refine ⟨?_, ?_, trivial⟩ <;> (simp only [Fq.apart]; first | omega | (intro b h1 h2; omega) | (intro b h1 h2 h3; omega))))
          clear ho hr
          go_wp2_with fail
          all_goals (try (exfalso; omega))
          exact ⟨rfl, bits_bad (by rw [HM.out]; rfl) ⟨rfl, ⟨_, _, (HZ.out.blk 0 rfl)⟩, (HZ.out.base 1 rfl)⟩⟩
        | some x =>
          rw [h1, Option.bind_some] at hm0
          have hx := int_len h1
          have H1 := Lib.hid h1
          clear h1
          cases h58 : hp x.2 [58] with
          | false =>
            have H58 := Lib.hid h58
            have hmany : pMany true x.2 = some (8, x.2) := by unfold pMany; rw [h58, if_neg (by decide)]
            rw [hmany, Option.bind_some] at hm0
            clear h58 hmany
            by_cases hv0 : x.1 < 0
            ·
              have HM := Lib.hid (show m0 = none from by
                rw [hm0, if_neg]
                · rfl
                · simp only [okSeg, Bool.and_eq_true, decide_eq_true_eq]; omega)
              clear hm0
              go_wp2_with fail
              refine (int_some R s d x _ (HW.out.blk 0 rfl) (by omega) H1.out).mono ?_
              rintro e w1 ⟨rfl, hr, ho⟩
              have HF1 := Lib.hid (HW.out.call 0 ho hr (by refine ⟨?_, ?_, trivial⟩ <;> (simp only [Fq.apart]; first | omega | (intro b h1 h2; omega) | (intro b h1 h2 h3; omega))))
              have hz1 : wr.heap.size ≤ w1.heap.size := by have := ho.size; first | omega | (simp at this; omega)
              have HO1 := Lib.hid (own_keep HO.out fun k hk hlt => ho.block k hlt (by omega))
              clear HO
              clear HW ho hr
              go_wp2_with fail
              refine (eatN R _ d ⟨#[58]⟩ _ (HF1.out.blk 0 rfl) H58.out).mono ?_
              rintro e w2 ⟨rfl, hr, ho⟩
              have HF2 := Lib.hid (HF1.out.call 0 ho hr (by refine ⟨?_, ?_, trivial⟩ <;> (simp only [Fq.apart]; first | omega | (intro b h1 h2; omega) | (intro b h1 h2 h3; omega))))
              have hz2 : w1.heap.size ≤ w2.heap.size := by have := ho.size; first | omega | (simp at this; omega)
              have HO2 := Lib.hid (own_keep HO1.out fun k hk hlt => ho.block k hlt (by omega))
              clear HO1
              clear HF1 ho hr
              go_wp2_with fail
              all_goals (try (exfalso; omega))
              exact ⟨rfl, bits_bad (by rw [HM.out]; rfl) ⟨rfl, ⟨_, _, (HF2.out.blk 0 rfl)⟩, (HF2.out.base 1 rfl)⟩⟩
            · by_cases hv1 : x.1 < 256
              ·
                have hok : okSeg true x.1 8 = true := by simp only [okSeg, Bool.and_eq_true, decide_eq_true_eq, if_true]; exact ⟨by omega, by show x.1 < 256; exact hv1⟩
                rw [hok, if_pos rfl] at hm0
                clear hok
                cases h44 : hp x.2 [44] with
                | false =>
                  have H44 := Lib.hid h44
                  rw [h44, if_neg (by decide)] at hm0
                  have HS2 := Lib.hid (show BitsSt m0 (acc ++ [segB x.1 8]) (cnt + 8) x.2 false from hm0)
                  clear h44 hm0
                  go_wp2_with fail
                  refine (int_some R s d x _ (HW.out.blk 0 rfl) (by omega) H1.out).mono ?_
                  rintro e w1 ⟨rfl, hr, ho⟩
                  have HF1 := Lib.hid (HW.out.call 0 ho hr (by refine ⟨?_, ?_, trivial⟩ <;> (simp only [Fq.apart]; first | omega | (intro b h1 h2; omega) | (intro b h1 h2 h3; omega))))
                  have hz1 : wr.heap.size ≤ w1.heap.size := by have := ho.size; first | omega | (simp at this; omega)
                  have HO1 := Lib.hid (own_keep HO.out fun k hk hlt => ho.block k hlt (by omega))
                  clear HO
                  clear HW ho hr
                  go_wp2_with fail
                  refine (eatN R _ d ⟨#[58]⟩ _ (HF1.out.blk 0 rfl) H58.out).mono ?_
                  rintro e w2 ⟨rfl, hr, ho⟩
                  have HF2 := Lib.hid (HF1.out.call 0 ho hr (by refine ⟨?_, ?_, trivial⟩ <;> (simp only [Fq.apart]; first | omega | (intro b h1 h2; omega) | (intro b h1 h2 h3; omega))))
                  have hz2 : w1.heap.size ≤ w2.heap.size := by have := ho.size; first | omega | (simp at this; omega)
                  have HO2 := Lib.hid (own_keep HO1.out fun k hk hlt => ho.block k hlt (by omega))
                  clear HO1
                  clear HF1 ho hr
                  have HSG := Lib.hid (segB_val8 (v := x.1) (by omega) (by omega))
                  have hcn : wrap64 (cnt + 8) = cnt + 8 := i64w (by omega) (by omega)
                  go_wp2_with (at_builtin; refine wpList_append_own _ rfl (.tmp 48) (.tmp 54) 45 rfl (w.heap.size + 1) 5 i0 (.int .u8 0) 1 1 Tryd.underlying45 hi iz0 iz1 iz2 rfl (by decide) _ _ _ rfl (HO2.out.alloc _) ⟨w2.heap.size, 0, none⟩ 1 1 [.int .u8 (x.1)] rfl rfl (by exact one_u8) (by intro u hu; simp at hu; subst hu; rfl) (by unfold maxLen; omega) (by omega) (by simp; omega) ?_)
                  all_goals (try (exfalso; omega))
                  intro v' w4 hown' hgrow _
                  have HF3 := Lib.hid (HF2.out.alloc (.cells #[.int .u8 (x.1)] 5 (0, 0)))
                  clear HF2
                  have HOn := Lib.hid (own_byte hown' HSG.out)
                  have HW4 := Lib.hid (HF3.out.move (Ch.grown hgrow (C := fun k => w.heap.size + 1 ≤ k) fun k hk => (HO2.out.lt k hk).1) (by refine ⟨?_, ?_, ?_, trivial⟩ <;> (simp only [Fq.apart]; first | omega | (intro b h1 h2; omega) | (intro b h1 h2 h3; omega))))
                  have hz4 : w2.heap.size + 1 ≤ w4.heap.size := by have := hgrow.size; first | omega | (simp at this; omega)
                  clear hown' hgrow HSG HF3
                  go_wp2_with fail
                  refine (eatN R _ d ⟨#[44]⟩ _ (HW4.out.blk 0 rfl) H44.out).mono ?_
                  rintro e w3 ⟨rfl, hr, ho⟩
                  have HF4 := Lib.hid (HW4.out.call 0 ho hr (by refine ⟨?_, ?_, trivial⟩ <;> (simp only [Fq.apart]; first | omega | (intro b h1 h2; omega) | (intro b h1 h2 h3; omega))))
                  have hz3 : w4.heap.size ≤ w3.heap.size := by have := ho.size; first | omega | (simp at this; omega)
                  have HO3 := Lib.hid (own_keep HOn.out fun k hk hlt => ho.block k hlt (by omega))
                  clear HOn
                  clear HW4 ho hr
                  go_wp2_with fail
                  go_roundw
                  case rel => exact ⟨acc ++ [segB x.1 8], x.2, cnt + 8, false, rfl, rfl, by omega, by omega, by simp only [List.length_append, List.length_singleton]; omega, Lib.hid (HS2.out), Lib.hid ⟨(HF4.out.get 0 rfl), (HF4.out.base 1 rfl), (HF4.out.get 2 rfl), trivial⟩, HO3⟩
                  case measure => rw [hlen, leftLen_of (HF4.out.blk 0 rfl)]; omega
                | true =>
                  have H44 := Lib.hid h44
                  rw [h44, if_pos rfl] at hm0
                  have hl44 := hp_len h44
                  simp only [List.length_cons, List.length_nil] at hl44
                  have HS2 := Lib.hid (show BitsSt m0 (acc ++ [segB x.1 8]) (cnt + 8) (x.2.drop 1) true from ⟨j', by rw [List.length_drop]; omega, by
                    rw [hm0, Option.map_map]
                    congr 1
                    funext z
                    simp [Function.comp, Int.add_assoc]⟩)
                  clear h44 hm0
                  go_wp2_with fail
                  refine (int_some R s d x _ (HW.out.blk 0 rfl) (by omega) H1.out).mono ?_
                  rintro e w1 ⟨rfl, hr, ho⟩
                  have HF1 := Lib.hid (HW.out.call 0 ho hr (by refine ⟨?_, ?_, trivial⟩ <;> (simp only [Fq.apart]; first | omega | (intro b h1 h2; omega) | (intro b h1 h2 h3; omega))))
                  have hz1 : wr.heap.size ≤ w1.heap.size := by have := ho.size; first | omega | (simp at this; omega)
                  have HO1 := Lib.hid (own_keep HO.out fun k hk hlt => ho.block k hlt (by omega))
                  clear HO
                  clear HW ho hr
                  go_wp2_with fail
                  refine (eatN R _ d ⟨#[58]⟩ _ (HF1.out.blk 0 rfl) H58.out).mono ?_
                  rintro e w2 ⟨rfl, hr, ho⟩
                  have HF2 := Lib.hid (HF1.out.call 0 ho hr (by refine ⟨?_, ?_, trivial⟩ <;> (simp only [Fq.apart]; first | omega | (intro b h1 h2; omega) | (intro b h1 h2 h3; omega))))
                  have hz2 : w1.heap.size ≤ w2.heap.size := by have := ho.size; first | omega | (simp at this; omega)
                  have HO2 := Lib.hid (own_keep HO1.out fun k hk hlt => ho.block k hlt (by omega))
                  clear HO1
                  clear HF1 ho hr
                  have HSG := Lib.hid (segB_val8 (v := x.1) (by omega) (by omega))
                  have hcn : wrap64 (cnt + 8) = cnt + 8 := i64w (by omega) (by omega)
                  go_wp2_with (at_builtin; refine wpList_append_own _ rfl (.tmp 48) (.tmp 54) 45 rfl (w.heap.size + 1) 5 i0 (.int .u8 0) 1 1 Tryd.underlying45 hi iz0 iz1 iz2 rfl (by decide) _ _ _ rfl (HO2.out.alloc _) ⟨w2.heap.size, 0, none⟩ 1 1 [.int .u8 (x.1)] rfl rfl (by exact one_u8) (by intro u hu; simp at hu; subst hu; rfl) (by unfold maxLen; omega) (by omega) (by simp; omega) ?_)
                  all_goals (try (exfalso; omega))
                  intro v' w4 hown' hgrow _
                  have HF3 := Lib.hid (HF2.out.alloc (.cells #[.int .u8 (x.1)] 5 (0, 0)))
                  clear HF2
                  have HOn := Lib.hid (own_byte hown' HSG.out)
                  have HW4 := Lib.hid (HF3.out.move (Ch.grown hgrow (C := fun k => w.heap.size + 1 ≤ k) fun k hk => (HO2.out.lt k hk).1) (by refine ⟨?_, ?_, ?_, trivial⟩ <;> (simp only [Fq.apart]; first | omega | (intro b h1 h2; omega) | (intro b h1 h2 h3; omega))))
                  have hz4 : w2.heap.size + 1 ≤ w4.heap.size := by have := hgrow.size; first | omega | (simp at this; omega)
                  clear hown' hgrow HSG HF3
                  go_wp2_with fail
                  refine (eatY R _ d ⟨#[44]⟩ _ (HW4.out.blk 0 rfl) H44.out).mono ?_
                  rintro e w3 ⟨rfl, hr, ho⟩
                  have HF4 := Lib.hid (HW4.out.call 0 ho hr (by refine ⟨?_, ?_, trivial⟩ <;> (simp only [Fq.apart]; first | omega | (intro b h1 h2; omega) | (intro b h1 h2 h3; omega))))
                  have hz3 : w4.heap.size ≤ w3.heap.size := by have := ho.size; first | omega | (simp at this; omega)
                  have HO3 := Lib.hid (own_keep HOn.out fun k hk hlt => ho.block k hlt (by omega))
                  clear HOn
                  clear HW4 ho hr
                  go_wp2_with fail
                  go_roundw
                  case rel => exact ⟨acc ++ [segB x.1 8], x.2.drop 1, cnt + 8, true, rfl, rfl, by omega, by simp only [List.length_drop]; omega, by simp only [List.length_append, List.length_singleton, List.length_drop]; omega, Lib.hid (HS2.out), Lib.hid ⟨(HF4.out.get 0 rfl), (HF4.out.base 1 rfl), (HF4.out.get 2 rfl), trivial⟩, HO3⟩
                  case measure => rw [hlen, leftLen_of (HF4.out.blk 0 rfl)]; simp only [List.length_drop]; omega
              ·
                have HM := Lib.hid (show m0 = none from by
                  rw [hm0, if_neg]
                  · rfl
                  · simp only [okSeg, Bool.and_eq_true, decide_eq_true_eq, if_true]; intro e; exact hv1 e.2)
                clear hm0
                have hv2 : (256 : Int) ≤ x.1 := by omega
                clear hv1
                go_wp2_with fail
                refine (int_some R s d x _ (HW.out.blk 0 rfl) (by omega) H1.out).mono ?_
                rintro e w1 ⟨rfl, hr, ho⟩
                have HF1 := Lib.hid (HW.out.call 0 ho hr (by refine ⟨?_, ?_, trivial⟩ <;> (simp only [Fq.apart]; first | omega | (intro b h1 h2; omega) | (intro b h1 h2 h3; omega))))
                have hz1 : wr.heap.size ≤ w1.heap.size := by have := ho.size; first | omega | (simp at this; omega)
                have HO1 := Lib.hid (own_keep HO.out fun k hk hlt => ho.block k hlt (by omega))
                clear HO
                clear HW ho hr
                go_wp2_with fail
                refine (eatN R _ d ⟨#[58]⟩ _ (HF1.out.blk 0 rfl) H58.out).mono ?_
                rintro e w2 ⟨rfl, hr, ho⟩
                have HF2 := Lib.hid (HF1.out.call 0 ho hr (by refine ⟨?_, ?_, trivial⟩ <;> (simp only [Fq.apart]; first | omega | (intro b h1 h2; omega) | (intro b h1 h2 h3; omega))))
                have hz2 : w1.heap.size ≤ w2.heap.size := by have := ho.size; first | omega | (simp at this; omega)
                have HO2 := Lib.hid (own_keep HO1.out fun k hk hlt => ho.block k hlt (by omega))
                clear HO1
                clear HF1 ho hr
                go_wp2_with fail
                all_goals (try (exfalso; omega))
                exact ⟨rfl, bits_bad (by rw [HM.out]; rfl) ⟨rfl, ⟨_, _, (HF2.out.blk 0 rfl)⟩, (HF2.out.base 1 rfl)⟩⟩
          | true =>
            have H58 := Lib.hid h58
            have hl58 := hp_len h58
            simp only [List.length_cons, List.length_nil] at hl58
            have hmany : pMany true x.2 = (pInt (x.2.drop 1)).bind fun y => if true && (decide (y.1 < 1) || decide (7 < y.1) || hp y.2 [44]) then none else some y := by unfold pMany; rw [h58, if_pos rfl]
            rw [hmany] at hm0
            clear h58 hmany
            cases h2 : pInt (x.2.drop 1) with
            | none =>
              rw [h2] at hm0
              have HM := Lib.hid (show m0 = none from hm0)
              have H2 := Lib.hid h2
              clear hm0 h2
              go_wp2_with fail
              refine (int_some R s d x _ (HW.out.blk 0 rfl) (by omega) H1.out).mono ?_
              rintro e w1 ⟨rfl, hr, ho⟩
              have HF1 := Lib.hid (HW.out.call 0 ho hr (by refine ⟨?_, ?_, trivial⟩ <;> (simp only [Fq.apart]; first | omega | (intro b h1 h2; omega) | (intro b h1 h2 h3; omega))))
              have hz1 : wr.heap.size ≤ w1.heap.size := by have := ho.size; first | omega | (simp at this; omega)
              have HO1 := Lib.hid (own_keep HO.out fun k hk hlt => ho.block k hlt (by omega))
              clear HO
              clear HW ho hr
              go_wp2_with fail
              refine (eatY R _ d ⟨#[58]⟩ _ (HF1.out.blk 0 rfl) H58.out).mono ?_
              rintro e w2 ⟨rfl, hr, ho⟩
              have HF2 := Lib.hid (HF1.out.call 0 ho hr (by refine ⟨?_, ?_, trivial⟩ <;> (simp only [Fq.apart]; first | omega | (intro b h1 h2; omega) | (intro b h1 h2 h3; omega))))
              have hz2 : w1.heap.size ≤ w2.heap.size := by have := ho.size; first | omega | (simp at this; omega)
              have HO2 := Lib.hid (own_keep HO1.out fun k hk hlt => ho.block k hlt (by omega))
              clear HO1
              clear HF1 ho hr
              go_wp2_with fail
              refine (int_none R _ d _ (HF2.out.blk 0 rfl) (by rw [List.length_drop]; omega) H2.out).mono ?_
              rintro e w9 ⟨rfl, ⟨l9, d9, hr⟩, ho⟩
              have HZ := Lib.hid (HF2.out.call 0 ho hr (by refine ⟨?_, ?_, trivial⟩ <;> (simp only [Fq.apart]; first | omega | (intro b h1 h2; omega) | (intro b h1 h2 h3; omega))))
              clear ho hr
              go_wp2_with fail
              all_goals (try (exfalso; omega))
              exact ⟨rfl, bits_bad (by rw [HM.out]; rfl) ⟨rfl, ⟨_, _, (HZ.out.blk 0 rfl)⟩, (HZ.out.base 1 rfl)⟩⟩
            | some y =>
              have hy := int_len h2
              rw [List.length_drop] at hy
              rw [h2, Option.bind_some] at hm0
              have H2 := Lib.hid h2
              clear h2
              by_cases hy0 : y.1 < 1
              ·
                have HM := Lib.hid (show m0 = none from by rw [hm0, if_pos (by simp [hy0])]; rfl)
                clear hm0
                go_wp2_with fail
                refine (int_some R s d x _ (HW.out.blk 0 rfl) (by omega) H1.out).mono ?_
                rintro e w1 ⟨rfl, hr, ho⟩
                have HF1 := Lib.hid (HW.out.call 0 ho hr (by refine ⟨?_, ?_, trivial⟩ <;> (simp only [Fq.apart]; first | omega | (intro b h1 h2; omega) | (intro b h1 h2 h3; omega))))
                have hz1 : wr.heap.size ≤ w1.heap.size := by have := ho.size; first | omega | (simp at this; omega)
                have HO1 := Lib.hid (own_keep HO.out fun k hk hlt => ho.block k hlt (by omega))
                clear HO
                clear HW ho hr
                go_wp2_with fail
                refine (eatY R _ d ⟨#[58]⟩ _ (HF1.out.blk 0 rfl) H58.out).mono ?_
                rintro e w2 ⟨rfl, hr, ho⟩
                have HF2 := Lib.hid (HF1.out.call 0 ho hr (by refine ⟨?_, ?_, trivial⟩ <;> (simp only [Fq.apart]; first | omega | (intro b h1 h2; omega) | (intro b h1 h2 h3; omega))))
                have hz2 : w1.heap.size ≤ w2.heap.size := by have := ho.size; first | omega | (simp at this; omega)
                have HO2 := Lib.hid (own_keep HO1.out fun k hk hlt => ho.block k hlt (by omega))
                clear HO1
                clear HF1 ho hr
                go_wp2_with fail
                refine (int_some R _ d y _ (HF2.out.blk 0 rfl) (by rw [List.length_drop]; omega) H2.out).mono ?_
                rintro e w3 ⟨rfl, hr, ho⟩
                have HF3 := Lib.hid (HF2.out.call 0 ho hr (by refine ⟨?_, ?_, trivial⟩ <;> (simp only [Fq.apart]; first | omega | (intro b h1 h2; omega) | (intro b h1 h2 h3; omega))))
                have hz3 : w2.heap.size ≤ w3.heap.size := by have := ho.size; first | omega | (simp at this; omega)
                have HO3 := Lib.hid (own_keep HO2.out fun k hk hlt => ho.block k hlt (by omega))
                clear HO2
                clear HF2 ho hr
                go_wp2_with fail
                all_goals (try (exfalso; omega))
                exact ⟨rfl, bits_bad (by rw [HM.out]; rfl) ⟨rfl, ⟨_, _, (HF3.out.blk 0 rfl)⟩, (HF3.out.base 1 rfl)⟩⟩
              · by_cases hy1 : 7 < y.1
                ·
                  have HM := Lib.hid (show m0 = none from by rw [hm0, if_pos (by simp [hy1])]; rfl)
                  clear hm0
                  go_wp2_with fail
                  refine (int_some R s d x _ (HW.out.blk 0 rfl) (by omega) H1.out).mono ?_
                  rintro e w1 ⟨rfl, hr, ho⟩
                  have HF1 := Lib.hid (HW.out.call 0 ho hr (by refine ⟨?_, ?_, trivial⟩ <;> (simp only [Fq.apart]; first | omega | (intro b h1 h2; omega) | (intro b h1 h2 h3; omega))))
                  have hz1 : wr.heap.size ≤ w1.heap.size := by have := ho.size; first | omega | (simp at this; omega)
                  have HO1 := Lib.hid (own_keep HO.out fun k hk hlt => ho.block k hlt (by omega))
                  clear HO
                  clear HW ho hr
                  go_wp2_with fail
                  refine (eatY R _ d ⟨#[58]⟩ _ (HF1.out.blk 0 rfl) H58.out).mono ?_
                  rintro e w2 ⟨rfl, hr, ho⟩
                  have HF2 := Lib.hid (HF1.out.call 0 ho hr (by refine ⟨?_, ?_, trivial⟩ <;> (simp only [Fq.apart]; first | omega | (intro b h1 h2; omega) | (intro b h1 h2 h3; omega))))
                  have hz2 : w1.heap.size ≤ w2.heap.size := by have := ho.size; first | omega | (simp at this; omega)
                  have HO2 := Lib.hid (own_keep HO1.out fun k hk hlt => ho.block k hlt (by omega))
                  clear HO1
                  clear HF1 ho hr
                  go_wp2_with fail
                  refine (int_some R _ d y _ (HF2.out.blk 0 rfl) (by rw [List.length_drop]; omega) H2.out).mono ?_
                  rintro e w3 ⟨rfl, hr, ho⟩
                  have HF3 := Lib.hid (HF2.out.call 0 ho hr (by refine ⟨?_, ?_, trivial⟩ <;> (simp only [Fq.apart]; first | omega | (intro b h1 h2; omega) | (intro b h1 h2 h3; omega))))
                  have hz3 : w2.heap.size ≤ w3.heap.size := by have := ho.size; first | omega | (simp at this; omega)
                  have HO3 := Lib.hid (own_keep HO2.out fun k hk hlt => ho.block k hlt (by omega))
                  clear HO2
                  clear HF2 ho hr
                  go_wp2_with fail
                  all_goals (try (exfalso; omega))
                  exact ⟨rfl, bits_bad (by rw [HM.out]; rfl) ⟨rfl, ⟨_, _, (HF3.out.blk 0 rfl)⟩, (HF3.out.base 1 rfl)⟩⟩
                · cases h44 : hp y.2 [44] with
                  | true =>
                    have HM := Lib.hid (show m0 = none from by rw [hm0, if_pos (by simp [h44])]; rfl)
                    clear hm0
                    have H44 := Lib.hid h44
                    clear h44
                    go_wp2_with fail
                    refine (int_some R s d x _ (HW.out.blk 0 rfl) (by omega) H1.out).mono ?_
                    rintro e w1 ⟨rfl, hr, ho⟩
                    have HF1 := Lib.hid (HW.out.call 0 ho hr (by refine ⟨?_, ?_, trivial⟩ <;> (simp only [Fq.apart]; first | omega | (intro b h1 h2; omega) | (intro b h1 h2 h3; omega))))
                    have hz1 : wr.heap.size ≤ w1.heap.size := by have := ho.size; first | omega | (simp at this; omega)
                    have HO1 := Lib.hid (own_keep HO.out fun k hk hlt => ho.block k hlt (by omega))
                    clear HO
                    clear HW ho hr
                    go_wp2_with fail
                    refine (eatY R _ d ⟨#[58]⟩ _ (HF1.out.blk 0 rfl) H58.out).mono ?_
                    rintro e w2 ⟨rfl, hr, ho⟩
                    have HF2 := Lib.hid (HF1.out.call 0 ho hr (by refine ⟨?_, ?_, trivial⟩ <;> (simp only [Fq.apart]; first | omega | (intro b h1 h2; omega) | (intro b h1 h2 h3; omega))))
                    have hz2 : w1.heap.size ≤ w2.heap.size := by have := ho.size; first | omega | (simp at this; omega)
                    have HO2 := Lib.hid (own_keep HO1.out fun k hk hlt => ho.block k hlt (by omega))
                    clear HO1
                    clear HF1 ho hr
                    go_wp2_with fail
                    refine (int_some R _ d y _ (HF2.out.blk 0 rfl) (by rw [List.length_drop]; omega) H2.out).mono ?_
                    rintro e w3 ⟨rfl, hr, ho⟩
                    have HF3 := Lib.hid (HF2.out.call 0 ho hr (by refine ⟨?_, ?_, trivial⟩ <;> (simp only [Fq.apart]; first | omega | (intro b h1 h2; omega) | (intro b h1 h2 h3; omega))))
                    have hz3 : w2.heap.size ≤ w3.heap.size := by have := ho.size; first | omega | (simp at this; omega)
                    have HO3 := Lib.hid (own_keep HO2.out fun k hk hlt => ho.block k hlt (by omega))
                    clear HO2
                    clear HF2 ho hr
                    have c0 := cells_of (HF3.out.blk 0 rfl) 0
                    go_wp2_with fail
                    refine (hasPre y.2 ⟨#[44]⟩ _).mono ?_
                    rintro e w8 ⟨rfl, rfl⟩
                    have HB : Hid (hp y.2 (bl ⟨#[44]⟩) = true) := H44
                    rw [HB.out]
                    clear HB
                    go_wp2_with fail
                    all_goals (try (exfalso; omega))
                    exact ⟨rfl, bits_bad (by rw [HM.out]; rfl) ⟨rfl, ⟨_, _, (HF3.out.blk 0 rfl)⟩, (HF3.out.base 1 rfl)⟩⟩
                  | false =>
                    rw [h44, if_neg (by simp [hy0, hy1]), Option.bind_some] at hm0
                    have H44 := Lib.hid h44
                    obtain ⟨many, s1⟩ := y
                    simp only at hy hy0 hy1 hm0 H44 h44
                    by_cases hv0 : x.1 < 0
                    ·
                      have HM := Lib.hid (show m0 = none from by
                        rw [hm0, if_neg]
                        · rfl
                        · simp only [okSeg, Bool.and_eq_true, decide_eq_true_eq]; omega)
                      clear hm0 h44
                      obtain rfl | rfl | rfl | rfl | rfl | rfl | rfl : many = 1 ∨ many = 2 ∨ many = 3 ∨ many = 4 ∨ many = 5 ∨ many = 6 ∨ many = 7 := by omega
                      ·
                        go_wp2_with fail
                        refine (int_some R s d x _ (HW.out.blk 0 rfl) (by omega) H1.out).mono ?_
                        rintro e w1 ⟨rfl, hr, ho⟩
                        have HF1 := Lib.hid (HW.out.call 0 ho hr (by refine ⟨?_, ?_, trivial⟩ <;> (simp only [Fq.apart]; first | omega | (intro b h1 h2; omega) | (intro b h1 h2 h3; omega))))
                        have hz1 : wr.heap.size ≤ w1.heap.size := by have := ho.size; first | omega | (simp at this; omega)
                        have HO1 := Lib.hid (own_keep HO.out fun k hk hlt => ho.block k hlt (by omega))
                        clear HO
                        clear HW ho hr
                        go_wp2_with fail
                        refine (eatY R _ d ⟨#[58]⟩ _ (HF1.out.blk 0 rfl) H58.out).mono ?_
                        rintro e w2 ⟨rfl, hr, ho⟩
                        have HF2 := Lib.hid (HF1.out.call 0 ho hr (by refine ⟨?_, ?_, trivial⟩ <;> (simp only [Fq.apart]; first | omega | (intro b h1 h2; omega) | (intro b h1 h2 h3; omega))))
                        have hz2 : w1.heap.size ≤ w2.heap.size := by have := ho.size; first | omega | (simp at this; omega)
                        have HO2 := Lib.hid (own_keep HO1.out fun k hk hlt => ho.block k hlt (by omega))
                        clear HO1
                        clear HF1 ho hr
                        go_wp2_with fail
                        refine (int_some R _ d (1, s1) _ (HF2.out.blk 0 rfl) (by rw [List.length_drop]; omega) H2.out).mono ?_
                        rintro e w3 ⟨rfl, hr, ho⟩
                        have HF3 := Lib.hid (HF2.out.call 0 ho hr (by refine ⟨?_, ?_, trivial⟩ <;> (simp only [Fq.apart]; first | omega | (intro b h1 h2; omega) | (intro b h1 h2 h3; omega))))
                        have hz3 : w2.heap.size ≤ w3.heap.size := by have := ho.size; first | omega | (simp at this; omega)
                        have HO3 := Lib.hid (own_keep HO2.out fun k hk hlt => ho.block k hlt (by omega))
                        clear HO2
                        clear HF2 ho hr
                        have c0 := cells_of (HF3.out.blk 0 rfl) 0
                        go_wp2_with fail
                        refine (hasPre _ ⟨#[44]⟩ _).mono ?_
                        rintro e w8 ⟨rfl, rfl⟩
                        have HB : Hid (hp s1 (bl ⟨#[44]⟩) = false) := H44
                        simp only [HB.out]
                        clear HB c0
                        go_wp2_with fail
                        all_goals (try (exfalso; omega))
                        exact ⟨rfl, bits_bad (by rw [HM.out]; rfl) ⟨rfl, ⟨_, _, (HF3.out.blk 0 rfl)⟩, (HF3.out.base 1 rfl)⟩⟩
                      ·
                        go_wp2_with fail
                        refine (int_some R s d x _ (HW.out.blk 0 rfl) (by omega) H1.out).mono ?_
                        rintro e w1 ⟨rfl, hr, ho⟩
                        have HF1 := Lib.hid (HW.out.call 0 ho hr (by refine ⟨?_, ?_, trivial⟩ <;> (simp only [Fq.apart]; first | omega | (intro b h1 h2; omega) | (intro b h1 h2 h3; omega))))
                        have hz1 : wr.heap.size ≤ w1.heap.size := by have := ho.size; first | omega | (simp at this; omega)
                        have HO1 := Lib.hid (own_keep HO.out fun k hk hlt => ho.block k hlt (by omega))
                        clear HO
                        clear HW ho hr
                        go_wp2_with fail
                        refine (eatY R _ d ⟨#[58]⟩ _ (HF1.out.blk 0 rfl) H58.out).mono ?_
                        rintro e w2 ⟨rfl, hr, ho⟩
                        have HF2 := Lib.hid (HF1.out.call 0 ho hr (by refine ⟨?_, ?_, trivial⟩ <;> (simp only [Fq.apart]; first | omega | (intro b h1 h2; omega) | (intro b h1 h2 h3; omega))))
                        have hz2 : w1.heap.size ≤ w2.heap.size := by have := ho.size; first | omega | (simp at this; omega)
                        have HO2 := Lib.hid (own_keep HO1.out fun k hk hlt => ho.block k hlt (by omega))
                        clear HO1
                        clear HF1 ho hr
                        go_wp2_with fail
                        refine (int_some R _ d (2, s1) _ (HF2.out.blk 0 rfl) (by rw [List.length_drop]; omega) H2.out).mono ?_
                        rintro e w3 ⟨rfl, hr, ho⟩
                        have HF3 := Lib.hid (HF2.out.call 0 ho hr (by refine ⟨?_, ?_, trivial⟩ <;> (simp only [Fq.apart]; first | omega | (intro b h1 h2; omega) | (intro b h1 h2 h3; omega))))
                        have hz3 : w2.heap.size ≤ w3.heap.size := by have := ho.size; first | omega | (simp at this; omega)
                        have HO3 := Lib.hid (own_keep HO2.out fun k hk hlt => ho.block k hlt (by omega))
                        clear HO2
                        clear HF2 ho hr
                        have c0 := cells_of (HF3.out.blk 0 rfl) 0
                        go_wp2_with fail
                        refine (hasPre _ ⟨#[44]⟩ _).mono ?_
                        rintro e w8 ⟨rfl, rfl⟩
                        have HB : Hid (hp s1 (bl ⟨#[44]⟩) = false) := H44
                        simp only [HB.out]
                        clear HB c0
                        go_wp2_with fail
                        all_goals (try (exfalso; omega))
                        exact ⟨rfl, bits_bad (by rw [HM.out]; rfl) ⟨rfl, ⟨_, _, (HF3.out.blk 0 rfl)⟩, (HF3.out.base 1 rfl)⟩⟩
                      ·
                        go_wp2_with fail
                        refine (int_some R s d x _ (HW.out.blk 0 rfl) (by omega) H1.out).mono ?_
                        rintro e w1 ⟨rfl, hr, ho⟩
                        have HF1 := Lib.hid (HW.out.call 0 ho hr (by refine ⟨?_, ?_, trivial⟩ <;> (simp only [Fq.apart]; first | omega | (intro b h1 h2; omega) | (intro b h1 h2 h3; omega))))
                        have hz1 : wr.heap.size ≤ w1.heap.size := by have := ho.size; first | omega | (simp at this; omega)
                        have HO1 := Lib.hid (own_keep HO.out fun k hk hlt => ho.block k hlt (by omega))
                        clear HO
                        clear HW ho hr
                        go_wp2_with fail
                        refine (eatY R _ d ⟨#[58]⟩ _ (HF1.out.blk 0 rfl) H58.out).mono ?_
                        rintro e w2 ⟨rfl, hr, ho⟩
                        have HF2 := Lib.hid (HF1.out.call 0 ho hr (by refine ⟨?_, ?_, trivial⟩ <;> (simp only [Fq.apart]; first | omega | (intro b h1 h2; omega) | (intro b h1 h2 h3; omega))))
                        have hz2 : w1.heap.size ≤ w2.heap.size := by have := ho.size; first | omega | (simp at this; omega)
                        have HO2 := Lib.hid (own_keep HO1.out fun k hk hlt => ho.block k hlt (by omega))
                        clear HO1
                        clear HF1 ho hr
                        go_wp2_with fail
                        refine (int_some R _ d (3, s1) _ (HF2.out.blk 0 rfl) (by rw [List.length_drop]; omega) H2.out).mono ?_
                        rintro e w3 ⟨rfl, hr, ho⟩
                        have HF3 := Lib.hid (HF2.out.call 0 ho hr (by refine ⟨?_, ?_, trivial⟩ <;> (simp only [Fq.apart]; first | omega | (intro b h1 h2; omega) | (intro b h1 h2 h3; omega))))
                        have hz3 : w2.heap.size ≤ w3.heap.size := by have := ho.size; first | omega | (simp at this; omega)
                        have HO3 := Lib.hid (own_keep HO2.out fun k hk hlt => ho.block k hlt (by omega))
                        clear HO2
                        clear HF2 ho hr
                        have c0 := cells_of (HF3.out.blk 0 rfl) 0
                        go_wp2_with fail
                        refine (hasPre _ ⟨#[44]⟩ _).mono ?_
                        rintro e w8 ⟨rfl, rfl⟩
                        have HB : Hid (hp s1 (bl ⟨#[44]⟩) = false) := H44
                        simp only [HB.out]
                        clear HB c0
                        go_wp2_with fail
                        all_goals (try (exfalso; omega))
                        exact ⟨rfl, bits_bad (by rw [HM.out]; rfl) ⟨rfl, ⟨_, _, (HF3.out.blk 0 rfl)⟩, (HF3.out.base 1 rfl)⟩⟩
                      ·
                        go_wp2_with fail
                        refine (int_some R s d x _ (HW.out.blk 0 rfl) (by omega) H1.out).mono ?_
                        rintro e w1 ⟨rfl, hr, ho⟩
                        have HF1 := Lib.hid (HW.out.call 0 ho hr (by refine ⟨?_, ?_, trivial⟩ <;> (simp only [Fq.apart]; first | omega | (intro b h1 h2; omega) | (intro b h1 h2 h3; omega))))
                        have hz1 : wr.heap.size ≤ w1.heap.size := by have := ho.size; first | omega | (simp at this; omega)
                        have HO1 := Lib.hid (own_keep HO.out fun k hk hlt => ho.block k hlt (by omega))
                        clear HO
                        clear HW ho hr
                        go_wp2_with fail
                        refine (eatY R _ d ⟨#[58]⟩ _ (HF1.out.blk 0 rfl) H58.out).mono ?_
                        rintro e w2 ⟨rfl, hr, ho⟩
                        have HF2 := Lib.hid (HF1.out.call 0 ho hr (by refine ⟨?_, ?_, trivial⟩ <;> (simp only [Fq.apart]; first | omega | (intro b h1 h2; omega) | (intro b h1 h2 h3; omega))))
                        have hz2 : w1.heap.size ≤ w2.heap.size := by have := ho.size; first | omega | (simp at this; omega)
                        have HO2 := Lib.hid (own_keep HO1.out fun k hk hlt => ho.block k hlt (by omega))
                        clear HO1
                        clear HF1 ho hr
                        go_wp2_with fail
                        refine (int_some R _ d (4, s1) _ (HF2.out.blk 0 rfl) (by rw [List.length_drop]; omega) H2.out).mono ?_
                        rintro e w3 ⟨rfl, hr, ho⟩
                        have HF3 := Lib.hid (HF2.out.call 0 ho hr (by refine ⟨?_, ?_, trivial⟩ <;> (simp only [Fq.apart]; first | omega | (intro b h1 h2; omega) | (intro b h1 h2 h3; omega))))
                        have hz3 : w2.heap.size ≤ w3.heap.size := by have := ho.size; first | omega | (simp at this; omega)
                        have HO3 := Lib.hid (own_keep HO2.out fun k hk hlt => ho.block k hlt (by omega))
                        clear HO2
                        clear HF2 ho hr
                        have c0 := cells_of (HF3.out.blk 0 rfl) 0
                        go_wp2_with fail
                        refine (hasPre _ ⟨#[44]⟩ _).mono ?_
                        rintro e w8 ⟨rfl, rfl⟩
                        have HB : Hid (hp s1 (bl ⟨#[44]⟩) = false) := H44
                        simp only [HB.out]
                        clear HB c0
                        go_wp2_with fail
                        all_goals (try (exfalso; omega))
                        exact ⟨rfl, bits_bad (by rw [HM.out]; rfl) ⟨rfl, ⟨_, _, (HF3.out.blk 0 rfl)⟩, (HF3.out.base 1 rfl)⟩⟩
                      ·
                        go_wp2_with fail
                        refine (int_some R s d x _ (HW.out.blk 0 rfl) (by omega) H1.out).mono ?_
                        rintro e w1 ⟨rfl, hr, ho⟩
                        have HF1 := Lib.hid (HW.out.call 0 ho hr (by refine ⟨?_, ?_, trivial⟩ <;> (simp only [Fq.apart]; first | omega | (intro b h1 h2; omega) | (intro b h1 h2 h3; omega))))
                        have hz1 : wr.heap.size ≤ w1.heap.size := by have := ho.size; first | omega | (simp at this; omega)
                        have HO1 := Lib.hid (own_keep HO.out fun k hk hlt => ho.block k hlt (by omega))
                        clear HO
                        clear HW ho hr
                        go_wp2_with fail
                        refine (eatY R _ d ⟨#[58]⟩ _ (HF1.out.blk 0 rfl) H58.out).mono ?_
                        rintro e w2 ⟨rfl, hr, ho⟩
                        have HF2 := Lib.hid (HF1.out.call 0 ho hr (by refine ⟨?_, ?_, trivial⟩ <;> (simp only [Fq.apart]; first | omega | (intro b h1 h2; omega) | (intro b h1 h2 h3; omega))))
                        have hz2 : w1.heap.size ≤ w2.heap.size := by have := ho.size; first | omega | (simp at this; omega)
                        have HO2 := Lib.hid (own_keep HO1.out fun k hk hlt => ho.block k hlt (by omega))
                        clear HO1
                        clear HF1 ho hr
                        go_wp2_with fail
                        refine (int_some R _ d (5, s1) _ (HF2.out.blk 0 rfl) (by rw [List.length_drop]; omega) H2.out).mono ?_
                        rintro e w3 ⟨rfl, hr, ho⟩
                        have HF3 := Lib.hid (HF2.out.call 0 ho hr (by refine ⟨?_, ?_, trivial⟩ <;> (simp only [Fq.apart]; first | omega | (intro b h1 h2; omega) | (intro b h1 h2 h3; omega))))
                        have hz3 : w2.heap.size ≤ w3.heap.size := by have := ho.size; first | omega | (simp at this; omega)
                        have HO3 := Lib.hid (own_keep HO2.out fun k hk hlt => ho.block k hlt (by omega))
                        clear HO2
                        clear HF2 ho hr
                        have c0 := cells_of (HF3.out.blk 0 rfl) 0
                        go_wp2_with fail
                        refine (hasPre _ ⟨#[44]⟩ _).mono ?_
                        rintro e w8 ⟨rfl, rfl⟩
                        have HB : Hid (hp s1 (bl ⟨#[44]⟩) = false) := H44
                        simp only [HB.out]
                        clear HB c0
                        go_wp2_with fail
                        all_goals (try (exfalso; omega))
                        exact ⟨rfl, bits_bad (by rw [HM.out]; rfl) ⟨rfl, ⟨_, _, (HF3.out.blk 0 rfl)⟩, (HF3.out.base 1 rfl)⟩⟩
                      ·
                        go_wp2_with fail
                        refine (int_some R s d x _ (HW.out.blk 0 rfl) (by omega) H1.out).mono ?_
                        rintro e w1 ⟨rfl, hr, ho⟩
                        have HF1 := Lib.hid (HW.out.call 0 ho hr (by refine ⟨?_, ?_, trivial⟩ <;> (simp only [Fq.apart]; first | omega | (intro b h1 h2; omega) | (intro b h1 h2 h3; omega))))
                        have hz1 : wr.heap.size ≤ w1.heap.size := by have := ho.size; first | omega | (simp at this; omega)
                        have HO1 := Lib.hid (own_keep HO.out fun k hk hlt => ho.block k hlt (by omega))
                        clear HO
                        clear HW ho hr
                        go_wp2_with fail
                        refine (eatY R _ d ⟨#[58]⟩ _ (HF1.out.blk 0 rfl) H58.out).mono ?_
                        rintro e w2 ⟨rfl, hr, ho⟩
                        have HF2 := Lib.hid (HF1.out.call 0 ho hr (by refine ⟨?_, ?_, trivial⟩ <;> (simp only [Fq.apart]; first | omega | (intro b h1 h2; omega) | (intro b h1 h2 h3; omega))))
                        have hz2 : w1.heap.size ≤ w2.heap.size := by have := ho.size; first | omega | (simp at this; omega)
                        have HO2 := Lib.hid (own_keep HO1.out fun k hk hlt => ho.block k hlt (by omega))
                        clear HO1
                        clear HF1 ho hr
                        go_wp2_with fail
                        refine (int_some R _ d (6, s1) _ (HF2.out.blk 0 rfl) (by rw [List.length_drop]; omega) H2.out).mono ?_
                        rintro e w3 ⟨rfl, hr, ho⟩
                        have HF3 := Lib.hid (HF2.out.call 0 ho hr (by refine ⟨?_, ?_, trivial⟩ <;> (simp only [Fq.apart]; first | omega | (intro b h1 h2; omega) | (intro b h1 h2 h3; omega))))
                        have hz3 : w2.heap.size ≤ w3.heap.size := by have := ho.size; first | omega | (simp at this; omega)
                        have HO3 := Lib.hid (own_keep HO2.out fun k hk hlt => ho.block k hlt (by omega))
                        clear HO2
                        clear HF2 ho hr
                        have c0 := cells_of (HF3.out.blk 0 rfl) 0
                        go_wp2_with fail
                        refine (hasPre _ ⟨#[44]⟩ _).mono ?_
                        rintro e w8 ⟨rfl, rfl⟩
                        have HB : Hid (hp s1 (bl ⟨#[44]⟩) = false) := H44
                        simp only [HB.out]
                        clear HB c0
                        go_wp2_with fail
                        all_goals (try (exfalso; omega))
                        exact ⟨rfl, bits_bad (by rw [HM.out]; rfl) ⟨rfl, ⟨_, _, (HF3.out.blk 0 rfl)⟩, (HF3.out.base 1 rfl)⟩⟩
                      ·
                        go_wp2_with fail
                        refine (int_some R s d x _ (HW.out.blk 0 rfl) (by omega) H1.out).mono ?_
                        rintro e w1 ⟨rfl, hr, ho⟩
                        have HF1 := Lib.hid (HW.out.call 0 ho hr (by refine ⟨?_, ?_, trivial⟩ <;> (simp only [Fq.apart]; first | omega | (intro b h1 h2; omega) | (intro b h1 h2 h3; omega))))
                        have hz1 : wr.heap.size ≤ w1.heap.size := by have := ho.size; first | omega | (simp at this; omega)
                        have HO1 := Lib.hid (own_keep HO.out fun k hk hlt => ho.block k hlt (by omega))
                        clear HO
                        clear HW ho hr
                        go_wp2_with fail
                        refine (eatY R _ d ⟨#[58]⟩ _ (HF1.out.blk 0 rfl) H58.out).mono ?_
                        rintro e w2 ⟨rfl, hr, ho⟩
                        have HF2 := Lib.hid (HF1.out.call 0 ho hr (by refine ⟨?_, ?_, trivial⟩ <;> (simp only [Fq.apart]; first | omega | (intro b h1 h2; omega) | (intro b h1 h2 h3; omega))))
                        have hz2 : w1.heap.size ≤ w2.heap.size := by have := ho.size; first | omega | (simp at this; omega)
                        have HO2 := Lib.hid (own_keep HO1.out fun k hk hlt => ho.block k hlt (by omega))
                        clear HO1
                        clear HF1 ho hr
                        go_wp2_with fail
                        refine (int_some R _ d (7, s1) _ (HF2.out.blk 0 rfl) (by rw [List.length_drop]; omega) H2.out).mono ?_
                        rintro e w3 ⟨rfl, hr, ho⟩
                        have HF3 := Lib.hid (HF2.out.call 0 ho hr (by refine ⟨?_, ?_, trivial⟩ <;> (simp only [Fq.apart]; first | omega | (intro b h1 h2; omega) | (intro b h1 h2 h3; omega))))
                        have hz3 : w2.heap.size ≤ w3.heap.size := by have := ho.size; first | omega | (simp at this; omega)
                        have HO3 := Lib.hid (own_keep HO2.out fun k hk hlt => ho.block k hlt (by omega))
                        clear HO2
                        clear HF2 ho hr
                        have c0 := cells_of (HF3.out.blk 0 rfl) 0
                        go_wp2_with fail
                        refine (hasPre _ ⟨#[44]⟩ _).mono ?_
                        rintro e w8 ⟨rfl, rfl⟩
                        have HB : Hid (hp s1 (bl ⟨#[44]⟩) = false) := H44
                        simp only [HB.out]
                        clear HB c0
                        go_wp2_with fail
                        all_goals (try (exfalso; omega))
                        exact ⟨rfl, bits_bad (by rw [HM.out]; rfl) ⟨rfl, ⟨_, _, (HF3.out.blk 0 rfl)⟩, (HF3.out.base 1 rfl)⟩⟩
                    ·
                      obtain rfl | rfl | rfl | rfl | rfl | rfl | rfl : many = 1 ∨ many = 2 ∨ many = 3 ∨ many = 4 ∨ many = 5 ∨ many = 6 ∨ many = 7 := by omega
                      · by_cases hv1 : x.1 < 2
                        ·
                          have hok : okSeg true x.1 1 = true := by simp only [okSeg, Bool.and_eq_true, decide_eq_true_eq, if_true]; exact ⟨by omega, by show x.1 < 2; exact hv1⟩
                          rw [hok, if_pos rfl, h44, if_neg (by decide)] at hm0
                          clear hok h44
                          have HS2 := Lib.hid (show BitsSt m0 (acc ++ [segB x.1 1]) (cnt + 1) s1 false from hm0)
                          clear hm0
                          go_wp2_with fail
                          refine (int_some R s d x _ (HW.out.blk 0 rfl) (by omega) H1.out).mono ?_
                          rintro e w1 ⟨rfl, hr, ho⟩
                          have HF1 := Lib.hid (HW.out.call 0 ho hr (by refine ⟨?_, ?_, trivial⟩ <;> (simp only [Fq.apart]; first | omega | (intro b h1 h2; omega) | (intro b h1 h2 h3; omega))))
                          have hz1 : wr.heap.size ≤ w1.heap.size := by have := ho.size; first | omega | (simp at this; omega)
                          have HO1 := Lib.hid (own_keep HO.out fun k hk hlt => ho.block k hlt (by omega))
                          clear HO
                          clear HW ho hr
                          go_wp2_with fail
                          refine (eatY R _ d ⟨#[58]⟩ _ (HF1.out.blk 0 rfl) H58.out).mono ?_
                          rintro e w2 ⟨rfl, hr, ho⟩
                          have HF2 := Lib.hid (HF1.out.call 0 ho hr (by refine ⟨?_, ?_, trivial⟩ <;> (simp only [Fq.apart]; first | omega | (intro b h1 h2; omega) | (intro b h1 h2 h3; omega))))
                          have hz2 : w1.heap.size ≤ w2.heap.size := by have := ho.size; first | omega | (simp at this; omega)
                          have HO2 := Lib.hid (own_keep HO1.out fun k hk hlt => ho.block k hlt (by omega))
                          clear HO1
                          clear HF1 ho hr
                          go_wp2_with fail
                          refine (int_some R _ d (1, s1) _ (HF2.out.blk 0 rfl) (by rw [List.length_drop]; omega) H2.out).mono ?_
                          rintro e w3 ⟨rfl, hr, ho⟩
                          have HF3 := Lib.hid (HF2.out.call 0 ho hr (by refine ⟨?_, ?_, trivial⟩ <;> (simp only [Fq.apart]; first | omega | (intro b h1 h2; omega) | (intro b h1 h2 h3; omega))))
                          have hz3 : w2.heap.size ≤ w3.heap.size := by have := ho.size; first | omega | (simp at this; omega)
                          have HO3 := Lib.hid (own_keep HO2.out fun k hk hlt => ho.block k hlt (by omega))
                          clear HO2
                          clear HF2 ho hr
                          have c0 := cells_of (HF3.out.blk 0 rfl) 0
                          go_wp2_with fail
                          refine (hasPre _ ⟨#[44]⟩ _).mono ?_
                          rintro e w8 ⟨rfl, rfl⟩
                          have HB : Hid (hp s1 (bl ⟨#[44]⟩) = false) := H44
                          simp only [HB.out]
                          clear HB c0
                          have HSG := Lib.hid (segB_val1 (v := x.1) (by omega) (by omega))
                          have hcn : wrap64 (cnt + 1) = cnt + 1 := i64w (by omega) (by omega)
                          go_wp2_with (at_builtin; refine wpList_append_own _ rfl (.tmp 48) (.tmp 54) 45 rfl (w.heap.size + 1) 5 i0 (.int .u8 0) 1 1 Tryd.underlying45 hi iz0 iz1 iz2 rfl (by decide) _ _ _ rfl (HO3.out.alloc _) ⟨w8.heap.size, 0, none⟩ 1 1 [.int .u8 (x.1 * 128)] rfl rfl (by exact one_u8) (by intro u hu; simp at hu; subst hu; rfl) (by unfold maxLen; omega) (by omega) (by simp; omega) ?_)
                          all_goals (try (exfalso; omega))
                          intro v' w4 hown' hgrow _
                          have HF4 := Lib.hid (HF3.out.alloc (.cells #[.int .u8 (x.1 * 128)] 5 (0, 0)))
                          clear HF3
                          have HOn := Lib.hid (own_byte hown' HSG.out)
                          have HW4 := Lib.hid (HF4.out.move (Ch.grown hgrow (C := fun k => w.heap.size + 1 ≤ k) fun k hk => (HO3.out.lt k hk).1) (by refine ⟨?_, ?_, ?_, trivial⟩ <;> (simp only [Fq.apart]; first | omega | (intro b h1 h2; omega) | (intro b h1 h2 h3; omega))))
                          have hz4 : w8.heap.size + 1 ≤ w4.heap.size := by have := hgrow.size; first | omega | (simp at this; omega)
                          clear hown' hgrow HSG HF4
                          go_wp2_with fail
                          refine (eatN R _ d ⟨#[44]⟩ _ (HW4.out.blk 0 rfl) H44.out).mono ?_
                          rintro e w4 ⟨rfl, hr, ho⟩
                          have HF5 := Lib.hid (HW4.out.call 0 ho hr (by refine ⟨?_, ?_, trivial⟩ <;> (simp only [Fq.apart]; first | omega | (intro b h1 h2; omega) | (intro b h1 h2 h3; omega))))
                          have hz4 : w4.heap.size ≤ w4.heap.size := by have := ho.size; first | omega | (simp at this; omega)
                          have HO4 := Lib.hid (own_keep HOn.out fun k hk hlt => ho.block k hlt (by omega))
                          clear HOn
                          clear HW4 ho hr
                          go_wp2_with fail
                          go_roundw
                          case rel => exact ⟨acc ++ [segB x.1 1], s1, cnt + 1, false, rfl, rfl, by omega, by omega, by simp only [List.length_append, List.length_singleton]; omega, Lib.hid (HS2.out), Lib.hid ⟨(HF5.out.get 0 rfl), (HF5.out.base 1 rfl), (HF5.out.get 2 rfl), trivial⟩, HO4⟩
                          case measure => rw [hlen, leftLen_of (HF5.out.blk 0 rfl)]; omega
                        ·
                          have HM := Lib.hid (show m0 = none from by
                            rw [hm0, if_neg]
                            · rfl
                            · simp only [okSeg, Bool.and_eq_true, decide_eq_true_eq, if_true]; intro e; exact hv1 e.2)
                          clear hm0 h44
                          have hv2 : (2 : Int) ≤ x.1 := by omega
                          clear hv1
                          go_wp2_with fail
                          refine (int_some R s d x _ (HW.out.blk 0 rfl) (by omega) H1.out).mono ?_
                          rintro e w1 ⟨rfl, hr, ho⟩
                          have HF1 := Lib.hid (HW.out.call 0 ho hr (by refine ⟨?_, ?_, trivial⟩ <;> (simp only [Fq.apart]; first | omega | (intro b h1 h2; omega) | (intro b h1 h2 h3; omega))))
                          have hz1 : wr.heap.size ≤ w1.heap.size := by have := ho.size; first | omega | (simp at this; omega)
                          have HO1 := Lib.hid (own_keep HO.out fun k hk hlt => ho.block k hlt (by omega))
                          clear HO
                          clear HW ho hr
                          go_wp2_with fail
                          refine (eatY R _ d ⟨#[58]⟩ _ (HF1.out.blk 0 rfl) H58.out).mono ?_
                          rintro e w2 ⟨rfl, hr, ho⟩
                          have HF2 := Lib.hid (HF1.out.call 0 ho hr (by refine ⟨?_, ?_, trivial⟩ <;> (simp only [Fq.apart]; first | omega | (intro b h1 h2; omega) | (intro b h1 h2 h3; omega))))
                          have hz2 : w1.heap.size ≤ w2.heap.size := by have := ho.size; first | omega | (simp at this; omega)
                          have HO2 := Lib.hid (own_keep HO1.out fun k hk hlt => ho.block k hlt (by omega))
                          clear HO1
                          clear HF1 ho hr
                          go_wp2_with fail
                          refine (int_some R _ d (1, s1) _ (HF2.out.blk 0 rfl) (by rw [List.length_drop]; omega) H2.out).mono ?_
                          rintro e w3 ⟨rfl, hr, ho⟩
                          have HF3 := Lib.hid (HF2.out.call 0 ho hr (by refine ⟨?_, ?_, trivial⟩ <;> (simp only [Fq.apart]; first | omega | (intro b h1 h2; omega) | (intro b h1 h2 h3; omega))))
                          have hz3 : w2.heap.size ≤ w3.heap.size := by have := ho.size; first | omega | (simp at this; omega)
                          have HO3 := Lib.hid (own_keep HO2.out fun k hk hlt => ho.block k hlt (by omega))
                          clear HO2
                          clear HF2 ho hr
                          have c0 := cells_of (HF3.out.blk 0 rfl) 0
                          go_wp2_with fail
                          refine (hasPre _ ⟨#[44]⟩ _).mono ?_
                          rintro e w8 ⟨rfl, rfl⟩
                          have HB : Hid (hp s1 (bl ⟨#[44]⟩) = false) := H44
                          simp only [HB.out]
                          clear HB c0
                          go_wp2_with fail
                          all_goals (try (exfalso; omega))
                          exact ⟨rfl, bits_bad (by rw [HM.out]; rfl) ⟨rfl, ⟨_, _, (HF3.out.blk 0 rfl)⟩, (HF3.out.base 1 rfl)⟩⟩
                      · by_cases hv1 : x.1 < 4
                        ·
                          have hok : okSeg true x.1 2 = true := by simp only [okSeg, Bool.and_eq_true, decide_eq_true_eq, if_true]; exact ⟨by omega, by show x.1 < 4; exact hv1⟩
                          rw [hok, if_pos rfl, h44, if_neg (by decide)] at hm0
                          clear hok h44
                          have HS2 := Lib.hid (show BitsSt m0 (acc ++ [segB x.1 2]) (cnt + 2) s1 false from hm0)
                          clear hm0
                          go_wp2_with fail
                          refine (int_some R s d x _ (HW.out.blk 0 rfl) (by omega) H1.out).mono ?_
                          rintro e w1 ⟨rfl, hr, ho⟩
                          have HF1 := Lib.hid (HW.out.call 0 ho hr (by refine ⟨?_, ?_, trivial⟩ <;> (simp only [Fq.apart]; first | omega | (intro b h1 h2; omega) | (intro b h1 h2 h3; omega))))
                          have hz1 : wr.heap.size ≤ w1.heap.size := by have := ho.size; first | omega | (simp at this; omega)
                          have HO1 := Lib.hid (own_keep HO.out fun k hk hlt => ho.block k hlt (by omega))
                          clear HO
                          clear HW ho hr
                          go_wp2_with fail
                          refine (eatY R _ d ⟨#[58]⟩ _ (HF1.out.blk 0 rfl) H58.out).mono ?_
                          rintro e w2 ⟨rfl, hr, ho⟩
                          have HF2 := Lib.hid (HF1.out.call 0 ho hr (by refine ⟨?_, ?_, trivial⟩ <;> (simp only [Fq.apart]; first | omega | (intro b h1 h2; omega) | (intro b h1 h2 h3; omega))))
                          have hz2 : w1.heap.size ≤ w2.heap.size := by have := ho.size; first | omega | (simp at this; omega)
                          have HO2 := Lib.hid (own_keep HO1.out fun k hk hlt => ho.block k hlt (by omega))
                          clear HO1
                          clear HF1 ho hr
                          go_wp2_with fail
                          refine (int_some R _ d (2, s1) _ (HF2.out.blk 0 rfl) (by rw [List.length_drop]; omega) H2.out).mono ?_
                          rintro e w3 ⟨rfl, hr, ho⟩
                          have HF3 := Lib.hid (HF2.out.call 0 ho hr (by refine ⟨?_, ?_, trivial⟩ <;> (simp only [Fq.apart]; first | omega | (intro b h1 h2; omega) | (intro b h1 h2 h3; omega))))
                          have hz3 : w2.heap.size ≤ w3.heap.size := by have := ho.size; first | omega | (simp at this; omega)
                          have HO3 := Lib.hid (own_keep HO2.out fun k hk hlt => ho.block k hlt (by omega))
                          clear HO2
                          clear HF2 ho hr
                          have c0 := cells_of (HF3.out.blk 0 rfl) 0
                          go_wp2_with fail
                          refine (hasPre _ ⟨#[44]⟩ _).mono ?_
                          rintro e w8 ⟨rfl, rfl⟩
                          have HB : Hid (hp s1 (bl ⟨#[44]⟩) = false) := H44
                          simp only [HB.out]
                          clear HB c0
                          have HSG := Lib.hid (segB_val2 (v := x.1) (by omega) (by omega))
                          have hcn : wrap64 (cnt + 2) = cnt + 2 := i64w (by omega) (by omega)
                          go_wp2_with (at_builtin; refine wpList_append_own _ rfl (.tmp 48) (.tmp 54) 45 rfl (w.heap.size + 1) 5 i0 (.int .u8 0) 1 1 Tryd.underlying45 hi iz0 iz1 iz2 rfl (by decide) _ _ _ rfl (HO3.out.alloc _) ⟨w8.heap.size, 0, none⟩ 1 1 [.int .u8 (x.1 * 64)] rfl rfl (by exact one_u8) (by intro u hu; simp at hu; subst hu; rfl) (by unfold maxLen; omega) (by omega) (by simp; omega) ?_)
                          all_goals (try (exfalso; omega))
                          intro v' w4 hown' hgrow _
                          have HF4 := Lib.hid (HF3.out.alloc (.cells #[.int .u8 (x.1 * 64)] 5 (0, 0)))
                          clear HF3
                          have HOn := Lib.hid (own_byte hown' HSG.out)
                          have HW4 := Lib.hid (HF4.out.move (Ch.grown hgrow (C := fun k => w.heap.size + 1 ≤ k) fun k hk => (HO3.out.lt k hk).1) (by refine ⟨?_, ?_, ?_, trivial⟩ <;> (simp only [Fq.apart]; first | omega | (intro b h1 h2; omega) | (intro b h1 h2 h3; omega))))
                          have hz4 : w8.heap.size + 1 ≤ w4.heap.size := by have := hgrow.size; first | omega | (simp at this; omega)
                          clear hown' hgrow HSG HF4
                          go_wp2_with fail
                          refine (eatN R _ d ⟨#[44]⟩ _ (HW4.out.blk 0 rfl) H44.out).mono ?_
                          rintro e w4 ⟨rfl, hr, ho⟩
                          have HF5 := Lib.hid (HW4.out.call 0 ho hr (by refine ⟨?_, ?_, trivial⟩ <;> (simp only [Fq.apart]; first | omega | (intro b h1 h2; omega) | (intro b h1 h2 h3; omega))))
                          have hz4 : w4.heap.size ≤ w4.heap.size := by have := ho.size; first | omega | (simp at this; omega)
                          have HO4 := Lib.hid (own_keep HOn.out fun k hk hlt => ho.block k hlt (by omega))
                          clear HOn
                          clear HW4 ho hr
                          go_wp2_with fail
                          go_roundw
                          case rel => exact ⟨acc ++ [segB x.1 2], s1, cnt + 2, false, rfl, rfl, by omega, by omega, by simp only [List.length_append, List.length_singleton]; omega, Lib.hid (HS2.out), Lib.hid ⟨(HF5.out.get 0 rfl), (HF5.out.base 1 rfl), (HF5.out.get 2 rfl), trivial⟩, HO4⟩
                          case measure => rw [hlen, leftLen_of (HF5.out.blk 0 rfl)]; omega
                        ·
                          have HM := Lib.hid (show m0 = none from by
                            rw [hm0, if_neg]
                            · rfl
                            · simp only [okSeg, Bool.and_eq_true, decide_eq_true_eq, if_true]; intro e; exact hv1 e.2)
                          clear hm0 h44
                          have hv2 : (4 : Int) ≤ x.1 := by omega
                          clear hv1
                          go_wp2_with fail
                          refine (int_some R s d x _ (HW.out.blk 0 rfl) (by omega) H1.out).mono ?_
                          rintro e w1 ⟨rfl, hr, ho⟩
                          have HF1 := Lib.hid (HW.out.call 0 ho hr (by refine ⟨?_, ?_, trivial⟩ <;> (simp only [Fq.apart]; first | omega | (intro b h1 h2; omega) | (intro b h1 h2 h3; omega))))
                          have hz1 : wr.heap.size ≤ w1.heap.size := by have := ho.size; first | omega | (simp at this; omega)
                          have HO1 := Lib.hid (own_keep HO.out fun k hk hlt => ho.block k hlt (by omega))
                          clear HO
                          clear HW ho hr
                          go_wp2_with fail
                          refine (eatY R _ d ⟨#[58]⟩ _ (HF1.out.blk 0 rfl) H58.out).mono ?_
                          rintro e w2 ⟨rfl, hr, ho⟩
                          have HF2 := Lib.hid (HF1.out.call 0 ho hr (by refine ⟨?_, ?_, trivial⟩ <;> (simp only [Fq.apart]; first | omega | (intro b h1 h2; omega) | (intro b h1 h2 h3; omega))))
                          have hz2 : w1.heap.size ≤ w2.heap.size := by have := ho.size; first | omega | (simp at this; omega)
                          have HO2 := Lib.hid (own_keep HO1.out fun k hk hlt => ho.block k hlt (by omega))
                          clear HO1
                          clear HF1 ho hr
                          go_wp2_with fail
                          refine (int_some R _ d (2, s1) _ (HF2.out.blk 0 rfl) (by rw [List.length_drop]; omega) H2.out).mono ?_
                          rintro e w3 ⟨rfl, hr, ho⟩
                          have HF3 := Lib.hid (HF2.out.call 0 ho hr (by refine ⟨?_, ?_, trivial⟩ <;> (simp only [Fq.apart]; first | omega | (intro b h1 h2; omega) | (intro b h1 h2 h3; omega))))
                          have hz3 : w2.heap.size ≤ w3.heap.size := by have := ho.size; first | omega | (simp at this; omega)
                          have HO3 := Lib.hid (own_keep HO2.out fun k hk hlt => ho.block k hlt (by omega))
                          clear HO2
                          clear HF2 ho hr
                          have c0 := cells_of (HF3.out.blk 0 rfl) 0
                          go_wp2_with fail
                          refine (hasPre _ ⟨#[44]⟩ _).mono ?_
                          rintro e w8 ⟨rfl, rfl⟩
                          have HB : Hid (hp s1 (bl ⟨#[44]⟩) = false) := H44
                          simp only [HB.out]
                          clear HB c0
                          go_wp2_with fail
                          all_goals (try (exfalso; omega))
                          exact ⟨rfl, bits_bad (by rw [HM.out]; rfl) ⟨rfl, ⟨_, _, (HF3.out.blk 0 rfl)⟩, (HF3.out.base 1 rfl)⟩⟩
                      · by_cases hv1 : x.1 < 8
                        ·
                          have hok : okSeg true x.1 3 = true := by simp only [okSeg, Bool.and_eq_true, decide_eq_true_eq, if_true]; exact ⟨by omega, by show x.1 < 8; exact hv1⟩
                          rw [hok, if_pos rfl, h44, if_neg (by decide)] at hm0
                          clear hok h44
                          have HS2 := Lib.hid (show BitsSt m0 (acc ++ [segB x.1 3]) (cnt + 3) s1 false from hm0)
                          clear hm0
                          go_wp2_with fail
                          refine (int_some R s d x _ (HW.out.blk 0 rfl) (by omega) H1.out).mono ?_
                          rintro e w1 ⟨rfl, hr, ho⟩
                          have HF1 := Lib.hid (HW.out.call 0 ho hr (by refine ⟨?_, ?_, trivial⟩ <;> (simp only [Fq.apart]; first | omega | (intro b h1 h2; omega) | (intro b h1 h2 h3; omega))))
                          have hz1 : wr.heap.size ≤ w1.heap.size := by have := ho.size; first | omega | (simp at this; omega)
                          have HO1 := Lib.hid (own_keep HO.out fun k hk hlt => ho.block k hlt (by omega))
                          clear HO
                          clear HW ho hr
                          go_wp2_with fail
                          refine (eatY R _ d ⟨#[58]⟩ _ (HF1.out.blk 0 rfl) H58.out).mono ?_
                          rintro e w2 ⟨rfl, hr, ho⟩
                          have HF2 := Lib.hid (HF1.out.call 0 ho hr (by refine ⟨?_, ?_, trivial⟩ <;> (simp only [Fq.apart]; first | omega | (intro b h1 h2; omega) | (intro b h1 h2 h3; omega))))
                          have hz2 : w1.heap.size ≤ w2.heap.size := by have := ho.size; first | omega | (simp at this; omega)
                          have HO2 := Lib.hid (own_keep HO1.out fun k hk hlt => ho.block k hlt (by omega))
                          clear HO1
                          clear HF1 ho hr
                          go_wp2_with fail
                          refine (int_some R _ d (3, s1) _ (HF2.out.blk 0 rfl) (by rw [List.length_drop]; omega) H2.out).mono ?_
                          rintro e w3 ⟨rfl, hr, ho⟩
                          have HF3 := Lib.hid (HF2.out.call 0 ho hr (by refine ⟨?_, ?_, trivial⟩ <;> (simp only [Fq.apart]; first | omega | (intro b h1 h2; omega) | (intro b h1 h2 h3; omega))))
                          have hz3 : w2.heap.size ≤ w3.heap.size := by have := ho.size; first | omega | (simp at this; omega)
                          have HO3 := Lib.hid (own_keep HO2.out fun k hk hlt => ho.block k hlt (by omega))
                          clear HO2
                          clear HF2 ho hr
                          have c0 := cells_of (HF3.out.blk 0 rfl) 0
                          go_wp2_with fail
                          refine (hasPre _ ⟨#[44]⟩ _).mono ?_
                          rintro e w8 ⟨rfl, rfl⟩
                          have HB : Hid (hp s1 (bl ⟨#[44]⟩) = false) := H44
                          simp only [HB.out]
                          clear HB c0
                          have HSG := Lib.hid (segB_val3 (v := x.1) (by omega) (by omega))
                          have hcn : wrap64 (cnt + 3) = cnt + 3 := i64w (by omega) (by omega)
                          go_wp2_with (at_builtin; refine wpList_append_own _ rfl (.tmp 48) (.tmp 54) 45 rfl (w.heap.size + 1) 5 i0 (.int .u8 0) 1 1 Tryd.underlying45 hi iz0 iz1 iz2 rfl (by decide) _ _ _ rfl (HO3.out.alloc _) ⟨w8.heap.size, 0, none⟩ 1 1 [.int .u8 (x.1 * 32)] rfl rfl (by exact one_u8) (by intro u hu; simp at hu; subst hu; rfl) (by unfold maxLen; omega) (by omega) (by simp; omega) ?_)
                          all_goals (try (exfalso; omega))
                          intro v' w4 hown' hgrow _
                          have HF4 := Lib.hid (HF3.out.alloc (.cells #[.int .u8 (x.1 * 32)] 5 (0, 0)))
                          clear HF3
                          have HOn := Lib.hid (own_byte hown' HSG.out)
                          have HW4 := Lib.hid (HF4.out.move (Ch.grown hgrow (C := fun k => w.heap.size + 1 ≤ k) fun k hk => (HO3.out.lt k hk).1) (by refine ⟨?_, ?_, ?_, trivial⟩ <;> (simp only [Fq.apart]; first | omega | (intro b h1 h2; omega) | (intro b h1 h2 h3; omega))))
                          have hz4 : w8.heap.size + 1 ≤ w4.heap.size := by have := hgrow.size; first | omega | (simp at this; omega)
                          clear hown' hgrow HSG HF4
                          go_wp2_with fail
                          refine (eatN R _ d ⟨#[44]⟩ _ (HW4.out.blk 0 rfl) H44.out).mono ?_
                          rintro e w4 ⟨rfl, hr, ho⟩
                          have HF5 := Lib.hid (HW4.out.call 0 ho hr (by refine ⟨?_, ?_, trivial⟩ <;> (simp only [Fq.apart]; first | omega | (intro b h1 h2; omega) | (intro b h1 h2 h3; omega))))
                          have hz4 : w4.heap.size ≤ w4.heap.size := by have := ho.size; first | omega | (simp at this; omega)
                          have HO4 := Lib.hid (own_keep HOn.out fun k hk hlt => ho.block k hlt (by omega))
                          clear HOn
                          clear HW4 ho hr
                          go_wp2_with fail
                          go_roundw
                          case rel => exact ⟨acc ++ [segB x.1 3], s1, cnt + 3, false, rfl, rfl, by omega, by omega, by simp only [List.length_append, List.length_singleton]; omega, Lib.hid (HS2.out), Lib.hid ⟨(HF5.out.get 0 rfl), (HF5.out.base 1 rfl), (HF5.out.get 2 rfl), trivial⟩, HO4⟩
                          case measure => rw [hlen, leftLen_of (HF5.out.blk 0 rfl)]; omega
                        ·
                          have HM := Lib.hid (show m0 = none from by
                            rw [hm0, if_neg]
                            · rfl
                            · simp only [okSeg, Bool.and_eq_true, decide_eq_true_eq, if_true]; intro e; exact hv1 e.2)
                          clear hm0 h44
                          have hv2 : (8 : Int) ≤ x.1 := by omega
                          clear hv1
                          go_wp2_with fail
                          refine (int_some R s d x _ (HW.out.blk 0 rfl) (by omega) H1.out).mono ?_
                          rintro e w1 ⟨rfl, hr, ho⟩
                          have HF1 := Lib.hid (HW.out.call 0 ho hr (by refine ⟨?_, ?_, trivial⟩ <;> (simp only [Fq.apart]; first | omega | (intro b h1 h2; omega) | (intro b h1 h2 h3; omega))))
                          have hz1 : wr.heap.size ≤ w1.heap.size := by have := ho.size; first | omega | (simp at this; omega)
                          have HO1 := Lib.hid (own_keep HO.out fun k hk hlt => ho.block k hlt (by omega))
                          clear HO
                          clear HW ho hr
                          go_wp2_with fail
                          refine (eatY R _ d ⟨#[58]⟩ _ (HF1.out.blk 0 rfl) H58.out).mono ?_
                          rintro e w2 ⟨rfl, hr, ho⟩
                          have HF2 := Lib.hid (HF1.out.call 0 ho hr (by refine ⟨?_, ?_, trivial⟩ <;> (simp only [Fq.apart]; first | omega | (intro b h1 h2; omega) | (intro b h1 h2 h3; omega))))
                          have hz2 : w1.heap.size ≤ w2.heap.size := by have := ho.size; first | omega | (simp at this; omega)
                          have HO2 := Lib.hid (own_keep HO1.out fun k hk hlt => ho.block k hlt (by omega))
                          clear HO1
                          clear HF1 ho hr
                          go_wp2_with fail
                          refine (int_some R _ d (3, s1) _ (HF2.out.blk 0 rfl) (by rw [List.length_drop]; omega) H2.out).mono ?_
                          rintro e w3 ⟨rfl, hr, ho⟩
                          have HF3 := Lib.hid (HF2.out.call 0 ho hr (by refine ⟨?_, ?_, trivial⟩ <;> (simp only [Fq.apart]; first | omega | (intro b h1 h2; omega) | (intro b h1 h2 h3; omega))))
                          have hz3 : w2.heap.size ≤ w3.heap.size := by have := ho.size; first | omega | (simp at this; omega)
                          have HO3 := Lib.hid (own_keep HO2.out fun k hk hlt => ho.block k hlt (by omega))
                          clear HO2
                          clear HF2 ho hr
                          have c0 := cells_of (HF3.out.blk 0 rfl) 0
                          go_wp2_with fail
                          refine (hasPre _ ⟨#[44]⟩ _).mono ?_
                          rintro e w8 ⟨rfl, rfl⟩
                          have HB : Hid (hp s1 (bl ⟨#[44]⟩) = false) := H44
                          simp only [HB.out]
                          clear HB c0
                          go_wp2_with fail
                          all_goals (try (exfalso; omega))
                          exact ⟨rfl, bits_bad (by rw [HM.out]; rfl) ⟨rfl, ⟨_, _, (HF3.out.blk 0 rfl)⟩, (HF3.out.base 1 rfl)⟩⟩
                      · by_cases hv1 : x.1 < 16
                        ·
                          have hok : okSeg true x.1 4 = true := by simp only [okSeg, Bool.and_eq_true, decide_eq_true_eq, if_true]; exact ⟨by omega, by show x.1 < 16; exact hv1⟩
                          rw [hok, if_pos rfl, h44, if_neg (by decide)] at hm0
                          clear hok h44
                          have HS2 := Lib.hid (show BitsSt m0 (acc ++ [segB x.1 4]) (cnt + 4) s1 false from hm0)
                          clear hm0
                          go_wp2_with fail
                          refine (int_some R s d x _ (HW.out.blk 0 rfl) (by omega) H1.out).mono ?_
                          rintro e w1 ⟨rfl, hr, ho⟩
                          have HF1 := Lib.hid (HW.out.call 0 ho hr (by refine ⟨?_, ?_, trivial⟩ <;> (simp only [Fq.apart]; first | omega | (intro b h1 h2; omega) | (intro b h1 h2 h3; omega))))
                          have hz1 : wr.heap.size ≤ w1.heap.size := by have := ho.size; first | omega | (simp at this; omega)
                          have HO1 := Lib.hid (own_keep HO.out fun k hk hlt => ho.block k hlt (by omega))
                          clear HO
                          clear HW ho hr
                          go_wp2_with fail
                          refine (eatY R _ d ⟨#[58]⟩ _ (HF1.out.blk 0 rfl) H58.out).mono ?_
                          rintro e w2 ⟨rfl, hr, ho⟩
                          have HF2 := Lib.hid (HF1.out.call 0 ho hr (by refine ⟨?_, ?_, trivial⟩ <;> (simp only [Fq.apart]; first | omega | (intro b h1 h2; omega) | (intro b h1 h2 h3; omega))))
                          have hz2 : w1.heap.size ≤ w2.heap.size := by have := ho.size; first | omega | (simp at this; omega)
                          have HO2 := Lib.hid (own_keep HO1.out fun k hk hlt => ho.block k hlt (by omega))
                          clear HO1
                          clear HF1 ho hr
                          go_wp2_with fail
                          refine (int_some R _ d (4, s1) _ (HF2.out.blk 0 rfl) (by rw [List.length_drop]; omega) H2.out).mono ?_
                          rintro e w3 ⟨rfl, hr, ho⟩
                          have HF3 := Lib.hid (HF2.out.call 0 ho hr (by refine ⟨?_, ?_, trivial⟩ <;> (simp only [Fq.apart]; first | omega | (intro b h1 h2; omega) | (intro b h1 h2 h3; omega))))
                          have hz3 : w2.heap.size ≤ w3.heap.size := by have := ho.size; first | omega | (simp at this; omega)
                          have HO3 := Lib.hid (own_keep HO2.out fun k hk hlt => ho.block k hlt (by omega))
                          clear HO2
                          clear HF2 ho hr
                          have c0 := cells_of (HF3.out.blk 0 rfl) 0
                          go_wp2_with fail
                          refine (hasPre _ ⟨#[44]⟩ _).mono ?_
                          rintro e w8 ⟨rfl, rfl⟩
                          have HB : Hid (hp s1 (bl ⟨#[44]⟩) = false) := H44
                          simp only [HB.out]
                          clear HB c0
                          have HSG := Lib.hid (segB_val4 (v := x.1) (by omega) (by omega))
                          have hcn : wrap64 (cnt + 4) = cnt + 4 := i64w (by omega) (by omega)
                          go_wp2_with (at_builtin; refine wpList_append_own _ rfl (.tmp 48) (.tmp 54) 45 rfl (w.heap.size + 1) 5 i0 (.int .u8 0) 1 1 Tryd.underlying45 hi iz0 iz1 iz2 rfl (by decide) _ _ _ rfl (HO3.out.alloc _) ⟨w8.heap.size, 0, none⟩ 1 1 [.int .u8 (x.1 * 16)] rfl rfl (by exact one_u8) (by intro u hu; simp at hu; subst hu; rfl) (by unfold maxLen; omega) (by omega) (by simp; omega) ?_)
                          all_goals (try (exfalso; omega))
                          intro v' w4 hown' hgrow _
                          have HF4 := Lib.hid (HF3.out.alloc (.cells #[.int .u8 (x.1 * 16)] 5 (0, 0)))
                          clear HF3
                          have HOn := Lib.hid (own_byte hown' HSG.out)
                          have HW4 := Lib.hid (HF4.out.move (Ch.grown hgrow (C := fun k => w.heap.size + 1 ≤ k) fun k hk => (HO3.out.lt k hk).1) (by refine ⟨?_, ?_, ?_, trivial⟩ <;> (simp only [Fq.apart]; first | omega | (intro b h1 h2; omega) | (intro b h1 h2 h3; omega))))
                          have hz4 : w8.heap.size + 1 ≤ w4.heap.size := by have := hgrow.size; first | omega | (simp at this; omega)
                          clear hown' hgrow HSG HF4
                          go_wp2_with fail
                          refine (eatN R _ d ⟨#[44]⟩ _ (HW4.out.blk 0 rfl) H44.out).mono ?_
                          rintro e w4 ⟨rfl, hr, ho⟩
                          have HF5 := Lib.hid (HW4.out.call 0 ho hr (by refine ⟨?_, ?_, trivial⟩ <;> (simp only [Fq.apart]; first | omega | (intro b h1 h2; omega) | (intro b h1 h2 h3; omega))))
                          have hz4 : w4.heap.size ≤ w4.heap.size := by have := ho.size; first | omega | (simp at this; omega)
                          have HO4 := Lib.hid (own_keep HOn.out fun k hk hlt => ho.block k hlt (by omega))
                          clear HOn
                          clear HW4 ho hr
                          go_wp2_with fail
                          go_roundw
                          case rel => exact ⟨acc ++ [segB x.1 4], s1, cnt + 4, false, rfl, rfl, by omega, by omega, by simp only [List.length_append, List.length_singleton]; omega, Lib.hid (HS2.out), Lib.hid ⟨(HF5.out.get 0 rfl), (HF5.out.base 1 rfl), (HF5.out.get 2 rfl), trivial⟩, HO4⟩
                          case measure => rw [hlen, leftLen_of (HF5.out.blk 0 rfl)]; omega
                        ·
                          have HM := Lib.hid (show m0 = none from by
                            rw [hm0, if_neg]
                            · rfl
                            · simp only [okSeg, Bool.and_eq_true, decide_eq_true_eq, if_true]; intro e; exact hv1 e.2)
                          clear hm0 h44
                          have hv2 : (16 : Int) ≤ x.1 := by omega
                          clear hv1
                          go_wp2_with fail
                          refine (int_some R s d x _ (HW.out.blk 0 rfl) (by omega) H1.out).mono ?_
                          rintro e w1 ⟨rfl, hr, ho⟩
                          have HF1 := Lib.hid (HW.out.call 0 ho hr (by refine ⟨?_, ?_, trivial⟩ <;> (simp only [Fq.apart]; first | omega | (intro b h1 h2; omega) | (intro b h1 h2 h3; omega))))
                          have hz1 : wr.heap.size ≤ w1.heap.size := by have := ho.size; first | omega | (simp at this; omega)
                          have HO1 := Lib.hid (own_keep HO.out fun k hk hlt => ho.block k hlt (by omega))
                          clear HO
                          clear HW ho hr
                          go_wp2_with fail
                          refine (eatY R _ d ⟨#[58]⟩ _ (HF1.out.blk 0 rfl) H58.out).mono ?_
                          rintro e w2 ⟨rfl, hr, ho⟩
                          have HF2 := Lib.hid (HF1.out.call 0 ho hr (by refine ⟨?_, ?_, trivial⟩ <;> (simp only [Fq.apart]; first | omega | (intro b h1 h2; omega) | (intro b h1 h2 h3; omega))))
                          have hz2 : w1.heap.size ≤ w2.heap.size := by have := ho.size; first | omega | (simp at this; omega)
                          have HO2 := Lib.hid (own_keep HO1.out fun k hk hlt => ho.block k hlt (by omega))
                          clear HO1
                          clear HF1 ho hr
                          go_wp2_with fail
                          refine (int_some R _ d (4, s1) _ (HF2.out.blk 0 rfl) (by rw [List.length_drop]; omega) H2.out).mono ?_
                          rintro e w3 ⟨rfl, hr, ho⟩
                          have HF3 := Lib.hid (HF2.out.call 0 ho hr (by refine ⟨?_, ?_, trivial⟩ <;> (simp only [Fq.apart]; first | omega | (intro b h1 h2; omega) | (intro b h1 h2 h3; omega))))
                          have hz3 : w2.heap.size ≤ w3.heap.size := by have := ho.size; first | omega | (simp at this; omega)
                          have HO3 := Lib.hid (own_keep HO2.out fun k hk hlt => ho.block k hlt (by omega))
                          clear HO2
                          clear HF2 ho hr
                          have c0 := cells_of (HF3.out.blk 0 rfl) 0
                          go_wp2_with fail
                          refine (hasPre _ ⟨#[44]⟩ _).mono ?_
                          rintro e w8 ⟨rfl, rfl⟩
                          have HB : Hid (hp s1 (bl ⟨#[44]⟩) = false) := H44
                          simp only [HB.out]
                          clear HB c0
                          go_wp2_with fail
                          all_goals (try (exfalso; omega))
                          exact ⟨rfl, bits_bad (by rw [HM.out]; rfl) ⟨rfl, ⟨_, _, (HF3.out.blk 0 rfl)⟩, (HF3.out.base 1 rfl)⟩⟩
                      · by_cases hv1 : x.1 < 32
                        ·
                          have hok : okSeg true x.1 5 = true := by simp only [okSeg, Bool.and_eq_true, decide_eq_true_eq, if_true]; exact ⟨by omega, by show x.1 < 32; exact hv1⟩
                          rw [hok, if_pos rfl, h44, if_neg (by decide)] at hm0
                          clear hok h44
                          have HS2 := Lib.hid (show BitsSt m0 (acc ++ [segB x.1 5]) (cnt + 5) s1 false from hm0)
                          clear hm0
                          go_wp2_with fail
                          refine (int_some R s d x _ (HW.out.blk 0 rfl) (by omega) H1.out).mono ?_
                          rintro e w1 ⟨rfl, hr, ho⟩
                          have HF1 := Lib.hid (HW.out.call 0 ho hr (by refine ⟨?_, ?_, trivial⟩ <;> (simp only [Fq.apart]; first | omega | (intro b h1 h2; omega) | (intro b h1 h2 h3; omega))))
                          have hz1 : wr.heap.size ≤ w1.heap.size := by have := ho.size; first | omega | (simp at this; omega)
                          have HO1 := Lib.hid (own_keep HO.out fun k hk hlt => ho.block k hlt (by omega))
                          clear HO
                          clear HW ho hr
                          go_wp2_with fail
                          refine (eatY R _ d ⟨#[58]⟩ _ (HF1.out.blk 0 rfl) H58.out).mono ?_
                          rintro e w2 ⟨rfl, hr, ho⟩
                          have HF2 := Lib.hid (HF1.out.call 0 ho hr (by refine ⟨?_, ?_, trivial⟩ <;> (simp only [Fq.apart]; first | omega | (intro b h1 h2; omega) | (intro b h1 h2 h3; omega))))
                          have hz2 : w1.heap.size ≤ w2.heap.size := by have := ho.size; first | omega | (simp at this; omega)
                          have HO2 := Lib.hid (own_keep HO1.out fun k hk hlt => ho.block k hlt (by omega))
                          clear HO1
                          clear HF1 ho hr
                          go_wp2_with fail
                          refine (int_some R _ d (5, s1) _ (HF2.out.blk 0 rfl) (by rw [List.length_drop]; omega) H2.out).mono ?_
                          rintro e w3 ⟨rfl, hr, ho⟩
                          have HF3 := Lib.hid (HF2.out.call 0 ho hr (by refine ⟨?_, ?_, trivial⟩ <;> (simp only [Fq.apart]; first | omega | (intro b h1 h2; omega) | (intro b h1 h2 h3; omega))))
                          have hz3 : w2.heap.size ≤ w3.heap.size := by have := ho.size; first | omega | (simp at this; omega)
                          have HO3 := Lib.hid (own_keep HO2.out fun k hk hlt => ho.block k hlt (by omega))
                          clear HO2
                          clear HF2 ho hr
                          have c0 := cells_of (HF3.out.blk 0 rfl) 0
                          go_wp2_with fail
                          refine (hasPre _ ⟨#[44]⟩ _).mono ?_
                          rintro e w8 ⟨rfl, rfl⟩
                          have HB : Hid (hp s1 (bl ⟨#[44]⟩) = false) := H44
                          simp only [HB.out]
                          clear HB c0
                          have HSG := Lib.hid (segB_val5 (v := x.1) (by omega) (by omega))
                          have hcn : wrap64 (cnt + 5) = cnt + 5 := i64w (by omega) (by omega)
                          go_wp2_with (at_builtin; refine wpList_append_own _ rfl (.tmp 48) (.tmp 54) 45 rfl (w.heap.size + 1) 5 i0 (.int .u8 0) 1 1 Tryd.underlying45 hi iz0 iz1 iz2 rfl (by decide) _ _ _ rfl (HO3.out.alloc _) ⟨w8.heap.size, 0, none⟩ 1 1 [.int .u8 (x.1 * 8)] rfl rfl (by exact one_u8) (by intro u hu; simp at hu; subst hu; rfl) (by unfold maxLen; omega) (by omega) (by simp; omega) ?_)
                          all_goals (try (exfalso; omega))
                          intro v' w4 hown' hgrow _
                          have HF4 := Lib.hid (HF3.out.alloc (.cells #[.int .u8 (x.1 * 8)] 5 (0, 0)))
                          clear HF3
                          have HOn := Lib.hid (own_byte hown' HSG.out)
                          have HW4 := Lib.hid (HF4.out.move (Ch.grown hgrow (C := fun k => w.heap.size + 1 ≤ k) fun k hk => (HO3.out.lt k hk).1) (by refine ⟨?_, ?_, ?_, trivial⟩ <;> (simp only [Fq.apart]; first | omega | (intro b h1 h2; omega) | (intro b h1 h2 h3; omega))))
                          have hz4 : w8.heap.size + 1 ≤ w4.heap.size := by have := hgrow.size; first | omega | (simp at this; omega)
                          clear hown' hgrow HSG HF4
                          go_wp2_with fail
                          refine (eatN R _ d ⟨#[44]⟩ _ (HW4.out.blk 0 rfl) H44.out).mono ?_
                          rintro e w4 ⟨rfl, hr, ho⟩
                          have HF5 := Lib.hid (HW4.out.call 0 ho hr (by refine ⟨?_, ?_, trivial⟩ <;> (simp only [Fq.apart]; first | omega | (intro b h1 h2; omega) | (intro b h1 h2 h3; omega))))
                          have hz4 : w4.heap.size ≤ w4.heap.size := by have := ho.size; first | omega | (simp at this; omega)
                          have HO4 := Lib.hid (own_keep HOn.out fun k hk hlt => ho.block k hlt (by omega))
                          clear HOn
                          clear HW4 ho hr
                          go_wp2_with fail
                          go_roundw
                          case rel => exact ⟨acc ++ [segB x.1 5], s1, cnt + 5, false, rfl, rfl, by omega, by omega, by simp only [List.length_append, List.length_singleton]; omega, Lib.hid (HS2.out), Lib.hid ⟨(HF5.out.get 0 rfl), (HF5.out.base 1 rfl), (HF5.out.get 2 rfl), trivial⟩, HO4⟩
                          case measure => rw [hlen, leftLen_of (HF5.out.blk 0 rfl)]; omega
                        ·
                          have HM := Lib.hid (show m0 = none from by
                            rw [hm0, if_neg]
                            · rfl
                            · simp only [okSeg, Bool.and_eq_true, decide_eq_true_eq, if_true]; intro e; exact hv1 e.2)
                          clear hm0 h44
                          have hv2 : (32 : Int) ≤ x.1 := by omega
                          clear hv1
                          go_wp2_with fail
                          refine (int_some R s d x _ (HW.out.blk 0 rfl) (by omega) H1.out).mono ?_
                          rintro e w1 ⟨rfl, hr, ho⟩
                          have HF1 := Lib.hid (HW.out.call 0 ho hr (by refine ⟨?_, ?_, trivial⟩ <;> (simp only [Fq.apart]; first | omega | (intro b h1 h2; omega) | (intro b h1 h2 h3; omega))))
                          have hz1 : wr.heap.size ≤ w1.heap.size := by have := ho.size; first | omega | (simp at this; omega)
                          have HO1 := Lib.hid (own_keep HO.out fun k hk hlt => ho.block k hlt (by omega))
                          clear HO
                          clear HW ho hr
                          go_wp2_with fail
                          refine (eatY R _ d ⟨#[58]⟩ _ (HF1.out.blk 0 rfl) H58.out).mono ?_
                          rintro e w2 ⟨rfl, hr, ho⟩
                          have HF2 := Lib.hid (HF1.out.call 0 ho hr (by refine ⟨?_, ?_, trivial⟩ <;> (simp only [Fq.apart]; first | omega | (intro b h1 h2; omega) | (intro b h1 h2 h3; omega))))
                          have hz2 : w1.heap.size ≤ w2.heap.size := by have := ho.size; first | omega | (simp at this; omega)
                          have HO2 := Lib.hid (own_keep HO1.out fun k hk hlt => ho.block k hlt (by omega))
                          clear HO1
                          clear HF1 ho hr
                          go_wp2_with fail
                          refine (int_some R _ d (5, s1) _ (HF2.out.blk 0 rfl) (by rw [List.length_drop]; omega) H2.out).mono ?_
                          rintro e w3 ⟨rfl, hr, ho⟩
                          have HF3 := Lib.hid (HF2.out.call 0 ho hr (by refine ⟨?_, ?_, trivial⟩ <;> (simp only [Fq.apart]; first | omega | (intro b h1 h2; omega) | (intro b h1 h2 h3; omega))))
                          have hz3 : w2.heap.size ≤ w3.heap.size := by have := ho.size; first | omega | (simp at this; omega)
                          have HO3 := Lib.hid (own_keep HO2.out fun k hk hlt => ho.block k hlt (by omega))
                          clear HO2
                          clear HF2 ho hr
                          have c0 := cells_of (HF3.out.blk 0 rfl) 0
                          go_wp2_with fail
                          refine (hasPre _ ⟨#[44]⟩ _).mono ?_
                          rintro e w8 ⟨rfl, rfl⟩
                          have HB : Hid (hp s1 (bl ⟨#[44]⟩) = false) := H44
                          simp only [HB.out]
                          clear HB c0
                          go_wp2_with fail
                          all_goals (try (exfalso; omega))
                          exact ⟨rfl, bits_bad (by rw [HM.out]; rfl) ⟨rfl, ⟨_, _, (HF3.out.blk 0 rfl)⟩, (HF3.out.base 1 rfl)⟩⟩
                      · by_cases hv1 : x.1 < 64
                        ·
                          have hok : okSeg true x.1 6 = true := by simp only [okSeg, Bool.and_eq_true, decide_eq_true_eq, if_true]; exact ⟨by omega, by show x.1 < 64; exact hv1⟩
                          rw [hok, if_pos rfl, h44, if_neg (by decide)] at hm0
                          clear hok h44
                          have HS2 := Lib.hid (show BitsSt m0 (acc ++ [segB x.1 6]) (cnt + 6) s1 false from hm0)
                          clear hm0
                          go_wp2_with fail
                          refine (int_some R s d x _ (HW.out.blk 0 rfl) (by omega) H1.out).mono ?_
                          rintro e w1 ⟨rfl, hr, ho⟩
                          have HF1 := Lib.hid (HW.out.call 0 ho hr (by refine ⟨?_, ?_, trivial⟩ <;> (simp only [Fq.apart]; first | omega | (intro b h1 h2; omega) | (intro b h1 h2 h3; omega))))
                          have hz1 : wr.heap.size ≤ w1.heap.size := by have := ho.size; first | omega | (simp at this; omega)
                          have HO1 := Lib.hid (own_keep HO.out fun k hk hlt => ho.block k hlt (by omega))
                          clear HO
                          clear HW ho hr
                          go_wp2_with fail
                          refine (eatY R _ d ⟨#[58]⟩ _ (HF1.out.blk 0 rfl) H58.out).mono ?_
                          rintro e w2 ⟨rfl, hr, ho⟩
                          have HF2 := Lib.hid (HF1.out.call 0 ho hr (by refine ⟨?_, ?_, trivial⟩ <;> (simp only [Fq.apart]; first | omega | (intro b h1 h2; omega) | (intro b h1 h2 h3; omega))))
                          have hz2 : w1.heap.size ≤ w2.heap.size := by have := ho.size; first | omega | (simp at this; omega)
                          have HO2 := Lib.hid (own_keep HO1.out fun k hk hlt => ho.block k hlt (by omega))
                          clear HO1
                          clear HF1 ho hr
                          go_wp2_with fail
                          refine (int_some R _ d (6, s1) _ (HF2.out.blk 0 rfl) (by rw [List.length_drop]; omega) H2.out).mono ?_
                          rintro e w3 ⟨rfl, hr, ho⟩
                          have HF3 := Lib.hid (HF2.out.call 0 ho hr (by refine ⟨?_, ?_, trivial⟩ <;> (simp only [Fq.apart]; first | omega | (intro b h1 h2; omega) | (intro b h1 h2 h3; omega))))
                          have hz3 : w2.heap.size ≤ w3.heap.size := by have := ho.size; first | omega | (simp at this; omega)
                          have HO3 := Lib.hid (own_keep HO2.out fun k hk hlt => ho.block k hlt (by omega))
                          clear HO2
                          clear HF2 ho hr
                          have c0 := cells_of (HF3.out.blk 0 rfl) 0
                          go_wp2_with fail
                          refine (hasPre _ ⟨#[44]⟩ _).mono ?_
                          rintro e w8 ⟨rfl, rfl⟩
                          have HB : Hid (hp s1 (bl ⟨#[44]⟩) = false) := H44
                          simp only [HB.out]
                          clear HB c0
                          have HSG := Lib.hid (segB_val6 (v := x.1) (by omega) (by omega))
                          have hcn : wrap64 (cnt + 6) = cnt + 6 := i64w (by omega) (by omega)
                          go_wp2_with (at_builtin; refine wpList_append_own _ rfl (.tmp 48) (.tmp 54) 45 rfl (w.heap.size + 1) 5 i0 (.int .u8 0) 1 1 Tryd.underlying45 hi iz0 iz1 iz2 rfl (by decide) _ _ _ rfl (HO3.out.alloc _) ⟨w8.heap.size, 0, none⟩ 1 1 [.int .u8 (x.1 * 4)] rfl rfl (by exact one_u8) (by intro u hu; simp at hu; subst hu; rfl) (by unfold maxLen; omega) (by omega) (by simp; omega) ?_)
                          all_goals (try (exfalso; omega))
                          intro v' w4 hown' hgrow _
                          have HF4 := Lib.hid (HF3.out.alloc (.cells #[.int .u8 (x.1 * 4)] 5 (0, 0)))
                          clear HF3
                          have HOn := Lib.hid (own_byte hown' HSG.out)
                          have HW4 := Lib.hid (HF4.out.move (Ch.grown hgrow (C := fun k => w.heap.size + 1 ≤ k) fun k hk => (HO3.out.lt k hk).1) (by refine ⟨?_, ?_, ?_, trivial⟩ <;> (simp only [Fq.apart]; first | omega | (intro b h1 h2; omega) | (intro b h1 h2 h3; omega))))
                          have hz4 : w8.heap.size + 1 ≤ w4.heap.size := by have := hgrow.size; first | omega | (simp at this; omega)
                          clear hown' hgrow HSG HF4
                          go_wp2_with fail
                          refine (eatN R _ d ⟨#[44]⟩ _ (HW4.out.blk 0 rfl) H44.out).mono ?_
                          rintro e w4 ⟨rfl, hr, ho⟩
                          have HF5 := Lib.hid (HW4.out.call 0 ho hr (by refine ⟨?_, ?_, trivial⟩ <;> (simp only [Fq.apart]; first | omega | (intro b h1 h2; omega) | (intro b h1 h2 h3; omega))))
                          have hz4 : w4.heap.size ≤ w4.heap.size := by have := ho.size; first | omega | (simp at this; omega)
                          have HO4 := Lib.hid (own_keep HOn.out fun k hk hlt => ho.block k hlt (by omega))
                          clear HOn
                          clear HW4 ho hr
                          go_wp2_with fail
                          go_roundw
                          case rel => exact ⟨acc ++ [segB x.1 6], s1, cnt + 6, false, rfl, rfl, by omega, by omega, by simp only [List.length_append, List.length_singleton]; omega, Lib.hid (HS2.out), Lib.hid ⟨(HF5.out.get 0 rfl), (HF5.out.base 1 rfl), (HF5.out.get 2 rfl), trivial⟩, HO4⟩
                          case measure => rw [hlen, leftLen_of (HF5.out.blk 0 rfl)]; omega
                        ·
                          have HM := Lib.hid (show m0 = none from by
                            rw [hm0, if_neg]
                            · rfl
                            · simp only [okSeg, Bool.and_eq_true, decide_eq_true_eq, if_true]; intro e; exact hv1 e.2)
                          clear hm0 h44
                          have hv2 : (64 : Int) ≤ x.1 := by omega
                          clear hv1
                          go_wp2_with fail
                          refine (int_some R s d x _ (HW.out.blk 0 rfl) (by omega) H1.out).mono ?_
                          rintro e w1 ⟨rfl, hr, ho⟩
                          have HF1 := Lib.hid (HW.out.call 0 ho hr (by refine ⟨?_, ?_, trivial⟩ <;> (simp only [Fq.apart]; first | omega | (intro b h1 h2; omega) | (intro b h1 h2 h3; omega))))
                          have hz1 : wr.heap.size ≤ w1.heap.size := by have := ho.size; first | omega | (simp at this; omega)
                          have HO1 := Lib.hid (own_keep HO.out fun k hk hlt => ho.block k hlt (by omega))
                          clear HO
                          clear HW ho hr
                          go_wp2_with fail
                          refine (eatY R _ d ⟨#[58]⟩ _ (HF1.out.blk 0 rfl) H58.out).mono ?_
                          rintro e w2 ⟨rfl, hr, ho⟩
                          have HF2 := Lib.hid (HF1.out.call 0 ho hr (by refine ⟨?_, ?_, trivial⟩ <;> (simp only [Fq.apart]; first | omega | (intro b h1 h2; omega) | (intro b h1 h2 h3; omega))))
                          have hz2 : w1.heap.size ≤ w2.heap.size := by have := ho.size; first | omega | (simp at this; omega)
                          have HO2 := Lib.hid (own_keep HO1.out fun k hk hlt => ho.block k hlt (by omega))
                          clear HO1
                          clear HF1 ho hr
                          go_wp2_with fail
                          refine (int_some R _ d (6, s1) _ (HF2.out.blk 0 rfl) (by rw [List.length_drop]; omega) H2.out).mono ?_
                          rintro e w3 ⟨rfl, hr, ho⟩
                          have HF3 := Lib.hid (HF2.out.call 0 ho hr (by refine ⟨?_, ?_, trivial⟩ <;> (simp only [Fq.apart]; first | omega | (intro b h1 h2; omega) | (intro b h1 h2 h3; omega))))
                          have hz3 : w2.heap.size ≤ w3.heap.size := by have := ho.size; first | omega | (simp at this; omega)
                          have HO3 := Lib.hid (own_keep HO2.out fun k hk hlt => ho.block k hlt (by omega))
                          clear HO2
                          clear HF2 ho hr
                          have c0 := cells_of (HF3.out.blk 0 rfl) 0
                          go_wp2_with fail
                          refine (hasPre _ ⟨#[44]⟩ _).mono ?_
                          rintro e w8 ⟨rfl, rfl⟩
                          have HB : Hid (hp s1 (bl ⟨#[44]⟩) = false) := H44
                          simp only [HB.out]
                          clear HB c0
                          go_wp2_with fail
                          all_goals (try (exfalso; omega))
                          exact ⟨rfl, bits_bad (by rw [HM.out]; rfl) ⟨rfl, ⟨_, _, (HF3.out.blk 0 rfl)⟩, (HF3.out.base 1 rfl)⟩⟩
                      · by_cases hv1 : x.1 < 128
                        ·
                          have hok : okSeg true x.1 7 = true := by simp only [okSeg, Bool.and_eq_true, decide_eq_true_eq, if_true]; exact ⟨by omega, by show x.1 < 128; exact hv1⟩
                          rw [hok, if_pos rfl, h44, if_neg (by decide)] at hm0
                          clear hok h44
                          have HS2 := Lib.hid (show BitsSt m0 (acc ++ [segB x.1 7]) (cnt + 7) s1 false from hm0)
                          clear hm0
                          go_wp2_with fail
                          refine (int_some R s d x _ (HW.out.blk 0 rfl) (by omega) H1.out).mono ?_
                          rintro e w1 ⟨rfl, hr, ho⟩
                          have HF1 := Lib.hid (HW.out.call 0 ho hr (by refine ⟨?_, ?_, trivial⟩ <;> (simp only [Fq.apart]; first | omega | (intro b h1 h2; omega) | (intro b h1 h2 h3; omega))))
                          have hz1 : wr.heap.size ≤ w1.heap.size := by have := ho.size; first | omega | (simp at this; omega)
                          have HO1 := Lib.hid (own_keep HO.out fun k hk hlt => ho.block k hlt (by omega))
                          clear HO
                          clear HW ho hr
                          go_wp2_with fail
                          refine (eatY R _ d ⟨#[58]⟩ _ (HF1.out.blk 0 rfl) H58.out).mono ?_
                          rintro e w2 ⟨rfl, hr, ho⟩
                          have HF2 := Lib.hid (HF1.out.call 0 ho hr (by refine ⟨?_, ?_, trivial⟩ <;> (simp only [Fq.apart]; first | omega | (intro b h1 h2; omega) | (intro b h1 h2 h3; omega))))
                          have hz2 : w1.heap.size ≤ w2.heap.size := by have := ho.size; first | omega | (simp at this; omega)
                          have HO2 := Lib.hid (own_keep HO1.out fun k hk hlt => ho.block k hlt (by omega))
                          clear HO1
                          clear HF1 ho hr
                          go_wp2_with fail
                          refine (int_some R _ d (7, s1) _ (HF2.out.blk 0 rfl) (by rw [List.length_drop]; omega) H2.out).mono ?_
                          rintro e w3 ⟨rfl, hr, ho⟩
                          have HF3 := Lib.hid (HF2.out.call 0 ho hr (by refine ⟨?_, ?_, trivial⟩ <;> (simp only [Fq.apart]; first | omega | (intro b h1 h2; omega) | (intro b h1 h2 h3; omega))))
                          have hz3 : w2.heap.size ≤ w3.heap.size := by have := ho.size; first | omega | (simp at this; omega)
                          have HO3 := Lib.hid (own_keep HO2.out fun k hk hlt => ho.block k hlt (by omega))
                          clear HO2
                          clear HF2 ho hr
                          have c0 := cells_of (HF3.out.blk 0 rfl) 0
                          go_wp2_with fail
                          refine (hasPre _ ⟨#[44]⟩ _).mono ?_
                          rintro e w8 ⟨rfl, rfl⟩
                          have HB : Hid (hp s1 (bl ⟨#[44]⟩) = false) := H44
                          simp only [HB.out]
                          clear HB c0
                          have HSG := Lib.hid (segB_val7 (v := x.1) (by omega) (by omega))
                          have hcn : wrap64 (cnt + 7) = cnt + 7 := i64w (by omega) (by omega)
                          go_wp2_with (at_builtin; refine wpList_append_own _ rfl (.tmp 48) (.tmp 54) 45 rfl (w.heap.size + 1) 5 i0 (.int .u8 0) 1 1 Tryd.underlying45 hi iz0 iz1 iz2 rfl (by decide) _ _ _ rfl (HO3.out.alloc _) ⟨w8.heap.size, 0, none⟩ 1 1 [.int .u8 (x.1 * 2)] rfl rfl (by exact one_u8) (by intro u hu; simp at hu; subst hu; rfl) (by unfold maxLen; omega) (by omega) (by simp; omega) ?_)
                          all_goals (try (exfalso; omega))
                          intro v' w4 hown' hgrow _
                          have HF4 := Lib.hid (HF3.out.alloc (.cells #[.int .u8 (x.1 * 2)] 5 (0, 0)))
                          clear HF3
                          have HOn := Lib.hid (own_byte hown' HSG.out)
                          have HW4 := Lib.hid (HF4.out.move (Ch.grown hgrow (C := fun k => w.heap.size + 1 ≤ k) fun k hk => (HO3.out.lt k hk).1) (by refine ⟨?_, ?_, ?_, trivial⟩ <;> (simp only [Fq.apart]; first | omega | (intro b h1 h2; omega) | (intro b h1 h2 h3; omega))))
                          have hz4 : w8.heap.size + 1 ≤ w4.heap.size := by have := hgrow.size; first | omega | (simp at this; omega)
                          clear hown' hgrow HSG HF4
                          go_wp2_with fail
                          refine (eatN R _ d ⟨#[44]⟩ _ (HW4.out.blk 0 rfl) H44.out).mono ?_
                          rintro e w4 ⟨rfl, hr, ho⟩
                          have HF5 := Lib.hid (HW4.out.call 0 ho hr (by refine ⟨?_, ?_, trivial⟩ <;> (simp only [Fq.apart]; first | omega | (intro b h1 h2; omega) | (intro b h1 h2 h3; omega))))
                          have hz4 : w4.heap.size ≤ w4.heap.size := by have := ho.size; first | omega | (simp at this; omega)
                          have HO4 := Lib.hid (own_keep HOn.out fun k hk hlt => ho.block k hlt (by omega))
                          clear HOn
                          clear HW4 ho hr
                          go_wp2_with fail
                          go_roundw
                          case rel => exact ⟨acc ++ [segB x.1 7], s1, cnt + 7, false, rfl, rfl, by omega, by omega, by simp only [List.length_append, List.length_singleton]; omega, Lib.hid (HS2.out), Lib.hid ⟨(HF5.out.get 0 rfl), (HF5.out.base 1 rfl), (HF5.out.get 2 rfl), trivial⟩, HO4⟩
                          case measure => rw [hlen, leftLen_of (HF5.out.blk 0 rfl)]; omega
                        ·
                          have HM := Lib.hid (show m0 = none from by
                            rw [hm0, if_neg]
                            · rfl
                            · simp only [okSeg, Bool.and_eq_true, decide_eq_true_eq, if_true]; intro e; exact hv1 e.2)
                          clear hm0 h44
                          have hv2 : (128 : Int) ≤ x.1 := by omega
                          clear hv1
                          go_wp2_with fail
                          refine (int_some R s d x _ (HW.out.blk 0 rfl) (by omega) H1.out).mono ?_
                          rintro e w1 ⟨rfl, hr, ho⟩
                          have HF1 := Lib.hid (HW.out.call 0 ho hr (by refine ⟨?_, ?_, trivial⟩ <;> (simp only [Fq.apart]; first | omega | (intro b h1 h2; omega) | (intro b h1 h2 h3; omega))))
                          have hz1 : wr.heap.size ≤ w1.heap.size := by have := ho.size; first | omega | (simp at this; omega)
                          have HO1 := Lib.hid (own_keep HO.out fun k hk hlt => ho.block k hlt (by omega))
                          clear HO
                          clear HW ho hr
                          go_wp2_with fail
                          refine (eatY R _ d ⟨#[58]⟩ _ (HF1.out.blk 0 rfl) H58.out).mono ?_
                          rintro e w2 ⟨rfl, hr, ho⟩
                          have HF2 := Lib.hid (HF1.out.call 0 ho hr (by refine ⟨?_, ?_, trivial⟩ <;> (simp only [Fq.apart]; first | omega | (intro b h1 h2; omega) | (intro b h1 h2 h3; omega))))
                          have hz2 : w1.heap.size ≤ w2.heap.size := by have := ho.size; first | omega | (simp at this; omega)
                          have HO2 := Lib.hid (own_keep HO1.out fun k hk hlt => ho.block k hlt (by omega))
                          clear HO1
                          clear HF1 ho hr
                          go_wp2_with fail
                          refine (int_some R _ d (7, s1) _ (HF2.out.blk 0 rfl) (by rw [List.length_drop]; omega) H2.out).mono ?_
                          rintro e w3 ⟨rfl, hr, ho⟩
                          have HF3 := Lib.hid (HF2.out.call 0 ho hr (by refine ⟨?_, ?_, trivial⟩ <;> (simp only [Fq.apart]; first | omega | (intro b h1 h2; omega) | (intro b h1 h2 h3; omega))))
                          have hz3 : w2.heap.size ≤ w3.heap.size := by have := ho.size; first | omega | (simp at this; omega)
                          have HO3 := Lib.hid (own_keep HO2.out fun k hk hlt => ho.block k hlt (by omega))
                          clear HO2
                          clear HF2 ho hr
                          have c0 := cells_of (HF3.out.blk 0 rfl) 0
                          go_wp2_with fail
                          refine (hasPre _ ⟨#[44]⟩ _).mono ?_
                          rintro e w8 ⟨rfl, rfl⟩
                          have HB : Hid (hp s1 (bl ⟨#[44]⟩) = false) := H44
                          simp only [HB.out]
                          clear HB c0
                          go_wp2_with fail
                          all_goals (try (exfalso; omega))
                          exact ⟨rfl, bits_bad (by rw [HM.out]; rfl) ⟨rfl, ⟨_, _, (HF3.out.blk 0 rfl)⟩, (HF3.out.base 1 rfl)⟩⟩
end Go.Proofs.YtgfodedmcjkmaaaDoor
