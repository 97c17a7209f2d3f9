/-
  Walks: strconv.FormatUint at base 10.
-/
import Derived.Test.YtmcnhggpmlhgeaaGreatDoorLd
import Derived.Lib.ItoaMem
namespace Go.Proofs.YtmcnhggpmlhgeaaGreatDoor
open Go.RowKit Go.Sort
theorem holds_zero0 (w : World) (T : TypeId) (nd : Nat) (hs : nd ≤ 24) : Holds (fun (b : UInt8) => Value.int .u8 (b.toNat : Int)) (w.alloc (.cells Lib.zeros24 T)) w.heap.size 0 (Array.replicate nd (0 : UInt8)) := fun j hj => by
  have hj' : j < nd := by simpa using hj
  refine ⟨?_, World.frozen?_alloc_new _ _ _ _⟩
  rw [World.cell?_alloc_new, Lib.zeros24_at _ (by omega), getElem!_pos _ j hj]
  simp
theorem fin_zero (w : World) (o : Obj) (dk : Array UInt8) (k : Nat) : Below w.heap.size w ((putRow (fun (b : UInt8) => Value.int .u8 (b.toNat : Int)) (w.alloc o) w.heap.size 0 dk).drewN k) := by
  rw [alloc_eq_grow]
  obtain ⟨os', _, e⟩ := putRow_grow_new (fun (b : UInt8) => Value.int .u8 (b.toNat : Int)) w #[o] w.heap.size 0 dk (Nat.le_refl _)
  rw [e]
  refine (⟨rfl, rfl, rfl, ?_, fun j hj => ?_⟩ : Below w.heap.size w (grow w os')).trans ⟨rfl, rfl, rfl, Nat.le_refl _, fun _ _ => rfl⟩
  · simp [grow]
  · exact heap_grow_old w os' hj
set_option maxRecDepth 100000 in
set_option maxHeartbeats 4000000 in
theorem fmt_inner (n : Nat) (hn : n ≤ 9223372036854775808) (w : World) (hT : Tb w) : Calls Tryz.prog 77 #[.int .u64 (n : Int), .int .i64 10] w fun e w' => e = .returned (.string (ba (Lib.decDigits n))) ∧ Below w.heap.size w w' := by
  by_cases h1 : n < 100
  · have x1 : (n : Int) < 100 := by omega
    have HS := Lib.hid (Tryz.internal_strconv_small n h1 w)
    go_enter Tryz.func77, Tryz.ntmps77
    go_wp2_with fail
    refine HS.out.mono ?_
    rintro e w1 ⟨rfl, rfl⟩
    go_wp2_with fail
    go_ret
    exact ⟨rfl, Below.refl _ _⟩
  · have x1 : ¬ (n : Int) < 100 := by omega
    have hu1 : 1 ≤ n := by omega
    have hu64 : n < 18446744073709551616 := by omega
    have hnd20 : Lib.nDigits n ≤ 20 := by have := Lib.numDigits_eq n hu1 hu64; split at this <;> omega
    have hal : Tryz.prog.arrayLen 118 = 24 := by kernel_rfl
    have hsl : ∀ W, (Instr.sliceAt 118 (.pointer (some ⟨w.heap.size, 0, none⟩)) none (some (.int .i64 (Lib.nDigits n : Int))) none).run Tryz.prog W = .ok (.slice (some ⟨w.heap.size, 0, none⟩) (Lib.nDigits n) 24) W := fun W => by
      rw [run_sliceAt_array_h W 118 ⟨w.heap.size, 0, none⟩ (by kernel_rfl) .i64 (Lib.nDigits n : Int) (by omega) (by rw [hal]; omega)]
      go_simp
    have hH0 := holds_zero0 w 118 (Lib.nDigits n) (by omega)
    have hfmt := Tryz.internal_strconv_formatBase10 w.heap.size 0 24 n (Array.replicate (Lib.nDigits n) 0) (w.alloc (.cells Lib.zeros24 118 (0, 0))) hH0 (by rw [Array.size_replicate]; exact Lib.lt_pow_nDigits n) hu64 (by rw [Array.size_replicate]; omega)
    rw [Array.size_replicate] at hfmt
    have HH0 := Lib.hid hH0
    have HFm := Lib.hid hfmt
    have HND := Lib.hid (Tryz.internal_strconv_numDigits n hu1 hu64 (w.alloc (.cells Lib.zeros24 118 (0, 0))) (hT.below (below_alloc _ _)).pw)
    clear hH0 hal hfmt hT
    go_enter Tryz.func77, Tryz.ntmps77
    go_wp2_with fail
    refine HND.out.mono ?_
    rintro e w1 ⟨rfl, rfl⟩
    go_wp2_with fail
    refine HFm.out.mono ?_
    rintro e w1 ⟨rfl, k, v', dk, hw1, hF⟩
    have HF := Lib.hid hF
    have HW := Lib.hid (show Below w.heap.size w w1 from by rw [hw1]; exact fin_zero w _ dk k)
    have hcv : (convert 50 9 (.slice (some ⟨w.heap.size, 0, none⟩) (Lib.nDigits n) 24)).run Tryz.prog w1 = .ok (.string (ba (Lib.decDigits n))) w1 := by
      have h := run_convert_bytes_back (P := Tryz.prog) w1 50 9 5 ⟨w.heap.size, 0, none⟩ 24 (Lib.decDigits n) Tryz.underlying50 Tryz.underlying5 Tryz.underlying9 (fun j hj => by
        rw [Lib.row_is_numeral HF.out j hj, Lib.add_plain, hw1, World.cell?_drewN]
        exact cell?_putRow (fun (b : UInt8) => Value.int .u8 (b.toNat : Int)) _ w.heap.size 0 _ dk HH0.out (by rw [HF.out.size, Array.size_replicate]) j (by rw [HF.out.size]; rw [Lib.decDigits_length] at hj; exact hj))
      rw [Lib.decDigits_length] at h
      exact h
    clear hw1 hF
    go_wp2_with fail
    go_ret
    exact ⟨rfl, HW.out⟩
theorem fmt_any (n : Nat) (hn : n ≤ 9223372036854775808) (w : World) (hT : Tb w) : Calls Tryz.prog 66 #[.int .u64 (n : Int), .int .i64 10] w fun e w' => e = .returned (.string (ba (Lib.decDigits n))) ∧ Below w.heap.size w w' := by
  have HI := Lib.hid (fmt_inner n hn w hT)
  clear hT
  go_enter Tryz.func66, Tryz.ntmps66
  go_wp2_with fail
  refine HI.out.mono ?_
  rintro e w1 ⟨rfl, hb⟩
  have HB := Lib.hid hb
  clear hb
  go_wp2_with fail
  go_ret
  exact ⟨rfl, HB.out⟩
end Go.Proofs.YtmcnhggpmlhgeaaGreatDoor
