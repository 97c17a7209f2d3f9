/-
  Walks: strings.NewReplacer(..).Replace(s), the first use; the text of a token.
-/
import Derived.Test.YtmcnhggpmlhgeaaGreatDoorRpF
import Derived.Test.YtmcnhggpmlhgeaaGreatDoorLxU
namespace Go.Proofs.YtmcnhggpmlhgeaaGreatDoor
open Go.RowKit
theorem repl_any (M : Nat) (s : List UInt8) (w : World) (hs : s.length ≤ 1000000) (hk : PB M 3 w) :
    Calls Tryz.prog 179 #[.pointer (some ⟨M + 1, 0, none⟩), .string (ba s)] w fun e w' => e = .returned (.string (ba (escT s))) ∧ Below w.heap.size w w' := by
  rcases Nat.lt_or_ge s.length 24 with h | h
  · exact repB M s w hs hk h
  · exact repA M s w hs hk h
set_option maxRecDepth 100000 in
set_option maxHeartbeats 4000000 in
theorem Replace_any (g : Nat) (s : List UInt8) (w : World) (hs : s.length ≤ 1000000) (hr : RpF w g) :
    Calls Tryz.prog 68 #[.pointer (some ⟨g + 1, 0, none⟩), .string (ba s)] w fun e w' => e = .returned (.string (ba (escT s))) ∧ Ch (fun b => b = g + 1) w w' := by
  have HD := Lib.hid (Do_any g w hr)
  obtain ⟨cap, hb, -⟩ := hr
  have hlt := lt_of_block hb
  clear hb
  go_enter Tryz.func68, Tryz.ntmps68
  go_wp2_with fail
  refine HD.out.mono ?_
  rintro e w1 ⟨rfl, hk, hc⟩
  have c3 := cells_of hk.1 3
  have HR := Lib.hid (repl_any w.heap.size s w1 hs hk.2.1)
  have HC := Lib.hid hc
  clear hk hc
  go_wp2_with fail
  refine HR.out.mono ?_
  rintro e w2 ⟨rfl, hb2⟩
  have HB2 := Lib.hid hb2
  clear hb2
  go_wp2_with fail
  go_ret
  exact ⟨rfl, Ch.trans (E := fun b => b = g + 1) HC.out (Ch.of_below (C := fun _ => False) HB2.out) (fun i _ h => ⟨h, fun h => h⟩)⟩
end Go.Proofs.YtmcnhggpmlhgeaaGreatDoor
