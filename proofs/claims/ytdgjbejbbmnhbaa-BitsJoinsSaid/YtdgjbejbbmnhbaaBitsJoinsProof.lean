/-
  BitsJoins: for every list of bit strings the law returns true: Join and the reference's Join return the same.
-/
import Derived.Test.YtdgjbejbbmnhbaaBitsCutsProof
import Derived.Test.YtdgjbejbbmnhbaaBitsLawJoins
import Derived.Deep.Slices
namespace Go.Proofs.Ytdgjbejbbmnhbaa
open Go.ChangeShapes Go.WideShapes Go.ChangeAt Go.RowKit Go.Joins
/-- a slice of bit strings among the arguments, opened -/
theorem open_slB {H : Type} {enc : TypeId × Value → H} {w : World} {b0 : Nat} {v : Value} {d : DataW H} {p : List MemPlace} {r : Reach}
    (hv : Value.okWide Try.prog w r b0 22 v) (h : DataW.Trod enc Try.prog w 0 (fun _ => true) true 22 v d p) :
    ∃ bs : List (ByteArray × Int), SlB w v bs ∧ (∀ x ∈ bs, x.1.size ≤ maxLen ∧ i64ok x.2) ∧ bs.length ≤ maxLen := by
  obtain ⟨a0, len0, cap0, rfl⟩ := okWide_slice Try.underlying22 hv
  obtain ⟨fuel, hf⟩ := h
  rcases Deep.open_slice Try.underlying22 hf with ⟨hcs, _⟩ | ⟨a, len, cap, m, n, D, Pl, hcs, _, hl, hm, hmm, _, hx⟩
  · simp [Value.cells] at hcs
    obtain ⟨rfl, rfl, rfl⟩ := hcs
    exact ⟨[], ⟨none, 0, rfl, fun h => absurd rfl h⟩, by simp, by simp⟩
  · simp [Value.cells] at hcs
    obtain ⟨rfl, rfl, rfl⟩ := hcs
    simp only [if_true] at hmm
    have one : ∀ i, i < len0 → ∃ x : ByteArray × Int, (w.cell? ((a.add (i * 2)).add 0) = some (.string x.1) ∧ w.cell? ((a.add (i * 2)).add 1) = some (.int .i64 x.2)) ∧ x.1.size ≤ maxLen ∧ i64ok x.2 := by
      intro i hi
      obtain ⟨cs, h1, h2⟩ := hx i (by omega)
      rw [Try.cells25] at h1
      obtain ⟨y0, y1, k, _, hlen, t0, t1⟩ := trod_struct2 Try.underlying25 h2
      obtain ⟨s, e0, _, hs⟩ := DataW.trod_string Try.underlying9 t0
      obtain ⟨z, e1, _, wz⟩ := DataW.trod_int Try.underlying3 t1
      obtain ⟨_, _, hcl⟩ := World.cells?_some h1
      rw [Try.cells25] at hlen
      match cs, hlen with
      | [c0, c1], _ =>
        have o1 : Try.prog.cellsOf 9 = 1 := by kernel_rfl
        have o2 : Try.prog.cellsOf 3 = 1 := by kernel_rfl
        simp [o1] at e0
        simp [o2] at e1
        subst e0 e1
        exact ⟨(s, z), ⟨hcl 0 (by omega), hcl 1 (by omega)⟩, hs, i64_bounds wz⟩
    obtain ⟨f, hf2⟩ := Deep.choose_lt one
    refine ⟨(List.range len0).map f, ⟨some a, cap0, by simp, fun hne => ?_⟩, ?_, by simp; omega⟩
    · have h0 : 0 < len0 := by
        rcases Nat.eq_zero_or_pos len0 with h | h
        · subst h; simp at hne
        · exact h
      obtain ⟨b, off, spot⟩ := a
      have hspot : spot = none := by
        have := World.cell?_spot (hf2 0 h0).1.1
        simpa [Addr.add] using this
      subst hspot
      refine ⟨b, off, rfl, fun i hi => ?_⟩
      have hi' : i < len0 := by simpa using hi
      have h := (hf2 i hi').1
      rw [add_plain, add_plain, add_plain] at h
      simpa using h
    · intro x hx'
      simp only [List.mem_map, List.mem_range] at hx'
      obtain ⟨i, hi, rfl⟩ := hx'
      exact (hf2 i hi).2
set_option maxRecDepth 100000 in
theorem joins_lifted (os : Os) (started : os.Started) (H : Type) (enc : TypeId × Value → H) :
    ReturnsInHanded {} Try.checked os 3 .any (Rows.bitsJoinsSpec.pre6 enc Try.prog Try.f3 Rows.bitsJoinsRow.domain false) (Rows.bitsJoinsSpec.post enc Try.prog Try.f3 false true false false) := by
  refine returnsInHanded_of_change (C := Try.checked) Try.own started (by kernel_rfl) Try.func3
    (ChangeSpec.witness6 (enc := enc) (C := Try.checked) false ⟨#[], #[.slice none 0 0], []⟩ 8 (by kernel_rfl) (by kernel_rfl) (by kernel_rfl) (by kernel_rfl)) ?_
  intro W base args ds gs before hval0 hW _ _
  have hval : ∀ (j : Nat) t v, Try.f3.params[j]? = some t → args[j]? = some v → Value.okWide Try.prog W .any base t v := hval0
  have hW1 : DataW.Whole enc Try.prog Try.f3.params.toList Rows.bitsJoinsSpec.vars false W args.toList ds gs before := hW
  obtain ⟨p, q, hA0, hV, rfl, _, _⟩ := hW
  have hA : DataW.TrodAll enc Try.prog W 0 (fun _ => true) true Try.f3.params.toList args.toList ds p := hA0
  rw [Try.params3] at hA hval
  obtain ⟨rfl, rfl⟩ := trodVars_none hV
  obtain ⟨v0, d0, rfl, rfl, h0⟩ := trodAll_one hA
  obtain ⟨bs, hsl, hok, hlen⟩ := open_slB (hval 0 22 v0 rfl rfl) h0
  exact (lawJoins v0 bs hok hlen W hsl).mono fun e W' h => yes_post rfl rfl (by kernel_rfl) hW1 rfl rfl rfl h
theorem joins_holds : Rows.BitsJoinsSaid :=
  OpenClaim.holds_of_wide 3 Try.f3 rfl rfl rfl rfl rfl rfl rfl ⟨rfl, rfl, rfl, rfl, rfl⟩ rfl rfl rfl rfl rfl (by kernel_rfl) Try.func3 (by kernel_rfl)
    (of_decide_eq_true (by kernel_rfl)) (by unfold Func.isWrapper; rw [if_neg (of_decide_eq_false (by kernel_rfl))]; exact ⟨rfl, rfl⟩)
    (fun os started H enc _ => joins_lifted os started H enc)
#print axioms joins_holds
end Go.Proofs.Ytdgjbejbbmnhbaa
