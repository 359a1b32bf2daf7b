/-
  How a slice of lines that came in is opened.
-/
import Derived.Test.YtcpgbgbhfkpehaaDoorRows
import Derived.Test.YtcpgbgbhfkpehaaDoorDerivWrites
import Derived.ProofKit
import Derived.Deep.SlicePairs
import Derived.Lib.SmallJoins
namespace Go.Proofs.YtcpgbgbhfkpehaaDoor
open Go.RowKit Go.ChangeShapes Go.WideShapes Go.ChangeAt Go.Joins Go.Deep

/-- a row of ints among the cells of what came in -/
theorem ints_in {H : Type} {enc : TypeId × Value → H} {W : World} {fuel : Nat} {v : Value} {x : DataW H × List MemPlace}
    (h : DataW.trod enc Tryd.prog W 0 (fun _ => true) true fuel 57 [v] = some x) : ∃ c : List Int, IntsSl W v c := by
  rcases open_ints Tryd.underlying57 Tryd.underlying3 (by kernel_rfl) h with ⟨hcs, _⟩ | ⟨a, len, cap, zs, hcs, _, hl, hm, hz, _, hcell, hwz⟩
  · simp at hcs
    subst hcs
    exact ⟨[], none, 0, rfl, Nat.le_refl _, by simp [maxLen], fun _ => rfl, RowAt.nil _ _⟩
  · simp at hcs
    subst hcs
    simp only [if_true] at hz
    refine ⟨zs.take len, some a, cap, ?_, ?_, hm, (fun h => by cases h), ?_⟩
    · rw [List.length_take, hz]; congr 1; omega
    · rw [List.length_take, hz]; omega
    · intro j u hu
      rw [List.getElem?_map, List.getElem?_take] at hu
      split at hu
      · rename_i hj
        have h0 := hcell 0 (by omega)
        have hs : a.spot = none := by
          have := World.cell?_spot h0
          simpa [Addr.add] using this
        obtain ⟨b, off, spot⟩ := a
        simp only at hs
        subst hs
        refine ⟨b, off, rfl, ?_⟩
        have hc := hcell j (by omega)
        rw [add_plain'] at hc
        rw [hc]
        rw [List.getElem?_eq_getElem (by omega)] at hu
        simp only [Option.map_some] at hu
        rw [← hu]
        simp [List.getD, List.getElem?_eq_getElem (show j < zs.length by omega)]
      · simp at hu

set_option maxRecDepth 100000 in
theorem open_lnsArg {H : Type} {enc : TypeId × Value → H} {W : World} {base : Nat} {v : Value} {d : DataW H} {ps : List MemPlace}
    (hv : Value.okWide Tryd.prog W .any base 73 v) (h : DataW.Trod enc Tryd.prog W 0 (fun _ => true) true 73 v d ps) : LnsArg W v := by
  obtain ⟨a0, len0, cap0, rfl⟩ := okWide_slice Tryd.underlying73 hv
  obtain ⟨fuel, hf⟩ := h
  rcases open_slice_pairs Tryd.underlying73 Tryd.underlying86 (by kernel_rfl) (by kernel_rfl) (by kernel_rfl) (by kernel_rfl) (by kernel_rfl) hf with ⟨hcs, _⟩ | ⟨a, len, cap, m, n, V0, V1, D0, D1, P0, P1, hcs, _, hl, hm, hmm, _, hx⟩
  · simp [Value.cells] at hcs
    obtain ⟨rfl, rfl, rfl⟩ := hcs
    exact ⟨[], none, 0, rfl, Nat.le_refl _, by simp [maxLen], fun _ => rfl, [], RowAt.nil _ _, rfl, fun k r x hr => by simp at hr⟩
  · simp [Value.cells] at hcs
    obtain ⟨rfl, rfl, rfl⟩ := hcs
    simp only [if_true] at hmm
    subst hmm
    have hb : ∀ i, i < len0 → ∃ f, V0 i = .bool f := by
      intro i hi
      obtain ⟨f, e, _⟩ := DataW.trod_bool Tryd.underlying4 (hx i (by omega)).2.2.1
      simp at e
      exact ⟨f, e⟩
    have hi : ∀ i, i < len0 → ∃ c, IntsSl W (V1 i) c := fun i hi => ints_in (hx i (by omega)).2.2.2
    obtain ⟨F, hF⟩ := choose_lt hb
    obtain ⟨C, hC⟩ := choose_lt hi
    refine ⟨(List.range len0).map (fun i => (F i, C i)), some a, m, by simp, by simpa using hl, hm, (fun h => by cases h), (List.range len0).map (fun i => (F i, V1 i)), ?_, by simp, ?_⟩
    · intro j u hu
      have hlen : ((lrows ((List.range len0).map (fun i => (F i, V1 i)))).flatten).length = len0 * 2 := by
        rw [flat_length (lrows_len _)]; simp [lrows]
      have hj : j < len0 * 2 := by rw [← hlen]; exact (List.getElem?_eq_some_iff.1 hu).1
      have hr : (lrows ((List.range len0).map (fun i => (F i, V1 i))))[j / 2]? = some [.bool (F (j / 2)), V1 (j / 2)] := by
        have : j / 2 < len0 := by omega
        simp [lrows, this]
      obtain ⟨q0, q1, _, _⟩ := hx (j / 2) (by omega)
      have hs : a.spot = none := by
        have := World.cell?_spot (hx 0 (by omega)).1
        simpa [Addr.add] using this
      obtain ⟨b, off, spot⟩ := a
      simp only at hs
      subst hs
      refine ⟨b, off, rfl, ?_⟩
      rw [add_plain'] at q0 q1
      by_cases hp : j % 2 = 0
      · have h0 := flat_at (lrows_len _) hr (i := 0) rfl
        rw [show j / 2 * 2 + 0 = j by omega, hu] at h0
        rw [show off + j = off + j / 2 * 2 by omega, q0, hF (j / 2) (by omega)]
        simpa using h0.symm
      · have h0 := flat_at (lrows_len _) hr (i := 1) rfl
        rw [show j / 2 * 2 + 1 = j by omega, hu] at h0
        rw [show off + j = off + (j / 2 * 2 + 1) by omega, q1]
        simpa using h0.symm
    · intro k r x hr hx2
      rw [List.getElem?_map] at hr hx2
      have hk : k < len0 := by
        rcases Nat.lt_or_ge k len0 with h | h
        · exact h
        · rw [List.getElem?_eq_none (by simpa using h)] at hr; cases hr
      rw [List.getElem?_range hk] at hr hx2
      simp only [Option.map_some, Option.some.injEq] at hr hx2
      subst hr hx2
      exact ⟨rfl, hC k hk⟩

end Go.Proofs.YtcpgbgbhfkpehaaDoor
