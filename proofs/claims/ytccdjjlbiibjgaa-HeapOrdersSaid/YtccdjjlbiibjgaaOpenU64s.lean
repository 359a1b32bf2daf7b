/-
  How a slice of uint64 that came in is opened.
-/
import Derived.Test.YtccdjjlbiibjgaaRows
import Derived.Test.YtccdjjlbiibjgaaHeapOrders
import Derived.ProofKit
namespace Go.Proofs.Ytccdjjlbiibjgaa
open Go.RowKit Go.ChangeShapes Go.WideShapes Go.ChangeAt

theorem open_u64sArg {H : Type} {enc : TypeId × Value → H} {W : World} {base : Nat} {v : Value} {d : DataW H} {ps : List MemPlace}
    (hv : Value.okWide Try.prog W .any base 22 v) (h : DataW.Trod enc Try.prog W 0 (fun _ => true) true 22 v d ps) : U64sArg W v := by
  obtain ⟨a0, len0, cap0, rfl⟩ := okWide_slice Try.underlying22 hv
  obtain ⟨fuel, hf⟩ := h
  rcases open_ints Try.underlying22 Try.underlying30 (by kernel_rfl) hf with ⟨hcs, _⟩ | ⟨a, len, cap, zs, hcs, _, hl, hm, hz, _, hcell, hwz⟩
  · simp [Value.cells] at hcs
    obtain ⟨rfl, rfl, rfl⟩ := hcs
    exact ⟨none, 0, 0, [], rfl, rfl, by omega, by simp [maxLen], RowAt.nil _ _⟩
  · simp [Value.cells] at hcs
    obtain ⟨rfl, rfl, rfl⟩ := hcs
    simp only [if_true] at hz
    refine ⟨some a, len0, cap0, zs.take len0, rfl, by simp; omega, hl, hm, ?_⟩
    · intro j u hu
      rw [List.getElem?_map, List.getElem?_take] at hu
      split at hu
      · rename_i hj
        have h0 := hcell 0 (by omega)
        have hs : a.spot = none := by
          have := World.cell?_spot h0
          simpa [Addr.add] using this
        obtain ⟨b, off, spot⟩ := a
        simp only at hs
        subst hs
        refine ⟨b, off, rfl, ?_⟩
        have hc := hcell j (by omega)
        rw [add_plain'] at hc
        rw [hc]
        rw [List.getElem?_eq_getElem (by omega)] at hu
        simp only [Option.map_some] at hu
        rw [← hu]
        simp [List.getD, List.getElem?_eq_getElem (show j < zs.length by omega)]
      · simp at hu

end Go.Proofs.Ytccdjjlbiibjgaa
