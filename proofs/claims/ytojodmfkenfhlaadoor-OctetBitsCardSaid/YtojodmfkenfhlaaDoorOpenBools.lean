/-
  How a slice of bools that came in is opened.
-/
import Derived.Test.YtojodmfkenfhlaaDoorRows
import Derived.Test.YtojodmfkenfhlaaDoorBase
import Derived.ProofKit
import Derived.Deep.Grids
namespace Go.Proofs.YtojodmfkenfhlaaDoor
open Go.RowKit Go.ChangeShapes Go.WideShapes Go.ChangeAt Go.Deep

/-- a slice of bools that came in -/
def BoolsArg (w : World) (v : Value) : Prop :=
  ∃ (a : Option Addr) (len cap : Nat) (l : List Bool), v = .slice a len cap ∧ l.length = len ∧ len ≤ cap ∧ cap ≤ maxLen ∧ (a = none → cap = 0) ∧ RowAt w a (l.map Value.bool)

set_option maxRecDepth 100000 in
theorem open_boolsArg {H : Type} {enc : TypeId × Value → H} {W : World} {base : Nat} {v : Value} {d : DataW H} {ps : List MemPlace}
    (hv : Value.okWide Tryd.prog W .any base 37 v) (h : DataW.Trod enc Tryd.prog W 0 (fun _ => true) true 37 v d ps) : BoolsArg W v := by
  obtain ⟨a0, len0, cap0, rfl⟩ := okWide_slice Tryd.underlying37 hv
  obtain ⟨fuel, hf⟩ := h
  rcases open_bools Tryd.underlying37 Tryd.underlying4 (by kernel_rfl) hf with ⟨hcs, _⟩ | ⟨a, len, cap, B, hcs, _, hl, hm, _, hcell⟩
  · simp [Value.cells] at hcs
    obtain ⟨rfl, rfl, rfl⟩ := hcs
    exact ⟨none, 0, 0, [], rfl, rfl, by omega, by simp [maxLen], fun _ => rfl, RowAt.nil _ _⟩
  · simp [Value.cells] at hcs
    obtain ⟨rfl, rfl, rfl⟩ := hcs
    refine ⟨some a, len0, cap0, (List.range len0).map B, rfl, by simp, hl, hm, (fun h => by cases h), ?_⟩
    intro j u hu
    rw [List.getElem?_map, List.getElem?_map] at hu
    have hj : j < len0 := by
      rcases Nat.lt_or_ge j len0 with h | h
      · exact h
      · rw [List.getElem?_eq_none (by simpa using h)] at hu; cases hu
    rw [List.getElem?_range hj] at hu
    simp only [Option.map_some, Option.some.injEq] at hu
    have h0 := hcell 0 (by omega)
    have hs : a.spot = none := by
      have := World.cell?_spot h0
      simpa [Addr.add] using this
    obtain ⟨b, off, spot⟩ := a
    simp only at hs
    subst hs
    refine ⟨b, off, rfl, ?_⟩
    have hc := hcell j (by omega)
    rw [add_plain'] at hc
    rw [hc, hu]

end Go.Proofs.YtojodmfkenfhlaaDoor
