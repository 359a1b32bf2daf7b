/-
  RandPlays: how its list of asks reads.
-/
import Derived.Test.YtmfhbjfphohfkaaRows
import Derived.Test.YtmfhbjfphohfkaaBase
import Derived.ProofKit
import Derived.Deep.SlicePairs
namespace Go.Proofs.Ytmfhbjfphohfkaa
open Go.RowKit Go.ChangeShapes Go.WideShapes Go.ChangeAt

def I64 (n : Int) : Prop := -9223372036854775808 ≤ n ∧ n ≤ 9223372036854775807

theorem i64_of_wf {n : Int} (h : (Lit.int .i64 n).wf = true) : I64 n := by
  simp [Lit.wf, IntKind.min, IntKind.max, IntKind.signed, IntKind.bits] at h
  exact ⟨by omega, by omega⟩

/-- a slice of pairs of ints -/
def PairsAt (w : World) (v : Value) : Prop :=
  ∃ (a : Option Addr) (len cap : Nat) (ks ns : Nat → Int), v = .slice a len cap ∧ len ≤ cap ∧ cap ≤ maxLen ∧
    ∀ i, i < len → ∃ b off, a = some ⟨b, off, none⟩ ∧ w.cell? ⟨b, off + i * 2, none⟩ = some (.int .i64 (ks i)) ∧ w.cell? ⟨b, off + i * 2 + 1, none⟩ = some (.int .i64 (ns i)) ∧ I64 (ks i) ∧ I64 (ns i)

theorem add_plain {a : Addr} (h : a.spot = none) (n : Nat) : a.add n = ⟨a.block, a.off + n, none⟩ := by
  obtain ⟨b, off, spot⟩ := a
  simp at h
  subst h
  unfold Addr.add
  split <;> simp_all

theorem spot_of_first {w : World} {a : Addr} {v : Value} (h : w.cell? (a.add 0) = some v) : a.spot = none := by
  have := World.cell?_spot h
  simpa [Addr.add] using this

theorem open_asks {H : Type} {enc : TypeId × Value → H} {W : World} {base : Nat} {v : Value} {d : DataW H} {ps : List MemPlace}
    (hv : Value.okWide Try.prog W .any base 32 v) (h : DataW.Trod enc Try.prog W 0 (fun _ => true) true 32 v d ps) : PairsAt W v := by
  obtain ⟨a0, len0, cap0, rfl⟩ := okWide_slice Try.underlying32 hv
  obtain ⟨fuel, hf⟩ := h
  rcases Deep.open_slice_pairs Try.underlying32 Try.underlying36 (by kernel_rfl) rfl rfl (by kernel_rfl) (by kernel_rfl) hf with ⟨hcs, _⟩ | ⟨a, len, cap, m, n, V0, V1, D0, D1, P0, P1, hcs, _, hl, hm, hmm, _, hx⟩
  · simp [Value.cells] at hcs
    obtain ⟨rfl, rfl, rfl⟩ := hcs
    exact ⟨none, 0, 0, fun _ => 0, fun _ => 0, rfl, by omega, by simp [maxLen], fun i hi => by omega⟩
  · simp [Value.cells] at hcs
    obtain ⟨rfl, rfl, rfl⟩ := hcs
    simp at hmm
    subst hmm
    refine ⟨_, _, _, fun i => intOf (V0 i), fun i => intOf (V1 i), rfl, hl, hm, fun i hi => ?_⟩
    obtain ⟨h0, h1, t0, t1⟩ := hx i (by omega)
    obtain ⟨x0, e0, _, w0⟩ := DataW.trod_int Try.underlying3 t0
    obtain ⟨x1, e1, _, w1⟩ := DataW.trod_int Try.underlying3 t1
    simp at e0 e1
    have hs : a.spot = none := spot_of_first (by simpa using (hx 0 (by omega)).1)
    obtain ⟨b, off, spot⟩ := a
    simp at hs
    subst hs
    rw [add_plain rfl] at h0 h1
    refine ⟨b, off, rfl, ?_, ?_, ?_, ?_⟩
    all_goals dsimp only
    · rw [e0] at h0 ⊢; exact h0
    · rw [e1] at h1 ⊢; exact h1
    · rw [e0]; exact i64_of_wf w0
    · rw [e1]; exact i64_of_wf w1

end Go.Proofs.Ytmfhbjfphohfkaa
