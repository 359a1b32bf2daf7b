/-
  From the library's sorted rows to owned rows.
-/
import Derived.Test.YtccdjjlbiibjgaaBase
import Derived.Sort.Grow
namespace Go.Proofs.Ytccdjjlbiibjgaa
open Go.RowKit

theorem own_holds {α : Type} [Inhabited α] {enc : α → Value} {w : World} {base : Nat} {e : TypeId} {g n cap : Nat} {d : Array α}
    (h : Own w base e (.slice (some ⟨g, 0, none⟩) n cap) (d.toList.map enc)) : Sort.Holds enc w g 0 d := by
  intro j hj
  refine ⟨?_, by simpa using h.free j⟩
  have := h.cell (j := j) (u := enc d[j]!) (by
    rw [List.getElem?_map, Array.getElem?_toList, Array.getElem?_eq_getElem hj, getElem!_pos d j hj]; rfl)
  simpa using this

theorem own_sorted {α : Type} [Inhabited α] {enc : α → Value} {w : World} {base : Nat} {e : TypeId} {g n cap m : Nat} {d d' : Array α} {os : Array Obj}
    (h : Own w base e (.slice (some ⟨g, 0, none⟩) n cap) (d.toList.map enc)) (hs : d'.size = d.size) :
    Own (Sort.grow (Sort.putRow enc (Sort.ahead w m) g 0 d') os) base e (.slice (some ⟨g, 0, none⟩) n cap) (d'.toList.map enc) ∧
    Kp (· = g) w (Sort.grow (Sort.putRow enc (Sort.ahead w m) g 0 d') os) := by
  obtain ⟨h1, h2⟩ := h
  rcases h2 with ⟨h3, _⟩ | ⟨g', cap', cur, hv, hb, hg, hnc, hcm, hcs, htake⟩
  · cases h3
  · simp only [Value.slice.injEq, Option.some.injEq, Addr.mk.injEq, and_true] at hv
    obtain ⟨rfl, hn, rfl⟩ := hv
    subst hn
    have hlt : g < w.heap.size := (Array.getElem?_eq_some_iff.1 hg).1
    have hheap : ∀ k, k < w.heap.size → (Sort.grow (Sort.putRow enc (Sort.ahead w m) g 0 d') os).heap[k]? = (w.heap.modify g (Sort.onCells (Sort.putCells enc 0 d')))[k]? := by
      intro k hk
      show (w.heap.modify g (Sort.onCells (Sort.putCells enc 0 d')) ++ os)[k]? = _
      rw [Array.getElem?_append_left (by simpa using hk)]
    refine ⟨⟨by simp, .inr ⟨g, cap, Sort.putCells enc 0 d' cur, by simp [hs], hb, ?_, by simpa [hs] using hnc, hcm, by simpa [Sort.putCells] using hcs, ?_⟩⟩, ⟨rfl, rfl, rfl, ?_, ?_⟩⟩
    · rw [hheap g hlt, Array.getElem?_modify, if_pos rfl, hg]
      rfl
    · simp only [List.length_map, Array.length_toList, Nat.mul_one] at htake hnc hcs ⊢
      apply List.ext_getElem?
      intro i
      rw [List.getElem?_take]
      by_cases hi : i < d'.size
      · rw [if_pos hi]
        have hic : i < cur.size := by omega
        rw [Array.getElem?_toList, List.getElem?_map, Array.getElem?_toList, Array.getElem?_eq_getElem hi]
        unfold Sort.putCells
        rw [Array.getElem?_mapIdx, Array.getElem?_eq_getElem hic]
        simp only [Option.map_some]
        rw [if_pos ⟨Nat.zero_le _, by omega⟩, Nat.sub_zero, getElem!_pos d' i hi]
      · rw [if_neg hi, List.getElem?_eq_none (by simpa using hi)]
    · show w.heap.size ≤ (w.heap.modify g _ ++ os).size
      simp
    · intro k hk hne
      rw [hheap k hk, Array.getElem?_modify, if_neg (fun e => hne e.symm)]

end Go.Proofs.Ytccdjjlbiibjgaa
