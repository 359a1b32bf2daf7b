/-
  A map of the call's own, keyed by symbols' kinds and places, that holds truths: which are there.
-/
import Derived.Test.YtojodmfkenfhlaaDoorRows
import Derived.Test.YtojodmfkenfhlaaDoorBase
import Derived.Maps.Views
import Derived.Maps.OwnSet
import Derived.DeepKeys4
namespace Go.Proofs.YtojodmfkenfhlaaDoor
open Go.RowKit
open Go.Maps (Keyed)

def symKey (k n : Nat) : Value := .agg #[.int .u8 (k : Int), .int .i64 (n : Int), .string ⟨#[]⟩]

theorem sym_keyed : Keyed Tryd.prog 100 :=
  Keyed.of_law (deep_law_laid (m := 8) (by kernel_rfl) (by decide) (of_decide_eq_true (by kernel_rfl)) (by kernel_rfl) (by kernel_rfl))

theorem sym_cells : Tryd.prog.cellsOf 100 = 3 := by kernel_rfl
theorem sym_cells0 : Tryd.prog.cellsOf 5 = 1 := by kernel_rfl
theorem sym_cells1 : Tryd.prog.cellsOf 3 = 1 := by kernel_rfl
theorem sym_cells2 : Tryd.prog.cellsOf 9 = 1 := by kernel_rfl
theorem sym_isKey : Tryd.prog.keyType 100 = true := by kernel_rfl

theorem sym_key {k n : Nat} (hk : k < 256) (hn : n < 1000000000) : ∃ l, keyOf Tryd.prog 100 (symKey k n) = some l := by
  have hpos : 0 < Tryd.prog.types.size := of_decide_eq_true (by kernel_rfl)
  obtain ⟨d, hd⟩ : ∃ d, Tryd.prog.types.size = d + 1 := ⟨Tryd.prog.types.size - 1, by omega⟩
  have w1 : (Lit.int .u8 (k : Int)).wf = true := by simp [Lit.wf, IntKind.min, IntKind.max, IntKind.signed, IntKind.bits]; omega
  have w2 : (Lit.int .i64 (n : Int)).wf = true := by simp [Lit.wf, IntKind.min, IntKind.max, IntKind.signed, IntKind.bits]; omega
  have hz : (⟨#[]⟩ : ByteArray).size ≤ maxLen := Nat.zero_le _
  have hl : Tryd.prog.keyLits (d + 1 + 1) 100 [.int .u8 (k : Int), .int .i64 (n : Int), .string ⟨#[]⟩] = some [.int .u8 (k : Int), .int .i64 (n : Int), .string []] := by
    simp [Program.keyLits, Tryd.underlying100, sym_cells, sym_cells0, sym_cells1, sym_cells2, Tryd.underlying5, Tryd.underlying3, Tryd.underlying9, w1, w2, hz]
  have hk : keyOf Tryd.prog 100 (symKey k n) = some (.string (keyBytes [.int .u8 (k : Int), .int .i64 (n : Int), .string []])) := by
    unfold keyOf
    rw [Tryd.underlying100]
    simp only
    rw [sym_isKey, hd]
    rw [show Value.formed Tryd.prog 100 (symKey k n) = true by simp [Value.formed, symKey, Tryd.underlying100, sym_cells]]
    simp only [Bool.and_self, if_true]
    rw [show (symKey k n).cells.toList = [.int .u8 (k : Int), .int .i64 (n : Int), .string ⟨#[]⟩] from rfl, hl]
    rfl
  exact ⟨_, hk⟩

theorem bool_elem {H : Type} {P : Program} {e : TypeId} (he : P.underlying e = some .bool) {v : Value} {x : Bool} {ps : List MemPlace} (h : plainElem (H := H) P e v = some (.lit (.bool x), ps)) : v = .bool x := by
  unfold plainElem at h
  rw [he] at h
  cases v <;> simp at h
  rw [h.1]

theorem zero_bool (w : World) : (zeroValue 4).run Tryd.prog w = .ok (.bool false) w := Tryd.zeroValue4 w

/-- block b is a map in which just those of L are so -/
def Seen (w : World) (b n : Nat) (L : List (Nat × Nat)) : Prop :=
  ∃ D : DataW Unit, w.ownsMap Tryd.prog 100 (plainElem Tryd.prog 4) b n D ∧ Maps.IsMap D ∧
    ∀ k i l, keyOf Tryd.prog 100 (symKey k i) = some l → D.atKey l (.lit (.bool false)) = .lit (.bool (L.contains (k, i)))

theorem Seen.made (w : World) : Seen (w.alloc (.map #[] 0)) w.heap.size 0 [] :=
  ⟨.map [], World.ownsMap_made _ _ _ _, Maps.isMap_empty, fun k i l _ => by simp [DataW.atKey]⟩

theorem Seen.lt {w : World} {b n : Nat} {L : List (Nat × Nat)} (h : Seen w b n L) : b < w.heap.size := by
  obtain ⟨D, h, _⟩ := h
  exact h.lt

theorem Seen.kp {S : Nat → Prop} {w w' : World} {b n : Nat} {L : List (Nat × Nat)} (h : Seen w b n L) (k : Kp S w w') (hS : ¬ S b) : Seen w' b n L := by
  have hb := h.lt
  obtain ⟨D, ⟨es, clock, h1, h2⟩, h3⟩ := h
  exact ⟨D, ⟨es, clock, (k.block b hb hS).trans h1, h2⟩, h3⟩

theorem Seen.look {w : World} {b n : Nat} {L : List (Nat × Nat)} (h : Seen w b n L) {k i : Nat} (hk : k < 256) (hi : i < 1000000000) :
    (Instr.lookup 96 (.map (some b)) (symKey k i) false).run Tryd.prog w = .ok (.bool (L.contains (k, i))) w := by
  obtain ⟨D, h1, _, h2⟩ := h
  obtain ⟨l, hl⟩ := sym_key hk hi
  obtain ⟨v, ps, hr, hv⟩ := h1.lookup sym_keyed Tryd.underlying96 (zero_bool w) (plainElem_bool Tryd.underlying4 false) hl
  rw [h2 k i l hl] at hv
  rw [bool_elem Tryd.underlying4 hv] at hr
  exact hr

theorem Seen.put {w : World} {b n : Nat} {L : List (Nat × Nat)} (h : Seen w b n L) (hn : n < maxLen) {k i : Nat} (hk : k < 256) (hi : i < 1000000000) :
    ∃ w', (Instr.mapUpdate 96 (.map (some b)) (symKey k i) (.bool true)).run Tryd.prog w = .ok () w' ∧ Seen w' b (n + 1) (L ++ [(k, i)]) ∧ Kp (· = b) w w' := by
  obtain ⟨D, h1, hD, h2⟩ := h
  obtain ⟨l, hl⟩ := sym_key hk hi
  obtain ⟨w', hr, h3, hg⟩ := h1.update sym_keyed Tryd.underlying96 hn hl (plainElem_bool Tryd.underlying4 true)
  refine ⟨w', hr, ⟨_, h3, hD.put _ _, fun k' i' l' hl' => ?_⟩, (Kp.refl _ w).grown hg (fun j hj _ => by simpa using hj.symm)⟩
  by_cases e : (k', i') = (k, i)
  · obtain ⟨rfl, rfl⟩ := Prod.mk.inj e
    obtain rfl : l = l' := Option.some.inj (hl.symm.trans hl')
    rw [Maps.atKey_put_same hD (sym_keyed.key hl)]
    simp
  · have hne : l' ≠ l := by
      intro e2
      subst e2
      have := sym_keyed.inj hl' hl
      unfold symKey at this
      simp at this
      exact e (by rw [Prod.mk.injEq]; omega)
    rw [Maps.atKey_put_other hne, h2 k' i' l' hl']
    have : (L ++ [(k, i)]).contains (k', i') = L.contains (k', i') := by
      simp only [List.contains_eq_mem, List.mem_append, List.mem_singleton]
      simp [e]
    rw [this]

end Go.Proofs.YtojodmfkenfhlaaDoor
