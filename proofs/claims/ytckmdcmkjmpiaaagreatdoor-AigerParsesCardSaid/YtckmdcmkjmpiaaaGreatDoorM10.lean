/-
  What is read of a small file is small; what Read leaves, in one form.
-/
import Derived.Test.YtckmdcmkjmpiaaaGreatDoorM9
import Derived.Test.YtckmdcmkjmpiaaaGreatDoorM1
import Derived.MapKept
import Derived.Laws.EntriesVeiled
import Derived.Test.YtckmdcmkjmpiaaaGreatDoorM3
import Derived.Test.YtckmdcmkjmpiaaaGreatDoorRows
import Derived.Deep.QuietTactic
import Derived.BigQuiet
import Derived.Laws.StructEq
import Derived.WalkSmall
set_option linter.unusedVariables false
set_option linter.unusedSimpArgs false
namespace Go.Proofs.YtckmdcmkjmpiaaaGreatDoor
open Go.RowKit

theorem rdA_few {s : ByteArray} {M : Int} {nI nL nO nA nB nC p : Nat} (hs : s.size ≤ 100000) (hp : p ≤ s.size) (h : (rdA s M nI nL nO nA nB nC (p, 0)).2.2 = 0) : CFewI (rdA s M nI nL nO nA nB nC (p, 0)).1 ∧ (rdA s M nI nL nO nA nB nC (p, 0)).2.1 ≤ s.size := by
  obtain ⟨I, q1, e1, hI⟩ : ∃ I q e, rdLits s (2 * M + 1) nI [] (p, 0) = (I, (q, e)) := ⟨_, _, _, rfl⟩
  obtain ⟨L, q2, e2, hL⟩ : ∃ L q e, rdLatsA s (2 * M + 1) nL [] (q1, e1) = (L, (q, e)) := ⟨_, _, _, rfl⟩
  obtain ⟨O, q3, e3, hO⟩ : ∃ I q e, rdLits s (2 * M + 1) nO [] (q2, e2) = (I, (q, e)) := ⟨_, _, _, rfl⟩
  obtain ⟨D, q4, e4, hD⟩ : ∃ I q e, rdLits s (2 * M + 1) nB [] (q3, e3) = (I, (q, e)) := ⟨_, _, _, rfl⟩
  obtain ⟨N, q5, e5, hN⟩ : ∃ I q e, rdLits s (2 * M + 1) nC [] (q4, e4) = (I, (q, e)) := ⟨_, _, _, rfl⟩
  obtain ⟨G, q6, e6, hG⟩ : ∃ L q e, rdGatesA s (2 * M + 1) nA [] (q5, e5) = (L, (q, e)) := ⟨_, _, _, rfl⟩
  have hr := rdA_fin hI hL hO hD hN hG
  rw [hr] at h ⊢
  have z6 : e6 = 0 := h
  subst z6
  have z5 : e5 = 0 := by
    by_cases h0 : e5 = 0
    · exact h0
    · have := rdGatesA_stay (s := s) (top := 2 * M + 1) (m := nA) (L := []) (st := (q5, e5)) h0
      rw [hG] at this
      exact (congrArg (·.2) this).symm
  subst z5
  have zl : ∀ {m : Nat} {a b c d : Nat} {T : List Int}, rdLits s (2 * M + 1) m [] (a, b) = (T, (c, d)) → d = 0 → b = 0 := by
    intro m a b c d T hT hd
    by_cases h0 : b = 0
    · exact h0
    · have := rdLits_stay (s := s) (top := 2 * M + 1) (m := m) (L := []) (st := (a, b)) h0
      rw [hT] at this
      have : d = b := congrArg (·.2) this
      omega
  have z4 := zl hN rfl
  subst z4
  have z3 := zl hD rfl
  subst z3
  have z2 := zl hO rfl
  subst z2
  have z1 : e1 = 0 := by
    by_cases h0 : e1 = 0
    · exact h0
    · have := rdLatsA_stay (s := s) (top := 2 * M + 1) (m := nL) (L := []) (st := (q1, e1)) h0
      rw [hL] at this
      exact (congrArg (·.2) this).symm
  subst z1
  have b1 : q1 ≤ s.size := by have := rdLits_le (s := s) (top := 2 * M + 1) (m := nI) (L := []) (st := (p, 0)) hp; rw [hI] at this; exact this
  have b2 : q2 ≤ s.size := by have := rdLatsA_le (s := s) (top := 2 * M + 1) (m := nL) (L := []) (st := (q1, 0)) b1; rw [hL] at this; exact this
  have b3 : q3 ≤ s.size := by have := rdLits_le (s := s) (top := 2 * M + 1) (m := nO) (L := []) (st := (q2, 0)) b2; rw [hO] at this; exact this
  have b4 : q4 ≤ s.size := by have := rdLits_le (s := s) (top := 2 * M + 1) (m := nB) (L := []) (st := (q3, 0)) b3; rw [hD] at this; exact this
  have b5 : q5 ≤ s.size := by have := rdLits_le (s := s) (top := 2 * M + 1) (m := nC) (L := []) (st := (q4, 0)) b4; rw [hN] at this; exact this
  have b6 : q6 ≤ s.size := by have := rdGatesA_le (s := s) (top := 2 * M + 1) (m := nA) (L := []) (st := (q5, 0)) b5; rw [hG] at this; exact this
  have k1 := rdLits_room (s := s) (top := 2 * M + 1) nI [] (p, 0) hp (by rw [hI])
  have k2 := rdLatsA_room (s := s) (top := 2 * M + 1) nL [] (q1, 0) b1 (by rw [hL])
  have k3 := rdLits_room (s := s) (top := 2 * M + 1) nO [] (q2, 0) b2 (by rw [hO])
  have k4 := rdLits_room (s := s) (top := 2 * M + 1) nB [] (q3, 0) b3 (by rw [hD])
  have k5 := rdLits_room (s := s) (top := 2 * M + 1) nC [] (q4, 0) b4 (by rw [hN])
  have k6 := rdGatesA_room (s := s) (top := 2 * M + 1) nA [] (q5, 0) b5 (by rw [hG])
  have l1 := rdLits_len (s := s) (top := 2 * M + 1) (m := nI) (L := []) (st := (p, 0)) (by rw [hI])
  have l2 := rdLatsA_len (s := s) (top := 2 * M + 1) (m := nL) (L := []) (st := (q1, 0)) (by rw [hL])
  have l3 := rdLits_len (s := s) (top := 2 * M + 1) (m := nO) (L := []) (st := (q2, 0)) (by rw [hO])
  have l4 := rdLits_len (s := s) (top := 2 * M + 1) (m := nB) (L := []) (st := (q3, 0)) (by rw [hD])
  have l5 := rdLits_len (s := s) (top := 2 * M + 1) (m := nC) (L := []) (st := (q4, 0)) (by rw [hN])
  have l6 := rdGatesA_len (s := s) (top := 2 * M + 1) nA (L := []) (st := (q5, 0)) (by rw [hG])
  rw [hI] at k1 l1
  rw [hL] at k2 l2
  rw [hO] at k3 l3
  rw [hD] at k4 l4
  rw [hN] at k5 l5
  rw [hG] at k6 l6
  simp only [List.length_nil, Nat.zero_add] at *
  exact ⟨⟨by simp only; omega, by simp only; omega, by simp only; omega, by simp only; omega, by simp only; omega, by simp only; omega⟩, b6⟩

theorem rdC_few {s : ByteArray} {M : Int} {nI nL nO nA nB nC p : Nat} (hs : s.size ≤ 100000) (hp : p ≤ s.size) (hi : nI ≤ 16777216) (h : (rdC s M nI nL nO nA nB nC (p, 0)).2.2 = 0) : CFewI (rdC s M nI nL nO nA nB nC (p, 0)).1 ∧ (rdC s M nI nL nO nA nB nC (p, 0)).2.1 ≤ s.size := by
  obtain ⟨L, q2, e2, hL⟩ : ∃ L q e, rdLatsP s (2 * M + 1) nI nL 0 [] (p, 0) = (L, (q, e)) := ⟨_, _, _, rfl⟩
  obtain ⟨O, q3, e3, hO⟩ : ∃ I q e, rdLits s (2 * M + 1) nO [] (q2, e2) = (I, (q, e)) := ⟨_, _, _, rfl⟩
  obtain ⟨D, q4, e4, hD⟩ : ∃ I q e, rdLits s (2 * M + 1) nB [] (q3, e3) = (I, (q, e)) := ⟨_, _, _, rfl⟩
  obtain ⟨N, q5, e5, hN⟩ : ∃ I q e, rdLits s (2 * M + 1) nC [] (q4, e4) = (I, (q, e)) := ⟨_, _, _, rfl⟩
  obtain ⟨G, q6, e6, hG⟩ : ∃ L q e, rdGatesP s (nI + nL) nA 0 [] (q5, e5) = (L, (q, e)) := ⟨_, _, _, rfl⟩
  have hr := rdC_end hL hO hD hN hG
  rw [hr] at h ⊢
  have z6 : e6 = 0 := h
  subst z6
  have z5 : e5 = 0 := by
    by_cases h0 : e5 = 0
    · exact h0
    · have := rdGatesP_stay (s := s) (I := nI + nL) (m := nA) (k := 0) (L := []) (st := (q5, e5)) h0
      rw [hG] at this
      exact (congrArg (·.2) this).symm
  subst z5
  have zl : ∀ {m : Nat} {a b c d : Nat} {T : List Int}, rdLits s (2 * M + 1) m [] (a, b) = (T, (c, d)) → d = 0 → b = 0 := by
    intro m a b c d T hT hd
    by_cases h0 : b = 0
    · exact h0
    · have := rdLits_stay (s := s) (top := 2 * M + 1) (m := m) (L := []) (st := (a, b)) h0
      rw [hT] at this
      have : d = b := congrArg (·.2) this
      omega
  have z4 := zl hN rfl
  subst z4
  have z3 := zl hD rfl
  subst z3
  have z2 := zl hO rfl
  subst z2
  have k2 := rdLatsP_room (s := s) (top := 2 * M + 1) (I := nI) nL 0 [] (p, 0) hp (by rw [hL])
  rw [hL] at k2
  have b2 : q2 ≤ s.size := k2.2.1
  have b3 : q3 ≤ s.size := by have := rdLits_le (s := s) (top := 2 * M + 1) (m := nO) (L := []) (st := (q2, 0)) b2; rw [hO] at this; exact this
  have b4 : q4 ≤ s.size := by have := rdLits_le (s := s) (top := 2 * M + 1) (m := nB) (L := []) (st := (q3, 0)) b3; rw [hD] at this; exact this
  have b5 : q5 ≤ s.size := by have := rdLits_le (s := s) (top := 2 * M + 1) (m := nC) (L := []) (st := (q4, 0)) b4; rw [hN] at this; exact this
  have k6 := rdGatesP_room (s := s) (I := nI + nL) nA 0 [] (q5, 0) b5 (by rw [hG])
  rw [hG] at k6
  have k3 := rdLits_room (s := s) (top := 2 * M + 1) nO [] (q2, 0) b2 (by rw [hO])
  have k4 := rdLits_room (s := s) (top := 2 * M + 1) nB [] (q3, 0) b3 (by rw [hD])
  have k5 := rdLits_room (s := s) (top := 2 * M + 1) nC [] (q4, 0) b4 (by rw [hN])
  have l3 := rdLits_len (s := s) (top := 2 * M + 1) (m := nO) (L := []) (st := (q2, 0)) (by rw [hO])
  have l4 := rdLits_len (s := s) (top := 2 * M + 1) (m := nB) (L := []) (st := (q3, 0)) (by rw [hD])
  have l5 := rdLits_len (s := s) (top := 2 * M + 1) (m := nC) (L := []) (st := (q4, 0)) (by rw [hN])
  rw [hO] at k3 l3
  rw [hD] at k4 l4
  rw [hN] at k5 l5
  have li : (insP nI).length = nI := by simp [insP]
  simp only [List.length_nil, Nat.zero_add] at *
  exact ⟨⟨by simp only; omega, by simp only; omega, by simp only; omega, by simp only; omega, by simp only; omega, by simp only; omega⟩, k6.2.1⟩

theorem rdP_few {s : ByteArray} (hs : s.size ≤ 100000) (hh : (headT s).2.2.2 = 0) (h : (rdP s (headT s)).2.2 = 0) : CFewI (rdP s (headT s)).1 ∧ (rdP s (headT s)).2.1 ≤ s.size := by
  obtain ⟨h1, h2⟩ := headT_small hh
  unfold rdP at h ⊢
  split at h
  · rename_i hb
    rw [if_pos hb]
    exact rdC_few hs h2 (h1 1) h
  · rename_i hb
    rw [if_neg hb]
    exact rdA_few hs h2 h

/-- what Read leaves, in one form -/
def ReadQ (r : Circ × Nat × Nat) (w : World) (e : Ending) (w' : World) : Prop :=
  ∃ V' C', e = .returned (.tuple #[.agg (cvals V' C'), .int .i64 (r.2.1 : Nat), .int .i64 (r.2.2 : Nat)]) ∧ Kp (fun _ => False) w w' ∧ (r.2.2 = 0 → C' = r.1 ∧ BKeep w.heap.size w' V' C')
theorem BinReadP.q {r : Circ × Nat × Nat} {w w' : World} {e : Ending} (h : BinReadP r w e w') : ReadQ r w e w' := by
  obtain ⟨h, hk⟩ := h
  rcases h with ⟨h0, rfl⟩ | ⟨h0, V', rfl, hC, -⟩
  · exact ⟨⟨none, 0, none, 0, none, 0, none, 0, none, 0, none, 0, none, 0, 0, ⟨#[]⟩⟩, ⟨0, [], [], [], [], [], []⟩, rfl, hk, fun h => absurd h h0⟩
  · exact ⟨V', r.1, by rw [h0]; rfl, hk, fun _ => ⟨rfl, hC⟩⟩

/-- what Parse leaves -/
def PrsP (s : ByteArray) (w : World) (o : Ending) (w' : World) : Prop :=
  Kp (fun _ => False) w w' ∧ match prsT s with
    | .bad a e => o = .returned (.tuple #[.agg zc9, .int .i64 a, .int .i64 e])
    | .ok C l c a => ∃ V', o = .returned (.tuple #[.agg (cvals V' C), .int .i64 (a : Nat), .int .i64 0]) ∧ CAt w' V' C ∧ RowAt w' V'.ay (l.map symCells).flatten ∧ V'.ny = l.length ∧ V'.cm = c
theorem prsT_few {s : ByteArray} (hs : s.size ≤ 100000 ∨ 1048576 < s.size) {C : Circ} {l : List Sym} {c : ByteArray} {a : Nat} (h : prsT s = .ok C l c a) : CFewI C := by
  unfold prsT at h
  split at h
  · cases h
  · rename_i h0
    split at h
    · cases h
    · rename_i h1
      split at h
      · cases h
      · rename_i h2
        split at h
        · cases h
        · split at h
          · cases h
          · injection h with h3
            rw [← h3]
            exact (rdP_few (by omega) (by simpa using h1) (by simpa using h2)).1

section
variable {s : ByteArray}
theorem prsT_big (h : 1048576 < s.size) : prsT s = .bad 0 4 := by unfold prsT; rw [if_pos h]
theorem prsT_head (h0 : ¬ 1048576 < s.size) {b : Bool} {L : List Nat} {p e : Nat} (hh : headT s = (b, L, p, e)) (he : e ≠ 0) : prsT s = .bad (p : Nat) (e : Nat) := by
  unfold prsT
  rw [if_neg h0, hh]
  simp only
  rw [if_pos he]
theorem prsT_read (h0 : ¬ 1048576 < s.size) {b : Bool} {L : List Nat} {p : Nat} (hh : headT s = (b, L, p, 0)) {C : Circ} {q e : Nat} (hr : rdP s (b, L, p, 0) = (C, q, e)) (he : e ≠ 0) : prsT s = .bad (q : Nat) (e : Nat) := by
  unfold prsT
  rw [if_neg h0, hh]
  simp only
  rw [if_neg (by simp), hr]
  simp only
  rw [if_pos he]
theorem prsT_tail (h0 : ¬ 1048576 < s.size) {b : Bool} {L : List Nat} {p : Nat} (hh : headT s = (b, L, p, 0)) {C : Circ} {q : Nat} (hr : rdP s (b, L, p, 0) = (C, q, 0)) {l : List Sym} {c : ByteArray} {a e : Nat} (ht : readT (hdP (b, L, p, 0)) s (q : Nat) = ⟨l, c, a, e⟩) (he : e ≠ 0) : prsT s = .bad (a : Nat) (e : Nat) := by
  unfold prsT
  rw [if_neg h0, hh]
  simp only
  rw [if_neg (by simp), hr]
  simp only
  rw [if_neg (by simp), ht]
  simp only
  rw [if_pos he]
theorem prsT_check (h0 : ¬ 1048576 < s.size) {b : Bool} {L : List Nat} {p : Nat} (hh : headT s = (b, L, p, 0)) {C : Circ} {q : Nat} (hr : rdP s (b, L, p, 0) = (C, q, 0)) {l : List Sym} {c : ByteArray} {a : Nat} (ht : readT (hdP (b, L, p, 0)) s (q : Nat) = ⟨l, c, a, 0⟩) (he : ckCode C ≠ 0) : prsT s = .bad 0 (ckCode C) := by
  unfold prsT
  rw [if_neg h0, hh]
  simp only
  rw [if_neg (by simp), hr]
  simp only
  rw [if_neg (by simp), ht]
  simp only
  rw [if_neg (by simp), if_pos he]
theorem prsT_fine (h0 : ¬ 1048576 < s.size) {b : Bool} {L : List Nat} {p : Nat} (hh : headT s = (b, L, p, 0)) {C : Circ} {q : Nat} (hr : rdP s (b, L, p, 0) = (C, q, 0)) {l : List Sym} {c : ByteArray} {a : Nat} (ht : readT (hdP (b, L, p, 0)) s (q : Nat) = ⟨l, c, a, 0⟩) (he : ckCode C = 0) : prsT s = .ok C l c a := by
  unfold prsT
  rw [if_neg h0, hh]
  simp only
  rw [if_neg (by simp), hr]
  simp only
  rw [if_neg (by simp), ht]
  simp only
  rw [if_neg (by simp), if_neg (by simpa using he)]
end

/-- a circuit whose symbols and comment are put in -/
theorem CAt.tail {u : World} {V : CV} {C : Circ} (g : CAt u V C) {a : Option Addr} {n c : Nat} {m : ByteArray} {l : List Sym} (hr : RowAt u a (l.map symCells).flatten) (hn : n = l.length) (hf : SlOK a n c) :
    CAt u ⟨V.ai, V.ci, V.al, V.cl, V.ao, V.co, V.ab, V.cb, V.ac, V.cc, V.ag, V.cg, a, n, c, m⟩ C := by
  exact ⟨g.i, g.l, g.o, g.b, g.c, g.g, ⟨l.map symCells, hr, by simp [hn], fun r hr => by obtain ⟨x, -, rfl⟩ := List.mem_map.1 hr; rfl, fun r hr u hu => by
    obtain ⟨x, -, rfl⟩ := List.mem_map.1 hr
    simp [symCells] at hu
    rcases hu with rfl | rfl | rfl <;> rfl⟩, g.fi, g.fl, g.fo, g.fb, g.fc, g.fg, hf⟩
/-- a circuit whose lists neither two blocks nor what comes later spoil -/
def Keep2 (bc r : Nat) (wx : World) (V : CV) (C : Circ) : Prop := ∀ (S : Nat → Prop) (w' : World), (∀ j, S j → j = bc ∨ j = r ∨ wx.heap.size ≤ j) → Kp S wx w' → CAt w' V C
theorem BKeep.two {B bc r : Nat} {u wx : World} {V : CV} {C : Circ} {T : Nat → Prop} (h : BKeep B u V C) (k : Kp T u wx) (hT : ∀ j, T j → j < B ∨ u.heap.size ≤ j) (hb : bc < B ∨ u.heap.size ≤ bc) (hr : r < B) : Keep2 bc r wx V C := by
  intro S w' hS k2
  refine h (fun j => T j ∨ S j) w' (fun j e => e.elim (hT j) (fun e => ?_)) ((k.mono (fun _ _ h => .inl h)).trans k2 (fun _ _ h => .inr h))
  have := k.size
  rcases hS j e with rfl | rfl | h
  · exact hb
  · exact .inl hr
  · exact .inr (by omega)
theorem own_row {w : World} {B : Nat} {t : TypeId} {v : Value} {l : List Sym} (h : OwnK w B t 3 v (l.map symCells)) : ∃ a c, v = .slice a l.length c ∧ SlOK a l.length c ∧ (∀ p, a = some p → B ≤ p.block) ∧ RowAt w a (l.map symCells).flatten := by
  obtain ⟨a, c, e, h1, h2, h3, h4, h5⟩ := h.form
  rw [List.length_map] at e h1
  exact ⟨a, c, e, ⟨h1, h2, h3⟩, fun p hp => by obtain ⟨g, rfl, hg, -⟩ := h4 p hp; exact hg, h5⟩

end Go.Proofs.YtckmdcmkjmpiaaaGreatDoor

/-
  A map with few entries of one-word keys: what it holds, how it is put and looked up. No program in sight.
-/
namespace Go.Proofs.YtckmdcmkjmpiaaaGreatDoor
open Go.RowKit

/-- block b of w is a map with just these entries -/
def MapB (w : World) (b : Nat) (es : Array MapEntry) (c : Nat) : Prop := w.heap[b]? = some (.map es c)

theorem MapB.new (w : World) : MapB (w.alloc (.map #[] 0)) w.heap.size #[] 0 := heap_alloc_new w _

theorem MapB.lt {w : World} {b c : Nat} {es : Array MapEntry} (h : MapB w b es c) : b < w.heap.size := (Array.getElem?_eq_some_iff.1 h).1

theorem MapB.kp {S : Nat → Prop} {w w' : World} {b c : Nat} {es : Array MapEntry} (h : MapB w b es c) (k : Kp S w w') (hS : ¬ S b) : MapB w' b es c := (k.block b h.lt hS).trans h

theorem MapB.put {P : Program} {w : World} {b c : Nat} {es : Array MapEntry} (h : MapB w b es c) {mt kt et : TypeId} {d : TypeDesc} {key : Value} (val : Value) (hm : P.underlying mt = some (.map kt et)) (hk : P.underlying kt = some d)
    (hi : MapKept.IsKey d key) (hf : Instr.findNow d key es.toList 0 = some none) :
    ∃ w', (Instr.mapUpdate mt (.map (some b)) key val).run P w = .ok () w' ∧ MapB w' b (es.push { key := key, val := val, born := c }) (c + 1) ∧ Kp (· = b) w w' ∧ w'.heap.size = w.heap.size := by
  have hc : (Instr.checkKey false 10000 kt key).run P w = .ok () w := MapKept.run_checkKey hk hi false 9999
  refine ⟨{ w with heap := w.heap.setIfInBounds b (.map (es.push { key := key, val := val, born := c }) (c + 1)) }, ?_, ?_, ⟨rfl, rfl, rfl, by simp, fun k hk hS => ?_⟩, by simp⟩
  · simp [Instr.mapUpdate, run_underlying hm, MapKept.run_getObj_map h, hc, MapKept.run_findKey hk hf, MapKept.run_setObj_map _ h, Result.andThen]
  · exact (MapKept.heap_set h).1
  · exact (MapKept.heap_set h).2 k hS

theorem MapB.look {P : Program} {w : World} {b c : Nat} {es : Array MapEntry} (h : MapB w b es c) {mt kt et : TypeId} {d : TypeDesc} {key v : Value} {i : Nat} (hm : P.underlying mt = some (.map kt et)) (hk : P.underlying kt = some d)
    (hi : MapKept.IsKey d key) (hf : Instr.findNow d key es.toList 0 = some (some (i, v))) : (Instr.lookup mt (.map (some b)) key false).run P w = .ok v w := by
  have hc : ∀ em, (Instr.checkKey em 10000 kt key).run P w = .ok () w := fun em => MapKept.run_checkKey hk hi em 9999
  simp [Instr.lookup, run_underlying hm, MapKept.run_getObj_map h, hc, MapKept.run_findKey hk hf, Result.andThen]

end Go.Proofs.YtckmdcmkjmpiaaaGreatDoor

/-
  aiger.Parse of any text. (Printed by mkaprs.py.)
-/
namespace Go.Proofs.YtckmdcmkjmpiaaaGreatDoor
open Go.RowKit

def readersMap : Array MapEntry := #[{ key := .bool false, val := .func (Fn.func 33) #[] #[], born := 0 }, { key := .bool true, val := .func (Fn.func 34) #[] #[], born := 1 }]

theorem aiger_readers (w : World) :
    Calls Tryz.prog 14 #[] w fun e w' => ∃ b, e = .returned (.map (some b)) ∧ MapB w' b readersMap 2 ∧ Kp (fun _ => False) w w' := by
  have hmm := @run_makeMap Tryz.prog
  obtain ⟨w1, hp1, hM1, hK1, hs1⟩ := (MapB.new w).put (P := Tryz.prog) (key := .bool false) (.func (Fn.func 33) #[] #[]) Tryz.underlying46 Tryz.underlying4 trivial rfl
  obtain ⟨w2, hp2, hM2, hK2, hs2⟩ := hM1.put (P := Tryz.prog) (key := .bool true) (.func (Fn.func 34) #[] #[]) Tryz.underlying46 Tryz.underlying4 trivial rfl
  have HM := Lib.hid hM2
  have HK := Lib.hid (show Kp (fun _ => False) w w2 from (((Kp.refl (fun _ => False) w).alloc (.map #[] 0)).trans hK1 (fun i hi h => by omega)).trans hK2 (fun i hi h => by omega))
  clear hM1 hM2 hK1 hK2 hs1 hs2
  go_enter Tryz.func14, Tryz.ntmps14
  go_wp2_with fail
  go_ret
  exact ⟨_, rfl, HM.out, HK.out⟩

theorem readers_false {u : World} {b : Nat} (h : MapB u b readersMap 2) : (Instr.lookup 46 (.map (some b)) (.bool false) false).run Tryz.prog u = .ok (.func (Fn.func 33) #[] #[]) u :=
  h.look (i := 0) (d := .bool) Tryz.underlying46 Tryz.underlying4 trivial rfl
theorem readers_true {u : World} {b : Nat} (h : MapB u b readersMap 2) : (Instr.lookup 46 (.map (some b)) (.bool true) false).run Tryz.prog u = .ok (.func (Fn.func 34) #[] #[]) u :=
  h.look (i := 1) (d := .bool) Tryz.underlying46 Tryz.underlying4 trivial rfl

section
variable {w u wx : World} {bh bc B : Nat} {b : Bool} {M nI nL nO nA nB nC e2 : Nat} {V' : CV} {C' C2 : Circ}
theorem prs_drew (h : Blk wx bc (cvals V' C') 27 ∧ Blk wx bh #[.bool b, .int .i64 (M : Nat), .int .i64 (nI : Nat), .int .i64 (nL : Nat), .int .i64 (nO : Nat), .int .i64 (nA : Nat), .int .i64 (nB : Nat), .int .i64 (nC : Nat)] 42 ∧ Blk wx w.heap.size zc9 27 ∧ Blk wx (w.heap.size + 1) zc9 27 ∧ Kp (fun _ => False) w wx ∧ w.heap.size + 1 < bc ∧ (e2 = 0 → C' = C2 ∧ Keep2 bc w.heap.size wx V' C2)) : Blk wx.drew bc (cvals V' C') 27 ∧ Blk wx.drew bh #[.bool b, .int .i64 (M : Nat), .int .i64 (nI : Nat), .int .i64 (nL : Nat), .int .i64 (nO : Nat), .int .i64 (nA : Nat), .int .i64 (nB : Nat), .int .i64 (nC : Nat)] 42 ∧ Blk wx.drew w.heap.size zc9 27 ∧ Blk wx.drew (w.heap.size + 1) zc9 27 ∧ Kp (fun _ => False) w wx.drew ∧ w.heap.size + 1 < bc ∧ (e2 = 0 → C' = C2 ∧ Keep2 bc w.heap.size wx.drew V' C2) := by
  obtain ⟨h1, h2, h3, h4, h5, h6, h7⟩ := h
  exact ⟨h1.drew, h2.drew, h3.drew, h4.drew, h5.drew, h6, fun h0 => ⟨(h7 h0).1, fun S w' hS k => (h7 h0).2 S w' hS (((Kp.refl (fun _ => False) wx).drew.mono (fun _ _ h => h.elim)).trans k (fun _ _ h => h))⟩⟩
theorem prs_new (hH : Blk u bh #[.bool b, .int .i64 (M : Nat), .int .i64 (nI : Nat), .int .i64 (nL : Nat), .int .i64 (nO : Nat), .int .i64 (nA : Nat), .int .i64 (nB : Nat), .int .i64 (nC : Nat)] 42) (hR : Blk u w.heap.size zc9 27) (hN : Blk u (w.heap.size + 1) zc9 27) (hK : Kp (fun _ => False) w u) (hb : e2 = 0 → C' = C2 ∧ BKeep B u V' C2) (hB : w.heap.size < B) (hl : w.heap.size + 1 < u.heap.size) :
    Blk (u.alloc (.cells #[.int .i64 C'.max, .slice V'.ai C'.ins.length V'.ci, .slice V'.al C'.lats.length V'.cl, .slice V'.ao C'.outs.length V'.co, .slice V'.ab C'.bads.length V'.cb, .slice V'.ac C'.cons.length V'.cc, .slice V'.ag C'.gates.length V'.cg, .slice V'.ay V'.ny V'.cy, .string V'.cm] 27)) u.heap.size (cvals V' C') 27 ∧ Blk (u.alloc (.cells #[.int .i64 C'.max, .slice V'.ai C'.ins.length V'.ci, .slice V'.al C'.lats.length V'.cl, .slice V'.ao C'.outs.length V'.co, .slice V'.ab C'.bads.length V'.cb, .slice V'.ac C'.cons.length V'.cc, .slice V'.ag C'.gates.length V'.cg, .slice V'.ay V'.ny V'.cy, .string V'.cm] 27)) bh #[.bool b, .int .i64 (M : Nat), .int .i64 (nI : Nat), .int .i64 (nL : Nat), .int .i64 (nO : Nat), .int .i64 (nA : Nat), .int .i64 (nB : Nat), .int .i64 (nC : Nat)] 42 ∧ Blk (u.alloc (.cells #[.int .i64 C'.max, .slice V'.ai C'.ins.length V'.ci, .slice V'.al C'.lats.length V'.cl, .slice V'.ao C'.outs.length V'.co, .slice V'.ab C'.bads.length V'.cb, .slice V'.ac C'.cons.length V'.cc, .slice V'.ag C'.gates.length V'.cg, .slice V'.ay V'.ny V'.cy, .string V'.cm] 27)) w.heap.size zc9 27 ∧ Blk (u.alloc (.cells #[.int .i64 C'.max, .slice V'.ai C'.ins.length V'.ci, .slice V'.al C'.lats.length V'.cl, .slice V'.ao C'.outs.length V'.co, .slice V'.ab C'.bads.length V'.cb, .slice V'.ac C'.cons.length V'.cc, .slice V'.ag C'.gates.length V'.cg, .slice V'.ay V'.ny V'.cy, .string V'.cm] 27)) (w.heap.size + 1) zc9 27 ∧ Kp (fun _ => False) w (u.alloc (.cells #[.int .i64 C'.max, .slice V'.ai C'.ins.length V'.ci, .slice V'.al C'.lats.length V'.cl, .slice V'.ao C'.outs.length V'.co, .slice V'.ab C'.bads.length V'.cb, .slice V'.ac C'.cons.length V'.cc, .slice V'.ag C'.gates.length V'.cg, .slice V'.ay V'.ny V'.cy, .string V'.cm] 27)) ∧ w.heap.size + 1 < u.heap.size ∧ (e2 = 0 → C' = C2 ∧ Keep2 u.heap.size w.heap.size (u.alloc (.cells #[.int .i64 C'.max, .slice V'.ai C'.ins.length V'.ci, .slice V'.al C'.lats.length V'.cl, .slice V'.ao C'.outs.length V'.co, .slice V'.ab C'.bads.length V'.cb, .slice V'.ac C'.cons.length V'.cc, .slice V'.ag C'.gates.length V'.cg, .slice V'.ay V'.ny V'.cy, .string V'.cm] 27)) V' C2) :=
  ⟨Blk.new u _ _, hH.alloc _, hR.alloc _, hN.alloc _, hK.alloc _, hl, fun h0 => ⟨(hb h0).1, (hb h0).2.two (T := fun _ => False) ((Kp.refl _ u).alloc _) (fun _ h => h.elim) (.inr (Nat.le_refl _)) hB⟩⟩
theorem prs_set (hC : Blk u bc #[.int .i64 0, .slice none 0 0, .slice none 0 0, .slice none 0 0, .slice none 0 0, .slice none 0 0, .slice none 0 0, .slice none 0 0, .string ⟨#[]⟩] 27) (hH : Blk u bh #[.bool b, .int .i64 (M : Nat), .int .i64 (nI : Nat), .int .i64 (nL : Nat), .int .i64 (nO : Nat), .int .i64 (nA : Nat), .int .i64 (nB : Nat), .int .i64 (nC : Nat)] 42) (hR : Blk u w.heap.size zc9 27) (hN : Blk u (w.heap.size + 1) zc9 27) (hK : Kp (fun _ => False) w u) (hb : e2 = 0 → C' = C2 ∧ BKeep B u V' C2) (hB : w.heap.size < B) (hl : w.heap.size + 1 < bc) (hbh : bh ≠ bc) (hbB : bc < B) :
    Blk (Go.Proofs.YtckmdcmkjmpiaaaGreatDoor.set9 u bc (.int .i64 C'.max) (.slice V'.ai C'.ins.length V'.ci) (.slice V'.al C'.lats.length V'.cl) (.slice V'.ao C'.outs.length V'.co) (.slice V'.ab C'.bads.length V'.cb) (.slice V'.ac C'.cons.length V'.cc) (.slice V'.ag C'.gates.length V'.cg) (.slice V'.ay V'.ny V'.cy) (.string V'.cm)) bc (cvals V' C') 27 ∧ Blk (Go.Proofs.YtckmdcmkjmpiaaaGreatDoor.set9 u bc (.int .i64 C'.max) (.slice V'.ai C'.ins.length V'.ci) (.slice V'.al C'.lats.length V'.cl) (.slice V'.ao C'.outs.length V'.co) (.slice V'.ab C'.bads.length V'.cb) (.slice V'.ac C'.cons.length V'.cc) (.slice V'.ag C'.gates.length V'.cg) (.slice V'.ay V'.ny V'.cy) (.string V'.cm)) bh #[.bool b, .int .i64 (M : Nat), .int .i64 (nI : Nat), .int .i64 (nL : Nat), .int .i64 (nO : Nat), .int .i64 (nA : Nat), .int .i64 (nB : Nat), .int .i64 (nC : Nat)] 42 ∧ Blk (Go.Proofs.YtckmdcmkjmpiaaaGreatDoor.set9 u bc (.int .i64 C'.max) (.slice V'.ai C'.ins.length V'.ci) (.slice V'.al C'.lats.length V'.cl) (.slice V'.ao C'.outs.length V'.co) (.slice V'.ab C'.bads.length V'.cb) (.slice V'.ac C'.cons.length V'.cc) (.slice V'.ag C'.gates.length V'.cg) (.slice V'.ay V'.ny V'.cy) (.string V'.cm)) w.heap.size zc9 27 ∧ Blk (Go.Proofs.YtckmdcmkjmpiaaaGreatDoor.set9 u bc (.int .i64 C'.max) (.slice V'.ai C'.ins.length V'.ci) (.slice V'.al C'.lats.length V'.cl) (.slice V'.ao C'.outs.length V'.co) (.slice V'.ab C'.bads.length V'.cb) (.slice V'.ac C'.cons.length V'.cc) (.slice V'.ag C'.gates.length V'.cg) (.slice V'.ay V'.ny V'.cy) (.string V'.cm)) (w.heap.size + 1) zc9 27 ∧ Kp (fun _ => False) w (Go.Proofs.YtckmdcmkjmpiaaaGreatDoor.set9 u bc (.int .i64 C'.max) (.slice V'.ai C'.ins.length V'.ci) (.slice V'.al C'.lats.length V'.cl) (.slice V'.ao C'.outs.length V'.co) (.slice V'.ab C'.bads.length V'.cb) (.slice V'.ac C'.cons.length V'.cc) (.slice V'.ag C'.gates.length V'.cg) (.slice V'.ay V'.ny V'.cy) (.string V'.cm)) ∧ w.heap.size + 1 < bc ∧ (e2 = 0 → C' = C2 ∧ Keep2 bc w.heap.size (Go.Proofs.YtckmdcmkjmpiaaaGreatDoor.set9 u bc (.int .i64 C'.max) (.slice V'.ai C'.ins.length V'.ci) (.slice V'.al C'.lats.length V'.cl) (.slice V'.ao C'.outs.length V'.co) (.slice V'.ab C'.bads.length V'.cb) (.slice V'.ac C'.cons.length V'.cc) (.slice V'.ag C'.gates.length V'.cg) (.slice V'.ay V'.ny V'.cy) (.string V'.cm)) V' C2) := by
  have k := Kp.set9 u bc (.int .i64 C'.max) (.slice V'.ai C'.ins.length V'.ci) (.slice V'.al C'.lats.length V'.cl) (.slice V'.ao C'.outs.length V'.co) (.slice V'.ab C'.bads.length V'.cb) (.slice V'.ac C'.cons.length V'.cc) (.slice V'.ag C'.gates.length V'.cg) (.slice V'.ay V'.ny V'.cy) (.string V'.cm)
  exact ⟨hC.set9 (.int .i64 C'.max) (.slice V'.ai C'.ins.length V'.ci) (.slice V'.al C'.lats.length V'.cl) (.slice V'.ao C'.outs.length V'.co) (.slice V'.ab C'.bads.length V'.cb) (.slice V'.ac C'.cons.length V'.cc) (.slice V'.ag C'.gates.length V'.cg) (.slice V'.ay V'.ny V'.cy) (.string V'.cm), hH.kp k hbh, hR.kp k (by omega), hN.kp k (by omega), hK.trans k (fun j hj e => by omega), hl, fun h0 => ⟨(hb h0).1, (hb h0).2.two k (fun j e => .inl (by omega)) (.inl hbB) hB⟩⟩
end

set_option maxRecDepth 100000 in
set_option maxHeartbeats 16000000 in
theorem aiger_Prs (s : ByteArray) (w : World) (hs : s.size ≤ 100000 ∨ 1048576 < s.size) :
    Calls Tryz.prog 5 #[.string s] w (PrsP s w) := by
  obtain ⟨wz, hwz⟩ : ∃ wz : World, wz = (w.alloc (.cells #[.int .i64 0, .slice none 0 0, .slice none 0 0, .slice none 0 0, .slice none 0 0, .slice none 0 0, .slice none 0 0, .slice none 0 0, .string ⟨#[]⟩] 27)).alloc (.cells #[.int .i64 0, .slice none 0 0, .slice none 0 0, .slice none 0 0, .slice none 0 0, .slice none 0 0, .slice none 0 0, .slice none 0 0, .string ⟨#[]⟩] 27) := ⟨_, rfl⟩
  have HB := Lib.hid (ref_four w zc9 zc9 27 27)
  rw [show (w.alloc (.cells zc9 27)).alloc (.cells zc9 27) = wz from hwz.symm] at HB
  have HZ := Lib.hid hwz
  have HR1 := Lib.hid HB.out.1
  have HN1 := Lib.hid HB.out.2.1
  have HK1 := Lib.hid HB.out.2.2.1
  have HW := Lib.hid HB.out.2.2.2
  clear hwz HB
  by_cases hbig : 1048576 < s.size
  · have HP := Lib.hid (prsT_big hbig)
    have d1 : decide ((1048576 : Int) < (s.size : Int)) = true := by simp; omega
    clear hbig hs
    go_enter Tryz.func5, Tryz.ntmps5
    go_upto_region 2 with fail
    rw [show (w.alloc (.cells #[.int .i64 0, .slice none 0 0, .slice none 0 0, .slice none 0 0, .slice none 0 0, .slice none 0 0, .slice none 0 0, .slice none 0 0, .string ⟨#[]⟩] 27)).alloc (.cells #[.int .i64 0, .slice none 0 0, .slice none 0 0, .slice none 0 0, .slice none 0 0, .slice none 0 0, .slice none 0 0, .slice none 0 0, .string ⟨#[]⟩] 27) = wz from HZ.out.symm]
    have hz : Blk wz w.heap.size #[.int .i64 0, .slice none 0 0, .slice none 0 0, .slice none 0 0, .slice none 0 0, .slice none 0 0, .slice none 0 0, .slice none 0 0, .string ⟨#[]⟩] 27 := HR1.out
    have hn : Blk wz (w.heap.size + 1) #[.int .i64 0, .slice none 0 0, .slice none 0 0, .slice none 0 0, .slice none 0 0, .slice none 0 0, .slice none 0 0, .slice none 0 0, .string ⟨#[]⟩] 27 := HN1.out
    obtain ⟨z0, z1, z2, z3, z4, z5, z6, z7, z8⟩ := hz.cells9
    obtain ⟨x0, x1, x2, x3, x4, x5, x6, x7, x8⟩ := hn.cells9
    have fr := hz.free
    have fr0 := fr 0
    have fr1 := fr 1
    have fr2 := fr 2
    have fr3 := fr 3
    have fr4 := fr 4
    have fr5 := fr 5
    have fr6 := fr 6
    have fr7 := fr 7
    have fr8 := fr 8
    have HBe := Lib.hid (hz.set9 (.int .i64 0) (.slice none 0 0) (.slice none 0 0) (.slice none 0 0) (.slice none 0 0) (.slice none 0 0) (.slice none 0 0) (.slice none 0 0) (.string ⟨#[]⟩))
    have HKe := Lib.hid (Kp.set9 wz w.heap.size (.int .i64 0) (.slice none 0 0) (.slice none 0 0) (.slice none 0 0) (.slice none 0 0) (.slice none 0 0) (.slice none 0 0) (.slice none 0 0) (.string ⟨#[]⟩))
    unfold Go.Proofs.YtckmdcmkjmpiaaaGreatDoor.set9 at HBe HKe
    clear fr hz hn
    go_wp2_with fail
    obtain ⟨s0, s1, s2, s3, s4, s5, s6, s7, s8⟩ := HBe.out.cells9
    exact bodyPost_ret (v := .tuple #[.agg zc9, .int .i64 0, .int .i64 4]) (by simp [results, Tryz.results5, go_sem, s0, s1, s2, s3, s4, s5, s6, s7, s8, zc9]) rfl ⟨HK1.out.trans HKe.out (fun j hj e => by omega), by simp only [HP.out]⟩
  have hsz : s.size ≤ 100000 := by omega
  have d1 : decide ((1048576 : Int) < (s.size : Int)) = false := by simp; omega
  obtain ⟨b, Lh, p0, e0, hh⟩ : ∃ b L p e, headT s = (b, L, p, e) := ⟨_, _, _, _, rfl⟩
  obtain ⟨M, hM⟩ : ∃ x, nth Lh 0 = x := ⟨_, rfl⟩
  obtain ⟨nI, hI⟩ : ∃ x, nth Lh 1 = x := ⟨_, rfl⟩
  obtain ⟨nL, hL⟩ : ∃ x, nth Lh 2 = x := ⟨_, rfl⟩
  obtain ⟨nO, hO⟩ : ∃ x, nth Lh 3 = x := ⟨_, rfl⟩
  obtain ⟨nA, hA⟩ : ∃ x, nth Lh 4 = x := ⟨_, rfl⟩
  obtain ⟨nB, hBd⟩ : ∃ x, nth Lh 5 = x := ⟨_, rfl⟩
  obtain ⟨nC, hC⟩ : ∃ x, nth Lh 6 = x := ⟨_, rfl⟩
  have HRH := Lib.hid (fun u : World => show Calls Tryz.prog 13 #[.string s] u (fun o u' => o = .returned (.tuple #[.agg (hdA b M nI nL nO nA nB nC), .int .i64 (p0 : Nat), .int .i64 (e0 : Nat)]) ∧ Kp (fun _ => False) u u') from by
    refine (ascii_ReadHead rdKA s u (by omega)).mono ?_
    rintro o u' ⟨rfl, hk⟩
    refine ⟨?_, hk⟩
    rw [hh, ← hM, ← hI, ← hL, ← hO, ← hA, ← hBd, ← hC]
    rfl)
  have HBig := Lib.hid hbig
  have HS := Lib.hid hsz
  have HH := Lib.hid hh
  have HNt := Lib.hid (And.intro hM (And.intro hI (And.intro hL (And.intro hO (And.intro hA (And.intro hBd hC))))))
  clear hbig hs hsz hh hM hI hL hO hA hBd hC
  unfold hdA at HRH
  go_enter Tryz.func5, Tryz.ntmps5
  go_upto_region 2 with fail
  rw [show (w.alloc (.cells #[.int .i64 0, .slice none 0 0, .slice none 0 0, .slice none 0 0, .slice none 0 0, .slice none 0 0, .slice none 0 0, .slice none 0 0, .string ⟨#[]⟩] 27)).alloc (.cells #[.int .i64 0, .slice none 0 0, .slice none 0 0, .slice none 0 0, .slice none 0 0, .slice none 0 0, .slice none 0 0, .slice none 0 0, .string ⟨#[]⟩] 27) = wz from HZ.out.symm]
  clear HZ
  go_wp2_with fail
  refine (HRH.out _).mono ?_
  rintro o w1 ⟨rfl, hK1⟩
  obtain ⟨wh, hwh⟩ : ∃ wh : World, wh = w1.alloc (.cells #[.bool b, .int .i64 (M : Nat), .int .i64 (nI : Nat), .int .i64 (nL : Nat), .int .i64 (nO : Nat), .int .i64 (nA : Nat), .int .i64 (nB : Nat), .int .i64 (nC : Nat)] 42) := ⟨_, rfl⟩
  have hka : Kp (fun _ => False) wz wh := by rw [hwh]; exact hK1.alloc _
  have HKh := Lib.hid (HK1.out.trans hka (fun _ _ h => h))
  have HRh := Lib.hid (HR1.out.kp hka (fun h => h))
  have HNh := Lib.hid (HN1.out.kp hka (fun h => h))
  obtain ⟨bh, hbh⟩ : ∃ bh, w1.heap.size = bh := ⟨_, rfl⟩
  have HHh := Lib.hid (show Blk wh bh #[.bool b, .int .i64 (M : Nat), .int .i64 (nI : Nat), .int .i64 (nL : Nat), .int .i64 (nO : Nat), .int .i64 (nA : Nat), .int .i64 (nB : Nat), .int .i64 (nC : Nat)] 42 by rw [hwh, ← hbh]; exact Blk.new w1 _ _)
  have HLw := Lib.hid (show w.heap.size + 1 < bh by rw [← hbh]; have := hK1.size; have := HW.out; omega)
  clear hka hK1 HR1 HN1 HK1 HRH d1
  go_upto_region 5 with fail
  rw [← hwh]
  clear hwh hbh
  by_cases he0 : e0 = 0
  rotate_left
  · have q0 : ((e0 : Int) != 0) = true := by simp; omega
    have HP := Lib.hid (prsT_head HBig.out HH.out he0)
    clear he0
    have hz : Blk wh w.heap.size #[.int .i64 0, .slice none 0 0, .slice none 0 0, .slice none 0 0, .slice none 0 0, .slice none 0 0, .slice none 0 0, .slice none 0 0, .string ⟨#[]⟩] 27 := HRh.out
    have hn : Blk wh (w.heap.size + 1) #[.int .i64 0, .slice none 0 0, .slice none 0 0, .slice none 0 0, .slice none 0 0, .slice none 0 0, .slice none 0 0, .slice none 0 0, .string ⟨#[]⟩] 27 := HNh.out
    obtain ⟨z0, z1, z2, z3, z4, z5, z6, z7, z8⟩ := hz.cells9
    obtain ⟨x0, x1, x2, x3, x4, x5, x6, x7, x8⟩ := hn.cells9
    have fr := hz.free
    have fr0 := fr 0
    have fr1 := fr 1
    have fr2 := fr 2
    have fr3 := fr 3
    have fr4 := fr 4
    have fr5 := fr 5
    have fr6 := fr 6
    have fr7 := fr 7
    have fr8 := fr 8
    have HBe := Lib.hid (hz.set9 (.int .i64 0) (.slice none 0 0) (.slice none 0 0) (.slice none 0 0) (.slice none 0 0) (.slice none 0 0) (.slice none 0 0) (.slice none 0 0) (.string ⟨#[]⟩))
    have HKe := Lib.hid (Kp.set9 wh w.heap.size (.int .i64 0) (.slice none 0 0) (.slice none 0 0) (.slice none 0 0) (.slice none 0 0) (.slice none 0 0) (.slice none 0 0) (.slice none 0 0) (.string ⟨#[]⟩))
    unfold Go.Proofs.YtckmdcmkjmpiaaaGreatDoor.set9 at HBe HKe
    clear fr hz hn
    go_wp2_with fail
    obtain ⟨s0, s1, s2, s3, s4, s5, s6, s7, s8⟩ := HBe.out.cells9
    exact bodyPost_ret (v := .tuple #[.agg zc9, .int .i64 (p0 : Nat), .int .i64 (e0 : Nat)]) (by simp [results, Tryz.results5, go_sem, s0, s1, s2, s3, s4, s5, s6, s7, s8, zc9]) rfl ⟨HKh.out.trans HKe.out (fun j hj e => by omega), by simp only [HP.out]⟩
  subst he0
  have hsm := headT_small (s := s) (by rw [HH.out])
  rw [HH.out] at hsm
  obtain ⟨hbnd, hp0⟩ := hsm
  simp only at hbnd hp0
  have HBn := Lib.hid (show M ≤ 16777216 ∧ nI ≤ 16777216 ∧ nL ≤ 16777216 ∧ nO ≤ 16777216 ∧ nA ≤ 16777216 ∧ nB ≤ 16777216 ∧ nC ≤ 16777216 from ⟨HNt.out.1 ▸ hbnd 0, HNt.out.2.1 ▸ hbnd 1, HNt.out.2.2.1 ▸ hbnd 2, HNt.out.2.2.2.1 ▸ hbnd 3, HNt.out.2.2.2.2.1 ▸ hbnd 4, HNt.out.2.2.2.2.2.1 ▸ hbnd 5, HNt.out.2.2.2.2.2.2 ▸ hbnd 6⟩)
  have HP0 := Lib.hid hp0
  clear hbnd hp0
  obtain ⟨C2, p2, e2, h2⟩ : ∃ C q e, rdP s (b, Lh, p0, 0) = (C, q, e) := ⟨_, _, _, rfl⟩
  have hrd : (if b = true then rdC s (M : Int) nI nL nO nA nB nC (p0, 0) else rdA s (M : Int) nI nL nO nA nB nC (p0, 0)) = (C2, p2, e2) := by
    rw [← h2, ← HNt.out.1, ← HNt.out.2.1, ← HNt.out.2.2.1, ← HNt.out.2.2.2.1, ← HNt.out.2.2.2.2.1, ← HNt.out.2.2.2.2.2.1, ← HNt.out.2.2.2.2.2.2]
    rfl
  have H2 := Lib.hid h2
  have HRd := Lib.hid hrd
  clear h2 hrd
  go_upto_region 7 with fail
  go_cut [7, 8, 9] from 26 to 37 (fun s7 s8 s9 wx => ∃ V2 C9 bc, s7 = .int .i64 (p2 : Nat) ∧ s8 = .int .i64 (e2 : Nat) ∧ s9 = .pointer (some ⟨bc, 0, none⟩) ∧ Blk wx bc (cvals V2 C9) 27 ∧ Blk wx bh #[.bool b, .int .i64 (M : Nat), .int .i64 (nI : Nat), .int .i64 (nL : Nat), .int .i64 (nO : Nat), .int .i64 (nA : Nat), .int .i64 (nB : Nat), .int .i64 (nC : Nat)] 42 ∧ Blk wx w.heap.size zc9 27 ∧ Blk wx (w.heap.size + 1) zc9 27 ∧ Kp (fun _ => False) w wx ∧ w.heap.size + 1 < bc ∧ (e2 = 0 → C9 = C2 ∧ Keep2 bc w.heap.size wx V2 C2))
  case first =>
    cases b with
    | false =>
      have hr : rdA s (M : Int) nI nL nO nA nB nC (p0, 0) = (C2, p2, e2) := by have := HRd.out; rwa [if_neg (by simp)] at this
      have HRX := Lib.hid (fun u : World => show Calls Tryz.prog 33 #[.string s, .int .i64 (p0 : Nat), .agg #[.bool false, .int .i64 (M : Nat), .int .i64 (nI : Nat), .int .i64 (nL : Nat), .int .i64 (nO : Nat), .int .i64 (nA : Nat), .int .i64 (nB : Nat), .int .i64 (nC : Nat)]] u (fun o u' => ∃ V' C', o = .returned (.tuple #[.agg #[.int .i64 C'.max, .slice V'.ai C'.ins.length V'.ci, .slice V'.al C'.lats.length V'.cl, .slice V'.ao C'.outs.length V'.co, .slice V'.ab C'.bads.length V'.cb, .slice V'.ac C'.cons.length V'.cc, .slice V'.ag C'.gates.length V'.cg, .slice V'.ay V'.ny V'.cy, .string V'.cm], .int .i64 (p2 : Nat), .int .i64 (e2 : Nat)]) ∧ Kp (fun _ => False) u u' ∧ (e2 = 0 → C' = C2 ∧ BKeep u.heap.size u' V' C2)) from (asc_Read s p0 false M nI nL nO nA nB nC u (by have := HS.out; omega) HP0.out HBn.out.1 HBn.out.2.1 HBn.out.2.2.1 HBn.out.2.2.2.1 HBn.out.2.2.2.2.1 HBn.out.2.2.2.2.2.1 HBn.out.2.2.2.2.2.2).mono (fun e u' h => by
        rw [hr] at h
        obtain ⟨V', C', h1, h2, h3⟩ := BinReadP.q h
        exact ⟨V', C', h1, h2, fun h0 => by
          obtain ⟨h4, h5⟩ := h3 h0
          have h6 : C' = C2 := h4
          subst h6
          exact ⟨rfl, h5⟩⟩))
      clear hr
      have HHf := Lib.hid (fun u (hK : Kp (fun _ => False) wh u) => HHh.out.kp hK (fun h => h))
      have HRf := Lib.hid (fun u (hK : Kp (fun _ => False) wh u) => HRh.out.kp hK (fun h => h))
      have HNf := Lib.hid (fun u (hK : Kp (fun _ => False) wh u) => HNh.out.kp hK (fun h => h))
      go_region_held3 (fun u => u.cell? ⟨bh, 0, none⟩ = some (.bool false) ∧ u.cell? ⟨bh, 1, none⟩ = some (.int .i64 (M : Nat)) ∧ u.cell? ⟨bh, 2, none⟩ = some (.int .i64 (nI : Nat)) ∧ u.cell? ⟨bh, 3, none⟩ = some (.int .i64 (nL : Nat)) ∧ u.cell? ⟨bh, 4, none⟩ = some (.int .i64 (nO : Nat)) ∧ u.cell? ⟨bh, 5, none⟩ = some (.int .i64 (nA : Nat)) ∧ u.cell? ⟨bh, 6, none⟩ = some (.int .i64 (nB : Nat)) ∧ u.cell? ⟨bh, 7, none⟩ = some (.int .i64 (nC : Nat))) (exact (HHf.out _ (by repeat (first | (with_reducible exact Kp.refl _ _) | (with_reducible exact HKa.out) | (with_reducible exact HKb.out) | (with_reducible apply Kp.alloc) | (with_reducible apply Kp.drew) | (with_reducible refine Kp.setCell ?_ (fun h => by (have q1 := HKa.out.size); (try dsimp only at h); omega) _)))).cells8) ((first
        | ((with_reducible refine Calls.mono (aiger_readers _) ?_)
           rintro o u1 ⟨bm, rfl, hM, hK⟩
           have HKa := Lib.hid (Kp.trans (a := wh) (by repeat (with_reducible first | exact Kp.refl _ _ | exact HKa.out | exact HKb.out | apply Kp.alloc | apply Kp.drew)) hK (fun _ _ h => h))
           (try have HZa := Lib.hid ((Blk.new wh.drew #[.int .i64 0, .slice none 0 0, .slice none 0 0, .slice none 0 0, .slice none 0 0, .slice none 0 0, .slice none 0 0, .slice none 0 0, .string ⟨#[]⟩] 27).kp hK (fun h => h)))
           (try have HZa := Lib.hid ((Blk.new wh #[.int .i64 0, .slice none 0 0, .slice none 0 0, .slice none 0 0, .slice none 0 0, .slice none 0 0, .slice none 0 0, .slice none 0 0, .string ⟨#[]⟩] 27).kp hK (fun h => h)))
           (try have HZa := Lib.hid ((Blk.new wh #[.int .i64 0, .slice none 0 0, .slice none 0 0, .slice none 0 0, .slice none 0 0, .slice none 0 0, .slice none 0 0, .slice none 0 0, .string ⟨#[]⟩] 27).drew.kp hK (fun h => h)))
           have lk1 := readers_false hM
           have lk2 := readers_false (u := u1.drew) hM
           have lk3 := readers_false (hM.kp ((Kp.refl (fun _ => False) u1).alloc (.cells #[.int .i64 0, .slice none 0 0, .slice none 0 0, .slice none 0 0, .slice none 0 0, .slice none 0 0, .slice none 0 0, .slice none 0 0, .string ⟨#[]⟩] 27)) (fun h => h))
           have lk4 := readers_false (hM.kp (((Kp.refl (fun _ => False) u1).drew).alloc (.cells #[.int .i64 0, .slice none 0 0, .slice none 0 0, .slice none 0 0, .slice none 0 0, .slice none 0 0, .slice none 0 0, .slice none 0 0, .string ⟨#[]⟩] 27)) (fun h => h))
           have lk5 := readers_false (hM.kp (((Kp.refl (fun _ => False) u1).alloc (.cells #[.int .i64 0, .slice none 0 0, .slice none 0 0, .slice none 0 0, .slice none 0 0, .slice none 0 0, .slice none 0 0, .slice none 0 0, .string ⟨#[]⟩] 27)).drew) (fun h => h))
           clear hK hM)
        | ((with_reducible refine Calls.mono (HRX.out _) ?_)
           rintro o u2 ⟨V', C', rfl, hK, hOk⟩
           clear lk1 lk2 lk3 lk4 lk5
           have HKb := Lib.hid (Kp.trans (a := wh) (by repeat (with_reducible first | exact Kp.refl _ _ | exact HKa.out | exact HKb.out | apply Kp.alloc | apply Kp.drew)) hK (fun _ _ h => h))
           (try have HZb := Lib.hid (HZa.out.kp hK (fun h => h)))
           (try have HZb := Lib.hid (HZa.out.drew.kp hK (fun h => h)))
           (try have HZb := Lib.hid ((Blk.new u1.drew #[.int .i64 0, .slice none 0 0, .slice none 0 0, .slice none 0 0, .slice none 0 0, .slice none 0 0, .slice none 0 0, .slice none 0 0, .string ⟨#[]⟩] 27).kp hK (fun h => h)))
           (try have HZb := Lib.hid ((Blk.new u1 #[.int .i64 0, .slice none 0 0, .slice none 0 0, .slice none 0 0, .slice none 0 0, .slice none 0 0, .slice none 0 0, .slice none 0 0, .string ⟨#[]⟩] 27).kp hK (fun h => h)))
           (try have HZb := Lib.hid ((Blk.new u1 #[.int .i64 0, .slice none 0 0, .slice none 0 0, .slice none 0 0, .slice none 0 0, .slice none 0 0, .slice none 0 0, .slice none 0 0, .string ⟨#[]⟩] 27).drew.kp hK (fun h => h)))
           have HOb := Lib.hid hOk
           clear hK hOk
           (try obtain ⟨x0, x1, x2, x3, x4, x5, x6, x7, x8⟩ := HZb.out.cells9)
           (try have f0 := HZb.out.free 0)
           (try have f1 := HZb.out.free 1)
           (try have f2 := HZb.out.free 2)
           (try have f3 := HZb.out.free 3)
           (try have f4 := HZb.out.free 4)
           (try have f5 := HZb.out.free 5)
           (try have f6 := HZb.out.free 6)
           (try have f7 := HZb.out.free 7)
           (try have f8 := HZb.out.free 8))))
      all_goals go_wp2_with fail
      all_goals go_meet
      all_goals
        have hR2 := HRf.out _ HKb.out
        have hN2 := HNf.out _ HKb.out
        have hH2 := HHf.out _ HKb.out
        have hW2 : Kp (fun _ => False) w u2 := HKh.out.trans HKb.out (fun _ _ h => h)
        have hs1 := HKa.out.size
        have hs2 := HKb.out.size
        have hN := HLw.out
        have hL := HHh.out.lt
        have hOb := HOb.out
        first
          | (refine ⟨V', C', u2.heap.size, rfl, rfl, rfl, ?_⟩
             have hp := prs_new hH2 hR2 hN2 hW2 hOb (by first | omega | (simp; omega)) (by omega)
             first | exact hp | exact prs_drew hp)
          | (refine ⟨V', C', u1.heap.size, rfl, rfl, rfl, ?_⟩
             have hp := prs_set (bc := u1.heap.size) HZb.out hH2 hR2 hN2 hW2 hOb (by first | omega | (simp; omega)) (by omega) (by omega) (by first | omega | simp)
             unfold Go.Proofs.YtckmdcmkjmpiaaaGreatDoor.set9 at hp
             first | exact hp | exact prs_drew hp)
          | (refine ⟨V', C', wh.heap.size, rfl, rfl, rfl, ?_⟩
             have hz : wh.heap.size < u1.heap.size := HZa.out.lt
             have hp := prs_set (bc := wh.heap.size) HZb.out hH2 hR2 hN2 hW2 hOb (by first | omega | (simp; omega)) (by omega) (by omega) (by first | omega | (simp; omega))
             unfold Go.Proofs.YtckmdcmkjmpiaaaGreatDoor.set9 at hp
             first | exact hp | exact prs_drew hp)
    | true =>
      have hr : rdC s (M : Int) nI nL nO nA nB nC (p0, 0) = (C2, p2, e2) := by have := HRd.out; rwa [if_pos rfl] at this
      have HRX := Lib.hid (fun u : World => show Calls Tryz.prog 34 #[.string s, .int .i64 (p0 : Nat), .agg #[.bool true, .int .i64 (M : Nat), .int .i64 (nI : Nat), .int .i64 (nL : Nat), .int .i64 (nO : Nat), .int .i64 (nA : Nat), .int .i64 (nB : Nat), .int .i64 (nC : Nat)]] u (fun o u' => ∃ V' C', o = .returned (.tuple #[.agg #[.int .i64 C'.max, .slice V'.ai C'.ins.length V'.ci, .slice V'.al C'.lats.length V'.cl, .slice V'.ao C'.outs.length V'.co, .slice V'.ab C'.bads.length V'.cb, .slice V'.ac C'.cons.length V'.cc, .slice V'.ag C'.gates.length V'.cg, .slice V'.ay V'.ny V'.cy, .string V'.cm], .int .i64 (p2 : Nat), .int .i64 (e2 : Nat)]) ∧ Kp (fun _ => False) u u' ∧ (e2 = 0 → C' = C2 ∧ BKeep u.heap.size u' V' C2)) from (bin_Read s p0 true (M : Int) nI nL nO nA nB nC u (by have := HS.out; omega) HP0.out (by omega) (by have := HBn.out.1; omega) HBn.out.2.1 HBn.out.2.2.1 HBn.out.2.2.2.1 HBn.out.2.2.2.2.1 HBn.out.2.2.2.2.2.1 HBn.out.2.2.2.2.2.2).mono (fun e u' h => by
        rw [hr] at h
        obtain ⟨V', C', h1, h2, h3⟩ := BinReadP.q h
        exact ⟨V', C', h1, h2, fun h0 => by
          obtain ⟨h4, h5⟩ := h3 h0
          have h6 : C' = C2 := h4
          subst h6
          exact ⟨rfl, h5⟩⟩))
      clear hr
      have HHf := Lib.hid (fun u (hK : Kp (fun _ => False) wh u) => HHh.out.kp hK (fun h => h))
      have HRf := Lib.hid (fun u (hK : Kp (fun _ => False) wh u) => HRh.out.kp hK (fun h => h))
      have HNf := Lib.hid (fun u (hK : Kp (fun _ => False) wh u) => HNh.out.kp hK (fun h => h))
      go_region_held3 (fun u => u.cell? ⟨bh, 0, none⟩ = some (.bool true) ∧ u.cell? ⟨bh, 1, none⟩ = some (.int .i64 (M : Nat)) ∧ u.cell? ⟨bh, 2, none⟩ = some (.int .i64 (nI : Nat)) ∧ u.cell? ⟨bh, 3, none⟩ = some (.int .i64 (nL : Nat)) ∧ u.cell? ⟨bh, 4, none⟩ = some (.int .i64 (nO : Nat)) ∧ u.cell? ⟨bh, 5, none⟩ = some (.int .i64 (nA : Nat)) ∧ u.cell? ⟨bh, 6, none⟩ = some (.int .i64 (nB : Nat)) ∧ u.cell? ⟨bh, 7, none⟩ = some (.int .i64 (nC : Nat))) (exact (HHf.out _ (by repeat (first | (with_reducible exact Kp.refl _ _) | (with_reducible exact HKa.out) | (with_reducible exact HKb.out) | (with_reducible apply Kp.alloc) | (with_reducible apply Kp.drew) | (with_reducible refine Kp.setCell ?_ (fun h => by (have q1 := HKa.out.size); (try dsimp only at h); omega) _)))).cells8) ((first
        | ((with_reducible refine Calls.mono (aiger_readers _) ?_)
           rintro o u1 ⟨bm, rfl, hM, hK⟩
           have HKa := Lib.hid (Kp.trans (a := wh) (by repeat (with_reducible first | exact Kp.refl _ _ | exact HKa.out | exact HKb.out | apply Kp.alloc | apply Kp.drew)) hK (fun _ _ h => h))
           (try have HZa := Lib.hid ((Blk.new wh.drew #[.int .i64 0, .slice none 0 0, .slice none 0 0, .slice none 0 0, .slice none 0 0, .slice none 0 0, .slice none 0 0, .slice none 0 0, .string ⟨#[]⟩] 27).kp hK (fun h => h)))
           (try have HZa := Lib.hid ((Blk.new wh #[.int .i64 0, .slice none 0 0, .slice none 0 0, .slice none 0 0, .slice none 0 0, .slice none 0 0, .slice none 0 0, .slice none 0 0, .string ⟨#[]⟩] 27).kp hK (fun h => h)))
           (try have HZa := Lib.hid ((Blk.new wh #[.int .i64 0, .slice none 0 0, .slice none 0 0, .slice none 0 0, .slice none 0 0, .slice none 0 0, .slice none 0 0, .slice none 0 0, .string ⟨#[]⟩] 27).drew.kp hK (fun h => h)))
           have lk1 := readers_true hM
           have lk2 := readers_true (u := u1.drew) hM
           have lk3 := readers_true (hM.kp ((Kp.refl (fun _ => False) u1).alloc (.cells #[.int .i64 0, .slice none 0 0, .slice none 0 0, .slice none 0 0, .slice none 0 0, .slice none 0 0, .slice none 0 0, .slice none 0 0, .string ⟨#[]⟩] 27)) (fun h => h))
           have lk4 := readers_true (hM.kp (((Kp.refl (fun _ => False) u1).drew).alloc (.cells #[.int .i64 0, .slice none 0 0, .slice none 0 0, .slice none 0 0, .slice none 0 0, .slice none 0 0, .slice none 0 0, .slice none 0 0, .string ⟨#[]⟩] 27)) (fun h => h))
           have lk5 := readers_true (hM.kp (((Kp.refl (fun _ => False) u1).alloc (.cells #[.int .i64 0, .slice none 0 0, .slice none 0 0, .slice none 0 0, .slice none 0 0, .slice none 0 0, .slice none 0 0, .slice none 0 0, .string ⟨#[]⟩] 27)).drew) (fun h => h))
           clear hK hM)
        | ((with_reducible refine Calls.mono (HRX.out _) ?_)
           rintro o u2 ⟨V', C', rfl, hK, hOk⟩
           clear lk1 lk2 lk3 lk4 lk5
           have HKb := Lib.hid (Kp.trans (a := wh) (by repeat (with_reducible first | exact Kp.refl _ _ | exact HKa.out | exact HKb.out | apply Kp.alloc | apply Kp.drew)) hK (fun _ _ h => h))
           (try have HZb := Lib.hid (HZa.out.kp hK (fun h => h)))
           (try have HZb := Lib.hid (HZa.out.drew.kp hK (fun h => h)))
           (try have HZb := Lib.hid ((Blk.new u1.drew #[.int .i64 0, .slice none 0 0, .slice none 0 0, .slice none 0 0, .slice none 0 0, .slice none 0 0, .slice none 0 0, .slice none 0 0, .string ⟨#[]⟩] 27).kp hK (fun h => h)))
           (try have HZb := Lib.hid ((Blk.new u1 #[.int .i64 0, .slice none 0 0, .slice none 0 0, .slice none 0 0, .slice none 0 0, .slice none 0 0, .slice none 0 0, .slice none 0 0, .string ⟨#[]⟩] 27).kp hK (fun h => h)))
           (try have HZb := Lib.hid ((Blk.new u1 #[.int .i64 0, .slice none 0 0, .slice none 0 0, .slice none 0 0, .slice none 0 0, .slice none 0 0, .slice none 0 0, .slice none 0 0, .string ⟨#[]⟩] 27).drew.kp hK (fun h => h)))
           have HOb := Lib.hid hOk
           clear hK hOk
           (try obtain ⟨x0, x1, x2, x3, x4, x5, x6, x7, x8⟩ := HZb.out.cells9)
           (try have f0 := HZb.out.free 0)
           (try have f1 := HZb.out.free 1)
           (try have f2 := HZb.out.free 2)
           (try have f3 := HZb.out.free 3)
           (try have f4 := HZb.out.free 4)
           (try have f5 := HZb.out.free 5)
           (try have f6 := HZb.out.free 6)
           (try have f7 := HZb.out.free 7)
           (try have f8 := HZb.out.free 8))))
      all_goals go_wp2_with fail
      all_goals go_meet
      all_goals
        have hR2 := HRf.out _ HKb.out
        have hN2 := HNf.out _ HKb.out
        have hH2 := HHf.out _ HKb.out
        have hW2 : Kp (fun _ => False) w u2 := HKh.out.trans HKb.out (fun _ _ h => h)
        have hs1 := HKa.out.size
        have hs2 := HKb.out.size
        have hN := HLw.out
        have hL := HHh.out.lt
        have hOb := HOb.out
        first
          | (refine ⟨V', C', u2.heap.size, rfl, rfl, rfl, ?_⟩
             have hp := prs_new hH2 hR2 hN2 hW2 hOb (by first | omega | (simp; omega)) (by omega)
             first | exact hp | exact prs_drew hp)
          | (refine ⟨V', C', u1.heap.size, rfl, rfl, rfl, ?_⟩
             have hp := prs_set (bc := u1.heap.size) HZb.out hH2 hR2 hN2 hW2 hOb (by first | omega | (simp; omega)) (by omega) (by omega) (by first | omega | simp)
             unfold Go.Proofs.YtckmdcmkjmpiaaaGreatDoor.set9 at hp
             first | exact hp | exact prs_drew hp)
          | (refine ⟨V', C', wh.heap.size, rfl, rfl, rfl, ?_⟩
             have hz : wh.heap.size < u1.heap.size := HZa.out.lt
             have hp := prs_set (bc := wh.heap.size) HZb.out hH2 hR2 hN2 hW2 hOb (by first | omega | (simp; omega)) (by omega) (by omega) (by first | omega | (simp; omega))
             unfold Go.Proofs.YtckmdcmkjmpiaaaGreatDoor.set9 at hp
             first | exact hp | exact prs_drew hp)
  case rest =>
  obtain ⟨V2, C9, bc, rfl, rfl, rfl, hC, hH, hR, hN, hK, hlb, hOk⟩ := hcut
  have HC := Lib.hid hC
  have HHx := Lib.hid hH
  have HR := Lib.hid hR
  have HN := Lib.hid hN
  have HK := Lib.hid hK
  have HLb := Lib.hid hlb
  have HOk := Lib.hid hOk
  clear hC hH hR hN hK hlb hOk
  obtain ⟨wx, rfl⟩ : ∃ wx : World, wx = wc := ⟨_, rfl⟩
  by_cases he2 : e2 = 0
  rotate_left
  · have q2 : ((e2 : Int) != 0) = true := by simp; omega
    have HP := Lib.hid (prsT_read HBig.out HH.out H2.out he2)
    clear he2 HOk
    have hz : Blk wx w.heap.size #[.int .i64 0, .slice none 0 0, .slice none 0 0, .slice none 0 0, .slice none 0 0, .slice none 0 0, .slice none 0 0, .slice none 0 0, .string ⟨#[]⟩] 27 := HR.out
    have hn : Blk wx (w.heap.size + 1) #[.int .i64 0, .slice none 0 0, .slice none 0 0, .slice none 0 0, .slice none 0 0, .slice none 0 0, .slice none 0 0, .slice none 0 0, .string ⟨#[]⟩] 27 := HN.out
    obtain ⟨z0, z1, z2, z3, z4, z5, z6, z7, z8⟩ := hz.cells9
    obtain ⟨x0, x1, x2, x3, x4, x5, x6, x7, x8⟩ := hn.cells9
    have fr := hz.free
    have fr0 := fr 0
    have fr1 := fr 1
    have fr2 := fr 2
    have fr3 := fr 3
    have fr4 := fr 4
    have fr5 := fr 5
    have fr6 := fr 6
    have fr7 := fr 7
    have fr8 := fr 8
    have HBe := Lib.hid (hz.set9 (.int .i64 0) (.slice none 0 0) (.slice none 0 0) (.slice none 0 0) (.slice none 0 0) (.slice none 0 0) (.slice none 0 0) (.slice none 0 0) (.string ⟨#[]⟩))
    have HKe := Lib.hid (Kp.set9 wx w.heap.size (.int .i64 0) (.slice none 0 0) (.slice none 0 0) (.slice none 0 0) (.slice none 0 0) (.slice none 0 0) (.slice none 0 0) (.slice none 0 0) (.string ⟨#[]⟩))
    unfold Go.Proofs.YtckmdcmkjmpiaaaGreatDoor.set9 at HBe HKe
    clear fr hz hn
    go_wp2_with fail
    obtain ⟨s0, s1, s2, s3, s4, s5, s6, s7, s8⟩ := HBe.out.cells9
    exact bodyPost_ret (v := .tuple #[.agg zc9, .int .i64 (p2 : Nat), .int .i64 (e2 : Nat)]) (by simp [results, Tryz.results5, go_sem, s0, s1, s2, s3, s4, s5, s6, s7, s8, zc9]) rfl ⟨HK.out.trans HKe.out (fun j hj e => by omega), by simp only [HP.out]⟩
  subst he2
  obtain ⟨rfl, hkeep⟩ := HOk.out rfl
  have HKeep := Lib.hid hkeep
  clear hkeep HOk
  have HFw := Lib.hid (show CFewI C9 from by
    have h1 := rdP_few HS.out (by rw [HH.out]) (by rw [HH.out, H2.out])
    rw [HH.out, H2.out] at h1
    exact h1.1)
  obtain ⟨T, hT⟩ : ∃ T, readT (hdP (b, Lh, p0, 0)) s (p2 : Nat) = T := ⟨_, rfl⟩
  obtain ⟨tl, tc, ta, te⟩ := T
  have HT := Lib.hid (fun u : World => show Calls Tryz.prog 15 #[.string s, .int .i64 (p2 : Nat), .agg #[.bool b, .int .i64 (M : Nat), .int .i64 (nI : Nat), .int .i64 (nL : Nat), .int .i64 (nO : Nat), .int .i64 (nA : Nat), .int .i64 (nB : Nat), .int .i64 (nC : Nat)]] u (ReadPost ⟨tl, tc, ta, te⟩ u) from by
    have h1 := tail_Read (hdP (b, Lh, p0, 0)) s (p2 : Nat) u HS.out
    rw [hT] at h1
    unfold hdV hdP at h1
    simp only [HNt.out.1, HNt.out.2.1, HNt.out.2.2.1, HNt.out.2.2.2.1, HNt.out.2.2.2.2.1, HNt.out.2.2.2.2.2.1, HNt.out.2.2.2.2.2.2] at h1
    exact h1)
  have HTe := Lib.hid hT
  clear hT
  obtain ⟨y0, y1, y2, y3, y4, y5, y6, y7⟩ := HHx.out.cells8
  have HLc := Lib.hid HC.out.lt
  go_wp2_with fail
  refine (HT.out _).mono ?_
  rintro o w5 ⟨v, rfl, hO5, hK5⟩
  obtain ⟨ya, yc, rfl, hsl, hya, hrow⟩ := own_row hO5
  simp only at hsl hrow
  have HSl := Lib.hid hsl
  have HYa := Lib.hid hya
  have HRow := Lib.hid hrow
  have HC5 := Lib.hid (HC.out.kp hK5 (fun h => h))
  have HR5 := Lib.hid (HR.out.kp hK5 (fun h => h))
  have HN5 := Lib.hid (HN.out.kp hK5 (fun h => h))
  have HK5 := Lib.hid (HK.out.trans hK5 (fun _ _ h => h))
  have Hk5 := Lib.hid hK5
  clear hO5 hK5 hsl hya hrow HT y0 y1 y2 y3 y4 y5 y6 y7 HC HR HN HK HHx
  have hx5 : Blk w5 bc #[.int .i64 C9.max, .slice V2.ai C9.ins.length V2.ci, .slice V2.al C9.lats.length V2.cl, .slice V2.ao C9.outs.length V2.co, .slice V2.ab C9.bads.length V2.cb, .slice V2.ac C9.cons.length V2.cc, .slice V2.ag C9.gates.length V2.cg, .slice V2.ay V2.ny V2.cy, .string V2.cm] 27 := HC5.out
  have c7 := hx5.cell (i := 7) (v := .slice V2.ay V2.ny V2.cy) rfl
  have c8 := hx5.cell (i := 8) (v := .string V2.cm) rfl
  have f7 := hx5.free 7
  have f8 := hx5.free 8
  clear hx5
  go_upto_region 11 with fail
  obtain ⟨ws, hws⟩ : ∃ ws : World, ws = (w5.setCell ⟨bc, 7, none⟩ (.slice ya tl.length yc)).setCell ⟨bc, 8, none⟩ (.string tc) := ⟨_, rfl⟩
  have HKs : Hid (Kp (fun j => j = bc) w5 ws) := Lib.hid (by rw [hws]; exact ((Kp.refl (fun j => j = bc) w5).setCell (p := ⟨bc, 7, none⟩) (fun _ => rfl) _).setCell (p := ⟨bc, 8, none⟩) (fun _ => rfl) _)
  have HCs := Lib.hid (show Blk ws bc #[.int .i64 C9.max, .slice V2.ai C9.ins.length V2.ci, .slice V2.al C9.lats.length V2.cl, .slice V2.ao C9.outs.length V2.co, .slice V2.ab C9.bads.length V2.cb, .slice V2.ac C9.cons.length V2.cc, .slice V2.ag C9.gates.length V2.cg, .slice ya tl.length yc, .string tc] 27 by rw [hws]; exact (HC5.out.set_same 7 (.slice ya tl.length yc)).set_same 8 (.string tc))
  have HRs := Lib.hid (HR5.out.kp HKs.out (by have := HLb.out; omega))
  have HNs := Lib.hid (HN5.out.kp HKs.out (by have := HLb.out; omega))
  have HKk := Lib.hid (HK5.out.trans HKs.out (fun j hj e => by have := HLb.out; omega))
  have Hks := Lib.hid (show Kp (fun j => j = bc) wx ws from (Hk5.out.mono (fun _ _ h => h.elim)).trans HKs.out (fun _ _ h => h))
  have HRw := Lib.hid (HRow.out.kp HKs.out (fun p hp e => by have := HYa.out p hp; have e2 : p.block = bc := e; have := HLc.out; omega))
  have HAs := Lib.hid (show CAt ws ⟨V2.ai, V2.ci, V2.al, V2.cl, V2.ao, V2.co, V2.ab, V2.cb, V2.ac, V2.cc, V2.ag, V2.cg, ya, tl.length, yc, tc⟩ C9 from CAt.tail (HKeep.out (fun j => j = bc) ws (fun j e => .inl e) Hks.out) HRw.out rfl HSl.out)
  rw [← hws]
  clear hws c7 c8 f7 f8 HC5 HR5 HN5 HK5 HKs HRow
  by_cases hte : te = 0
  rotate_left
  · have q3 : ((te : Int) != 0) = true := by simp; omega
    have HP := Lib.hid (prsT_tail HBig.out HH.out H2.out HTe.out hte)
    clear hte
    have hz : Blk ws w.heap.size #[.int .i64 0, .slice none 0 0, .slice none 0 0, .slice none 0 0, .slice none 0 0, .slice none 0 0, .slice none 0 0, .slice none 0 0, .string ⟨#[]⟩] 27 := HRs.out
    have hn : Blk ws (w.heap.size + 1) #[.int .i64 0, .slice none 0 0, .slice none 0 0, .slice none 0 0, .slice none 0 0, .slice none 0 0, .slice none 0 0, .slice none 0 0, .string ⟨#[]⟩] 27 := HNs.out
    obtain ⟨z0, z1, z2, z3, z4, z5, z6, z7, z8⟩ := hz.cells9
    obtain ⟨x0, x1, x2, x3, x4, x5, x6, x7, x8⟩ := hn.cells9
    have fr := hz.free
    have fr0 := fr 0
    have fr1 := fr 1
    have fr2 := fr 2
    have fr3 := fr 3
    have fr4 := fr 4
    have fr5 := fr 5
    have fr6 := fr 6
    have fr7 := fr 7
    have fr8 := fr 8
    have HBe := Lib.hid (hz.set9 (.int .i64 0) (.slice none 0 0) (.slice none 0 0) (.slice none 0 0) (.slice none 0 0) (.slice none 0 0) (.slice none 0 0) (.slice none 0 0) (.string ⟨#[]⟩))
    have HKe := Lib.hid (Kp.set9 ws w.heap.size (.int .i64 0) (.slice none 0 0) (.slice none 0 0) (.slice none 0 0) (.slice none 0 0) (.slice none 0 0) (.slice none 0 0) (.slice none 0 0) (.string ⟨#[]⟩))
    unfold Go.Proofs.YtckmdcmkjmpiaaaGreatDoor.set9 at HBe HKe
    clear fr hz hn
    go_wp2_with fail
    obtain ⟨s0, s1, s2, s3, s4, s5, s6, s7, s8⟩ := HBe.out.cells9
    exact bodyPost_ret (v := .tuple #[.agg zc9, .int .i64 (ta : Nat), .int .i64 (te : Nat)]) (by simp [results, Tryz.results5, go_sem, s0, s1, s2, s3, s4, s5, s6, s7, s8, zc9]) rfl ⟨HKk.out.trans HKe.out (fun j hj e => by omega), by simp only [HP.out]⟩
  subst hte
  have HCk := Lib.hid (show Calls Tryz.prog 16 #[.agg #[.int .i64 C9.max, .slice V2.ai C9.ins.length V2.ci, .slice V2.al C9.lats.length V2.cl, .slice V2.ao C9.outs.length V2.co, .slice V2.ab C9.bads.length V2.cb, .slice V2.ac C9.cons.length V2.cc, .slice V2.ag C9.gates.length V2.cg, .slice ya tl.length yc, .string tc]] ws (fun e w' => e = .returned (.int .i64 (ckCode C9)) ∧ Kp (fun _ => False) ws w') from circ_Chk ⟨V2.ai, V2.ci, V2.al, V2.cl, V2.ao, V2.co, V2.ab, V2.cb, V2.ac, V2.cc, V2.ag, V2.cg, ya, tl.length, yc, tc⟩ C9 ws HAs.out HFw.out)
  obtain ⟨code, hcode⟩ : ∃ code, ckCode C9 = code := ⟨_, rfl⟩
  rw [hcode] at HCk
  have HCo := Lib.hid hcode
  clear hcode
  obtain ⟨z0, z1, z2, z3, z4, z5, z6, z7, z8⟩ := HCs.out.cells9
  go_wp2_with fail
  refine (HCk.out).mono ?_
  rintro o w7 ⟨rfl, hK7⟩
  have HC7 := Lib.hid (HCs.out.kp hK7 (fun h => h))
  have HR7 := Lib.hid (HRs.out.kp hK7 (fun h => h))
  have HN7 := Lib.hid (HNs.out.kp hK7 (fun h => h))
  have HK7 := Lib.hid (HKk.out.trans hK7 (fun _ _ h => h))
  have Hk7 := Lib.hid (Hks.out.trans (hK7.mono (fun _ _ h => h.elim)) (fun _ _ h => h))
  have HRw7 := Lib.hid (HRw.out.kp hK7 (fun _ _ h => h))
  clear hK7 HCs HRs HNs HKk Hks HRw HCk z0 z1 z2 z3 z4 z5 z6 z7 z8
  by_cases hco : code = 0
  rotate_left
  · have q4 : (code != 0) = true := by simpa using hco
    have HP := Lib.hid (show prsT s = .bad 0 code from by
      have h1 := prsT_check HBig.out HH.out H2.out HTe.out (by rw [HCo.out]; exact hco)
      rw [HCo.out] at h1
      exact h1)
    clear hco
    have hz : Blk w7 w.heap.size #[.int .i64 0, .slice none 0 0, .slice none 0 0, .slice none 0 0, .slice none 0 0, .slice none 0 0, .slice none 0 0, .slice none 0 0, .string ⟨#[]⟩] 27 := HR7.out
    have hn : Blk w7 (w.heap.size + 1) #[.int .i64 0, .slice none 0 0, .slice none 0 0, .slice none 0 0, .slice none 0 0, .slice none 0 0, .slice none 0 0, .slice none 0 0, .string ⟨#[]⟩] 27 := HN7.out
    obtain ⟨z0, z1, z2, z3, z4, z5, z6, z7, z8⟩ := hz.cells9
    obtain ⟨x0, x1, x2, x3, x4, x5, x6, x7, x8⟩ := hn.cells9
    have fr := hz.free
    have fr0 := fr 0
    have fr1 := fr 1
    have fr2 := fr 2
    have fr3 := fr 3
    have fr4 := fr 4
    have fr5 := fr 5
    have fr6 := fr 6
    have fr7 := fr 7
    have fr8 := fr 8
    have HBe := Lib.hid (hz.set9 (.int .i64 0) (.slice none 0 0) (.slice none 0 0) (.slice none 0 0) (.slice none 0 0) (.slice none 0 0) (.slice none 0 0) (.slice none 0 0) (.string ⟨#[]⟩))
    have HKe := Lib.hid (Kp.set9 w7 w.heap.size (.int .i64 0) (.slice none 0 0) (.slice none 0 0) (.slice none 0 0) (.slice none 0 0) (.slice none 0 0) (.slice none 0 0) (.slice none 0 0) (.string ⟨#[]⟩))
    unfold Go.Proofs.YtckmdcmkjmpiaaaGreatDoor.set9 at HBe HKe
    clear fr hz hn
    go_wp2_with fail
    obtain ⟨s0, s1, s2, s3, s4, s5, s6, s7, s8⟩ := HBe.out.cells9
    exact bodyPost_ret (v := .tuple #[.agg zc9, .int .i64 0, .int .i64 code]) (by simp [results, Tryz.results5, go_sem, s0, s1, s2, s3, s4, s5, s6, s7, s8, zc9]) rfl ⟨HK7.out.trans HKe.out (fun j hj e => by omega), by simp only [HP.out]⟩
  subst hco
  have HP := Lib.hid (prsT_fine HBig.out HH.out H2.out HTe.out HCo.out)
  obtain ⟨z0, z1, z2, z3, z4, z5, z6, z7, z8⟩ := HC7.out.cells9
  have hr7 : Blk w7 w.heap.size #[.int .i64 0, .slice none 0 0, .slice none 0 0, .slice none 0 0, .slice none 0 0, .slice none 0 0, .slice none 0 0, .slice none 0 0, .string ⟨#[]⟩] 27 := HR7.out
  obtain ⟨r0, r1, r2, r3, r4, r5, r6, r7, r8⟩ := hr7.cells9
  have fr := hr7.free
  have fr0 := fr 0
  have fr1 := fr 1
  have fr2 := fr 2
  have fr3 := fr 3
  have fr4 := fr 4
  have fr5 := fr 5
  have fr6 := fr 6
  have fr7 := fr 7
  have fr8 := fr 8
  have nb1 : bc ≠ w.heap.size := by have := HLb.out; omega
  have nb2 : w.heap.size ≠ bc := by have := HLb.out; omega
  have HBe := Lib.hid (hr7.set9 (.int .i64 C9.max) (.slice V2.ai C9.ins.length V2.ci) (.slice V2.al C9.lats.length V2.cl) (.slice V2.ao C9.outs.length V2.co) (.slice V2.ab C9.bads.length V2.cb) (.slice V2.ac C9.cons.length V2.cc) (.slice V2.ag C9.gates.length V2.cg) (.slice ya tl.length yc) (.string tc))
  have HKe := Lib.hid (Kp.set9 w7 w.heap.size (.int .i64 C9.max) (.slice V2.ai C9.ins.length V2.ci) (.slice V2.al C9.lats.length V2.cl) (.slice V2.ao C9.outs.length V2.co) (.slice V2.ab C9.bads.length V2.cb) (.slice V2.ac C9.cons.length V2.cc) (.slice V2.ag C9.gates.length V2.cg) (.slice ya tl.length yc) (.string tc))
  have HAe := Lib.hid (show CAt _ ⟨V2.ai, V2.ci, V2.al, V2.cl, V2.ao, V2.co, V2.ab, V2.cb, V2.ac, V2.cc, V2.ag, V2.cg, ya, tl.length, yc, tc⟩ C9 ∧ RowAt _ ya (tl.map symCells).flatten from
    have hrw := HRw7.out.kp HKe.out (fun p hp e => by have := HYa.out p hp; have e2 : p.block = w.heap.size := e; have := HLc.out; have := HLb.out; omega)
    ⟨CAt.tail (HKeep.out (fun j => j = bc ∨ j = w.heap.size) _ (fun j e => e.elim .inl (fun h => .inr (.inl h))) ((Hk7.out.mono (fun _ _ h => .inl h)).trans HKe.out (fun _ _ h => .inr h))) hrw rfl HSl.out, hrw⟩)
  have HKf := Lib.hid (HK7.out.trans HKe.out (fun j hj e => by omega))
  unfold Go.Proofs.YtckmdcmkjmpiaaaGreatDoor.set9 at HBe HKe HAe HKf
  clear fr hr7
  go_wp2_with fail
  obtain ⟨s0, s1, s2, s3, s4, s5, s6, s7, s8⟩ := HBe.out.cells9
  refine bodyPost_ret (v := .tuple #[.agg #[.int .i64 C9.max, .slice V2.ai C9.ins.length V2.ci, .slice V2.al C9.lats.length V2.cl, .slice V2.ao C9.outs.length V2.co, .slice V2.ab C9.bads.length V2.cb, .slice V2.ac C9.cons.length V2.cc, .slice V2.ag C9.gates.length V2.cg, .slice ya tl.length yc, .string tc], .int .i64 (ta : Nat), .int .i64 0]) (by simp [results, Tryz.results5, go_sem, s0, s1, s2, s3, s4, s5, s6, s7, s8]) rfl ⟨HKf.out, ?_⟩
  simp only [HP.out]
  exact ⟨⟨V2.ai, V2.ci, V2.al, V2.cl, V2.ao, V2.co, V2.ab, V2.cb, V2.ac, V2.cc, V2.ag, V2.cg, ya, tl.length, yc, tc⟩, rfl, HAe.out.1, HAe.out.2, rfl, rfl⟩

end Go.Proofs.YtckmdcmkjmpiaaaGreatDoor

/-
  latchetref11.Check: what is wrong with any circuit. (Printed by mkrefcheck.py.)
-/
namespace Go.Proofs.YtckmdcmkjmpiaaaGreatDoor
open Go.RowKit

theorem ref02_HasQ (a : Option Addr) (n c q : Nat) (L : List Int) (x : Int) (w : World) (hr : IntsAt w a L) (hn : L.length = n) (hm : n ≤ 9000000000) :
    Calls Tryz.prog 53 #[.slice a n c, .int .i64 x] (w.drewN q) fun e w' => e = .returned (.bool (decide (x ∈ L))) ∧ w' = w.drewN q :=
  (ref02_Has a n c L x (w.drewN q) hr hn hm).mono fun _ _ ⟨h1, h2⟩ => ⟨h1, h2.symm⟩

theorem range_bad1 {C : Circ} {k : Nat} (hk : k < C.owned.length) (h : ownB C.max (gi C.owned k) = false) : rangeB C = false := by
  unfold rangeB
  have : C.owned.all (ownB C.max) = false := by
    rw [List.all_eq_false]
    refine ⟨gi C.owned k, ?_, by simp [h]⟩
    unfold gi; rw [List.getElem?_eq_getElem hk]; exact List.getElem_mem hk
  rw [this]; rfl
theorem range_bad2 {C : Circ} {k : Nat} (hk : k < C.used.length) (h : useB C.max (gi C.used k) = false) : rangeB C = false := by
  unfold rangeB
  have : C.used.all (useB C.max) = false := by
    rw [List.all_eq_false]
    refine ⟨gi C.used k, ?_, by simp [h]⟩
    unfold gi; rw [List.getElem?_eq_getElem hk]; exact List.getElem_mem hk
  rw [this, Bool.and_false]
theorem range_bad3 {C : Circ} {k : Nat} (hk : k < C.lats.length) (h : resB (g3 C.lats k) = false) : rangeB C = false := by
  unfold rangeB
  have : C.lats.all resB = false := by
    rw [List.all_eq_false]
    exact ⟨_, g3_mem hk, by simp [h]⟩
  rw [this, Bool.and_false, Bool.false_and]
theorem range_all {C : Circ} (h1 : C.owned.all (ownB C.max) = true) (h2 : C.used.all (useB C.max) = true) (h3 : C.lats.all resB = true) : rangeB C = true := by
  unfold rangeB; rw [h1, h2, h3]; rfl

theorem knownB_iff {C : Circ} (hR : InRange C) {x : Int} (hx : x ∈ C.used) : knownB C.owned x = (!(decide (1 < x)) || decide (x - x % 2 ∈ C.owned)) := by
  have h0 := hR.use x hx
  unfold knownB
  rw [Bool.eq_iff_iff]
  simp only [Bool.or_eq_true, decide_eq_true_eq, List.any_eq_true, Bool.not_eq_true', decide_eq_false_iff_not]
  constructor
  · rintro (h | ⟨y, hy, e⟩)
    · left; omega
    · right
      have h1 := hR.own y hy
      have : y = x - x % 2 := by omega
      rw [← this]; exact hy
  · rintro (h | h)
    · left; omega
    · by_cases h1 : x / 2 = 0
      · exact .inl h1
      · exact .inr ⟨_, h, by omega⟩

set_option maxRecDepth 100000 in
set_option maxHeartbeats 8000000 in
theorem ref11_Chk (V : CV) (C : Circ) (w : World) (h : CAt w V C) (hf : CFewI C) :
    Calls Tryz.prog 21 #[.agg (cvals V C)] w fun e w' => e = .returned (.int .i64 (ckCode C)) ∧ Kp (fun _ => False) w w' := by
  obtain ⟨code, hcode⟩ : ∃ code, ckCode C = code := ⟨_, rfl⟩
  rw [hcode]
  have HCode := Lib.hid hcode
  clear hcode
  have HC0 := Lib.hid (Blk.new w (cvals V C) 27)
  have HK0 := Lib.hid ((Kp.refl (fun _ => False) w).alloc (.cells (cvals V C) 27))
  by_cases m0 : 0 ≤ C.max
  case neg =>
    have d1 : decide (C.max < 0) = true := decide_eq_true (by omega)
    obtain rfl : code = 5 := by rw [← HCode.out]; exact ck5 (.inl (by omega))
    have c0 := HC0.out.cell (i := 0) (v := .int .i64 C.max) rfl
    clear m0 h hf
    go_enter Tryz.func21, Tryz.ntmps21
    go_wp2_with fail
    go_ret
    exact ⟨rfl, HK0.out⟩
  have e1 : decide (C.max < 0) = false := decide_eq_false (by omega)
  by_cases m1 : C.max ≤ 16777216
  case neg =>
    have d1 : decide ((16777216 : Int) < C.max) = true := decide_eq_true (by omega)
    obtain rfl : code = 5 := by rw [← HCode.out]; exact ck5 (.inr (.inl (by omega)))
    have c0 := HC0.out.cell (i := 0) (v := .int .i64 C.max) rfl
    clear m1 h hf
    go_enter Tryz.func21, Tryz.ntmps21
    go_wp2_with fail
    go_ret
    exact ⟨rfl, HK0.out⟩
  have e2 : decide ((16777216 : Int) < C.max) = false := decide_eq_false (by omega)
  have HM := Lib.hid (And.intro m0 m1)
  have hl := (h.fl.le63).1
  have HA := Lib.hid h
  have HF := Lib.hid hf
  obtain ⟨n3, hn3⟩ : ∃ n, C.owned.length = n := ⟨_, rfl⟩
  obtain ⟨n4, hn4⟩ : ∃ n, C.used.length = n := ⟨_, rfl⟩
  obtain ⟨gn_, hgn⟩ : ∃ g, C.gates.length = g := ⟨_, rfl⟩
  have h3 : n3 ≤ 30000000 := by rw [← hn3]; have := hf.i; have := hf.l; have := hf.g; unfold Circ.owned; simp; omega
  have h4 : n4 ≤ 6000000 := by
    rw [← hn4]
    have := hf.o; have := hf.b; have := hf.c; have := hf.l; have := hf.g
    have e : (C.gates.flatMap (fun g => [g.2.1, g.2.2])).length = 2 * C.gates.length := by
      generalize C.gates = L
      induction L with
      | nil => rfl
      | cons a r ih => rw [List.flatMap_cons, List.length_append, ih]; simp; omega
    unfold Circ.used
    rw [List.length_append, e]
    simp
    omega
  have HN3 := Lib.hid hn3
  have HN4 := Lib.hid hn4
  have HGN := Lib.hid hgn
  have HU : Hid (cvals V C = #[.int .i64 C.max, .slice V.ai C.ins.length V.ci, .slice V.al C.lats.length V.cl, .slice V.ao C.outs.length V.co, .slice V.ab C.bads.length V.cb, .slice V.ac C.cons.length V.cc, .slice V.ag gn_ V.cg, .slice V.ay V.ny V.cy, .string V.cm]) := Lib.hid (by unfold cvals; rw [hgn])
  have HOw := Lib.hid (show ∀ u, Kp (fun _ => False) w u → Calls Tryz.prog 51 #[.agg #[.int .i64 C.max, .slice V.ai C.ins.length V.ci, .slice V.al C.lats.length V.cl, .slice V.ao C.outs.length V.co, .slice V.ab C.bads.length V.cb, .slice V.ac C.cons.length V.cc, .slice V.ag gn_ V.cg, .slice V.ay V.ny V.cy, .string V.cm]] u fun e u' => (∃ a c, e = .returned (.slice a n3 c) ∧ (n3 ≤ c ∧ c ≤ 9223372036854775807) ∧ IntsAt u' a C.owned) ∧ Kp (fun _ => False) u u' from fun u hu => by
    have := (ref11_Owned V C u (h.kp hu) hf).mono (R' := fun e u' => (∃ a c, e = .returned (.slice a n3 c) ∧ (n3 ≤ c ∧ c ≤ 9223372036854775807) ∧ IntsAt u' a C.owned) ∧ Kp (fun _ => False) u u') (by
      rintro e u' ⟨v, rfl, hO, hK⟩
      obtain ⟨a, c, e, hc1, hc2, -, hr⟩ := hO.form
      rw [iv_length, hn3] at e hc1
      unfold maxLen at hc2
      exact ⟨⟨a, c, by rw [e], ⟨hc1, hc2⟩, hr⟩, hK⟩)
    rw [HU.out] at this
    exact this)
  have HUs := Lib.hid (show ∀ u, Kp (fun _ => False) w u → Calls Tryz.prog 52 #[.agg #[.int .i64 C.max, .slice V.ai C.ins.length V.ci, .slice V.al C.lats.length V.cl, .slice V.ao C.outs.length V.co, .slice V.ab C.bads.length V.cb, .slice V.ac C.cons.length V.cc, .slice V.ag gn_ V.cg, .slice V.ay V.ny V.cy, .string V.cm]] u fun e u' => (∃ a c, e = .returned (.slice a n4 c) ∧ IntsAt u' a C.used) ∧ Kp (fun _ => False) u u' from fun u hu => by
    have := (ref11_Used V C u (h.kp hu) hf).mono (R' := fun e u' => (∃ a c, e = .returned (.slice a n4 c) ∧ IntsAt u' a C.used) ∧ Kp (fun _ => False) u u') (by
      rintro e u' ⟨v, rfl, hO, hK⟩
      obtain ⟨a, c, e, -, -, -, hr⟩ := hO.form
      rw [iv_length, hn4] at e
      exact ⟨⟨a, c, by rw [e], hr⟩, hK⟩)
    rw [HU.out] at this
    exact this)
  have HC1 : Hid (Blk (w.alloc (.cells (cvals V C) 27)) w.heap.size #[.int .i64 C.max, .slice V.ai C.ins.length V.ci, .slice V.al C.lats.length V.cl, .slice V.ao C.outs.length V.co, .slice V.ab C.bads.length V.cb, .slice V.ac C.cons.length V.cc, .slice V.ag gn_ V.cg, .slice V.ay V.ny V.cy, .string V.cm] 27) := Lib.hid (by have := HC0.out; rw [← HU.out]; exact this)
  clear h hf hn3 hn4 hgn
  have c0 := HC0.out.cell (i := 0) (v := .int .i64 C.max) rfl
  go_enter Tryz.func21, Tryz.ntmps21
  go_upto_region 3 with fail
  obtain ⟨wz, hwz⟩ : ∃ wz : World, wz = w.alloc (.cells (cvals V C) 27) := ⟨_, rfl⟩
  rw [← hwz] at HC1 HK0 c0 ⊢
  clear hwz HC0 e1 e2 c0
  go_cut [3, 4] from 19 to 22 (fun s3 s4 wx => ∃ a3 c3 a4 c4, s3 = .slice a3 n3 c3 ∧ s4 = .slice a4 n4 c4 ∧ (n3 ≤ c3 ∧ c3 ≤ 9223372036854775807) ∧ IntsAt wx a3 C.owned ∧ IntsAt wx a4 C.used ∧ Blk wx w.heap.size #[.int .i64 C.max, .slice V.ai C.ins.length V.ci, .slice V.al C.lats.length V.cl, .slice V.ao C.outs.length V.co, .slice V.ab C.bads.length V.cb, .slice V.ac C.cons.length V.cc, .slice V.ag gn_ V.cg, .slice V.ay V.ny V.cy, .string V.cm] 27 ∧ Kp (fun _ => False) w wx)
  case first =>
    go_region_held3 (fun u => u.cell? ⟨w.heap.size, 0, none⟩ = some (.int .i64 C.max) ∧ u.cell? ⟨w.heap.size, 1, none⟩ = some (.slice V.ai C.ins.length V.ci) ∧ u.cell? ⟨w.heap.size, 2, none⟩ = some (.slice V.al C.lats.length V.cl) ∧ u.cell? ⟨w.heap.size, 3, none⟩ = some (.slice V.ao C.outs.length V.co) ∧ u.cell? ⟨w.heap.size, 4, none⟩ = some (.slice V.ab C.bads.length V.cb) ∧ u.cell? ⟨w.heap.size, 5, none⟩ = some (.slice V.ac C.cons.length V.cc) ∧ u.cell? ⟨w.heap.size, 6, none⟩ = some (.slice V.ag gn_ V.cg) ∧ u.cell? ⟨w.heap.size, 7, none⟩ = some (.slice V.ay V.ny V.cy) ∧ u.cell? ⟨w.heap.size, 8, none⟩ = some (.string V.cm)) (with_reducible first | exact HC1.out.cells9 | exact HC1.out.drew.cells9 | exact HXa.out.cells9 | exact HXa.out.drew.cells9 | exact HXb.out.cells9 | exact HXb.out.drew.cells9) ((first
      | ((with_reducible refine Calls.mono (HOw.out _ (by first | exact HK0.out | exact HK0.out.drew | exact HKb.out | exact HKb.out.drew)) ?_); rintro o u1 ⟨⟨a1, c1, rfl, hcp, hi1⟩, hK1⟩; have HCP := Lib.hid hcp; clear hcp; have HI1 := Lib.hid hi1; have HKK1 := Lib.hid hK1; have HXa := Lib.hid (by with_reducible first | exact HC1.out.kp hK1 (fun h => h) | exact HC1.out.drew.kp hK1 (fun h => h) | exact HXb.out.kp hK1 (fun h => h) | exact HXb.out.drew.kp hK1 (fun h => h)); have HKa := Lib.hid (by with_reducible first | exact HK0.out.trans hK1 (fun _ _ h => h) | exact HK0.out.drew.trans hK1 (fun _ _ h => h) | exact HKb.out.trans hK1 (fun _ _ h => h) | exact HKb.out.drew.trans hK1 (fun _ _ h => h)); clear hK1 hi1)
      | ((with_reducible refine Calls.mono (HUs.out _ (by first | exact HK0.out | exact HK0.out.drew | exact HKa.out | exact HKa.out.drew)) ?_); rintro o u2 ⟨⟨a2, c2, rfl, hi2⟩, hK2⟩; have HI2 := Lib.hid hi2; have HKK2 := Lib.hid hK2; have HXb := Lib.hid (by with_reducible first | exact HC1.out.kp hK2 (fun h => h) | exact HC1.out.drew.kp hK2 (fun h => h) | exact HXa.out.kp hK2 (fun h => h) | exact HXa.out.drew.kp hK2 (fun h => h)); have HKb := Lib.hid (by with_reducible first | exact HK0.out.trans hK2 (fun _ _ h => h) | exact HK0.out.drew.trans hK2 (fun _ _ h => h) | exact HKa.out.trans hK2 (fun _ _ h => h) | exact HKa.out.drew.trans hK2 (fun _ _ h => h)); clear hK2 hi2)))
    all_goals go_wp2_with fail
    all_goals go_meet
    all_goals first
      | exact ⟨a1, c1, a2, c2, rfl, rfl, HCP.out, RowAt.kp HI1.out HKK2.out (fun _ _ h => h), HI2.out, HXb.out, HKb.out⟩
      | exact ⟨a1, c1, a2, c2, rfl, rfl, HCP.out, HI1.out, RowAt.kp HI2.out HKK1.out (fun _ _ h => h), HXa.out, HKa.out⟩
      | exact ⟨a1, c1, a2, c2, rfl, rfl, HCP.out, RowAt.kp HI1.out HKK2.out (fun _ _ h => h), HI2.out, HXb.out.drew, HKb.out.drew⟩
      | exact ⟨a1, c1, a2, c2, rfl, rfl, HCP.out, HI1.out, RowAt.kp HI2.out HKK1.out (fun _ _ h => h), HXa.out.drew, HKa.out.drew⟩
  case rest =>
  obtain ⟨a3, cp3, a4, cp4, rfl, rfl, ⟨hcp1, hcp2⟩, hi3, hi4, hC, hK⟩ := hcut
  obtain ⟨wa, rfl⟩ : ∃ wa : World, wa = wc := ⟨_, rfl⟩
  have HI3 := Lib.hid hi3
  have HI4 := Lib.hid hi4
  have HC := Lib.hid hC
  have HKa := Lib.hid hK
  clear HC1 HK0 HOw HUs hi3 hi4 hC hK
  have mm1 : IntKind.i64.wrap (2 * C.max) = 2 * C.max := IntWalk.i64_in _ (by omega)
  have mm2 : IntKind.i64.wrap (2 * C.max + 1) = 2 * C.max + 1 := IntWalk.i64_in _ (by omega)
  have HMM := Lib.hid (And.intro mm1 mm2)
  clear mm1 mm2
  go_wp2_with fail
  go_loopw [5] (fun v5 wr => ∃ k : Nat, v5 = .int .i64 k ∧ k ≤ n3 ∧ (C.owned.take k).all (ownB C.max) = true ∧ Kp (fun _ => False) wa wr) (fun v5 _ => n3 - (intOf v5).toNat)
  case atStart => exact ⟨0, rfl, by omega, by simp, Kp.refl _ _⟩
  case round =>
    obtain ⟨k, rfl, hk, hall, hK⟩ := hrel
    obtain ⟨wp, rfl⟩ : ∃ wp : World, wp = wr := ⟨_, rfl⟩
    have HK := Lib.hid hK
    by_cases hlt : k < n3
    · have hkl : k < C.owned.length := by rw [HN3.out]; exact hlt
      obtain ⟨b, off, rfl, hcell⟩ := IntsAt.get (RowAt.kp HI3.out hK (fun _ _ h => h)) hkl
      have hat := all_take (take_gi hkl) (ownB C.max)
      rw [hall, Bool.true_and] at hat
      have HBad := Lib.hid (fun h => (range_bad1 (C := C) hkl h))
      obtain ⟨x, hx⟩ : ∃ x, gi C.owned k = x := ⟨_, rfl⟩
      rw [hx] at hcell hat HBad
      have HAt := Lib.hid hat
      have c0 := (HC.out.kp hK (fun h => h)).cell (i := 0) (v := .int .i64 C.max) rfl
      have i0 : (0 : Int) ≤ (k : Int) := by omega
      have i1 : (k : Int) < (n3 : Int) := by omega
      clear hall hat hx hK hkl
      by_cases g1 : x < 2
      · obtain rfl : code = 5 := by rw [← HCode.out]; exact ck5 (.inr (.inr (HBad.out (by unfold ownB; rw [decide_eq_false (by omega)]; rfl))))
        have d1 : decide (x < 2) = true := decide_eq_true g1
        clear g1
        go_wp2_with fail
        go_quiet (fail)
        go_wp2_with fail
        go_ret
        exact ⟨rfl, HKa.out.trans (HK.out.drewN _) (fun _ _ h => h)⟩
      · have d1 : decide (x < 2) = false := decide_eq_false g1
        have htm : x.tmod 2 = x % 2 := Int.tmod_eq_emod_of_nonneg (by omega)
        obtain ⟨r, hr⟩ : ∃ r, x % 2 = r := ⟨_, rfl⟩
        rw [hr] at htm
        by_cases g2 : r = 1
        · obtain rfl : code = 5 := by rw [← HCode.out]; exact ck5 (.inr (.inr (HBad.out (by unfold ownB; rw [decide_eq_false (p := x % 2 = 0) (by omega)]; simp))))
          have d2 : ((r : Int) == 1) = true := by simp [g2]
          clear g1 g2 hr
          go_wp2_with fail
          go_quiet (fail)
          go_wp2_with fail
          go_ret
          exact ⟨rfl, HKa.out.trans (HK.out.drewN _) (fun _ _ h => h)⟩
        · have d2 : ((r : Int) == 1) = false := by simp [g2]
          have mm1 := HMM.out.1
          by_cases g3 : 2 * C.max < x
          · obtain rfl : code = 5 := by rw [← HCode.out]; exact ck5 (.inr (.inr (HBad.out (by unfold ownB; rw [decide_eq_false (p := x ≤ 2 * C.max) (by omega)]; simp))))
            have d3 : decide (2 * C.max < x) = true := decide_eq_true g3
            clear g1 g2 g3 hr
            go_wp2_with fail
            go_quiet (fail)
            go_wp2_with fail
            go_ret
            exact ⟨rfl, HKa.out.trans (HK.out.drewN _) (fun _ _ h => h)⟩
          · have d3 : decide (2 * C.max < x) = false := decide_eq_false g3
            have HNx := Lib.hid (show (C.owned.take (k + 1)).all (ownB C.max) = true by rw [HAt.out]; unfold ownB; rw [decide_eq_true (by omega), decide_eq_true (p := x % 2 = 0) (by omega), decide_eq_true (by omega)]; rfl)
            clear g1 g2 g3 hr
            go_wp2_with fail
            go_quiet (fail)
            clear mm1
            go_wp2_with fail
            go_roundw
            case rel => exact ⟨k + 1, by go_num, by omega, HNx.out, HK.out.drewN _⟩
            case measure => simp [intOf]; omega
    · have HAll1 := Lib.hid (show C.owned.all (ownB C.max) = true by rwa [List.take_of_length_le (by rw [HN3.out]; omega)] at hall)
      clear hall hK
      go_wp2_with fail
      go_loopw [6] (fun v6 wr => ∃ k : Nat, v6 = .int .i64 k ∧ k ≤ n4 ∧ (C.used.take k).all (useB C.max) = true ∧ Kp (fun _ => False) wa wr) (fun v6 _ => n4 - (intOf v6).toNat)
      case atStart => exact ⟨0, rfl, by omega, by simp, HK.out⟩
      case round =>
        obtain ⟨k, rfl, hk, hall, hK⟩ := hrel
        clear HK hlt
        obtain ⟨wp, rfl⟩ : ∃ wp : World, wp = wr := ⟨_, rfl⟩
        have HK := Lib.hid hK
        by_cases hlt : k < n4
        · have hkl : k < C.used.length := by rw [HN4.out]; exact hlt
          obtain ⟨b, off, rfl, hcell⟩ := IntsAt.get (RowAt.kp HI4.out hK (fun _ _ h => h)) hkl
          have hat := all_take (take_gi hkl) (useB C.max)
          rw [hall, Bool.true_and] at hat
          have HBad := Lib.hid (fun h => (range_bad2 (C := C) hkl h))
          obtain ⟨x, hx⟩ : ∃ x, gi C.used k = x := ⟨_, rfl⟩
          rw [hx] at hcell hat HBad
          have HAt := Lib.hid hat
          have c0 := (HC.out.kp hK (fun h => h)).cell (i := 0) (v := .int .i64 C.max) rfl
          have i0 : (0 : Int) ≤ (k : Int) := by omega
          have i1 : (k : Int) < (n4 : Int) := by omega
          clear hall hat hx hK hkl
          by_cases g1 : x < 0
          · obtain rfl : code = 5 := by rw [← HCode.out]; exact ck5 (.inr (.inr (HBad.out (by unfold useB; rw [decide_eq_false (by omega)]; rfl))))
            have d1 : decide (x < 0) = true := decide_eq_true g1
            clear g1
            go_wp2_with fail
            go_quiet (fail)
            go_wp2_with fail
            go_ret
            exact ⟨rfl, HKa.out.trans (HK.out.drewN _) (fun _ _ h => h)⟩
          · have d1 : decide (x < 0) = false := decide_eq_false g1
            have mm1 := HMM.out.1
            have mm2 := HMM.out.2
            by_cases g3 : 2 * C.max + 1 < x
            · obtain rfl : code = 5 := by rw [← HCode.out]; exact ck5 (.inr (.inr (HBad.out (by unfold useB; rw [decide_eq_false (p := x ≤ 2 * C.max + 1) (by omega)]; simp))))
              have d3 : decide (2 * C.max + 1 < x) = true := decide_eq_true g3
              clear g1 g3
              go_wp2_with fail
              go_quiet (fail)
              go_wp2_with fail
              go_ret
              exact ⟨rfl, HKa.out.trans (HK.out.drewN _) (fun _ _ h => h)⟩
            · have d3 : decide (2 * C.max + 1 < x) = false := decide_eq_false g3
              have HNx := Lib.hid (show (C.used.take (k + 1)).all (useB C.max) = true by rw [HAt.out]; unfold useB; rw [decide_eq_true (by omega), decide_eq_true (by omega)]; rfl)
              clear g1 g3
              go_wp2_with fail
              go_quiet (fail)
              clear mm1 mm2
              go_wp2_with fail
              go_roundw
              case rel => exact ⟨k + 1, by go_num, by omega, HNx.out, HK.out.drewN _⟩
              case measure => simp [intOf]; omega
        · have HAll2 := Lib.hid (show C.used.all (useB C.max) = true by rwa [List.take_of_length_le (by rw [HN4.out]; omega)] at hall)
          clear hall hK
          go_wp2_with fail
          go_loopw [7] (fun v7 wr => ∃ k : Nat, v7 = .int .i64 k ∧ k ≤ C.lats.length ∧ (C.lats.take k).all resB = true ∧ Kp (fun _ => False) wa wr) (fun v7 _ => C.lats.length - (intOf v7).toNat)
          case atStart => exact ⟨0, rfl, by omega, by simp, HK.out⟩
          case round =>
            obtain ⟨k, rfl, hk, hall, hK⟩ := hrel
            clear HK hlt
            obtain ⟨wp, rfl⟩ : ∃ wp : World, wp = wr := ⟨_, rfl⟩
            have HK := Lib.hid hK
            have c2 := (HC.out.kp hK (fun h => h)).cell (i := 2) (v := .slice V.al C.lats.length V.cl) rfl
            by_cases hlt : k < C.lats.length
            · obtain ⟨b, off, ea, l0, l1, l2⟩ := tri_cells (HA.out.kp (HKa.out.trans hK (fun _ _ h => h))).l hlt
              have hat := all_take (take_g3 hlt) resB
              rw [hall, Bool.true_and] at hat
              have HBad := Lib.hid (fun h => (range_bad3 (C := C) hlt h))
              obtain ⟨x0, hx0⟩ : ∃ x, (g3 C.lats k).1 = x := ⟨_, rfl⟩
              obtain ⟨x2, hx2⟩ : ∃ x, (g3 C.lats k).2.2 = x := ⟨_, rfl⟩
              have hres : resB (g3 C.lats k) = (decide (x2 = 0) || (decide (x2 = 1) || decide (x2 = x0))) := by unfold resB; rw [hx0, hx2]
              rw [hres] at hat HBad
              rw [hx0] at l0
              rw [hx2] at l2
              rw [ea] at c2
              have HAt := Lib.hid hat
              have i0 : (0 : Int) ≤ (k : Int) := by omega
              have i1 : (k : Int) < (C.lats.length : Int) := by omega
              clear hall hat hx0 hx2 hres hK l1 ea
              by_cases g1 : x2 = 0
              · have d1 : ((x2 : Int) != 0) = false := by simp [g1]
                have HNx := Lib.hid (show (C.lats.take (k + 1)).all resB = true by rw [HAt.out]; simp [g1])
                clear g1
                go_wp2_with fail
                go_roundw
                case rel => exact ⟨k + 1, by go_num, by omega, HNx.out, HK.out⟩
                case measure => simp [intOf]; omega
              · have d1 : ((x2 : Int) != 0) = true := by simp [g1]
                by_cases g2 : x2 = 1
                · have d2 : ((x2 : Int) != 1) = false := by simp [g2]
                  have HNx := Lib.hid (show (C.lats.take (k + 1)).all resB = true by rw [HAt.out]; simp [g2])
                  clear g1 g2
                  go_wp2_with fail
                  go_roundw
                  case rel => exact ⟨k + 1, by go_num, by omega, HNx.out, HK.out⟩
                  case measure => simp [intOf]; omega
                · have d2 : ((x2 : Int) != 1) = true := by simp [g2]
                  by_cases g3 : x2 = x0
                  · have d3 : ((x2 : Int) != x0) = false := by simp [g3]
                    have HNx := Lib.hid (show (C.lats.take (k + 1)).all resB = true by rw [HAt.out]; simp [g3])
                    clear g1 g2 g3
                    go_wp2_with fail
                    go_roundw
                    case rel => exact ⟨k + 1, by go_num, by omega, HNx.out, HK.out⟩
                    case measure => simp [intOf]; omega
                  · have d3 : ((x2 : Int) != x0) = true := by simp [g3]
                    obtain rfl : code = 5 := by rw [← HCode.out]; exact ck5 (.inr (.inr (HBad.out (by simp [g1, g2, g3]))))
                    clear g1 g2 g3
                    go_wp2_with fail
                    go_ret
                    exact ⟨rfl, HKa.out.trans HK.out (fun _ _ h => h)⟩
            · have HAll3 := Lib.hid (show C.lats.all resB = true by rwa [List.take_of_length_le (by omega)] at hall)
              have hrg := range_all HAll1.out HAll2.out HAll3.out
              have HIR := Lib.hid (InRange.of HM.out.1 HM.out.2 hrg)
              have HCk := Lib.hid (ckR HM.out.1 HM.out.2 hrg)
              rw [HCode.out] at HCk
              clear hall hK hrg HAll1 HAll2 HAll3 HCode
              go_wp2_with fail
              go_loopw [9] (fun v9 wr => ∃ k : Nat, v9 = .int .i64 k ∧ k ≤ n3 ∧ (C.owned.take k).Nodup ∧ Kp (fun _ => False) wa wr) (fun v9 _ => n3 - (intOf v9).toNat)
              case atStart => exact ⟨0, rfl, by omega, by simp, HK.out⟩
              case round =>
                obtain ⟨k, rfl, hk, hnd, hK⟩ := hrel
                clear HK hlt c2
                obtain ⟨wp, rfl⟩ : ∃ wp : World, wp = wr := ⟨_, rfl⟩
                have HK := Lib.hid hK
                by_cases hlt : k < n3
                · have hkl : k < C.owned.length := by rw [HN3.out]; exact hlt
                  have hi := RowAt.kp HI3.out hK (fun _ _ h => h)
                  have hit : IntsAt wp a3 (C.owned.take k) := by
                    have := RowAt.take hi k
                    unfold IntsAt
                    rw [List.map_take]
                    exact this
                  obtain ⟨b, off, rfl, hcell⟩ := IntsAt.get hi hkl
                  have HND := Lib.hid (fun h => nodup_take hkl hnd h)
                  have HNN := Lib.hid (fun h => not_nodup (l := C.owned) hkl h)
                  obtain ⟨x, hx⟩ : ∃ x, gi C.owned k = x := ⟨_, rfl⟩
                  rw [hx] at hcell HND HNN
                  have HHas := Lib.hid (fun q => ref02_HasQ (some ⟨b, off, none⟩) k cp3 q (C.owned.take k) x wp hit (by simp; omega) (by omega))
                  have i0 : (0 : Int) ≤ (k : Int) := by omega
                  have i1 : (k : Int) < (n3 : Int) := by omega
                  have i2 : (k : Int) ≤ (cp3 : Int) := by omega
                  clear hx hi hit hnd hK hkl
                  by_cases hin : x ∈ C.owned.take k
                  · obtain rfl : code = 7 := by have := HCk.out; rw [if_pos (HNN.out hin)] at this; exact this
                    rw [decide_eq_true hin] at HHas
                    clear hin
                    go_wp2_with fail
                    go_quiet ((go_at_call 53; exact Calls.quiet_of_same (HHas.out _)))
                    go_wp2_with fail
                    go_ret
                    exact ⟨rfl, HKa.out.trans (HK.out.drewN _) (fun _ _ h => h)⟩
                  · have HNx := Lib.hid (HND.out hin)
                    rw [decide_eq_false hin] at HHas
                    clear hin
                    go_wp2_with fail
                    go_quiet ((go_at_call 53; exact Calls.quiet_of_same (HHas.out _)))
                    go_wp2_with fail
                    go_roundw
                    case rel => exact ⟨k + 1, by go_num, by omega, HNx.out, HK.out.drewN _⟩
                    case measure => simp [intOf]; omega
                · have HNod := Lib.hid (show C.owned.Nodup by rwa [List.take_of_length_le (by rw [HN3.out]; omega)] at hnd)
                  have HCk2 := Lib.hid (show code = if C.used.all (knownB C.owned) = false then 9 else if (ordO C.gates).length < C.gates.length then 8 else 0 by have := HCk.out; rw [if_neg (by simp; exact HNod.out)] at this; exact this)
                  clear hnd hK HCk
                  go_wp2_with fail
                  go_loopw [10] (fun v10 wr => ∃ k : Nat, v10 = .int .i64 k ∧ k ≤ n4 ∧ (C.used.take k).all (knownB C.owned) = true ∧ Kp (fun _ => False) wa wr) (fun v10 _ => n4 - (intOf v10).toNat)
                  case atStart => exact ⟨0, rfl, by omega, by simp, HK.out⟩
                  case round =>
                    obtain ⟨k, rfl, hk, hall, hK⟩ := hrel
                    clear HK hlt
                    obtain ⟨wp, rfl⟩ : ∃ wp : World, wp = wr := ⟨_, rfl⟩
                    have HK := Lib.hid hK
                    by_cases hlt : k < n4
                    · have hkl : k < C.used.length := by rw [HN4.out]; exact hlt
                      have hi := RowAt.kp HI3.out hK (fun _ _ h => h)
                      obtain ⟨b, off, rfl, hcell⟩ := IntsAt.get (RowAt.kp HI4.out hK (fun _ _ h => h)) hkl
                      have hat := all_take (take_gi hkl) (knownB C.owned)
                      rw [hall, Bool.true_and] at hat
                      have hxu : gi C.used k ∈ C.used := by unfold gi; rw [List.getElem?_eq_getElem hkl]; exact List.getElem_mem hkl
                      have hxr := HIR.out.use _ hxu
                      have hkn := knownB_iff HIR.out hxu
                      have HBad := Lib.hid (fun (h : knownB C.owned (gi C.used k) = false) => show C.used.all (knownB C.owned) = false by rw [List.all_eq_false]; exact ⟨_, hxu, by simp [h]⟩)
                      obtain ⟨x, hx⟩ : ∃ x, gi C.used k = x := ⟨_, rfl⟩
                      rw [hx] at hcell hat hkn hxr HBad
                      rw [hkn] at hat HBad
                      have HAt := Lib.hid hat
                      have x0 : 0 ≤ x := hxr.1
                      have x1 : x ≤ 100000000 := by have := hxr.2; have := HM.out; omega
                      have i0 : (0 : Int) ≤ (k : Int) := by omega
                      have i1 : (k : Int) < (n4 : Int) := by omega
                      clear hall hat hx hK hkl hkn hxr hxu
                      by_cases g1 : 1 < x
                      · have htm : x.tmod 2 = x % 2 := Int.tmod_eq_emod_of_nonneg x0
                        obtain ⟨r, hr⟩ : ∃ r, x % 2 = r := ⟨_, rfl⟩
                        have hr2 : 0 ≤ r ∧ r ≤ 1 := by omega
                        rw [hr] at htm HAt HBad
                        have hw : IntKind.i64.wrap (x - r) = x - r := IntWalk.i64_in _ (by omega)
                        have HHas := Lib.hid (fun q => ref02_HasQ a3 n3 cp3 q C.owned (x - r) wp hi HN3.out (by omega))
                        have d1 : decide (1 < x) = true := decide_eq_true g1
                        rw [d1] at HAt HBad
                        clear hi hr hr2
                        by_cases hin : x - r ∈ C.owned
                        · rw [decide_eq_true hin] at HHas HAt
                          clear hin g1
                          go_wp2_with fail
                          go_quiet ((go_at_call 53; exact Calls.quiet_of_same (HHas.out _)))
                          clear hw htm
                          go_wp2_with fail
                          go_roundw
                          case rel => exact ⟨k + 1, by go_num, by omega, HAt.out, HK.out.drewN _⟩
                          case measure => simp [intOf]; omega
                        · rw [decide_eq_false hin] at HHas HBad
                          obtain rfl : code = 9 := by have := HCk2.out; rw [if_pos (HBad.out rfl)] at this; exact this
                          clear hin g1
                          go_wp2_with fail
                          go_quiet ((go_at_call 53; exact Calls.quiet_of_same (HHas.out _)))
                          go_wp2_with fail
                          go_ret
                          exact ⟨rfl, HKa.out.trans (HK.out.drewN _) (fun _ _ h => h)⟩
                      · have d1 : decide (1 < x) = false := decide_eq_false g1
                        rw [d1] at HAt
                        clear hi g1
                        go_wp2_with fail
                        go_quiet (fail)
                        go_wp2_with fail
                        go_roundw
                        case rel => exact ⟨k + 1, by go_num, by omega, HAt.out, HK.out.drewN _⟩
                        case measure => simp [intOf]; omega
                    · have HAll := Lib.hid (show C.used.all (knownB C.owned) = true by rwa [List.take_of_length_le (by rw [HN4.out]; omega)] at hall)
                      have HCk3 := Lib.hid (show code = if (ordO C.gates).length < C.gates.length then 8 else 0 by have := HCk2.out; rw [if_neg (by rw [HAll.out]; simp)] at this; exact this)
                      obtain ⟨on_, hon⟩ : ∃ g, (ordO C.gates).length = g := ⟨_, rfl⟩
                      have hle : on_ ≤ gn_ := by rw [← HGN.out, ← hon]; exact (ordO_at C.gates).len
                      rw [HGN.out, hon] at HCk3
                      have hgm : gn_ ≤ 1000000 := by rw [← HGN.out]; exact HF.out.g
                      have HO := Lib.hid (show ∀ u, Kp (fun _ => False) w u → Calls Tryz.prog 54 #[.agg #[.int .i64 C.max, .slice V.ai C.ins.length V.ci, .slice V.al C.lats.length V.cl, .slice V.ao C.outs.length V.co, .slice V.ab C.bads.length V.cb, .slice V.ac C.cons.length V.cc, .slice V.ag gn_ V.cg, .slice V.ay V.ny V.cy, .string V.cm]] u fun e u' => (∃ a c, e = .returned (.slice a on_ c)) ∧ Kp (fun _ => False) u u' from fun u hu => by
                        have hor := (ref11_Order V C u (HA.out.kp hu) HF.out.g (fun i hi => by
                          have h1 := HIR.out.own _ (gate_own hi)
                          have h2 := HIR.out.use _ (gate_useA hi)
                          have h3 := HIR.out.use _ (gate_useB hi)
                          have := HM.out
                          omega)).mono (R' := fun e u' => (∃ a c, e = .returned (.slice a on_ c)) ∧ Kp (fun _ => False) u u') (by
                            rintro e u' ⟨v, rfl, hO, hK⟩
                            obtain ⟨a, c, e, -⟩ := hO.form
                            rw [nv_length, hon] at e
                            exact ⟨⟨a, c, by rw [e]⟩, hK⟩)
                        rw [HU.out] at hor
                        exact hor)
                      have HXu := Lib.hid (HC.out.kp hK (fun h => h))
                      have HK5 := Lib.hid (HKa.out.trans hK (fun _ _ h => h))
                      clear hon hall hK HCk2 HK
                      go_upto_region 30 with fail
                      obtain ⟨wy, rfl⟩ : ∃ wy : World, wy = wp := ⟨_, rfl⟩
                      go_region_held3 (fun u => u.cell? ⟨w.heap.size, 0, none⟩ = some (.int .i64 C.max) ∧ u.cell? ⟨w.heap.size, 1, none⟩ = some (.slice V.ai C.ins.length V.ci) ∧ u.cell? ⟨w.heap.size, 2, none⟩ = some (.slice V.al C.lats.length V.cl) ∧ u.cell? ⟨w.heap.size, 3, none⟩ = some (.slice V.ao C.outs.length V.co) ∧ u.cell? ⟨w.heap.size, 4, none⟩ = some (.slice V.ab C.bads.length V.cb) ∧ u.cell? ⟨w.heap.size, 5, none⟩ = some (.slice V.ac C.cons.length V.cc) ∧ u.cell? ⟨w.heap.size, 6, none⟩ = some (.slice V.ag gn_ V.cg) ∧ u.cell? ⟨w.heap.size, 7, none⟩ = some (.slice V.ay V.ny V.cy) ∧ u.cell? ⟨w.heap.size, 8, none⟩ = some (.string V.cm)) (with_reducible first | exact HXu.out.cells9 | exact HXu.out.drew.cells9 | exact HXb.out.cells9 | exact HXb.out.drew.cells9) (((with_reducible refine Calls.mono (HO.out _ (by first | exact HK5.out | exact HK5.out.drew)) ?_); rintro o u2 ⟨⟨a2, c2, rfl⟩, hK6⟩; have HXb := Lib.hid (by first | exact HXu.out.kp hK6 (fun h => h) | exact HXu.out.drew.kp hK6 (fun h => h)); have HKb := Lib.hid (by first | exact HK5.out.trans hK6 (fun _ _ h => h) | exact HK5.out.drew.trans hK6 (fun _ _ h => h)); clear hK6))
                      all_goals
                        by_cases hlt2 : on_ < gn_
                        · obtain rfl : code = 8 := by have := HCk3.out; rw [if_pos hlt2] at this; exact this
                          have dd : decide ((on_ : Int) < (gn_ : Int)) = true := decide_eq_true (by omega)
                          go_wp2_with fail
                          go_ret
                          exact ⟨rfl, by first | exact HKb.out | exact HKb.out.drew⟩
                        · obtain rfl : code = 0 := by have := HCk3.out; rw [if_neg hlt2] at this; exact this
                          have dd : decide ((on_ : Int) < (gn_ : Int)) = false := decide_eq_false (by omega)
                          go_wp2_with fail
                          go_ret
                          exact ⟨rfl, by first | exact HKb.out | exact HKb.out.drew⟩

end Go.Proofs.YtckmdcmkjmpiaaaGreatDoor

/-
  latchetref15.Parse of any text. (Printed by mkprs.py.)
-/
namespace Go.Proofs.YtckmdcmkjmpiaaaGreatDoor
open Go.RowKit

set_option maxRecDepth 100000 in
set_option maxHeartbeats 16000000 in
theorem ref15_Prs (s : ByteArray) (w : World) (hs : s.size ≤ 100000 ∨ 1048576 < s.size) :
    Calls Tryz.prog 6 #[.string s] w (PrsP s w) := by
  obtain ⟨wz, hwz⟩ : ∃ wz : World, wz = (w.alloc (.cells #[.int .i64 0, .slice none 0 0, .slice none 0 0, .slice none 0 0, .slice none 0 0, .slice none 0 0, .slice none 0 0, .slice none 0 0, .string ⟨#[]⟩] 27)).alloc (.cells #[.int .i64 0, .slice none 0 0, .slice none 0 0, .slice none 0 0, .slice none 0 0, .slice none 0 0, .slice none 0 0, .slice none 0 0, .string ⟨#[]⟩] 27) := ⟨_, rfl⟩
  have HB := Lib.hid (ref_four w zc9 zc9 27 27)
  rw [show (w.alloc (.cells zc9 27)).alloc (.cells zc9 27) = wz from hwz.symm] at HB
  have HZ := Lib.hid hwz
  have HR1 := Lib.hid HB.out.1
  have HN1 := Lib.hid HB.out.2.1
  have HK1 := Lib.hid HB.out.2.2.1
  have HW := Lib.hid HB.out.2.2.2
  clear hwz HB
  by_cases hbig : 1048576 < s.size
  · have HP := Lib.hid (prsT_big hbig)
    have d1 : decide ((1048576 : Int) < (s.size : Int)) = true := by simp; omega
    clear hbig hs
    go_enter Tryz.func6, Tryz.ntmps6
    go_upto_region 2 with fail
    rw [show (w.alloc (.cells #[.int .i64 0, .slice none 0 0, .slice none 0 0, .slice none 0 0, .slice none 0 0, .slice none 0 0, .slice none 0 0, .slice none 0 0, .string ⟨#[]⟩] 27)).alloc (.cells #[.int .i64 0, .slice none 0 0, .slice none 0 0, .slice none 0 0, .slice none 0 0, .slice none 0 0, .slice none 0 0, .slice none 0 0, .string ⟨#[]⟩] 27) = wz from HZ.out.symm]
    have hz : Blk wz w.heap.size #[.int .i64 0, .slice none 0 0, .slice none 0 0, .slice none 0 0, .slice none 0 0, .slice none 0 0, .slice none 0 0, .slice none 0 0, .string ⟨#[]⟩] 27 := HR1.out
    have hn : Blk wz (w.heap.size + 1) #[.int .i64 0, .slice none 0 0, .slice none 0 0, .slice none 0 0, .slice none 0 0, .slice none 0 0, .slice none 0 0, .slice none 0 0, .string ⟨#[]⟩] 27 := HN1.out
    obtain ⟨z0, z1, z2, z3, z4, z5, z6, z7, z8⟩ := hz.cells9
    obtain ⟨x0, x1, x2, x3, x4, x5, x6, x7, x8⟩ := hn.cells9
    have fr := hz.free
    have fr0 := fr 0
    have fr1 := fr 1
    have fr2 := fr 2
    have fr3 := fr 3
    have fr4 := fr 4
    have fr5 := fr 5
    have fr6 := fr 6
    have fr7 := fr 7
    have fr8 := fr 8
    have HBe := Lib.hid (hz.set9 (.int .i64 0) (.slice none 0 0) (.slice none 0 0) (.slice none 0 0) (.slice none 0 0) (.slice none 0 0) (.slice none 0 0) (.slice none 0 0) (.string ⟨#[]⟩))
    have HKe := Lib.hid (Kp.set9 wz w.heap.size (.int .i64 0) (.slice none 0 0) (.slice none 0 0) (.slice none 0 0) (.slice none 0 0) (.slice none 0 0) (.slice none 0 0) (.slice none 0 0) (.string ⟨#[]⟩))
    unfold Go.Proofs.YtckmdcmkjmpiaaaGreatDoor.set9 at HBe HKe
    clear fr hz hn
    go_wp2_with fail
    obtain ⟨s0, s1, s2, s3, s4, s5, s6, s7, s8⟩ := HBe.out.cells9
    exact bodyPost_ret (v := .tuple #[.agg zc9, .int .i64 0, .int .i64 4]) (by simp [results, Tryz.results6, go_sem, s0, s1, s2, s3, s4, s5, s6, s7, s8, zc9]) rfl ⟨HK1.out.trans HKe.out (fun j hj e => by omega), by simp only [HP.out]⟩
  have hsz : s.size ≤ 100000 := by omega
  have d1 : decide ((1048576 : Int) < (s.size : Int)) = false := by simp; omega
  obtain ⟨b, Lh, p0, e0, hh⟩ : ∃ b L p e, headT s = (b, L, p, e) := ⟨_, _, _, _, rfl⟩
  obtain ⟨M, hM⟩ : ∃ x, nth Lh 0 = x := ⟨_, rfl⟩
  obtain ⟨nI, hI⟩ : ∃ x, nth Lh 1 = x := ⟨_, rfl⟩
  obtain ⟨nL, hL⟩ : ∃ x, nth Lh 2 = x := ⟨_, rfl⟩
  obtain ⟨nO, hO⟩ : ∃ x, nth Lh 3 = x := ⟨_, rfl⟩
  obtain ⟨nA, hA⟩ : ∃ x, nth Lh 4 = x := ⟨_, rfl⟩
  obtain ⟨nB, hBd⟩ : ∃ x, nth Lh 5 = x := ⟨_, rfl⟩
  obtain ⟨nC, hC⟩ : ∃ x, nth Lh 6 = x := ⟨_, rfl⟩
  have HRH := Lib.hid (fun u : World => show Calls Tryz.prog 17 #[.string s] u (fun o u' => o = .returned (.tuple #[.agg (hdA b M nI nL nO nA nB nC), .int .i64 (p0 : Nat), .int .i64 (e0 : Nat)]) ∧ Kp (fun _ => False) u u') from by
    have h1 : Calls Tryz.prog 17 #[.string s] u (fun o u' => RHeadP s u o u') := by
      by_cases hi : isHead s
      · exact ref_ReadHead_yes s u hi (by omega)
      · exact ref_ReadHead_no s u hi
    refine h1.mono ?_
    rintro o u' ⟨rfl, hk⟩
    refine ⟨?_, hk⟩
    rw [hh, ← hM, ← hI, ← hL, ← hO, ← hA, ← hBd, ← hC]
    rfl)
  have HBig := Lib.hid hbig
  have HS := Lib.hid hsz
  have HH := Lib.hid hh
  have HNt := Lib.hid (And.intro hM (And.intro hI (And.intro hL (And.intro hO (And.intro hA (And.intro hBd hC))))))
  clear hbig hs hsz hh hM hI hL hO hA hBd hC
  unfold hdA at HRH
  go_enter Tryz.func6, Tryz.ntmps6
  go_upto_region 2 with fail
  rw [show (w.alloc (.cells #[.int .i64 0, .slice none 0 0, .slice none 0 0, .slice none 0 0, .slice none 0 0, .slice none 0 0, .slice none 0 0, .slice none 0 0, .string ⟨#[]⟩] 27)).alloc (.cells #[.int .i64 0, .slice none 0 0, .slice none 0 0, .slice none 0 0, .slice none 0 0, .slice none 0 0, .slice none 0 0, .slice none 0 0, .string ⟨#[]⟩] 27) = wz from HZ.out.symm]
  clear HZ
  go_wp2_with fail
  refine (HRH.out _).mono ?_
  rintro o w1 ⟨rfl, hK1⟩
  obtain ⟨wh, hwh⟩ : ∃ wh : World, wh = w1.alloc (.cells #[.bool b, .int .i64 (M : Nat), .int .i64 (nI : Nat), .int .i64 (nL : Nat), .int .i64 (nO : Nat), .int .i64 (nA : Nat), .int .i64 (nB : Nat), .int .i64 (nC : Nat)] 42) := ⟨_, rfl⟩
  have hka : Kp (fun _ => False) wz wh := by rw [hwh]; exact hK1.alloc _
  have HKh := Lib.hid (HK1.out.trans hka (fun _ _ h => h))
  have HRh := Lib.hid (HR1.out.kp hka (fun h => h))
  have HNh := Lib.hid (HN1.out.kp hka (fun h => h))
  obtain ⟨bh, hbh⟩ : ∃ bh, w1.heap.size = bh := ⟨_, rfl⟩
  have HHh := Lib.hid (show Blk wh bh #[.bool b, .int .i64 (M : Nat), .int .i64 (nI : Nat), .int .i64 (nL : Nat), .int .i64 (nO : Nat), .int .i64 (nA : Nat), .int .i64 (nB : Nat), .int .i64 (nC : Nat)] 42 by rw [hwh, ← hbh]; exact Blk.new w1 _ _)
  have HLw := Lib.hid (show w.heap.size + 1 < bh by rw [← hbh]; have := hK1.size; have := HW.out; omega)
  clear hka hK1 HR1 HN1 HK1 HRH d1
  go_upto_region 5 with fail
  rw [← hwh]
  clear hwh hbh
  by_cases he0 : e0 = 0
  rotate_left
  · have q0 : ((e0 : Int) != 0) = true := by simp; omega
    have HP := Lib.hid (prsT_head HBig.out HH.out he0)
    clear he0
    have hz : Blk wh w.heap.size #[.int .i64 0, .slice none 0 0, .slice none 0 0, .slice none 0 0, .slice none 0 0, .slice none 0 0, .slice none 0 0, .slice none 0 0, .string ⟨#[]⟩] 27 := HRh.out
    have hn : Blk wh (w.heap.size + 1) #[.int .i64 0, .slice none 0 0, .slice none 0 0, .slice none 0 0, .slice none 0 0, .slice none 0 0, .slice none 0 0, .slice none 0 0, .string ⟨#[]⟩] 27 := HNh.out
    obtain ⟨z0, z1, z2, z3, z4, z5, z6, z7, z8⟩ := hz.cells9
    obtain ⟨x0, x1, x2, x3, x4, x5, x6, x7, x8⟩ := hn.cells9
    have fr := hz.free
    have fr0 := fr 0
    have fr1 := fr 1
    have fr2 := fr 2
    have fr3 := fr 3
    have fr4 := fr 4
    have fr5 := fr 5
    have fr6 := fr 6
    have fr7 := fr 7
    have fr8 := fr 8
    have HBe := Lib.hid (hz.set9 (.int .i64 0) (.slice none 0 0) (.slice none 0 0) (.slice none 0 0) (.slice none 0 0) (.slice none 0 0) (.slice none 0 0) (.slice none 0 0) (.string ⟨#[]⟩))
    have HKe := Lib.hid (Kp.set9 wh w.heap.size (.int .i64 0) (.slice none 0 0) (.slice none 0 0) (.slice none 0 0) (.slice none 0 0) (.slice none 0 0) (.slice none 0 0) (.slice none 0 0) (.string ⟨#[]⟩))
    unfold Go.Proofs.YtckmdcmkjmpiaaaGreatDoor.set9 at HBe HKe
    clear fr hz hn
    go_wp2_with fail
    obtain ⟨s0, s1, s2, s3, s4, s5, s6, s7, s8⟩ := HBe.out.cells9
    exact bodyPost_ret (v := .tuple #[.agg zc9, .int .i64 (p0 : Nat), .int .i64 (e0 : Nat)]) (by simp [results, Tryz.results6, go_sem, s0, s1, s2, s3, s4, s5, s6, s7, s8, zc9]) rfl ⟨HKh.out.trans HKe.out (fun j hj e => by omega), by simp only [HP.out]⟩
  subst he0
  have hsm := headT_small (s := s) (by rw [HH.out])
  rw [HH.out] at hsm
  obtain ⟨hbnd, hp0⟩ := hsm
  simp only at hbnd hp0
  have HBn := Lib.hid (show M ≤ 16777216 ∧ nI ≤ 16777216 ∧ nL ≤ 16777216 ∧ nO ≤ 16777216 ∧ nA ≤ 16777216 ∧ nB ≤ 16777216 ∧ nC ≤ 16777216 from ⟨HNt.out.1 ▸ hbnd 0, HNt.out.2.1 ▸ hbnd 1, HNt.out.2.2.1 ▸ hbnd 2, HNt.out.2.2.2.1 ▸ hbnd 3, HNt.out.2.2.2.2.1 ▸ hbnd 4, HNt.out.2.2.2.2.2.1 ▸ hbnd 5, HNt.out.2.2.2.2.2.2 ▸ hbnd 6⟩)
  have HP0 := Lib.hid hp0
  clear hbnd hp0
  obtain ⟨C2, p2, e2, h2⟩ : ∃ C q e, rdP s (b, Lh, p0, 0) = (C, q, e) := ⟨_, _, _, rfl⟩
  have hrd : (if b = true then rdC s (M : Int) nI nL nO nA nB nC (p0, 0) else rdA s (M : Int) nI nL nO nA nB nC (p0, 0)) = (C2, p2, e2) := by
    rw [← h2, ← HNt.out.1, ← HNt.out.2.1, ← HNt.out.2.2.1, ← HNt.out.2.2.2.1, ← HNt.out.2.2.2.2.1, ← HNt.out.2.2.2.2.2.1, ← HNt.out.2.2.2.2.2.2]
    rfl
  have H2 := Lib.hid h2
  have HRd := Lib.hid hrd
  clear h2 hrd
  have HRA := Lib.hid (fun u : World => (ref13_Read s p0 b M nI nL nO nA nB nC u (by have := HS.out; omega) HP0.out HBn.out.1 HBn.out.2.1 HBn.out.2.2.1 HBn.out.2.2.2.1 HBn.out.2.2.2.2.1 HBn.out.2.2.2.2.2.1 HBn.out.2.2.2.2.2.2).mono (fun e u' h => BinReadP.q h))
  have HRC := Lib.hid (fun u : World => (ref14_Read s p0 b M nI nL nO nA nB nC u (by have := HS.out; omega) HP0.out HBn.out.1 HBn.out.2.1 HBn.out.2.2.1 HBn.out.2.2.2.1 HBn.out.2.2.2.2.1 HBn.out.2.2.2.2.2.1 HBn.out.2.2.2.2.2.2).mono (fun e u' h => BinReadP.q h))
  unfold hdA at HRA HRC
  go_upto_region 7 with fail
  obtain ⟨y0, y1, y2, y3, y4, y5, y6, y7⟩ := HHh.out.cells8
  go_wp2_with fail
  refine (HRA.out _).mono ?_
  rintro o w2 ⟨V', C', rfl, hK2, hOk⟩
  obtain ⟨w3, hw3⟩ : ∃ w3 : World, w3 = w2.alloc (.cells #[.int .i64 C'.max, .slice V'.ai C'.ins.length V'.ci, .slice V'.al C'.lats.length V'.cl, .slice V'.ao C'.outs.length V'.co, .slice V'.ab C'.bads.length V'.cb, .slice V'.ac C'.cons.length V'.cc, .slice V'.ag C'.gates.length V'.cg, .slice V'.ay V'.ny V'.cy, .string V'.cm] 27) := ⟨_, rfl⟩
  have hk3 : Kp (fun _ => False) wh w3 := by rw [hw3]; exact hK2.alloc _
  have HX3 := Lib.hid (show Blk w3 w2.heap.size #[.int .i64 C'.max, .slice V'.ai C'.ins.length V'.ci, .slice V'.al C'.lats.length V'.cl, .slice V'.ao C'.outs.length V'.co, .slice V'.ab C'.bads.length V'.cb, .slice V'.ac C'.cons.length V'.cc, .slice V'.ag C'.gates.length V'.cg, .slice V'.ay V'.ny V'.cy, .string V'.cm] 27 by rw [hw3]; exact Blk.new w2 _ _)
  have HH3 := Lib.hid (HHh.out.kp hk3 (fun h => h))
  have HR3 := Lib.hid (HRh.out.kp hk3 (fun h => h))
  have HN3 := Lib.hid (HNh.out.kp hk3 (fun h => h))
  have HK3 := Lib.hid (HKh.out.trans hk3 (fun _ _ h => h))
  have HOk := Lib.hid (show (rdA s (M : Int) nI nL nO nA nB nC (p0, 0)).2.2 = 0 → C' = (rdA s (M : Int) nI nL nO nA nB nC (p0, 0)).1 ∧ Keep2 w2.heap.size w.heap.size w3 V' C' from fun h0 => by
    obtain ⟨h1, h2⟩ := hOk h0
    refine ⟨h1, h2.two (T := fun _ => False) (by rw [hw3]; exact (Kp.refl _ w2).alloc _) (fun _ h => h.elim) (.inr (Nat.le_refl _)) ?_⟩
    have := HHh.out.lt
    have := HLw.out
    omega)
  have HLc := Lib.hid (show w.heap.size + 1 < w2.heap.size by have := HHh.out.lt; have := HLw.out; have := hK2.size; omega)
  have HLbh := Lib.hid (show bh < w2.heap.size by have := HHh.out.lt; have := hK2.size; omega)
  unfold cvals
  go_upto_region 8 with fail
  obtain ⟨bc, hbc⟩ : ∃ bc, w2.heap.size = bc := ⟨_, rfl⟩
  rw [hbc] at HX3 HOk HLc HLbh ⊢
  rw [← hw3]
  clear hw3 hbc hk3 hK2 hOk y0 y1 y2 y3 y4 y5 y6 y7 HRA HHh HRh HNh HKh
  have y0 := HH3.out.cell (i := 0) (v := .bool b) rfl
  go_upto_if 42 with fail
  clear y0
  go_cut [10, 11] from 43 to 50 (fun s10 s11 wx => ∃ V2 C9, s10 = .int .i64 (p2 : Nat) ∧ s11 = .int .i64 (e2 : Nat) ∧ Blk wx bc (cvals V2 C9) 27 ∧ Blk wx bh #[.bool b, .int .i64 (M : Nat), .int .i64 (nI : Nat), .int .i64 (nL : Nat), .int .i64 (nO : Nat), .int .i64 (nA : Nat), .int .i64 (nB : Nat), .int .i64 (nC : Nat)] 42 ∧ Blk wx w.heap.size zc9 27 ∧ Blk wx (w.heap.size + 1) zc9 27 ∧ Kp (fun _ => False) w wx ∧ w.heap.size + 1 < bc ∧ (e2 = 0 → C9 = C2 ∧ Keep2 bc w.heap.size wx V2 C2))
  case first =>
    cases b with
    | false =>
      have HRr := Lib.hid (show rdA s (M : Int) nI nL nO nA nB nC (p0, 0) = (C2, p2, e2) by have := HRd.out; rwa [if_neg (by simp)] at this)
      rw [HRr.out] at HOk
      go_wp2_with fail
      go_meet
      case rel => exact ⟨V', C', by rw [HRr.out], by rw [HRr.out], HX3.out, HH3.out, HR3.out, HN3.out, HK3.out, HLc.out, fun h0 => ⟨(HOk.out h0).1, (HOk.out h0).1 ▸ (HOk.out h0).2⟩⟩
    | true =>
      have hr : rdC s (M : Int) nI nL nO nA nB nC (p0, 0) = (C2, p2, e2) := by have := HRd.out; rwa [if_pos rfl] at this
      obtain ⟨y0, y1, y2, y3, y4, y5, y6, y7⟩ := HH3.out.cells8
      rw [hr] at HRC
      go_wp2_with fail
      refine (HRC.out _).mono ?_
      rintro o w4 ⟨V4, C4, rfl, hK4, hOk4⟩
      have hX4 : Blk w4 bc #[.int .i64 C'.max, .slice V'.ai C'.ins.length V'.ci, .slice V'.al C'.lats.length V'.cl, .slice V'.ao C'.outs.length V'.co, .slice V'.ab C'.bads.length V'.cb, .slice V'.ac C'.cons.length V'.cc, .slice V'.ag C'.gates.length V'.cg, .slice V'.ay V'.ny V'.cy, .string V'.cm] 27 := HX3.out.kp hK4 (fun h => h)
      obtain ⟨x0, x1, x2, x3, x4, x5, x6, x7, x8⟩ := hX4.cells9
      have fr := hX4.free
      have fr0 := fr 0
      have fr1 := fr 1
      have fr2 := fr 2
      have fr3 := fr 3
      have fr4 := fr 4
      have fr5 := fr 5
      have fr6 := fr 6
      have fr7 := fr 7
      have fr8 := fr 8
      have HBs := Lib.hid (hX4.set9 (.int .i64 C4.max) (.slice V4.ai C4.ins.length V4.ci) (.slice V4.al C4.lats.length V4.cl) (.slice V4.ao C4.outs.length V4.co) (.slice V4.ab C4.bads.length V4.cb) (.slice V4.ac C4.cons.length V4.cc) (.slice V4.ag C4.gates.length V4.cg) (.slice V4.ay V4.ny V4.cy) (.string V4.cm))
      have HKs := Lib.hid (Kp.set9 w4 bc (.int .i64 C4.max) (.slice V4.ai C4.ins.length V4.ci) (.slice V4.al C4.lats.length V4.cl) (.slice V4.ao C4.outs.length V4.co) (.slice V4.ab C4.bads.length V4.cb) (.slice V4.ac C4.cons.length V4.cc) (.slice V4.ag C4.gates.length V4.cg) (.slice V4.ay V4.ny V4.cy) (.string V4.cm))
      have HH4 := Lib.hid ((HH3.out.kp hK4 (fun h => h)).kp HKs.out (by have := HLbh.out; omega))
      have HR4 := Lib.hid ((HR3.out.kp hK4 (fun h => h)).kp HKs.out (by have := HLc.out; omega))
      have HN4 := Lib.hid ((HN3.out.kp hK4 (fun h => h)).kp HKs.out (by have := HLc.out; omega))
      have HK4 := Lib.hid ((HK3.out.trans hK4 (fun _ _ h => h)).trans HKs.out (fun j hj e => by have := HLc.out; omega))
      have HO4 := Lib.hid (show e2 = 0 → C4 = C2 ∧ Keep2 bc w.heap.size _ V4 C2 from fun h0 => by
        obtain ⟨h1, h2⟩ := hOk4 h0
        subst h1
        have hb := HX3.out.lt
        exact ⟨rfl, h2.two HKs.out (fun j e => .inl (by have e2 : j = bc := e; omega)) (.inl hb) (by have := HLc.out; omega)⟩)
      unfold Go.Proofs.YtckmdcmkjmpiaaaGreatDoor.set9 at HBs HKs HH4 HR4 HN4 HK4 HO4
      unfold cvals
      clear hX4 fr hK4 hOk4
      go_wp2_with fail
      go_meet
      case rel => exact ⟨V4, C4, rfl, rfl, HBs.out, HH4.out, HR4.out, HN4.out, HK4.out, HLc.out, HO4.out⟩
  case rest =>
  obtain ⟨V2, C9, rfl, rfl, hC, hH, hR, hN, hK, hlb, hOk⟩ := hcut
  have HC := Lib.hid hC
  have HHx := Lib.hid hH
  have HR := Lib.hid hR
  have HN := Lib.hid hN
  have HK := Lib.hid hK
  have HLb := Lib.hid hlb
  have HOk := Lib.hid hOk
  clear hC hH hR hN hK hlb hOk
  obtain ⟨wx, rfl⟩ : ∃ wx : World, wx = wc := ⟨_, rfl⟩
  by_cases he2 : e2 = 0
  rotate_left
  · have q2 : ((e2 : Int) != 0) = true := by simp; omega
    have HP := Lib.hid (prsT_read HBig.out HH.out H2.out he2)
    clear he2 HOk
    have hz : Blk wx w.heap.size #[.int .i64 0, .slice none 0 0, .slice none 0 0, .slice none 0 0, .slice none 0 0, .slice none 0 0, .slice none 0 0, .slice none 0 0, .string ⟨#[]⟩] 27 := HR.out
    have hn : Blk wx (w.heap.size + 1) #[.int .i64 0, .slice none 0 0, .slice none 0 0, .slice none 0 0, .slice none 0 0, .slice none 0 0, .slice none 0 0, .slice none 0 0, .string ⟨#[]⟩] 27 := HN.out
    obtain ⟨z0, z1, z2, z3, z4, z5, z6, z7, z8⟩ := hz.cells9
    obtain ⟨x0, x1, x2, x3, x4, x5, x6, x7, x8⟩ := hn.cells9
    have fr := hz.free
    have fr0 := fr 0
    have fr1 := fr 1
    have fr2 := fr 2
    have fr3 := fr 3
    have fr4 := fr 4
    have fr5 := fr 5
    have fr6 := fr 6
    have fr7 := fr 7
    have fr8 := fr 8
    have HBe := Lib.hid (hz.set9 (.int .i64 0) (.slice none 0 0) (.slice none 0 0) (.slice none 0 0) (.slice none 0 0) (.slice none 0 0) (.slice none 0 0) (.slice none 0 0) (.string ⟨#[]⟩))
    have HKe := Lib.hid (Kp.set9 wx w.heap.size (.int .i64 0) (.slice none 0 0) (.slice none 0 0) (.slice none 0 0) (.slice none 0 0) (.slice none 0 0) (.slice none 0 0) (.slice none 0 0) (.string ⟨#[]⟩))
    unfold Go.Proofs.YtckmdcmkjmpiaaaGreatDoor.set9 at HBe HKe
    clear fr hz hn
    go_wp2_with fail
    obtain ⟨s0, s1, s2, s3, s4, s5, s6, s7, s8⟩ := HBe.out.cells9
    exact bodyPost_ret (v := .tuple #[.agg zc9, .int .i64 (p2 : Nat), .int .i64 (e2 : Nat)]) (by simp [results, Tryz.results6, go_sem, s0, s1, s2, s3, s4, s5, s6, s7, s8, zc9]) rfl ⟨HK.out.trans HKe.out (fun j hj e => by omega), by simp only [HP.out]⟩
  subst he2
  obtain ⟨rfl, hkeep⟩ := HOk.out rfl
  have HKeep := Lib.hid hkeep
  clear hkeep HOk
  have HFw := Lib.hid (show CFewI C9 from by
    have h1 := rdP_few HS.out (by rw [HH.out]) (by rw [HH.out, H2.out])
    rw [HH.out, H2.out] at h1
    exact h1.1)
  obtain ⟨T, hT⟩ : ∃ T, readT (hdP (b, Lh, p0, 0)) s (p2 : Nat) = T := ⟨_, rfl⟩
  obtain ⟨tl, tc, ta, te⟩ := T
  have HT := Lib.hid (fun u : World => show Calls Tryz.prog 20 #[.string s, .int .i64 (p2 : Nat), .agg #[.bool b, .int .i64 (M : Nat), .int .i64 (nI : Nat), .int .i64 (nL : Nat), .int .i64 (nO : Nat), .int .i64 (nA : Nat), .int .i64 (nB : Nat), .int .i64 (nC : Nat)]] u (ReadPost ⟨tl, tc, ta, te⟩ u) from by
    have h1 := ref12_Read (hdP (b, Lh, p0, 0)) s (p2 : Nat) u HS.out
    rw [hT] at h1
    unfold hdV hdP at h1
    simp only [HNt.out.1, HNt.out.2.1, HNt.out.2.2.1, HNt.out.2.2.2.1, HNt.out.2.2.2.2.1, HNt.out.2.2.2.2.2.1, HNt.out.2.2.2.2.2.2] at h1
    exact h1)
  have HTe := Lib.hid hT
  clear hT
  obtain ⟨y0, y1, y2, y3, y4, y5, y6, y7⟩ := HHx.out.cells8
  have HLc := Lib.hid HC.out.lt
  go_wp2_with fail
  refine (HT.out _).mono ?_
  rintro o w5 ⟨v, rfl, hO5, hK5⟩
  obtain ⟨ya, yc, rfl, hsl, hya, hrow⟩ := own_row hO5
  simp only at hsl hrow
  have HSl := Lib.hid hsl
  have HYa := Lib.hid hya
  have HRow := Lib.hid hrow
  have HC5 := Lib.hid (HC.out.kp hK5 (fun h => h))
  have HR5 := Lib.hid (HR.out.kp hK5 (fun h => h))
  have HN5 := Lib.hid (HN.out.kp hK5 (fun h => h))
  have HK5 := Lib.hid (HK.out.trans hK5 (fun _ _ h => h))
  have Hk5 := Lib.hid hK5
  clear hO5 hK5 hsl hya hrow HT y0 y1 y2 y3 y4 y5 y6 y7 HC HR HN HK HHx
  by_cases hte : te = 0
  rotate_left
  · have q3 : ((te : Int) != 0) = true := by simp; omega
    have HP := Lib.hid (prsT_tail HBig.out HH.out H2.out HTe.out hte)
    clear hte
    have hz : Blk w5 w.heap.size #[.int .i64 0, .slice none 0 0, .slice none 0 0, .slice none 0 0, .slice none 0 0, .slice none 0 0, .slice none 0 0, .slice none 0 0, .string ⟨#[]⟩] 27 := HR5.out
    have hn : Blk w5 (w.heap.size + 1) #[.int .i64 0, .slice none 0 0, .slice none 0 0, .slice none 0 0, .slice none 0 0, .slice none 0 0, .slice none 0 0, .slice none 0 0, .string ⟨#[]⟩] 27 := HN5.out
    obtain ⟨z0, z1, z2, z3, z4, z5, z6, z7, z8⟩ := hz.cells9
    obtain ⟨x0, x1, x2, x3, x4, x5, x6, x7, x8⟩ := hn.cells9
    have fr := hz.free
    have fr0 := fr 0
    have fr1 := fr 1
    have fr2 := fr 2
    have fr3 := fr 3
    have fr4 := fr 4
    have fr5 := fr 5
    have fr6 := fr 6
    have fr7 := fr 7
    have fr8 := fr 8
    have HBe := Lib.hid (hz.set9 (.int .i64 0) (.slice none 0 0) (.slice none 0 0) (.slice none 0 0) (.slice none 0 0) (.slice none 0 0) (.slice none 0 0) (.slice none 0 0) (.string ⟨#[]⟩))
    have HKe := Lib.hid (Kp.set9 w5 w.heap.size (.int .i64 0) (.slice none 0 0) (.slice none 0 0) (.slice none 0 0) (.slice none 0 0) (.slice none 0 0) (.slice none 0 0) (.slice none 0 0) (.string ⟨#[]⟩))
    unfold Go.Proofs.YtckmdcmkjmpiaaaGreatDoor.set9 at HBe HKe
    clear fr hz hn
    go_wp2_with fail
    obtain ⟨s0, s1, s2, s3, s4, s5, s6, s7, s8⟩ := HBe.out.cells9
    exact bodyPost_ret (v := .tuple #[.agg zc9, .int .i64 (ta : Nat), .int .i64 (te : Nat)]) (by simp [results, Tryz.results6, go_sem, s0, s1, s2, s3, s4, s5, s6, s7, s8, zc9]) rfl ⟨HK5.out.trans HKe.out (fun j hj e => by omega), by simp only [HP.out]⟩
  subst hte
  have hx5 : Blk w5 bc #[.int .i64 C9.max, .slice V2.ai C9.ins.length V2.ci, .slice V2.al C9.lats.length V2.cl, .slice V2.ao C9.outs.length V2.co, .slice V2.ab C9.bads.length V2.cb, .slice V2.ac C9.cons.length V2.cc, .slice V2.ag C9.gates.length V2.cg, .slice V2.ay V2.ny V2.cy, .string V2.cm] 27 := HC5.out
  have c7 := hx5.cell (i := 7) (v := .slice V2.ay V2.ny V2.cy) rfl
  have c8 := hx5.cell (i := 8) (v := .string V2.cm) rfl
  have f7 := hx5.free 7
  have f8 := hx5.free 8
  clear hx5
  go_upto_region 16 with fail
  obtain ⟨ws, hws⟩ : ∃ ws : World, ws = (w5.setCell ⟨bc, 7, none⟩ (.slice ya tl.length yc)).setCell ⟨bc, 8, none⟩ (.string tc) := ⟨_, rfl⟩
  have HKs : Hid (Kp (fun j => j = bc) w5 ws) := Lib.hid (by rw [hws]; exact ((Kp.refl (fun j => j = bc) w5).setCell (p := ⟨bc, 7, none⟩) (fun _ => rfl) _).setCell (p := ⟨bc, 8, none⟩) (fun _ => rfl) _)
  have HCs := Lib.hid (show Blk ws bc #[.int .i64 C9.max, .slice V2.ai C9.ins.length V2.ci, .slice V2.al C9.lats.length V2.cl, .slice V2.ao C9.outs.length V2.co, .slice V2.ab C9.bads.length V2.cb, .slice V2.ac C9.cons.length V2.cc, .slice V2.ag C9.gates.length V2.cg, .slice ya tl.length yc, .string tc] 27 by rw [hws]; exact (HC5.out.set_same 7 (.slice ya tl.length yc)).set_same 8 (.string tc))
  have HRs := Lib.hid (HR5.out.kp HKs.out (by have := HLb.out; omega))
  have HNs := Lib.hid (HN5.out.kp HKs.out (by have := HLb.out; omega))
  have HKk := Lib.hid (HK5.out.trans HKs.out (fun j hj e => by have := HLb.out; omega))
  have Hks := Lib.hid (show Kp (fun j => j = bc) wx ws from (Hk5.out.mono (fun _ _ h => h.elim)).trans HKs.out (fun _ _ h => h))
  have HRw := Lib.hid (HRow.out.kp HKs.out (fun p hp e => by have := HYa.out p hp; have e2 : p.block = bc := e; have := HLc.out; omega))
  have HAs := Lib.hid (show CAt ws ⟨V2.ai, V2.ci, V2.al, V2.cl, V2.ao, V2.co, V2.ab, V2.cb, V2.ac, V2.cc, V2.ag, V2.cg, ya, tl.length, yc, tc⟩ C9 from CAt.tail (HKeep.out (fun j => j = bc) ws (fun j e => .inl e) Hks.out) HRw.out rfl HSl.out)
  rw [← hws]
  clear hws c7 c8 f7 f8 HC5 HR5 HN5 HK5 HKs HRow
  have HCk := Lib.hid (show Calls Tryz.prog 21 #[.agg #[.int .i64 C9.max, .slice V2.ai C9.ins.length V2.ci, .slice V2.al C9.lats.length V2.cl, .slice V2.ao C9.outs.length V2.co, .slice V2.ab C9.bads.length V2.cb, .slice V2.ac C9.cons.length V2.cc, .slice V2.ag C9.gates.length V2.cg, .slice ya tl.length yc, .string tc]] ws (fun e w' => e = .returned (.int .i64 (ckCode C9)) ∧ Kp (fun _ => False) ws w') from ref11_Chk ⟨V2.ai, V2.ci, V2.al, V2.cl, V2.ao, V2.co, V2.ab, V2.cb, V2.ac, V2.cc, V2.ag, V2.cg, ya, tl.length, yc, tc⟩ C9 ws HAs.out HFw.out)
  obtain ⟨code, hcode⟩ : ∃ code, ckCode C9 = code := ⟨_, rfl⟩
  rw [hcode] at HCk
  have HCo := Lib.hid hcode
  clear hcode
  obtain ⟨z0, z1, z2, z3, z4, z5, z6, z7, z8⟩ := HCs.out.cells9
  go_wp2_with fail
  refine (HCk.out).mono ?_
  rintro o w7 ⟨rfl, hK7⟩
  have HC7 := Lib.hid (HCs.out.kp hK7 (fun h => h))
  have HR7 := Lib.hid (HRs.out.kp hK7 (fun h => h))
  have HN7 := Lib.hid (HNs.out.kp hK7 (fun h => h))
  have HK7 := Lib.hid (HKk.out.trans hK7 (fun _ _ h => h))
  have Hk7 := Lib.hid (Hks.out.trans (hK7.mono (fun _ _ h => h.elim)) (fun _ _ h => h))
  have HRw7 := Lib.hid (HRw.out.kp hK7 (fun _ _ h => h))
  clear hK7 HCs HRs HNs HKk Hks HRw HCk z0 z1 z2 z3 z4 z5 z6 z7 z8
  by_cases hco : code = 0
  rotate_left
  · have q4 : (code != 0) = true := by simpa using hco
    have HP := Lib.hid (show prsT s = .bad 0 code from by
      have h1 := prsT_check HBig.out HH.out H2.out HTe.out (by rw [HCo.out]; exact hco)
      rw [HCo.out] at h1
      exact h1)
    clear hco
    have hz : Blk w7 w.heap.size #[.int .i64 0, .slice none 0 0, .slice none 0 0, .slice none 0 0, .slice none 0 0, .slice none 0 0, .slice none 0 0, .slice none 0 0, .string ⟨#[]⟩] 27 := HR7.out
    have hn : Blk w7 (w.heap.size + 1) #[.int .i64 0, .slice none 0 0, .slice none 0 0, .slice none 0 0, .slice none 0 0, .slice none 0 0, .slice none 0 0, .slice none 0 0, .string ⟨#[]⟩] 27 := HN7.out
    obtain ⟨z0, z1, z2, z3, z4, z5, z6, z7, z8⟩ := hz.cells9
    obtain ⟨x0, x1, x2, x3, x4, x5, x6, x7, x8⟩ := hn.cells9
    have fr := hz.free
    have fr0 := fr 0
    have fr1 := fr 1
    have fr2 := fr 2
    have fr3 := fr 3
    have fr4 := fr 4
    have fr5 := fr 5
    have fr6 := fr 6
    have fr7 := fr 7
    have fr8 := fr 8
    have HBe := Lib.hid (hz.set9 (.int .i64 0) (.slice none 0 0) (.slice none 0 0) (.slice none 0 0) (.slice none 0 0) (.slice none 0 0) (.slice none 0 0) (.slice none 0 0) (.string ⟨#[]⟩))
    have HKe := Lib.hid (Kp.set9 w7 w.heap.size (.int .i64 0) (.slice none 0 0) (.slice none 0 0) (.slice none 0 0) (.slice none 0 0) (.slice none 0 0) (.slice none 0 0) (.slice none 0 0) (.string ⟨#[]⟩))
    unfold Go.Proofs.YtckmdcmkjmpiaaaGreatDoor.set9 at HBe HKe
    clear fr hz hn
    go_wp2_with fail
    obtain ⟨s0, s1, s2, s3, s4, s5, s6, s7, s8⟩ := HBe.out.cells9
    exact bodyPost_ret (v := .tuple #[.agg zc9, .int .i64 0, .int .i64 code]) (by simp [results, Tryz.results6, go_sem, s0, s1, s2, s3, s4, s5, s6, s7, s8, zc9]) rfl ⟨HK7.out.trans HKe.out (fun j hj e => by omega), by simp only [HP.out]⟩
  subst hco
  have HP := Lib.hid (prsT_fine HBig.out HH.out H2.out HTe.out HCo.out)
  obtain ⟨z0, z1, z2, z3, z4, z5, z6, z7, z8⟩ := HC7.out.cells9
  have hr7 : Blk w7 w.heap.size #[.int .i64 0, .slice none 0 0, .slice none 0 0, .slice none 0 0, .slice none 0 0, .slice none 0 0, .slice none 0 0, .slice none 0 0, .string ⟨#[]⟩] 27 := HR7.out
  obtain ⟨r0, r1, r2, r3, r4, r5, r6, r7, r8⟩ := hr7.cells9
  have fr := hr7.free
  have fr0 := fr 0
  have fr1 := fr 1
  have fr2 := fr 2
  have fr3 := fr 3
  have fr4 := fr 4
  have fr5 := fr 5
  have fr6 := fr 6
  have fr7 := fr 7
  have fr8 := fr 8
  have nb1 : bc ≠ w.heap.size := by have := HLb.out; omega
  have nb2 : w.heap.size ≠ bc := by have := HLb.out; omega
  have HBe := Lib.hid (hr7.set9 (.int .i64 C9.max) (.slice V2.ai C9.ins.length V2.ci) (.slice V2.al C9.lats.length V2.cl) (.slice V2.ao C9.outs.length V2.co) (.slice V2.ab C9.bads.length V2.cb) (.slice V2.ac C9.cons.length V2.cc) (.slice V2.ag C9.gates.length V2.cg) (.slice ya tl.length yc) (.string tc))
  have HKe := Lib.hid (Kp.set9 w7 w.heap.size (.int .i64 C9.max) (.slice V2.ai C9.ins.length V2.ci) (.slice V2.al C9.lats.length V2.cl) (.slice V2.ao C9.outs.length V2.co) (.slice V2.ab C9.bads.length V2.cb) (.slice V2.ac C9.cons.length V2.cc) (.slice V2.ag C9.gates.length V2.cg) (.slice ya tl.length yc) (.string tc))
  have HAe := Lib.hid (show CAt _ ⟨V2.ai, V2.ci, V2.al, V2.cl, V2.ao, V2.co, V2.ab, V2.cb, V2.ac, V2.cc, V2.ag, V2.cg, ya, tl.length, yc, tc⟩ C9 ∧ RowAt _ ya (tl.map symCells).flatten from
    have hrw := HRw7.out.kp HKe.out (fun p hp e => by have := HYa.out p hp; have e2 : p.block = w.heap.size := e; have := HLc.out; have := HLb.out; omega)
    ⟨CAt.tail (HKeep.out (fun j => j = bc ∨ j = w.heap.size) _ (fun j e => e.elim .inl (fun h => .inr (.inl h))) ((Hk7.out.mono (fun _ _ h => .inl h)).trans HKe.out (fun _ _ h => .inr h))) hrw rfl HSl.out, hrw⟩)
  have HKf := Lib.hid (HK7.out.trans HKe.out (fun j hj e => by omega))
  unfold Go.Proofs.YtckmdcmkjmpiaaaGreatDoor.set9 at HBe HKe HAe HKf
  clear fr hr7
  go_wp2_with fail
  obtain ⟨s0, s1, s2, s3, s4, s5, s6, s7, s8⟩ := HBe.out.cells9
  refine bodyPost_ret (v := .tuple #[.agg #[.int .i64 C9.max, .slice V2.ai C9.ins.length V2.ci, .slice V2.al C9.lats.length V2.cl, .slice V2.ao C9.outs.length V2.co, .slice V2.ab C9.bads.length V2.cb, .slice V2.ac C9.cons.length V2.cc, .slice V2.ag C9.gates.length V2.cg, .slice ya tl.length yc, .string tc], .int .i64 (ta : Nat), .int .i64 0]) (by simp [results, Tryz.results6, go_sem, s0, s1, s2, s3, s4, s5, s6, s7, s8]) rfl ⟨HKf.out, ?_⟩
  simp only [HP.out]
  exact ⟨⟨V2.ai, V2.ci, V2.al, V2.cl, V2.ao, V2.co, V2.ab, V2.cb, V2.ac, V2.cc, V2.ag, V2.cg, ya, tl.length, yc, tc⟩, rfl, HAe.out.1, HAe.out.2, rfl, rfl⟩

end Go.Proofs.YtckmdcmkjmpiaaaGreatDoor

/-
  latchetref02.Ints: whether two lists of ints are one.
-/
namespace Go.Proofs.YtckmdcmkjmpiaaaGreatDoor
open Go.RowKit

theorem ints_ext {l l' : List Int} (hl : l.length = l'.length) (h : ∀ j, j < l.length → gi l j = gi l' j) : l = l' := by
  apply List.ext_getElem?
  intro j
  by_cases hj : j < l.length
  · have := h j hj
    unfold gi at this
    rw [List.getElem?_eq_getElem hj, List.getElem?_eq_getElem (by omega)] at this ⊢
    simpa using this
  · rw [List.getElem?_eq_none (by omega), List.getElem?_eq_none (by omega)]

set_option maxHeartbeats 400000 in
theorem ref_Ints (a a' : Option Addr) (n n' cap cap' : Nat) (l l' : List Int) (w : World) (ha : IntsAt w a l) (ha' : IntsAt w a' l') (hl : l.length = n) (hl' : l'.length = n') (hn : n ≤ 9223372036854775807) :
    Calls Tryz.prog 22 #[.slice a n cap, .slice a' n' cap'] w fun e w' => e = .returned (.bool (l == l')) ∧ ∃ n, w' = w.drewN n := by
  have HL := Lib.hid hl; clear hl
  have HL' := Lib.hid hl'; clear hl'
  by_cases hne : n = n'
  · subst hne
    have b1 : ((n : Int) != (n : Int)) = false := by simp
    go_enter Tryz.func22, Tryz.ntmps22
    go_wp2
    go_loopw [5] (fun i wr => ∃ k m : Nat, k ≤ n ∧ i = .int .i64 k ∧ (∀ j, j < k → gi l j = gi l' j) ∧ wr = w.drewN m) (fun i _ => n - (intOf i).toNat)
    case atStart => exact ⟨0, 0, Nat.zero_le _, rfl, fun j hj => by omega, rfl⟩
    case round =>
      obtain ⟨k, m, hk, rfl, he, rfl⟩ := hrel
      have HE := Lib.hid he
      clear he
      by_cases hlt : k < n
      · obtain ⟨b, off, rfl, hc⟩ := ha.get (j := k) (by rw [HL.out]; exact hlt)
        obtain ⟨b', off', rfl, hc'⟩ := ha'.get (j := k) (by rw [HL'.out]; exact hlt)
        have i1 : (0 : Int) ≤ (k : Int) := by omega
        have i2 : (k : Int) < (n : Int) := by omega
        by_cases hq : gi l k = gi l' k
        · have q1 : (gi l k != gi l' k) = false := by simp [hq]
          have HQ := Lib.hid hq
          clear hq
          go_wp2
          go_quiet (fail)
          go_wp2
          go_roundw
          case rel =>
            refine ⟨k + 1, _, by omega, by go_num, fun j hj => ?_, rfl⟩
            by_cases e : j = k
            · subst e; exact HQ.out
            · exact HE.out j (by omega)
          case measure => simp [intOf]; omega
        · have q1 : (gi l k != gi l' k) = true := by simp [hq]
          have HQ := Lib.hid hq
          clear hq
          go_wp2
          go_quiet (fail)
          go_wp2
          go_ret
          have e : (l == l') = false := by
            rw [beq_eq_false_iff_ne]
            intro e
            exact HQ.out (by rw [e])
          rw [e]
          exact ⟨rfl, _, World.drewN_drewN ..⟩
      · go_wp2
        go_ret
        have e : (l == l') = true := by
          rw [beq_iff_eq]
          exact ints_ext (by rw [HL.out, HL'.out]) (fun j hj => HE.out j (by rw [HL.out] at hj; omega))
        rw [e]
        exact ⟨rfl, _, rfl⟩
  · have b1 : ((n : Int) != (n' : Int)) = true := by simp; omega
    have e : Hid ((l == l') = false) := by
      show _ = _
      rw [beq_eq_false_iff_ne]
      intro e
      exact hne (by rw [← HL.out, ← HL'.out, e])
    clear hne
    go_enter Tryz.func22, Tryz.ntmps22
    go_wp2
    go_ret
    rw [e.out]
    exact ⟨rfl, 0, rfl⟩

end Go.Proofs.YtckmdcmkjmpiaaaGreatDoor

/-
  latchetref11.Same: of two circuits that hold the same. (Printed by mksame.py.)
-/
namespace Go.Proofs.YtckmdcmkjmpiaaaGreatDoor
open Go.RowKit

theorem eqLatS (a b c : Int) (w : World) : (Op.equalIn 10000 59 (.agg #[.int .i64 a, .int .i64 b, .int .i64 c]) (.agg #[.int .i64 a, .int .i64 b, .int .i64 c])).run Tryz.prog w = .ok true w := by
  have u3 := Tryz.underlying3
  have a3 := Tryz.isAgg3
  have z3 := Tryz.sizeOf3
  have hS : Tryz.prog.underlying 59 = some (.struct (Tryz.prog.fieldsOf 59)) := by kernel_rfl
  have hp : Tryz.prog.stoodInHeld 59 = false := by kernel_rfl
  rw [show (10000 : Nat) = 9999 + 1 from rfl, run_equalIn_agg w 9999 59 _ _ hS hp]
  simp only [Program.fieldsOf, Tryz.underlying59]
  go_simp
  try simp
theorem eqGatS (a b c : Int) (w : World) : (Op.equalIn 10000 61 (.agg #[.int .i64 a, .int .i64 b, .int .i64 c]) (.agg #[.int .i64 a, .int .i64 b, .int .i64 c])).run Tryz.prog w = .ok true w := by
  have u3 := Tryz.underlying3
  have a3 := Tryz.isAgg3
  have z3 := Tryz.sizeOf3
  have hS : Tryz.prog.underlying 61 = some (.struct (Tryz.prog.fieldsOf 61)) := by kernel_rfl
  have hp : Tryz.prog.stoodInHeld 61 = false := by kernel_rfl
  rw [show (10000 : Nat) = 9999 + 1 from rfl, run_equalIn_agg w 9999 61 _ _ hS hp]
  simp only [Program.fieldsOf, Tryz.underlying61]
  go_simp
  try simp
theorem eqSymS (a b : Int) (s : ByteArray) (w : World) : (Op.equalIn 10000 63 (.agg #[.int .u8 a, .int .i64 b, .string s]) (.agg #[.int .u8 a, .int .i64 b, .string s])).run Tryz.prog w = .ok true w := by
  have u3 := Tryz.underlying3
  have a3 := Tryz.isAgg3
  have z3 := Tryz.sizeOf3
  have u5 := Tryz.underlying5
  have a5 := Tryz.isAgg5
  have z5 := Tryz.sizeOf5
  have u9 := Tryz.underlying9
  have a9 := Tryz.isAgg9
  have z9 := Tryz.sizeOf9
  have hS : Tryz.prog.underlying 63 = some (.struct (Tryz.prog.fieldsOf 63)) := by kernel_rfl
  have hp : Tryz.prog.stoodInHeld 63 = false := by kernel_rfl
  rw [show (10000 : Nat) = 9999 + 1 from rfl, run_equalIn_agg w 9999 63 _ _ hS hp]
  simp only [Program.fieldsOf, Tryz.underlying63]
  go_simp
  try simp

/-- the symbols in memory, of their kinds -/
def SymOK (w : World) (V : CV) : Prop := ∃ rows : List (List Value), RowAt w V.ay rows.flatten ∧ rows.length = V.ny ∧ ∀ (k : Nat) (r : List Value), rows[k]? = some r → ∃ (a b : Int) (s : ByteArray), r = [.int .u8 a, .int .i64 b, .string s]
theorem SymOK.kp {w w' : World} {V : CV} (h : SymOK w V) (k : Kp (fun _ => False) w w') : SymOK w' V := by
  obtain ⟨rows, h1, h2⟩ := h
  exact ⟨rows, h1.kp k (fun _ _ h => h), h2⟩
theorem SymOK.at {w : World} {V : CV} (h : SymOK w V) {k : Nat} (hk : k < V.ny) : ∃ (p off : Nat) (a b : Int) (s : ByteArray), V.ay = some ⟨p, off, none⟩ ∧ w.cell? ⟨p, off + k * 3, none⟩ = some (.int .u8 a) ∧ w.cell? ⟨p, off + k * 3 + 1, none⟩ = some (.int .i64 b) ∧ w.cell? ⟨p, off + k * 3 + 2, none⟩ = some (.string s) := by
  obtain ⟨rows, h1, h2, h3⟩ := h
  have hr : rows[k]? = some rows[k] := List.getElem?_eq_getElem (by omega)
  obtain ⟨a, b, s, e⟩ := h3 k _ hr
  rw [e] at hr
  have h4 : ∀ r ∈ rows, r.length = 3 := fun r hr => by
    obtain ⟨i, hi⟩ := List.mem_iff_getElem?.1 hr
    obtain ⟨_, _, _, rfl⟩ := h3 i r hi
    rfl
  obtain ⟨b0, off0, e0, c0⟩ := h1.cellAt h4 (j := k) (i := 0) hr rfl
  obtain ⟨b1, off1, e1, c1⟩ := h1.cellAt h4 (j := k) (i := 1) hr rfl
  obtain ⟨b2, off2, e2, c2⟩ := h1.cellAt h4 (j := k) (i := 2) hr rfl
  obtain ⟨rfl, rfl⟩ : b0 = b1 ∧ off0 = off1 := by rw [e0] at e1; simpa using e1
  obtain ⟨rfl, rfl⟩ : b0 = b2 ∧ off0 = off2 := by rw [e0] at e2; simpa using e2
  exact ⟨b0, off0, a, b, s, e0, c0, c1, c2⟩

/-- the symbols of both in memory: the same, of their kinds -/
def SymTwo (w : World) (V V' : CV) : Prop := ∃ rows : List (List Value), RowAt w V.ay rows.flatten ∧ RowAt w V'.ay rows.flatten ∧ rows.length = V.ny ∧ ∀ (k : Nat) (r : List Value), rows[k]? = some r → ∃ (a b : Int) (s : ByteArray), r = [.int .u8 a, .int .i64 b, .string s]
theorem SymTwo.kp {w w' : World} {V V' : CV} (h : SymTwo w V V') (k : Kp (fun _ => False) w w') : SymTwo w' V V' := by
  obtain ⟨rows, h1, h0, h2⟩ := h
  exact ⟨rows, h1.kp k (fun _ _ h => h), h0.kp k (fun _ _ h => h), h2⟩
theorem SymTwo.at {w : World} {V V' : CV} (h : SymTwo w V V') {k : Nat} (hk : k < V.ny) : ∃ (p off p' off' : Nat) (a b : Int) (s : ByteArray), V.ay = some ⟨p, off, none⟩ ∧ V'.ay = some ⟨p', off', none⟩ ∧ w.cell? ⟨p, off + k * 3, none⟩ = some (.int .u8 a) ∧ w.cell? ⟨p, off + k * 3 + 1, none⟩ = some (.int .i64 b) ∧ w.cell? ⟨p, off + k * 3 + 2, none⟩ = some (.string s) ∧ w.cell? ⟨p', off' + k * 3, none⟩ = some (.int .u8 a) ∧ w.cell? ⟨p', off' + k * 3 + 1, none⟩ = some (.int .i64 b) ∧ w.cell? ⟨p', off' + k * 3 + 2, none⟩ = some (.string s) := by
  obtain ⟨rows, h1, h0, h2, h3⟩ := h
  have hr : rows[k]? = some rows[k] := List.getElem?_eq_getElem (by omega)
  obtain ⟨a, b, s, e⟩ := h3 k _ hr
  rw [e] at hr
  have h4 : ∀ r ∈ rows, r.length = 3 := fun r hr => by
    obtain ⟨i, hi⟩ := List.mem_iff_getElem?.1 hr
    obtain ⟨_, _, _, rfl⟩ := h3 i r hi
    rfl
  obtain ⟨b0, off0, e0, c0⟩ := h1.cellAt h4 (j := k) (i := 0) hr rfl
  obtain ⟨b1, off1, e1, c1⟩ := h1.cellAt h4 (j := k) (i := 1) hr rfl
  obtain ⟨b2, off2, e2, c2⟩ := h1.cellAt h4 (j := k) (i := 2) hr rfl
  obtain ⟨rfl, rfl⟩ : b0 = b1 ∧ off0 = off1 := by rw [e0] at e1; simpa using e1
  obtain ⟨rfl, rfl⟩ : b0 = b2 ∧ off0 = off2 := by rw [e0] at e2; simpa using e2
  obtain ⟨d0, o0, g0, k0⟩ := h0.cellAt h4 (j := k) (i := 0) hr rfl
  obtain ⟨d1, o1, g1, k1⟩ := h0.cellAt h4 (j := k) (i := 1) hr rfl
  obtain ⟨d2, o2, g2, k2⟩ := h0.cellAt h4 (j := k) (i := 2) hr rfl
  obtain ⟨rfl, rfl⟩ : d0 = d1 ∧ o0 = o1 := by rw [g0] at g1; simpa using g1
  obtain ⟨rfl, rfl⟩ : d0 = d2 ∧ o0 = o2 := by rw [g0] at g2; simpa using g2
  exact ⟨b0, off0, d0, o0, a, b, s, e0, g0, c0, c1, c2, k0, k1, k2⟩

theorem ints_same {a a' : Option Addr} {c c' : Nat} {l : List Int} {w : World} (h : IntsAt w a l) (h' : IntsAt w a' l) (hn : l.length ≤ 20000000) :
    ∀ u, Kp (fun _ => False) w u → Calls Tryz.prog 22 #[.slice a l.length c, .slice a' l.length c'] u fun e w' => e = .returned (.bool true) ∧ ∃ n, w' = u.drewN n := fun u hu => by
  have := ref_Ints a a' l.length l.length c c' l l u (RowAt.kp h hu (fun _ _ h => h)) (RowAt.kp h' hu (fun _ _ h => h)) rfl rfl (by omega)
  simpa using this

set_option maxRecDepth 100000 in
set_option maxHeartbeats 8000000 in
theorem ref11_Same2 (V V' : CV) (C : Circ) (w : World) (h : CAt w V C) (h' : CAt w V' C) (hf : CFewI C) (hy : V'.ny = V.ny ∧ V'.cm = V.cm) (hs : SymTwo w V V') :
    Calls Tryz.prog 7 #[.agg (cvals V C), .agg (cvals V' C)] w fun e w' => e = .returned (.bool true) ∧ Kp (fun _ => False) w w' := by
  obtain ⟨y2, y4⟩ := hy
  unfold cvals
  rw [y2, y4]
  obtain ⟨wz, hwz⟩ : ∃ wz : World, wz = (w.alloc (.cells #[.int .i64 C.max, .slice V.ai C.ins.length V.ci, .slice V.al C.lats.length V.cl, .slice V.ao C.outs.length V.co, .slice V.ab C.bads.length V.cb, .slice V.ac C.cons.length V.cc, .slice V.ag C.gates.length V.cg, .slice V.ay V.ny V.cy, .string V.cm] 27)).alloc (.cells #[.int .i64 C.max, .slice V'.ai C.ins.length V'.ci, .slice V'.al C.lats.length V'.cl, .slice V'.ao C.outs.length V'.co, .slice V'.ab C.bads.length V'.cb, .slice V'.ac C.cons.length V'.cc, .slice V'.ag C.gates.length V'.cg, .slice V'.ay V.ny V'.cy, .string V.cm] 27) := ⟨_, rfl⟩
  have hK : Kp (fun _ => False) w wz := by rw [hwz]; exact ((Kp.refl _ w).alloc _).alloc _
  have hA : Blk wz w.heap.size #[.int .i64 C.max, .slice V.ai C.ins.length V.ci, .slice V.al C.lats.length V.cl, .slice V.ao C.outs.length V.co, .slice V.ab C.bads.length V.cb, .slice V.ac C.cons.length V.cc, .slice V.ag C.gates.length V.cg, .slice V.ay V.ny V.cy, .string V.cm] 27 := by rw [hwz]; exact (Blk.new w _ _).alloc _
  have hB : Blk wz (w.heap.size + 1) #[.int .i64 C.max, .slice V'.ai C.ins.length V'.ci, .slice V'.al C.lats.length V'.cl, .slice V'.ao C.outs.length V'.co, .slice V'.ab C.bads.length V'.cb, .slice V'.ac C.cons.length V'.cc, .slice V'.ag C.gates.length V'.cg, .slice V'.ay V.ny V'.cy, .string V.cm] 27 := by
    rw [hwz]
    have := Blk.new (w.alloc (.cells #[.int .i64 C.max, .slice V.ai C.ins.length V.ci, .slice V.al C.lats.length V.cl, .slice V.ao C.outs.length V.co, .slice V.ab C.bads.length V.cb, .slice V.ac C.cons.length V.cc, .slice V.ag C.gates.length V.cg, .slice V.ay V.ny V.cy, .string V.cm] 27)) #[.int .i64 C.max, .slice V'.ai C.ins.length V'.ci, .slice V'.al C.lats.length V'.cl, .slice V'.ao C.outs.length V'.co, .slice V'.ab C.bads.length V'.cb, .slice V'.ac C.cons.length V'.cc, .slice V'.ag C.gates.length V'.cg, .slice V'.ay V.ny V'.cy, .string V.cm] 27
    rwa [World.size_alloc] at this
  have HA := Lib.hid (h.kp hK)
  have HB := Lib.hid (h'.kp hK)
  have HS := Lib.hid (hs.kp hK)
  have HYm := Lib.hid h.fy.most
  have HYl := Lib.hid h.fy.le
  have HF := Lib.hid hf
  have HI := Lib.hid (ints_same (c := V.ci) (c' := V'.ci) HA.out.i HB.out.i (Nat.le_trans hf.i (by decide)))
  have HO := Lib.hid (ints_same (c := V.co) (c' := V'.co) HA.out.o HB.out.o (Nat.le_trans hf.o (by decide)))
  have HD := Lib.hid (ints_same (c := V.cb) (c' := V'.cb) HA.out.b HB.out.b (Nat.le_trans hf.b (by decide)))
  have HN := Lib.hid (ints_same (c := V.cc) (c' := V'.cc) HA.out.c HB.out.c (Nat.le_trans hf.c (by decide)))
  obtain ⟨a0, a1, a2, a3, a4, a5, a6, a7, a8⟩ := hA.cells9
  obtain ⟨b0, b1, b2, b3, b4, b5, b6, b7, b8⟩ := hB.cells9
  have HBA := Lib.hid hA
  have HBB := Lib.hid hB
  have HK := Lib.hid hK
  have HZ := Lib.hid hwz
  have q0 : ((C.max : Int) != C.max) = false := by simp
  have q2 : ((C.lats.length : Int) != (C.lats.length : Int)) = false := by simp
  have q3 : ((C.gates.length : Int) != (C.gates.length : Int)) = false := by simp
  have q4 : ((V.ny : Int) != (V.ny : Int)) = false := by simp
  clear h h' hf hs hK hA hB hwz y2 y4
  go_enter Tryz.func7, Tryz.ntmps7
  go_upto_region 1 with fail
  rw [← HZ.out]
  clear HZ
  go_wp2_with fail
  refine (HI.out _ (Kp.refl _ _)).mono ?_
  rintro e w' ⟨rfl, n1, rfl⟩
  go_wp2_with fail
  refine (HO.out _ ((Kp.refl _ _).drewN _)).mono ?_
  rintro e w' ⟨rfl, n2, rfl⟩
  go_wp2_with fail
  refine (HD.out _ ((Kp.refl _ _).drewN _)).mono ?_
  rintro e w' ⟨rfl, n3, rfl⟩
  go_wp2_with fail
  refine (HN.out _ ((Kp.refl _ _).drewN _)).mono ?_
  rintro e w' ⟨rfl, n4, rfl⟩
  obtain ⟨w4, hw4⟩ : ∃ w4 : World, w4 = (wz.drewN (n1 + n2 + n3)).drewN n4 := ⟨_, rfl⟩
  have hK4 : Kp (fun _ => False) wz w4 := by rw [hw4]; exact ((Kp.refl _ _).drewN _).drewN _
  rw [← hw4]
  clear a0 a1 a2 a3 a4 a5 a6 a7 a8 b0 b1 b2 b3 b4 b5 b6 b7 b8 HI HO HD HN q0 hw4
  have HA := Lib.hid (HA.out.kp hK4)
  have HB := Lib.hid (HB.out.kp hK4)
  have HS := Lib.hid (HS.out.kp hK4)
  have HBA := Lib.hid (HBA.out.kp hK4 (fun h => h))
  have HBB := Lib.hid (HBB.out.kp hK4 (fun h => h))
  have HK := Lib.hid (HK.out.trans hK4 (fun _ _ h => h))
  have HG := Lib.hid (show ∀ u, Kp (fun _ => False) w4 u → (u.cell? ⟨w.heap.size, 2, none⟩ = some (.slice V.al C.lats.length V.cl) ∧ u.cell? ⟨w.heap.size, 6, none⟩ = some (.slice V.ag C.gates.length V.cg) ∧ u.cell? ⟨w.heap.size, 7, none⟩ = some (.slice V.ay V.ny V.cy)) ∧ u.cell? ⟨w.heap.size + 1, 2, none⟩ = some (.slice V'.al C.lats.length V'.cl) ∧ u.cell? ⟨w.heap.size + 1, 6, none⟩ = some (.slice V'.ag C.gates.length V'.cg) ∧ u.cell? ⟨w.heap.size + 1, 7, none⟩ = some (.slice V'.ay V.ny V'.cy) from fun u hu =>
    ⟨⟨(HBA.out.kp hu (fun h => h)).cell rfl, (HBA.out.kp hu (fun h => h)).cell rfl, (HBA.out.kp hu (fun h => h)).cell rfl⟩, (HBB.out.kp hu (fun h => h)).cell rfl, (HBB.out.kp hu (fun h => h)).cell rfl, (HBB.out.kp hu (fun h => h)).cell rfl⟩)
  clear hK4 HBA HBB
  obtain ⟨⟨a2, a6, a7⟩, b2, b6, b7⟩ := HG.out w4 (Kp.refl _ _)
  go_wp2_with fail
  clear a2 a6 a7 b2 b6 b7 q2 q3 q4
  go_loopw [5] (fun v5 wr => ∃ k : Nat, v5 = .int .i64 k ∧ k ≤ C.lats.length ∧ Kp (fun _ => False) w4 wr) (fun v5 _ => C.lats.length - (intOf v5).toNat)
  case atStart => exact ⟨0, rfl, by omega, by first | exact Kp.refl _ _ | exact HKp.out⟩
  case round =>
    obtain ⟨k, rfl, hk, hkp⟩ := hrel
    try clear HKp
    obtain ⟨wp, rfl⟩ : ∃ wp : World, wp = wr := ⟨_, rfl⟩
    obtain ⟨⟨a2, a6, a7⟩, b2, b6, b7⟩ := HG.out wp hkp
    have HKp := Lib.hid hkp
    clear hkp
    by_cases hlt : k < C.lats.length
    · obtain ⟨b, off, ea, hE⟩ := HA.out.latCell hlt
      obtain ⟨e0, e1, e2⟩ := hE _ HKp.out
      obtain ⟨b', off', ea', hE'⟩ := HB.out.latCell hlt
      obtain ⟨f0, f1, f2⟩ := hE' _ HKp.out
      obtain ⟨x0, hx0⟩ : ∃ x, (g3 C.lats k).1 = x := ⟨_, rfl⟩
      obtain ⟨x1, hx1⟩ : ∃ x, (g3 C.lats k).2.1 = x := ⟨_, rfl⟩
      obtain ⟨x2, hx2⟩ : ∃ x, (g3 C.lats k).2.2 = x := ⟨_, rfl⟩
      rw [hx0] at e0 f0
      rw [hx1] at e1 f1
      rw [hx2] at e2 f2
      rw [ea] at a2 ⊢
      rw [ea'] at b2 ⊢
      clear hx0 hx1 hx2 hE hE' ea ea'
      have i0 : (0 : Int) ≤ (k : Int) := by omega
      have i2 : (k : Int) < (C.lats.length : Nat) := by omega
      have hq := fun u => eqLatS x0 x1 x2 u
      have hb : C.lats.length ≤ 1000000 := HF.out.l
      go_wp2_with fail
      go_quiet (fail)
      go_wp2_with fail
      go_roundw
      case rel => exact ⟨k + 1, by go_num, by omega, HKp.out.drewN _⟩
      case measure => simp [intOf]; omega
    · obtain rfl : k = C.lats.length := by omega
      go_wp2_with fail
      go_loopw [6] (fun v6 wr => ∃ k : Nat, v6 = .int .i64 k ∧ k ≤ C.gates.length ∧ Kp (fun _ => False) w4 wr) (fun v6 _ => C.gates.length - (intOf v6).toNat)
      case atStart => exact ⟨0, rfl, by omega, by first | exact Kp.refl _ _ | exact HKp.out⟩
      case round =>
        obtain ⟨k, rfl, hk, hkp⟩ := hrel
        try clear HKp
        obtain ⟨wp, rfl⟩ : ∃ wp : World, wp = wr := ⟨_, rfl⟩
        obtain ⟨⟨a2, a6, a7⟩, b2, b6, b7⟩ := HG.out wp hkp
        have HKp := Lib.hid hkp
        clear hkp
        by_cases hlt : k < C.gates.length
        · obtain ⟨b, off, ea, hE⟩ := HA.out.gateCell hlt
          obtain ⟨e0, e1, e2⟩ := hE _ HKp.out
          obtain ⟨b', off', ea', hE'⟩ := HB.out.gateCell hlt
          obtain ⟨f0, f1, f2⟩ := hE' _ HKp.out
          obtain ⟨x0, hx0⟩ : ∃ x, (g3 C.gates k).1 = x := ⟨_, rfl⟩
          obtain ⟨x1, hx1⟩ : ∃ x, (g3 C.gates k).2.1 = x := ⟨_, rfl⟩
          obtain ⟨x2, hx2⟩ : ∃ x, (g3 C.gates k).2.2 = x := ⟨_, rfl⟩
          rw [hx0] at e0 f0
          rw [hx1] at e1 f1
          rw [hx2] at e2 f2
          rw [ea] at a6 ⊢
          rw [ea'] at b6 ⊢
          clear hx0 hx1 hx2 hE hE' ea ea'
          have i0 : (0 : Int) ≤ (k : Int) := by omega
          have i2 : (k : Int) < (C.gates.length : Nat) := by omega
          have hq := fun u => eqGatS x0 x1 x2 u
          have hb : C.gates.length ≤ 1000000 := HF.out.g
          go_wp2_with fail
          go_quiet (fail)
          go_wp2_with fail
          go_roundw
          case rel => exact ⟨k + 1, by go_num, by omega, HKp.out.drewN _⟩
          case measure => simp [intOf]; omega
        · obtain rfl : k = C.gates.length := by omega
          go_wp2_with fail
          go_loopw [7] (fun v7 wr => ∃ k : Nat, v7 = .int .i64 k ∧ k ≤ V.ny ∧ Kp (fun _ => False) w4 wr) (fun v7 _ => V.ny - (intOf v7).toNat)
          case atStart => exact ⟨0, rfl, by omega, by first | exact Kp.refl _ _ | exact HKp.out⟩
          case round =>
            obtain ⟨k, rfl, hk, hkp⟩ := hrel
            try clear HKp
            obtain ⟨wp, rfl⟩ : ∃ wp : World, wp = wr := ⟨_, rfl⟩
            obtain ⟨⟨a2, a6, a7⟩, b2, b6, b7⟩ := HG.out wp hkp
            have HKp := Lib.hid hkp
            clear hkp
            by_cases hlt : k < V.ny
            · obtain ⟨b, off, b2', off2', x0, x1, x2, ea, eb, e0, e1, e2, f0, f1, f2⟩ := (HS.out.kp HKp.out).at hlt
              rw [ea] at a7 ⊢
              rw [eb] at b7 ⊢
              clear ea eb
              have i0 : (0 : Int) ≤ (k : Int) := by omega
              have i2 : (k : Int) < (V.ny : Nat) := by omega
              have hq := fun u => eqSymS x0 x1 x2 u
              have hb : V.ny ≤ 9223372036854775807 := by have h1 := HYl.out; have h2 := HYm.out; unfold maxLen at h2; omega
              go_wp2_with fail
              go_quiet (fail)
              go_wp2_with fail
              go_roundw
              case rel => exact ⟨k + 1, by go_num, by omega, HKp.out.drewN _⟩
              case measure => simp [intOf]; omega
            · obtain rfl : k = V.ny := by omega
              go_wp2_with fail
              go_ret
              exact ⟨rfl, HK.out.trans HKp.out (fun _ _ h => h)⟩

end Go.Proofs.YtckmdcmkjmpiaaaGreatDoor

/-
  What both Parse tell, in one form; aiger.Small; the example.
-/
namespace Go.Proofs.YtckmdcmkjmpiaaaGreatDoor
open Go.RowKit

def PrsQ (C : Circ) (l : List Sym) (c : ByteArray) (a e : Int) (w : World) (o : Ending) (w' : World) : Prop :=
  Kp (fun _ => False) w w' ∧ ∃ V, o = .returned (.tuple #[.agg (cvals V C), .int .i64 a, .int .i64 e]) ∧ CAt w' V C ∧ RowAt w' V.ay (l.map symCells).flatten ∧ V.ny = l.length ∧ V.cm = c
theorem cat_zero (w : World) : CAt w ⟨none, 0, none, 0, none, 0, none, 0, none, 0, none, 0, none, 0, 0, ⟨#[]⟩⟩ ⟨0, [], [], [], [], [], []⟩ :=
  have h : SlOK none 0 0 := ⟨Nat.le_refl _, by simp [maxLen], fun _ => rfl⟩
  ⟨RowAt.nil _ _, RowAt.nil _ _, RowAt.nil _ _, RowAt.nil _ _, RowAt.nil _ _, RowAt.nil _ _, ⟨[], RowAt.nil _ _, rfl, (fun r h => by cases h), (fun r h => by cases h)⟩, h, h, h, h, h, h, h⟩
theorem prs_q {s : ByteArray} (hs : s.size ≤ 100000 ∨ 1048576 < s.size) : ∃ C l c a e, CFewI C ∧ ∀ w o w', PrsP s w o w' → PrsQ C l c a e w o w' := by
  cases h : prsT s with
  | bad a e =>
    refine ⟨⟨0, [], [], [], [], [], []⟩, [], ⟨#[]⟩, a, e, ⟨by decide, by decide, by decide, by decide, by decide, by decide⟩, fun w o w' hp => ⟨hp.1, ?_⟩⟩
    have h2 := hp.2
    rw [h] at h2
    exact ⟨⟨none, 0, none, 0, none, 0, none, 0, none, 0, none, 0, none, 0, 0, ⟨#[]⟩⟩, h2, cat_zero w', RowAt.nil _ _, rfl, rfl⟩
  | ok C l c a =>
    refine ⟨C, l, c, a, 0, prsT_few hs h, fun w o w' hp => ⟨hp.1, ?_⟩⟩
    have h2 := hp.2
    rw [h] at h2
    exact h2
theorem sym_two {w : World} {V V' : CV} {l : List Sym} (h : RowAt w V.ay (l.map symCells).flatten) (h' : RowAt w V'.ay (l.map symCells).flatten) (hn : V.ny = l.length) : SymTwo w V V' := by
  refine ⟨l.map symCells, h, h', by simp [hn], fun k r hr => ?_⟩
  rw [List.getElem?_map] at hr
  cases hk : l[k]? with
  | none => rw [hk] at hr; cases hr
  | some x =>
    rw [hk] at hr
    cases hr
    exact ⟨_, _, _, rfl⟩

theorem aiger_Small (V : CV) (C : Circ) (w : World) : Calls Tryz.prog 8 #[.agg (cvals V C)] w fun e w' => e = .returned (.bool (decide (C.max ≤ 2000))) ∧ Kp (fun _ => False) w w' := by
  unfold cvals
  go_enter Tryz.func8, Tryz.ntmps8
  go_wp2_with fail
  go_ret
  exact ⟨rfl, (Kp.refl _ _).alloc _⟩

def exP : ByteArray := ⟨#[97, 97, 103, 32, 48, 32, 48, 32, 48, 32, 48, 32, 48, 32, 49, 10, 49, 10]⟩
theorem exP_is : prsT exP = .ok ⟨0, [], [], [], [1], [], []⟩ [] ⟨#[]⟩ 18 := by kernel_rfl

set_option maxRecDepth 100000 in
set_option maxHeartbeats 4000000 in
theorem lives_ok (w : World) : Calls Tryz.prog 9 #[] w fun e w' => e = .returned (.bool true) ∧ Kp (fun _ => False) w w' := by
  have HP := Lib.hid (fun u : World => aiger_Prs exP u (.inl (by decide)))
  unfold PrsP exP at HP
  have hx := exP_is
  unfold exP at hx
  simp only [hx] at HP
  clear hx
  go_enter Tryz.func9, Tryz.ntmps9
  go_wp2_with fail
  refine (HP.out _).mono ?_
  rintro o w1 ⟨hK1, V, rfl, hC, hrow, hny, hcm⟩
  obtain ⟨w2, hw2⟩ : ∃ w2 : World, w2 = (w1.alloc (.cells (cvals V ⟨0, [], [], [], [1], [], []⟩) 27)).alloc (.cells #[.int .i64 1] 3) := ⟨_, rfl⟩
  have hk2 : Kp (fun _ => False) w1 w2 := by rw [hw2]; exact ((Kp.refl _ w1).alloc _).alloc _
  have hB : Blk w2 (w1.heap.size + 1) #[.int .i64 1] 3 := by
    rw [hw2]
    have := Blk.new (w1.alloc (.cells (cvals V ⟨0, [], [], [], [1], [], []⟩) 27)) #[.int .i64 1] 3
    rwa [World.size_alloc] at this
  have h2 : CAt w2 ⟨none, 0, none, 0, none, 0, some ⟨w1.heap.size + 1, 0, none⟩, 1, none, 0, none, 0, none, 0, 0, ⟨#[]⟩⟩ ⟨0, [], [], [], [1], [], []⟩ :=
    have h := cat_zero w2
    ⟨h.i, h.l, h.o, hB.rowAt (off := 0) (n := 1) rfl, h.c, h.g, h.y, h.fi, h.fl, h.fo, ⟨Nat.le_refl _, by simp [maxLen], fun h => by cases h⟩, h.fc, h.fg, h.fy⟩
  have HSm := Lib.hid (ref11_Same2 V _ _ w2 (hC.kp hk2) h2 ⟨by decide, by decide, by decide, by decide, by decide, by decide⟩ ⟨hny.symm, hcm.symm⟩ (sym_two (hrow.kp hk2 (fun _ _ h => h)) (RowAt.nil _ _) hny))
  have HK := Lib.hid (hK1.trans hk2 (fun _ _ h => h))
  unfold cvals at HSm hw2
  unfold cvals
  simp only [List.length_nil, List.length_cons, Nat.zero_add] at HSm hw2 ⊢
  have HW := Lib.hid hw2
  clear hw2 hk2 hB h2 hC hrow hny hcm hK1 HP
  go_wp2_with fail
  rw [← HW.out]
  refine HSm.out.mono ?_
  rintro o w3 ⟨rfl, hK3⟩
  have HE := Lib.hid (HK.out.trans hK3 (fun _ _ h => h))
  clear hK3
  go_wp2_with fail
  go_ret
  exact ⟨rfl, HE.out⟩

end Go.Proofs.YtckmdcmkjmpiaaaGreatDoor

/-
  latchetlaw01: lives; the table that strconv.Itoa reads.
-/
namespace Go.Proofs.YtckmdcmkjmpiaaaGreatDoor
open Go.RowKit

/-- the table of powers of ten lies as its text lays it -/
def Tab (w : World) : Prop := Lib.TabIs Tryz.prog w "internal/strconv.uint64pow10" .u64 Lib.pow10Tab

theorem gPow : Tryz.prog.globalNamed "internal/strconv.uint64pow10" = some 3 := by kernel_rfl

theorem Tab.lt {w : World} (h : Tab w) : 3 < w.heap.size :=
  World.block_lt_of_cell? w _ (Lib.TabIs.cell h gPow 0 (by decide))

theorem Tab.kp {w w' : World} (h : Tab w) (k : Kp (fun _ => False) w w') : Tab w' :=
  var?_below (k.below (Nat.le_refl _) (fun _ _ h => h)) gPow h.lt h

end Go.Proofs.YtckmdcmkjmpiaaaGreatDoor
