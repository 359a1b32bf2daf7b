/-
  What is read of a small file is small; what Read leaves, in one form.
-/
import Derived.Test.YtckmdcmkjmpiaaaGreatDoorM8
import Derived.Test.YtckmdcmkjmpiaaaGreatDoorM3
import Derived.Test.YtckmdcmkjmpiaaaGreatDoorM4
import Derived.Laws.StructEq
import Derived.Test.YtckmdcmkjmpiaaaGreatDoorM1
import Derived.Laws.EntriesVeiled
import Derived.Test.YtckmdcmkjmpiaaaGreatDoorM2
import Derived.Test.YtckmdcmkjmpiaaaGreatDoorM5
import Derived.Test.YtckmdcmkjmpiaaaGreatDoorM7
set_option linter.unusedVariables false
set_option linter.unusedSimpArgs false
namespace Go.Proofs.YtckmdcmkjmpiaaaGreatDoor
open Go.RowKit

theorem rdA_few {s : ByteArray} {M : Int} {nI nL nO nA nB nC p : Nat} (hs : s.size ≤ 100000) (hp : p ≤ s.size) (h : (rdA s M nI nL nO nA nB nC (p, 0)).2.2 = 0) : CFewI (rdA s M nI nL nO nA nB nC (p, 0)).1 ∧ (rdA s M nI nL nO nA nB nC (p, 0)).2.1 ≤ s.size := by
  obtain ⟨I, q1, e1, hI⟩ : ∃ I q e, rdLits s (2 * M + 1) nI [] (p, 0) = (I, (q, e)) := ⟨_, _, _, rfl⟩
  obtain ⟨L, q2, e2, hL⟩ : ∃ L q e, rdLatsA s (2 * M + 1) nL [] (q1, e1) = (L, (q, e)) := ⟨_, _, _, rfl⟩
  obtain ⟨O, q3, e3, hO⟩ : ∃ I q e, rdLits s (2 * M + 1) nO [] (q2, e2) = (I, (q, e)) := ⟨_, _, _, rfl⟩
  obtain ⟨D, q4, e4, hD⟩ : ∃ I q e, rdLits s (2 * M + 1) nB [] (q3, e3) = (I, (q, e)) := ⟨_, _, _, rfl⟩
  obtain ⟨N, q5, e5, hN⟩ : ∃ I q e, rdLits s (2 * M + 1) nC [] (q4, e4) = (I, (q, e)) := ⟨_, _, _, rfl⟩
  obtain ⟨G, q6, e6, hG⟩ : ∃ L q e, rdGatesA s (2 * M + 1) nA [] (q5, e5) = (L, (q, e)) := ⟨_, _, _, rfl⟩
  have hr := rdA_fin hI hL hO hD hN hG
  rw [hr] at h ⊢
  have z6 : e6 = 0 := h
  subst z6
  have z5 : e5 = 0 := by
    by_cases h0 : e5 = 0
    · exact h0
    · have := rdGatesA_stay (s := s) (top := 2 * M + 1) (m := nA) (L := []) (st := (q5, e5)) h0
      rw [hG] at this
      exact (congrArg (·.2) this).symm
  subst z5
  have zl : ∀ {m : Nat} {a b c d : Nat} {T : List Int}, rdLits s (2 * M + 1) m [] (a, b) = (T, (c, d)) → d = 0 → b = 0 := by
    intro m a b c d T hT hd
    by_cases h0 : b = 0
    · exact h0
    · have := rdLits_stay (s := s) (top := 2 * M + 1) (m := m) (L := []) (st := (a, b)) h0
      rw [hT] at this
      have : d = b := congrArg (·.2) this
      omega
  have z4 := zl hN rfl
  subst z4
  have z3 := zl hD rfl
  subst z3
  have z2 := zl hO rfl
  subst z2
  have z1 : e1 = 0 := by
    by_cases h0 : e1 = 0
    · exact h0
    · have := rdLatsA_stay (s := s) (top := 2 * M + 1) (m := nL) (L := []) (st := (q1, e1)) h0
      rw [hL] at this
      exact (congrArg (·.2) this).symm
  subst z1
  have b1 : q1 ≤ s.size := by have := rdLits_le (s := s) (top := 2 * M + 1) (m := nI) (L := []) (st := (p, 0)) hp; rw [hI] at this; exact this
  have b2 : q2 ≤ s.size := by have := rdLatsA_le (s := s) (top := 2 * M + 1) (m := nL) (L := []) (st := (q1, 0)) b1; rw [hL] at this; exact this
  have b3 : q3 ≤ s.size := by have := rdLits_le (s := s) (top := 2 * M + 1) (m := nO) (L := []) (st := (q2, 0)) b2; rw [hO] at this; exact this
  have b4 : q4 ≤ s.size := by have := rdLits_le (s := s) (top := 2 * M + 1) (m := nB) (L := []) (st := (q3, 0)) b3; rw [hD] at this; exact this
  have b5 : q5 ≤ s.size := by have := rdLits_le (s := s) (top := 2 * M + 1) (m := nC) (L := []) (st := (q4, 0)) b4; rw [hN] at this; exact this
  have b6 : q6 ≤ s.size := by have := rdGatesA_le (s := s) (top := 2 * M + 1) (m := nA) (L := []) (st := (q5, 0)) b5; rw [hG] at this; exact this
  have k1 := rdLits_room (s := s) (top := 2 * M + 1) nI [] (p, 0) hp (by rw [hI])
  have k2 := rdLatsA_room (s := s) (top := 2 * M + 1) nL [] (q1, 0) b1 (by rw [hL])
  have k3 := rdLits_room (s := s) (top := 2 * M + 1) nO [] (q2, 0) b2 (by rw [hO])
  have k4 := rdLits_room (s := s) (top := 2 * M + 1) nB [] (q3, 0) b3 (by rw [hD])
  have k5 := rdLits_room (s := s) (top := 2 * M + 1) nC [] (q4, 0) b4 (by rw [hN])
  have k6 := rdGatesA_room (s := s) (top := 2 * M + 1) nA [] (q5, 0) b5 (by rw [hG])
  have l1 := rdLits_len (s := s) (top := 2 * M + 1) (m := nI) (L := []) (st := (p, 0)) (by rw [hI])
  have l2 := rdLatsA_len (s := s) (top := 2 * M + 1) (m := nL) (L := []) (st := (q1, 0)) (by rw [hL])
  have l3 := rdLits_len (s := s) (top := 2 * M + 1) (m := nO) (L := []) (st := (q2, 0)) (by rw [hO])
  have l4 := rdLits_len (s := s) (top := 2 * M + 1) (m := nB) (L := []) (st := (q3, 0)) (by rw [hD])
  have l5 := rdLits_len (s := s) (top := 2 * M + 1) (m := nC) (L := []) (st := (q4, 0)) (by rw [hN])
  have l6 := rdGatesA_len (s := s) (top := 2 * M + 1) nA (L := []) (st := (q5, 0)) (by rw [hG])
  rw [hI] at k1 l1
  rw [hL] at k2 l2
  rw [hO] at k3 l3
  rw [hD] at k4 l4
  rw [hN] at k5 l5
  rw [hG] at k6 l6
  simp only [List.length_nil, Nat.zero_add] at *
  exact ⟨⟨by simp only; omega, by simp only; omega, by simp only; omega, by simp only; omega, by simp only; omega, by simp only; omega⟩, b6⟩

theorem rdC_few {s : ByteArray} {M : Int} {nI nL nO nA nB nC p : Nat} (hs : s.size ≤ 100000) (hp : p ≤ s.size) (hi : nI ≤ 16777216) (h : (rdC s M nI nL nO nA nB nC (p, 0)).2.2 = 0) : CFewI (rdC s M nI nL nO nA nB nC (p, 0)).1 ∧ (rdC s M nI nL nO nA nB nC (p, 0)).2.1 ≤ s.size := by
  obtain ⟨L, q2, e2, hL⟩ : ∃ L q e, rdLatsP s (2 * M + 1) nI nL 0 [] (p, 0) = (L, (q, e)) := ⟨_, _, _, rfl⟩
  obtain ⟨O, q3, e3, hO⟩ : ∃ I q e, rdLits s (2 * M + 1) nO [] (q2, e2) = (I, (q, e)) := ⟨_, _, _, rfl⟩
  obtain ⟨D, q4, e4, hD⟩ : ∃ I q e, rdLits s (2 * M + 1) nB [] (q3, e3) = (I, (q, e)) := ⟨_, _, _, rfl⟩
  obtain ⟨N, q5, e5, hN⟩ : ∃ I q e, rdLits s (2 * M + 1) nC [] (q4, e4) = (I, (q, e)) := ⟨_, _, _, rfl⟩
  obtain ⟨G, q6, e6, hG⟩ : ∃ L q e, rdGatesP s (nI + nL) nA 0 [] (q5, e5) = (L, (q, e)) := ⟨_, _, _, rfl⟩
  have hr := rdC_end hL hO hD hN hG
  rw [hr] at h ⊢
  have z6 : e6 = 0 := h
  subst z6
  have z5 : e5 = 0 := by
    by_cases h0 : e5 = 0
    · exact h0
    · have := rdGatesP_stay (s := s) (I := nI + nL) (m := nA) (k := 0) (L := []) (st := (q5, e5)) h0
      rw [hG] at this
      exact (congrArg (·.2) this).symm
  subst z5
  have zl : ∀ {m : Nat} {a b c d : Nat} {T : List Int}, rdLits s (2 * M + 1) m [] (a, b) = (T, (c, d)) → d = 0 → b = 0 := by
    intro m a b c d T hT hd
    by_cases h0 : b = 0
    · exact h0
    · have := rdLits_stay (s := s) (top := 2 * M + 1) (m := m) (L := []) (st := (a, b)) h0
      rw [hT] at this
      have : d = b := congrArg (·.2) this
      omega
  have z4 := zl hN rfl
  subst z4
  have z3 := zl hD rfl
  subst z3
  have z2 := zl hO rfl
  subst z2
  have k2 := rdLatsP_room (s := s) (top := 2 * M + 1) (I := nI) nL 0 [] (p, 0) hp (by rw [hL])
  rw [hL] at k2
  have b2 : q2 ≤ s.size := k2.2.1
  have b3 : q3 ≤ s.size := by have := rdLits_le (s := s) (top := 2 * M + 1) (m := nO) (L := []) (st := (q2, 0)) b2; rw [hO] at this; exact this
  have b4 : q4 ≤ s.size := by have := rdLits_le (s := s) (top := 2 * M + 1) (m := nB) (L := []) (st := (q3, 0)) b3; rw [hD] at this; exact this
  have b5 : q5 ≤ s.size := by have := rdLits_le (s := s) (top := 2 * M + 1) (m := nC) (L := []) (st := (q4, 0)) b4; rw [hN] at this; exact this
  have k6 := rdGatesP_room (s := s) (I := nI + nL) nA 0 [] (q5, 0) b5 (by rw [hG])
  rw [hG] at k6
  have k3 := rdLits_room (s := s) (top := 2 * M + 1) nO [] (q2, 0) b2 (by rw [hO])
  have k4 := rdLits_room (s := s) (top := 2 * M + 1) nB [] (q3, 0) b3 (by rw [hD])
  have k5 := rdLits_room (s := s) (top := 2 * M + 1) nC [] (q4, 0) b4 (by rw [hN])
  have l3 := rdLits_len (s := s) (top := 2 * M + 1) (m := nO) (L := []) (st := (q2, 0)) (by rw [hO])
  have l4 := rdLits_len (s := s) (top := 2 * M + 1) (m := nB) (L := []) (st := (q3, 0)) (by rw [hD])
  have l5 := rdLits_len (s := s) (top := 2 * M + 1) (m := nC) (L := []) (st := (q4, 0)) (by rw [hN])
  rw [hO] at k3 l3
  rw [hD] at k4 l4
  rw [hN] at k5 l5
  have li : (insP nI).length = nI := by simp [insP]
  simp only [List.length_nil, Nat.zero_add] at *
  exact ⟨⟨by simp only; omega, by simp only; omega, by simp only; omega, by simp only; omega, by simp only; omega, by simp only; omega⟩, k6.2.1⟩

theorem rdP_few {s : ByteArray} (hs : s.size ≤ 100000) (hh : (headT s).2.2.2 = 0) (h : (rdP s (headT s)).2.2 = 0) : CFewI (rdP s (headT s)).1 ∧ (rdP s (headT s)).2.1 ≤ s.size := by
  obtain ⟨h1, h2⟩ := headT_small hh
  unfold rdP at h ⊢
  split at h
  · rename_i hb
    rw [if_pos hb]
    exact rdC_few hs h2 (h1 1) h
  · rename_i hb
    rw [if_neg hb]
    exact rdA_few hs h2 h

/-- what Read leaves, in one form -/
def ReadQ (r : Circ × Nat × Nat) (w : World) (e : Ending) (w' : World) : Prop :=
  ∃ V' C', e = .returned (.tuple #[.agg (cvals V' C'), .int .i64 (r.2.1 : Nat), .int .i64 (r.2.2 : Nat)]) ∧ Kp (fun _ => False) w w' ∧ (r.2.2 = 0 → C' = r.1 ∧ BKeep w.heap.size w' V' C')
theorem BinReadP.q {r : Circ × Nat × Nat} {w w' : World} {e : Ending} (h : BinReadP r w e w') : ReadQ r w e w' := by
  obtain ⟨h, hk⟩ := h
  rcases h with ⟨h0, rfl⟩ | ⟨h0, V', rfl, hC, -⟩
  · exact ⟨⟨none, 0, none, 0, none, 0, none, 0, none, 0, none, 0, none, 0, 0, ⟨#[]⟩⟩, ⟨0, [], [], [], [], [], []⟩, rfl, hk, fun h => absurd h h0⟩
  · exact ⟨V', r.1, by rw [h0]; rfl, hk, fun _ => ⟨rfl, hC⟩⟩

/-- what Parse leaves -/
def PrsP (s : ByteArray) (w : World) (o : Ending) (w' : World) : Prop :=
  Kp (fun _ => False) w w' ∧ match prsT s with
    | .bad a e => o = .returned (.tuple #[.agg zc9, .int .i64 a, .int .i64 e])
    | .ok C l c a => ∃ V', o = .returned (.tuple #[.agg (cvals V' C), .int .i64 (a : Nat), .int .i64 0]) ∧ CAt w' V' C ∧ RowAt w' V'.ay (l.map symCells).flatten ∧ V'.ny = l.length ∧ V'.cm = c
section
variable {s : ByteArray}
theorem prsT_big (h : 1048576 < s.size) : prsT s = .bad 0 4 := by unfold prsT; rw [if_pos h]
theorem prsT_head (h0 : ¬ 1048576 < s.size) {b : Bool} {L : List Nat} {p e : Nat} (hh : headT s = (b, L, p, e)) (he : e ≠ 0) : prsT s = .bad (p : Nat) (e : Nat) := by
  unfold prsT
  rw [if_neg h0, hh]
  simp only
  rw [if_pos he]
theorem prsT_read (h0 : ¬ 1048576 < s.size) {b : Bool} {L : List Nat} {p : Nat} (hh : headT s = (b, L, p, 0)) {C : Circ} {q e : Nat} (hr : rdP s (b, L, p, 0) = (C, q, e)) (he : e ≠ 0) : prsT s = .bad (q : Nat) (e : Nat) := by
  unfold prsT
  rw [if_neg h0, hh]
  simp only
  rw [if_neg (by simp), hr]
  simp only
  rw [if_pos he]
theorem prsT_tail (h0 : ¬ 1048576 < s.size) {b : Bool} {L : List Nat} {p : Nat} (hh : headT s = (b, L, p, 0)) {C : Circ} {q : Nat} (hr : rdP s (b, L, p, 0) = (C, q, 0)) {l : List Sym} {c : ByteArray} {a e : Nat} (ht : readT (hdP (b, L, p, 0)) s (q : Nat) = ⟨l, c, a, e⟩) (he : e ≠ 0) : prsT s = .bad (a : Nat) (e : Nat) := by
  unfold prsT
  rw [if_neg h0, hh]
  simp only
  rw [if_neg (by simp), hr]
  simp only
  rw [if_neg (by simp), ht]
  simp only
  rw [if_pos he]
theorem prsT_check (h0 : ¬ 1048576 < s.size) {b : Bool} {L : List Nat} {p : Nat} (hh : headT s = (b, L, p, 0)) {C : Circ} {q : Nat} (hr : rdP s (b, L, p, 0) = (C, q, 0)) {l : List Sym} {c : ByteArray} {a : Nat} (ht : readT (hdP (b, L, p, 0)) s (q : Nat) = ⟨l, c, a, 0⟩) (he : ckCode C ≠ 0) : prsT s = .bad 0 (ckCode C) := by
  unfold prsT
  rw [if_neg h0, hh]
  simp only
  rw [if_neg (by simp), hr]
  simp only
  rw [if_neg (by simp), ht]
  simp only
  rw [if_neg (by simp), if_pos he]
theorem prsT_fine (h0 : ¬ 1048576 < s.size) {b : Bool} {L : List Nat} {p : Nat} (hh : headT s = (b, L, p, 0)) {C : Circ} {q : Nat} (hr : rdP s (b, L, p, 0) = (C, q, 0)) {l : List Sym} {c : ByteArray} {a : Nat} (ht : readT (hdP (b, L, p, 0)) s (q : Nat) = ⟨l, c, a, 0⟩) (he : ckCode C = 0) : prsT s = .ok C l c a := by
  unfold prsT
  rw [if_neg h0, hh]
  simp only
  rw [if_neg (by simp), hr]
  simp only
  rw [if_neg (by simp), ht]
  simp only
  rw [if_neg (by simp), if_neg (by simpa using he)]
end

/-- a circuit whose symbols and comment are put in -/
theorem CAt.tail {u : World} {V : CV} {C : Circ} (g : CAt u V C) {a : Option Addr} {n c : Nat} {m : ByteArray} {l : List Sym} (hr : RowAt u a (l.map symCells).flatten) (hn : n = l.length) (hf : SlOK a n c) :
    CAt u ⟨V.ai, V.ci, V.al, V.cl, V.ao, V.co, V.ab, V.cb, V.ac, V.cc, V.ag, V.cg, a, n, c, m⟩ C := by
  exact ⟨g.i, g.l, g.o, g.b, g.c, g.g, ⟨l.map symCells, hr, by simp [hn], fun r hr => by obtain ⟨x, -, rfl⟩ := List.mem_map.1 hr; rfl, fun r hr u hu => by
    obtain ⟨x, -, rfl⟩ := List.mem_map.1 hr
    simp [symCells] at hu
    rcases hu with rfl | rfl | rfl <;> rfl⟩, g.fi, g.fl, g.fo, g.fb, g.fc, g.fg, hf⟩
/-- a circuit whose lists neither two blocks nor what comes later spoil -/
def Keep2 (bc r : Nat) (wx : World) (V : CV) (C : Circ) : Prop := ∀ (S : Nat → Prop) (w' : World), (∀ j, S j → j = bc ∨ j = r ∨ wx.heap.size ≤ j) → Kp S wx w' → CAt w' V C
theorem BKeep.two {B bc r : Nat} {u wx : World} {V : CV} {C : Circ} {T : Nat → Prop} (h : BKeep B u V C) (k : Kp T u wx) (hT : ∀ j, T j → j < B ∨ u.heap.size ≤ j) (hb : bc < B ∨ u.heap.size ≤ bc) (hr : r < B) : Keep2 bc r wx V C := by
  intro S w' hS k2
  refine h (fun j => T j ∨ S j) w' (fun j e => e.elim (hT j) (fun e => ?_)) ((k.mono (fun _ _ h => .inl h)).trans k2 (fun _ _ h => .inr h))
  have := k.size
  rcases hS j e with rfl | rfl | h
  · exact hb
  · exact .inl hr
  · exact .inr (by omega)
theorem own_row {w : World} {B : Nat} {t : TypeId} {v : Value} {l : List Sym} (h : OwnK w B t 3 v (l.map symCells)) : ∃ a c, v = .slice a l.length c ∧ SlOK a l.length c ∧ (∀ p, a = some p → B ≤ p.block) ∧ RowAt w a (l.map symCells).flatten := by
  obtain ⟨a, c, e, h1, h2, h3, h4, h5⟩ := h.form
  rw [List.length_map] at e h1
  exact ⟨a, c, e, ⟨h1, h2, h3⟩, fun p hp => by obtain ⟨g, rfl, hg, -⟩ := h4 p hp; exact hg, h5⟩

end Go.Proofs.YtckmdcmkjmpiaaaGreatDoor

/-
  latchetref11.Same: of two circuits that hold the same. (Printed by mksame.py.)
-/
namespace Go.Proofs.YtckmdcmkjmpiaaaGreatDoor
open Go.RowKit

theorem eqLatS (a b c : Int) (w : World) : (Op.equalIn 10000 59 (.agg #[.int .i64 a, .int .i64 b, .int .i64 c]) (.agg #[.int .i64 a, .int .i64 b, .int .i64 c])).run Tryz.prog w = .ok true w := by
  have u3 := Tryz.underlying3
  have a3 := Tryz.isAgg3
  have z3 := Tryz.sizeOf3
  have hS : Tryz.prog.underlying 59 = some (.struct (Tryz.prog.fieldsOf 59)) := by kernel_rfl
  have hp : Tryz.prog.stoodInHeld 59 = false := by kernel_rfl
  rw [show (10000 : Nat) = 9999 + 1 from rfl, run_equalIn_agg w 9999 59 _ _ hS hp]
  simp only [Program.fieldsOf, Tryz.underlying59]
  go_simp
  try simp
theorem eqGatS (a b c : Int) (w : World) : (Op.equalIn 10000 61 (.agg #[.int .i64 a, .int .i64 b, .int .i64 c]) (.agg #[.int .i64 a, .int .i64 b, .int .i64 c])).run Tryz.prog w = .ok true w := by
  have u3 := Tryz.underlying3
  have a3 := Tryz.isAgg3
  have z3 := Tryz.sizeOf3
  have hS : Tryz.prog.underlying 61 = some (.struct (Tryz.prog.fieldsOf 61)) := by kernel_rfl
  have hp : Tryz.prog.stoodInHeld 61 = false := by kernel_rfl
  rw [show (10000 : Nat) = 9999 + 1 from rfl, run_equalIn_agg w 9999 61 _ _ hS hp]
  simp only [Program.fieldsOf, Tryz.underlying61]
  go_simp
  try simp
theorem eqSymS (a b : Int) (s : ByteArray) (w : World) : (Op.equalIn 10000 63 (.agg #[.int .u8 a, .int .i64 b, .string s]) (.agg #[.int .u8 a, .int .i64 b, .string s])).run Tryz.prog w = .ok true w := by
  have u3 := Tryz.underlying3
  have a3 := Tryz.isAgg3
  have z3 := Tryz.sizeOf3
  have u5 := Tryz.underlying5
  have a5 := Tryz.isAgg5
  have z5 := Tryz.sizeOf5
  have u9 := Tryz.underlying9
  have a9 := Tryz.isAgg9
  have z9 := Tryz.sizeOf9
  have hS : Tryz.prog.underlying 63 = some (.struct (Tryz.prog.fieldsOf 63)) := by kernel_rfl
  have hp : Tryz.prog.stoodInHeld 63 = false := by kernel_rfl
  rw [show (10000 : Nat) = 9999 + 1 from rfl, run_equalIn_agg w 9999 63 _ _ hS hp]
  simp only [Program.fieldsOf, Tryz.underlying63]
  go_simp
  try simp

/-- the symbols in memory, of their kinds -/
def SymOK (w : World) (V : CV) : Prop := ∃ rows : List (List Value), RowAt w V.ay rows.flatten ∧ rows.length = V.ny ∧ ∀ (k : Nat) (r : List Value), rows[k]? = some r → ∃ (a b : Int) (s : ByteArray), r = [.int .u8 a, .int .i64 b, .string s]
theorem SymOK.kp {w w' : World} {V : CV} (h : SymOK w V) (k : Kp (fun _ => False) w w') : SymOK w' V := by
  obtain ⟨rows, h1, h2⟩ := h
  exact ⟨rows, h1.kp k (fun _ _ h => h), h2⟩
theorem SymOK.at {w : World} {V : CV} (h : SymOK w V) {k : Nat} (hk : k < V.ny) : ∃ (p off : Nat) (a b : Int) (s : ByteArray), V.ay = some ⟨p, off, none⟩ ∧ w.cell? ⟨p, off + k * 3, none⟩ = some (.int .u8 a) ∧ w.cell? ⟨p, off + k * 3 + 1, none⟩ = some (.int .i64 b) ∧ w.cell? ⟨p, off + k * 3 + 2, none⟩ = some (.string s) := by
  obtain ⟨rows, h1, h2, h3⟩ := h
  have hr : rows[k]? = some rows[k] := List.getElem?_eq_getElem (by omega)
  obtain ⟨a, b, s, e⟩ := h3 k _ hr
  rw [e] at hr
  have h4 : ∀ r ∈ rows, r.length = 3 := fun r hr => by
    obtain ⟨i, hi⟩ := List.mem_iff_getElem?.1 hr
    obtain ⟨_, _, _, rfl⟩ := h3 i r hi
    rfl
  obtain ⟨b0, off0, e0, c0⟩ := h1.cellAt h4 (j := k) (i := 0) hr rfl
  obtain ⟨b1, off1, e1, c1⟩ := h1.cellAt h4 (j := k) (i := 1) hr rfl
  obtain ⟨b2, off2, e2, c2⟩ := h1.cellAt h4 (j := k) (i := 2) hr rfl
  obtain ⟨rfl, rfl⟩ : b0 = b1 ∧ off0 = off1 := by rw [e0] at e1; simpa using e1
  obtain ⟨rfl, rfl⟩ : b0 = b2 ∧ off0 = off2 := by rw [e0] at e2; simpa using e2
  exact ⟨b0, off0, a, b, s, e0, c0, c1, c2⟩

/-- the symbols of both in memory: the same, of their kinds -/
def SymTwo (w : World) (V V' : CV) : Prop := ∃ rows : List (List Value), RowAt w V.ay rows.flatten ∧ RowAt w V'.ay rows.flatten ∧ rows.length = V.ny ∧ ∀ (k : Nat) (r : List Value), rows[k]? = some r → ∃ (a b : Int) (s : ByteArray), r = [.int .u8 a, .int .i64 b, .string s]
theorem SymTwo.kp {w w' : World} {V V' : CV} (h : SymTwo w V V') (k : Kp (fun _ => False) w w') : SymTwo w' V V' := by
  obtain ⟨rows, h1, h0, h2⟩ := h
  exact ⟨rows, h1.kp k (fun _ _ h => h), h0.kp k (fun _ _ h => h), h2⟩
theorem SymTwo.at {w : World} {V V' : CV} (h : SymTwo w V V') {k : Nat} (hk : k < V.ny) : ∃ (p off p' off' : Nat) (a b : Int) (s : ByteArray), V.ay = some ⟨p, off, none⟩ ∧ V'.ay = some ⟨p', off', none⟩ ∧ w.cell? ⟨p, off + k * 3, none⟩ = some (.int .u8 a) ∧ w.cell? ⟨p, off + k * 3 + 1, none⟩ = some (.int .i64 b) ∧ w.cell? ⟨p, off + k * 3 + 2, none⟩ = some (.string s) ∧ w.cell? ⟨p', off' + k * 3, none⟩ = some (.int .u8 a) ∧ w.cell? ⟨p', off' + k * 3 + 1, none⟩ = some (.int .i64 b) ∧ w.cell? ⟨p', off' + k * 3 + 2, none⟩ = some (.string s) := by
  obtain ⟨rows, h1, h0, h2, h3⟩ := h
  have hr : rows[k]? = some rows[k] := List.getElem?_eq_getElem (by omega)
  obtain ⟨a, b, s, e⟩ := h3 k _ hr
  rw [e] at hr
  have h4 : ∀ r ∈ rows, r.length = 3 := fun r hr => by
    obtain ⟨i, hi⟩ := List.mem_iff_getElem?.1 hr
    obtain ⟨_, _, _, rfl⟩ := h3 i r hi
    rfl
  obtain ⟨b0, off0, e0, c0⟩ := h1.cellAt h4 (j := k) (i := 0) hr rfl
  obtain ⟨b1, off1, e1, c1⟩ := h1.cellAt h4 (j := k) (i := 1) hr rfl
  obtain ⟨b2, off2, e2, c2⟩ := h1.cellAt h4 (j := k) (i := 2) hr rfl
  obtain ⟨rfl, rfl⟩ : b0 = b1 ∧ off0 = off1 := by rw [e0] at e1; simpa using e1
  obtain ⟨rfl, rfl⟩ : b0 = b2 ∧ off0 = off2 := by rw [e0] at e2; simpa using e2
  obtain ⟨d0, o0, g0, k0⟩ := h0.cellAt h4 (j := k) (i := 0) hr rfl
  obtain ⟨d1, o1, g1, k1⟩ := h0.cellAt h4 (j := k) (i := 1) hr rfl
  obtain ⟨d2, o2, g2, k2⟩ := h0.cellAt h4 (j := k) (i := 2) hr rfl
  obtain ⟨rfl, rfl⟩ : d0 = d1 ∧ o0 = o1 := by rw [g0] at g1; simpa using g1
  obtain ⟨rfl, rfl⟩ : d0 = d2 ∧ o0 = o2 := by rw [g0] at g2; simpa using g2
  exact ⟨b0, off0, d0, o0, a, b, s, e0, g0, c0, c1, c2, k0, k1, k2⟩

theorem ints_same {a a' : Option Addr} {c c' : Nat} {l : List Int} {w : World} (h : IntsAt w a l) (h' : IntsAt w a' l) (hn : l.length ≤ 20000000) :
    ∀ u, Kp (fun _ => False) w u → Calls Tryz.prog 22 #[.slice a l.length c, .slice a' l.length c'] u fun e w' => e = .returned (.bool true) ∧ ∃ n, w' = u.drewN n := fun u hu => by
  have := ref_Ints a a' l.length l.length c c' l l u (RowAt.kp h hu (fun _ _ h => h)) (RowAt.kp h' hu (fun _ _ h => h)) rfl rfl (by omega)
  simpa using this

set_option maxRecDepth 100000 in
set_option maxHeartbeats 8000000 in
theorem ref11_Same2 (V V' : CV) (C : Circ) (w : World) (h : CAt w V C) (h' : CAt w V' C) (hf : CFewI C) (hy : V'.ny = V.ny ∧ V'.cm = V.cm) (hs : SymTwo w V V') :
    Calls Tryz.prog 7 #[.agg (cvals V C), .agg (cvals V' C)] w fun e w' => e = .returned (.bool true) ∧ Kp (fun _ => False) w w' := by
  obtain ⟨y2, y4⟩ := hy
  unfold cvals
  rw [y2, y4]
  obtain ⟨wz, hwz⟩ : ∃ wz : World, wz = (w.alloc (.cells #[.int .i64 C.max, .slice V.ai C.ins.length V.ci, .slice V.al C.lats.length V.cl, .slice V.ao C.outs.length V.co, .slice V.ab C.bads.length V.cb, .slice V.ac C.cons.length V.cc, .slice V.ag C.gates.length V.cg, .slice V.ay V.ny V.cy, .string V.cm] 27)).alloc (.cells #[.int .i64 C.max, .slice V'.ai C.ins.length V'.ci, .slice V'.al C.lats.length V'.cl, .slice V'.ao C.outs.length V'.co, .slice V'.ab C.bads.length V'.cb, .slice V'.ac C.cons.length V'.cc, .slice V'.ag C.gates.length V'.cg, .slice V'.ay V.ny V'.cy, .string V.cm] 27) := ⟨_, rfl⟩
  have hK : Kp (fun _ => False) w wz := by rw [hwz]; exact ((Kp.refl _ w).alloc _).alloc _
  have hA : Blk wz w.heap.size #[.int .i64 C.max, .slice V.ai C.ins.length V.ci, .slice V.al C.lats.length V.cl, .slice V.ao C.outs.length V.co, .slice V.ab C.bads.length V.cb, .slice V.ac C.cons.length V.cc, .slice V.ag C.gates.length V.cg, .slice V.ay V.ny V.cy, .string V.cm] 27 := by rw [hwz]; exact (Blk.new w _ _).alloc _
  have hB : Blk wz (w.heap.size + 1) #[.int .i64 C.max, .slice V'.ai C.ins.length V'.ci, .slice V'.al C.lats.length V'.cl, .slice V'.ao C.outs.length V'.co, .slice V'.ab C.bads.length V'.cb, .slice V'.ac C.cons.length V'.cc, .slice V'.ag C.gates.length V'.cg, .slice V'.ay V.ny V'.cy, .string V.cm] 27 := by
    rw [hwz]
    have := Blk.new (w.alloc (.cells #[.int .i64 C.max, .slice V.ai C.ins.length V.ci, .slice V.al C.lats.length V.cl, .slice V.ao C.outs.length V.co, .slice V.ab C.bads.length V.cb, .slice V.ac C.cons.length V.cc, .slice V.ag C.gates.length V.cg, .slice V.ay V.ny V.cy, .string V.cm] 27)) #[.int .i64 C.max, .slice V'.ai C.ins.length V'.ci, .slice V'.al C.lats.length V'.cl, .slice V'.ao C.outs.length V'.co, .slice V'.ab C.bads.length V'.cb, .slice V'.ac C.cons.length V'.cc, .slice V'.ag C.gates.length V'.cg, .slice V'.ay V.ny V'.cy, .string V.cm] 27
    rwa [World.size_alloc] at this
  have HA := Lib.hid (h.kp hK)
  have HB := Lib.hid (h'.kp hK)
  have HS := Lib.hid (hs.kp hK)
  have HYm := Lib.hid h.fy.most
  have HYl := Lib.hid h.fy.le
  have HF := Lib.hid hf
  have HI := Lib.hid (ints_same (c := V.ci) (c' := V'.ci) HA.out.i HB.out.i (Nat.le_trans hf.i (by decide)))
  have HO := Lib.hid (ints_same (c := V.co) (c' := V'.co) HA.out.o HB.out.o (Nat.le_trans hf.o (by decide)))
  have HD := Lib.hid (ints_same (c := V.cb) (c' := V'.cb) HA.out.b HB.out.b (Nat.le_trans hf.b (by decide)))
  have HN := Lib.hid (ints_same (c := V.cc) (c' := V'.cc) HA.out.c HB.out.c (Nat.le_trans hf.c (by decide)))
  obtain ⟨a0, a1, a2, a3, a4, a5, a6, a7, a8⟩ := hA.cells9
  obtain ⟨b0, b1, b2, b3, b4, b5, b6, b7, b8⟩ := hB.cells9
  have HBA := Lib.hid hA
  have HBB := Lib.hid hB
  have HK := Lib.hid hK
  have HZ := Lib.hid hwz
  have q0 : ((C.max : Int) != C.max) = false := by simp
  have q2 : ((C.lats.length : Int) != (C.lats.length : Int)) = false := by simp
  have q3 : ((C.gates.length : Int) != (C.gates.length : Int)) = false := by simp
  have q4 : ((V.ny : Int) != (V.ny : Int)) = false := by simp
  clear h h' hf hs hK hA hB hwz y2 y4
  go_enter Tryz.func7, Tryz.ntmps7
  go_upto_region 1 with fail
  rw [← HZ.out]
  clear HZ
  go_wp2_with fail
  refine (HI.out _ (Kp.refl _ _)).mono ?_
  rintro e w' ⟨rfl, n1, rfl⟩
  go_wp2_with fail
  refine (HO.out _ ((Kp.refl _ _).drewN _)).mono ?_
  rintro e w' ⟨rfl, n2, rfl⟩
  go_wp2_with fail
  refine (HD.out _ ((Kp.refl _ _).drewN _)).mono ?_
  rintro e w' ⟨rfl, n3, rfl⟩
  go_wp2_with fail
  refine (HN.out _ ((Kp.refl _ _).drewN _)).mono ?_
  rintro e w' ⟨rfl, n4, rfl⟩
  obtain ⟨w4, hw4⟩ : ∃ w4 : World, w4 = (wz.drewN (n1 + n2 + n3)).drewN n4 := ⟨_, rfl⟩
  have hK4 : Kp (fun _ => False) wz w4 := by rw [hw4]; exact ((Kp.refl _ _).drewN _).drewN _
  rw [← hw4]
  clear a0 a1 a2 a3 a4 a5 a6 a7 a8 b0 b1 b2 b3 b4 b5 b6 b7 b8 HI HO HD HN q0 hw4
  have HA := Lib.hid (HA.out.kp hK4)
  have HB := Lib.hid (HB.out.kp hK4)
  have HS := Lib.hid (HS.out.kp hK4)
  have HBA := Lib.hid (HBA.out.kp hK4 (fun h => h))
  have HBB := Lib.hid (HBB.out.kp hK4 (fun h => h))
  have HK := Lib.hid (HK.out.trans hK4 (fun _ _ h => h))
  have HG := Lib.hid (show ∀ u, Kp (fun _ => False) w4 u → (u.cell? ⟨w.heap.size, 2, none⟩ = some (.slice V.al C.lats.length V.cl) ∧ u.cell? ⟨w.heap.size, 6, none⟩ = some (.slice V.ag C.gates.length V.cg) ∧ u.cell? ⟨w.heap.size, 7, none⟩ = some (.slice V.ay V.ny V.cy)) ∧ u.cell? ⟨w.heap.size + 1, 2, none⟩ = some (.slice V'.al C.lats.length V'.cl) ∧ u.cell? ⟨w.heap.size + 1, 6, none⟩ = some (.slice V'.ag C.gates.length V'.cg) ∧ u.cell? ⟨w.heap.size + 1, 7, none⟩ = some (.slice V'.ay V.ny V'.cy) from fun u hu =>
    ⟨⟨(HBA.out.kp hu (fun h => h)).cell rfl, (HBA.out.kp hu (fun h => h)).cell rfl, (HBA.out.kp hu (fun h => h)).cell rfl⟩, (HBB.out.kp hu (fun h => h)).cell rfl, (HBB.out.kp hu (fun h => h)).cell rfl, (HBB.out.kp hu (fun h => h)).cell rfl⟩)
  clear hK4 HBA HBB
  obtain ⟨⟨a2, a6, a7⟩, b2, b6, b7⟩ := HG.out w4 (Kp.refl _ _)
  go_wp2_with fail
  clear a2 a6 a7 b2 b6 b7 q2 q3 q4
  go_loopw [5] (fun v5 wr => ∃ k : Nat, v5 = .int .i64 k ∧ k ≤ C.lats.length ∧ Kp (fun _ => False) w4 wr) (fun v5 _ => C.lats.length - (intOf v5).toNat)
  case atStart => exact ⟨0, rfl, by omega, by first | exact Kp.refl _ _ | exact HKp.out⟩
  case round =>
    obtain ⟨k, rfl, hk, hkp⟩ := hrel
    try clear HKp
    obtain ⟨wp, rfl⟩ : ∃ wp : World, wp = wr := ⟨_, rfl⟩
    obtain ⟨⟨a2, a6, a7⟩, b2, b6, b7⟩ := HG.out wp hkp
    have HKp := Lib.hid hkp
    clear hkp
    by_cases hlt : k < C.lats.length
    · obtain ⟨b, off, ea, hE⟩ := HA.out.latCell hlt
      obtain ⟨e0, e1, e2⟩ := hE _ HKp.out
      obtain ⟨b', off', ea', hE'⟩ := HB.out.latCell hlt
      obtain ⟨f0, f1, f2⟩ := hE' _ HKp.out
      obtain ⟨x0, hx0⟩ : ∃ x, (g3 C.lats k).1 = x := ⟨_, rfl⟩
      obtain ⟨x1, hx1⟩ : ∃ x, (g3 C.lats k).2.1 = x := ⟨_, rfl⟩
      obtain ⟨x2, hx2⟩ : ∃ x, (g3 C.lats k).2.2 = x := ⟨_, rfl⟩
      rw [hx0] at e0 f0
      rw [hx1] at e1 f1
      rw [hx2] at e2 f2
      rw [ea] at a2 ⊢
      rw [ea'] at b2 ⊢
      clear hx0 hx1 hx2 hE hE' ea ea'
      have i0 : (0 : Int) ≤ (k : Int) := by omega
      have i2 : (k : Int) < (C.lats.length : Nat) := by omega
      have hq := fun u => eqLatS x0 x1 x2 u
      have hb : C.lats.length ≤ 1000000 := HF.out.l
      go_wp2_with fail
      go_quiet (fail)
      go_wp2_with fail
      go_roundw
      case rel => exact ⟨k + 1, by go_num, by omega, HKp.out.drewN _⟩
      case measure => simp [intOf]; omega
    · obtain rfl : k = C.lats.length := by omega
      go_wp2_with fail
      go_loopw [6] (fun v6 wr => ∃ k : Nat, v6 = .int .i64 k ∧ k ≤ C.gates.length ∧ Kp (fun _ => False) w4 wr) (fun v6 _ => C.gates.length - (intOf v6).toNat)
      case atStart => exact ⟨0, rfl, by omega, by first | exact Kp.refl _ _ | exact HKp.out⟩
      case round =>
        obtain ⟨k, rfl, hk, hkp⟩ := hrel
        try clear HKp
        obtain ⟨wp, rfl⟩ : ∃ wp : World, wp = wr := ⟨_, rfl⟩
        obtain ⟨⟨a2, a6, a7⟩, b2, b6, b7⟩ := HG.out wp hkp
        have HKp := Lib.hid hkp
        clear hkp
        by_cases hlt : k < C.gates.length
        · obtain ⟨b, off, ea, hE⟩ := HA.out.gateCell hlt
          obtain ⟨e0, e1, e2⟩ := hE _ HKp.out
          obtain ⟨b', off', ea', hE'⟩ := HB.out.gateCell hlt
          obtain ⟨f0, f1, f2⟩ := hE' _ HKp.out
          obtain ⟨x0, hx0⟩ : ∃ x, (g3 C.gates k).1 = x := ⟨_, rfl⟩
          obtain ⟨x1, hx1⟩ : ∃ x, (g3 C.gates k).2.1 = x := ⟨_, rfl⟩
          obtain ⟨x2, hx2⟩ : ∃ x, (g3 C.gates k).2.2 = x := ⟨_, rfl⟩
          rw [hx0] at e0 f0
          rw [hx1] at e1 f1
          rw [hx2] at e2 f2
          rw [ea] at a6 ⊢
          rw [ea'] at b6 ⊢
          clear hx0 hx1 hx2 hE hE' ea ea'
          have i0 : (0 : Int) ≤ (k : Int) := by omega
          have i2 : (k : Int) < (C.gates.length : Nat) := by omega
          have hq := fun u => eqGatS x0 x1 x2 u
          have hb : C.gates.length ≤ 1000000 := HF.out.g
          go_wp2_with fail
          go_quiet (fail)
          go_wp2_with fail
          go_roundw
          case rel => exact ⟨k + 1, by go_num, by omega, HKp.out.drewN _⟩
          case measure => simp [intOf]; omega
        · obtain rfl : k = C.gates.length := by omega
          go_wp2_with fail
          go_loopw [7] (fun v7 wr => ∃ k : Nat, v7 = .int .i64 k ∧ k ≤ V.ny ∧ Kp (fun _ => False) w4 wr) (fun v7 _ => V.ny - (intOf v7).toNat)
          case atStart => exact ⟨0, rfl, by omega, by first | exact Kp.refl _ _ | exact HKp.out⟩
          case round =>
            obtain ⟨k, rfl, hk, hkp⟩ := hrel
            try clear HKp
            obtain ⟨wp, rfl⟩ : ∃ wp : World, wp = wr := ⟨_, rfl⟩
            obtain ⟨⟨a2, a6, a7⟩, b2, b6, b7⟩ := HG.out wp hkp
            have HKp := Lib.hid hkp
            clear hkp
            by_cases hlt : k < V.ny
            · obtain ⟨b, off, b2', off2', x0, x1, x2, ea, eb, e0, e1, e2, f0, f1, f2⟩ := (HS.out.kp HKp.out).at hlt
              rw [ea] at a7 ⊢
              rw [eb] at b7 ⊢
              clear ea eb
              have i0 : (0 : Int) ≤ (k : Int) := by omega
              have i2 : (k : Int) < (V.ny : Nat) := by omega
              have hq := fun u => eqSymS x0 x1 x2 u
              have hb : V.ny ≤ 9223372036854775807 := by have h1 := HYl.out; have h2 := HYm.out; unfold maxLen at h2; omega
              go_wp2_with fail
              go_quiet (fail)
              go_wp2_with fail
              go_roundw
              case rel => exact ⟨k + 1, by go_num, by omega, HKp.out.drewN _⟩
              case measure => simp [intOf]; omega
            · obtain rfl : k = V.ny := by omega
              go_wp2_with fail
              go_ret
              exact ⟨rfl, HK.out.trans HKp.out (fun _ _ h => h)⟩

end Go.Proofs.YtckmdcmkjmpiaaaGreatDoor

/-
  Symbols in memory; names of things; a circuit's head, both ways.
-/
namespace Go.Proofs.YtckmdcmkjmpiaaaGreatDoor
open Go.RowKit

/-- a symbol as cells -/
def symC (x : Int × Int × ByteArray) : List Value := [.int .u8 x.1, .int .i64 x.2.1, .string x.2.2]
theorem symC_len (L : List (Int × Int × ByteArray)) : ∀ r ∈ L.map symC, r.length = 3 := by
  intro r hr
  obtain ⟨x, _, rfl⟩ := List.mem_map.1 hr
  rfl
/-- a circuit's symbols in memory -/
structure SyAt (w : World) (V : CV) (Y : List (Int × Int × ByteArray)) : Prop where
  row : RowAt w V.ay (Y.map symC).flatten
  len : Y.length = V.ny
theorem SyAt.kp {w w' : World} {V : CV} {Y : List (Int × Int × ByteArray)} (h : SyAt w V Y) (k : Kp (fun _ => False) w w') : SyAt w' V Y := ⟨h.row.kp k (fun _ _ h => h), h.len⟩

theorem SymOK.all {w : World} {V : CV} (h : SymOK w V) : ∃ Y, SyAt w V Y := by
  obtain ⟨rows, h1, h2, h3⟩ := h
  have : ∀ n, n ≤ rows.length → ∃ Y : List (Int × Int × ByteArray), Y.map symC = rows.take n := by
    intro n
    induction n with
    | zero => intro _; exact ⟨[], by simp⟩
    | succ n ih =>
      intro hn
      obtain ⟨Y, hY⟩ := ih (by omega)
      obtain ⟨a, b, s, e⟩ := h3 n rows[n] (List.getElem?_eq_getElem (by omega))
      refine ⟨Y ++ [(a, b, s)], ?_⟩
      rw [List.map_append, hY, List.take_succ_eq_append_getElem (by omega), e]
      rfl
  obtain ⟨Y, hY⟩ := this rows.length (Nat.le_refl _)
  rw [List.take_length] at hY
  exact ⟨Y, by rw [hY]; exact h1, by rw [← h2, ← hY, List.length_map]⟩

/-- symbol k -/
def sK (Y : List (Int × Int × ByteArray)) (k : Nat) : Int × Int × ByteArray := Y[k]?.getD (0, 0, ⟨#[]⟩)

theorem SyAt.at {w : World} {V : CV} {Y : List (Int × Int × ByteArray)} (h : SyAt w V Y) {k : Nat} (hk : k < Y.length) :
    ∃ b off, V.ay = some ⟨b, off, none⟩ ∧ w.cell? ⟨b, off + k * 3, none⟩ = some (.int .u8 (sK Y k).1) ∧ w.cell? ⟨b, off + k * 3 + 1, none⟩ = some (.int .i64 (sK Y k).2.1) ∧ w.cell? ⟨b, off + k * 3 + 2, none⟩ = some (.string (sK Y k).2.2) := by
  have hr : (Y.map symC)[k]? = some (symC (sK Y k)) := by
    unfold sK
    rw [List.getElem?_map, List.getElem?_eq_getElem hk]; rfl
  obtain ⟨b, off, e0, h0⟩ := h.row.cellAt (symC_len Y) (j := k) (i := 0) hr rfl
  obtain ⟨b1, off1, e1, h1⟩ := h.row.cellAt (symC_len Y) (j := k) (i := 1) hr rfl
  obtain ⟨b2, off2, e2, h2⟩ := h.row.cellAt (symC_len Y) (j := k) (i := 2) hr rfl
  obtain ⟨rfl, rfl⟩ : b = b1 ∧ off = off1 := by rw [e0] at e1; simpa using e1
  obtain ⟨rfl, rfl⟩ : b = b2 ∧ off = off2 := by rw [e0] at e2; simpa using e2
  exact ⟨b, off, e0, h0, h1, h2⟩

/-- a circuit's head -/
def hdOf (C : Circ) (b : Bool) : Hd := ⟨b, C.max, (C.ins.length : Nat), (C.lats.length : Nat), (C.outs.length : Nat), (C.gates.length : Nat), (C.bads.length : Nat), (C.cons.length : Nat)⟩

theorem blk8' {w : World} {b : Nat} {x0 x1 x2 x3 x4 x5 x6 x7 : Value} {t : TypeId} (h : Blk w b #[x0, x1, x2, x3, x4, x5, x6, x7] t) :
    w.cell? ⟨b, 0, none⟩ = some x0 ∧ w.cell? ⟨b, 1, none⟩ = some x1 ∧ w.cell? ⟨b, 2, none⟩ = some x2 ∧ w.cell? ⟨b, 3, none⟩ = some x3 ∧ w.cell? ⟨b, 4, none⟩ = some x4 ∧ w.cell? ⟨b, 5, none⟩ = some x5 ∧ w.cell? ⟨b, 6, none⟩ = some x6 ∧ w.cell? ⟨b, 7, none⟩ = some x7 :=
  ⟨h.cell rfl, h.cell rfl, h.cell rfl, h.cell rfl, h.cell rfl, h.cell rfl, h.cell rfl, h.cell rfl⟩
theorem head_new' (w : World) (c d : Array Value) (t u : TypeId) : Blk ((w.alloc (.cells c t)).alloc (.cells d u)) (w.heap.size + 1) d u := by
  have := Blk.new (w.alloc (.cells c t)) d u
  rwa [World.size_alloc] at this

set_option maxRecDepth 100000 in
set_option maxHeartbeats 2000000 in
theorem ascii_HeadOfA (V : CV) (C : Circ) (bb : Bool) (w : World) :
    Calls Tryz.prog 23 #[.agg (cvals V C), .bool bb] w fun e w' => e = .returned (hdV (hdOf C bb)) ∧ Kp (fun _ => False) w w' := by
  have HK : Hid (∀ (c d : Array Value) (t u : TypeId), Kp (fun _ => False) w ((w.alloc (.cells c t)).alloc (.cells d u))) := Lib.hid (fun c d t u => ((Kp.refl _ w).alloc _).alloc _)
  unfold cvals hdOf hdV
  obtain ⟨n1, hn1⟩ : ∃ n, C.ins.length = n := ⟨_, rfl⟩
  obtain ⟨n2, hn2⟩ : ∃ n, C.lats.length = n := ⟨_, rfl⟩
  obtain ⟨n3, hn3⟩ : ∃ n, C.outs.length = n := ⟨_, rfl⟩
  obtain ⟨n4, hn4⟩ : ∃ n, C.bads.length = n := ⟨_, rfl⟩
  obtain ⟨n5, hn5⟩ : ∃ n, C.cons.length = n := ⟨_, rfl⟩
  obtain ⟨n6, hn6⟩ : ∃ n, C.gates.length = n := ⟨_, rfl⟩
  obtain ⟨mx, hmx⟩ : ∃ n, C.max = n := ⟨_, rfl⟩
  rw [hn1, hn2, hn3, hn4, hn5, hn6, hmx]
  clear hn1 hn2 hn3 hn4 hn5 hn6 hmx
  go_enter Tryz.func23, Tryz.ntmps23
  go_wp2_with fail
  have hB := head_new' w #[.int .i64 mx, .slice V.ai n1 V.ci, .slice V.al n2 V.cl, .slice V.ao n3 V.co, .slice V.ab n4 V.cb, .slice V.ac n5 V.cc, .slice V.ag n6 V.cg, .slice V.ay V.ny V.cy, .string V.cm] #[.bool bb, .int .i64 mx, .int .i64 (n1 : Nat), .int .i64 (n2 : Nat), .int .i64 (n3 : Nat), .int .i64 (n6 : Nat), .int .i64 (n4 : Nat), .int .i64 (n5 : Nat)] 27 42
  obtain ⟨z0, z1, z2, z3, z4, z5, z6, z7⟩ := blk8' hB
  exact bodyPost_ret (v := .agg #[.bool bb, .int .i64 mx, .int .i64 (n1 : Nat), .int .i64 (n2 : Nat), .int .i64 (n3 : Nat), .int .i64 (n6 : Nat), .int .i64 (n4 : Nat), .int .i64 (n5 : Nat)]) (by simp [results, Tryz.results23, go_sem, z0, z1, z2, z3, z4, z5, z6, z7]) rfl ⟨rfl, HK.out _ _ _ _⟩

end Go.Proofs.YtckmdcmkjmpiaaaGreatDoor

/-
  tail.Good of any symbols.
-/
namespace Go.Proofs.YtckmdcmkjmpiaaaGreatDoor
open Go.RowKit

/-- whether a symbol is bad, where some are there -/
def badY (h : Hd) (L : List (Nat × Nat)) (x : Int × Int × ByteArray) : Bool :=
  decide (x.2.1 < 0) || decide (cnt h x.1.toNat ≤ x.2.1) || decide (x.2.2.size = 0) || decide (64 < x.2.2.size) || decide (0 ≤ Lib.indexByte x.2.2.data.toList 10) || L.contains (x.1.toNat, x.2.1.toNat)
def goodY (h : Hd) : List (Int × Int × ByteArray) → List (Nat × Nat) → Bool
  | [], _ => true
  | x :: r, L => if badY h L x = true then false else goodY h r (L ++ [(x.1.toNat, x.2.1.toNat)])

theorem tail_CountI (h : Hd) (k : Int) (w : World) :
    Calls Tryz.prog 55 #[hdV h, .int .u8 k] w fun e w' => e = .returned (.int .i64 (cnt h k.toNat)) ∧ Kp (fun _ => False) w w' := by
  by_cases h0 : 0 ≤ k
  · obtain ⟨n, rfl⟩ := Int.eq_ofNat_of_zero_le h0
    exact tail_Count h n w
  · have HC := Lib.hid (show cnt h k.toNat = 0 from cnt_none (by unfold isKind; omega))
    obtain ⟨bin, m, i, l, o, a, b, c⟩ := h
    unfold hdV
    have b1 : (k == 105) = false := by simp; omega
    have b2 : (k == 108) = false := by simp; omega
    have b3 : (k == 111) = false := by simp; omega
    have b4 : (k == 98) = false := by simp; omega
    have b5 : (k == 99) = false := by simp; omega
    clear h0
    go_enter Tryz.func55, Tryz.ntmps55
    go_wp2
    go_ret
    rw [HC.out]
    exact ⟨rfl, by first | exact (Kp.refl _ w).alloc _ | exact ((Kp.refl _ w).alloc _).alloc _⟩

theorem kind_of (h : Hd) {k : Int} (hc : 0 < cnt h k.toNat) : 0 ≤ k ∧ k < 256 := by
  by_cases hk : isKind k.toNat
  · unfold isKind at hk; omega
  · rw [cnt_none hk] at hc; omega

theorem name_empty (s : ByteArray) : (s.toList == []) = decide (s.size = 0) := by
  have e : s.toList = s.data.toList := by
    obtain ⟨⟨l⟩⟩ := s
    simp
  have hs : s.size = s.toList.length := by rw [e]; exact Lib.size_eq s
  by_cases h : s.size = 0
  · have h2 : s.toList = [] := List.eq_nil_of_length_eq_zero (by omega)
    simp [h2, h]
  · have h2 : s.toList ≠ [] := fun e2 => h (by rw [hs, e2]; rfl)
    simp [h2, h]

theorem syC_at {w : World} {a : Option Addr} {Y : List (Int × Int × ByteArray)} (h : RowAt w a (Y.map symC).flatten) {k : Nat} {x : Int × Int × ByteArray} (hk : Y[k]? = some x) : ∃ (p off : Nat), a = some ⟨p, off, none⟩ ∧ ∀ u, Kp (fun _ => False) w u → u.cell? ⟨p, off + k * 3, none⟩ = some (.int .u8 x.1) ∧ u.cell? ⟨p, off + k * 3 + 1, none⟩ = some (.int .i64 x.2.1) ∧ u.cell? ⟨p, off + k * 3 + 2, none⟩ = some (.string x.2.2) := by
  have hr : (Y.map symC)[k]? = some [.int .u8 x.1, .int .i64 x.2.1, .string x.2.2] := by rw [List.getElem?_map, hk]; rfl
  obtain ⟨b0, off0, e0, c0⟩ := h.cellAt (symC_len Y) (j := k) (i := 0) hr rfl
  obtain ⟨b1, off1, e1, c1⟩ := h.cellAt (symC_len Y) (j := k) (i := 1) hr rfl
  obtain ⟨b2, off2, e2, c2⟩ := h.cellAt (symC_len Y) (j := k) (i := 2) hr rfl
  obtain ⟨rfl, rfl⟩ : b0 = b1 ∧ off0 = off1 := by rw [e0] at e1; simpa using e1
  obtain ⟨rfl, rfl⟩ : b0 = b2 ∧ off0 = off2 := by rw [e0] at e2; simpa using e2
  have hlt : b0 < w.heap.size := World.block_lt_of_cell? w _ c0
  exact ⟨b0, off0, e0, fun u hu => ⟨(World.cell?_of_block (w := w) (w' := u) (a := ⟨b0, off0 + k * 3, none⟩) (hu.block b0 hlt (fun h => h))).trans c0, (World.cell?_of_block (w := w) (w' := u) (a := ⟨b0, off0 + k * 3 + 1, none⟩) (hu.block b0 hlt (fun h => h))).trans c1, (World.cell?_of_block (w := w) (w' := u) (a := ⟨b0, off0 + k * 3 + 2, none⟩) (hu.block b0 hlt (fun h => h))).trans c2⟩⟩

set_option maxRecDepth 100000 in
set_option maxHeartbeats 8000000 in
theorem tail_Good (h : Hd) (a : Option Addr) (c : Nat) (Y : List (Int × Int × ByteArray)) (w : World) (hY : RowAt w a (Y.map symC).flatten) (hn : Y.length ≤ 1000) (hb : ∀ k, cnt h k < 1000000000) :
    Calls Tryz.prog 24 #[hdV h, .slice a Y.length c] w fun e w' => e = .returned (.bool (goodY h Y [])) ∧ Kp (fun _ => False) w w' := by
  have hmm := @run_makeMap Tryz.prog
  have HCt := Lib.hid (fun (k : Int) (u : World) => tail_CountI h k u)
  obtain ⟨hd, hhd⟩ : ∃ hd, hd = h := ⟨_, rfl⟩
  have HB0 := Lib.hid (Blk.new w (hdCells h) 42)
  have HHD := Lib.hid hhd
  clear hhd
  obtain ⟨bin, m, i, l, o, ga, b, gc⟩ := h
  unfold hdV at HCt ⊢
  unfold hdCells at HB0
  simp only at HB0 HCt ⊢
  rw [← HHD.out] at HCt hb ⊢
  have HB := Lib.hid hb
  have HY := Lib.hid hY
  have HN := Lib.hid hn
  clear HHD hb hY hn
  go_enter Tryz.func24, Tryz.ntmps24
  go_upto_region 2 with fail
  obtain ⟨wz, hwz⟩ : ∃ wz : World, wz = (w.alloc (.cells #[.bool bin, .int .i64 m, .int .i64 i, .int .i64 l, .int .i64 o, .int .i64 ga, .int .i64 b, .int .i64 gc] 42)).alloc (.map #[] 0) := ⟨_, rfl⟩
  have HKz := Lib.hid (show Kp (fun _ => False) w wz by rw [hwz]; exact ((Kp.refl _ w).alloc _).alloc _)
  have HBz := Lib.hid (show Blk wz w.heap.size #[.bool bin, .int .i64 m, .int .i64 i, .int .i64 l, .int .i64 o, .int .i64 ga, .int .i64 b, .int .i64 gc] 42 by rw [hwz]; exact HB0.out.alloc _)
  have HSz := Lib.hid (show Seen wz (w.heap.size + 1) 0 [] by rw [hwz]; have := Seen.made (w.alloc (.cells #[.bool bin, .int .i64 m, .int .i64 i, .int .i64 l, .int .i64 o, .int .i64 ga, .int .i64 b, .int .i64 gc] 42)); rwa [World.size_alloc] at this)
  rw [← hwz]
  clear hwz HB0
  go_wp2_with fail
  go_loopw [11] (fun v11 wr => ∃ (k : Nat) (L : List (Nat × Nat)), v11 = .int .i64 k ∧ k ≤ Y.length ∧ L.length = k ∧ goodY hd Y [] = goodY hd (Y.drop k) L ∧ Blk wr w.heap.size #[.bool bin, .int .i64 m, .int .i64 i, .int .i64 l, .int .i64 o, .int .i64 ga, .int .i64 b, .int .i64 gc] 42 ∧ Seen wr (w.heap.size + 1) k L ∧ Kp (fun _ => False) w wr) (fun v11 _ => Y.length - (intOf v11).toNat)
  case atStart => exact ⟨0, [], rfl, by omega, rfl, rfl, HBz.out, HSz.out, HKz.out⟩
  case round =>
    obtain ⟨k, L, rfl, hk, hL, hG, hB, hS, hK⟩ := hrel
    obtain ⟨wp, rfl⟩ : ∃ wp : World, wp = wr := ⟨_, rfl⟩
    have HG := Lib.hid hG
    have HBl := Lib.hid hB
    have HS := Lib.hid hS
    have HK := Lib.hid hK
    have HL := Lib.hid hL
    clear hG hB hS hK hL HBz HSz HKz hmm
    by_cases hlt : k < Y.length
    · obtain ⟨x, hx⟩ : ∃ x, Y[k]? = some x := ⟨_, List.getElem?_eq_getElem hlt⟩
      obtain ⟨p, off, ea, hc⟩ := syC_at HY.out hx
      obtain ⟨e0, e1, e2⟩ := hc wp HK.out
      obtain ⟨ki, n, nm⟩ := x
      simp only at e0 e1 e2 hc
      have HDr := Lib.hid (show Y.drop k = (ki, n, nm) :: Y.drop (k + 1) by rw [List.drop_eq_getElem_cons hlt]; congr 1; rw [List.getElem?_eq_getElem hlt] at hx; exact Option.some.inj hx)
      clear hx hc
      rw [ea]
      have i0 : (0 : Int) ≤ (k : Int) := by omega
      have i2 : (k : Int) < (Y.length : Nat) := by omega
      have hbn : Y.length ≤ 1000 := HN.out
      go_upto_region 5 with fail
      obtain ⟨wq, hwq⟩ : ∃ wq : World, wq = wp.alloc (.cells #[.int .u8 ki, .int .i64 n, .string nm] 63) := ⟨_, rfl⟩
      have hkq : Kp (fun _ => False) wp wq := by rw [hwq]; exact (Kp.refl _ wp).alloc _
      have HX := Lib.hid (show Blk wq wp.heap.size #[.int .u8 ki, .int .i64 n, .string nm] 63 by rw [hwq]; exact Blk.new wp _ _)
      have HBq := Lib.hid (HBl.out.kp hkq (fun h => h))
      have HSq := Lib.hid (HS.out.kp hkq (fun h => h))
      have HKq := Lib.hid (HK.out.trans hkq (fun _ _ h => h))
      rw [← hwq]
      clear hwq hkq HBl HS HK e0 e1 e2
      go_cut [49] from 15 to 49 (fun s49 wx => s49 = .bool (badY hd L (ki, n, nm)) ∧ Kp (fun _ => False) wq wx)
      case first =>
        obtain ⟨Fw, hF1, hF2⟩ := still_class wq
        have HF1 := Lib.hid hF1
        have HF2 := Lib.hid hF2
        have m0 : ∀ y, (Fw y).cell? ⟨wp.heap.size, 0, none⟩ = some (.int .u8 ki) := fun y => (HX.out.kp (hF1 y) (fun h => h)).cell rfl
        have m1 : ∀ y, (Fw y).cell? ⟨wp.heap.size, 1, none⟩ = some (.int .i64 n) := fun y => (HX.out.kp (hF1 y) (fun h => h)).cell rfl
        have m2 : ∀ y, (Fw y).cell? ⟨wp.heap.size, 2, none⟩ = some (.string nm) := fun y => (HX.out.kp (hF1 y) (fun h => h)).cell rfl
        have y0 : ∀ y, (Fw y).cell? ⟨w.heap.size, 0, none⟩ = some (.bool bin) := fun y => (HBq.out.kp (hF1 y) (fun h => h)).cell rfl
        have y1 : ∀ y, (Fw y).cell? ⟨w.heap.size, 1, none⟩ = some (.int .i64 m) := fun y => (HBq.out.kp (hF1 y) (fun h => h)).cell rfl
        have y2 : ∀ y, (Fw y).cell? ⟨w.heap.size, 2, none⟩ = some (.int .i64 i) := fun y => (HBq.out.kp (hF1 y) (fun h => h)).cell rfl
        have y3 : ∀ y, (Fw y).cell? ⟨w.heap.size, 3, none⟩ = some (.int .i64 l) := fun y => (HBq.out.kp (hF1 y) (fun h => h)).cell rfl
        have y4 : ∀ y, (Fw y).cell? ⟨w.heap.size, 4, none⟩ = some (.int .i64 o) := fun y => (HBq.out.kp (hF1 y) (fun h => h)).cell rfl
        have y5 : ∀ y, (Fw y).cell? ⟨w.heap.size, 5, none⟩ = some (.int .i64 ga) := fun y => (HBq.out.kp (hF1 y) (fun h => h)).cell rfl
        have y6 : ∀ y, (Fw y).cell? ⟨w.heap.size, 6, none⟩ = some (.int .i64 b) := fun y => (HBq.out.kp (hF1 y) (fun h => h)).cell rfl
        have y7 : ∀ y, (Fw y).cell? ⟨w.heap.size, 7, none⟩ = some (.int .i64 gc) := fun y => (HBq.out.kp (hF1 y) (fun h => h)).cell rfl
        clear hF1 hF2
        have HCn := Lib.hid (fun y => HCt.out ki (Fw y))
        have HIx := Lib.hid (fun y => (Tryz.strings_IndexByte nm (10 : Nat) (Fw y)).mono (R' := fun e w' => e = .returned (.int .i64 (Lib.indexByte nm.data.toList 10)) ∧ Kp (fun _ => False) (Fw y) w') (fun e w' ⟨h1, h2⟩ => ⟨h1, h2 ▸ Kp.refl _ _⟩))
        have HTh := Lib.hid (fun y => tail_thing ki n nm (Fw y))
        obtain ⟨ct, hct⟩ : ∃ ct, cnt hd ki.toNat = ct := ⟨_, rfl⟩
        obtain ⟨ib, hib⟩ : ∃ ib, Lib.indexByte nm.data.toList 10 = ib := ⟨_, rfl⟩
        rw [hct] at HCn
        rw [hib] at HIx
        have HEm := Lib.hid (show (nm.toList == []) = decide (nm.size = 0) from name_empty nm)
        by_cases h1 : n < 0
        · have q1 : decide (n < 0) = true := decide_eq_true h1
          have HBd := Lib.hid (show badY hd L (ki, n, nm) = true by unfold badY; simp [hct, hib, h1])
          clear h1 hct hib
          refine wp_region_kept (by kernel_rfl) (by kernel_rfl) HF2.out ?_
          repeat (go_big_quiet_step (with_reducible first | exact Calls.still_of HF1.out HF2.out (HCn.out _) | exact Calls.still_of HF1.out HF2.out (HIx.out _) | exact Calls.still_of HF1.out HF2.out (HTh.out _)))
          refine wpQuiet_nil ?_
          rintro wB ⟨y, rfl⟩
          go_wp2_with fail
          go_meet
          case rel => exact ⟨by rw [HBd.out], HF1.out y⟩
        · have q1 : decide (n < 0) = false := decide_eq_false h1
          by_cases h2 : ct ≤ n
          · have q2 : decide (ct ≤ n) = true := decide_eq_true h2
            have HBd := Lib.hid (show badY hd L (ki, n, nm) = true by unfold badY; simp [hct, hib, h1, h2])
            clear h1 h2 hct hib
            refine wp_region_kept (by kernel_rfl) (by kernel_rfl) HF2.out ?_
            repeat (go_big_quiet_step (with_reducible first | exact Calls.still_of HF1.out HF2.out (HCn.out _) | exact Calls.still_of HF1.out HF2.out (HIx.out _) | exact Calls.still_of HF1.out HF2.out (HTh.out _)))
            refine wpQuiet_nil ?_
            rintro wB ⟨y, rfl⟩
            go_wp2_with fail
            go_meet
            case rel => exact ⟨by rw [HBd.out], HF1.out y⟩
          · have q2 : decide (ct ≤ n) = false := decide_eq_false h2
            have hk0 := kind_of hd (by rw [hct]; omega : 0 < cnt hd ki.toNat)
            by_cases h3 : nm.size = 0
            · have q3 : (nm.toList == []) = true := by rw [HEm.out]; exact decide_eq_true h3
              have HBd := Lib.hid (show badY hd L (ki, n, nm) = true by unfold badY; simp [hct, hib, h1, h2, h3])
              clear h1 h2 h3 hct hib
              refine wp_region_kept (by kernel_rfl) (by kernel_rfl) HF2.out ?_
              repeat (go_big_quiet_step (with_reducible first | exact Calls.still_of HF1.out HF2.out (HCn.out _) | exact Calls.still_of HF1.out HF2.out (HIx.out _) | exact Calls.still_of HF1.out HF2.out (HTh.out _)))
              refine wpQuiet_nil ?_
              rintro wB ⟨y, rfl⟩
              go_wp2_with fail
              go_meet
              case rel => exact ⟨by rw [HBd.out], HF1.out y⟩
            · have q3 : (nm.toList == []) = false := by rw [HEm.out]; exact decide_eq_false h3
              by_cases h4 : 64 < nm.size
              · have q4 : decide ((64 : Int) < (nm.size : Int)) = true := by simp; omega
                have HBd := Lib.hid (show badY hd L (ki, n, nm) = true by unfold badY; simp [hct, hib, h1, h2, h3, h4])
                clear h1 h2 h3 h4 hct hib
                refine wp_region_kept (by kernel_rfl) (by kernel_rfl) HF2.out ?_
                repeat (go_big_quiet_step (with_reducible first | exact Calls.still_of HF1.out HF2.out (HCn.out _) | exact Calls.still_of HF1.out HF2.out (HIx.out _) | exact Calls.still_of HF1.out HF2.out (HTh.out _)))
                refine wpQuiet_nil ?_
                rintro wB ⟨y, rfl⟩
                go_wp2_with fail
                go_meet
                case rel => exact ⟨by rw [HBd.out], HF1.out y⟩
              · have q4 : decide ((64 : Int) < (nm.size : Int)) = false := by simp; omega
                by_cases h5 : 0 ≤ ib
                · have q5 : decide (0 ≤ ib) = true := decide_eq_true h5
                  have HBd := Lib.hid (show badY hd L (ki, n, nm) = true by unfold badY; simp [hct, hib, h1, h2, h3, h4, h5])
                  clear h1 h2 h3 h4 h5 hct hib
                  refine wp_region_kept (by kernel_rfl) (by kernel_rfl) HF2.out ?_
                  repeat (go_big_quiet_step (with_reducible first | exact Calls.still_of HF1.out HF2.out (HCn.out _) | exact Calls.still_of HF1.out HF2.out (HIx.out _) | exact Calls.still_of HF1.out HF2.out (HTh.out _)))
                  refine wpQuiet_nil ?_
                  rintro wB ⟨y, rfl⟩
                  go_wp2_with fail
                  go_meet
                  case rel => exact ⟨by rw [HBd.out], HF1.out y⟩
                · have q5 : decide (0 ≤ ib) = false := decide_eq_false h5
                  have hnb : n < 1000000000 := by have := HB.out ki.toNat; omega
                  obtain ⟨se, hse⟩ : ∃ se, L.contains (ki.toNat, n.toNat) = se := ⟨_, rfl⟩
                  have lk : ∀ y, (Instr.lookup 81 (.map (some (w.heap.size + 1))) (.agg #[.int .u8 ki, .int .i64 n, .string ⟨#[]⟩]) false).run Tryz.prog (Fw y) = .ok (.bool se) (Fw y) := fun y => by
                    have h9 := (HSq.out.kp (HF1.out y) (fun h => h)).look (k := ki.toNat) (i := n.toNat) (by omega) (by omega)
                    unfold symKey at h9
                    rw [show ((ki.toNat : Nat) : Int) = ki by omega, show ((n.toNat : Nat) : Int) = n by omega, hse] at h9
                    exact h9
                  have HBd := Lib.hid (show badY hd L (ki, n, nm) = se by unfold badY; simp only [hct, hib, hse]; simp [h1, h2, h3, h4, h5])
                  clear h1 h2 h3 h4 h5 hct hib hse hk0 hnb
                  refine wp_region_kept (by kernel_rfl) (by kernel_rfl) HF2.out ?_
                  repeat (go_big_quiet_step (with_reducible first | exact Calls.still_of HF1.out HF2.out (HCn.out _) | exact Calls.still_of HF1.out HF2.out (HIx.out _) | exact Calls.still_of HF1.out HF2.out (HTh.out _)))
                  refine wpQuiet_nil ?_
                  rintro wB ⟨y, rfl⟩
                  go_wp2_with fail
                  go_meet
                  case rel => exact ⟨by rw [HBd.out], HF1.out y⟩
      case rest =>
      obtain ⟨rfl, hkx⟩ := hcut
      obtain ⟨wx, rfl⟩ : ∃ wx : World, wx = wc := ⟨_, rfl⟩
      have HX2 := Lib.hid (HX.out.kp hkx (fun h => h))
      have HBx := Lib.hid (HBq.out.kp hkx (fun h => h))
      have HSx := Lib.hid (HSq.out.kp hkx (fun h => h))
      have HKx := Lib.hid (HKq.out.trans hkx (fun _ _ h => h))
      clear hkx HX HBq HSq HKq
      cases hbd : badY hd L (ki, n, nm) with
      | true =>
        have HE := Lib.hid (show goodY hd Y [] = false by rw [HG.out, HDr.out]; unfold goodY; rw [if_pos hbd])
        clear hbd
        go_wp2_with fail
        go_ret
        rw [HE.out]
        exact ⟨rfl, HKx.out⟩
      | false =>
        have hbd2 := hbd
        unfold badY at hbd2
        simp only [Bool.or_eq_false_iff, decide_eq_false_iff_not] at hbd2
        obtain ⟨⟨⟨⟨⟨h1, h2⟩, -⟩, -⟩, -⟩, -⟩ := hbd2
        have hk0 := kind_of hd (by omega : 0 < cnt hd ki.toNat)
        have hnb : n < 1000000000 := by have := HB.out ki.toNat; omega
        have HE := Lib.hid (show goodY hd Y [] = goodY hd (Y.drop (k + 1)) (L ++ [(ki.toNat, n.toNat)]) by
          rw [HG.out, HDr.out]
          show (if _ then _ else _) = _
          rw [if_neg (by rw [hbd]; simp)])
        have HKi := Lib.hid (And.intro hk0 (And.intro h1 hnb))
        clear hbd h1 h2 hk0 hnb
        have x0 := HX2.out.cell (i := 0) (v := .int .u8 ki) rfl
        have x1 := HX2.out.cell (i := 1) (v := .int .i64 n) rfl
        have x2 := HX2.out.cell (i := 2) (v := .string nm) rfl
        go_wp2_with fail
        refine (tail_thing ki n nm _).mono ?_
        rintro o w2 ⟨rfl, hK2⟩
        obtain ⟨w3, hput, hS3, hK3⟩ := (HSx.out.kp hK2 (fun h => h)).put (k := ki.toNat) (i := n.toNat) (by have := HN.out; unfold maxLen; omega) (by have := HKi.out; omega) (by have := HKi.out; omega)
        unfold symKey at hput
        rw [show ((ki.toNat : Nat) : Int) = ki by have := HKi.out; omega, show ((n.toNat : Nat) : Int) = n by have := HKi.out; omega] at hput
        have HB3 := Lib.hid ((HBx.out.kp hK2 (fun h => h)).kp hK3 (by omega))
        have HS3 := Lib.hid hS3
        have HK3 := Lib.hid ((HKx.out.trans hK2 (fun _ _ h => h)).trans hK3 (fun j hj e => by omega))
        clear hK2 hK3 hS3 x0 x1 x2
        go_wp2_with fail
        go_roundw
        case rel => exact ⟨k + 1, L ++ [(ki.toNat, n.toNat)], by go_num, by omega, by rw [List.length_append, HL.out]; rfl, HE.out, HB3.out, HS3.out, HK3.out⟩
        case measure => simp [intOf]; omega
    · obtain rfl : k = Y.length := by omega
      have HE := Lib.hid (show goodY hd Y [] = true by rw [HG.out, List.drop_length]; rfl)
      clear hlt
      go_wp2_with fail
      go_ret
      rw [HE.out]
      exact ⟨rfl, HK.out⟩

end Go.Proofs.YtckmdcmkjmpiaaaGreatDoor

/-
  tail.Write of any good symbols, and any comment.
-/
namespace Go.Proofs.YtckmdcmkjmpiaaaGreatDoor
open Go.RowKit

/-- the builder at B, the text l in it -/
structure TS (w wr : World) (B : Nat) (l : List UInt8) : Prop where
  b : Lib.IsBuilder 109 5 B B (Lib.byteCells l) wr
  lt : w.heap.size ≤ B
  bw : B < wr.heap.size
  kp : Kp (fun _ => False) w wr
section
variable {w wr w' : World} {B : Nat} {l : List UInt8}
theorem TS.kp' (h : TS w wr B l) (k : Kp (fun _ => False) wr w') : TS w w' B l :=
  ⟨wsb_kp h.b k, h.lt, by have := h.bw; have := k.size; omega, h.kp.trans k (fun _ _ h => h)⟩
theorem TS.start {w1 : World} (hk : Kp (fun _ => False) w w1) : TS w (w1.alloc (.cells #[.pointer none, .slice none 0 0] 109)) w1.heap.size [] :=
  ⟨Lib.fresh_isBuilder _ _ _, hk.size, by simp, hk.alloc _⟩
theorem TS.wrote (h : TS w wr B l) {m : List UInt8} (hb : Lib.BuilderAt 109 5 B B (.pointer (some ⟨B, 0, none⟩)) (Lib.byteCells m) w') (hw : Below B wr w') (hk : Kp (BFr B wr) wr w') : TS w w' B m :=
  ⟨.inr hb, h.lt, by have := h.bw; have := hk.size; omega,
    h.kp.trans (show Kp (fun j => B ≤ j) wr w' from ⟨hw.os, hw.tape, hw.output, hw.size, fun k hk hS => hw.block k (by omega)⟩) (fun j hj e => by have := h.lt; have e2 : B ≤ j := e; omega)⟩
theorem TS.other (h : TS w wr B l) {b : Nat} {c : Array Value} {t : TypeId} (hb : Blk wr b c t) (hB : B ≠ b) (ht : t ≠ 5) (hk : Kp (BFr B wr) wr w') : Blk w' b c t := hb.kp hk (BFr.not hb (fun e => hB e.symm) ht)
theorem ts_str (h : TS w wr B l) (T : List UInt8) (s : ByteArray) (hs : s = ⟨T.toArray⟩) (hl : l.length + T.length ≤ 1000000000) :
    Calls Tryz.prog 57 #[.pointer (some ⟨B, 0, none⟩), .string s] wr fun e w' => (∃ v, e = .returned v) ∧ TS w w' B (l ++ T) ∧ Kp (BFr B wr) wr w' := by
  subst hs
  refine (bld_stringK B B (Lib.byteCells l) ⟨T.toArray⟩ wr h.b (by rw [Lib.byteCells_length, show (⟨T.toArray⟩ : ByteArray).size = T.length by show T.toArray.size = _; simp]; omega) (by have := h.bw; omega)).mono ?_
  rintro e w' ⟨rfl, hb, hw, hk⟩
  refine ⟨⟨_, rfl⟩, h.wrote ?_ hw hk, hk⟩
  rw [Lib.byteCells_append]
  exact hb
theorem ts_byte (h : TS w wr B l) (c : Int) (hc : 0 ≤ c ∧ c < 256) (hl : l.length ≤ 1000000000) :
    Calls Tryz.prog 62 #[.pointer (some ⟨B, 0, none⟩), .int .u8 c] wr fun e w' => (∃ v, e = .returned v) ∧ TS w w' B (l ++ [c.toNat.toUInt8]) ∧ Kp (BFr B wr) wr w' := by
  refine (bld_byteK B B (Lib.byteCells l) c wr h.b (by rw [Lib.byteCells_length]; omega) (by have := h.bw; omega)).mono ?_
  rintro e w' ⟨rfl, hb, hw, hk⟩
  refine ⟨⟨_, rfl⟩, h.wrote ?_ hw hk, hk⟩
  rw [Lib.byteCells_append]
  have e1 : Lib.byteCells [c.toNat.toUInt8] = [.int .u8 c] := by
    show [Value.int .u8 ((c.toNat.toUInt8).toNat : Int)] = _
    congr 2
    simp
    omega
  rw [e1]
  exact hb
theorem ts_end (h : TS w wr B l) : Calls Tryz.prog 59 #[.pointer (some ⟨B, 0, none⟩)] wr fun e w' => e = .returned (.string ⟨l.toArray⟩) ∧ Kp (fun _ => False) w w' := by
  refine (Tryz.Builder_String_any _ _ _ _ h.b (by have := h.bw; omega)).mono ?_
  rintro e w' ⟨rfl, hw⟩
  exact ⟨rfl, h.kp.trans (show Kp (fun j => B ≤ j) wr w' from ⟨hw.os, hw.tape, hw.output, hw.size, fun k hk hS => hw.block k (by omega)⟩) (fun j hj e => by have := h.lt; have e2 : B ≤ j := e; omega)⟩
end

def restY (x : Int × Int × ByteArray) : List UInt8 := Lib.itoa x.2.1 ++ ([32] ++ (x.2.2.data.toList ++ [10]))
def symY (x : Int × Int × ByteArray) : List UInt8 := x.1.toNat.toUInt8 :: restY x
def cmY (cm : ByteArray) : List UInt8 := if cm.size = 0 then [] else 99 :: 10 :: cm.data.toList
def tailB (Y : List (Int × Int × ByteArray)) (cm : ByteArray) : List UInt8 := Y.flatMap symY ++ cmY cm

/-- the symbols are such as tail.Write is given -/
def WrY (x : Int × Int × ByteArray) : Prop := (0 ≤ x.1 ∧ x.1 < 256) ∧ (-9223372036854775808 ≤ x.2.1 ∧ x.2.1 ≤ 9223372036854775807) ∧ x.2.2.size ≤ 64
theorem symY_len {x : Int × Int × ByteArray} (h : WrY x) : (symY x).length ≤ 155 := by
  have h1 := itoaLen (n := x.2.1) h.2.1.1 h.2.1.2
  have h2 := h.2.2
  rw [Lib.size_eq] at h2
  unfold symY restY
  simp only [List.length_cons, List.length_append, List.length_nil]
  omega
theorem cat4 (a : List UInt8) (s : ByteArray) : (((⟨a.toArray⟩ : ByteArray) ++ ⟨#[32]⟩) ++ s) ++ ⟨#[10]⟩ = ⟨(a ++ ([32] ++ (s.data.toList ++ [10]))).toArray⟩ := by
  apply ByteArray.ext; simp
theorem cat2 (s : ByteArray) : (⟨#[99, 10]⟩ : ByteArray) ++ s = ⟨(99 :: 10 :: s.data.toList).toArray⟩ := by
  apply ByteArray.ext; simp
theorem ba_list (s : ByteArray) : s = ⟨s.data.toList.toArray⟩ := by
  obtain ⟨⟨l⟩⟩ := s
  rfl

set_option maxRecDepth 100000 in
set_option maxHeartbeats 8000000 in
theorem tail_Write (a : Option Addr) (c : Nat) (Y : List (Int × Int × ByteArray)) (cm : ByteArray) (w : World) (hY : RowAt w a (Y.map symC).flatten) (hn : Y.length ≤ 1000) (hw : ∀ x ∈ Y, WrY x) (hc : cm.size ≤ 100000) (ht : Tab w) :
    Calls Tryz.prog 28 #[.slice a Y.length c, .string cm] w fun e w' => e = .returned (.string ⟨(tailB Y cm).toArray⟩) ∧ Kp (fun _ => False) w w' := by
  have HT := Lib.hid ht
  have HY := Lib.hid hY
  have HN := Lib.hid hn
  have HWr := Lib.hid hw
  have HC := Lib.hid hc
  have HS0 := Lib.hid (TS.start (Kp.refl (fun _ => False) w))
  clear ht hY hn hw hc
  go_enter Tryz.func28, Tryz.ntmps28
  go_wp2_with fail
  go_loopw [10] (fun v10 wr => ∃ k : Nat, v10 = .int .i64 k ∧ k ≤ Y.length ∧ TS w wr w.heap.size ((Y.take k).flatMap symY)) (fun v10 _ => Y.length - (intOf v10).toNat)
  case atStart => exact ⟨0, rfl, by omega, by simpa using HS0.out⟩
  case round =>
    obtain ⟨k, rfl, hk, hS⟩ := hrel
    obtain ⟨wp, rfl⟩ : ∃ wp : World, wp = wr := ⟨_, rfl⟩
    have HS := Lib.hid hS
    have hn := HN.out
    clear hS HS0
    by_cases hlt : k < Y.length
    · obtain ⟨x, hx⟩ : ∃ x, Y[k]? = some x := ⟨_, List.getElem?_eq_getElem hlt⟩
      have hwx := HWr.out x (List.mem_of_getElem? hx)
      have HTk := Lib.hid (flat_take symY hx)
      have hlj : ((Y.take k).flatMap symY).length ≤ 155000 := by
        have h1 := flat_len (f := symY) (m := 155) (L := Y.take k) (fun y hy => symY_len (HWr.out y (List.mem_of_mem_take hy)))
        have h2 : (Y.take k).length ≤ 1000 := by rw [List.length_take]; omega
        omega
      obtain ⟨p, off, ea, hc⟩ := syC_at HY.out hx
      obtain ⟨e0, e1, e2⟩ := hc wp HS.out.kp
      obtain ⟨ki, n, nm⟩ := x
      obtain ⟨hw1, hw2, hw3⟩ := hwx
      simp only at e0 e1 e2 hw1 hw2 hw3
      have HD := Lib.hid (fun u hu => octet_Dec n u hw2.1 hw2.2 hu)
      obtain ⟨m, hm⟩ : ∃ m, (Y.take k).flatMap symY = m := ⟨_, rfl⟩
      rw [hm] at HS HTk hlj
      have hi1 := itoaLen (n := n) hw2.1 hw2.2
      obtain ⟨T1, hT1⟩ : ∃ T, Lib.itoa n = T := ⟨_, rfl⟩
      have HTx := Lib.hid (show (Y.take (k + 1)).flatMap symY = m ++ (ki.toNat.toUInt8 :: (T1 ++ ([32] ++ (nm.data.toList ++ [10])))) by rw [HTk.out]; unfold symY restY; rw [hT1])
      rw [hT1] at HD hi1
      have HI := Lib.hid (And.intro hlj (And.intro hi1 hw3))
      have HKi := Lib.hid hw1
      rw [ea]
      have i0 : (0 : Int) ≤ (k : Int) := by omega
      have i2 : (k : Int) < (Y.length : Nat) := by omega
      clear hx hc hm hT1 HTk hlj ea
      obtain ⟨ws, hws⟩ : ∃ ws : World, ws = wp.alloc (.cells #[.int .u8 ki, .int .i64 n, .string nm] 63) := ⟨_, rfl⟩
      have HSs := Lib.hid (HS.out.kp' (by rw [hws]; exact (Kp.refl _ wp).alloc _ : Kp (fun _ => False) wp ws))
      have HX := Lib.hid (show Blk ws wp.heap.size #[.int .u8 ki, .int .i64 n, .string nm] 63 by rw [hws]; exact Blk.new _ _ _)
      have HBp := Lib.hid (show w.heap.size ≠ wp.heap.size from by have := HS.out.bw; omega)
      have HZs := Lib.hid hws
      clear hws
      go_upto_region 5 with fail
      rw [← HZs.out]
      clear HZs e0 e1 e2 HS
      have x0 := HX.out.cell (i := 0) (v := .int .u8 ki) rfl
      go_wp2_with fail
      refine (ts_byte HSs.out ki HKi.out (by have := HI.out; omega)).mono ?_
      rintro e w2 ⟨⟨v, rfl⟩, hS2, hK2⟩
      have HX2 := Lib.hid (HSs.out.other HX.out HBp.out (by decide) hK2)
      have HS2 := Lib.hid hS2
      clear hS2 hK2 x0 HX HSs
      have HS2d := Lib.hid (HS2.out.kp' (Kp.refl (fun _ => False) w2).drew)
      have HX2d := Lib.hid HX2.out.drew
      have HWs := Lib.hid (fun (u : World) (hS : TS w u w.heap.size (m ++ [ki.toNat.toUInt8])) => show Calls Tryz.prog 57 #[.pointer (some ⟨w.heap.size, 0, none⟩), .string ((((⟨T1.toArray⟩ : ByteArray) ++ ⟨#[32]⟩) ++ nm) ++ ⟨#[10]⟩)] u _ from ts_str hS (T1 ++ ([32] ++ (nm.data.toList ++ [10]))) _ (cat4 T1 nm) (by have := HI.out; have h9 := Lib.size_eq nm; simp only [List.length_append, List.length_cons, List.length_nil]; omega))
      go_upto_region 6 with fail
      have x1 := HX2.out.cell (i := 1) (v := .int .i64 n) rfl
      have x2 := HX2.out.cell (i := 2) (v := .string nm) rfl
      have hsz : nm.size ≤ 64 := hw3
      have hcat1 : ¬ 9223372036854775807 < T1.length + 1 := by omega
      have hcat2 : ¬ 9223372036854775807 < T1.length + 1 + nm.size := by omega
      have hcat3 : ¬ 9223372036854775807 < T1.length + 1 + nm.size + 1 := by omega
      go_region_held3 (fun u => u.cell? ⟨wp.heap.size, 1, none⟩ = some (.int .i64 n) ∧ u.cell? ⟨wp.heap.size, 2, none⟩ = some (.string nm)) (with_reducible first | exact ⟨HX2d.out.cell rfl, HX2d.out.cell rfl⟩ | exact ⟨HX3.out.cell rfl, HX3.out.cell rfl⟩ | exact ⟨HX4.out.cell rfl, HX4.out.cell rfl⟩) ((first
        | ((with_reducible refine Calls.mono (HD.out _ (HT.out.kp HS2d.out.kp)) ?_)
           rintro o w3 ⟨rfl, hK3⟩
           have HS3 := Lib.hid (HS2d.out.kp' hK3)
           have HX3 := Lib.hid (HX2d.out.kp hK3 (fun h => h))
           clear hK3)
        | ((with_reducible refine Calls.mono (HWs.out _ HS3.out) ?_)
           rintro o w4 ⟨⟨v, rfl⟩, hS4, hK4⟩
           have HX4 := Lib.hid (HS3.out.other HX3.out HBp.out (by decide) hK4)
           have HS4 := Lib.hid hS4
           clear hS4 hK4)))
      go_wp2_with fail
      go_roundw
      case rel => exact ⟨k + 1, by go_num, by omega, by rw [HTx.out]; simpa using HS4.out⟩
      case measure => simp [intOf]; omega
    · obtain rfl : k = Y.length := by omega
      have HSe := Lib.hid (show TS w wp w.heap.size (Y.flatMap symY) by have := HS.out; rwa [List.take_length] at this)
      have hl : (Y.flatMap symY).length ≤ 155000 := by
        have h1 := flat_len (f := symY) (m := 155) (L := Y) (fun y hy => symY_len (HWr.out y hy))
        omega
      have hem := name_empty cm
      obtain ⟨t, ht⟩ : ∃ t, Y.flatMap symY = t := ⟨_, rfl⟩
      have HTl := Lib.hid (show tailB Y cm = t ++ cmY cm by unfold tailB; rw [ht])
      rw [ht] at HSe hl
      have HL := Lib.hid hl
      clear hlt hk HS ht hl
      by_cases hz : cm.size = 0
      · have q1 : cm.toList.isEmpty = true := by rw [List.isEmpty_iff]; rw [hz] at hem; simpa using hem
        have HE := Lib.hid (show tailB Y cm = t by rw [HTl.out]; unfold cmY; rw [if_pos hz]; simp)
        clear hem hz
        go_wp2_with fail
        refine (ts_end HSe.out).mono ?_
        rintro e w9 ⟨rfl, hK9⟩
        have HK := Lib.hid hK9
        clear hK9
        go_wp2_with fail
        go_ret
        rw [HE.out]
        exact ⟨rfl, HK.out⟩
      · have q1 : cm.toList.isEmpty = false := by rw [List.isEmpty_eq_false_iff]; intro e; rw [e] at hem; simp [hz] at hem
        have HE := Lib.hid (show tailB Y cm = t ++ (99 :: 10 :: cm.data.toList) by rw [HTl.out]; unfold cmY; rw [if_neg hz])
        have hsz := HC.out
        have hcat1 : ¬ 9223372036854775807 < 2 + cm.size := by omega
        clear hem hz
        go_wp2_with fail
        refine (ts_str HSe.out (99 :: 10 :: cm.data.toList) _ (cat2 cm) (by have := HL.out; have h9 := Lib.size_eq cm; simp only [List.length_cons]; omega)).mono ?_
        rintro o w4 ⟨⟨v, rfl⟩, hS4, hK4⟩
        have HS4 := Lib.hid hS4
        clear hS4 hK4
        go_wp2_with fail
        refine (ts_end HS4.out).mono ?_
        rintro e w9 ⟨rfl, hK9⟩
        have HK := Lib.hid hK9
        clear hK9
        go_wp2_with fail
        go_ret
        rw [HE.out]
        exact ⟨rfl, HK.out⟩

end Go.Proofs.YtckmdcmkjmpiaaaGreatDoor

/-
  binary.Write. (Printed by mkbinwrite.py.)
-/
namespace Go.Proofs.YtckmdcmkjmpiaaaGreatDoor
open Go.RowKit

theorem bin_Normal_yes (V : CV) (C : Circ) (w : World) (h : CAt w V C) (hf : CFew C 1000000) (hM : -9223372036854775808 ≤ C.max ∧ C.max ≤ 9223372036854775807) (hN : NormC C) :
    Calls Tryz.prog 60 #[.agg (cvals V C)] w fun e w' => e = .returned (.bool true) ∧ Kp (fun _ => False) w w' := by
  refine (bin_Normal V C w h hf hM).mono ?_
  rintro e w' ⟨r, rfl, hr, hK⟩
  rw [hr.2 hN]
  exact ⟨rfl, hK⟩
theorem bin_Normal_no (V : CV) (C : Circ) (w : World) (h : CAt w V C) (hf : CFew C 1000000) (hM : -9223372036854775808 ≤ C.max ∧ C.max ≤ 9223372036854775807) (hN : ¬ NormC C) :
    Calls Tryz.prog 60 #[.agg (cvals V C)] w fun e w' => e = .returned (.bool false) ∧ Kp (fun _ => False) w w' := by
  refine (bin_Normal V C w h hf hM).mono ?_
  rintro e w' ⟨r, rfl, hr, hK⟩
  cases r with
  | false => exact ⟨rfl, hK⟩
  | true => exact absurd (hr.1 rfl) hN

/-- what Write ends with -/
def BinWrP (C : Circ) (w : World) (e : Ending) (w' : World) : Prop :=
  ((NormC C ∧ e = .returned (.tuple #[.string ⟨(binB C).toArray⟩, .bool true])) ∨ (¬ NormC C ∧ e = .returned (.tuple #[.string ⟨#[]⟩, .bool false]))) ∧ Kp (fun _ => False) w w'

set_option maxRecDepth 100000 in
set_option maxHeartbeats 8000000 in
theorem bin_Write (V : CV) (C : Circ) (w : World) (h : CAt w V C) (hf : CFew C 1000000) (hM : -9223372036854775808 ≤ C.max ∧ C.max ≤ 9223372036854775807) (ht : Tab w) :
    Calls Tryz.prog 26 #[.agg (cvals V C)] w fun e w' => BinWrP C w e w' := by
  have HA := Lib.hid h
  have HF := Lib.hid hf
  have HT := Lib.hid ht
  obtain ⟨wz, hwz⟩ : ∃ wz : World, wz = w.alloc (.cells (cvals V C) 27) := ⟨_, rfl⟩
  have HK0 := Lib.hid (show Kp (fun _ => False) w wz by rw [hwz]; exact (Kp.refl _ w).alloc _)
  have HC0 := Lib.hid (show Blk wz w.heap.size (cvals V C) 27 by rw [hwz]; exact Blk.new w (cvals V C) _)
  have HZ := Lib.hid hwz
  clear h ht hwz
  by_cases hN : NormC C
  case neg =>
    have HNm := Lib.hid (bin_Normal_no V C wz (HA.out.kp HK0.out) HF.out hM hN)
    have HNn := Lib.hid hN
    unfold cvals at HNm HC0 HZ ⊢
    obtain ⟨d0, d1, d2, d3, d4, d5, d6, d7, d8⟩ := Blk.cells9 HC0.out
    clear hM hN hf
    go_enter Tryz.func26, Tryz.ntmps26
    go_upto_region 1 with fail
    rw [← HZ.out]
    clear HZ
    go_wp2_with (go_at_call 60; with_reducible refine Calls.mono HNm.out ?_; rintro e w1 ⟨rfl, hK1⟩; have HK1 := Lib.hid (HK0.out.trans hK1 (fun _ _ h => h)); clear hK1)
    go_ret2
    exact ⟨.inr ⟨HNn.out, rfl⟩, HK1.out⟩
  have HNm := Lib.hid (bin_Normal_yes V C wz (HA.out.kp HK0.out) HF.out hM hN)
  have HNn := Lib.hid hN
  unfold cvals at HNm HC0 HZ ⊢
  obtain ⟨d0, d1, d2, d3, d4, d5, d6, d7, d8⟩ := Blk.cells9 HC0.out
  clear hM hN hf
  go_enter Tryz.func26, Tryz.ntmps26
  go_upto_region 1 with fail
  rw [← HZ.out]
  clear HZ
  go_upto_region 3 with (go_at_call 60; with_reducible refine Calls.mono HNm.out ?_; rintro e w1 ⟨rfl, hK1⟩; have HS1 := Lib.hid (WS.start (V := V) (C := C) (HC0.out.kp hK1 (fun h => h)) (HK0.out.trans hK1 (fun _ _ h => h))); clear hK1)
  obtain ⟨B, hB⟩ : ∃ B : Nat, B = w1.heap.size := ⟨_, rfl⟩
  obtain ⟨wb, hwb⟩ : ∃ wb : World, wb = w1.alloc (.cells #[.pointer none, .slice none 0 0] 109) := ⟨_, rfl⟩
  rw [← hwb, ← hB] at HS1
  have HZb := Lib.hid (And.intro hwb hB)
  clear hwb hB d0 d1 d2 d3 d4 d5 d6 d7 d8 HNm HC0
  have HWc := Lib.hid (show ∀ (u : World) (l : List UInt8), WS w u B V C l → u.cell? ⟨w.heap.size, 2, none⟩ = some (.slice V.al C.lats.length V.cl) ∧ u.cell? ⟨w.heap.size, 3, none⟩ = some (.slice V.ao C.outs.length V.co) ∧ u.cell? ⟨w.heap.size, 4, none⟩ = some (.slice V.ab C.bads.length V.cb) ∧ u.cell? ⟨w.heap.size, 5, none⟩ = some (.slice V.ac C.cons.length V.cc) ∧ u.cell? ⟨w.heap.size, 6, none⟩ = some (.slice V.ag C.gates.length V.cg) from fun u l h =>
    ⟨h.c.cell (i := 2) rfl, h.c.cell (i := 3) rfl, h.c.cell (i := 4) rfl, h.c.cell (i := 5) rfl, h.c.cell (i := 6) rfl⟩)
  obtain ⟨-, ho, hb, hc, -⟩ := HWc.out _ _ HS1.out
  go_upto_region 4 with fail
  rw [← HZb.out.1, ← HZb.out.2]
  clear ho hb hc
  obtain ⟨hl, -⟩ := HWc.out _ _ HS1.out
  have HZ2 := HZb
  clear HZb
  go_wp2_with fail
  go_loopw [19] (fun v19 wr => ∃ k : Nat, v19 = .int .i64 k ∧ k ≤ C.lats.length ∧ WS w wr B V C ((C.lats.take k).flatMap latB)) (fun v19 _ => C.lats.length - (intOf v19).toNat)
  case atStart => exact ⟨0, rfl, by omega, HS1.out⟩
  case round =>
    obtain ⟨k, rfl, hk, hW⟩ := hrel
    obtain ⟨wp, rfl⟩ : ∃ wp : World, wp = wr := ⟨_, rfl⟩
    have HW := Lib.hid hW
    have hnl : C.lats.length ≤ 1000000 := HF.out.l
    clear hW hl
    by_cases hlt : k < C.lats.length
    · obtain ⟨b, off, ea, hE⟩ := HA.out.latCell hlt
      obtain ⟨e0, e1, e2⟩ := hE _ HW.out.kp
      have hr := norm_lat HNn.out HF.out hlt
      have hln := lats_len HNn.out HF.out k
      have HTk := Lib.hid (flat_take latB (g3_some hlt))
      obtain ⟨x0, hx0⟩ : ∃ x, (g3 C.lats k).1 = x := ⟨_, rfl⟩
      obtain ⟨x1, hx1⟩ : ∃ x, (g3 C.lats k).2.1 = x := ⟨_, rfl⟩
      obtain ⟨x2, hx2⟩ : ∃ x, (g3 C.lats k).2.2 = x := ⟨_, rfl⟩
      have hg3 : g3 C.lats k = (x0, x1, x2) := by rw [← hx0, ← hx1, ← hx2]
      rw [hx0] at e0
      rw [hx1] at e1 hr
      rw [hx2] at e2 hr
      rw [hg3] at HTk
      obtain ⟨l, hl⟩ : ∃ l, (C.lats.take k).flatMap latB = l := ⟨_, rfl⟩
      rw [hl] at HTk HW hln
      rw [ea]
      have hi1 := itoaLen (n := x1) (by omega) (by omega)
      have hi2 := itoaLen (n := x2) (by omega) (by omega)
      have HI := Lib.hid (And.intro hln (And.intro hi1 hi2))
      have i0 : (0 : Int) ≤ (k : Int) := by omega
      have i2 : (k : Int) < (C.lats.length : Int) := by omega
      obtain ⟨wv, hwv⟩ : ∃ wv : World, wv = wp.alloc (.cells #[.int .i64 x0, .int .i64 x1, .int .i64 x2] 59) := ⟨_, rfl⟩
      have HWv := Lib.hid (HW.out.kp' (by rw [hwv]; exact (Kp.refl _ wp).alloc _ : Kp (fun _ => False) wp wv))
      have HX := Lib.hid (show Blk wv wp.heap.size #[.int .i64 x0, .int .i64 x1, .int .i64 x2] 59 by rw [hwv]; exact Blk.new _ _ _)
      have nb1 := HX.out.cell (i := 1) (v := .int .i64 x1) rfl
      have HBp := Lib.hid (show B ≠ wp.heap.size from by have := HW.out.bw; omega)
      have HZv := Lib.hid hwv
      have HR := Lib.hid hr
      clear hx0 hx1 hx2 hE ea hwv hg3 hl hln hr
      have HDx1 := Lib.hid (fun u hu => octet_Dec x1 u (by have := HR.out; omega) (by have := HR.out; omega) hu)
      have HDx2 := Lib.hid (fun u hu => octet_Dec x2 u (by have := HR.out; omega) (by have := HR.out; omega) hu)
      by_cases hx : x2 = 0
      · have q : ((x2 : Int) != 0) = false := by simp [hx]
        have HL := Lib.hid (show latB (x0, x1, x2) = Lib.itoa x1 ++ [10] by unfold latB lineB; rw [if_pos hx])
        clear hx
        obtain ⟨T1, hT1⟩ : ∃ T, Lib.itoa x1 = T := ⟨_, rfl⟩
        rw [hT1] at HDx1 HI HL
        clear hT1 hi1 hi2
        go_upto_region 7 with fail
        rw [← HZv.out]
        clear HZv e0 e1 e2
        go_upto_region 8 with (first
          | (go_at_call 61; refine (HDx1.out _ (HT.out.kp HWv.out.kp)).mono ?_; rintro e w2 ⟨rfl, hK2⟩; have HW2 := Lib.hid (HWv.out.kp' hK2); have HX2 := Lib.hid (HX.out.kp hK2 (fun h => h)); clear hK2)
          | (go_at_call 57; refine (ws_str HW2.out T1 _ rfl (by have := HI.out; omega)).mono ?_; rintro e w3 ⟨⟨v, rfl⟩, hW3, hK3⟩; have HX3 := Lib.hid (HW2.out.other HX2.out HBp.out (by decide) hK3); have HW3 := Lib.hid hW3; clear hW3 hK3))
        have nb2 := HX3.out.cell (i := 2) (v := .int .i64 x2) rfl
        go_wp2_with (go_at_call 62; refine (ws_byte HW3.out (by have := HI.out; rw [List.length_append]; omega)).mono ?_; rintro e w4 ⟨⟨v, rfl⟩, hW4, hK4⟩; have HW4 := Lib.hid hW4; clear hW4 hK4)
        go_roundw
        case rel => exact ⟨k + 1, by go_num, by omega, by rw [HTk.out, HL.out, ← List.append_assoc]; exact HW4.out⟩
        case measure => simp [intOf]; omega
      · have q : ((x2 : Int) != 0) = true := by simpa using hx
        have HL := Lib.hid (show latB (x0, x1, x2) = Lib.itoa x1 ++ 32 :: (Lib.itoa x2 ++ [10]) by unfold latB lineB; rw [if_neg hx])
        clear hx
        obtain ⟨T1, hT1⟩ : ∃ T, Lib.itoa x1 = T := ⟨_, rfl⟩
        rw [hT1] at HDx1 HI HL
        obtain ⟨T2, hT2⟩ : ∃ T, Lib.itoa x2 = T := ⟨_, rfl⟩
        rw [hT2] at HDx2 HI HL
        have hcat : ¬ 9223372036854775807 < 1 + T2.length := by have := HI.out; omega
        clear hT1 hi1 hi2 hT2
        go_upto_region 7 with fail
        rw [← HZv.out]
        clear HZv e0 e1 e2
        go_upto_region 8 with (first
          | (go_at_call 61; refine (HDx1.out _ (HT.out.kp HWv.out.kp)).mono ?_; rintro e w2 ⟨rfl, hK2⟩; have HW2 := Lib.hid (HWv.out.kp' hK2); have HX2 := Lib.hid (HX.out.kp hK2 (fun h => h)); clear hK2)
          | (go_at_call 57; refine (ws_str HW2.out T1 _ rfl (by have := HI.out; omega)).mono ?_; rintro e w3 ⟨⟨v, rfl⟩, hW3, hK3⟩; have HX3 := Lib.hid (HW2.out.other HX2.out HBp.out (by decide) hK3); have HW3 := Lib.hid hW3; clear hW3 hK3))
        have nb2 := HX3.out.cell (i := 2) (v := .int .i64 x2) rfl
        go_wp2_with (first
          | (go_at_call 61; refine (HDx2.out _ (HT.out.kp HW3.out.kp)).mono ?_; rintro e w5 ⟨rfl, hK5⟩; have HW5 := Lib.hid (HW3.out.kp' hK5); clear hK5)
          | (go_at_call 57; refine (ws_str HW5.out (32 :: T2) _ (cat_bytes [32] T2) (by have := HI.out; rw [List.length_append, List.length_cons]; omega)).mono ?_; rintro e w6 ⟨⟨v, rfl⟩, hW6, hK6⟩; have HW6 := Lib.hid hW6; clear hW6 hK6)
          | (go_at_call 62; refine (ws_byte HW6.out (by have := HI.out; rw [List.length_append, List.length_append, List.length_cons]; omega)).mono ?_; rintro e w4 ⟨⟨v, rfl⟩, hW4, hK4⟩; have HW4 := Lib.hid hW4; clear hW4 hK4))
        go_roundw
        case rel => exact ⟨k + 1, by go_num, by omega, by rw [HTk.out, HL.out]; simpa using HW4.out⟩
        case measure => simp [intOf]; omega
    · obtain rfl : k = C.lats.length := by omega
      have HWl := Lib.hid (show WS w wp B V C (wtx C 0) by rw [wtx_zero]; have := HW.out; rwa [List.take_length] at this)
      obtain ⟨-, c3, c4, c5, -⟩ := HWc.out _ _ HWl.out
      obtain ⟨wq, hwq⟩ : ∃ wq : World, wq = wp.alloc (.cells #[.slice V.ao C.outs.length V.co, .slice V.ab C.bads.length V.cb, .slice V.ac C.cons.length V.cc] 22) := ⟨_, rfl⟩
      have HWq := Lib.hid (HWl.out.kp' (by rw [hwq]; exact (Kp.refl _ wp).alloc _ : Kp (fun _ => False) wp wq))
      have HLq := Lib.hid (show Blk wq wp.heap.size #[.slice V.ao C.outs.length V.co, .slice V.ab C.bads.length V.cb, .slice V.ac C.cons.length V.cc] 22 by rw [hwq]; exact Blk.new _ _ _)
      have HBq := Lib.hid (show B ≠ wp.heap.size from by have := HWl.out.bw; omega)
      have HZq := Lib.hid hwq
      clear hwq HW
      go_upto_region 13 with fail
      rw [← HZq.out]
      clear HZq c3 c4 c5
      go_loopw [45] (fun v45 wr => ∃ k : Nat, v45 = .int .i64 k ∧ k ≤ 3 ∧ WS w wr B V C (wtx C k) ∧ Blk wr wp.heap.size #[.slice V.ao C.outs.length V.co, .slice V.ab C.bads.length V.cb, .slice V.ac C.cons.length V.cc] 22) (fun v45 _ => 3 - (intOf v45).toNat)
      case atStart => exact ⟨0, rfl, by omega, HWq.out, HLq.out⟩
      case round =>
        obtain ⟨k, rfl, hk3, hW, hL⟩ := hrel
        clear HWq HLq HWl
        obtain ⟨wk, rfl⟩ : ∃ wk : World, wk = wr := ⟨_, rfl⟩
        have HW := Lib.hid hW
        have HL := Lib.hid hL
        clear hW hL
        by_cases hlt : k < 3
        · obtain ⟨a, n, c, hcl, hln, hrow⟩ := wcell HA.out hlt
          have hcell := HL.out.cell hcl
          have HRow := Lib.hid hrow
          have HRg := Lib.hid (fun x (hx : x ∈ wl C k) => norm_wl HNn.out HF.out hx)
          have hwt := wtx_len HNn.out HF.out k
          have HTj := Lib.hid (fun j => wl_len HNn.out HF.out k j)
          have HSu := Lib.hid (wtx_succ C k)
          have hn1 : n ≤ 1000000 := by
            rw [← hln]
            match k with
            | 0 => exact HF.out.o
            | 1 => exact HF.out.b
            | k + 2 => exact HF.out.c
          obtain ⟨M, hM⟩ : ∃ M, wl C k = M := ⟨_, rfl⟩
          obtain ⟨t, ht⟩ : ∃ t, wtx C k = t := ⟨_, rfl⟩
          rw [hM] at HRow HRg HTj HSu hln
          rw [ht] at hwt HSu HW
          have hwt2 : t.length ≤ 110000000 := by omega
          have HLn := Lib.hid hln
          have HWt := Lib.hid hwt2
          have i0 : (0 : Int) ≤ (k : Int) := by omega
          have i2 : (k : Int) < 3 := by omega
          have HW0 := Lib.hid (show WS w wk B V C (t ++ (M.take 0).flatMap oneB) by simpa using HW.out)
          clear hM ht hwt hwt2 hln hrow hcl
          go_wp2_with fail
          go_loopw [51] (fun v51 wr => ∃ j : Nat, v51 = .int .i64 j ∧ j ≤ n ∧ WS w wr B V C (t ++ (M.take j).flatMap oneB) ∧ Blk wr wp.heap.size #[.slice V.ao C.outs.length V.co, .slice V.ab C.bads.length V.cb, .slice V.ac C.cons.length V.cc] 22 ∧ Kp (fun _ => False) w wr) (fun v51 _ => n - (intOf v51).toNat)
          case atStart => exact ⟨0, rfl, by omega, HW0.out, HL.out, HW0.out.kp⟩
          case round =>
            obtain ⟨j, rfl, hj, hW, hL, -⟩ := hrel
            clear HW HL HW0 hcell
            obtain ⟨wj, rfl⟩ : ∃ wk : World, wk = wr := ⟨_, rfl⟩
            have HW := Lib.hid hW
            have HL := Lib.hid hL
            clear hW hL
            by_cases hlt2 : j < n
            · have hjl : j < M.length := by rw [HLn.out]; exact hlt2
              have hxm := HRg.out (gi M j) (List.mem_of_getElem? (gi_some hjl))
              obtain ⟨b, off, ea, e0⟩ := (show IntsAt wj a M from RowAt.kp HRow.out HW.out.kp (fun _ _ h => h)).get hjl
              have hTk := flat_take oneB (gi_some hjl)
              have hlj := HTj.out j
              obtain ⟨x, hx⟩ : ∃ x, gi M j = x := ⟨_, rfl⟩
              rw [hx] at e0 hxm hTk
              obtain ⟨m, hm⟩ : ∃ m, (M.take j).flatMap oneB = m := ⟨_, rfl⟩
              rw [hm] at HW hTk hlj
              have hi1 := itoaLen (n := x) (by omega) (by omega)
              have HI := Lib.hid (And.intro hlj hi1)
              have HXm := Lib.hid hxm
              have HDx := Lib.hid (fun u hu => octet_Dec x u (by have := HXm.out; omega) (by have := HXm.out; omega) hu)
              have HTk := Lib.hid (show (M.take (j + 1)).flatMap oneB = m ++ (Lib.itoa x ++ [10]) from hTk)
              obtain ⟨T1, hT1⟩ : ∃ T, Lib.itoa x = T := ⟨_, rfl⟩
              rw [hT1] at HDx HI HTk hi1
              have hcat : ¬ 9223372036854775807 < T1.length + 1 := by omega
              rw [ea]
              have i0 : (0 : Int) ≤ (j : Int) := by omega
              have i2 : (j : Int) < (n : Int) := by omega
              clear hx hm hT1 hTk hi1 hlj hxm ea
              go_wp2_with (first
                | (go_at_call 61; refine (HDx.out _ (HT.out.kp HW.out.kp)).mono ?_; rintro e w5 ⟨rfl, hK5⟩; have HW5 := Lib.hid (HW.out.kp' hK5); have HL5 := Lib.hid (HL.out.kp hK5 (fun h => h)); clear hK5)
                | (go_at_call 57; refine (ws_str HW5.out (T1 ++ [10]) _ (cat_bytes T1 [10]) (by have := HI.out; have := HWt.out; simp only [List.length_append, List.length_cons, List.length_nil]; omega)).mono ?_; rintro e w6 ⟨⟨v, rfl⟩, hW6, hK6⟩; have HL6 := Lib.hid (HW5.out.other HL5.out HBq.out (by decide) hK6); have HK6 := Lib.hid hK6; have HW6 := Lib.hid hW6; clear hW6 hK6))
              go_roundw
              case rel => exact ⟨j + 1, by go_num, by omega, by rw [HTk.out, ← List.append_assoc]; exact HW6.out, HL6.out, HW6.out.kp⟩
              case measure => simp [intOf]; omega
            · obtain rfl : j = n := by omega
              have HWn := Lib.hid (show WS w wj B V C (wtx C (k + 1)) by rw [HSu.out]; have := HW.out; rwa [List.take_of_length_le (by rw [HLn.out]; exact Nat.le_refl _)] at this)
              go_wp2_with fail
              go_roundw
              case rel => exact ⟨k + 1, by go_num, by omega, HWn.out, HL.out⟩
              case measure => simp [intOf]; omega
        · have HW := Lib.hid (show WS w wk B V C (wtx C 3) by have := HW.out; rwa [show k = 3 by omega] at this)
          have hd : decide ((k : Int) < 3) = false := by simp; omega
          clear hlt hk3
          obtain ⟨-, -, -, -, c6⟩ := HWc.out _ _ HW.out
          have HW0 := Lib.hid (show WS w wk B V C (wtx C 3 ++ (C.gates.take 0).flatMap gateB) by simpa using HW.out)
          have HWt := Lib.hid (show (wtx C 3).length ≤ 110000000 from wtx_len HNn.out HF.out 3)
          have HAll := Lib.hid (wtx_all C)
          have hng : C.gates.length ≤ 1000000 := HF.out.g
          obtain ⟨t, ht⟩ : ∃ t, wtx C 3 = t := ⟨_, rfl⟩
          rw [ht] at HW0 HWt HAll
          clear HW HL ht
          go_wp2_with fail
          go_loopw [64] (fun v64 wr => ∃ j : Nat, v64 = .int .i64 j ∧ j ≤ C.gates.length ∧ WS w wr B V C (t ++ (C.gates.take j).flatMap gateB)) (fun v64 _ => C.gates.length - (intOf v64).toNat)
          case atStart => exact ⟨0, rfl, by omega, HW0.out⟩
          case round =>
            obtain ⟨j, rfl, hj, hW⟩ := hrel
            obtain ⟨wp, rfl⟩ : ∃ wk : World, wk = wr := ⟨_, rfl⟩
            clear HW0 c6
            have HW := Lib.hid hW
            clear hW
            by_cases hlt2 : j < C.gates.length
            · obtain ⟨b, off, ea, hE⟩ := HA.out.gateCell hlt2
              obtain ⟨e0, e1, e2⟩ := hE _ HW.out.kp
              have hr := norm_gate HNn.out HF.out hlt2
              have hlj := gates_len HF.out j
              have hTk := flat_take gateB (g3_some hlt2)
              obtain ⟨x0, hx0⟩ : ∃ x, (g3 C.gates j).1 = x := ⟨_, rfl⟩
              obtain ⟨x1, hx1⟩ : ∃ x, (g3 C.gates j).2.1 = x := ⟨_, rfl⟩
              obtain ⟨x2, hx2⟩ : ∃ x, (g3 C.gates j).2.2 = x := ⟨_, rfl⟩
              have hg3 : g3 C.gates j = (x0, x1, x2) := by rw [← hx0, ← hx1, ← hx2]
              rw [hx0] at e0 hr
              rw [hx1] at e1 hr
              rw [hx2] at e2 hr
              rw [hg3] at hTk
              obtain ⟨m, hm⟩ : ∃ m, (C.gates.take j).flatMap gateB = m := ⟨_, rfl⟩
              rw [hm] at HW hTk hlj
              obtain ⟨u1, hu1⟩ : ∃ u, (x0 - x1).toNat = u := ⟨_, rfl⟩
              obtain ⟨u2, hu2⟩ : ∃ u, (x1 - x2).toNat = u := ⟨_, rfl⟩
              have HTk := Lib.hid (show (C.gates.take (j + 1)).flatMap gateB = m ++ (numL 5 u1 ++ numL 5 u2) by rw [hTk, ← hu1, ← hu2]; rfl)
              have HS := Lib.hid (show x0 - x1 = (u1 : Nat) ∧ x1 - x2 = (u2 : Nat) ∧ u1 ≤ 6000001 ∧ u2 ≤ 6000001 by omega)
              have HNu1 := Lib.hid (show u1 < 4294967296 by have := HS.out; omega)
              have HNu2 := Lib.hid (show u2 < 4294967296 by have := HS.out; omega)
              have hn1 := numL_length 5 u1
              have hn2 := numL_length 5 u2
              have HLn := Lib.hid (show ¬ 9223372036854775807 < (numL 5 u1).length + (numL 5 u2).length by omega)
              have HI := Lib.hid (show (t ++ m).length + (numL 5 u1 ++ numL 5 u2).length ≤ 1000000000 by have := HWt.out; simp only [List.length_append]; omega)
              rw [ea]
              have i0 : (0 : Int) ≤ (j : Int) := by omega
              have i2 : (j : Int) < (C.gates.length : Int) := by omega
              obtain ⟨wv, hwv⟩ : ∃ wv : World, wv = wp.alloc (.cells #[.int .i64 x0, .int .i64 x1, .int .i64 x2] 61) := ⟨_, rfl⟩
              have HWv := Lib.hid (HW.out.kp' (by rw [hwv]; exact (Kp.refl _ wp).alloc _ : Kp (fun _ => False) wp wv))
              have HX := Lib.hid (show Blk wv wp.heap.size #[.int .i64 x0, .int .i64 x1, .int .i64 x2] 61 by rw [hwv]; exact Blk.new _ _ _)
              have HZv := Lib.hid hwv
              clear hx0 hx1 hx2 hE ea hwv hg3 hm hu1 hu2 hTk hlj hn1 hn2 hr
              go_upto_region 24 with fail
              rw [← HZv.out]
              clear HZv e0 e1 e2
              refine wp_region_loose (p := upTo 15) (V := atV [EqV (.pointer (some ⟨wp.heap.size, 0, none⟩)), EqV (.int .i64 x0), EqV (.pointer (some ⟨wp.heap.size, 1, none⟩)), EqV (.int .i64 x1), EqV (.int .i64 (u1 : Nat)), EqV (.int .u32 (u1 : Nat)), EqV (.string ⟨(numL 5 u1).toArray⟩), EqV (.pointer (some ⟨wp.heap.size, 1, none⟩)), EqV (.int .i64 x1), EqV (.pointer (some ⟨wp.heap.size, 2, none⟩)), EqV (.int .i64 x2), EqV (.int .i64 (u2 : Nat)), EqV (.int .u32 (u2 : Nat)), EqV (.string ⟨(numL 5 u2).toArray⟩), EqV (.string ((⟨(numL 5 u1).toArray⟩ : ByteArray) ++ (⟨(numL 5 u2).toArray⟩ : ByteArray)))]) (LP := #[true, true, true, true, true, true, true, true, true, true, true, true, true, true, true, false]) (K := 1) (by kernel_rfl) (by kernel_rfl) (atV_st ?hstL24) ?hstepL24 (by kernel_rfl) ?hLPL24 (by kernel_rfl) ?hendL24
              case hstL24 =>
                intro W h
                simp only [List.mem_cons, List.not_mem_nil, or_false] at h
                rcases h with rfl | rfl | rfl | rfl | rfl | rfl | rfl | rfl | rfl | rfl | rfl | rfl | rfl | rfl | rfl <;> first | exact EqV.st _ | exact EqV.st _
              case hLPL24 => exact upTo_spec (by kernel_rfl)
              case hstepL24 =>
                intro i o ho hp a u hk hoff hdep
                have e12 : a.tmps[12]?.getD undef = (.pointer (some ⟨wp.heap.size, 0, none⟩)) := slot_at (hoff 12 (noDst_spec (by kernel_rfl)))
                clear hoff
                match i, ho with
                | 0, ho =>
                  obtain rfl := Option.some.inj ho
                  refine lw_value (v := .pointer (some ⟨wp.heap.size, 0, none⟩)) (u' := u) ?_ (Kp.refl _ _) rfl
                  go_simp
                | 1, ho =>
                  obtain rfl := Option.some.inj ho
                  have e68 : a.tmps[68]?.getD undef = .pointer (some ⟨wp.heap.size, 0, none⟩) := slot_at (hdep ⟨0, .data⟩ (by simp) rfl _ 68 rfl rfl)
                  have c0 := (HX.out.kp hk (fun h => h)).cell (i := 0) (v := .int .i64 x0) rfl
                  refine lw_value (v := .int .i64 x0) (u' := u) ?_ (Kp.refl _ _) rfl
                  go_simp
                | 2, ho =>
                  obtain rfl := Option.some.inj ho
                  refine lw_value (v := .pointer (some ⟨wp.heap.size, 1, none⟩)) (u' := u) ?_ (Kp.refl _ _) rfl
                  go_simp
                | 3, ho =>
                  obtain rfl := Option.some.inj ho
                  have e70 : a.tmps[70]?.getD undef = .pointer (some ⟨wp.heap.size, 1, none⟩) := slot_at (hdep ⟨2, .data⟩ (by simp) rfl _ 70 rfl rfl)
                  have c1 := (HX.out.kp hk (fun h => h)).cell (i := 1) (v := .int .i64 x1) rfl
                  refine lw_value (v := .int .i64 x1) (u' := u) ?_ (Kp.refl _ _) rfl
                  go_simp
                | 4, ho =>
                  obtain rfl := Option.some.inj ho
                  have e69 : a.tmps[69]?.getD undef = .int .i64 x0 := slot_at (hdep ⟨1, .data⟩ (by simp) rfl _ 69 rfl rfl)
                  have e71 : a.tmps[71]?.getD undef = .int .i64 x1 := slot_at (hdep ⟨3, .data⟩ (by simp) rfl _ 71 rfl rfl)
                  obtain ⟨s1, s2, s3, s4⟩ := HS.out
                  refine lw_value (v := .int .i64 (u1 : Nat)) (u' := u) ?_ (Kp.refl _ _) rfl
                  go_simp
                  exact IntWalk.i64_in _ (by omega)
                | 5, ho =>
                  obtain rfl := Option.some.inj ho
                  have e72 : a.tmps[72]?.getD undef = .int .i64 (u1 : Nat) := slot_at (hdep ⟨4, .data⟩ (by simp) rfl _ 72 rfl rfl)
                  obtain ⟨s1, s2, s3, s4⟩ := HS.out
                  refine lw_value (v := .int .u32 (u1 : Nat)) (u' := u) ?_ (Kp.refl _ _) rfl
                  go_simp
                  exact IntWalk.u32_in _ (by omega)
                | 6, ho =>
                  obtain rfl := Option.some.inj ho
                  have e73 : a.tmps[73]?.getD undef = .int .u32 (u1 : Nat) := slot_at (hdep ⟨5, .data⟩ (by simp) rfl _ 73 rfl rfl)
                  refine lw_call (f := 63) (args := #[.int .u32 (u1 : Nat)]) ?_ ?_
                  · go_simp
                  · exact (octet_Num u1 u HNu1.out).mono (by
                      rintro e u' ⟨rfl, hK⟩
                      exact ⟨_, rfl, hK, rfl⟩)
                | 7, ho =>
                  obtain rfl := Option.some.inj ho
                  refine lw_value (v := .pointer (some ⟨wp.heap.size, 1, none⟩)) (u' := u) ?_ (Kp.refl _ _) rfl
                  go_simp
                | 8, ho =>
                  obtain rfl := Option.some.inj ho
                  have e75 : a.tmps[75]?.getD undef = .pointer (some ⟨wp.heap.size, 1, none⟩) := slot_at (hdep ⟨7, .data⟩ (by simp) rfl _ 75 rfl rfl)
                  have c1 := (HX.out.kp hk (fun h => h)).cell (i := 1) (v := .int .i64 x1) rfl
                  refine lw_value (v := .int .i64 x1) (u' := u) ?_ (Kp.refl _ _) rfl
                  go_simp
                | 9, ho =>
                  obtain rfl := Option.some.inj ho
                  refine lw_value (v := .pointer (some ⟨wp.heap.size, 2, none⟩)) (u' := u) ?_ (Kp.refl _ _) rfl
                  go_simp
                | 10, ho =>
                  obtain rfl := Option.some.inj ho
                  have e77 : a.tmps[77]?.getD undef = .pointer (some ⟨wp.heap.size, 2, none⟩) := slot_at (hdep ⟨9, .data⟩ (by simp) rfl _ 77 rfl rfl)
                  have c2 := (HX.out.kp hk (fun h => h)).cell (i := 2) (v := .int .i64 x2) rfl
                  refine lw_value (v := .int .i64 x2) (u' := u) ?_ (Kp.refl _ _) rfl
                  go_simp
                | 11, ho =>
                  obtain rfl := Option.some.inj ho
                  have e76 : a.tmps[76]?.getD undef = .int .i64 x1 := slot_at (hdep ⟨8, .data⟩ (by simp) rfl _ 76 rfl rfl)
                  have e78 : a.tmps[78]?.getD undef = .int .i64 x2 := slot_at (hdep ⟨10, .data⟩ (by simp) rfl _ 78 rfl rfl)
                  obtain ⟨s1, s2, s3, s4⟩ := HS.out
                  refine lw_value (v := .int .i64 (u2 : Nat)) (u' := u) ?_ (Kp.refl _ _) rfl
                  go_simp
                  exact IntWalk.i64_in _ (by omega)
                | 12, ho =>
                  obtain rfl := Option.some.inj ho
                  have e79 : a.tmps[79]?.getD undef = .int .i64 (u2 : Nat) := slot_at (hdep ⟨11, .data⟩ (by simp) rfl _ 79 rfl rfl)
                  obtain ⟨s1, s2, s3, s4⟩ := HS.out
                  refine lw_value (v := .int .u32 (u2 : Nat)) (u' := u) ?_ (Kp.refl _ _) rfl
                  go_simp
                  exact IntWalk.u32_in _ (by omega)
                | 13, ho =>
                  obtain rfl := Option.some.inj ho
                  have e80 : a.tmps[80]?.getD undef = .int .u32 (u2 : Nat) := slot_at (hdep ⟨12, .data⟩ (by simp) rfl _ 80 rfl rfl)
                  refine lw_call (f := 63) (args := #[.int .u32 (u2 : Nat)]) ?_ ?_
                  · go_simp
                  · exact (octet_Num u2 u HNu2.out).mono (by
                      rintro e u' ⟨rfl, hK⟩
                      exact ⟨_, rfl, hK, rfl⟩)
                | 14, ho =>
                  obtain rfl := Option.some.inj ho
                  have e74 : a.tmps[74]?.getD undef = .string ⟨(numL 5 u1).toArray⟩ := slot_at (hdep ⟨6, .data⟩ (by simp) rfl _ 74 rfl rfl)
                  have e81 : a.tmps[81]?.getD undef = .string ⟨(numL 5 u2).toArray⟩ := slot_at (hdep ⟨13, .data⟩ (by simp) rfl _ 81 rfl rfl)
                  have hl1 := HLn.out
                  refine lw_value (v := .string ((⟨(numL 5 u1).toArray⟩ : ByteArray) ++ (⟨(numL 5 u2).toArray⟩ : ByteArray))) (u' := u) ?_ (Kp.refl _ _) rfl
                  go_simp
                | n + 15, _ => exact absurd hp (by simp [upTo])
              case hendL24 =>
                intro a u hI
                have hsz : a.tmps.size = 86 := hI.size
                have hdf : a.defers = [] := hI.defers
                have f0 : a.tmps.getD 0 undef = _ := hI.off 0 (noDst_spec (p := upTo 15) (by kernel_rfl))
                have f1 : a.tmps.getD 1 undef = _ := hI.off 1 (noDst_spec (p := upTo 15) (by kernel_rfl))
                have f2 : a.tmps.getD 2 undef = _ := hI.off 2 (noDst_spec (p := upTo 15) (by kernel_rfl))
                have f3 : a.tmps.getD 3 undef = _ := hI.off 3 (noDst_spec (p := upTo 15) (by kernel_rfl))
                have f4 : a.tmps.getD 4 undef = _ := hI.off 4 (noDst_spec (p := upTo 15) (by kernel_rfl))
                have f5 : a.tmps.getD 5 undef = _ := hI.off 5 (noDst_spec (p := upTo 15) (by kernel_rfl))
                have f6 : a.tmps.getD 6 undef = _ := hI.off 6 (noDst_spec (p := upTo 15) (by kernel_rfl))
                have f7 : a.tmps.getD 7 undef = _ := hI.off 7 (noDst_spec (p := upTo 15) (by kernel_rfl))
                have f8 : a.tmps.getD 8 undef = _ := hI.off 8 (noDst_spec (p := upTo 15) (by kernel_rfl))
                have f9 : a.tmps.getD 9 undef = _ := hI.off 9 (noDst_spec (p := upTo 15) (by kernel_rfl))
                have f10 : a.tmps.getD 10 undef = _ := hI.off 10 (noDst_spec (p := upTo 15) (by kernel_rfl))
                have f11 : a.tmps.getD 11 undef = _ := hI.off 11 (noDst_spec (p := upTo 15) (by kernel_rfl))
                have f12 : a.tmps.getD 12 undef = _ := hI.off 12 (noDst_spec (p := upTo 15) (by kernel_rfl))
                have f13 : a.tmps.getD 13 undef = _ := hI.off 13 (noDst_spec (p := upTo 15) (by kernel_rfl))
                have f14 : a.tmps.getD 14 undef = _ := hI.off 14 (noDst_spec (p := upTo 15) (by kernel_rfl))
                have f15 : a.tmps.getD 15 undef = _ := hI.off 15 (noDst_spec (p := upTo 15) (by kernel_rfl))
                have f16 : a.tmps.getD 16 undef = _ := hI.off 16 (noDst_spec (p := upTo 15) (by kernel_rfl))
                have f17 : a.tmps.getD 17 undef = _ := hI.off 17 (noDst_spec (p := upTo 15) (by kernel_rfl))
                have f18 : a.tmps.getD 18 undef = _ := hI.off 18 (noDst_spec (p := upTo 15) (by kernel_rfl))
                have f19 : a.tmps.getD 19 undef = _ := hI.off 19 (noDst_spec (p := upTo 15) (by kernel_rfl))
                have f20 : a.tmps.getD 20 undef = _ := hI.off 20 (noDst_spec (p := upTo 15) (by kernel_rfl))
                have f21 : a.tmps.getD 21 undef = _ := hI.off 21 (noDst_spec (p := upTo 15) (by kernel_rfl))
                have f22 : a.tmps.getD 22 undef = _ := hI.off 22 (noDst_spec (p := upTo 15) (by kernel_rfl))
                have f23 : a.tmps.getD 23 undef = _ := hI.off 23 (noDst_spec (p := upTo 15) (by kernel_rfl))
                have f24 : a.tmps.getD 24 undef = _ := hI.off 24 (noDst_spec (p := upTo 15) (by kernel_rfl))
                have f25 : a.tmps.getD 25 undef = _ := hI.off 25 (noDst_spec (p := upTo 15) (by kernel_rfl))
                have f26 : a.tmps.getD 26 undef = _ := hI.off 26 (noDst_spec (p := upTo 15) (by kernel_rfl))
                have f27 : a.tmps.getD 27 undef = _ := hI.off 27 (noDst_spec (p := upTo 15) (by kernel_rfl))
                have f28 : a.tmps.getD 28 undef = _ := hI.off 28 (noDst_spec (p := upTo 15) (by kernel_rfl))
                have f29 : a.tmps.getD 29 undef = _ := hI.off 29 (noDst_spec (p := upTo 15) (by kernel_rfl))
                have f30 : a.tmps.getD 30 undef = _ := hI.off 30 (noDst_spec (p := upTo 15) (by kernel_rfl))
                have f31 : a.tmps.getD 31 undef = _ := hI.off 31 (noDst_spec (p := upTo 15) (by kernel_rfl))
                have f32 : a.tmps.getD 32 undef = _ := hI.off 32 (noDst_spec (p := upTo 15) (by kernel_rfl))
                have f33 : a.tmps.getD 33 undef = _ := hI.off 33 (noDst_spec (p := upTo 15) (by kernel_rfl))
                have f34 : a.tmps.getD 34 undef = _ := hI.off 34 (noDst_spec (p := upTo 15) (by kernel_rfl))
                have f35 : a.tmps.getD 35 undef = _ := hI.off 35 (noDst_spec (p := upTo 15) (by kernel_rfl))
                have f36 : a.tmps.getD 36 undef = _ := hI.off 36 (noDst_spec (p := upTo 15) (by kernel_rfl))
                have f37 : a.tmps.getD 37 undef = _ := hI.off 37 (noDst_spec (p := upTo 15) (by kernel_rfl))
                have f38 : a.tmps.getD 38 undef = _ := hI.off 38 (noDst_spec (p := upTo 15) (by kernel_rfl))
                have f39 : a.tmps.getD 39 undef = _ := hI.off 39 (noDst_spec (p := upTo 15) (by kernel_rfl))
                have f40 : a.tmps.getD 40 undef = _ := hI.off 40 (noDst_spec (p := upTo 15) (by kernel_rfl))
                have f41 : a.tmps.getD 41 undef = _ := hI.off 41 (noDst_spec (p := upTo 15) (by kernel_rfl))
                have f42 : a.tmps.getD 42 undef = _ := hI.off 42 (noDst_spec (p := upTo 15) (by kernel_rfl))
                have f43 : a.tmps.getD 43 undef = _ := hI.off 43 (noDst_spec (p := upTo 15) (by kernel_rfl))
                have f44 : a.tmps.getD 44 undef = _ := hI.off 44 (noDst_spec (p := upTo 15) (by kernel_rfl))
                have f45 : a.tmps.getD 45 undef = _ := hI.off 45 (noDst_spec (p := upTo 15) (by kernel_rfl))
                have f46 : a.tmps.getD 46 undef = _ := hI.off 46 (noDst_spec (p := upTo 15) (by kernel_rfl))
                have f47 : a.tmps.getD 47 undef = _ := hI.off 47 (noDst_spec (p := upTo 15) (by kernel_rfl))
                have f48 : a.tmps.getD 48 undef = _ := hI.off 48 (noDst_spec (p := upTo 15) (by kernel_rfl))
                have f49 : a.tmps.getD 49 undef = _ := hI.off 49 (noDst_spec (p := upTo 15) (by kernel_rfl))
                have f50 : a.tmps.getD 50 undef = _ := hI.off 50 (noDst_spec (p := upTo 15) (by kernel_rfl))
                have f51 : a.tmps.getD 51 undef = _ := hI.off 51 (noDst_spec (p := upTo 15) (by kernel_rfl))
                have f52 : a.tmps.getD 52 undef = _ := hI.off 52 (noDst_spec (p := upTo 15) (by kernel_rfl))
                have f53 : a.tmps.getD 53 undef = _ := hI.off 53 (noDst_spec (p := upTo 15) (by kernel_rfl))
                have f54 : a.tmps.getD 54 undef = _ := hI.off 54 (noDst_spec (p := upTo 15) (by kernel_rfl))
                have f55 : a.tmps.getD 55 undef = _ := hI.off 55 (noDst_spec (p := upTo 15) (by kernel_rfl))
                have f56 : a.tmps.getD 56 undef = _ := hI.off 56 (noDst_spec (p := upTo 15) (by kernel_rfl))
                have f57 : a.tmps.getD 57 undef = _ := hI.off 57 (noDst_spec (p := upTo 15) (by kernel_rfl))
                have f58 : a.tmps.getD 58 undef = _ := hI.off 58 (noDst_spec (p := upTo 15) (by kernel_rfl))
                have f59 : a.tmps.getD 59 undef = _ := hI.off 59 (noDst_spec (p := upTo 15) (by kernel_rfl))
                have f60 : a.tmps.getD 60 undef = _ := hI.off 60 (noDst_spec (p := upTo 15) (by kernel_rfl))
                have f61 : a.tmps.getD 61 undef = _ := hI.off 61 (noDst_spec (p := upTo 15) (by kernel_rfl))
                have f62 : a.tmps.getD 62 undef = _ := hI.off 62 (noDst_spec (p := upTo 15) (by kernel_rfl))
                have f63 : a.tmps.getD 63 undef = _ := hI.off 63 (noDst_spec (p := upTo 15) (by kernel_rfl))
                have f64 : a.tmps.getD 64 undef = _ := hI.off 64 (noDst_spec (p := upTo 15) (by kernel_rfl))
                have f65 : a.tmps.getD 65 undef = _ := hI.off 65 (noDst_spec (p := upTo 15) (by kernel_rfl))
                have f66 : a.tmps.getD 66 undef = _ := hI.off 66 (noDst_spec (p := upTo 15) (by kernel_rfl))
                have f67 : a.tmps.getD 67 undef = _ := hI.off 67 (noDst_spec (p := upTo 15) (by kernel_rfl))
                have f83 : a.tmps.getD 83 undef = _ := hI.off 83 (noDst_spec (p := upTo 15) (by kernel_rfl))
                have f84 : a.tmps.getD 84 undef = _ := hI.off 84 (noDst_spec (p := upTo 15) (by kernel_rfl))
                have f85 : a.tmps.getD 85 undef = _ := hI.off 85 (noDst_spec (p := upTo 15) (by kernel_rfl))
                have f68 : a.tmps.getD 68 undef = .pointer (some ⟨wp.heap.size, 0, none⟩) := hI.val 0 _ 68 rfl rfl rfl
                have f69 : a.tmps.getD 69 undef = .int .i64 x0 := hI.val 1 _ 69 rfl rfl rfl
                have f70 : a.tmps.getD 70 undef = .pointer (some ⟨wp.heap.size, 1, none⟩) := hI.val 2 _ 70 rfl rfl rfl
                have f71 : a.tmps.getD 71 undef = .int .i64 x1 := hI.val 3 _ 71 rfl rfl rfl
                have f72 : a.tmps.getD 72 undef = .int .i64 (u1 : Nat) := hI.val 4 _ 72 rfl rfl rfl
                have f73 : a.tmps.getD 73 undef = .int .u32 (u1 : Nat) := hI.val 5 _ 73 rfl rfl rfl
                have f74 : a.tmps.getD 74 undef = .string ⟨(numL 5 u1).toArray⟩ := hI.val 6 _ 74 rfl rfl rfl
                have f75 : a.tmps.getD 75 undef = .pointer (some ⟨wp.heap.size, 1, none⟩) := hI.val 7 _ 75 rfl rfl rfl
                have f76 : a.tmps.getD 76 undef = .int .i64 x1 := hI.val 8 _ 76 rfl rfl rfl
                have f77 : a.tmps.getD 77 undef = .pointer (some ⟨wp.heap.size, 2, none⟩) := hI.val 9 _ 77 rfl rfl rfl
                have f78 : a.tmps.getD 78 undef = .int .i64 x2 := hI.val 10 _ 78 rfl rfl rfl
                have f79 : a.tmps.getD 79 undef = .int .i64 (u2 : Nat) := hI.val 11 _ 79 rfl rfl rfl
                have f80 : a.tmps.getD 80 undef = .int .u32 (u2 : Nat) := hI.val 12 _ 80 rfl rfl rfl
                have f81 : a.tmps.getD 81 undef = .string ⟨(numL 5 u2).toArray⟩ := hI.val 13 _ 81 rfl rfl rfl
                have f82 : a.tmps.getD 82 undef = .string ((⟨(numL 5 u1).toArray⟩ : ByteArray) ++ (⟨(numL 5 u2).toArray⟩ : ByteArray)) := hI.val 14 _ 82 rfl rfl rfl
                have ha : a = ⟨#[a.tmps.getD 0 undef, a.tmps.getD 1 undef, a.tmps.getD 2 undef, a.tmps.getD 3 undef, a.tmps.getD 4 undef, a.tmps.getD 5 undef, a.tmps.getD 6 undef, a.tmps.getD 7 undef, a.tmps.getD 8 undef, a.tmps.getD 9 undef, a.tmps.getD 10 undef, a.tmps.getD 11 undef, a.tmps.getD 12 undef, a.tmps.getD 13 undef, a.tmps.getD 14 undef, a.tmps.getD 15 undef, a.tmps.getD 16 undef, a.tmps.getD 17 undef, a.tmps.getD 18 undef, a.tmps.getD 19 undef, a.tmps.getD 20 undef, a.tmps.getD 21 undef, a.tmps.getD 22 undef, a.tmps.getD 23 undef, a.tmps.getD 24 undef, a.tmps.getD 25 undef, a.tmps.getD 26 undef, a.tmps.getD 27 undef, a.tmps.getD 28 undef, a.tmps.getD 29 undef, a.tmps.getD 30 undef, a.tmps.getD 31 undef, a.tmps.getD 32 undef, a.tmps.getD 33 undef, a.tmps.getD 34 undef, a.tmps.getD 35 undef, a.tmps.getD 36 undef, a.tmps.getD 37 undef, a.tmps.getD 38 undef, a.tmps.getD 39 undef, a.tmps.getD 40 undef, a.tmps.getD 41 undef, a.tmps.getD 42 undef, a.tmps.getD 43 undef, a.tmps.getD 44 undef, a.tmps.getD 45 undef, a.tmps.getD 46 undef, a.tmps.getD 47 undef, a.tmps.getD 48 undef, a.tmps.getD 49 undef, a.tmps.getD 50 undef, a.tmps.getD 51 undef, a.tmps.getD 52 undef, a.tmps.getD 53 undef, a.tmps.getD 54 undef, a.tmps.getD 55 undef, a.tmps.getD 56 undef, a.tmps.getD 57 undef, a.tmps.getD 58 undef, a.tmps.getD 59 undef, a.tmps.getD 60 undef, a.tmps.getD 61 undef, a.tmps.getD 62 undef, a.tmps.getD 63 undef, a.tmps.getD 64 undef, a.tmps.getD 65 undef, a.tmps.getD 66 undef, a.tmps.getD 67 undef, a.tmps.getD 68 undef, a.tmps.getD 69 undef, a.tmps.getD 70 undef, a.tmps.getD 71 undef, a.tmps.getD 72 undef, a.tmps.getD 73 undef, a.tmps.getD 74 undef, a.tmps.getD 75 undef, a.tmps.getD 76 undef, a.tmps.getD 77 undef, a.tmps.getD 78 undef, a.tmps.getD 79 undef, a.tmps.getD 80 undef, a.tmps.getD 81 undef, a.tmps.getD 82 undef, a.tmps.getD 83 undef, a.tmps.getD 84 undef, a.tmps.getD 85 undef], a.defers⟩ := act_list a 86 hsz
                rw [hdf, f0, f1, f2, f3, f4, f5, f6, f7, f8, f9, f10, f11, f12, f13, f14, f15, f16, f17, f18, f19, f20, f21, f22, f23, f24, f25, f26, f27, f28, f29, f30, f31, f32, f33, f34, f35, f36, f37, f38, f39, f40, f41, f42, f43, f44, f45, f46, f47, f48, f49, f50, f51, f52, f53, f54, f55, f56, f57, f58, f59, f60, f61, f62, f63, f64, f65, f66, f67, f68, f69, f70, f71, f72, f73, f74, f75, f76, f77, f78, f79, f80, f81, f82, f83, f84, f85] at ha
                have hku := hI.kp
                clear hI hsz hdf f0 f1 f2 f3 f4 f5 f6 f7 f8 f9 f10 f11 f12 f13 f14 f15 f16 f17 f18 f19 f20 f21 f22 f23 f24 f25 f26 f27 f28 f29 f30 f31 f32 f33 f34 f35 f36 f37 f38 f39 f40 f41 f42 f43 f44 f45 f46 f47 f48 f49 f50 f51 f52 f53 f54 f55 f56 f57 f58 f59 f60 f61 f62 f63 f64 f65 f66 f67 f68 f69 f70 f71 f72 f73 f74 f75 f76 f77 f78 f79 f80 f81 f82 f83 f84 f85 
                subst ha
                refine wpAny_tail 15 rfl (by kernel_rfl) ?_
                simp only [List.drop_succ_cons, List.drop_zero]
                have HWu := Lib.hid (HWv.out.kp' hku)
                clear hku
                simp only [Array.getD_eq_getD_getElem?, List.getElem?_toArray, List.getElem?_cons_zero, List.getElem?_cons_succ, Option.getD_some]
                go_wp2_with (go_at_call 57; refine (ws_str HWu.out (numL 5 u1 ++ numL 5 u2) _ (cat_bytes _ _) HI.out).mono ?_; rintro e w6 ⟨⟨v, rfl⟩, hW6, hK6⟩; have HW6 := Lib.hid hW6; clear hW6 hK6)
                go_roundw
                case rel => exact ⟨j + 1, by go_num, by omega, by rw [HTk.out, ← List.append_assoc]; exact HW6.out⟩
                case measure => simp [intOf]; omega
            · obtain rfl : j = C.gates.length := by omega
              have HWn := Lib.hid (show WS w wp B V C (binB C) by rw [HAll.out]; have := HW.out; rwa [List.take_length] at this)
              go_wp2_with (go_at_call 59; refine (ws_end HWn.out).mono ?_; rintro e w7 ⟨rfl, hK7⟩; have HK7 := Lib.hid hK7; clear hK7)
              go_ret2
              exact ⟨.inl ⟨HNn.out, rfl⟩, HK7.out⟩

end Go.Proofs.YtckmdcmkjmpiaaaGreatDoor

/-
  aiger.Print of a circuit with few things, in either form.
-/
namespace Go.Proofs.YtckmdcmkjmpiaaaGreatDoor
open Go.RowKit

theorem okC_of {C : Circ} (h : ckCode C = 0) : OkC C ∧ InRange C := by
  have hr : InRange C := by
    unfold ckCode at h
    split at h
    · omega
    · rename_i h1
      split at h
      · omega
      · rename_i h2
        exact InRange.of (by omega) (by omega) (by simpa using h2)
  have use : ∀ l ∈ C.used, okI l := fun l hl => by have := hr.use l hl; have := hr.max1; unfold okI; omega
  have own : ∀ l ∈ C.owned, okI l := fun l hl => by have := hr.own l hl; have := hr.max1; unfold okI; omega
  refine ⟨⟨fun x hx => own x ?_, fun x hx => ⟨own x.1 ?_, use x.2.1 ?_, ?_⟩, fun k x hx => use x ?_, fun x hx => ⟨own x.1 ?_, use x.2.1 ?_, use x.2.2 ?_⟩⟩, hr⟩
  · unfold Circ.owned; simp [hx]
  · unfold Circ.owned; simp only [List.mem_append, List.mem_map]; exact .inl (.inr ⟨_, hx, rfl⟩)
  · unfold Circ.used; simp only [List.mem_append, List.mem_map]; exact .inl (.inr ⟨_, hx, rfl⟩)
  · have h1 := hr.res x hx
    have h2 := own x.1 (by unfold Circ.owned; simp only [List.mem_append, List.mem_map]; exact .inl (.inr ⟨_, hx, rfl⟩))
    unfold okI at h2 ⊢
    omega
  · unfold Circ.used
    match k, hx with
    | 0, hx => have : x ∈ C.outs := hx; simp [this]
    | 1, hx => have : x ∈ C.bads := hx; simp [this]
    | k + 2, hx => have : x ∈ C.cons := hx; simp [this]
  · unfold Circ.owned; simp only [List.mem_append, List.mem_map]; exact .inr ⟨_, hx, rfl⟩
  · unfold Circ.used; simp only [List.mem_append, List.mem_flatMap]; exact .inr ⟨_, hx, by simp⟩
  · unfold Circ.used; simp only [List.mem_append, List.mem_flatMap]; exact .inr ⟨_, hx, by simp⟩

theorem goodY_all {h : Hd} (hb : ∀ k, cnt h k < 1000000000) : ∀ (Y : List (Int × Int × ByteArray)) (L : List (Nat × Nat)), goodY h Y L = true → ∀ x ∈ Y, WrY x
  | [], _, _, x, hx => by cases hx
  | y :: r, L, hg, x, hx => by
    unfold goodY at hg
    by_cases hbd : badY h L y = true
    · rw [if_pos hbd] at hg; cases hg
    rw [if_neg hbd] at hg
    rcases List.mem_cons.1 hx with rfl | hx
    · have h2 : badY h L x = false := by simpa using hbd
      unfold badY at h2
      simp only [Bool.or_eq_false_iff, decide_eq_false_iff_not] at h2
      obtain ⟨⟨⟨⟨⟨h1, h2⟩, -⟩, h4⟩, -⟩, -⟩ := h2
      have h5 := kind_of h (by omega : 0 < cnt h x.1.toNat)
      have h6 := hb x.1.toNat
      exact ⟨h5, by omega, by omega⟩
    · exact goodY_all hb r _ hg x hx

/-- whether a circuit is printed in that form, and its text -/
def prtOk (C : Circ) (Y : List (Int × Int × ByteArray)) (bin : Bool) : Prop := ckCode C = 0 ∧ goodY (hdOf C bin) Y [] = true ∧ (bin = true → NormC C)
def hdL (C : Circ) : List Int := [C.max, (C.ins.length : Nat), (C.lats.length : Nat), (C.outs.length : Nat), (C.gates.length : Nat), (C.bads.length : Nat), (C.cons.length : Nat)]
def prtB (C : Circ) (Y : List (Int × Int × ByteArray)) (cm : ByteArray) (bin : Bool) : List UInt8 := (headW bin (hdL C) ++ (if bin = true then binB C else ascB C)) ++ tailB Y cm
def PrintP (C : Circ) (Y : List (Int × Int × ByteArray)) (cm : ByteArray) (bin : Bool) (w : World) (o : Ending) (w' : World) : Prop :=
  Kp (fun _ => False) w w' ∧ ((prtOk C Y bin ∧ o = .returned (.tuple #[.string ⟨(prtB C Y cm bin).toArray⟩, .int .i64 0])) ∨ (¬ prtOk C Y bin ∧ ∃ e : Int, e ≠ 0 ∧ o = .returned (.tuple #[.string ⟨#[]⟩, .int .i64 e])))

theorem cnt_few {C : Circ} {b : Bool} (hf : CFew C 1000) (k : Nat) : cnt (hdOf C b) k < 1000000000 := by
  have h1 := hf.i
  have h2 := hf.l
  have h3 := hf.o
  have h4 := hf.b
  have h5 := hf.c
  unfold cnt hdOf
  simp only
  split
  · omega
  · split
    · omega
    · split
      · omega
      · split
        · omega
        · split <;> omega

end Go.Proofs.YtckmdcmkjmpiaaaGreatDoor

/-
  A head's line at the beginning of a text is read; a good circuit's head is a head. No program in sight.
-/
namespace Go.Proofs.YtckmdcmkjmpiaaaGreatDoor
open Go.RowKit

/-- so many different even numbers, none above twice a bound -/
theorem pigeon : ∀ (m : Nat) (l : List Int), l.Nodup → (∀ x ∈ l, 1 < x ∧ x % 2 = 0 ∧ x ≤ 2 * (m : Int)) → l.length ≤ m
  | 0, l, _, h => by
    cases l with
    | nil => simp
    | cons x r => have := h x (by simp); omega
  | m + 1, l, hn, h => by
    have h1 := pigeon m (l.erase (2 * (m : Int) + 2)) (hn.erase _) (fun x hx => by
      have h2 := h x (List.mem_of_mem_erase hx)
      have h3 : x ≠ 2 * (m : Int) + 2 := fun e => by
        subst e
        exact (hn.not_mem_erase) hx
      omega)
    have h2 : l.length ≤ (l.erase (2 * (m : Int) + 2)).length + 1 := by
      rw [List.length_erase]
      split <;> omega
    omega

theorem owned_le {C : Circ} (h : ckCode C = 0) : (C.owned.length : Int) ≤ C.max := by
  have hr := (okC_of h).2
  have hnd : C.owned.Nodup := by
    unfold ckCode at h
    split at h
    · omega
    · split at h
      · omega
      · split at h
        · omega
        · rename_i h3
          simpa using h3
  have hm := hr.max0
  have h1 := pigeon C.max.toNat C.owned hnd (fun x hx => by have := hr.own x hx; omega)
  omega

/-- the numbers of a written line are read, whatever stands behind it -/
theorem headL_front {s : ByteArray} : ∀ (ns : List Int) (f p : Nat) (l : List Nat), ns ≠ [] → Here s p (Lib.join (ns.map Lib.itoa) [32] ++ [10]) → l.length + f = 9 → ns.length + l.length ≤ 7 → 5 ≤ ns.length + l.length → (∀ x ∈ ns, 0 ≤ x ∧ x ≤ 16777216) →
    ∃ m : List Nat, ns = m.map (fun u : Nat => (u : Int)) ∧ headL s f p l = (l ++ m, p + (Lib.join (ns.map Lib.itoa) [32] ++ [10]).length, 0)
  | [], _, _, _, h, _, _, _, _, _ => absurd rfl h
  | n :: r, 0, _, _, _, _, h, _, _, _ => by simp at *; omega
  | n :: r, f + 1, p, l, _, hd, hl, hf, h5, hb => by
    obtain ⟨hn0, hn1⟩ := hb n (by simp)
    obtain ⟨u, rfl⟩ : ∃ u : Nat, n = u := ⟨n.toNat, by omega⟩
    cases r with
    | nil =>
      have e : Lib.join ([(u : Int)].map Lib.itoa) [32] ++ [10] = Lib.itoa (u : Int) ++ [10] := by simp [Lib.join_one]
      rw [e] at hd ⊢
      have h1 := hd.nat (r := []) d10 (by omega)
      obtain ⟨h2, h3⟩ := hd.right.byte
      refine ⟨[u], rfl, ?_⟩
      unfold headL
      have hst : stepH s l.length p = (u, p + (Lib.itoa (u : Int)).length + 1, 0, true) := by
        unfold stepH
        rw [h1]
        simp only
        rw [if_neg (by simp), if_neg (by simp at h5 hf; split <;> omega), if_neg (by omega), if_pos ⟨h2, by simp at h5; omega⟩]
      rw [hst]
      simp
      omega
    | cons y r =>
      have e : Lib.join (((u : Int) :: y :: r).map Lib.itoa) [32] ++ [10] = Lib.itoa (u : Int) ++ 32 :: (Lib.join ((y :: r).map Lib.itoa) [32] ++ [10]) := by
        rw [List.map_cons, Lib.join_cons, List.map_cons, Lib.join_cons]
        simp [Lib.joinTail]
      rw [e] at hd ⊢
      have h1 := hd.nat (r := _) d32 (by omega)
      have h2 := hd.right
      obtain ⟨h3, h4⟩ := h2.byte
      have h6 : Here s (p + (Lib.itoa (u : Int)).length + 1) (Lib.join ((y :: r).map Lib.itoa) [32] ++ [10]) := by
        have : Here s (p + (Lib.itoa (u : Int)).length) ([32] ++ (Lib.join ((y :: r).map Lib.itoa) [32] ++ [10])) := by simpa using h2
        simpa using this.right
      obtain ⟨m, hm, hm2⟩ := headL_front (y :: r) f (p + (Lib.itoa (u : Int)).length + 1) (l ++ [u]) (by simp) h6 (by simp; omega) (by simp at hf ⊢; omega) (by simp at h5 ⊢; omega) (fun x hx => hb x (by simp [hx]))
      refine ⟨u :: m, by rw [hm]; rfl, ?_⟩
      unfold headL
      have hst : stepH s l.length p = (u, p + (Lib.itoa (u : Int)).length + 1, 0, false) := by
        unfold stepH
        rw [h1]
        simp only
        rw [if_neg (by simp), if_neg (by simp at hf; split <;> omega), if_neg (by omega), if_neg (by rw [h3]; rintro ⟨h9, -⟩; revert h9; decide), if_pos ⟨h3, by simp at hf; omega⟩]
      rw [hst]
      simp only
      rw [if_neg (by simp), if_neg (by simp), hm2]
      simp
      omega

/-- a head's line at the beginning of a text -/
theorem headT_front {s : ByteArray} {b : Bool} {h : List Int} (hl : h.length = 7) (hs : Here s 0 (headW b h)) (hb : ∀ x ∈ h, 0 ≤ x ∧ x ≤ 16777216) (h0 : gi h 1 + gi h 2 + gi h 4 ≤ gi h 0) (h1 : b = true → gi h 0 ≤ gi h 1 + gi h 2 + gi h 4) :
    ∃ L, headT s = (b, L, (headW b h).length, 0) ∧ ∀ k, ((nth L k : Nat) : Int) = gi h k := by
  have hw := wrow_length hl
  have hI : isHead s ∧ decide (bt s 1 = 105) = b := by
    unfold headW at hs
    cases b with
    | true =>
      have k := fun j c (hj : ([97, 105, 103, 32] ++ (Lib.join ((wrow h).map Lib.itoa) [32] ++ [10]))[j]? = some c) => hs.at (j := j) (b := c) hj
      obtain ⟨a0, _⟩ := k 0 97 rfl
      obtain ⟨a1, _⟩ := k 1 105 rfl
      obtain ⟨a2, _⟩ := k 2 103 rfl
      obtain ⟨a3, c3⟩ := k 3 32 rfl
      simp only [Nat.zero_add] at a0 a1 a2 a3 c3
      refine ⟨⟨by omega, a0, .inr a1, a2, a3⟩, by rw [a1]; rfl⟩
    | false =>
      have k := fun j c (hj : ([97, 97, 103, 32] ++ (Lib.join ((wrow h).map Lib.itoa) [32] ++ [10]))[j]? = some c) => hs.at (j := j) (b := c) hj
      obtain ⟨a0, _⟩ := k 0 97 rfl
      obtain ⟨a1, _⟩ := k 1 97 rfl
      obtain ⟨a2, _⟩ := k 2 103 rfl
      obtain ⟨a3, c3⟩ := k 3 32 rfl
      simp only [Nat.zero_add] at a0 a1 a2 a3 c3
      refine ⟨⟨by omega, a0, .inl a1, a2, a3⟩, by rw [a1]; rfl⟩
  have hd : Here s 4 (Lib.join ((wrow h).map Lib.itoa) [32] ++ [10]) := by
    unfold headW at hs
    have := hs.right
    cases b <;> simpa using this
  have hwb : ∀ x ∈ wrow h, 0 ≤ x ∧ x ≤ 16777216 := fun x hx => hb x (by
    unfold wrow at hx
    split at hx
    · exact List.mem_of_mem_take hx
    · split at hx <;> exact List.mem_of_mem_take hx)
  obtain ⟨m, hm, hm2⟩ := headL_front (wrow h) 9 4 [] (by intro e; rw [e] at hw; simp at hw) hd (by simp) (by simp; omega) (by simp; omega) hwb
  have hk : ∀ k, ((nth m k : Nat) : Int) = gi h k := fun k => by
    rw [← wrow_gi hl k, hm]
    unfold nth gi
    rw [List.getElem?_map]
    cases m[k]? <;> rfl
  refine ⟨m, ?_, hk⟩
  unfold headT
  rw [if_neg (by simpa using hI.1), hm2]
  simp only
  rw [if_neg (by simp), hI.2, if_neg ?_]
  · unfold headW
    rw [List.nil_append]
    cases b <;> simp <;> omega
  · unfold badSum
    rw [List.nil_append]
    have a0 := hk 0
    have a1 := hk 1
    have a2 := hk 2
    have a4 := hk 4
    rintro (h9 | ⟨h9, h8⟩)
    · omega
    · have := h1 h9
      omega

end Go.Proofs.YtckmdcmkjmpiaaaGreatDoor

/-
  Good symbols and a comment are read back from their text. No program in sight.
-/
namespace Go.Proofs.YtckmdcmkjmpiaaaGreatDoor
open Go.RowKit

def symOf (x : Int × Int × ByteArray) : Sym := ⟨x.1.toNat, x.2.1.toNat, x.2.2⟩

theorem index_none : ∀ (l : List UInt8) (c : UInt8), Lib.indexByte l c < 0 → ∀ b ∈ l, b ≠ c
  | [], _, _, b, hb => by cases hb
  | a :: l, c, h, b, hb => by
    unfold Lib.indexByte at h
    by_cases h1 : (a == c) = true
    · rw [if_pos h1] at h; omega
    rw [if_neg h1] at h
    have h2 : Lib.indexByte l c < 0 := by
      split at h
      · rename_i h3
        have : Lib.indexByte l c = -1 := by simpa using h3
        omega
      · omega
    rcases List.mem_cons.1 hb with rfl | hb
    · simpa using h1
    · exact index_none l c h2 b hb

theorem lineT_here {s : ByteArray} {p : Nat} {a : List UInt8} (ha : ∀ b ∈ a, b ≠ 10) (h : Here s p (a ++ [10])) : lineT s (p : Nat) = (⟨a.toArray⟩, p + a.length + 1, 0) := by
  have hp := h.size (by simp)
  simp only [List.length_append, List.length_cons, List.length_nil] at hp
  have hb : ∀ j, j < a.length → bt s (p + j) ≠ 10 := by
    intro j hj e
    have h1 := (h.at (j := j) (b := a[j]) (by rw [List.getElem?_append_left hj, List.getElem?_eq_getElem hj])).1
    have h3 := ha a[j] (List.getElem_mem hj)
    exact h3 (UInt8.toNat_inj.1 (by rw [← h1, e]; rfl))
  have h10 : bt s (p + a.length) = 10 := by
    have := (h.at (j := a.length) (b := 10) (by simp)).1
    exact this
  unfold lineT
  rw [if_neg (by omega), Int.toNat_natCast, feed_some (i := p + a.length) (by omega) (by omega) h10 (fun j h1 h2 => by have := hb (j - p) (by omega); rwa [show p + (j - p) = j by omega] at this)]
  simp only [Prod.mk.injEq, and_true]
  obtain ⟨m, hm⟩ := h
  apply ByteArray.ext
  apply Array.ext'
  rw [Lib.extract_data, hm, show p + a.length - p = a.length by omega]
  simp

theorem dec_front : ∀ (u : Nat), ∃ c t, Lib.decDigits u = c :: t ∧ c ≠ 10 := by
  intro u
  induction u using Nat.strongRecOn with
  | _ u ih =>
    rw [Lib.decDigits]
    by_cases h : u < 10
    · rw [dif_pos h]
      refine ⟨_, [], rfl, ?_⟩
      have hd : ∀ d : Fin 10, UInt8.ofNat (48 + d.val) ≠ 10 := by decide
      exact hd ⟨u, h⟩
    · rw [dif_neg h]
      obtain ⟨c, t, e, hc⟩ := ih (u / 10) (by omega)
      rw [e]
      exact ⟨c, _, rfl, hc⟩
theorem itoa_front (u : Nat) (r : List UInt8) : ∃ c t, Lib.itoa (u : Int) ++ r = c :: t ∧ c ≠ 10 := by
  obtain ⟨c, t, h, h1⟩ := dec_front u
  rw [itoa_nat, h]
  exact ⟨c, t ++ r, rfl, h1⟩

/-- one symbol -/
theorem symT_here {h : Hd} {s : ByteArray} {p : Nat} {L : List (Nat × Nat)} {x : Int × Int × ByteArray} (hb : ∀ k, cnt h k < 1000000000) (hg : badY h L x = false) (hh : Here s p (symY x)) :
    symT h s p = .ok (symOf x) (p + (symY x).length) ∧ ¬ markAt s p ∧ p < s.size ∧ L.contains (x.1.toNat, x.2.1.toNat) = false := by
  unfold badY at hg
  simp only [Bool.or_eq_false_iff, decide_eq_false_iff_not] at hg
  obtain ⟨⟨⟨⟨⟨h1, h2⟩, h3⟩, h4⟩, h5⟩, h6⟩ := hg
  have hk := kind_of h (by omega : 0 < cnt h x.1.toNat)
  have hkb : isKind x.1.toNat := by
    refine Classical.byContradiction fun hn => ?_
    have := cnt_none (h := h) hn
    omega
  have hcb := hb x.1.toNat
  obtain ⟨k, n, nm⟩ := x
  simp only at *
  obtain ⟨u, rfl⟩ : ∃ u : Nat, n = u := ⟨n.toNat, by omega⟩
  have e : symY (k, (u : Int), nm) = k.toNat.toUInt8 :: (Lib.itoa (u : Int) ++ ([32] ++ (nm.data.toList ++ [10]))) := rfl
  rw [e] at hh ⊢
  obtain ⟨b0, hp⟩ := hh.byte
  have b0' : bt s p = k.toNat := by
    rw [b0]
    unfold isKind at hkb
    simp
    omega
  have hr : Here s (p + 1) (Lib.itoa (u : Int) ++ ([32] ++ (nm.data.toList ++ [10]))) := by
    have : Here s p ([k.toNat.toUInt8] ++ (Lib.itoa (u : Int) ++ ([32] ++ (nm.data.toList ++ [10])))) := hh
    exact this.right
  have hN := hr.nat (c := 32) (r := nm.data.toList ++ [10]) (by decide) (by omega)
  have hr2 := hr.right
  obtain ⟨b1, hp2⟩ := hr2.byte
  have hr3 : Here s (p + 1 + (Lib.itoa (u : Int)).length + 1) (nm.data.toList ++ [10]) := hr2.right
  have hLn := lineT_here (index_none _ _ (by omega)) hr3
  rw [← ba_list] at hLn
  have hsz := nm.data.toList.length
  have hs2 : nm.data.toList.length = nm.size := by simp
  refine ⟨?_, ?_, hp, by simpa using h6⟩
  · rw [sym8 (by rw [b0']; exact hkb) hN rfl (by rw [b0']; omega) (by omega) (by rw [b1]; rfl) hLn rfl h3 (by omega), b0']
    simp only [symOf, List.length_cons, List.length_append, List.length_nil]
    congr 1
    omega
  · intro hm
    obtain ⟨-, -, h10⟩ := hm
    obtain ⟨c, t, ht, hc⟩ := itoa_front u ([32] ++ (nm.data.toList ++ [10]))
    rw [ht] at hr
    have := hr.byte.1
    rw [h10] at this
    exact hc (UInt8.toNat_inj.1 (by rw [← this]; rfl))

theorem readR_back {h : Hd} {s cm : ByteArray} (hb : ∀ k, cnt h k < 1000000000) : ∀ (Y : List (Int × Int × ByteArray)) (L : List Sym) (f p : Nat), goodY h Y (L.map symAt) = true → Here s p (tailB Y cm) → s.size = p + (tailB Y cm).length → Y.length < f →
    readR h s f L p = ⟨L ++ Y.map symOf, cm, s.size, 0⟩
  | [], L, f, p, _, hh, hs, hf => by
    have e : tailB [] cm = cmY cm := rfl
    rw [e] at hh hs
    unfold cmY at hh hs
    by_cases hc : cm.size = 0
    · rw [if_pos hc] at hs
      rw [readR_end (by simp at hs; omega) (by simpa using hf)]
      rw [bytes_empty hc]
      simp
    · rw [if_neg hc] at hh hs
      obtain ⟨b0, hp⟩ := hh.byte
      have h1 := hh.at (j := 1) (b := 10) rfl
      rw [readR_mark hp (by simpa using hf) ⟨b0, h1.2, h1.1⟩]
      simp only [List.map_nil, List.append_nil]
      congr 1
      have h2 : Here s (p + 2) cm.data.toList := by
        have : Here s p ([99, 10] ++ cm.data.toList) := hh
        exact this.right
      obtain ⟨m, hm⟩ := h2
      have h3 : (s.data.toList.drop (p + 2)).length = cm.data.toList.length + m.length := by rw [hm, List.length_append]
      rw [List.length_drop] at h3
      have h4 : s.data.toList.length = s.size := by simp
      have h5 : cm.data.toList.length = cm.size := by simp
      simp only [List.length_cons] at hs
      have h6 : m = [] := List.eq_nil_of_length_eq_zero (by omega)
      subst h6
      apply ByteArray.ext
      apply Array.ext'
      rw [Lib.extract_to_end, hm]
      simp
  | x :: r, L, f, p, hg, hh, hs, hf => by
    obtain ⟨g, rfl⟩ : ∃ g, f = g + 1 := ⟨f - 1, by simp at hf; omega⟩
    have e : tailB (x :: r) cm = symY x ++ tailB r cm := by unfold tailB; rw [List.flatMap_cons, List.append_assoc]
    rw [e] at hh hs
    unfold goodY at hg
    by_cases hbd : badY h (L.map symAt) x = true
    · rw [if_pos hbd] at hg; cases hg
    rw [if_neg hbd] at hg
    obtain ⟨h1, h2, h3, h4⟩ := symT_here hb (by simpa using hbd) hh.left
    have h5 : L.any (fun y => alike y (symOf x)) = false := by rw [← any_contains]; exact h4
    rw [readR_more h3 h2 h1 (by rw [h5]; simp)]
    rw [readR_back hb r (L ++ [symOf x]) g _ (by rw [List.map_append]; exact hg) hh.right (by rw [hs, List.length_append]; omega) (by simp at hf ⊢; omega)]
    simp

end Go.Proofs.YtckmdcmkjmpiaaaGreatDoor

/-
  aiger.Print of a circuit with few things, in either form. (Printed by mkprint.py.)
-/
namespace Go.Proofs.YtckmdcmkjmpiaaaGreatDoor
open Go.RowKit

theorem CFew.up {C : Circ} {m n : Nat} (h : CFew C m) (hm : m ≤ n) : CFew C n := ⟨Nat.le_trans h.i hm, Nat.le_trans h.l hm, Nat.le_trans h.o hm, Nat.le_trans h.b hm, Nat.le_trans h.c hm, Nat.le_trans h.g hm⟩
theorem few_len {α : Type} {f : α → List UInt8} {M : List α} {m : Nat} (hm : M.length ≤ 30) (h : ∀ x ∈ M, (f x).length ≤ m) : (M.flatMap f).length ≤ 30 * m :=
  Nat.le_trans (flat_len (f := f) (m := m) h) (Nat.mul_le_mul_right m hm)
theorem asc_len30 {C : Circ} (hf : CFew C 30) (ho : OkC C) : (ascB C).length ≤ 28000 := by
  have h1 := few_len (f := oneA) (m := 155) hf.i (fun x hx => oneA_len (ho.i x hx))
  have h2 := few_len (f := latA) (m := 155) hf.l (fun x hx => latA_len (ho.l x hx))
  have h3 := few_len (f := oneA) (m := 155) (M := C.outs) hf.o (fun x hx => oneA_len (ho.w 0 x hx))
  have h4 := few_len (f := oneA) (m := 155) (M := C.bads) hf.b (fun x hx => oneA_len (ho.w 1 x hx))
  have h5 := few_len (f := oneA) (m := 155) (M := C.cons) hf.c (fun x hx => oneA_len (ho.w 2 x hx))
  have h6 := few_len (f := gatA) (m := 155) hf.g (fun x hx => gatA_len (ho.g x hx))
  have e : wtA C 3 = wtA C 0 ++ C.outs.flatMap oneA ++ C.bads.flatMap oneA ++ C.cons.flatMap oneA := by rw [wtA_succ, wtA_succ, wtA_succ]; rfl
  unfold ascB
  rw [e]
  unfold wtA
  simp only [List.range_zero, List.flatMap_nil, List.append_nil, List.length_append]
  omega
theorem bin_len30 {C : Circ} (hf : CFew C 30) (hn : NormC C) : (binB C).length ≤ 28000 := by
  have hf1 : CFew C 1000000 := hf.up (by decide)
  have h2 := few_len (f := latB) (m := 44) hf.l (fun x hx => by
    obtain ⟨i, hi⟩ := List.mem_iff_getElem?.1 hx
    have hl : i < C.lats.length := (List.getElem?_eq_some_iff.1 hi).1
    have h1 := norm_lat hn hf1 hl
    rw [g3_some hl] at hi
    rw [Option.some.inj hi] at h1
    exact latB_len h1)
  have h3 := few_len (f := oneB) (m := 22) (M := C.outs) hf.o (fun x hx => oneB_len (norm_wl hn hf1 (k := 0) hx))
  have h4 := few_len (f := oneB) (m := 22) (M := C.bads) hf.b (fun x hx => oneB_len (norm_wl hn hf1 (k := 1) hx))
  have h5 := few_len (f := oneB) (m := 22) (M := C.cons) hf.c (fun x hx => oneB_len (norm_wl hn hf1 (k := 2) hx))
  have h6 := few_len (f := gateB) (m := 12) hf.g (fun x _ => gateB_len x)
  unfold binB
  simp only [List.length_append]
  omega
theorem tail_len30 {Y : List (Int × Int × ByteArray)} {cm : ByteArray} (hn : Y.length ≤ 30) (hw : ∀ x ∈ Y, WrY x) (hc : cm.size ≤ 300) : (tailB Y cm).length ≤ 5000 := by
  have h1 := few_len (f := symY) (m := 155) hn (fun x hx => symY_len (hw x hx))
  rw [Lib.size_eq] at hc
  unfold tailB cmY
  rw [List.length_append]
  split
  · simp only [List.length_nil]; omega
  · simp only [List.length_cons]; omega
theorem head_len30 {b : Bool} {C : Circ} (h : ∀ x ∈ hdL C, okI x) : (headW b (hdL C)).length ≤ 200 := by
  have hw := wrow_length (h := hdL C) rfl
  have h2 : ∀ x ∈ wrow (hdL C), okI x := fun x hx => h x (by
    unfold wrow at hx
    split at hx
    · exact hx
    · split at hx <;> exact List.mem_of_mem_take hx)
  have h3 := row_small h2 hw.2
  unfold headW
  have e : Lib.join ((wrow (hdL C)).map Lib.itoa) [32] = jrow (wrow (hdL C)) := rfl
  rw [e, List.length_append]
  split <;> simp only [List.length_cons, List.length_nil] <;> omega
theorem hd_ok {C : Circ} (hf : CFew C 30) (hr : InRange C) : ∀ x ∈ hdL C, okI x := by
  intro x hx
  have h1 := hf.i
  have h2 := hf.l
  have h3 := hf.o
  have h4 := hf.b
  have h5 := hf.c
  have h6 := hf.g
  have h7 := hr.max0
  have h8 := hr.max1
  unfold hdL at hx
  simp only [List.mem_cons, List.not_mem_nil, or_false] at hx
  unfold okI
  rcases hx with rfl | rfl | rfl | rfl | rfl | rfl | rfl <;> omega

set_option maxRecDepth 100000 in
set_option maxHeartbeats 8000000 in
theorem aiger_Print_false (V : CV) (C : Circ) (Y : List (Int × Int × ByteArray)) (w : World) (hA : CAt w V C) (hY : RowAt w V.ay (Y.map symC).flatten) (hn : Y.length = V.ny) (hf : CFew C 30) (hy : Y.length ≤ 30) (hcm : V.cm.size ≤ 300) (hM : -9223372036854775808 ≤ C.max ∧ C.max ≤ 9223372036854775807) (ht : Tab w) :
    Calls Tryz.prog 11 #[.agg (cvals V C), .bool false] w (PrintP C Y V.cm false w) := by
  have HA := Lib.hid hA
  have HY := Lib.hid hY
  have HFw := Lib.hid hf
  have HT := Lib.hid ht
  have HNy := Lib.hid (And.intro hn (And.intro hy hcm))
  have HM := Lib.hid hM
  obtain ⟨wz, hwz⟩ : ∃ wz : World, wz = w.alloc (.cells (cvals V C) 27) := ⟨_, rfl⟩
  have HK0 := Lib.hid (show Kp (fun _ => False) w wz by rw [hwz]; exact (Kp.refl _ w).alloc _)
  have HC0 := Lib.hid (show Blk wz w.heap.size #[.int .i64 C.max, .slice V.ai C.ins.length V.ci, .slice V.al C.lats.length V.cl, .slice V.ao C.outs.length V.co, .slice V.ab C.bads.length V.cb, .slice V.ac C.cons.length V.cc, .slice V.ag C.gates.length V.cg, .slice V.ay V.ny V.cy, .string V.cm] 27 by rw [hwz]; exact Blk.new w (cvals V C) _)
  have HZ := Lib.hid hwz
  have HCkC := Lib.hid (circ_Chk V C wz (hA.kp HK0.out) (hf.up (by decide)).toI)
  obtain ⟨code, hcode⟩ : ∃ code, ckCode C = code := ⟨_, rfl⟩
  rw [hcode] at HCkC
  have HCo := Lib.hid hcode
  clear hA hY hn hf hy hcm hM ht hwz hcode
  unfold cvals at HCkC HZ ⊢
  go_enter Tryz.func11, Tryz.ntmps11
  go_upto_region 1 with fail
  rw [← HZ.out]
  clear HZ
  obtain ⟨d0, d1, d2, d3, d4, d5, d6, d7, d8⟩ := Blk.cells9 HC0.out
  go_wp2_with fail
  refine (HCkC.out).mono ?_
  rintro o w1 ⟨rfl, hK1⟩
  have HC1 := Lib.hid (HC0.out.kp hK1 (fun h => h))
  have HK1 := Lib.hid (HK0.out.trans hK1 (fun _ _ h => h))
  clear hK1 HCkC HC0 HK0 d0 d1 d2 d3 d4 d5 d6 d7 d8
  by_cases hck : code = 0
  rotate_left
  · have q1 : (code != 0) = true := by simpa using hck
    have HNo := Lib.hid hck
    clear hck
    go_wp2_with fail
    go_ret2
    exact ⟨HK1.out, .inr ⟨fun h => HNo.out (HCo.out ▸ h.1), code, HNo.out, rfl⟩⟩
  subst hck
  have HCk := Lib.hid HCo.out
  obtain ⟨hok, hir⟩ := okC_of HCk.out
  have HOk := Lib.hid hok
  have HIr := Lib.hid hir
  clear hok hir HCo
  obtain ⟨d0, d1, d2, d3, d4, d5, d6, d7, d8⟩ := Blk.cells9 HC1.out
  have HHo := Lib.hid (ascii_HeadOfA V C false w1)
  unfold cvals hdOf hdV at HHo
  go_wp2_with fail
  refine HHo.out.mono ?_
  rintro o w2 ⟨rfl, hK2⟩
  obtain ⟨w3, hw3⟩ : ∃ w3 : World, w3 = w2.alloc (.cells #[.bool false, .int .i64 C.max, .int .i64 (C.ins.length : Nat), .int .i64 (C.lats.length : Nat), .int .i64 (C.outs.length : Nat), .int .i64 (C.gates.length : Nat), .int .i64 (C.bads.length : Nat), .int .i64 (C.cons.length : Nat)] 42) := ⟨_, rfl⟩
  have hk3 : Kp (fun _ => False) w1 w3 := by rw [hw3]; exact hK2.alloc _
  obtain ⟨bh, hbh⟩ : ∃ bh, w2.heap.size = bh := ⟨_, rfl⟩
  have HH3 := Lib.hid (show Blk w3 bh #[.bool false, .int .i64 C.max, .int .i64 (C.ins.length : Nat), .int .i64 (C.lats.length : Nat), .int .i64 (C.outs.length : Nat), .int .i64 (C.gates.length : Nat), .int .i64 (C.bads.length : Nat), .int .i64 (C.cons.length : Nat)] 42 by rw [hw3, ← hbh]; exact Blk.new w2 _ _)
  have HC3 := Lib.hid (HC1.out.kp hk3 (fun h => h))
  have HK3 := Lib.hid (HK1.out.trans hk3 (fun _ _ h => h))
  clear d0 d1 d2 d3 d4 d5 d6 d7 d8 hk3 hK2 HHo HC1 HK1
  go_upto_region 5 with fail
  rw [← hw3]
  clear hw3 hbh
  have HGo := Lib.hid (show Calls Tryz.prog 24 #[.agg #[.bool false, .int .i64 C.max, .int .i64 (C.ins.length : Nat), .int .i64 (C.lats.length : Nat), .int .i64 (C.outs.length : Nat), .int .i64 (C.gates.length : Nat), .int .i64 (C.bads.length : Nat), .int .i64 (C.cons.length : Nat)], .slice V.ay V.ny V.cy] w3 (fun e w' => e = .returned (.bool (goodY (hdOf C false) Y [])) ∧ Kp (fun _ => False) w3 w') from by
    have h1 := tail_Good (hdOf C false) V.ay V.cy Y w3 (HY.out.kp HK3.out (fun _ _ h => h)) (by have := HNy.out; omega) (fun k => cnt_few (HFw.out.up (by decide)) k)
    rw [HNy.out.1] at h1
    exact h1)
  obtain ⟨gd, hgd⟩ : ∃ gd, goodY (hdOf C false) Y [] = gd := ⟨_, rfl⟩
  rw [hgd] at HGo
  have HGd0 := Lib.hid hgd
  clear hgd
  obtain ⟨y0, y1, y2, y3, y4, y5, y6, y7⟩ := blk8' HH3.out
  obtain ⟨d0, d1, d2, d3, d4, d5, d6, d7, d8⟩ := Blk.cells9 HC3.out
  go_wp2_with fail
  refine HGo.out.mono ?_
  rintro o w4 ⟨rfl, hK4⟩
  have HC4 := Lib.hid (HC3.out.kp hK4 (fun h => h))
  have HH4 := Lib.hid (HH3.out.kp hK4 (fun h => h))
  have HK4 := Lib.hid (HK3.out.trans hK4 (fun _ _ h => h))
  clear y0 y1 y2 y3 y4 y5 y6 y7 d0 d1 d2 d3 d4 d5 d6 d7 d8 hK4 HGo HC3 HH3 HK3
  cases gd with
  | false =>
    have HNo := Lib.hid (show ¬ prtOk C Y false from fun h => by have := h.2.1; rw [HGd0.out] at this; cases this)
    go_wp2_with fail
    go_ret2
    exact ⟨HK4.out, .inr ⟨HNo.out, 2, by decide, rfl⟩⟩
  | true =>
  have HGd := HGd0
  have HWr := Lib.hid (goodY_all (fun k => cnt_few (HFw.out.up (by decide)) k) Y [] HGd.out)
  have HAw := Lib.hid (asc_Write V C w4 (HA.out.kp HK4.out) (HFw.out.up (by decide)) HOk.out (HT.out.kp HK4.out))
  unfold cvals at HAw
  obtain ⟨d0, d1, d2, d3, d4, d5, d6, d7, d8⟩ := Blk.cells9 HC4.out
  go_wp2_with fail
  refine HAw.out.mono ?_
  rintro o w5 ⟨rfl, hK5⟩
  have HC5 := Lib.hid (HC4.out.kp hK5 (fun h => h))
  have HH5 := Lib.hid (HH4.out.kp hK5 (fun h => h))
  have HK5 := Lib.hid (HK4.out.trans hK5 (fun _ _ h => h))
  clear d0 d1 d2 d3 d4 d5 d6 d7 d8 hK5 HAw HC4 HH4 HK4 HGd0
  go_upto_region 12 with fail
  obtain ⟨bd, hbd⟩ : ∃ bd, ascB C = bd := ⟨_, rfl⟩
  rw [hbd]
  obtain ⟨F, hF1, hF2⟩ := still_class w5
  have HF1 := Lib.hid hF1
  have HF2 := Lib.hid hF2
  have m7 : ∀ y, (F y).cell? ⟨w.heap.size, 7, none⟩ = some (.slice V.ay V.ny V.cy) := fun y => (HC5.out.kp (hF1 y) (fun h => h)).cell rfl
  have m8 : ∀ y, (F y).cell? ⟨w.heap.size, 8, none⟩ = some (.string V.cm) := fun y => (HC5.out.kp (hF1 y) (fun h => h)).cell rfl
  have y0 : ∀ y, (F y).cell? ⟨bh, 0, none⟩ = some (.bool false) := fun y => (HH5.out.kp (hF1 y) (fun h => h)).cell rfl
  have y1 : ∀ y, (F y).cell? ⟨bh, 1, none⟩ = some (.int .i64 C.max) := fun y => (HH5.out.kp (hF1 y) (fun h => h)).cell rfl
  have y2 : ∀ y, (F y).cell? ⟨bh, 2, none⟩ = some (.int .i64 (C.ins.length : Nat)) := fun y => (HH5.out.kp (hF1 y) (fun h => h)).cell rfl
  have y3 : ∀ y, (F y).cell? ⟨bh, 3, none⟩ = some (.int .i64 (C.lats.length : Nat)) := fun y => (HH5.out.kp (hF1 y) (fun h => h)).cell rfl
  have y4 : ∀ y, (F y).cell? ⟨bh, 4, none⟩ = some (.int .i64 (C.outs.length : Nat)) := fun y => (HH5.out.kp (hF1 y) (fun h => h)).cell rfl
  have y5 : ∀ y, (F y).cell? ⟨bh, 5, none⟩ = some (.int .i64 (C.gates.length : Nat)) := fun y => (HH5.out.kp (hF1 y) (fun h => h)).cell rfl
  have y6 : ∀ y, (F y).cell? ⟨bh, 6, none⟩ = some (.int .i64 (C.bads.length : Nat)) := fun y => (HH5.out.kp (hF1 y) (fun h => h)).cell rfl
  have y7 : ∀ y, (F y).cell? ⟨bh, 7, none⟩ = some (.int .i64 (C.cons.length : Nat)) := fun y => (HH5.out.kp (hF1 y) (fun h => h)).cell rfl
  have HWh := Lib.hid (fun y => ascii_WriteHead false C.max (C.ins.length : Nat) (C.lats.length : Nat) (C.outs.length : Nat) (C.gates.length : Nat) (C.bads.length : Nat) (C.cons.length : Nat) (F y) (hd_ok HFw.out HIr.out) (HT.out.kp ((HK5.out.trans (hF1 y) (fun _ _ h => h)))))
  have HWt := Lib.hid (fun y => show Calls Tryz.prog 28 #[.slice V.ay V.ny V.cy, .string V.cm] (F y) (fun e w' => e = .returned (.string ⟨(tailB Y V.cm).toArray⟩) ∧ Kp (fun _ => False) (F y) w') from by
    have h1 := tail_Write V.ay V.cy Y V.cm (F y) (HY.out.kp (HK5.out.trans (hF1 y) (fun _ _ h => h)) (fun _ _ h => h)) (by have := HNy.out; omega) HWr.out (by have := HNy.out; omega) (HT.out.kp (HK5.out.trans (hF1 y) (fun _ _ h => h)))
    rwa [HNy.out.1] at h1)
  have hl1 := head_len30 (b := false) (C := C) (hd_ok HFw.out HIr.out)
  have hl2 : bd.length ≤ 28000 := by rw [← hbd]; exact asc_len30 HFw.out HOk.out
  have hl3 := tail_len30 (Y := Y) (cm := V.cm) (by have := HNy.out; omega) HWr.out (by have := HNy.out; omega)
  obtain ⟨h1, hh1⟩ : ∃ h1, headW false (hdL C) = h1 := ⟨_, rfl⟩
  obtain ⟨t1, ht1⟩ : ∃ t1, tailB Y V.cm = t1 := ⟨_, rfl⟩
  have hh2 : headW false [C.max, (C.ins.length : Nat), (C.lats.length : Nat), (C.outs.length : Nat), (C.gates.length : Nat), (C.bads.length : Nat), (C.cons.length : Nat)] = h1 := hh1
  rw [hh2] at HWh
  rw [hh1] at hl1
  rw [ht1] at HWt hl3
  have HE := Lib.hid (show prtB C Y V.cm false = (h1 ++ bd) ++ t1 by unfold prtB; rw [hh1, ht1, ← hbd]; rfl)
  have hcat1 : ¬ 9223372036854775807 < h1.length + bd.length := by omega
  have hcat2 : ¬ 9223372036854775807 < h1.length + bd.length + t1.length := by omega
  have hsz : decide ((1048576 : Int) < (h1.length : Int) + (bd.length : Int) + (t1.length : Int)) = false := by simp; omega
  have hsz2 : decide (1048576 < h1.length + bd.length + t1.length) = false := by simp; omega
  have hsz3 : decide ((1048576 : Int) < (h1.length : Int) + ((bd.length : Int) + (t1.length : Int))) = false := by simp; omega
  have hsz4 : decide (1048576 < h1.length + (bd.length + t1.length)) = false := by simp; omega
  clear hh1 hh2 ht1 hbd hF1 hF2 hl1 hl2 hl3
  refine wp_region_kept (by kernel_rfl) (by kernel_rfl) HF2.out ?_
  repeat (go_big_quiet_step (with_reducible first | exact Calls.still_of HF1.out HF2.out (HWh.out _) | exact Calls.still_of HF1.out HF2.out (HWt.out _)))
  refine wpQuiet_nil ?_
  rintro wB ⟨y, rfl⟩
  have HKf := Lib.hid (HK5.out.trans (HF1.out y) (fun _ _ h => h))
  have HOut := Lib.hid (show prtOk C Y false from ⟨HCk.out, HGd.out, fun h => absurd h (by decide)⟩)
  clear m7 m8 y0 y1 y2 y3 y4 y5 y6 y7
  go_wp2_with fail
  go_ret2
  refine ⟨HKf.out, .inl ⟨HOut.out, ?_⟩⟩
  rw [HE.out]
  simp only [cat_bytes]
  rfl

set_option maxRecDepth 100000 in
set_option maxHeartbeats 8000000 in
theorem aiger_Print_true (V : CV) (C : Circ) (Y : List (Int × Int × ByteArray)) (w : World) (hA : CAt w V C) (hY : RowAt w V.ay (Y.map symC).flatten) (hn : Y.length = V.ny) (hf : CFew C 30) (hy : Y.length ≤ 30) (hcm : V.cm.size ≤ 300) (hM : -9223372036854775808 ≤ C.max ∧ C.max ≤ 9223372036854775807) (ht : Tab w) :
    Calls Tryz.prog 11 #[.agg (cvals V C), .bool true] w (PrintP C Y V.cm true w) := by
  have HA := Lib.hid hA
  have HY := Lib.hid hY
  have HFw := Lib.hid hf
  have HT := Lib.hid ht
  have HNy := Lib.hid (And.intro hn (And.intro hy hcm))
  have HM := Lib.hid hM
  obtain ⟨wz, hwz⟩ : ∃ wz : World, wz = w.alloc (.cells (cvals V C) 27) := ⟨_, rfl⟩
  have HK0 := Lib.hid (show Kp (fun _ => False) w wz by rw [hwz]; exact (Kp.refl _ w).alloc _)
  have HC0 := Lib.hid (show Blk wz w.heap.size #[.int .i64 C.max, .slice V.ai C.ins.length V.ci, .slice V.al C.lats.length V.cl, .slice V.ao C.outs.length V.co, .slice V.ab C.bads.length V.cb, .slice V.ac C.cons.length V.cc, .slice V.ag C.gates.length V.cg, .slice V.ay V.ny V.cy, .string V.cm] 27 by rw [hwz]; exact Blk.new w (cvals V C) _)
  have HZ := Lib.hid hwz
  have HCkC := Lib.hid (circ_Chk V C wz (hA.kp HK0.out) (hf.up (by decide)).toI)
  obtain ⟨code, hcode⟩ : ∃ code, ckCode C = code := ⟨_, rfl⟩
  rw [hcode] at HCkC
  have HCo := Lib.hid hcode
  clear hA hY hn hf hy hcm hM ht hwz hcode
  unfold cvals at HCkC HZ ⊢
  go_enter Tryz.func11, Tryz.ntmps11
  go_upto_region 1 with fail
  rw [← HZ.out]
  clear HZ
  obtain ⟨d0, d1, d2, d3, d4, d5, d6, d7, d8⟩ := Blk.cells9 HC0.out
  go_wp2_with fail
  refine (HCkC.out).mono ?_
  rintro o w1 ⟨rfl, hK1⟩
  have HC1 := Lib.hid (HC0.out.kp hK1 (fun h => h))
  have HK1 := Lib.hid (HK0.out.trans hK1 (fun _ _ h => h))
  clear hK1 HCkC HC0 HK0 d0 d1 d2 d3 d4 d5 d6 d7 d8
  by_cases hck : code = 0
  rotate_left
  · have q1 : (code != 0) = true := by simpa using hck
    have HNo := Lib.hid hck
    clear hck
    go_wp2_with fail
    go_ret2
    exact ⟨HK1.out, .inr ⟨fun h => HNo.out (HCo.out ▸ h.1), code, HNo.out, rfl⟩⟩
  subst hck
  have HCk := Lib.hid HCo.out
  obtain ⟨hok, hir⟩ := okC_of HCk.out
  have HOk := Lib.hid hok
  have HIr := Lib.hid hir
  clear hok hir HCo
  obtain ⟨d0, d1, d2, d3, d4, d5, d6, d7, d8⟩ := Blk.cells9 HC1.out
  have HHo := Lib.hid (ascii_HeadOfA V C true w1)
  unfold cvals hdOf hdV at HHo
  go_wp2_with fail
  refine HHo.out.mono ?_
  rintro o w2 ⟨rfl, hK2⟩
  obtain ⟨w3, hw3⟩ : ∃ w3 : World, w3 = w2.alloc (.cells #[.bool true, .int .i64 C.max, .int .i64 (C.ins.length : Nat), .int .i64 (C.lats.length : Nat), .int .i64 (C.outs.length : Nat), .int .i64 (C.gates.length : Nat), .int .i64 (C.bads.length : Nat), .int .i64 (C.cons.length : Nat)] 42) := ⟨_, rfl⟩
  have hk3 : Kp (fun _ => False) w1 w3 := by rw [hw3]; exact hK2.alloc _
  obtain ⟨bh, hbh⟩ : ∃ bh, w2.heap.size = bh := ⟨_, rfl⟩
  have HH3 := Lib.hid (show Blk w3 bh #[.bool true, .int .i64 C.max, .int .i64 (C.ins.length : Nat), .int .i64 (C.lats.length : Nat), .int .i64 (C.outs.length : Nat), .int .i64 (C.gates.length : Nat), .int .i64 (C.bads.length : Nat), .int .i64 (C.cons.length : Nat)] 42 by rw [hw3, ← hbh]; exact Blk.new w2 _ _)
  have HC3 := Lib.hid (HC1.out.kp hk3 (fun h => h))
  have HK3 := Lib.hid (HK1.out.trans hk3 (fun _ _ h => h))
  clear d0 d1 d2 d3 d4 d5 d6 d7 d8 hk3 hK2 HHo HC1 HK1
  go_upto_region 5 with fail
  rw [← hw3]
  clear hw3 hbh
  have HGo := Lib.hid (show Calls Tryz.prog 24 #[.agg #[.bool true, .int .i64 C.max, .int .i64 (C.ins.length : Nat), .int .i64 (C.lats.length : Nat), .int .i64 (C.outs.length : Nat), .int .i64 (C.gates.length : Nat), .int .i64 (C.bads.length : Nat), .int .i64 (C.cons.length : Nat)], .slice V.ay V.ny V.cy] w3 (fun e w' => e = .returned (.bool (goodY (hdOf C true) Y [])) ∧ Kp (fun _ => False) w3 w') from by
    have h1 := tail_Good (hdOf C true) V.ay V.cy Y w3 (HY.out.kp HK3.out (fun _ _ h => h)) (by have := HNy.out; omega) (fun k => cnt_few (HFw.out.up (by decide)) k)
    rw [HNy.out.1] at h1
    exact h1)
  obtain ⟨gd, hgd⟩ : ∃ gd, goodY (hdOf C true) Y [] = gd := ⟨_, rfl⟩
  rw [hgd] at HGo
  have HGd0 := Lib.hid hgd
  clear hgd
  obtain ⟨y0, y1, y2, y3, y4, y5, y6, y7⟩ := blk8' HH3.out
  obtain ⟨d0, d1, d2, d3, d4, d5, d6, d7, d8⟩ := Blk.cells9 HC3.out
  go_wp2_with fail
  refine HGo.out.mono ?_
  rintro o w4 ⟨rfl, hK4⟩
  have HC4 := Lib.hid (HC3.out.kp hK4 (fun h => h))
  have HH4 := Lib.hid (HH3.out.kp hK4 (fun h => h))
  have HK4 := Lib.hid (HK3.out.trans hK4 (fun _ _ h => h))
  clear y0 y1 y2 y3 y4 y5 y6 y7 d0 d1 d2 d3 d4 d5 d6 d7 d8 hK4 HGo HC3 HH3 HK3
  cases gd with
  | false =>
    have HNo := Lib.hid (show ¬ prtOk C Y true from fun h => by have := h.2.1; rw [HGd0.out] at this; cases this)
    go_wp2_with fail
    go_ret2
    exact ⟨HK4.out, .inr ⟨HNo.out, 2, by decide, rfl⟩⟩
  | true =>
  have HGd := HGd0
  have HWr := Lib.hid (goodY_all (fun k => cnt_few (HFw.out.up (by decide)) k) Y [] HGd.out)
  have HAw := Lib.hid (asc_Write V C w4 (HA.out.kp HK4.out) (HFw.out.up (by decide)) HOk.out (HT.out.kp HK4.out))
  unfold cvals at HAw
  obtain ⟨d0, d1, d2, d3, d4, d5, d6, d7, d8⟩ := Blk.cells9 HC4.out
  go_wp2_with fail
  refine HAw.out.mono ?_
  rintro o w5 ⟨rfl, hK5⟩
  have HC5 := Lib.hid (HC4.out.kp hK5 (fun h => h))
  have HH5 := Lib.hid (HH4.out.kp hK5 (fun h => h))
  have HK5 := Lib.hid (HK4.out.trans hK5 (fun _ _ h => h))
  clear d0 d1 d2 d3 d4 d5 d6 d7 d8 hK5 HAw HC4 HH4 HK4 HGd0
  have HBw := Lib.hid (bin_Write V C w5 (HA.out.kp HK5.out) (HFw.out.up (by decide)) HM.out (HT.out.kp HK5.out))
  unfold cvals BinWrP at HBw
  obtain ⟨d0, d1, d2, d3, d4, d5, d6, d7, d8⟩ := Blk.cells9 HC5.out
  go_wp2_with fail
  refine HBw.out.mono ?_
  rintro o w6 ⟨hb, hK6⟩
  have HC6 := Lib.hid (HC5.out.kp hK6 (fun h => h))
  have HH6 := Lib.hid (HH5.out.kp hK6 (fun h => h))
  have HK6 := Lib.hid (HK5.out.trans hK6 (fun _ _ h => h))
  clear d0 d1 d2 d3 d4 d5 d6 d7 d8 hK6 HBw HC5 HH5 HK5
  rcases hb with ⟨hnm, rfl⟩ | ⟨hnm, rfl⟩
  rotate_left
  · have HNo := Lib.hid (show ¬ prtOk C Y true from fun h => hnm (h.2.2 rfl))
    clear hnm
    go_wp2_with fail
    go_ret2
    exact ⟨HK6.out, .inr ⟨HNo.out, 6, by decide, rfl⟩⟩
  have HNm := Lib.hid hnm
  clear hnm
  obtain ⟨w5, rfl⟩ : ∃ w5 : World, w5 = w6 := ⟨_, rfl⟩
  have HC5 := HC6
  have HH5 := HH6
  have HK5 := HK6
  clear HC6 HH6 HK6
  go_upto_region 12 with fail
  obtain ⟨bd, hbd⟩ : ∃ bd, binB C = bd := ⟨_, rfl⟩
  rw [hbd]
  obtain ⟨F, hF1, hF2⟩ := still_class w5
  have HF1 := Lib.hid hF1
  have HF2 := Lib.hid hF2
  have m7 : ∀ y, (F y).cell? ⟨w.heap.size, 7, none⟩ = some (.slice V.ay V.ny V.cy) := fun y => (HC5.out.kp (hF1 y) (fun h => h)).cell rfl
  have m8 : ∀ y, (F y).cell? ⟨w.heap.size, 8, none⟩ = some (.string V.cm) := fun y => (HC5.out.kp (hF1 y) (fun h => h)).cell rfl
  have y0 : ∀ y, (F y).cell? ⟨bh, 0, none⟩ = some (.bool true) := fun y => (HH5.out.kp (hF1 y) (fun h => h)).cell rfl
  have y1 : ∀ y, (F y).cell? ⟨bh, 1, none⟩ = some (.int .i64 C.max) := fun y => (HH5.out.kp (hF1 y) (fun h => h)).cell rfl
  have y2 : ∀ y, (F y).cell? ⟨bh, 2, none⟩ = some (.int .i64 (C.ins.length : Nat)) := fun y => (HH5.out.kp (hF1 y) (fun h => h)).cell rfl
  have y3 : ∀ y, (F y).cell? ⟨bh, 3, none⟩ = some (.int .i64 (C.lats.length : Nat)) := fun y => (HH5.out.kp (hF1 y) (fun h => h)).cell rfl
  have y4 : ∀ y, (F y).cell? ⟨bh, 4, none⟩ = some (.int .i64 (C.outs.length : Nat)) := fun y => (HH5.out.kp (hF1 y) (fun h => h)).cell rfl
  have y5 : ∀ y, (F y).cell? ⟨bh, 5, none⟩ = some (.int .i64 (C.gates.length : Nat)) := fun y => (HH5.out.kp (hF1 y) (fun h => h)).cell rfl
  have y6 : ∀ y, (F y).cell? ⟨bh, 6, none⟩ = some (.int .i64 (C.bads.length : Nat)) := fun y => (HH5.out.kp (hF1 y) (fun h => h)).cell rfl
  have y7 : ∀ y, (F y).cell? ⟨bh, 7, none⟩ = some (.int .i64 (C.cons.length : Nat)) := fun y => (HH5.out.kp (hF1 y) (fun h => h)).cell rfl
  have HWh := Lib.hid (fun y => ascii_WriteHead true C.max (C.ins.length : Nat) (C.lats.length : Nat) (C.outs.length : Nat) (C.gates.length : Nat) (C.bads.length : Nat) (C.cons.length : Nat) (F y) (hd_ok HFw.out HIr.out) (HT.out.kp ((HK5.out.trans (hF1 y) (fun _ _ h => h)))))
  have HWt := Lib.hid (fun y => show Calls Tryz.prog 28 #[.slice V.ay V.ny V.cy, .string V.cm] (F y) (fun e w' => e = .returned (.string ⟨(tailB Y V.cm).toArray⟩) ∧ Kp (fun _ => False) (F y) w') from by
    have h1 := tail_Write V.ay V.cy Y V.cm (F y) (HY.out.kp (HK5.out.trans (hF1 y) (fun _ _ h => h)) (fun _ _ h => h)) (by have := HNy.out; omega) HWr.out (by have := HNy.out; omega) (HT.out.kp (HK5.out.trans (hF1 y) (fun _ _ h => h)))
    rwa [HNy.out.1] at h1)
  have hl1 := head_len30 (b := true) (C := C) (hd_ok HFw.out HIr.out)
  have hl2 : bd.length ≤ 28000 := by rw [← hbd]; exact bin_len30 HFw.out HNm.out
  have hl3 := tail_len30 (Y := Y) (cm := V.cm) (by have := HNy.out; omega) HWr.out (by have := HNy.out; omega)
  obtain ⟨h1, hh1⟩ : ∃ h1, headW true (hdL C) = h1 := ⟨_, rfl⟩
  obtain ⟨t1, ht1⟩ : ∃ t1, tailB Y V.cm = t1 := ⟨_, rfl⟩
  have hh2 : headW true [C.max, (C.ins.length : Nat), (C.lats.length : Nat), (C.outs.length : Nat), (C.gates.length : Nat), (C.bads.length : Nat), (C.cons.length : Nat)] = h1 := hh1
  rw [hh2] at HWh
  rw [hh1] at hl1
  rw [ht1] at HWt hl3
  have HE := Lib.hid (show prtB C Y V.cm true = (h1 ++ bd) ++ t1 by unfold prtB; rw [hh1, ht1, ← hbd]; rfl)
  have hcat1 : ¬ 9223372036854775807 < h1.length + bd.length := by omega
  have hcat2 : ¬ 9223372036854775807 < h1.length + bd.length + t1.length := by omega
  have hsz : decide ((1048576 : Int) < (h1.length : Int) + (bd.length : Int) + (t1.length : Int)) = false := by simp; omega
  have hsz2 : decide (1048576 < h1.length + bd.length + t1.length) = false := by simp; omega
  have hsz3 : decide ((1048576 : Int) < (h1.length : Int) + ((bd.length : Int) + (t1.length : Int))) = false := by simp; omega
  have hsz4 : decide (1048576 < h1.length + (bd.length + t1.length)) = false := by simp; omega
  clear hh1 hh2 ht1 hbd hF1 hF2 hl1 hl2 hl3
  refine wp_region_kept (by kernel_rfl) (by kernel_rfl) HF2.out ?_
  repeat (go_big_quiet_step (with_reducible first | exact Calls.still_of HF1.out HF2.out (HWh.out _) | exact Calls.still_of HF1.out HF2.out (HWt.out _)))
  refine wpQuiet_nil ?_
  rintro wB ⟨y, rfl⟩
  have HKf := Lib.hid (HK5.out.trans (HF1.out y) (fun _ _ h => h))
  have HOut := Lib.hid (show prtOk C Y true from ⟨HCk.out, HGd.out, fun _ => HNm.out⟩)
  clear m7 m8 y0 y1 y2 y3 y4 y5 y6 y7
  go_wp2_with fail
  go_ret2
  refine ⟨HKf.out, .inl ⟨HOut.out, ?_⟩⟩
  rw [HE.out]
  simp only [cat_bytes]
  rfl

end Go.Proofs.YtckmdcmkjmpiaaaGreatDoor
