/-
  The law of loose regions, with guards, and with calls that stand in one order and turn old memory: what the memory is, is told by how
  many of them are done.
-/
import Derived.Test.YtckmdcmkjmpiaaaGreatDoorM3
import Derived.Test.YtckmdcmkjmpiaaaGreatDoorM2
import Derived.Test.YtckmdcmkjmpiaaaGreatDoorM1
import Derived.Recover
import Derived.Deep.RegionHeld3
import Derived.Lib.Join
import Derived.RegionTactic
import Derived.Tactics2
import Derived.Deep.DeepCutAuto
import Derived.Deep.CutBlock
import Derived.RangeFuncCalls
set_option linter.unusedVariables false
set_option linter.unusedSimpArgs false
namespace Go.Proofs.YtckmdcmkjmpiaaaGreatDoor
open Go Go.RowKit

def cntC (c : Nat → Bool) (n : Nat) (listed : Array Bool) : Nat := (List.range n).countP (fun i => c i && listed.getD i false)

theorem cntC_succ (c : Nat → Bool) (n : Nat) (listed : Array Bool) : cntC c (n + 1) listed = cntC c n listed + (if (c n && listed.getD n false) = true then 1 else 0) := by
  unfold cntC
  rw [List.range_succ, List.countP_append]
  simp [List.countP_cons]

theorem cntC_zero (c : Nat → Bool) (n m : Nat) : cntC c n (Array.replicate m false) = 0 := by
  induction n with
  | zero => rfl
  | succ n ih =>
    rw [cntC_succ, ih]
    have : (Array.replicate m false).getD n false = false := by
      simp [Array.getD_eq_getD_getElem?, Array.getElem?_replicate]
      split <;> simp
    rw [this]
    simp

theorem getD_set {listed : Array Bool} {i j : Nat} (h : j ≠ i) : (listed.setIfInBounds i true).getD j false = listed.getD j false := by
  simp only [Array.getD_eq_getD_getElem?, Array.getElem?_setIfInBounds]
  rw [if_neg (fun e => h e.symm)]

theorem cntC_set_ne {c : Nat → Bool} {listed : Array Bool} {i : Nat} (hc : c i = false) : ∀ n, cntC c n (listed.setIfInBounds i true) = cntC c n listed
  | 0 => rfl
  | n + 1 => by
    rw [cntC_succ, cntC_succ, cntC_set_ne hc n]
    by_cases e : n = i
    · subst e; rw [hc]; simp
    · rw [getD_set e]

theorem cntC_far {c : Nat → Bool} {listed : Array Bool} {i : Nat} : ∀ n, n ≤ i → cntC c n (listed.setIfInBounds i true) = cntC c n listed
  | 0, _ => rfl
  | n + 1, h => by rw [cntC_succ, cntC_succ, cntC_far n (by omega), getD_set (by omega)]

theorem cntC_set {c : Nat → Bool} {listed : Array Bool} {i : Nat} (hi : i < listed.size) (hu : listed.getD i false = false) (hc : c i = true) : ∀ n, i < n → cntC c n (listed.setIfInBounds i true) = cntC c n listed + 1
  | 0, h => by omega
  | n + 1, h => by
    rw [cntC_succ, cntC_succ]
    by_cases e : i = n
    · subst e
      rw [cntC_far i (Nat.le_refl _), hc, hu]
      have h1 : (listed.setIfInBounds i true).getD i false = true := by simp [Array.getD_eq_getD_getElem?, hi]
      rw [h1]
      simp
    · rw [cntC_set hi hu hc n (by omega), getD_set (fun h => e h.symm)]
      omega

theorem cntC_num {c : Nat → Bool} {listed : Array Bool} {i : Nat} : ∀ {n : Nat}, (∀ j, j < n → c j = true → (listed.getD j false = true ↔ j < i)) → i ≤ n → cntC c n listed = (List.range i).countP c := by
  have low : ∀ n, n ≤ i → (∀ j, j < n → c j = true → (listed.getD j false = true ↔ j < i)) → cntC c n listed = (List.range n).countP c := by
    intro n hn h
    induction n with
    | zero => rfl
    | succ n ih =>
      rw [cntC_succ, ih (by omega) (fun j hj => h j (by omega)), List.range_succ, List.countP_append]
      by_cases hc : c n = true
      · rw [hc, (h n (by omega) hc).2 (by omega)]
        simp [hc]
      · have hc' : c n = false := by simpa using hc
        simp [hc']
  intro n h hn
  induction n with
  | zero =>
    obtain rfl : i = 0 := Nat.le_zero.1 hn
    rfl
  | succ n ih =>
    by_cases e : i = n + 1
    · subst e
      exact low _ (Nat.le_refl _) h
    · rw [cntC_succ, ih (fun j hj => h j (by omega)) (by omega)]
      by_cases hc : c n = true
      · have : listed.getD n false = false := by
          have := h n (by omega) hc
          by_cases hl : listed.getD n false = true
          · have := this.1 hl; omega
          · simpa using hl
        rw [this]
        simp
      · have hc' : c n = false := by simpa using hc
        simp [hc']

def chainB (ops : Array Oper) (c : Nat → Bool) : Bool := (List.range ops.size).all (fun j => !c j || (List.range j).all (fun i => !c i || (clo ops 6 (edgesOf ops j)).contains i))
theorem chainB_spec {ops : Array Oper} {c : Nat → Bool} (h : chainB ops c = true) : ∀ i j, c i = true → c j = true → i < j → j < ops.size → i ∈ clo ops 6 (edgesOf ops j) := by
  intro i j hi hj hij hjs
  unfold chainB at h
  rw [List.all_eq_true] at h
  have h1 := h j (List.mem_range.2 hjs)
  rw [hj, Bool.not_true, Bool.false_or, List.all_eq_true] at h1
  have h2 := h1 i (List.mem_range.2 hij)
  rw [hi, Bool.not_true, Bool.false_or] at h2
  simpa using h2


/-- how many calls stand before operation i -/
def numC (c : Nat → Bool) (i : Nat) : Nat := (List.range i).countP c
theorem numC_lt {c : Nat → Bool} {j : Nat} (hc : c j = true) : ∀ {i : Nat}, j < i → numC c j < numC c i
  | 0, h => by omega
  | i + 1, h => by
    have e : numC c (i + 1) = numC c i + (if c i = true then 1 else 0) := by
      unfold numC
      rw [List.range_succ, List.countP_append]
      simp [List.countP_cons]
    rw [e]
    by_cases hji : j = i
    · subst hji; rw [if_pos hc]; omega
    · have := numC_lt hc (i := i) (by omega)
      omega

theorem numC_succ (c : Nat → Bool) (i : Nat) : numC c (i + 1) = numC c i + (if c i = true then 1 else 0) := by
  unfold numC
  rw [List.range_succ, List.countP_append]
  simp [List.countP_cons]
theorem cntC_le {c : Nat → Bool} {listed : Array Bool} {j : Nat} : ∀ n, (∀ k, k < n → c k = true → listed.getD k false = true → k < j) → cntC c n listed ≤ numC c (min n j)
  | 0, _ => by simp [cntC]
  | n + 1, h => by
    have ih := cntC_le (c := c) (listed := listed) (j := j) n (fun k hk => h k (by omega))
    rw [cntC_succ]
    by_cases hn : n < j
    · rw [Nat.min_eq_left (by omega), numC_succ]
      rw [Nat.min_eq_left (by omega)] at ih
      by_cases hc : c n = true
      · rw [if_pos hc]
        split <;> omega
      · have hc' : c n = false := by simpa using hc
        rw [hc']
        simpa using ih
    · have : (c n && listed.getD n false) = false := by
        by_cases hb : (c n && listed.getD n false) = true
        · rw [Bool.and_eq_true] at hb
          exact absurd (h n (by omega) hb.1 hb.2) hn
        · simpa using hb
      rw [this]
      rw [Nat.min_eq_right (by omega)] at ih ⊢
      simpa using ih

/-- what an operation that comes behind some calls may know of their results -/
def Told (ops : Array Oper) (c : Nat → Bool) (vs : List Value) (a : Act) (P : Nat → Prop) : Prop := ∀ (j : Nat) (oj : Oper) (d : Nat), P j → c j = true → ops[j]? = some oj → oj.dst = some d → a.tmps.getD d undef = vs.getD (numC c j) undef

/-- how the operations hang together: those of p come first -/
structure LooseSOK (ops : Array Oper) (p : Nat → Bool) (N : Nat) : Prop where
  low : ∀ (i : Nat) (o : Oper), ops[i]? = some o → p i = true → ∀ e ∈ o.after, Region.binds .any e = true → e.on < i ∧ p e.on = true
  dst : ∀ (i : Nat) (o : Oper), ops[i]? = some o → p i = true → ∀ d, o.dst = some d → d < N
  inj : ∀ (i j : Nat) (o o' : Oper), ops[i]? = some o → ops[j]? = some o' → p i = true → p j = true → ∀ d, o.dst = some d → o'.dst = some d → i = j
  bar : ∀ (i : Nat) (o : Oper), ops[i]? = some o → p i = false → ∀ j, j < ops.size → p j = true → j ∈ clo ops 6 (edgesOf ops i)

def looseSB (ops : Array Oper) (p : Nat → Bool) (N : Nat) : Bool :=
  (List.range ops.size).all fun i => match ops[i]? with
    | none => true
    | some o => (if p i then
        o.after.all (fun e => !Region.binds .any e || (decide (e.on < i) && p e.on)) &&
          (match o.dst with
            | none => true
            | some d => decide (d < N) && (List.range ops.size).all (fun j => !p j || decide (j = i) || (match ops[j]? with | none => true | some o' => decide (o'.dst ≠ some d))))
      else (List.range ops.size).all (fun j => !p j || (clo ops 6 (edgesOf ops i)).contains j))

theorem looseSB_spec {ops : Array Oper} {p : Nat → Bool} {N : Nat} (h : looseSB ops p N = true) : LooseSOK ops p N := by
  unfold looseSB at h
  rw [List.all_eq_true] at h
  have get : ∀ (i : Nat) (o : Oper), ops[i]? = some o → (if p i then
        o.after.all (fun e => !Region.binds .any e || (decide (e.on < i) && p e.on)) &&
          (match o.dst with
            | none => true
            | some d => decide (d < N) && (List.range ops.size).all (fun j => !p j || decide (j = i) || (match ops[j]? with | none => true | some o' => decide (o'.dst ≠ some d))))
      else (List.range ops.size).all (fun j => !p j || (clo ops 6 (edgesOf ops i)).contains j)) = true := fun i o ho => by
    have hi : i < ops.size := (Array.getElem?_eq_some_iff.1 ho).1
    have := h i (List.mem_range.2 hi)
    simp only [ho] at this
    exact this
  refine ⟨fun i o ho hp e he hb => ?_, fun i o ho hp d hd => ?_, fun i j o o' ho ho' hp hp' d hd hd' => ?_, fun i o ho hp j hj hpj => ?_⟩
  · have := (get i o ho)
    rw [if_pos hp, Bool.and_eq_true] at this
    have h1 := this.1
    rw [Array.all_eq_true_iff_forall_mem] at h1
    have h2 := h1 e he
    rw [hb] at h2
    simpa using h2
  · have := (get i o ho)
    rw [if_pos hp, Bool.and_eq_true] at this
    have h1 := this.2
    rw [hd] at h1
    simp only [Bool.and_eq_true, decide_eq_true_eq] at h1
    exact h1.1
  · have := (get i o ho)
    rw [if_pos hp, Bool.and_eq_true] at this
    have h1 := this.2
    rw [hd] at h1
    simp only [Bool.and_eq_true] at h1
    have h2 := h1.2
    rw [List.all_eq_true] at h2
    have h3 := h2 j (List.mem_range.2 (Array.getElem?_eq_some_iff.1 ho').1)
    rw [hp', ho'] at h3
    simp only [Bool.not_true, Bool.false_or, Bool.or_eq_true, decide_eq_true_eq] at h3
    rcases h3 with h3 | h3
    · exact h3.symm
    · exact absurd hd' h3
  · have := (get i o ho)
    rw [if_neg (by simp [hp]), List.all_eq_true] at this
    have h1 := this j (List.mem_range.2 hj)
    rw [hpj, Bool.not_true, Bool.false_or] at h1
    simpa using h1

/-- behind those that are listed -/
structure LInvS (ops : Array Oper) (V : Nat → World → Value → Prop) (R : World → World → Prop) (W : List Value → World → Prop) (c : Nat → Bool) (vs : List Value) (w0 : World) (a0 : Act) (L : Nat → Prop) (a : Act) (u : World) : Prop where
  rel : R w0 u
  st : W vs u
  told : Told ops c vs a L
  val : ∀ (i : Nat) (o : Oper) (d : Nat), ops[i]? = some o → L i → o.dst = some d → V i u (a.tmps.getD d undef)
  off : ∀ s, (∀ (i : Nat) (o : Oper), ops[i]? = some o → L i → o.dst ≠ some s) → a.tmps.getD s undef = a0.tmps.getD s undef
  size : a.tmps.size = a0.tmps.size
  defers : a.defers = a0.defers

/-- an operation that is done, or is passed by: vs are the results of the calls before it; nx: what they are behind it -/
def LS (P : Program) (ops : Array Oper) (Q : Exit → Act → World → Prop) (V : Nat → World → Value → Prop) (R : World → World → Prop) (W : List Value → World → Prop) (vs : List Value) (ch : Bool) (i : Nat) (o : Oper) (a : Act) (u : World) : Prop :=
  (Region.wanted o (yielded ops a.tmps) = true ∧ o.wp P a u (fun a' u' => ∃ v, a' = a.put o.dst v ∧ R u u' ∧ W (if ch then vs ++ [v] else vs) u' ∧ V i u' v) Q) ∨ (Region.wanted o (yielded ops a.tmps) = false ∧ R u u ∧ W (if ch then vs ++ [undef] else vs) u ∧ V i u undef)

section
variable {P : Program} {ops : Array Oper} {Q : Exit → Act → World → Prop} {V : Nat → World → Value → Prop} {R : World → World → Prop} {W : List Value → World → Prop} {vs : List Value} {ch : Bool} {i : Nat} {o : Oper} {a : Act} {u : World}
theorem ls_none (hg : o.guard = none) (h : o.wp P a u (fun a' u' => ∃ v, a' = a.put o.dst v ∧ R u u' ∧ W (if ch then vs ++ [v] else vs) u' ∧ V i u' v) Q) : LS P ops Q V R W vs ch i o a u :=
  .inl ⟨by unfold Region.wanted; rw [hg], h⟩
theorem ls_value {v : Value} {u' : World} (h : (execOp a.eval o).run P u = .ok (.value v) u') (hr : R u u') (hw : W (if ch then vs ++ [v] else vs) u') (hv : V i u' v) : o.wp P a u (fun a' u' => ∃ v, a' = a.put o.dst v ∧ R u u' ∧ W (if ch then vs ++ [v] else vs) u' ∧ V i u' v) Q := by
  unfold Oper.wp
  rw [h]
  exact ⟨v, rfl, hr, hw, hv⟩
theorem ls_call {f : FuncId} {args : Array Value} (h : (execOp a.eval o).run P u = .ok (.enter f args) u)
    (hc : Calls P f args u fun e u' => ∃ v, e = .returned v ∧ R u u' ∧ W (if ch then vs ++ [v] else vs) u' ∧ V i u' v) : o.wp P a u (fun a' u' => ∃ v, a' = a.put o.dst v ∧ R u u' ∧ W (if ch then vs ++ [v] else vs) u' ∧ V i u' v) Q := by
  unfold Oper.wp
  rw [h]
  refine hc.mono ?_
  rintro e u' ⟨v, rfl, hK⟩
  exact ⟨v, rfl, hK⟩
theorem ls_skip {u' : World} (h : (execOp a.eval o).run P u = .ok .skip u') (hr : R u u') (hw : W (if ch then vs ++ [undef] else vs) u') (hv : V i u' undef) : o.wp P a u (fun a' u' => ∃ v, a' = a.put o.dst v ∧ R u u' ∧ W (if ch then vs ++ [v] else vs) u' ∧ V i u' v) Q := by
  unfold Oper.wp
  rw [h]
  exact ⟨undef, rfl, hr, hw, hv⟩
theorem lsn_value {v : Value} {u' : World} (hg : o.guard = none) (h : (execOp a.eval o).run P u = .ok (.value v) u') (hr : R u u') (hw : W (if ch then vs ++ [v] else vs) u') (hv : V i u' v) : LS P ops Q V R W vs ch i o a u := ls_none hg (ls_value h hr hw hv)
theorem lsn_skip {u' : World} (hg : o.guard = none) (h : (execOp a.eval o).run P u = .ok .skip u') (hr : R u u') (hw : W (if ch then vs ++ [undef] else vs) u') (hv : V i u' undef) : LS P ops Q V R W vs ch i o a u := ls_none hg (ls_skip h hr hw hv)
theorem lsn_call {f : FuncId} {args : Array Value} (hg : o.guard = none) (h : (execOp a.eval o).run P u = .ok (.enter f args) u) (hc : Calls P f args u fun e u' => ∃ v, e = .returned v ∧ R u u' ∧ W (if ch then vs ++ [v] else vs) u' ∧ V i u' v) : LS P ops Q V R W vs ch i o a u := ls_none hg (ls_call h hc)
end

theorem wpAny_looseS {P : Program} {ops : Array Oper} {Q : Exit → Act → World → Prop} {p : Nat → Bool} {V : Nat → World → Value → Prop} {R : World → World → Prop} {W : List Value → World → Prop} {c : Nat → Bool} {w0 : World} {a0 : Act} {LP : Array Bool} (L : LooseSOK ops p a0.tmps.size)
    (stable : ∀ i u u' v, R u u' → V i u v → V i u' v) (tr : ∀ x y z, R x y → R y z → R x z)
    (LC : ∀ i j, c i = true → c j = true → i < j → j < ops.size → i ∈ clo ops 6 (edgesOf ops j))
    (hstep : ∀ (i : Nat) (o : Oper), ops[i]? = some o → p i = true → ∀ vs a u, R w0 u → W vs u → (c i = true → vs.length = numC c i) → (∀ j, j < ops.size → c j = true → i ∈ clo ops 6 (edgesOf ops j) → vs.length ≤ numC c j) → Told ops c vs a (fun j => ∃ e ∈ o.after, Region.binds .any e = true ∧ e.on = j) →
      (∀ s, (∀ (j : Nat) (oj : Oper), ops[j]? = some oj → p j = true → oj.dst ≠ some s) → a.tmps.getD s undef = a0.tmps.getD s undef) →
      (∀ e ∈ o.after, Region.binds .any e = true → ∀ (oj : Oper) (d : Nat), ops[e.on]? = some oj → oj.dst = some d → V e.on u (a.tmps.getD d undef)) →
      LS P ops Q V R W vs (c i) i o a u)
    (hLs : LP.size = ops.size) (hLP : ∀ i, i < ops.size → LP.getD i false = p i)
    (hend : ∀ vs a u, vs.length = cntC c ops.size LP → LInvS ops V R W c vs w0 a0 (fun i => p i = true) a u → wpAny P .any ops Q (cntU ops.size LP) LP a u) :
    ∀ (fuel : Nat) (listed : Array Bool) (vs : List Value) (a : Act) (u : World), listed.size = ops.size → vs.length = cntC c ops.size listed → fuel = cntU ops.size listed → (∀ i, i < ops.size → listed.getD i false = true → p i = true) → (∀ j, listed.getD j false = true → ∀ k, k ∈ edgesOf ops j → listed.getD k false = true) →
      LInvS ops V R W c vs w0 a0 (fun i => listed.getD i false = true) a u → wpAny P .any ops Q fuel listed a u := by
  intro fuel
  induction fuel with
  | zero =>
    intro listed vs a u hs hvl hf hl hcl hI
    have hall : ∀ i, i < ops.size → listed.getD i false = true := fun i hi => by
      by_cases h : listed.getD i false = true
      · exact h
      · have := cntU_set (listed := listed) (by omega) (by simpa using h) ops.size hi
        omega
    have e : listed = LP := listed_ext (by omega) (fun i hi => by
      rw [hall i (by omega), hLP i (by omega)]
      exact (hl i (by omega) (hall i (by omega))).symm)
    subst e
    have := hend vs a u hvl ⟨hI.rel, hI.st, fun j oj d hp hc ho hd => hI.told j oj d (hall j (Array.getElem?_eq_some_iff.1 ho).1) hc ho hd, fun i o d ho _ hd => hI.val i o d ho (hall i (Array.getElem?_eq_some_iff.1 ho).1) hd, fun s hs' => hI.off s (fun i o ho hi => hs' i o ho (hl i (Array.getElem?_eq_some_iff.1 ho).1 hi)), hI.size, hI.defers⟩
    rwa [← hf] at this
  | succ fuel ih =>
    intro listed vs a u hs hvl hf hl hcl hI
    by_cases hall : ∀ i, i < ops.size → p i = true → listed.getD i false = true
    · have e : listed = LP := listed_ext (by omega) (fun i hi => by
        rw [hLP i (by omega)]
        by_cases h : p i = true
        · rw [h, hall i (by omega) h]
        · by_cases h2 : listed.getD i false = true
          · exact absurd (hl i (by omega) h2) h
          · have h3 : p i = false := by simpa using h
            have h4 : listed.getD i false = false := by simpa using h2
            rw [h3, h4])
      subst e
      have := hend vs a u hvl ⟨hI.rel, hI.st, fun j oj d hp hc ho hd => hI.told j oj d (hall j (Array.getElem?_eq_some_iff.1 ho).1 hp) hc ho hd, fun i o d ho hp hd => hI.val i o d ho (hall i (Array.getElem?_eq_some_iff.1 ho).1 hp) hd, fun s hs' => hI.off s (fun i o ho hi => hs' i o ho (hl i (Array.getElem?_eq_some_iff.1 ho).1 hi)), hI.size, hI.defers⟩
      rwa [← hf] at this
    · obtain ⟨i0, ⟨hi0, hp0, hu0⟩, hmin⟩ := least_of (R := fun i => i < ops.size ∧ p i = true ∧ listed.getD i false = false) (by
        refine Classical.byContradiction fun hno => hall fun i hi hp => ?_
        by_cases h : listed.getD i false = true
        · exact h
        · exact absurd ⟨i, hi, hp, by simpa using h⟩ hno)
      have hready : i0 ∈ Region.ready .any ops listed := by
        rw [mem_ready]
        refine ⟨by rw [getD_true_false (by omega)]; exact hu0, ops[i0], Array.getElem?_eq_getElem hi0, fun e he hb => ?_⟩
        obtain ⟨h1, h2⟩ := L.low i0 _ (Array.getElem?_eq_getElem hi0) hp0 e he hb
        by_cases h : listed.getD e.on false = true
        · exact h
        · exact absurd ⟨by omega, h2, by simpa using h⟩ (hmin e.on h1)
      refine ⟨fun h => (by rw [h] at hready; cases hready), fun i hi => ?_⟩
      obtain ⟨h1, o, ho, hedge⟩ := mem_ready.1 hi
      have hisz : i < ops.size := (Array.getElem?_eq_some_iff.1 ho).1
      rw [getD_true_false (by omega)] at h1
      have hpi : p i = true := by
        by_cases h : p i = true
        · exact h
        · have h3 := clo_listed (listed := fun j => listed.getD j false = true) hcl 6 (edgesOf ops i) (fun k hk => by
            obtain ⟨e, he, hb, hon⟩ := (mem_edgesOf ho).1 hk
            have := hedge e he hb
            rwa [hon] at this) i0 (L.bar i o ho (by simpa using h) i0 hi0 hp0)
          rw [hu0] at h3
          cases h3
      have hnum : c i = true → vs.length = numC c i := fun hci => by
        rw [hvl]
        refine cntC_num (fun j hj hcj => ⟨fun hlj => ?_, fun hji => ?_⟩) (by omega)
        · by_cases e : j = i
          · subst e; rw [h1] at hlj; cases hlj
          · by_cases e2 : j < i
            · exact e2
            · have h3 := clo_listed (listed := fun j => listed.getD j false = true) hcl 6 (edgesOf ops j) (fun k hk => hcl j hlj k hk) i (LC i j hci hcj (by omega) hj)
              rw [h1] at h3
              cases h3
        · exact clo_listed (listed := fun j => listed.getD j false = true) hcl 6 (edgesOf ops i) (fun k hk => by
            obtain ⟨e, he, hb, hon⟩ := (mem_edgesOf ho).1 hk
            have := hedge e he hb
            rwa [hon] at this) j (LC j i hcj hci hji hisz)
      have hlow : ∀ j, j < ops.size → c i = true → c j = true → listed.getD j false = true → j < i := fun j hj hci hcj hlj => by
        by_cases e : j = i
        · subst e; rw [h1] at hlj; cases hlj
        · by_cases e2 : j < i
          · exact e2
          · have h3 := clo_listed (listed := fun j => listed.getD j false = true) hcl 6 (edgesOf ops j) (fun k hk => hcl j hlj k hk) i (LC i j hci hcj (by omega) hj)
            rw [h1] at h3
            cases h3
      have hgo : ∀ a' u', (∃ v, a' = a.put o.dst v ∧ R u u' ∧ W (if c i then vs ++ [v] else vs) u' ∧ V i u' v) → wpAny P .any ops Q fuel (listed.setIfInBounds i true) a' u' := by
        rintro a' u' ⟨v, rfl, hK, hW, hV⟩
        have hset : ∀ j, (listed.setIfInBounds i true).getD j false = true ↔ j = i ∨ listed.getD j false = true := fun j => by
          simp only [Array.getD_eq_getD_getElem?, Array.getElem?_setIfInBounds]
          by_cases e : i = j
          · subst e; simp [show i < listed.size by omega]
          · rw [if_neg e]
            exact ⟨.inr, fun h => h.resolve_left (fun h => e h.symm)⟩
        refine ih _ (if c i then vs ++ [v] else vs) _ _ (by simp [hs]) ?_ ?_ (fun j hj hlj => ?_) (fun j hj k hk => ?_) ⟨tr _ _ _ hI.rel hK, hW, fun j oj dj hj hcj hoj hdj => ?_, fun j oj dj hoj hj hdj => ?_, fun s hs' => ?_, by rw [put_size]; exact hI.size, by rw [put_defers]; exact hI.defers⟩
        · by_cases hci : c i = true
          · rw [if_pos hci, List.length_append, hvl, cntC_set (by omega) h1 hci ops.size hisz]
            rfl
          · rw [if_neg hci, hvl, cntC_set_ne (by simpa using hci)]
        · have := cntU_set (listed := listed) (by omega) h1 ops.size hisz
          omega
        · rcases (hset j).1 hlj with e | e
          · rw [e]; exact hpi
          · exact hl j hj e
        · rcases (hset j).1 hj with e | e
          · subst e
            obtain ⟨e, he, hb, hon⟩ := (mem_edgesOf ho).1 hk
            refine (hset k).2 (.inr ?_)
            rw [← hon]
            exact hedge e he hb
          · exact (hset k).2 (.inr (hcl j e k hk))
        · have hjs : j < ops.size := (Array.getElem?_eq_some_iff.1 hoj).1
          by_cases eji : j = i
          · subst eji
            have : oj = o := by rw [hoj] at ho; exact Option.some.inj ho
            subst this
            rw [hdj, put_getD_same (by rw [hI.size]; exact L.dst j oj hoj hpi dj hdj), if_pos hcj, ← hnum hcj]
            simp [List.getD]
          · have hlj := ((hset j).1 hj).resolve_left eji
            rw [put_getD_ne (fun h => eji (L.inj j i oj o hoj ho (hl j hjs hlj) hpi dj hdj h)), hI.told j oj dj hlj hcj hoj hdj]
            by_cases hci : c i = true
            · have h5 := numC_lt hcj (hlow j hjs hci hcj hlj)
              have h6 := hnum hci
              rw [if_pos hci, List.getD_eq_getElem?_getD, List.getD_eq_getElem?_getD, List.getElem?_append_left (by omega)]
            · rw [if_neg hci]
        · rcases (hset j).1 hj with e | e
          · subst e
            have : oj = o := by rw [hoj] at ho; exact Option.some.inj ho
            subst this
            rw [hdj, put_getD_same (by rw [hI.size]; exact L.dst j oj hoj hpi dj hdj)]
            exact hV
          · by_cases eji : j = i
            · subst eji
              rw [h1] at e; cases e
            · rw [put_getD_ne (fun h => eji (L.inj j i oj o hoj ho (hl j (Array.getElem?_eq_some_iff.1 hoj).1 e) hpi dj hdj h))]
              exact stable j u u' _ hK (hI.val j oj dj hoj e hdj)
        · rw [put_getD_ne (hs' i o ho ((hset i).2 (.inl rfl)))]
          exact hI.off s (fun j oj hoj hj => hs' j oj hoj ((hset j).2 (.inr hj)))
      have hub : ∀ j, j < ops.size → c j = true → i ∈ clo ops 6 (edgesOf ops j) → vs.length ≤ numC c j := fun j hj hcj hij => by
        have hnj : ¬ listed.getD j false = true := fun hlj => by
          have h3 := clo_listed (listed := fun j => listed.getD j false = true) hcl 6 (edgesOf ops j) (fun k hk => hcl j hlj k hk) i hij
          rw [h1] at h3
          cases h3
        rw [hvl]
        have := cntC_le (c := c) (listed := listed) (j := j) ops.size (fun k hk hck hlk => by
          by_cases e : k = j
          · subst e; exact absurd hlk hnj
          · by_cases e2 : k < j
            · exact e2
            · exact absurd (clo_listed (listed := fun j => listed.getD j false = true) hcl 6 (edgesOf ops k) (fun q hq => hcl k hlk q hq) j (LC j k hcj hck (by omega) hk)) hnj)
        rwa [Nat.min_eq_right (by omega)] at this
      have hst := hstep i o ho hpi vs a u hI.rel hI.st hnum hub (fun j oj d hj hcj hoj hd' => by
        obtain ⟨e, he, hb, rfl⟩ := hj
        exact hI.told e.on oj d (hedge e he hb) hcj hoj hd') (fun s hs' => hI.off s (fun j oj hoj hj => hs' j oj hoj (hl j (Array.getElem?_eq_some_iff.1 hoj).1 hj))) (fun e he hb oj d' hoj hd' => hI.val e.on oj d' hoj (hedge e he hb) hd')
      unfold wpOp
      rw [ho]
      simp only
      rcases hst with ⟨hw, hst⟩ | ⟨hw, hst, hst2, hst3⟩
      · rw [if_pos hw]
        exact .inl (Oper.wp_mono hgo hst)
      · rw [if_neg (by rw [hw]; exact Bool.false_ne_true)]
        exact hgo _ _ ⟨undef, rfl, hst, hst2, hst3⟩

/-- the region, whose last ones (not of p) stay to be walked -/
theorem wp_region_looseS {P : Program} {id : Nat} {ops : Array Oper} {Q : Exit → Act → World → Prop} {p : Nat → Bool} {V : Nat → World → Value → Prop} {R : World → World → Prop} {W : List Value → World → Prop} {c : Nat → Bool} {w : World} {a0 : Act} {LP : Array Bool} {K N : Nat} (hm : P.follows .mixedOrders = true) (hB : looseSB ops p a0.tmps.size = true)
    (hC : chainB ops c = true) (hR0 : R w w.drew) (hW0 : W [] w.drew) (tr : ∀ x y z, R x y → R y z → R x z) (stable : ∀ i u u' v, R u u' → V i u v → V i u' v)
    (hstep : ∀ (i : Nat) (o : Oper), ops[i]? = some o → p i = true → ∀ vs a u, R w u → W vs u → (c i = true → vs.length = numC c i) → (∀ j, j < ops.size → c j = true → i ∈ clo ops 6 (edgesOf ops j) → vs.length ≤ numC c j) → Told ops c vs a (fun j => ∃ e ∈ o.after, Region.binds .any e = true ∧ e.on = j) →
      (∀ s, (∀ (j : Nat) (oj : Oper), ops[j]? = some oj → p j = true → oj.dst ≠ some s) → a.tmps.getD s undef = a0.tmps.getD s undef) →
      (∀ e ∈ o.after, Region.binds .any e = true → ∀ (oj : Oper) (d : Nat), ops[e.on]? = some oj → oj.dst = some d → V e.on u (a.tmps.getD d undef)) →
      LS P ops Q V R W vs (c i) i o a u)
    (hLs : LP.size = ops.size) (hLP : ∀ i, i < ops.size → LP.getD i false = p i) (hK : cntU ops.size LP = K) (hN : cntC c ops.size LP = N)
    (hend : ∀ vs a u, vs.length = N → LInvS ops V R W c vs w a0 (fun i => p i = true) a u → wpAny P .any ops Q K LP a u) : (Code.region id ops true).wp P Q a0 w := by
  refine wp_region_any hm ?_
  refine wpAny_looseS (looseSB_spec hB) stable tr (chainB_spec hC) hstep hLs hLP (fun vs a u hv h => by rw [hK]; rw [hN] at hv; exact hend vs a u hv h) ops.size _ [] a0 _ (by simp) (cntC_zero _ _ _).symm ?_ (fun i hi h => ?_) (fun i h => ?_) ⟨hR0, hW0, fun j oj d hj => ?_, fun i o d ho h => ?_, fun _ _ => rfl, rfl, rfl⟩
  · have : ∀ n, cntU n (Array.replicate ops.size false) = n := fun n => by
      induction n with
      | zero => rfl
      | succ n ih => rw [cntU_succ, ih]; simp [unl, Array.getD_eq_getD_getElem?, Array.getElem?_replicate]; split <;> simp
    rw [this]
  · simp [Array.getD_eq_getD_getElem?, Array.getElem?_replicate] at h
    split at h <;> simp at h
  · simp [Array.getD_eq_getD_getElem?, Array.getElem?_replicate] at h
    split at h <;> simp at h
  · exfalso
    simp [Array.getD_eq_getD_getElem?, Array.getElem?_replicate] at hj
    split at hj <;> simp at hj
  · simp [Array.getD_eq_getD_getElem?, Array.getElem?_replicate] at h
    split at h <;> simp at h

end Go.Proofs.YtckmdcmkjmpiaaaGreatDoor

/-
  For the law of loose regions: which operations are loose, by a list; those that stay, in their one order.
-/
namespace Go.Proofs.YtckmdcmkjmpiaaaGreatDoor
open Go Go.RowKit

def inL (l : List Nat) (i : Nat) : Bool := l.contains i

theorem pOf_spec {p : Nat → Bool} {m : Nat} {LP : Array Bool} (h : (List.range m).all (fun i => LP.getD i false == p i) = true) : ∀ i, i < m → LP.getD i false = p i := by
  intro i hi
  rw [List.all_eq_true] at h
  have := h i (List.mem_range.2 hi)
  simpa using this

theorem inL_far {l : List Nat} {n N : Nat} (h : l.all (fun x => decide (x < N)) = true) (hp : inL l (n + N) = true) : False := by
  unfold inL at hp
  rw [List.all_eq_true] at h
  have h1 : n + N ∈ l := by simpa using hp
  have := h _ h1
  simp at this
  omega

theorem atV_stR {R : World → World → Prop} {Vs : List (World → Value → Prop)} (h : ∀ V ∈ Vs, ∀ u u' v, R u u' → V u v → V u' v) : ∀ i u u' v, R u u' → atV Vs i u v → atV Vs i u' v := by
  intro i u u' v k
  unfold atV
  rw [List.getD_eq_getElem?_getD]
  cases hi : Vs[i]? with
  | none => exact fun _ => trivial
  | some V => exact h V (List.mem_of_getElem? hi) u u' v k

theorem vs_list1 {vs : List Value} (h : vs.length = 1) : ∃ r0, vs = [r0] := by
  match vs, h with
  | [r0], _ => exact ⟨r0, rfl⟩
theorem vs_list2 {vs : List Value} (h : vs.length = 2) : ∃ r0 r1, vs = [r0, r1] := by
  match vs, h with
  | [r0, r1], _ => exact ⟨r0, r1, rfl⟩
theorem vs_list3 {vs : List Value} (h : vs.length = 3) : ∃ r0 r1 r2, vs = [r0, r1, r2] := by
  match vs, h with
  | [r0, r1, r2], _ => exact ⟨r0, r1, r2, rfl⟩
theorem vs_list4 {vs : List Value} (h : vs.length = 4) : ∃ r0 r1 r2 r3, vs = [r0, r1, r2, r3] := by
  match vs, h with
  | [r0, r1, r2, r3], _ => exact ⟨r0, r1, r2, r3, rfl⟩
theorem vs_list5 {vs : List Value} (h : vs.length = 5) : ∃ r0 r1 r2 r3 r4, vs = [r0, r1, r2, r3, r4] := by
  match vs, h with
  | [r0, r1, r2, r3, r4], _ => exact ⟨r0, r1, r2, r3, r4, rfl⟩
theorem vs_list6 {vs : List Value} (h : vs.length = 6) : ∃ r0 r1 r2 r3 r4 r5, vs = [r0, r1, r2, r3, r4, r5] := by
  match vs, h with
  | [r0, r1, r2, r3, r4, r5], _ => exact ⟨r0, r1, r2, r3, r4, r5, rfl⟩
theorem eval_at {a : Act} {x : Nat} {v : Value} (h : a.tmps[x]?.getD undef = v) : a.eval (.tmp x) = v := by
  simpa [Act.eval] using h

/-- an element is appended, at an operation -/
theorem op_append1 {P : Program} {w : World} {o : Oper} {a : Act} {post : Act → World → Prop} {Q : Exit → Act → World → Prop} (s x : Operand) (t e : TypeId)
    (ho : o.op = .call { callee := .builtin .append, args := #[s, x], argTypes := #[t, t] }) {z : Value} {bytes : Nat}
    (ht : P.underlying t = some (.slice e)) (hI : (P.info? e).map (fun i => (i.zero, i.size, i.bytes)) = some (some z, 1, bytes)) (hzs : z.cells.size = 1)
    {base : Nat} {v : Value} {cs : List Value} (hown : Own w base e v cs) (hs : a.eval s = v) (ad : Addr) (u : Value) (hx : a.eval x = .slice (some ad) 1 1) (hnew : w.cell? ad = some u) (h1 : u.oneCell' = true)
    (hbytes : (cs.length + 1) * bytes ≤ 140737488355328) (hm : cs.length + 1 ≤ maxLen) (hbase : base ≤ w.heap.size)
    (h : ∀ v' w', Own w' base e v' (cs ++ [u]) → w.grownBy w' v.ownBlock → post (a.put o.dst v') w') : o.wp P a w post Q := by
  obtain ⟨i0, hi, hz0, hz1, hz2⟩ := info_parts hI
  obtain ⟨v', w', hr, h2, h3, h4, h5⟩ := run_append_own_at (P := P) w base t o.type e i0 z 1 bytes ht hi hz0 hz1 hz2 hzs (by decide) v cs.length cs hown ad 1 1 [u] rfl (by
    intro j u' hj
    match j, hj with
    | 0, hj =>
      have : ad.add 0 = ad := by unfold Addr.add; split <;> simp_all
      simp at hj
      rw [this, ← hj]; exact hnew) (by intro u' hu; simp at hu; subst hu; exact h1) hm hbytes hbase
  unfold Oper.wp execOp
  simp only [ho, resolve, invoke, builtin, Sem.run_bind, Sem.run_pure, Result.andThen_ok, List.map_toArray, List.map_cons, List.map_nil, hs, hx, hr]
  exact h v' w' (by unfold Own; rw [List.length_append]; exact h2) h3

end Go.Proofs.YtckmdcmkjmpiaaaGreatDoor

/-
  Nine cells, set one by one. (Out of XAsciiRead.)
-/
namespace Go.Proofs.YtckmdcmkjmpiaaaGreatDoor
open Go.RowKit

/-- nine cells, set one by one -/
def set9 (w : World) (b : Nat) (y0 y1 y2 y3 y4 y5 y6 y7 y8 : Value) : World :=
  ((((((((w.setCell ⟨b, 0, none⟩ y0).setCell ⟨b, 1, none⟩ y1).setCell ⟨b, 2, none⟩ y2).setCell ⟨b, 3, none⟩ y3).setCell ⟨b, 4, none⟩ y4).setCell ⟨b, 5, none⟩ y5).setCell ⟨b, 6, none⟩ y6).setCell ⟨b, 7, none⟩ y7).setCell ⟨b, 8, none⟩ y8

theorem Blk.set9 {w : World} {b : Nat} {x0 x1 x2 x3 x4 x5 x6 x7 x8 : Value} {t : TypeId} (h : Blk w b #[x0, x1, x2, x3, x4, x5, x6, x7, x8] t) (y0 y1 y2 y3 y4 y5 y6 y7 y8 : Value) :
    Blk (set9 w b y0 y1 y2 y3 y4 y5 y6 y7 y8) b #[y0, y1, y2, y3, y4, y5, y6, y7, y8] t := by
  have h7 := ((((((((h.set_same 0 y0).set_same 1 y1).set_same 2 y2).set_same 3 y3).set_same 4 y4).set_same 5 y5).set_same 6 y6).set_same 7 y7).set_same 8 y8
  unfold Go.Proofs.YtckmdcmkjmpiaaaGreatDoor.set9
  simpa only [List.setIfInBounds_toArray, List.set_cons_zero, List.set_cons_succ] using h7

theorem Kp.set9 (w : World) (b : Nat) (y0 y1 y2 y3 y4 y5 y6 y7 y8 : Value) : Kp (fun j => j = b) w (set9 w b y0 y1 y2 y3 y4 y5 y6 y7 y8) :=
  (((((((((Kp.refl (fun j => j = b) w).setCell (p := ⟨b, 0, none⟩) (fun _ => rfl) y0).setCell (p := ⟨b, 1, none⟩) (fun _ => rfl) y1).setCell (p := ⟨b, 2, none⟩) (fun _ => rfl) y2).setCell (p := ⟨b, 3, none⟩) (fun _ => rfl) y3).setCell (p := ⟨b, 4, none⟩) (fun _ => rfl) y4).setCell (p := ⟨b, 5, none⟩) (fun _ => rfl) y5).setCell (p := ⟨b, 6, none⟩) (fun _ => rfl) y6).setCell (p := ⟨b, 7, none⟩) (fun _ => rfl) y7).setCell (p := ⟨b, 8, none⟩) (fun _ => rfl) y8


end Go.Proofs.YtckmdcmkjmpiaaaGreatDoor

/-
  What binary.circuit reads, plainly. (Printed by mkbincirc.py.)
-/
namespace Go.Proofs.YtckmdcmkjmpiaaaGreatDoor
open Go.RowKit

def rdLatsP (s : ByteArray) (top : Int) (I : Nat) : Nat → Nat → List (Int × Int × Int) → Nat × Nat → List (Int × Int × Int) × Nat × Nat
  | 0, _, L, st => (L, st)
  | j + 1, k, L, st =>
    let d := rdD s top st
    let g := rdS s (fun c => c == 32 || c == 10) d.2
    if g.1 = 32 then
      let r := rdD s top g.2
      let q := rdS s (fun c => c == 10) r.2
      rdLatsP s top I j (k + 1) (L ++ [(2 * ((I + k : Nat) : Int) + 2, (d.1 : Int), (r.1 : Int))]) q.2
    else if g.1 = 0 then (L, g.2)
    else rdLatsP s top I j (k + 1) (L ++ [(2 * ((I + k : Nat) : Int) + 2, (d.1 : Int), 0)]) g.2
def rdGatesP (s : ByteArray) (I : Nat) : Nat → Nat → List (Int × Int × Int) → Nat × Nat → List (Int × Int × Int) × Nat × Nat
  | 0, _, L, st => (L, st)
  | j + 1, k, L, st =>
    let lit : Int := 2 * ((I + k : Nat) : Int) + 2
    let d := rdG s 1 lit st
    let e := rdG s 0 (lit - d.1) d.2
    if e.2.2 ≠ 0 then (L, e.2) else rdGatesP s I j (k + 1) (L ++ [(lit, lit - d.1, lit - d.1 - e.1)]) e.2
theorem getR_end {s : ByteArray} {p : Nat} : ∀ (r k a : Nat), p + k ≤ s.size → (getR s p r k a).2.2 = 0 → (getR s p r k a).2.1 ≤ s.size
  | 0, k, a, _, h => by simp [getR] at h
  | r + 1, k, a, hk, h => by
    unfold getR at h ⊢
    by_cases c1 : p + k = s.size
    · rw [if_pos c1] at h; simp at h
    rw [if_neg c1] at h ⊢
    by_cases c2 : k = 4 ∧ 15 < bt s (p + k)
    · rw [if_pos c2] at h; simp at h
    rw [if_neg c2] at h ⊢
    by_cases c3 : 0 < k ∧ bt s (p + k) = 0
    · rw [if_pos c3] at h; simp at h
    rw [if_neg c3] at h ⊢
    by_cases c4 : bt s (p + k) < 128
    · rw [if_pos c4]
      show p + k + 1 ≤ _
      omega
    · rw [if_neg c4] at h ⊢
      exact getR_end r (k + 1) _ (by omega) h
theorem getN_end {s : ByteArray} {p : Nat} (hp : p ≤ s.size) (h : (getN s p).2.2 = 0) : (getN s p).2.1 ≤ s.size := by
  unfold getN at h ⊢
  exact getR_end 5 0 0 (by omega) h
theorem rdLatsP_succ (s : ByteArray) (top : Int) (I j k : Nat) (L : List (Int × Int × Int)) (st : Nat × Nat) : rdLatsP s top I (j + 1) k L st =
    if (rdS s (fun c => c == 32 || c == 10) (rdD s top st).2).1 = 32 then rdLatsP s top I j (k + 1) (L ++ [(2 * ((I + k : Nat) : Int) + 2, ((rdD s top st).1 : Int), ((rdD s top (rdS s (fun c => c == 32 || c == 10) (rdD s top st).2).2).1 : Int))]) (rdS s (fun c => c == 10) (rdD s top (rdS s (fun c => c == 32 || c == 10) (rdD s top st).2).2).2).2
    else if (rdS s (fun c => c == 32 || c == 10) (rdD s top st).2).1 = 0 then (L, (rdS s (fun c => c == 32 || c == 10) (rdD s top st).2).2)
    else rdLatsP s top I j (k + 1) (L ++ [(2 * ((I + k : Nat) : Int) + 2, ((rdD s top st).1 : Int), 0)]) (rdS s (fun c => c == 32 || c == 10) (rdD s top st).2).2 := rfl
theorem rdGatesP_succ (s : ByteArray) (I j k : Nat) (L : List (Int × Int × Int)) (st : Nat × Nat) : rdGatesP s I (j + 1) k L st =
    if (rdG s 0 (2 * ((I + k : Nat) : Int) + 2 - (rdG s 1 (2 * ((I + k : Nat) : Int) + 2) st).1) (rdG s 1 (2 * ((I + k : Nat) : Int) + 2) st).2).2.2 ≠ 0 then (L, (rdG s 0 (2 * ((I + k : Nat) : Int) + 2 - (rdG s 1 (2 * ((I + k : Nat) : Int) + 2) st).1) (rdG s 1 (2 * ((I + k : Nat) : Int) + 2) st).2).2)
    else rdGatesP s I j (k + 1) (L ++ [(2 * ((I + k : Nat) : Int) + 2, 2 * ((I + k : Nat) : Int) + 2 - (rdG s 1 (2 * ((I + k : Nat) : Int) + 2) st).1, 2 * ((I + k : Nat) : Int) + 2 - (rdG s 1 (2 * ((I + k : Nat) : Int) + 2) st).1 - (rdG s 0 (2 * ((I + k : Nat) : Int) + 2 - (rdG s 1 (2 * ((I + k : Nat) : Int) + 2) st).1) (rdG s 1 (2 * ((I + k : Nat) : Int) + 2) st).2).1)]) (rdG s 0 (2 * ((I + k : Nat) : Int) + 2 - (rdG s 1 (2 * ((I + k : Nat) : Int) + 2) st).1) (rdG s 1 (2 * ((I + k : Nat) : Int) + 2) st).2).2 := rfl
theorem rdD_stay {s : ByteArray} {top : Int} {st : Nat × Nat} (h : st.2 ≠ 0) : rdD s top st = (0, st) := by unfold rdD; rw [if_pos h]
theorem rdS_stay {s : ByteArray} {ok : Nat → Bool} {st : Nat × Nat} (h : st.2 ≠ 0) : rdS s ok st = (0, st) := by unfold rdS; rw [if_pos h]
theorem rdG_stay {s : ByteArray} {least top : Int} {st : Nat × Nat} (h : st.2 ≠ 0) : rdG s least top st = (0, st) := by unfold rdG; rw [if_pos h]
theorem rdLits_stay {s : ByteArray} {top : Int} {m : Nat} {L : List Int} {st : Nat × Nat} (h : st.2 ≠ 0) : (rdLits s top m L st).2 = st := by
  cases m with
  | zero => rfl
  | succ m =>
    unfold rdLits
    rw [rdD_stay h]
    simp only
    rw [rdS_stay h]
    simp
theorem rdGatesP_stay {s : ByteArray} {I m k : Nat} {L : List (Int × Int × Int)} {st : Nat × Nat} (h : st.2 ≠ 0) : (rdGatesP s I m k L st).2 = st := by
  cases m with
  | zero => rfl
  | succ m =>
    rw [rdGatesP_succ, rdG_stay h]
    simp only
    rw [rdG_stay h]
    simp only
    rw [if_pos h]
theorem rdG_le {s : ByteArray} {least top : Int} {st : Nat × Nat} (h : st.1 ≤ s.size) (ht : 0 ≤ top) : (rdG s least top st).2.1 ≤ s.size ∧ ((rdG s least top st).1 : Int) ≤ top := by
  unfold rdG
  by_cases c1 : st.2 ≠ 0
  · rw [if_pos c1]; exact ⟨h, by simpa using ht⟩
  rw [if_neg c1]
  by_cases c2 : (getN s st.1).2.2 ≠ 0
  · rw [if_pos c2]; exact ⟨h, by simpa using ht⟩
  rw [if_neg c2]
  by_cases c3 : ((getN s st.1).1 : Int) < least ∨ top < ((getN s st.1).1 : Int)
  · rw [if_pos c3]; exact ⟨h, by simpa using ht⟩
  rw [if_neg c3]
  exact ⟨getN_end h (by simpa using c2), by show ((getN s st.1).1 : Int) ≤ top; omega⟩
theorem rdLits_le {s : ByteArray} {top : Int} : ∀ {m : Nat} {L : List Int} {st : Nat × Nat}, st.1 ≤ s.size → (rdLits s top m L st).2.1 ≤ s.size
  | 0, L, st, h => h
  | m + 1, L, st, h => by
    unfold rdLits
    have h2 := rdS_le (s := s) (ok := fun c => c == 10) (st := (rdD s top st).2) (rdD_le (top := top) h)
    split
    · exact h2
    · exact rdLits_le h2
theorem rdS_zero {s : ByteArray} {ok : Nat → Bool} {st : Nat × Nat} {p e : Nat} (h0 : ok 0 = false) (h : rdS s ok st = (0, p, e)) : e ≠ 0 := by
  unfold rdS at h
  by_cases c1 : st.2 ≠ 0
  · rw [if_pos c1] at h
    have : st = (p, e) := by simpa using h
    rw [this] at c1
    exact c1
  rw [if_neg c1] at h
  by_cases c2 : st.1 = s.size
  · rw [if_pos c2] at h
    simp at h; omega
  rw [if_neg c2] at h
  by_cases c3 : ok (bt s st.1) = false
  · rw [if_pos c3] at h
    simp at h; omega
  rw [if_neg c3] at h
  simp only [Prod.mk.injEq] at h
  rw [h.1, h0] at c3
  exact absurd rfl c3
def insP (n : Nat) : List Int := (List.range n).map (fun k : Nat => 2 * (k : Int) + 2)
def rdC (s : ByteArray) (M : Int) (nI nL nO nA nB nC : Nat) (st : Nat × Nat) : Circ × Nat × Nat :=
  let l := rdLatsP s (2 * M + 1) nI nL 0 [] st
  let o := rdLits s (2 * M + 1) nO [] l.2
  let d := rdLits s (2 * M + 1) nB [] o.2
  let n := rdLits s (2 * M + 1) nC [] d.2
  let g := rdGatesP s (nI + nL) nA 0 [] n.2
  (⟨M, insP nI, l.1, o.1, d.1, n.1, g.1⟩, g.2)

/-- what is so before, between and behind two calls -/
def WG (P0 P1 P2 : World → Prop) : List Value → World → Prop
  | [], u => P0 u
  | [_], u => P1 u
  | [_, _], u => P2 u
  | _, _ => False
theorem WG_all {P0 P1 P2 : World → Prop} {X : Prop} {u : World} (h0 : P0 u → X) (h1 : P1 u → X) (h2 : P2 u → X) : ∀ {vs : List Value}, WG P0 P1 P2 vs u → X
  | [], h => h0 h
  | [_], h => h1 h
  | [_, _], h => h2 h
  | _ :: _ :: _ :: _, h => h.elim

/-- region 18 of circuit: what is so after some of its steps -/
def WO (w : World) (b hb rb cb nb B : Nat) (s : ByteArray) (hd : Array Value) (t : Nat × Nat) (o1 o2 o3 : List Int × Nat × Nat) (M n0 : Int) (vI vL : Value) (I : List Int) (L : List (Int × Int × Int)) : List Value → World → Prop
  | [], u => BC w u b hb rb cb nb B s hd t M n0 vI vL (.slice none 0 0) (.slice none 0 0) (.slice none 0 0) (.slice none 0 0) I L [] [] [] []
  | [r0], u => Own u B 3 r0 (iv o1.1) ∧ BC w u b hb rb cb nb B s hd o1.2 M n0 vI vL (.slice none 0 0) (.slice none 0 0) (.slice none 0 0) (.slice none 0 0) I L [] [] [] []
  | [r0, r1], u => Own u B 3 r0 (iv o1.1) ∧ Own u B 3 r1 (iv o2.1) ∧ BC w u b hb rb cb nb B s hd o2.2 M n0 vI vL (.slice none 0 0) (.slice none 0 0) (.slice none 0 0) (.slice none 0 0) I L [] [] [] []
  | [r0, r1, r2], u => Own u B 3 r0 (iv o1.1) ∧ Own u B 3 r1 (iv o2.1) ∧ Own u B 3 r2 (iv o3.1) ∧ BC w u b hb rb cb nb B s hd o3.2 M n0 vI vL (.slice none 0 0) (.slice none 0 0) (.slice none 0 0) (.slice none 0 0) I L [] [] [] []
  | [r0, r1, r2, _], u => Own u B 3 r1 (iv o2.1) ∧ Own u B 3 r2 (iv o3.1) ∧ BC w u b hb rb cb nb B s hd o3.2 M n0 vI vL r0 (.slice none 0 0) (.slice none 0 0) (.slice none 0 0) I L o1.1 [] [] []
  | [r0, r1, r2, _, _], u => Own u B 3 r2 (iv o3.1) ∧ BC w u b hb rb cb nb B s hd o3.2 M n0 vI vL r0 r1 (.slice none 0 0) (.slice none 0 0) I L o1.1 o2.1 [] []
  | [r0, r1, r2, _, _, _], u => BC w u b hb rb cb nb B s hd o3.2 M n0 vI vL r0 r1 r2 (.slice none 0 0) I L o1.1 o2.1 o3.1 []
  | _, _ => False
theorem WO_h {w u : World} {b hb rb cb nb B : Nat} {s : ByteArray} {hd : Array Value} {t : Nat × Nat} {o1 o2 o3 : List Int × Nat × Nat} {M n0 : Int} {vI vL : Value} {I : List Int} {L : List (Int × Int × Int)} : ∀ {vs : List Value}, WO w b hb rb cb nb B s hd t o1 o2 o3 M n0 vI vL I L vs u → Blk u hb hd 42
  | [], h => h.h
  | [_], h => h.2.h
  | [_, _], h => h.2.2.h
  | [_, _, _], h => h.2.2.2.h
  | [_, _, _, _], h => h.2.2.h
  | [_, _, _, _, _], h => h.2.h
  | [_, _, _, _, _, _], h => h.h
  | _ :: _ :: _ :: _ :: _ :: _ :: _ :: _, h => h.elim

theorem rdC_stop {s : ByteArray} {M : Int} {nI nL nO nA nB nC : Nat} {st t : Nat × Nat} (h : (rdLatsP s (2 * M + 1) nI nL 0 [] st).2 = t) (ht : t.2 ≠ 0) : (rdC s M nI nL nO nA nB nC st).2 = t := by
  unfold rdC
  simp only [h]
  rw [rdLits_stay (st := t) ht, rdLits_stay (st := t) ht, rdLits_stay (st := t) ht, rdGatesP_stay ht]

theorem rdC_fin {s : ByteArray} {M : Int} {nI nL nO nA nB nC : Nat} {st t t2 : Nat × Nat} {L G : List (Int × Int × Int)} {o1 o2 o3 : List Int × Nat × Nat} (hl : rdLatsP s (2 * M + 1) nI nL 0 [] st = (L, t)) (h1 : rdLits s (2 * M + 1) nO [] t = o1) (h2 : rdLits s (2 * M + 1) nB [] o1.2 = o2) (h3 : rdLits s (2 * M + 1) nC [] o2.2 = o3) (hg : rdGatesP s (nI + nL) nA 0 [] o3.2 = (G, t2)) :
    rdC s M nI nL nO nA nB nC st = (⟨M, insP nI, L, o1.1, o2.1, o3.1, G⟩, t2) := by
  unfold rdC
  simp only [hl, h1, h2, h3, hg]

/-- a circuit that no store into older memory spoils -/
def BKeep (B : Nat) (w : World) (V : CV) (C : Circ) : Prop := ∀ (S : Nat → Prop) (w2 : World), (∀ j, S j → j < B ∨ w.heap.size ≤ j) → Kp S w w2 → CAt w2 V C
theorem RowAt.late {u u' : World} {a : Option Addr} {cs : List Value} {B : Nat} {S : Nat → Prop} (h : RowAt u a cs) (hb : ∀ p, a = some p → B ≤ p.block) (hS : ∀ j, S j → j < B ∨ u.heap.size ≤ j) (k : Kp S u u') : RowAt u' a cs := by
  intro j x hx
  obtain ⟨b, off, rfl, hc⟩ := h j x hx
  have hlt : b < u.heap.size := World.block_lt_of_cell? u _ hc
  have h2 : B ≤ b := hb _ rfl
  exact ⟨b, off, rfl, (World.cell?_of_block (w := u) (w' := u') (a := ⟨b, off + j, none⟩) (k.block b hlt (fun hs => by have := hS b hs; omega))).trans hc⟩
theorem rdC_keep {u : World} {B : Nat} {M : Int} {I O D N : List Int} {L G : List (Int × Int × Int)} {ia la oa da na ga : Option Addr} {ic lc oc dc nc gc : Nat}
    (h : (∃ a cap, Value.slice ia I.length ic = .slice a (iv I).length cap ∧ (iv I).length ≤ cap ∧ cap ≤ maxLen ∧ (a = none → cap = 0) ∧ (∀ p, a = some p → B ≤ p.block) ∧ RowAt u a (iv I)) ∧
      (∃ a cap, Value.slice la L.length lc = .slice a (L.map tri).length cap ∧ (L.map tri).length ≤ cap ∧ cap ≤ maxLen ∧ (a = none → cap = 0) ∧ (∀ p, a = some p → ∃ g, p = ⟨g, 0, none⟩ ∧ B ≤ g ∧ g < u.heap.size) ∧ RowAt u a (L.map tri).flatten) ∧
      (∃ a cap, Value.slice oa O.length oc = .slice a (iv O).length cap ∧ (iv O).length ≤ cap ∧ cap ≤ maxLen ∧ (a = none → cap = 0) ∧ (∀ p, a = some p → B ≤ p.block) ∧ RowAt u a (iv O)) ∧
      (∃ a cap, Value.slice da D.length dc = .slice a (iv D).length cap ∧ (iv D).length ≤ cap ∧ cap ≤ maxLen ∧ (a = none → cap = 0) ∧ (∀ p, a = some p → B ≤ p.block) ∧ RowAt u a (iv D)) ∧
      (∃ a cap, Value.slice na N.length nc = .slice a (iv N).length cap ∧ (iv N).length ≤ cap ∧ cap ≤ maxLen ∧ (a = none → cap = 0) ∧ (∀ p, a = some p → B ≤ p.block) ∧ RowAt u a (iv N)) ∧
      (∃ a cap, Value.slice ga G.length gc = .slice a (G.map tri).length cap ∧ (G.map tri).length ≤ cap ∧ cap ≤ maxLen ∧ (a = none → cap = 0) ∧ (∀ p, a = some p → ∃ g, p = ⟨g, 0, none⟩ ∧ B ≤ g ∧ g < u.heap.size) ∧ RowAt u a (G.map tri).flatten)) :
    BKeep B u ⟨ia, ic, la, lc, oa, oc, da, dc, na, nc, ga, gc, none, 0, 0, ⟨#[]⟩⟩ ⟨M, I, L, O, D, N, G⟩ := by
  obtain ⟨⟨a1, c1, e1, q1, m1, n1, p1, r1⟩, ⟨a2, c2, e2, q2, m2, n2, p2, r2⟩, ⟨a3, c3, e3, q3, m3, n3, p3, r3⟩, ⟨a4, c4, e4, q4, m4, n4, p4, r4⟩, ⟨a5, c5, e5, q5, m5, n5, p5, r5⟩, ⟨a6, c6, e6, q6, m6, n6, p6, r6⟩⟩ := h
  simp only [Value.slice.injEq] at e1 e2 e3 e4 e5 e6
  obtain ⟨rfl, -, rfl⟩ := e1
  obtain ⟨rfl, -, rfl⟩ := e2
  obtain ⟨rfl, -, rfl⟩ := e3
  obtain ⟨rfl, -, rfl⟩ := e4
  obtain ⟨rfl, -, rfl⟩ := e5
  obtain ⟨rfl, -, rfl⟩ := e6
  rw [iv_length] at q1 q3 q4 q5
  rw [List.length_map] at q2 q6
  intro S w2 hS k
  have low : ∀ {a : Option Addr}, (∀ p, a = some p → ∃ g, p = ⟨g, 0, none⟩ ∧ B ≤ g ∧ g < u.heap.size) → ∀ p, a = some p → B ≤ p.block := fun h p hp => by
    obtain ⟨g, rfl, hg, -⟩ := h p hp
    exact hg
  exact ⟨r1.late p1 hS k, r2.late (low p2) hS k, r3.late p3 hS k, r4.late p4 hS k, r5.late p5 hS k, r6.late (low p6) hS k, ⟨[], RowAt.nil _ _, rfl, (fun r h => by cases h), (fun r h => by cases h)⟩, ⟨q1, m1, n1⟩, ⟨q2, m2, n2⟩, ⟨q3, m3, n3⟩, ⟨q4, m4, n4⟩, ⟨q5, m5, n5⟩, ⟨q6, m6, n6⟩, ⟨Nat.le_refl _, by simp [maxLen], fun _ => rfl⟩⟩

/-- region 5 of circuit: what is so after some of its steps -/
def WI (w : World) (b hb rb cb nb B : Nat) (s : ByteArray) (hd : Array Value) (st : Nat × Nat) (M n0 : Int) (vI : Value) (I : List Int) : List Value → World → Prop
  | [], u => BC w u b hb rb cb nb B s hd st M n0 vI (.slice none 0 0) (.slice none 0 0) (.slice none 0 0) (.slice none 0 0) (.slice none 0 0) I [] [] [] [] []
  | [r0], u => r0 = .int .i64 (n0 + 2) ∧ BC w u b hb rb cb nb B s hd st M (n0 + 2) vI (.slice none 0 0) (.slice none 0 0) (.slice none 0 0) (.slice none 0 0) (.slice none 0 0) I [] [] [] [] []
  | [_, r1], u => (∃ g, r1 = .slice (some ⟨g, 0, none⟩) 1 1 ∧ u.cell? ⟨g, 0, none⟩ = some (.int .i64 (n0 + 2))) ∧ BC w u b hb rb cb nb B s hd st M (n0 + 2) vI (.slice none 0 0) (.slice none 0 0) (.slice none 0 0) (.slice none 0 0) (.slice none 0 0) I [] [] [] [] []
  | [_, _, r2], u => ∃ u0, BC w u0 b hb rb cb nb B s hd st M (n0 + 2) vI (.slice none 0 0) (.slice none 0 0) (.slice none 0 0) (.slice none 0 0) (.slice none 0 0) I [] [] [] [] [] ∧ Kp (fun j => vI.ownBlock = some j) u0 u ∧ Own u B 3 r2 (iv (I ++ [n0 + 2]))
  | [_, _, r2, _], u => BC w u b hb rb cb nb B s hd st M (n0 + 2) r2 (.slice none 0 0) (.slice none 0 0) (.slice none 0 0) (.slice none 0 0) (.slice none 0 0) (I ++ [n0 + 2]) [] [] [] [] []
  | _, _ => False
theorem WI_load {w u : World} {b hb rb cb nb B : Nat} {s : ByteArray} {hd : Array Value} {st : Nat × Nat} {M n0 : Int} {vI : Value} {I : List Int} : ∀ {vs : List Value}, WI w b hb rb cb nb B s hd st M n0 vI I vs u → vs.length ≤ 2 → u.cell? ⟨cb, 1, none⟩ = some vI
  | [], h, _ => h.c.cell rfl
  | [_], h, _ => h.2.c.cell rfl
  | [_, _], h, _ => h.2.c.cell rfl
  | _ :: _ :: _ :: _, _, h => by simp at h

end Go.Proofs.YtckmdcmkjmpiaaaGreatDoor

/-
  A circuit's lines in letters: what is read of them, plainly.
-/
namespace Go.Proofs.YtckmdcmkjmpiaaaGreatDoor
open Go.RowKit

/-- a literal and the sign behind it; where the reader is then -/
def rdL (s : ByteArray) (top : Int) (ok : Nat → Bool) (st : Nat × Nat) : Nat × Nat × Nat × Nat := ((rdD s top st).1, rdS s ok (rdD s top st).2)

def ok32 : Nat → Bool := fun c => c == 32
def ok10 : Nat → Bool := fun c => c == 10
def okB : Nat → Bool := fun c => c == 32 || c == 10

def rdLatsA (s : ByteArray) (top : Int) : Nat → List (Int × Int × Int) → Nat × Nat → List (Int × Int × Int) × Nat × Nat
  | 0, L, st => (L, st)
  | j + 1, L, st =>
    if (rdL s top okB (rdL s top ok32 st).2.2).2.2.2 ≠ 0 then ([], (rdL s top okB (rdL s top ok32 st).2.2).2.2)
    else if (rdL s top okB (rdL s top ok32 st).2.2).2.1 = 32 then
      if (rdL s top ok10 (rdL s top okB (rdL s top ok32 st).2.2).2.2).2.2.2 ≠ 0 then ([], (rdL s top ok10 (rdL s top okB (rdL s top ok32 st).2.2).2.2).2.2)
      else rdLatsA s top j (L ++ [(((rdL s top ok32 st).1 : Int), ((rdL s top okB (rdL s top ok32 st).2.2).1 : Int), ((rdL s top ok10 (rdL s top okB (rdL s top ok32 st).2.2).2.2).1 : Int))]) (rdL s top ok10 (rdL s top okB (rdL s top ok32 st).2.2).2.2).2.2
    else rdLatsA s top j (L ++ [(((rdL s top ok32 st).1 : Int), ((rdL s top okB (rdL s top ok32 st).2.2).1 : Int), 0)]) (rdL s top okB (rdL s top ok32 st).2.2).2.2
def rdGatesA (s : ByteArray) (top : Int) : Nat → List (Int × Int × Int) → Nat × Nat → List (Int × Int × Int) × Nat × Nat
  | 0, L, st => (L, st)
  | j + 1, L, st =>
    if (rdL s top ok10 (rdL s top ok32 (rdL s top ok32 st).2.2).2.2).2.2.2 ≠ 0 then ([], (rdL s top ok10 (rdL s top ok32 (rdL s top ok32 st).2.2).2.2).2.2)
    else rdGatesA s top j (L ++ [(((rdL s top ok32 st).1 : Int), ((rdL s top ok32 (rdL s top ok32 st).2.2).1 : Int), ((rdL s top ok10 (rdL s top ok32 (rdL s top ok32 st).2.2).2.2).1 : Int))]) (rdL s top ok10 (rdL s top ok32 (rdL s top ok32 st).2.2).2.2).2.2
/-- the circuit of lines in letters -/
def rdA (s : ByteArray) (M : Int) (nI nL nO nA nB nC : Nat) (st : Nat × Nat) : Circ × Nat × Nat :=
  let i := rdLits s (2 * M + 1) nI [] st
  let l := rdLatsA s (2 * M + 1) nL [] i.2
  let o := rdLits s (2 * M + 1) nO [] l.2
  let d := rdLits s (2 * M + 1) nB [] o.2
  let n := rdLits s (2 * M + 1) nC [] d.2
  let g := rdGatesA s (2 * M + 1) nA [] n.2
  (⟨M, i.1, l.1, o.1, d.1, n.1, g.1⟩, g.2)

section
variable {s : ByteArray} {top : Int} {ok : Nat → Bool} {st : Nat × Nat}
theorem rdL_stay (h : st.2 ≠ 0) : rdL s top ok st = (0, 0, st) := by unfold rdL; rw [rdD_stay h]; simp only; rw [rdS_stay h]
theorem rdL_le (h : st.1 ≤ s.size) : (rdL s top ok st).2.2.1 ≤ s.size := rdS_le (rdD_le h)
/-- if it goes on, all was well before -/
theorem rdL_ok (h : (rdL s top ok st).2.2.2 = 0) : st.2 = 0 := by
  by_cases h0 : st.2 = 0
  · exact h0
  · rw [rdL_stay h0] at h; exact h
theorem rdLatsA_stay {m : Nat} {L : List (Int × Int × Int)} (h : st.2 ≠ 0) : (rdLatsA s top m L st).2 = st := by
  cases m with
  | zero => rfl
  | succ m =>
    unfold rdLatsA
    rw [rdL_stay (ok := ok32) h]
    simp only
    rw [rdL_stay (ok := okB) h]
    simp only
    rw [if_pos h]
theorem rdGatesA_stay {m : Nat} {L : List (Int × Int × Int)} (h : st.2 ≠ 0) : (rdGatesA s top m L st).2 = st := by
  cases m with
  | zero => rfl
  | succ m =>
    unfold rdGatesA
    rw [rdL_stay (ok := ok32) h]
    simp only
    rw [rdL_stay (ok := ok32) h]
    simp only
    rw [rdL_stay (ok := ok10) h]
    simp only
    rw [if_pos h]
theorem rdLatsA_le : ∀ {m : Nat} {L : List (Int × Int × Int)} {st : Nat × Nat}, st.1 ≤ s.size → (rdLatsA s top m L st).2.1 ≤ s.size
  | 0, L, st, h => h
  | m + 1, L, st, h => by
    unfold rdLatsA
    have h1 := rdL_le (top := top) (ok := ok32) h
    have h2 := rdL_le (top := top) (ok := okB) h1
    have h3 := rdL_le (top := top) (ok := ok10) h2
    split
    · exact h2
    · split
      · split
        · exact h3
        · exact rdLatsA_le h3
      · exact rdLatsA_le h2
theorem rdGatesA_le : ∀ {m : Nat} {L : List (Int × Int × Int)} {st : Nat × Nat}, st.1 ≤ s.size → (rdGatesA s top m L st).2.1 ≤ s.size
  | 0, L, st, h => h
  | m + 1, L, st, h => by
    unfold rdGatesA
    have h1 := rdL_le (top := top) (ok := ok32) h
    have h2 := rdL_le (top := top) (ok := ok32) h1
    have h3 := rdL_le (top := top) (ok := ok10) h2
    split
    · exact h3
    · exact rdGatesA_le h3
/-- so many were read -/
theorem rdLits_len : ∀ {m : Nat} {L : List Int} {st : Nat × Nat}, (rdLits s top m L st).2.2 = 0 → (rdLits s top m L st).1.length = L.length + m
  | 0, L, st, h => rfl
  | m + 1, L, st, h => by
    unfold rdLits at h ⊢
    split at h
    · rename_i h2
      rw [if_pos h2]
      obtain ⟨c, p, e, hg⟩ : ∃ c p e, rdS s (fun c => c == 10) (rdD s top st).2 = (c, p, e) := ⟨_, _, _, rfl⟩
      rw [hg] at h h2
      simp only at h h2
      exfalso
      unfold rdS at hg
      by_cases c1 : (rdD s top st).2.2 ≠ 0
      · rw [if_pos c1] at hg
        rw [show (rdD s top st).2 = (p, e) from (Prod.mk.inj hg).2] at c1
        exact c1 h
      rw [if_neg c1] at hg
      by_cases c2 : (rdD s top st).2.1 = s.size
      · rw [if_pos c2] at hg; simp at hg; omega
      rw [if_neg c2] at hg
      by_cases c3 : ((fun c => c == 10) (bt s (rdD s top st).2.1)) = false
      · rw [if_pos c3] at hg; simp at hg; omega
      · rw [if_neg c3] at hg
        simp only [Prod.mk.injEq] at hg
        simp at c3
        omega
    · rename_i h2
      rw [if_neg h2, rdLits_len h]
      simp; omega
theorem rdLatsA_len : ∀ {m : Nat} {L : List (Int × Int × Int)} {st : Nat × Nat}, (rdLatsA s top m L st).2.2 = 0 → (rdLatsA s top m L st).1.length = L.length + m
  | 0, L, st, h => rfl
  | m + 1, L, st, h => by
    unfold rdLatsA at h ⊢
    by_cases c1 : (rdL s top okB (rdL s top ok32 st).2.2).2.2.2 ≠ 0
    · rw [if_pos c1] at h; exact absurd h c1
    rw [if_neg c1] at h ⊢
    by_cases c2 : (rdL s top okB (rdL s top ok32 st).2.2).2.1 = 32
    · rw [if_pos c2] at h ⊢
      by_cases c3 : (rdL s top ok10 (rdL s top okB (rdL s top ok32 st).2.2).2.2).2.2.2 ≠ 0
      · rw [if_pos c3] at h; exact absurd h c3
      rw [if_neg c3] at h ⊢
      rw [rdLatsA_len h]; simp; omega
    · rw [if_neg c2] at h ⊢
      rw [rdLatsA_len h]; simp; omega
theorem rdGatesA_len (m : Nat) : ∀ {L : List (Int × Int × Int)} {st : Nat × Nat}, (rdGatesA s top m L st).2.2 = 0 → (rdGatesA s top m L st).1.length = L.length + m := by
  induction m with
  | zero => intro L st _; unfold rdGatesA; rfl
  | succ m ih =>
    intro L st h
    unfold rdGatesA at h ⊢
    generalize rdL s top ok10 (rdL s top ok32 (rdL s top ok32 st).2.2).2.2 = r at h ⊢
    by_cases c1 : r.2.2.2 ≠ 0
    · rw [if_pos c1] at h; exact absurd h c1
    rw [if_neg c1] at h ⊢
    rw [ih h]; simp; omega
end

end Go.Proofs.YtckmdcmkjmpiaaaGreatDoor

/-
  ascii's reader: numbers and signs, one behind the other; the stop with which it panics, and what recovers it.
-/
namespace Go.Proofs.YtckmdcmkjmpiaaaGreatDoor
open Go.RowKit

theorem Blk.cells1 {w : World} {b : Nat} {x0 : Value} {t : TypeId} (h : Blk w b #[x0] t) : w.cell? ⟨b, 0, none⟩ = some x0 ∧ w.frozen? ⟨b, 0, none⟩ = false := ⟨h.cell rfl, h.free 0⟩
theorem Blk.cells2 {w : World} {b : Nat} {x0 x1 : Value} {t : TypeId} (h : Blk w b #[x0, x1] t) :
    w.cell? ⟨b, 0, none⟩ = some x0 ∧ w.cell? ⟨b, 1, none⟩ = some x1 ∧ w.frozen? ⟨b, 0, none⟩ = false ∧ w.frozen? ⟨b, 1, none⟩ = false := ⟨h.cell rfl, h.cell rfl, h.free 0, h.free 1⟩

/-- what a reader stops with: an error at a place -/
def stopV (p e : Int) : Value := .iface 122 (.agg #[.int .i64 p, .int .i64 e])

theorem ascii_fail (r : Value) (p e : Int) (w : World) :
    Calls Tryz.prog 66 #[r, .int .i64 p, .int .i64 e] w fun o w' => o = .panicked [{ v := stopV p e, recovered := false }] ∧ w = w' := by
  go_enter Tryz.func66, Tryz.ntmps66
  go_wp2
  exact ⟨rfl, rfl, rfl⟩

theorem stop_is (v : Value) (u : World) : (Instr.typeAssert (.iface 122 v) 20 122 true).run Tryz.prog u = .ok (.tuple #[v, .bool true]) u := by kernel_rfl

set_option maxRecDepth 100000 in
set_option maxHeartbeats 1000000 in
/-- a deferred stopped behind a stop: the place and the error are laid -/
theorem stopped_panicking (ba be : Nat) (p e : Int) (x y : Value) (older : List PanicEntry) (w : World) (hne : ba ≠ be) (hA : Blk w ba #[x] 3) (hE : Blk w be #[y] 28) :
    CallsD Tryz.prog 30 #[.pointer (some ⟨ba, 0, none⟩), .pointer (some ⟨be, 0, none⟩)] (.panicking ({ v := stopV p e, recovered := false } :: older)) w fun o u' w' =>
      o = .returned (.tuple #[]) ∧ u' = .panicking ({ v := stopV p e, recovered := true } :: older) ∧ Blk w' ba #[.int .i64 p] 3 ∧ Blk w' be #[.int .i64 e] 28 ∧ Kp (fun j => j = ba ∨ j = be) w w' := by
  obtain ⟨a0, fa⟩ := hA.cells1
  obtain ⟨e0, fe⟩ := hE.cells1
  have la := hA.lt
  have le := hE.lt
  have HA := Lib.hid hA
  have HE := Lib.hid hE
  clear hA hE
  refine callsD_of_wpS Tryz.func30 rfl fun c₀ cs hu => ?_
  simp only [Tryz.ntmps30, List.size_toArray, List.length_cons, List.length_nil, Nat.reduceAdd, Nat.reduceSub, Array.replicate_succ,
     Array.replicate_zero, List.push_toArray, List.append_toArray, List.nil_append, List.cons_append]
  apply wpS_seq
  apply wpS_region
  simp [wpOpsS, go_sem, recoverD, hu, Exit.thenS, stopV]
  refine wpS_of_wp ?_
  have hst := fun v u => stop_is v u
  go_wp2
  go_region
  all_goals go_wp2
  refine ⟨rfl, _, rfl, _, by simp [results, Tryz.results30], rfl, rfl, ?_, ?_, ?_⟩
  · exact (((HA.out.set_same 0 _).set_other (p := ⟨be, 0, none⟩) hne _).alloc _).drew
  · exact (((HE.out.set_other (p := ⟨ba, 0, none⟩) (fun h => hne h.symm) _).set_same 0 _).alloc _).drew
  · exact ((((Kp.refl _ w).setCell (p := ⟨ba, 0, none⟩) (fun _ => .inl rfl) _).setCell (p := ⟨be, 0, none⟩) (fun _ => .inr rfl) _).alloc _).drew

/-- a deferred stopped behind a return: nothing is turned -/
theorem stopped_idle (p q : Value) (w : World) :
    CallsD Tryz.prog 30 #[p, q] .returning w fun o u' w' => o = .returned (.tuple #[]) ∧ u' = .returning ∧ w = w' := by
  refine callsD_of_wpS Tryz.func30 rfl fun c₀ cs hu => ?_
  simp only [Tryz.ntmps30, List.size_toArray, List.length_cons, List.length_nil, Nat.reduceAdd, Nat.reduceSub, Array.replicate_succ,
     Array.replicate_zero, List.push_toArray, List.append_toArray, List.nil_append, List.cons_append]
  apply wpS_seq
  apply wpS_region
  simp [wpOpsS, go_sem, recoverD, hu, Exit.thenS]
  refine wpS_of_wp ?_
  go_wp2
  cases c₀
  simp_all [bodyPostS, results, Tryz.results30]

end Go.Proofs.YtckmdcmkjmpiaaaGreatDoor

/-
  ascii's reader: what a number and a sign compute, or with what they stop.
-/
namespace Go.Proofs.YtckmdcmkjmpiaaaGreatDoor
open Go.RowKit

/-- what is wrong with the number at a place, at most so much -/
def numE (s : ByteArray) (p top : Nat) : Nat := if (natN s p).2.2 ≠ 0 then (natN s p).2.2 else if top < (natN s p).1 then 5 else 0

/-- what a call of number ends with: n at the place q, or the stop with the error e -/
def NumP (s : ByteArray) (p b n q e : Nat) (w : World) (o : Ending) (w' : World) : Prop :=
  (e = 0 ∧ o = .returned (.int .i64 n) ∧ Kp (fun j => j = b) w w' ∧ Blk w' b #[.string s, .int .i64 q] 77) ∨
  (e ≠ 0 ∧ o = .panicked [{ v := stopV p e, recovered := false }] ∧ Kp (fun j => j = b) w w' ∧ Blk w' b #[.string s, .int .i64 p] 77)

set_option maxRecDepth 100000 in
set_option maxHeartbeats 1000000 in
theorem ascii_number (hNat : ∀ (s : ByteArray) (p : Nat) (u : World), s.size ≤ 9223372036854775000 → p ≤ s.size → Calls Tryz.prog 65 #[.string s, .int .i64 p] u fun e u' => e = .returned (tripI (natN s p)) ∧ Kp (fun _ => False) u u')
    (s : ByteArray) (p top b : Nat) (w : World) (hs : s.size ≤ 9223372036854775000) (hp : p ≤ s.size) (hB : Blk w b #[.string s, .int .i64 p] 77) :
    Calls Tryz.prog 31 #[.pointer (some ⟨b, 0, none⟩), .int .i64 top] w fun o w' =>
      NumP s p b (natN s p).1 (natN s p).2.1 (numE s p top) w o w' := by
  have HN := Lib.hid (fun u => hNat s p u hs hp)
  clear hNat
  unfold numE
  obtain ⟨n, q, e, hN⟩ : ∃ n q e, natN s p = (n, q, e) := ⟨_, _, _, rfl⟩
  rw [hN] at HN ⊢
  unfold tripI at HN
  simp only at HN ⊢
  clear hN
  obtain ⟨b0, b1, -, f1⟩ := hB.cells2
  have HB := Lib.hid hB
  clear hB
  have HKF := Lib.hid (fun (w1 : World) (h : Kp (fun _ => False) w.drew w1) => ((Kp.refl (fun j => j = b) w).drew).trans h (fun _ _ h => h.elim))
  have HKS := Lib.hid (fun (w1 : World) (h : Kp (fun _ => False) w.drew w1) (v : Value) => (((Kp.refl (fun j => j = b) w).drew).trans h (fun _ _ h => h.elim)).setCell (p := ⟨b, 1, none⟩) (fun _ => rfl) v)
  go_enter Tryz.func31, Tryz.ntmps31
  go_wp2_with fail
  go_region_with (go_at_call 65; refine (HN.out _).mono ?_; rintro o w1 ⟨rfl, hK1⟩)
  all_goals clear HN b0 b1 f1
  all_goals have HB1 := Lib.hid (HB.out.drew.kp hK1 (fun h => h))
  all_goals have HK1 := Lib.hid hK1
  all_goals clear hK1
  all_goals obtain ⟨c0, c1, -, g1⟩ := HB1.out.cells2
  all_goals by_cases he : e = 0
  all_goals try subst he
  · by_cases ht : top < n
    · have d1 : decide ((top : Int) < (n : Int)) = true := by simp; omega
      go_wp2_with fail
      refine (ascii_fail _ _ _ _).mono ?_
      rintro o w' ⟨rfl, rfl⟩
      go_wp2_with fail
      refine ⟨rfl, ?_⟩
      unfold NumP
      refine .inr ⟨?_, ?_, HKF.out _ HK1.out, HB1.out⟩
      · (first | exact he | rfl | decide | omega | (simp only [ht, he, ne_eq, not_true_eq_false, not_false_eq_true, if_true, if_false]; first | rfl | omega))
      · (first | exact he | rfl | decide | omega | (simp only [ht, he, ne_eq, not_true_eq_false, not_false_eq_true, if_true, if_false]; first | rfl | omega))
    · have d1 : decide ((top : Int) < (n : Int)) = false := by simp; omega
      go_wp2_with fail
      go_ret
      unfold NumP
      refine .inl ⟨?_, rfl, HKS.out _ HK1.out _, HB1.out.set_same 1 _⟩
      (first | exact he | rfl | decide | omega | (simp only [ht, he, ne_eq, not_true_eq_false, not_false_eq_true, if_true, if_false]; first | rfl | omega))
  · have e1 : ((e : Int) == 0) = false := by rw [beq_eq_false_iff_ne]; omega
    go_wp2_with fail
    refine (ascii_fail _ _ _ _).mono ?_
    rintro o w' ⟨rfl, rfl⟩
    go_wp2_with fail
    refine ⟨rfl, ?_⟩
    unfold NumP
    refine .inr ⟨?_, ?_, HKF.out _ HK1.out, HB1.out⟩
    · (first | exact he | rfl | decide | omega | (simp only [ht, he, ne_eq, not_true_eq_false, not_false_eq_true, if_true, if_false]; first | rfl | omega))
    · (first | exact he | rfl | decide | omega | (simp only [ht, he, ne_eq, not_true_eq_false, not_false_eq_true, if_true, if_false]; first | rfl | omega))
  · by_cases ht : top < n
    · have d1 : decide ((top : Int) < (n : Int)) = true := by simp; omega
      go_wp2_with fail
      refine (ascii_fail _ _ _ _).mono ?_
      rintro o w' ⟨rfl, rfl⟩
      go_wp2_with fail
      refine ⟨rfl, ?_⟩
      unfold NumP
      refine .inr ⟨?_, ?_, HKF.out _ HK1.out, HB1.out⟩
      · (first | exact he | rfl | decide | omega | (simp only [ht, he, ne_eq, not_true_eq_false, not_false_eq_true, if_true, if_false]; first | rfl | omega))
      · (first | exact he | rfl | decide | omega | (simp only [ht, he, ne_eq, not_true_eq_false, not_false_eq_true, if_true, if_false]; first | rfl | omega))
    · have d1 : decide ((top : Int) < (n : Int)) = false := by simp; omega
      go_wp2_with fail
      go_ret
      unfold NumP
      refine .inl ⟨?_, rfl, HKS.out _ HK1.out _, HB1.out.set_same 1 _⟩
      (first | exact he | rfl | decide | omega | (simp only [ht, he, ne_eq, not_true_eq_false, not_false_eq_true, if_true, if_false]; first | rfl | omega))
  · have e1 : ((e : Int) == 0) = false := by rw [beq_eq_false_iff_ne]; omega
    go_wp2_with fail
    refine (ascii_fail _ _ _ _).mono ?_
    rintro o w' ⟨rfl, rfl⟩
    go_wp2_with fail
    refine ⟨rfl, ?_⟩
    unfold NumP
    refine .inr ⟨?_, ?_, HKF.out _ HK1.out, HB1.out⟩
    · (first | exact he | rfl | decide | omega | (simp only [ht, he, ne_eq, not_true_eq_false, not_false_eq_true, if_true, if_false]; first | rfl | omega))
    · (first | exact he | rfl | decide | omega | (simp only [ht, he, ne_eq, not_true_eq_false, not_false_eq_true, if_true, if_false]; first | rfl | omega))

end Go.Proofs.YtckmdcmkjmpiaaaGreatDoor

/-
  ascii's reader: what a sign computes, or with what it stops.
-/
namespace Go.Proofs.YtckmdcmkjmpiaaaGreatDoor
open Go.RowKit

/-- what a call of sign ends with: the sign, if it is one of some, or the stop -/
def SignP (s : ByteArray) (p b : Nat) (ok : Bool) (w : World) (o : Ending) (w' : World) : Prop :=
  (p < s.size ∧ ok = true ∧ o = .returned (.int .u8 (bt s p)) ∧ Kp (fun j => j = b) w w' ∧ Blk w' b #[.string s, .int .i64 (p + 1 : Nat)] 77) ∨
  (p = s.size ∧ o = .panicked [{ v := stopV p 3, recovered := false }] ∧ Kp (fun j => j = b) w w' ∧ Blk w' b #[.string s, .int .i64 p] 77) ∨
  (p < s.size ∧ ok = false ∧ o = .panicked [{ v := stopV p 2, recovered := false }] ∧ Kp (fun j => j = b) w w' ∧ Blk w' b #[.string s, .int .i64 p] 77)

set_option maxRecDepth 100000 in
set_option maxHeartbeats 1000000 in
theorem ascii_sign (s some_ : ByteArray) (p b : Nat) (ok : Bool) (i : Int) (w : World) (hs : s.size ≤ 9223372036854775000) (hp : p ≤ s.size) (hok : p < s.size → decide (i < 0) = !ok)
    (hidx : ∀ u : World, p < s.size → Calls Tryz.prog 56 #[.string some_, .int .u8 (bt s p : Nat)] u fun e u' => e = .returned (.int .i64 i) ∧ u' = u)
    (hB : Blk w b #[.string s, .int .i64 p] 77) :
    Calls Tryz.prog 32 #[.pointer (some ⟨b, 0, none⟩), .string some_] w fun o w' => SignP s p b ok w o w' := by
  obtain ⟨b0, b1, -, f1⟩ := hB.cells2
  have HB := Lib.hid hB
  clear hB
  by_cases hlt : p < s.size
  · have t1 : ((p : Int) == (s.size : Int)) = false := by rw [beq_eq_false_iff_ne]; omega
    have l1 : (p : Int) < (s.size : Int) := by omega
    have hb := bt_eq hlt
    have HI := Lib.hid (fun u => hidx u hlt)
    have hok := hok hlt
    clear hidx
    generalize hBB : bt s p = B at hb HI
    have HBB := Lib.hid hBB
    clear hBB
    go_enter Tryz.func32, Tryz.ntmps32
    go_wp2_with fail
    go_region
    go_wp2_with fail
    go_region
    go_wp2_with fail
    refine (HI.out _).mono ?_
    rintro e u' ⟨rfl, rfl⟩
    cases ok with
    | true =>
      go_wp2_with fail
      go_ret
      unfold SignP
      rw [HBB.out]
      exact .inl ⟨hlt, rfl, rfl, ((((Kp.refl (fun j => j = b) w).setCell (p := ⟨b, 1, none⟩) (fun _ => rfl) _).drew).drew), ((HB.out.set_same 1 _).drew).drew⟩
    | false =>
      go_wp2_with fail
      refine (ascii_fail _ _ _ _).mono ?_
      rintro o w' ⟨rfl, rfl⟩
      go_wp2_with fail
      refine ⟨rfl, ?_⟩
      unfold SignP
      exact .inr (.inr ⟨hlt, rfl, rfl, ((Kp.refl _ w).drew).drew, HB.out.drew.drew⟩)
  · have t1 : ((p : Int) == (s.size : Int)) = true := by rw [beq_iff_eq]; omega
    clear hidx
    go_enter Tryz.func32, Tryz.ntmps32
    go_wp2_with fail
    go_region
    go_wp2_with fail
    refine (ascii_fail _ _ _ _).mono ?_
    rintro o w' ⟨rfl, rfl⟩
    go_wp2_with fail
    refine ⟨rfl, ?_⟩
    unfold SignP
    exact .inr (.inl ⟨by omega, rfl, (Kp.refl _ w).drew, HB.out.drew⟩)

end Go.Proofs.YtckmdcmkjmpiaaaGreatDoor

/-
  The head of a circuit's file in plain words: which head a text begins with, or what is wrong and where; and a head's line. No program in sight.
-/
namespace Go.Proofs.YtckmdcmkjmpiaaaGreatDoor
open Go.RowKit

/-- the next number and the sign behind it: the number, the place behind both, the error, whether the line ends -/
def stepH (s : ByteArray) (k p : Nat) : Nat × Nat × Nat × Bool :=
  if (natN s p).2.2 ≠ 0 then (0, p, (natN s p).2.2, false)
  else if (if 7 ≤ k then 0 else 16777216) < (natN s p).1 then (0, p, 5, false)
  else if (natN s p).2.1 = s.size then (0, (natN s p).2.1, 3, false)
  else if bt s (natN s p).2.1 = 10 ∧ 4 ≤ k then ((natN s p).1, (natN s p).2.1 + 1, 0, true)
  else if bt s (natN s p).2.1 = 32 ∧ k < 8 then ((natN s p).1, (natN s p).2.1 + 1, 0, false)
  else (0, (natN s p).2.1, 2, false)

/-- the numbers of the line -/
def headL (s : ByteArray) : Nat → Nat → List Nat → List Nat × Nat × Nat
  | 0, p, l => (l, p, 0)
  | f + 1, p, l =>
    if (stepH s l.length p).2.2.1 ≠ 0 then ([], (stepH s l.length p).2.1, (stepH s l.length p).2.2.1)
    else if (stepH s l.length p).2.2.2 = true then (l ++ [(stepH s l.length p).1], (stepH s l.length p).2.1, 0)
    else headL s f (stepH s l.length p).2.1 (l ++ [(stepH s l.length p).1])

def nth (l : List Nat) (k : Nat) : Nat := l[k]?.getD 0

theorem nth_ge {l : List Nat} {k : Nat} (h : l.length ≤ k) : nth l k = 0 := by unfold nth; rw [List.getElem?_eq_none h]; rfl
theorem nth_snoc_lt {l : List Nat} {k x : Nat} (h : k < l.length) : nth (l ++ [x]) k = nth l k := by unfold nth; rw [List.getElem?_append_left h]
theorem nth_snoc {l : List Nat} {x : Nat} : nth (l ++ [x]) l.length = x := by unfold nth; simp

/-- whether a text begins as a head does -/
def isHead (s : ByteArray) : Prop := 4 ≤ s.size ∧ bt s 0 = 97 ∧ (bt s 1 = 97 ∨ bt s 1 = 105) ∧ bt s 2 = 103 ∧ bt s 3 = 32

instance (s : ByteArray) : Decidable (isHead s) := by unfold isHead; infer_instance

/-- whether the gates, latches and inputs are more than the head's variables, or, in the short form, fewer -/
def badSum (bin : Bool) (l : List Nat) : Prop := nth l 0 < nth l 1 + nth l 2 + nth l 4 ∨ bin = true ∧ nth l 1 + nth l 2 + nth l 4 < nth l 0

instance (b : Bool) (l : List Nat) : Decidable (badSum b l) := by unfold badSum; infer_instance

/-- the head with which a text begins, the place and the error -/
def headT (s : ByteArray) : Bool × List Nat × Nat × Nat :=
  if ¬ isHead s then (false, [], 0, 2)
  else if (headL s 9 4 []).2.2 ≠ 0 then (false, [], (headL s 9 4 []).2.1, (headL s 9 4 []).2.2)
  else if badSum (decide (bt s 1 = 105)) (headL s 9 4 []).1 then (false, [], 4, 5)
  else (decide (bt s 1 = 105), (headL s 9 4 []).1, (headL s 9 4 []).2.1, 0)

theorem stepH_ok {s : ByteArray} {k p : Nat} (hp : p ≤ s.size) (h : (stepH s k p).2.2.1 = 0) :
    p < (stepH s k p).2.1 ∧ (stepH s k p).2.1 ≤ s.size ∧ (stepH s k p).1 ≤ 16777216 ∧ (7 ≤ k → (stepH s k p).1 = 0) := by
  have hE := natN_end (s := s) (p := p) hp
  unfold stepH at h ⊢
  by_cases c1 : (natN s p).2.2 ≠ 0
  · rw [if_pos c1] at h; exact absurd h c1
  have hE := hE (by omega)
  rw [if_neg c1] at h ⊢
  by_cases c2 : (if 7 ≤ k then 0 else 16777216) < (natN s p).1
  · rw [if_pos c2] at h; simp at h
  rw [if_neg c2] at h ⊢
  have c2' : (natN s p).1 ≤ 16777216 ∧ (7 ≤ k → (natN s p).1 = 0) := by
    split at c2 <;> exact ⟨by omega, fun _ => by omega⟩
  by_cases c3 : (natN s p).2.1 = s.size
  · rw [if_pos c3] at h; simp at h
  rw [if_neg c3] at h ⊢
  by_cases c4 : bt s (natN s p).2.1 = 10 ∧ 4 ≤ k
  · rw [if_pos c4]
    refine ⟨?_, ?_, c2'⟩ <;> simp only <;> omega
  rw [if_neg c4] at h ⊢
  by_cases c5 : bt s (natN s p).2.1 = 32 ∧ k < 8
  · rw [if_pos c5]
    refine ⟨?_, ?_, c2'⟩ <;> simp only <;> omega
  rw [if_neg c5] at h; simp at h

end Go.Proofs.YtckmdcmkjmpiaaaGreatDoor

/-
  ascii.ReadHead: what it computes: the head with which a text begins.
-/
namespace Go.Proofs.YtckmdcmkjmpiaaaGreatDoor
open Go.RowKit

/-- a head as a value -/
def headV (b : Bool) (l : List Nat) : Value := .agg #[.bool b, .int .i64 (nth l 0), .int .i64 (nth l 1), .int .i64 (nth l 2), .int .i64 (nth l 3), .int .i64 (nth l 4), .int .i64 (nth l 5), .int .i64 (nth l 6)]
def headC (b : Bool) (l : List Nat) : Array Value := #[.bool b, .int .i64 (nth l 0), .int .i64 (nth l 1), .int .i64 (nth l 2), .int .i64 (nth l 3), .int .i64 (nth l 4), .int .i64 (nth l 5), .int .i64 (nth l 6)]

/-- the nine cells -/
def arr (l : List Nat) : Array Value := #[.int .i64 (nth l 0), .int .i64 (nth l 1), .int .i64 (nth l 2), .int .i64 (nth l 3), .int .i64 (nth l 4), .int .i64 (nth l 5), .int .i64 (nth l 6), .int .i64 (nth l 7), .int .i64 (nth l 8)]

theorem arr_get (l : List Nat) : ∀ i, i < 9 → (arr l)[i]? = some (.int .i64 (nth l i))
  | 0, _ => rfl | 1, _ => rfl | 2, _ => rfl | 3, _ => rfl | 4, _ => rfl | 5, _ => rfl | 6, _ => rfl | 7, _ => rfl | 8, _ => rfl
  | n + 9, h => by omega

theorem arr_set (l : List Nat) (n : Nat) (_h : l.length ≤ 8) : (arr l).setIfInBounds l.length (.int .i64 (n : Nat)) = arr (l ++ [n]) := by
  apply Array.ext_getElem?
  intro i
  by_cases hi : i < 9
  · rw [arr_get _ i hi, Array.getElem?_setIfInBounds]
    by_cases e : l.length = i
    · subst e
      rw [if_pos rfl, if_pos (show l.length < (arr l).size by show l.length < 9; omega), nth_snoc]
    · rw [if_neg e, arr_get _ i hi]
      congr 2
      rcases Nat.lt_or_ge i l.length with h1 | h1
      · rw [nth_snoc_lt h1]
      · rw [nth_ge h1, nth_ge (by simp; omega)]
  · rw [Array.getElem?_eq_none (by rw [Array.size_setIfInBounds]; show 9 ≤ i; omega), Array.getElem?_eq_none (by show 9 ≤ i; omega)]

/-- the library's contracts that a reader needs -/
structure RdK : Prop where
  nat : ∀ (s : ByteArray) (p : Nat) (u : World), s.size ≤ 9223372036854775000 → p ≤ s.size → Calls Tryz.prog 65 #[.string s, .int .i64 p] u fun e u' => e = .returned (tripI (natN s p)) ∧ Kp (fun _ => False) u u'
  idx : ∀ (s : ByteArray) (c : Int) (u : World), Calls Tryz.prog 56 #[.string s, .int .u8 c] u fun e u' => e = .returned (.int .i64 (Lib.indexByte s.data.toList c.toNat.toUInt8)) ∧ u' = u
  pre : ∀ (s p : ByteArray) (u : World), Calls Tryz.prog 29 #[.string s, .string p] u fun e u' => e = .returned (.bool (Lib.hasPrefix s.data.toList p.data.toList)) ∧ u' = u

theorem isHead_pre (s : ByteArray) : (Lib.hasPrefix s.data.toList [97, 97, 103, 32] = true ∨ Lib.hasPrefix s.data.toList [97, 105, 103, 32] = true) ↔ isHead s := by
  have hb : ∀ (i : Nat) (b : UInt8), s.data.toList[i]? = some b → bt s i = b.toNat := fun i b h => by
    have h1 := (List.getElem?_eq_some_iff.1 h).1
    rw [← Lib.size_eq] at h1
    obtain ⟨c, hc, hc2⟩ := byte_at (s := s) (i := i) h1
    rw [h] at hc
    rw [← hc2, Option.some.inj hc]
  have hz := Lib.size_eq s
  unfold isHead Lib.hasPrefix
  generalize s.data.toList = L at hb hz
  have e97 : ∀ b : UInt8, (97 == b) = true ↔ b.toNat = 97 := fun b => by rw [beq_iff_eq]; exact ⟨fun h => by rw [← h]; rfl, fun h => UInt8.toNat_inj.1 (by rw [h]; rfl)⟩
  have e105 : ∀ b : UInt8, (105 == b) = true ↔ b.toNat = 105 := fun b => by rw [beq_iff_eq]; exact ⟨fun h => by rw [← h]; rfl, fun h => UInt8.toNat_inj.1 (by rw [h]; rfl)⟩
  have e103 : ∀ b : UInt8, (103 == b) = true ↔ b.toNat = 103 := fun b => by rw [beq_iff_eq]; exact ⟨fun h => by rw [← h]; rfl, fun h => UInt8.toNat_inj.1 (by rw [h]; rfl)⟩
  have e32 : ∀ b : UInt8, (32 == b) = true ↔ b.toNat = 32 := fun b => by rw [beq_iff_eq]; exact ⟨fun h => by rw [← h]; rfl, fun h => UInt8.toNat_inj.1 (by rw [h]; rfl)⟩
  match L, hb, hz with
  | [], _, hz => simp at hz; simp [List.isPrefixOf, hz]
  | [a], _, hz => simp at hz; simp [List.isPrefixOf, hz]
  | [a, b], _, hz => simp at hz; simp [List.isPrefixOf, hz]
  | [a, b, c], _, hz => simp at hz; simp [List.isPrefixOf, hz]
  | a :: b :: c :: d :: r, hb, hz =>
    simp only [List.isPrefixOf, Bool.and_true, Bool.and_eq_true, e97, e105, e103, e32]
    rw [hb 0 a rfl, hb 1 b rfl, hb 2 c rfl, hb 3 d rfl]
    simp only [List.length_cons] at hz
    omega

theorem Blk.cells8 {w : World} {b : Nat} {x0 x1 x2 x3 x4 x5 x6 x7 : Value} {t : TypeId} (h : Blk w b #[x0, x1, x2, x3, x4, x5, x6, x7] t) :
    w.cell? ⟨b, 0, none⟩ = some x0 ∧ w.cell? ⟨b, 1, none⟩ = some x1 ∧ w.cell? ⟨b, 2, none⟩ = some x2 ∧ w.cell? ⟨b, 3, none⟩ = some x3 ∧ w.cell? ⟨b, 4, none⟩ = some x4 ∧ w.cell? ⟨b, 5, none⟩ = some x5 ∧ w.cell? ⟨b, 6, none⟩ = some x6 ∧ w.cell? ⟨b, 7, none⟩ = some x7 :=
  ⟨h.cell rfl, h.cell rfl, h.cell rfl, h.cell rfl, h.cell rfl, h.cell rfl, h.cell rfl, h.cell rfl⟩

theorem Blk.set8 {w : World} {b : Nat} {x0 x1 x2 x3 x4 x5 x6 x7 : Value} {t : TypeId} (h : Blk w b #[x0, x1, x2, x3, x4, x5, x6, x7] t) (y0 y1 y2 y3 y4 y5 y6 y7 : Value) :
    Blk ((((((((w.setCell ⟨b, 0, none⟩ y0).setCell ⟨b, 1, none⟩ y1).setCell ⟨b, 2, none⟩ y2).setCell ⟨b, 3, none⟩ y3).setCell ⟨b, 4, none⟩ y4).setCell ⟨b, 5, none⟩ y5).setCell ⟨b, 6, none⟩ y6).setCell ⟨b, 7, none⟩ y7) b #[y0, y1, y2, y3, y4, y5, y6, y7] t := by
  have h7 := (((((((h.set_same 0 y0).set_same 1 y1).set_same 2 y2).set_same 3 y3).set_same 4 y4).set_same 5 y5).set_same 6 y6).set_same 7 y7
  simpa only [List.setIfInBounds_toArray, List.set_cons_zero, List.set_cons_succ] using h7

theorem Kp.set8 {S : Nat → Prop} {a w : World} (h : Kp S a w) {b : Nat} (hb : b < a.heap.size → S b) (y0 y1 y2 y3 y4 y5 y6 y7 : Value) :
    Kp S a ((((((((w.setCell ⟨b, 0, none⟩ y0).setCell ⟨b, 1, none⟩ y1).setCell ⟨b, 2, none⟩ y2).setCell ⟨b, 3, none⟩ y3).setCell ⟨b, 4, none⟩ y4).setCell ⟨b, 5, none⟩ y5).setCell ⟨b, 6, none⟩ y6).setCell ⟨b, 7, none⟩ y7) :=
  (((((((h.setCell (p := ⟨b, 0, none⟩) hb y0).setCell (p := ⟨b, 1, none⟩) hb y1).setCell (p := ⟨b, 2, none⟩) hb y2).setCell (p := ⟨b, 3, none⟩) hb y3).setCell (p := ⟨b, 4, none⟩) hb y4).setCell (p := ⟨b, 5, none⟩) hb y5).setCell (p := ⟨b, 6, none⟩) hb y6).setCell (p := ⟨b, 7, none⟩) hb y7

/-- the blocks of a call of ReadHead: the result's head, place and error; the reader; the numbers -/
structure HBlk (s : ByteArray) (w wr : World) (p : Nat) (l : List Nat) : Prop where
  b0 : Blk wr w.heap.size (headC false []) 42
  b1 : Blk wr (w.heap.size + 1) #[.int .i64 0] 3
  b2 : Blk wr (w.heap.size + 1 + 1) #[.int .i64 0] 28
  b3 : Blk wr (w.heap.size + 1 + 1 + 1) #[.string s, .int .i64 p] 77
  b4 : Blk wr (w.heap.size + 1 + 1 + 1 + 1) (arr l) 78
  kp : Kp (fun _ => False) w wr

theorem HBlk.reader {s : ByteArray} {w wr w1 : World} {p q : Nat} {l : List Nat} (h : HBlk s w wr p l) (hK : Kp (fun j => j = w.heap.size + 1 + 1 + 1) wr w1)
    (hB : Blk w1 (w.heap.size + 1 + 1 + 1) #[.string s, .int .i64 q] 77) : HBlk s w w1 q l :=
  ⟨h.b0.kp hK (by omega), h.b1.kp hK (by omega), h.b2.kp hK (by omega), hB, h.b4.kp hK (by omega), h.kp.trans hK (fun i hi h => by omega)⟩

theorem HBlk.store {s : ByteArray} {w wr : World} {p : Nat} {l : List Nat} (h : HBlk s w wr p l) (n : Nat) (hl : l.length ≤ 8) :
    HBlk s w (wr.setCell ⟨w.heap.size + 1 + 1 + 1 + 1, l.length, none⟩ (.int .i64 (n : Nat))) p (l ++ [n]) :=
  ⟨h.b0.set_other (by simp <;> omega) _, h.b1.set_other (by simp <;> omega) _, h.b2.set_other (by simp <;> omega) _, h.b3.set_other (by simp) _,
    by have := h.b4.set_same l.length (.int .i64 (n : Nat)); rwa [arr_set l n hl] at this,
    h.kp.setCell (p := ⟨w.heap.size + 1 + 1 + 1 + 1, l.length, none⟩) (by simp; omega) _⟩

theorem HBlk.drew {s : ByteArray} {w wr : World} {p : Nat} {l : List Nat} (h : HBlk s w wr p l) : HBlk s w wr.drew p l := ⟨h.b0, h.b1, h.b2, h.b3, h.b4, h.kp.drew⟩

theorem HBlk.new (s : ByteArray) (w : World) : HBlk s w (((((w.alloc (.cells #[.bool false, .int .i64 0, .int .i64 0, .int .i64 0, .int .i64 0, .int .i64 0, .int .i64 0, .int .i64 0] 42)).alloc (.cells #[.int .i64 0] 3)).alloc
    (.cells #[.int .i64 0] 28)).alloc (.cells #[.string s, .int .i64 4] 77)).alloc (.cells #[.int .i64 0, .int .i64 0, .int .i64 0, .int .i64 0, .int .i64 0, .int .i64 0, .int .i64 0, .int .i64 0, .int .i64 0] 78)) 4 [] := by
  have key : ∀ (u : World) (c : Array Value) (t : TypeId) (n : Nat), u.heap.size = n → Blk (u.alloc (.cells c t)) n c t := fun u c t n h => by subst h; exact Blk.new u c t
  refine ⟨((((Blk.new w _ _).alloc _).alloc _).alloc _).alloc _, (((key _ _ _ _ (by simp)).alloc _).alloc _).alloc _, ((key _ _ _ _ (by simp)).alloc _).alloc _, (key _ _ _ _ (by simp)).alloc _, key _ _ _ _ (by simp),
    (((((Kp.refl _ w).alloc _).alloc _).alloc _).alloc _).alloc _⟩

/-- what ReadHead answers -/
def HeadP (s : ByteArray) (w : World) (o : Ending) (w' : World) : Prop :=
  o = .returned (.tuple #[headV (headT s).1 (headT s).2.1, .int .i64 (headT s).2.2.1, .int .i64 (headT s).2.2.2]) ∧ Kp (fun _ => False) w w'

/-- whether a sign may stand behind the number k -/
def okS (k B : Nat) : Bool := decide (B = 32 ∧ k < 8 ∨ B = 10 ∧ 4 ≤ k)

theorem byte_is {B v : Nat} (hB : B < 256) (hv : v < 256) : (v.toUInt8 == B.toUInt8) = decide (B = v) := by
  by_cases h : B = v
  · subst h; simp
  · rw [decide_eq_false h, beq_eq_false_iff_ne]
    intro e
    have := congrArg UInt8.toNat e
    rw [UInt8.toNat_ofNat', UInt8.toNat_ofNat'] at this
    omega

theorem idx_is (k B : Nat) (hB : B < 256) (some_ : ByteArray) (hk : k < 4 ∧ some_ = ⟨#[32]⟩ ∨ 4 ≤ k ∧ k < 8 ∧ some_ = ⟨#[32, 10]⟩ ∨ k = 8 ∧ some_ = ⟨#[10]⟩) :
    decide (Lib.indexByte some_.data.toList B.toUInt8 < 0) = !okS k B := by
  have e32 : ((32 : UInt8) == B.toUInt8) = decide (B = 32) := byte_is (v := 32) hB (by decide)
  have e10 : ((10 : UInt8) == B.toUInt8) = decide (B = 10) := byte_is (v := 10) hB (by decide)
  unfold okS
  by_cases h1 : B = 32 <;> by_cases h2 : B = 10 <;> rcases hk with ⟨hk, rfl⟩ | ⟨hk, hk2, rfl⟩ | ⟨hk, rfl⟩ <;> simp [Lib.indexByte, e32, e10, h1, h2] <;> omega

theorem sign_k (K : RdK) (s : ByteArray) (q b k : Nat) (u : World) (some_ : ByteArray) (hs : s.size ≤ 2000000) (hq : q ≤ s.size)
    (hk : k < 4 ∧ some_ = ⟨#[32]⟩ ∨ 4 ≤ k ∧ k < 8 ∧ some_ = ⟨#[32, 10]⟩ ∨ k = 8 ∧ some_ = ⟨#[10]⟩) (hB : Blk u b #[.string s, .int .i64 q] 77) :
    Calls Tryz.prog 32 #[.pointer (some ⟨b, 0, none⟩), .string some_] u fun o w' => SignP s q b (okS k (bt s q)) u o w' := by
  refine ascii_sign s some_ q b _ _ u (by omega) hq (fun _ => ?_) (fun v _ => K.idx _ _ v) hB
  have hlt := bt_lt s q
  generalize bt s q = B at hlt
  rw [Int.toNat_natCast]
  exact idx_is k B hlt some_ hk

end Go.Proofs.YtckmdcmkjmpiaaaGreatDoor

/-
  ascii.ReadHead: what it computes: the head with which a text begins. (Printed by mkahead.py.)
-/
namespace Go.Proofs.YtckmdcmkjmpiaaaGreatDoor
open Go.RowKit

theorem headT_bad {s : ByteArray} {p e : Nat} (h1 : isHead s) (h : headL s 9 4 [] = ([], p, e)) (he : e ≠ 0) : headT s = (false, [], p, e) := by
  unfold headT
  rw [if_neg (by simpa using h1), h, if_pos (by simpa using he)]

theorem headL_stop {s : ByteArray} {l : List Nat} {p q e : Nat} (hl : l.length ≤ 8) (h : stepH s l.length p = (0, q, e, false)) (he : e ≠ 0) : headL s (9 - l.length) p l = ([], q, e) := by
  obtain ⟨f, hf⟩ : ∃ f, 9 - l.length = f + 1 := ⟨8 - l.length, by omega⟩
  rw [hf, headL, h, if_pos (by simpa using he)]

theorem headL_fin {s : ByteArray} {l : List Nat} {p q n : Nat} (hl : l.length ≤ 8) (h : stepH s l.length p = (n, q, 0, true)) : headL s (9 - l.length) p l = (l ++ [n], q, 0) := by
  obtain ⟨f, hf⟩ : ∃ f, 9 - l.length = f + 1 := ⟨8 - l.length, by omega⟩
  rw [hf, headL, h]; rfl

theorem headL_more {s : ByteArray} {l : List Nat} {p q n : Nat} (hl : l.length ≤ 8) (h : stepH s l.length p = (n, q, 0, false)) : headL s (9 - l.length) p l = headL s (9 - (l ++ [n]).length) q (l ++ [n]) := by
  obtain ⟨f, hf⟩ : ∃ f, 9 - l.length = f + 1 := ⟨8 - l.length, by omega⟩
  rw [hf, headL, h, show 9 - (l ++ [n]).length = f by simp; omega]
  simp

theorem stepH_num {s : ByteArray} {k p top E : Nat} (ht : (if 7 ≤ k then 0 else 16777216) = top) (hE : numE s p top = E) (he : E ≠ 0) : stepH s k p = (0, p, E, false) := by
  unfold numE at hE
  unfold stepH
  by_cases c1 : (natN s p).2.2 ≠ 0
  · rw [if_pos c1] at hE ⊢; rw [hE]
  · rw [if_neg c1] at hE ⊢
    rw [ht]
    by_cases c2 : top < (natN s p).1
    · rw [if_pos c2] at hE ⊢; rw [hE]
    · rw [if_neg c2] at hE; exact absurd hE.symm he

theorem numE_ok {s : ByteArray} {p top n q : Nat} (hp : p ≤ s.size) (hn : (natN s p).1 = n) (hq : (natN s p).2.1 = q) (hE : numE s p top = 0) : p < q ∧ q ≤ s.size ∧ n ≤ top := by
  unfold numE at hE
  by_cases c1 : (natN s p).2.2 ≠ 0
  · rw [if_pos c1] at hE; exact absurd hE c1
  · have := natN_end hp (by omega)
    rw [if_neg c1] at hE
    by_cases c2 : top < (natN s p).1
    · rw [if_pos c2] at hE; cases hE
    · omega

theorem stepH_sign {s : ByteArray} {k p top n q : Nat} (ht : (if 7 ≤ k then 0 else 16777216) = top) (hn : (natN s p).1 = n) (hq : (natN s p).2.1 = q) (hE : numE s p top = 0) :
    stepH s k p = if q = s.size then (0, q, 3, false) else if bt s q = 10 ∧ 4 ≤ k then (n, q + 1, 0, true) else if bt s q = 32 ∧ k < 8 then (n, q + 1, 0, false) else (0, q, 2, false) := by
  unfold numE at hE
  unfold stepH
  by_cases c1 : (natN s p).2.2 ≠ 0
  · rw [if_pos c1] at hE; exact absurd hE c1
  · rw [if_neg c1] at hE ⊢
    rw [ht]
    by_cases c2 : top < (natN s p).1
    · rw [if_pos c2] at hE; cases hE
    · rw [if_neg c2, hn, hq]

theorem HBlk.alloc {s : ByteArray} {w wr : World} {p : Nat} {l : List Nat} (h : HBlk s w wr p l) (o : Obj) : HBlk s w (wr.alloc o) p l :=
  ⟨h.b0.alloc _, h.b1.alloc _, h.b2.alloc _, h.b3.alloc _, h.b4.alloc _, h.kp.alloc _⟩

/-- the cells of a call -/
theorem HBlk.outs {s : ByteArray} {w wr : World} {p : Nat} {l : List Nat} (h : HBlk s w wr p l) : w.heap.size < wr.heap.size ∧ w.heap.size + 1 < wr.heap.size ∧ w.heap.size + 1 + 1 < wr.heap.size ∧ w.heap.size + 1 + 1 + 1 < wr.heap.size ∧ w.heap.size + 1 + 1 + 1 + 1 < wr.heap.size ∧
    (∀ i, wr.frozen? ⟨w.heap.size, i, none⟩ = false) ∧ wr.frozen? ⟨w.heap.size + 1, 0, none⟩ = false ∧ wr.frozen? ⟨w.heap.size + 1 + 1, 0, none⟩ = false ∧ wr.cell? ⟨w.heap.size + 1, 0, none⟩ = some (.int .i64 0) ∧ wr.cell? ⟨w.heap.size + 1 + 1, 0, none⟩ = some (.int .i64 0) ∧
    wr.cell? ⟨w.heap.size + 1 + 1 + 1, 1, none⟩ = some (.int .i64 p) :=
  ⟨h.b0.lt, h.b1.lt, h.b2.lt, h.b3.lt, h.b4.lt, h.b0.free, h.b1.free 0, h.b2.free 0, h.b1.cells1.1, h.b2.cells1.1, h.b3.cells2.2.1⟩

theorem HBlk.cells {s : ByteArray} {w wr : World} {p : Nat} {l : List Nat} (h : HBlk s w wr p l) : wr.cell? ⟨w.heap.size + 1 + 1 + 1 + 1, 0, none⟩ = some (.int .i64 (nth l 0)) ∧ wr.cell? ⟨w.heap.size + 1 + 1 + 1 + 1, 1, none⟩ = some (.int .i64 (nth l 1)) ∧ wr.cell? ⟨w.heap.size + 1 + 1 + 1 + 1, 2, none⟩ = some (.int .i64 (nth l 2)) ∧
    wr.cell? ⟨w.heap.size + 1 + 1 + 1 + 1, 3, none⟩ = some (.int .i64 (nth l 3)) ∧ wr.cell? ⟨w.heap.size + 1 + 1 + 1 + 1, 4, none⟩ = some (.int .i64 (nth l 4)) ∧ wr.cell? ⟨w.heap.size + 1 + 1 + 1 + 1, 5, none⟩ = some (.int .i64 (nth l 5)) ∧ wr.cell? ⟨w.heap.size + 1 + 1 + 1 + 1, 6, none⟩ = some (.int .i64 (nth l 6)) :=
  ⟨h.b4.cell (arr_get l 0 (by omega)), h.b4.cell (arr_get l 1 (by omega)), h.b4.cell (arr_get l 2 (by omega)), h.b4.cell (arr_get l 3 (by omega)), h.b4.cell (arr_get l 4 (by omega)), h.b4.cell (arr_get l 5 (by omega)), h.b4.cell (arr_get l 6 (by omega))⟩

theorem HBlk.at_ {s : ByteArray} {w wr : World} {p k : Nat} {l : List Nat} (h : HBlk s w wr p l) (hk : k < 9) :
    wr.cell? ⟨w.heap.size + 1 + 1 + 1 + 1, k, none⟩ = some (.int .i64 (nth l k)) ∧ wr.frozen? ⟨w.heap.size + 1 + 1 + 1 + 1, k, none⟩ = false := ⟨h.b4.cell (arr_get l k hk), h.b4.free k⟩

theorem HBlk.store' {s : ByteArray} {w wr : World} {p k : Nat} {l : List Nat} (h : HBlk s w wr p l) (n : Nat) (hk : l.length = k) (hl : k ≤ 8) :
    HBlk s w (wr.setCell ⟨w.heap.size + 1 + 1 + 1 + 1, k, none⟩ (.int .i64 (n : Nat))) p (l ++ [n]) := by
  subst hk; exact h.store n hl

theorem okS_no {s : ByteArray} {k n q : Nat} (hlt : q < s.size) (h : okS k (bt s q) = false) :
    (if q = s.size then ((0 : Nat), q, (3 : Nat), false) else if bt s q = 10 ∧ 4 ≤ k then (n, q + 1, 0, true) else if bt s q = 32 ∧ k < 8 then (n, q + 1, 0, false) else (0, q, 2, false)) = (0, q, 2, false) := by
  unfold okS at h
  simp only [decide_eq_false_iff_not] at h
  rw [if_neg (by omega), if_neg (fun e => h (.inr e)), if_neg (fun e => h (.inl e))]

theorem okS_more {s : ByteArray} {k n q : Nat} (h10 : ¬ bt s q = 10) (h : okS k (bt s q) = true) :
    (if bt s q = 10 ∧ 4 ≤ k then (n, q + 1, (0 : Nat), true) else if bt s q = 32 ∧ k < 8 then (n, q + 1, 0, false) else (0, q, 2, false)) = (n, q + 1, 0, false) := by
  unfold okS at h
  simp only [decide_eq_true_eq] at h
  rw [if_neg (fun e => h10 e.1), if_pos (h.resolve_right (fun e => h10 e.1))]

theorem okS_fin {s : ByteArray} {k n q : Nat} (h10 : bt s q = 10) (h : okS k (bt s q) = true) :
    (if bt s q = 10 ∧ 4 ≤ k then (n, q + 1, (0 : Nat), true) else if bt s q = 32 ∧ k < 8 then (n, q + 1, 0, false) else (0, q, 2, false)) = (n, q + 1, 0, true) := by
  unfold okS at h
  simp only [decide_eq_true_eq] at h
  rw [if_pos (by omega)]

theorem headL_stop_ {s : ByteArray} {l : List Nat} {k p q e : Nat} (hk : l.length = k) (hl : k ≤ 8) (h : stepH s k p = (0, q, e, false)) (he : e ≠ 0) : headL s (9 - l.length) p l = ([], q, e) := by
  subst hk; exact headL_stop hl h he

theorem headL_fin_ {s : ByteArray} {l : List Nat} {k p q n : Nat} (hk : l.length = k) (hl : k ≤ 8) (h : stepH s k p = (n, q, 0, true)) : headL s (9 - l.length) p l = (l ++ [n], q, 0) := by
  subst hk; exact headL_fin hl h

theorem headL_more_ {s : ByteArray} {l : List Nat} {k p q n : Nat} (hk : l.length = k) (hl : k ≤ 8) (h : stepH s k p = (n, q, 0, false)) : headL s (9 - (l ++ [n]).length) q (l ++ [n]) = headL s (9 - l.length) p l := by
  subst hk; exact (headL_more hl h).symm

theorem nth_bound {l : List Nat} (h : ∀ j, nth l j ≤ 16777216) (n : Nat) {top : Nat} (hn : n ≤ top) (ht : top ≤ 16777216) : ∀ j, nth (l ++ [n]) j ≤ 16777216 := by
  intro j
  rcases Nat.lt_trichotomy j l.length with h1 | h1 | h1
  · rw [nth_snoc_lt h1]; exact h j
  · subst h1; rw [nth_snoc]; omega
  · rw [nth_ge (by simp; omega)]; omega

theorem int_beq (a b : Nat) : ((a : Int) == (b : Int)) = decide (a = b) := by
  by_cases h : a = b
  · subst h; simp
  · rw [decide_eq_false h, beq_eq_false_iff_ne]; omega

/-- the end: the results are read -/
theorem head_end {s : ByteArray} {w wz : World} {b : Bool} {L : List Nat} {P E : Nat} {tmps : Array Value} (hT : headT s = (b, L, P, E))
    (ht2 : tmps[2]? = some (.pointer (some ⟨w.heap.size, 0, none⟩))) (ht3 : tmps[3]? = some (.pointer (some ⟨w.heap.size + 1, 0, none⟩))) (ht4 : tmps[4]? = some (.pointer (some ⟨w.heap.size + 1 + 1, 0, none⟩)))
    (h0 : Blk wz w.heap.size (headC b L) 42) (hA : Blk wz (w.heap.size + 1) #[.int .i64 (P : Nat)] 3) (hE : Blk wz (w.heap.size + 1 + 1) #[.int .i64 (E : Nat)] 28) (hk : Kp (fun _ => False) w wz) :
    Leaves Tryz.prog Tryz.f13 tmps (fun o w' => HeadP s w o w') [] .returning wz := by
  obtain ⟨z0, z1, z2, z3, z4, z5, z6, z7⟩ := h0.cells8
  have a0 := hA.cells1.1
  have e0 := hE.cells1.1
  refine ⟨.tuple #[headV b L, .int .i64 P, .int .i64 E], ?_, ?_⟩
  · simp [results, Tryz.results13, go_sem, ht2, ht3, ht4, z0, z1, z2, z3, z4, z5, z6, z7, a0, e0, headV]
  · unfold HeadP
    rw [hT]
    exact ⟨rfl, hk⟩

/-- the end behind a stop -/
theorem head_stop {s : ByteArray} {w wz w'' : World} {P E : Nat} {tmps : Array Value} (hT : headT s = (false, [], P, E))
    (ht2 : tmps[2]? = some (.pointer (some ⟨w.heap.size, 0, none⟩))) (ht3 : tmps[3]? = some (.pointer (some ⟨w.heap.size + 1, 0, none⟩))) (ht4 : tmps[4]? = some (.pointer (some ⟨w.heap.size + 1 + 1, 0, none⟩)))
    (h0 : Blk wz w.heap.size (headC false []) 42) (hk : Kp (fun _ => False) w wz)
    (hA : Blk w'' (w.heap.size + 1) #[.int .i64 (P : Nat)] 3) (hE : Blk w'' (w.heap.size + 1 + 1) #[.int .i64 (E : Nat)] 28) (hK : Kp (fun j => j = w.heap.size + 1 ∨ j = w.heap.size + 1 + 1) wz w'') (v : Value) :
    Leaves Tryz.prog Tryz.f13 tmps (fun o w' => HeadP s w o w') [] (settle (.panicking ({ v := v, recovered := true } :: []))) w'' :=
  head_end hT ht2 ht3 ht4 (h0.kp hK (by omega)) hA hE (hk.trans hK (fun i hi h => by omega))

theorem headT_sum {s : ByteArray} {L : List Nat} {q : Nat} {bb : Bool} (h1 : isHead s) (h : headL s 9 4 [] = (L, q, 0)) (hb : decide (bt s 1 = 105) = bb) (h2 : badSum bb L) : headT s = (false, [], 4, 5) := by
  unfold headT
  rw [if_neg (by simpa using h1), h, if_neg (by simp), hb, if_pos h2]

theorem headT_ok {s : ByteArray} {L : List Nat} {q : Nat} {bb : Bool} (h1 : isHead s) (h : headL s 9 4 [] = (L, q, 0)) (hb : decide (bt s 1 = 105) = bb) (h2 : ¬ badSum bb L) : headT s = (bb, L, q, 0) := by
  unfold headT
  rw [if_neg (by simpa using h1), h, if_neg (by simp), hb, if_neg h2]

theorem HBlk.fin {s : ByteArray} {w wz : World} {q : Nat} {L : List Nat} (h : HBlk s w wz q L) (y0 y1 y2 y3 y4 y5 y6 y7 : Value) (p e : Value) :
    Blk ((((((((((wz.setCell ⟨w.heap.size, 0, none⟩ y0).setCell ⟨w.heap.size, 1, none⟩ y1).setCell ⟨w.heap.size, 2, none⟩ y2).setCell ⟨w.heap.size, 3, none⟩ y3).setCell ⟨w.heap.size, 4, none⟩ y4).setCell ⟨w.heap.size, 5, none⟩ y5).setCell ⟨w.heap.size, 6, none⟩ y6).setCell ⟨w.heap.size, 7, none⟩ y7).setCell ⟨w.heap.size + 1, 0, none⟩ p).setCell ⟨w.heap.size + 1 + 1, 0, none⟩ e) w.heap.size #[y0, y1, y2, y3, y4, y5, y6, y7] 42 ∧
    Blk ((((((((((wz.setCell ⟨w.heap.size, 0, none⟩ y0).setCell ⟨w.heap.size, 1, none⟩ y1).setCell ⟨w.heap.size, 2, none⟩ y2).setCell ⟨w.heap.size, 3, none⟩ y3).setCell ⟨w.heap.size, 4, none⟩ y4).setCell ⟨w.heap.size, 5, none⟩ y5).setCell ⟨w.heap.size, 6, none⟩ y6).setCell ⟨w.heap.size, 7, none⟩ y7).setCell ⟨w.heap.size + 1, 0, none⟩ p).setCell ⟨w.heap.size + 1 + 1, 0, none⟩ e) (w.heap.size + 1) #[p] 3 ∧
    Blk ((((((((((wz.setCell ⟨w.heap.size, 0, none⟩ y0).setCell ⟨w.heap.size, 1, none⟩ y1).setCell ⟨w.heap.size, 2, none⟩ y2).setCell ⟨w.heap.size, 3, none⟩ y3).setCell ⟨w.heap.size, 4, none⟩ y4).setCell ⟨w.heap.size, 5, none⟩ y5).setCell ⟨w.heap.size, 6, none⟩ y6).setCell ⟨w.heap.size, 7, none⟩ y7).setCell ⟨w.heap.size + 1, 0, none⟩ p).setCell ⟨w.heap.size + 1 + 1, 0, none⟩ e) (w.heap.size + 1 + 1) #[e] 28 ∧
    Kp (fun _ => False) w ((((((((((wz.setCell ⟨w.heap.size, 0, none⟩ y0).setCell ⟨w.heap.size, 1, none⟩ y1).setCell ⟨w.heap.size, 2, none⟩ y2).setCell ⟨w.heap.size, 3, none⟩ y3).setCell ⟨w.heap.size, 4, none⟩ y4).setCell ⟨w.heap.size, 5, none⟩ y5).setCell ⟨w.heap.size, 6, none⟩ y6).setCell ⟨w.heap.size, 7, none⟩ y7).setCell ⟨w.heap.size + 1, 0, none⟩ p).setCell ⟨w.heap.size + 1 + 1, 0, none⟩ e) := by
  have hk := Kp.set8 (b := w.heap.size) (Kp.refl (fun j => j = w.heap.size) wz) (fun _ => rfl) y0 y1 y2 y3 y4 y5 y6 y7
  refine ⟨((h.b0.set8 y0 y1 y2 y3 y4 y5 y6 y7).set_other (by simp) _).set_other (by simp <;> omega) _, ((h.b1.kp hk (by omega)).set_same 0 p).set_other (by simp) _, ((h.b2.kp hk (by omega)).set_other (by simp) _).set_same 0 e,
    ((h.kp.trans hk (fun i hi h => by omega)).setCell (p := ⟨w.heap.size + 1, 0, none⟩) (by simp <;> omega) _).setCell (p := ⟨w.heap.size + 1 + 1, 0, none⟩) (by simp <;> omega) _⟩

set_option maxRecDepth 100000 in
set_option maxHeartbeats 8000000 in
theorem ascii_ReadHead (K : RdK) (s : ByteArray) (w : World) (hs : s.size ≤ 2000000) :
    Calls Tryz.prog 13 #[.string s] w fun o w' => HeadP s w o w' := by
  have HK := Lib.hid K
  clear K
  have hmf : ∀ (fn : Fn) (first cap : Array Value) (w : World), (Instr.makeFunc fn first cap).run Tryz.prog w = .ok (.func fn first cap) w := fun _ _ _ _ => rfl
  have HIS := Lib.hid (isHead_pre s)
  have HN0 := Lib.hid (HBlk.new s w)
  by_cases hI : isHead s
  · have HI : Hid (isHead s) := Lib.hid hI
    have HIS2 := Lib.hid (HIS.out.2 hI)
    clear HIS hI
    go_enter_defers Tryz.func13, Tryz.ntmps13
    go_upto_region 1 with fail
    go_cut [19] from 12 to 19 (fun s19 wx => s19 = .bool false ∧ wx = ((w.alloc (.cells #[.bool false, .int .i64 0, .int .i64 0, .int .i64 0, .int .i64 0, .int .i64 0, .int .i64 0, .int .i64 0] 42)).alloc (.cells #[.int .i64 0] 3)).alloc (.cells #[.int .i64 0] 28))
    case first =>
      cases h1 : Lib.hasPrefix s.data.toList [97, 97, 103, 32] with
      | true =>
        go_wp2_with fail
        refine (HK.out.pre _ _ _).mono ?_
        rintro e w' ⟨rfl, rfl⟩
        rw [show (⟨#[97, 97, 103, 32]⟩ : ByteArray).data.toList = [97, 97, 103, 32] from rfl, h1]
        go_wp2_with fail
        go_meet
        case rel => exact ⟨rfl, rfl⟩
      | false =>
        have h2 : Lib.hasPrefix s.data.toList [97, 105, 103, 32] = true := HIS2.out.resolve_left (by rw [h1]; simp)
        go_wp2_with fail
        refine (HK.out.pre _ _ _).mono ?_
        rintro e w' ⟨rfl, rfl⟩
        rw [show (⟨#[97, 97, 103, 32]⟩ : ByteArray).data.toList = [97, 97, 103, 32] from rfl, h1]
        go_wp2_with fail
        refine (HK.out.pre _ _ _).mono ?_
        rintro e w' ⟨rfl, rfl⟩
        rw [show (⟨#[97, 105, 103, 32]⟩ : ByteArray).data.toList = [97, 105, 103, 32] from rfl, h2]
        go_wp2_with fail
        go_meet
        case rel => exact ⟨rfl, rfl⟩
    case rest =>
    obtain ⟨rfl, rfl⟩ := hcut
    go_upto_block 0 with fail
    go_cut [] from 7 to 45 (fun wx => ∃ L p, HBlk s w wx p L ∧ headL s 9 4 [] = (L, p, 0) ∧ ∀ j, nth L j ≤ 16777216)
    case first =>
      go_wp2_with fail
      go_loopw [25] (fun v25 wr => ∃ p l, v25 = .int .i64 l.length ∧ l.length ≤ 8 ∧ p ≤ s.size ∧ (∀ j, nth l j ≤ 16777216) ∧ headL s (9 - l.length) p l = headL s 9 4 [] ∧ HBlk s w wr p l) (fun v25 _ => 9 - (intOf v25).toNat)
      case atStart => exact ⟨4, [], rfl, by simp, HI.out.1, fun j => by rw [nth_ge (by simp)]; omega, rfl, HN0.out⟩
      case round =>
        obtain ⟨p, l, rfl, hl, hp, hb, hrun, hR⟩ := hrel
        have HR := Lib.hid hR
        have HRUN := Lib.hid hrun
        have HBD := Lib.hid hb
        clear hR hrun hb
        obtain ⟨k, hk⟩ : ∃ k, l.length = k := ⟨_, rfl⟩
        have HL := Lib.hid hk
        rw [hk]
        have hk8 : k ≤ 8 := by omega
        clear hk hl
        have d9 : decide ((k : Int) < 9) = true := by simp; omega
        by_cases hk : k < 4
        · have d7 : decide ((7 : Int) ≤ (k : Int)) = false := by simp; omega
          have e8 : ((k : Int) == 8) = false := by rw [beq_eq_false_iff_ne]; omega
          have d4 : decide ((4 : Int) ≤ (k : Int)) = false := by simp; omega
          have HS := Lib.hid (fun (q b : Nat) (u : World) (hq : q ≤ s.size) (hB : Blk u b #[.string s, .int .i64 q] 77) => sign_k HK.out s q b k u ⟨#[32]⟩ hs hq (.inl ⟨hk, rfl⟩) hB)
          have HTop := Lib.hid (show (if 7 ≤ k then 0 else 16777216) = 16777216 by rw [if_neg (by omega)])
          have HNm := Lib.hid (fun (b : Nat) (u : World) (hB : Blk u b #[.string s, .int .i64 p] 77) => ascii_number (fun s' p' u' hs' hp' => HK.out.nat s' p' u' hs' hp') s p 16777216 b u (by omega) hp hB)
          obtain ⟨n, hn⟩ : ∃ n, (natN s p).1 = n := ⟨_, rfl⟩
          obtain ⟨q, hq⟩ : ∃ q, (natN s p).2.1 = q := ⟨_, rfl⟩
          obtain ⟨E, hE⟩ : ∃ E, numE s p 16777216 = E := ⟨_, rfl⟩
          simp only [hn, hq, hE] at HNm
          have HN := Lib.hid (And.intro hn (And.intro hq hE))
          have HKK := Lib.hid hk
          clear hk hn hq hE
          go_wp2_with fail
          refine (HNm.out _ _ HR.out.b3).mono ?_
          rintro o w1 hNum
          unfold NumP at hNum
          rcases hNum with ⟨rfl, rfl, hK1, hB1⟩ | ⟨he, rfl, hK1, hB1⟩
          · have HZ1 := Lib.hid (HR.out.reader hK1 hB1)
            clear hK1 hB1 HNm
            obtain ⟨hpq, hqs, hnt⟩ := numE_ok hp HN.out.1 HN.out.2.1 HN.out.2.2
            have HSt := Lib.hid (stepH_sign (k := k) HTop.out HN.out.1 HN.out.2.1 HN.out.2.2)
            obtain ⟨c4, f4⟩ := HZ1.out.at_ (k := k) (by omega)
            have HZ2 := Lib.hid (HZ1.out.store' n HL.out hk8)
            go_wp2_with fail
            clear c4 f4
            refine (HS.out q _ _ hqs HZ2.out.b3).mono ?_
            rintro o w2 hSg
            unfold SignP at hSg
            rcases hSg with ⟨hlt, hok, rfl, hK2, hB2⟩ | ⟨hqe, rfl, hK2, hB2⟩ | ⟨hlt, hok, rfl, hK2, hB2⟩
            · have HZ3 := Lib.hid (HZ2.out.reader hK2 hB2)
              have HOK := Lib.hid hok
              clear hK2 hB2 hok HS
              rw [if_neg (by omega)] at HSt
              by_cases h10 : bt s q = 10
              · have e10 : ((bt s q : Int) == 10) = true := by rw [beq_iff_eq]; omega
                exact absurd HOK.out (by have := HKK.out; unfold okS; simp; omega)
              · have e10 : ((bt s q : Int) == 10) = false := by rw [beq_eq_false_iff_ne]; omega
                have HSt3 := Lib.hid (HSt.out.trans (okS_more h10 HOK.out))
                clear h10
                go_wp2_with fail
                go_round
                case rel =>
                  refine ⟨q + 1, l ++ [n], by rw [List.length_append, HL.out]; rfl, by rw [List.length_append, HL.out]; have := HKK.out; simp; omega, by omega, nth_bound HBD.out n hnt (by decide), (headL_more_ HL.out hk8 HSt3.out).trans HRUN.out, HZ3.out⟩
                case measure => simp [intOf]; omega
            · have HZ := Lib.hid (HZ2.out.reader hK2 hB2)
              rw [if_pos hqe] at HSt
              clear hK2 hB2 hqe
              go_wp2_with fail
              refine leaves_cons (f := 30) (args := #[.pointer (some ⟨w.heap.size + 1, 0, none⟩), .pointer (some ⟨w.heap.size + 1 + 1, 0, none⟩)]) (by simp) (by simp [go_sem]) ?_
              refine (stopped_panicking (w.heap.size + 1) (w.heap.size + 1 + 1) _ _ _ _ [] _ (by omega) HZ.out.b1 HZ.out.b2).mono ?_
              rintro e u' w'' ⟨rfl, rfl, hA, hE, hK⟩
              exact head_stop (headT_bad HI.out (HRUN.out.symm.trans (headL_stop_ HL.out hk8 HSt.out (by decide))) (by decide)) (by rfl) (by rfl) (by rfl) HZ.out.b0 HZ.out.kp hA hE hK _
            · have HZ := Lib.hid (HZ2.out.reader hK2 hB2)
              have HSt2 := Lib.hid (HSt.out.trans (okS_no hlt hok))
              clear hK2 hB2 hok
              go_wp2_with fail
              refine leaves_cons (f := 30) (args := #[.pointer (some ⟨w.heap.size + 1, 0, none⟩), .pointer (some ⟨w.heap.size + 1 + 1, 0, none⟩)]) (by simp) (by simp [go_sem]) ?_
              refine (stopped_panicking (w.heap.size + 1) (w.heap.size + 1 + 1) _ _ _ _ [] _ (by omega) HZ.out.b1 HZ.out.b2).mono ?_
              rintro e u' w'' ⟨rfl, rfl, hA, hE, hK⟩
              exact head_stop (headT_bad HI.out (HRUN.out.symm.trans (headL_stop_ HL.out hk8 HSt2.out (by decide))) (by decide)) (by rfl) (by rfl) (by rfl) HZ.out.b0 HZ.out.kp hA hE hK _
          · have HZ := Lib.hid (HR.out.reader hK1 hB1)
            have HE := Lib.hid he
            clear hK1 hB1 he HNm HS
            go_wp2_with fail
            refine leaves_cons (f := 30) (args := #[.pointer (some ⟨w.heap.size + 1, 0, none⟩), .pointer (some ⟨w.heap.size + 1 + 1, 0, none⟩)]) (by simp) (by simp [go_sem]) ?_
            refine (stopped_panicking (w.heap.size + 1) (w.heap.size + 1 + 1) _ _ _ _ [] _ (by omega) HZ.out.b1 HZ.out.b2).mono ?_
            rintro e u' w'' ⟨rfl, rfl, hA, hE, hK⟩
            exact head_stop (headT_bad HI.out (HRUN.out.symm.trans (headL_stop_ HL.out hk8 (stepH_num HTop.out HN.out.2.2 HE.out) HE.out)) HE.out) (by rfl) (by rfl) (by rfl) HZ.out.b0 HZ.out.kp hA hE hK _
        by_cases hk : 4 ≤ k ∧ k < 7
        · have d7 : decide ((7 : Int) ≤ (k : Int)) = false := by simp; omega
          have e8 : ((k : Int) == 8) = false := by rw [beq_eq_false_iff_ne]; omega
          have d4 : decide ((4 : Int) ≤ (k : Int)) = true := by simp; omega
          have HS := Lib.hid (fun (q b : Nat) (u : World) (hq : q ≤ s.size) (hB : Blk u b #[.string s, .int .i64 q] 77) => sign_k HK.out s q b k u ⟨#[32, 10]⟩ hs hq (.inr (.inl ⟨hk.1, by omega, rfl⟩)) hB)
          have HTop := Lib.hid (show (if 7 ≤ k then 0 else 16777216) = 16777216 by rw [if_neg (by omega)])
          have HNm := Lib.hid (fun (b : Nat) (u : World) (hB : Blk u b #[.string s, .int .i64 p] 77) => ascii_number (fun s' p' u' hs' hp' => HK.out.nat s' p' u' hs' hp') s p 16777216 b u (by omega) hp hB)
          obtain ⟨n, hn⟩ : ∃ n, (natN s p).1 = n := ⟨_, rfl⟩
          obtain ⟨q, hq⟩ : ∃ q, (natN s p).2.1 = q := ⟨_, rfl⟩
          obtain ⟨E, hE⟩ : ∃ E, numE s p 16777216 = E := ⟨_, rfl⟩
          simp only [hn, hq, hE] at HNm
          have HN := Lib.hid (And.intro hn (And.intro hq hE))
          have HKK := Lib.hid hk
          clear hk hn hq hE
          go_wp2_with fail
          refine (HNm.out _ _ HR.out.b3).mono ?_
          rintro o w1 hNum
          unfold NumP at hNum
          rcases hNum with ⟨rfl, rfl, hK1, hB1⟩ | ⟨he, rfl, hK1, hB1⟩
          · have HZ1 := Lib.hid (HR.out.reader hK1 hB1)
            clear hK1 hB1 HNm
            obtain ⟨hpq, hqs, hnt⟩ := numE_ok hp HN.out.1 HN.out.2.1 HN.out.2.2
            have HSt := Lib.hid (stepH_sign (k := k) HTop.out HN.out.1 HN.out.2.1 HN.out.2.2)
            obtain ⟨c4, f4⟩ := HZ1.out.at_ (k := k) (by omega)
            have HZ2 := Lib.hid (HZ1.out.store' n HL.out hk8)
            go_wp2_with fail
            clear c4 f4
            refine (HS.out q _ _ hqs HZ2.out.b3).mono ?_
            rintro o w2 hSg
            unfold SignP at hSg
            rcases hSg with ⟨hlt, hok, rfl, hK2, hB2⟩ | ⟨hqe, rfl, hK2, hB2⟩ | ⟨hlt, hok, rfl, hK2, hB2⟩
            · have HZ3 := Lib.hid (HZ2.out.reader hK2 hB2)
              have HOK := Lib.hid hok
              clear hK2 hB2 hok HS
              rw [if_neg (by omega)] at HSt
              by_cases h10 : bt s q = 10
              · have e10 : ((bt s q : Int) == 10) = true := by rw [beq_iff_eq]; omega
                have HF := Lib.hid (HSt.out.trans (okS_fin h10 HOK.out))
                have HHL := Lib.hid (HRUN.out.symm.trans (headL_fin_ HL.out hk8 HF.out))
                clear h10
                go_wp2_with fail
                go_meet
                case rel => exact ⟨l ++ [n], q + 1, HZ3.out, HHL.out, nth_bound HBD.out n hnt (by decide)⟩
              · have e10 : ((bt s q : Int) == 10) = false := by rw [beq_eq_false_iff_ne]; omega
                have HSt3 := Lib.hid (HSt.out.trans (okS_more h10 HOK.out))
                clear h10
                go_wp2_with fail
                go_round
                case rel =>
                  refine ⟨q + 1, l ++ [n], by rw [List.length_append, HL.out]; rfl, by rw [List.length_append, HL.out]; have := HKK.out; simp; omega, by omega, nth_bound HBD.out n hnt (by decide), (headL_more_ HL.out hk8 HSt3.out).trans HRUN.out, HZ3.out⟩
                case measure => simp [intOf]; omega
            · have HZ := Lib.hid (HZ2.out.reader hK2 hB2)
              rw [if_pos hqe] at HSt
              clear hK2 hB2 hqe
              go_wp2_with fail
              refine leaves_cons (f := 30) (args := #[.pointer (some ⟨w.heap.size + 1, 0, none⟩), .pointer (some ⟨w.heap.size + 1 + 1, 0, none⟩)]) (by simp) (by simp [go_sem]) ?_
              refine (stopped_panicking (w.heap.size + 1) (w.heap.size + 1 + 1) _ _ _ _ [] _ (by omega) HZ.out.b1 HZ.out.b2).mono ?_
              rintro e u' w'' ⟨rfl, rfl, hA, hE, hK⟩
              exact head_stop (headT_bad HI.out (HRUN.out.symm.trans (headL_stop_ HL.out hk8 HSt.out (by decide))) (by decide)) (by rfl) (by rfl) (by rfl) HZ.out.b0 HZ.out.kp hA hE hK _
            · have HZ := Lib.hid (HZ2.out.reader hK2 hB2)
              have HSt2 := Lib.hid (HSt.out.trans (okS_no hlt hok))
              clear hK2 hB2 hok
              go_wp2_with fail
              refine leaves_cons (f := 30) (args := #[.pointer (some ⟨w.heap.size + 1, 0, none⟩), .pointer (some ⟨w.heap.size + 1 + 1, 0, none⟩)]) (by simp) (by simp [go_sem]) ?_
              refine (stopped_panicking (w.heap.size + 1) (w.heap.size + 1 + 1) _ _ _ _ [] _ (by omega) HZ.out.b1 HZ.out.b2).mono ?_
              rintro e u' w'' ⟨rfl, rfl, hA, hE, hK⟩
              exact head_stop (headT_bad HI.out (HRUN.out.symm.trans (headL_stop_ HL.out hk8 HSt2.out (by decide))) (by decide)) (by rfl) (by rfl) (by rfl) HZ.out.b0 HZ.out.kp hA hE hK _
          · have HZ := Lib.hid (HR.out.reader hK1 hB1)
            have HE := Lib.hid he
            clear hK1 hB1 he HNm HS
            go_wp2_with fail
            refine leaves_cons (f := 30) (args := #[.pointer (some ⟨w.heap.size + 1, 0, none⟩), .pointer (some ⟨w.heap.size + 1 + 1, 0, none⟩)]) (by simp) (by simp [go_sem]) ?_
            refine (stopped_panicking (w.heap.size + 1) (w.heap.size + 1 + 1) _ _ _ _ [] _ (by omega) HZ.out.b1 HZ.out.b2).mono ?_
            rintro e u' w'' ⟨rfl, rfl, hA, hE, hK⟩
            exact head_stop (headT_bad HI.out (HRUN.out.symm.trans (headL_stop_ HL.out hk8 (stepH_num HTop.out HN.out.2.2 HE.out) HE.out)) HE.out) (by rfl) (by rfl) (by rfl) HZ.out.b0 HZ.out.kp hA hE hK _
        by_cases hk : k = 7
        · have d7 : decide ((7 : Int) ≤ (k : Int)) = true := by simp; omega
          have e8 : ((k : Int) == 8) = false := by rw [beq_eq_false_iff_ne]; omega
          have d4 : decide ((4 : Int) ≤ (k : Int)) = true := by simp; omega
          have HS := Lib.hid (fun (q b : Nat) (u : World) (hq : q ≤ s.size) (hB : Blk u b #[.string s, .int .i64 q] 77) => sign_k HK.out s q b k u ⟨#[32, 10]⟩ hs hq (.inr (.inl ⟨by omega, by omega, rfl⟩)) hB)
          have HTop := Lib.hid (show (if 7 ≤ k then 0 else 16777216) = 0 by rw [if_pos (by omega)])
          have HNm := Lib.hid (fun (b : Nat) (u : World) (hB : Blk u b #[.string s, .int .i64 p] 77) => ascii_number (fun s' p' u' hs' hp' => HK.out.nat s' p' u' hs' hp') s p 0 b u (by omega) hp hB)
          obtain ⟨n, hn⟩ : ∃ n, (natN s p).1 = n := ⟨_, rfl⟩
          obtain ⟨q, hq⟩ : ∃ q, (natN s p).2.1 = q := ⟨_, rfl⟩
          obtain ⟨E, hE⟩ : ∃ E, numE s p 0 = E := ⟨_, rfl⟩
          simp only [hn, hq, hE] at HNm
          have HN := Lib.hid (And.intro hn (And.intro hq hE))
          have HKK := Lib.hid hk
          clear hk hn hq hE
          go_wp2_with fail
          refine (HNm.out _ _ HR.out.b3).mono ?_
          rintro o w1 hNum
          unfold NumP at hNum
          rcases hNum with ⟨rfl, rfl, hK1, hB1⟩ | ⟨he, rfl, hK1, hB1⟩
          · have HZ1 := Lib.hid (HR.out.reader hK1 hB1)
            clear hK1 hB1 HNm
            obtain ⟨hpq, hqs, hnt⟩ := numE_ok hp HN.out.1 HN.out.2.1 HN.out.2.2
            have HSt := Lib.hid (stepH_sign (k := k) HTop.out HN.out.1 HN.out.2.1 HN.out.2.2)
            obtain ⟨c4, f4⟩ := HZ1.out.at_ (k := k) (by omega)
            have HZ2 := Lib.hid (HZ1.out.store' n HL.out hk8)
            go_wp2_with fail
            clear c4 f4
            refine (HS.out q _ _ hqs HZ2.out.b3).mono ?_
            rintro o w2 hSg
            unfold SignP at hSg
            rcases hSg with ⟨hlt, hok, rfl, hK2, hB2⟩ | ⟨hqe, rfl, hK2, hB2⟩ | ⟨hlt, hok, rfl, hK2, hB2⟩
            · have HZ3 := Lib.hid (HZ2.out.reader hK2 hB2)
              have HOK := Lib.hid hok
              clear hK2 hB2 hok HS
              rw [if_neg (by omega)] at HSt
              by_cases h10 : bt s q = 10
              · have e10 : ((bt s q : Int) == 10) = true := by rw [beq_iff_eq]; omega
                have HF := Lib.hid (HSt.out.trans (okS_fin h10 HOK.out))
                have HHL := Lib.hid (HRUN.out.symm.trans (headL_fin_ HL.out hk8 HF.out))
                clear h10
                go_wp2_with fail
                go_meet
                case rel => exact ⟨l ++ [n], q + 1, HZ3.out, HHL.out, nth_bound HBD.out n hnt (by decide)⟩
              · have e10 : ((bt s q : Int) == 10) = false := by rw [beq_eq_false_iff_ne]; omega
                have HSt3 := Lib.hid (HSt.out.trans (okS_more h10 HOK.out))
                clear h10
                go_wp2_with fail
                go_round
                case rel =>
                  refine ⟨q + 1, l ++ [n], by rw [List.length_append, HL.out]; rfl, by rw [List.length_append, HL.out]; have := HKK.out; simp; omega, by omega, nth_bound HBD.out n hnt (by decide), (headL_more_ HL.out hk8 HSt3.out).trans HRUN.out, HZ3.out⟩
                case measure => simp [intOf]; omega
            · have HZ := Lib.hid (HZ2.out.reader hK2 hB2)
              rw [if_pos hqe] at HSt
              clear hK2 hB2 hqe
              go_wp2_with fail
              refine leaves_cons (f := 30) (args := #[.pointer (some ⟨w.heap.size + 1, 0, none⟩), .pointer (some ⟨w.heap.size + 1 + 1, 0, none⟩)]) (by simp) (by simp [go_sem]) ?_
              refine (stopped_panicking (w.heap.size + 1) (w.heap.size + 1 + 1) _ _ _ _ [] _ (by omega) HZ.out.b1 HZ.out.b2).mono ?_
              rintro e u' w'' ⟨rfl, rfl, hA, hE, hK⟩
              exact head_stop (headT_bad HI.out (HRUN.out.symm.trans (headL_stop_ HL.out hk8 HSt.out (by decide))) (by decide)) (by rfl) (by rfl) (by rfl) HZ.out.b0 HZ.out.kp hA hE hK _
            · have HZ := Lib.hid (HZ2.out.reader hK2 hB2)
              have HSt2 := Lib.hid (HSt.out.trans (okS_no hlt hok))
              clear hK2 hB2 hok
              go_wp2_with fail
              refine leaves_cons (f := 30) (args := #[.pointer (some ⟨w.heap.size + 1, 0, none⟩), .pointer (some ⟨w.heap.size + 1 + 1, 0, none⟩)]) (by simp) (by simp [go_sem]) ?_
              refine (stopped_panicking (w.heap.size + 1) (w.heap.size + 1 + 1) _ _ _ _ [] _ (by omega) HZ.out.b1 HZ.out.b2).mono ?_
              rintro e u' w'' ⟨rfl, rfl, hA, hE, hK⟩
              exact head_stop (headT_bad HI.out (HRUN.out.symm.trans (headL_stop_ HL.out hk8 HSt2.out (by decide))) (by decide)) (by rfl) (by rfl) (by rfl) HZ.out.b0 HZ.out.kp hA hE hK _
          · have HZ := Lib.hid (HR.out.reader hK1 hB1)
            have HE := Lib.hid he
            clear hK1 hB1 he HNm HS
            go_wp2_with fail
            refine leaves_cons (f := 30) (args := #[.pointer (some ⟨w.heap.size + 1, 0, none⟩), .pointer (some ⟨w.heap.size + 1 + 1, 0, none⟩)]) (by simp) (by simp [go_sem]) ?_
            refine (stopped_panicking (w.heap.size + 1) (w.heap.size + 1 + 1) _ _ _ _ [] _ (by omega) HZ.out.b1 HZ.out.b2).mono ?_
            rintro e u' w'' ⟨rfl, rfl, hA, hE, hK⟩
            exact head_stop (headT_bad HI.out (HRUN.out.symm.trans (headL_stop_ HL.out hk8 (stepH_num HTop.out HN.out.2.2 HE.out) HE.out)) HE.out) (by rfl) (by rfl) (by rfl) HZ.out.b0 HZ.out.kp hA hE hK _
        by_cases hk : k = 8
        · have d7 : decide ((7 : Int) ≤ (k : Int)) = true := by simp; omega
          have e8 : ((k : Int) == 8) = true := by rw [beq_iff_eq]; omega
          have HS := Lib.hid (fun (q b : Nat) (u : World) (hq : q ≤ s.size) (hB : Blk u b #[.string s, .int .i64 q] 77) => sign_k HK.out s q b k u ⟨#[10]⟩ hs hq (.inr (.inr ⟨hk, rfl⟩)) hB)
          have HTop := Lib.hid (show (if 7 ≤ k then 0 else 16777216) = 0 by rw [if_pos (by omega)])
          have HNm := Lib.hid (fun (b : Nat) (u : World) (hB : Blk u b #[.string s, .int .i64 p] 77) => ascii_number (fun s' p' u' hs' hp' => HK.out.nat s' p' u' hs' hp') s p 0 b u (by omega) hp hB)
          obtain ⟨n, hn⟩ : ∃ n, (natN s p).1 = n := ⟨_, rfl⟩
          obtain ⟨q, hq⟩ : ∃ q, (natN s p).2.1 = q := ⟨_, rfl⟩
          obtain ⟨E, hE⟩ : ∃ E, numE s p 0 = E := ⟨_, rfl⟩
          simp only [hn, hq, hE] at HNm
          have HN := Lib.hid (And.intro hn (And.intro hq hE))
          have HKK := Lib.hid hk
          clear hk hn hq hE
          go_wp2_with fail
          refine (HNm.out _ _ HR.out.b3).mono ?_
          rintro o w1 hNum
          unfold NumP at hNum
          rcases hNum with ⟨rfl, rfl, hK1, hB1⟩ | ⟨he, rfl, hK1, hB1⟩
          · have HZ1 := Lib.hid (HR.out.reader hK1 hB1)
            clear hK1 hB1 HNm
            obtain ⟨hpq, hqs, hnt⟩ := numE_ok hp HN.out.1 HN.out.2.1 HN.out.2.2
            have HSt := Lib.hid (stepH_sign (k := k) HTop.out HN.out.1 HN.out.2.1 HN.out.2.2)
            obtain ⟨c4, f4⟩ := HZ1.out.at_ (k := k) (by omega)
            have HZ2 := Lib.hid (HZ1.out.store' n HL.out hk8)
            go_wp2_with fail
            clear c4 f4
            refine (HS.out q _ _ hqs HZ2.out.b3).mono ?_
            rintro o w2 hSg
            unfold SignP at hSg
            rcases hSg with ⟨hlt, hok, rfl, hK2, hB2⟩ | ⟨hqe, rfl, hK2, hB2⟩ | ⟨hlt, hok, rfl, hK2, hB2⟩
            · have HZ3 := Lib.hid (HZ2.out.reader hK2 hB2)
              have HOK := Lib.hid hok
              clear hK2 hB2 hok HS
              rw [if_neg (by omega)] at HSt
              by_cases h10 : bt s q = 10
              · have e10 : ((bt s q : Int) == 10) = true := by rw [beq_iff_eq]; omega
                have HF := Lib.hid (HSt.out.trans (okS_fin h10 HOK.out))
                have HHL := Lib.hid (HRUN.out.symm.trans (headL_fin_ HL.out hk8 HF.out))
                clear h10
                go_wp2_with fail
                go_meet
                case rel => exact ⟨l ++ [n], q + 1, HZ3.out, HHL.out, nth_bound HBD.out n hnt (by decide)⟩
              · have e10 : ((bt s q : Int) == 10) = false := by rw [beq_eq_false_iff_ne]; omega
                exact absurd HOK.out (by have := HKK.out; unfold okS; simp; omega)
            · have HZ := Lib.hid (HZ2.out.reader hK2 hB2)
              rw [if_pos hqe] at HSt
              clear hK2 hB2 hqe
              go_wp2_with fail
              refine leaves_cons (f := 30) (args := #[.pointer (some ⟨w.heap.size + 1, 0, none⟩), .pointer (some ⟨w.heap.size + 1 + 1, 0, none⟩)]) (by simp) (by simp [go_sem]) ?_
              refine (stopped_panicking (w.heap.size + 1) (w.heap.size + 1 + 1) _ _ _ _ [] _ (by omega) HZ.out.b1 HZ.out.b2).mono ?_
              rintro e u' w'' ⟨rfl, rfl, hA, hE, hK⟩
              exact head_stop (headT_bad HI.out (HRUN.out.symm.trans (headL_stop_ HL.out hk8 HSt.out (by decide))) (by decide)) (by rfl) (by rfl) (by rfl) HZ.out.b0 HZ.out.kp hA hE hK _
            · have HZ := Lib.hid (HZ2.out.reader hK2 hB2)
              have HSt2 := Lib.hid (HSt.out.trans (okS_no hlt hok))
              clear hK2 hB2 hok
              go_wp2_with fail
              refine leaves_cons (f := 30) (args := #[.pointer (some ⟨w.heap.size + 1, 0, none⟩), .pointer (some ⟨w.heap.size + 1 + 1, 0, none⟩)]) (by simp) (by simp [go_sem]) ?_
              refine (stopped_panicking (w.heap.size + 1) (w.heap.size + 1 + 1) _ _ _ _ [] _ (by omega) HZ.out.b1 HZ.out.b2).mono ?_
              rintro e u' w'' ⟨rfl, rfl, hA, hE, hK⟩
              exact head_stop (headT_bad HI.out (HRUN.out.symm.trans (headL_stop_ HL.out hk8 HSt2.out (by decide))) (by decide)) (by rfl) (by rfl) (by rfl) HZ.out.b0 HZ.out.kp hA hE hK _
          · have HZ := Lib.hid (HR.out.reader hK1 hB1)
            have HE := Lib.hid he
            clear hK1 hB1 he HNm HS
            go_wp2_with fail
            refine leaves_cons (f := 30) (args := #[.pointer (some ⟨w.heap.size + 1, 0, none⟩), .pointer (some ⟨w.heap.size + 1 + 1, 0, none⟩)]) (by simp) (by simp [go_sem]) ?_
            refine (stopped_panicking (w.heap.size + 1) (w.heap.size + 1 + 1) _ _ _ _ [] _ (by omega) HZ.out.b1 HZ.out.b2).mono ?_
            rintro e u' w'' ⟨rfl, rfl, hA, hE, hK⟩
            exact head_stop (headT_bad HI.out (HRUN.out.symm.trans (headL_stop_ HL.out hk8 (stepH_num HTop.out HN.out.2.2 HE.out) HE.out)) HE.out) (by rfl) (by rfl) (by rfl) HZ.out.b0 HZ.out.kp hA hE hK _
        omega
    case rest =>
      obtain ⟨L, q, hZ, hHL, hBL⟩ := hcut
      have HZ3 := Lib.hid hZ
      have HHL := Lib.hid hHL
      have HBL := Lib.hid hBL
      clear hZ hHL hBL
      obtain ⟨q0, q1, q2, q3, q4, fz, fa, fe, ca, ce, cr⟩ := HZ3.out.outs
      have fz0 := fz 0
      have fz1 := fz 1
      have fz2 := fz 2
      have fz3 := fz 3
      have fz4 := fz 4
      have fz5 := fz 5
      have fz6 := fz 6
      have fz7 := fz 7
      clear fz
      obtain ⟨z0, z1, z2, z3, z4, z5, z6, z7⟩ := HZ3.out.b0.cells8
      have k0 := HBL.out 0
      have k1 := HBL.out 1
      have k2 := HBL.out 2
      have k4 := HBL.out 4
      have h4 := HI.out.1
      have l1 : (1 : Int) < (s.size : Int) := by omega
      have hb1 := bt_eq (s := s) (i := 1) (by omega)
      obtain ⟨bb, hbb⟩ : ∃ bb, ((bt s 1 : Int) == 105) = bb := ⟨_, rfl⟩
      have HBB := Lib.hid (show decide (bt s 1 = 105) = bb by rw [← hbb]; exact (int_beq (bt s 1) 105).symm)
      have haig : ∀ h, ((⟨#[97, 105, 103, 32]⟩ : ByteArray)[1]'h).toNat = 105 := fun _ => rfl
      have HQ : Hid (w.heap.size + 1 + 1 + 1 + 1 < wc.heap.size) := Lib.hid q4
      obtain ⟨wa, rfl⟩ : ∃ wa : World, wa = wc := ⟨_, rfl⟩
      go_upto_region 18 with fail
      go_cut [10] from 46 to 64 (fun s10 wx => ∃ nb, s10 = .pointer (some ⟨nb, 0, none⟩) ∧ HBlk s w wx q L ∧ w.heap.size + 1 + 1 + 1 + 1 < nb ∧ Blk wx nb (headC bb L) 42)
      case first =>
        clear q0 q1 q2 q3 q4 fa fe ca ce cr fz0 fz1 fz2 fz3 fz4 fz5 fz6 fz7 z0 z1 z2 z3 z4 z5 z6 z7 k0 k1 k2 k4 hmf
        go_region_held3 (fun u => u.cell? ⟨w.heap.size + 1 + 1 + 1 + 1, 0, none⟩ = some (.int .i64 (nth L 0)) ∧ u.cell? ⟨w.heap.size + 1 + 1 + 1 + 1, 1, none⟩ = some (.int .i64 (nth L 1)) ∧ u.cell? ⟨w.heap.size + 1 + 1 + 1 + 1, 2, none⟩ = some (.int .i64 (nth L 2)) ∧ u.cell? ⟨w.heap.size + 1 + 1 + 1 + 1, 3, none⟩ = some (.int .i64 (nth L 3)) ∧ u.cell? ⟨w.heap.size + 1 + 1 + 1 + 1, 4, none⟩ = some (.int .i64 (nth L 4)) ∧ u.cell? ⟨w.heap.size + 1 + 1 + 1 + 1, 5, none⟩ = some (.int .i64 (nth L 5)) ∧ u.cell? ⟨w.heap.size + 1 + 1 + 1 + 1, 6, none⟩ = some (.int .i64 (nth L 6))) (first | exact HZ3.out.cells | exact HZ3.out.drew.cells | exact (HZ3.out.alloc _).cells | exact (HZ3.out.drew.alloc _).cells | exact (HZ3.out.alloc _).drew.cells) (fail)
        all_goals go_wp2_with fail
        all_goals go_meet
        all_goals exact ⟨_, rfl, (HZ3.out.alloc _).drew, HQ.out, (Blk.new wa _ _).drew⟩
      case rest =>
        obtain ⟨nb, rfl, hZ4, hnb, hB⟩ := hcut
        clear q0 q1 q2 q3 q4 fa fe ca ce cr fz0 fz1 fz2 fz3 fz4 fz5 fz6 fz7 z0 z1 z2 z3 z4 z5 z6 z7 haig l1 hb1
        have HZ4 := Lib.hid hZ4
        have HB4 := Lib.hid hB
        have HNB := Lib.hid hnb
        obtain ⟨q0, q1, q2, q3, q4, fz, fa, fe, ca, ce, cr⟩ := hZ4.outs
        have fz0 := fz 0
        have fz1 := fz 1
        have fz2 := fz 2
        have fz3 := fz 3
        have fz4 := fz 4
        have fz5 := fz 5
        have fz6 := fz 6
        have fz7 := fz 7
        clear fz
        obtain ⟨z0, z1, z2, z3, z4, z5, z6, z7⟩ := hZ4.b0.cells8
        obtain ⟨y0, y1, y2, y3, y4, y5, y6, y7⟩ := hB.cells8
        clear hZ4 hB hnb
        have j0 := HNB.out
        have j1 : nb < wc.heap.size := HB4.out.lt
        by_cases C1 : nth L 0 < nth L 1 + nth L 2 + nth L 4
        · have t1 : decide ((nth L 0 : Int) < (nth L 1 : Int) + (nth L 2 : Int) + (nth L 4 : Int)) = true := by simp; omega
          have HT := Lib.hid (headT_sum HI.out HHL.out HBB.out (.inl C1))
          clear C1
          go_wp2_with fail
          refine leaves_cons (f := 30) (args := #[.pointer (some ⟨w.heap.size + 1, 0, none⟩), .pointer (some ⟨w.heap.size + 1 + 1, 0, none⟩)]) (by simp) (by simp [go_sem]) ?_
          refine (stopped_idle _ _ _).mono ?_
          rintro e u' w'' ⟨rfl, rfl, rfl⟩
          have hF := HZ4.out.fin (.bool false) (.int .i64 0) (.int .i64 0) (.int .i64 0) (.int .i64 0) (.int .i64 0) (.int .i64 0) (.int .i64 0) (.int .i64 4) (.int .i64 5)
          exact head_end HT.out rfl rfl rfl hF.1 hF.2.1 hF.2.2.1 hF.2.2.2
        · have t1 : decide ((nth L 0 : Int) < (nth L 1 : Int) + (nth L 2 : Int) + (nth L 4 : Int)) = false := by simp; omega
          cases bb with
          | false =>
            have HT := Lib.hid (headT_ok HI.out HHL.out HBB.out (fun h => by rcases h with h | ⟨h, _⟩; exact C1 h; cases h))
            clear C1
            go_wp2_with fail
            go_region
            all_goals go_wp2_with fail
            all_goals refine leaves_cons (f := 30) (args := #[.pointer (some ⟨w.heap.size + 1, 0, none⟩), .pointer (some ⟨w.heap.size + 1 + 1, 0, none⟩)]) (by simp) (by simp [go_sem]) ?_
            all_goals refine (stopped_idle _ _ _).mono ?_
            all_goals rintro e u' w'' ⟨rfl, rfl, rfl⟩
            have hF := HZ4.out.fin (.bool false) (.int .i64 (nth L 0)) (.int .i64 (nth L 1)) (.int .i64 (nth L 2)) (.int .i64 (nth L 3)) (.int .i64 (nth L 4)) (.int .i64 (nth L 5)) (.int .i64 (nth L 6)) (.int .i64 q) (.int .i64 0)
            all_goals exact head_end HT.out rfl rfl rfl hF.1.drew hF.2.1.drew hF.2.2.1.drew hF.2.2.2.drew
          | true =>
            by_cases C2 : nth L 1 + nth L 2 + nth L 4 < nth L 0
            · have t2 : decide ((nth L 1 : Int) + (nth L 2 : Int) + (nth L 4 : Int) < (nth L 0 : Int)) = true := by simp; omega
              have HT := Lib.hid (headT_sum HI.out HHL.out HBB.out (.inr ⟨rfl, C2⟩))
              clear C1 C2
              go_wp2_with fail
              refine leaves_cons (f := 30) (args := #[.pointer (some ⟨w.heap.size + 1, 0, none⟩), .pointer (some ⟨w.heap.size + 1 + 1, 0, none⟩)]) (by simp) (by simp [go_sem]) ?_
              refine (stopped_idle _ _ _).mono ?_
              rintro e u' w'' ⟨rfl, rfl, rfl⟩
              have hF := HZ4.out.fin (.bool false) (.int .i64 0) (.int .i64 0) (.int .i64 0) (.int .i64 0) (.int .i64 0) (.int .i64 0) (.int .i64 0) (.int .i64 4) (.int .i64 5)
              exact head_end HT.out rfl rfl rfl hF.1 hF.2.1 hF.2.2.1 hF.2.2.2
            · have t2 : decide ((nth L 1 : Int) + (nth L 2 : Int) + (nth L 4 : Int) < (nth L 0 : Int)) = false := by simp; omega
              have HT := Lib.hid (headT_ok HI.out HHL.out HBB.out (fun h => by rcases h with h | ⟨_, h⟩; exact C1 h; exact C2 h))
              clear C1 C2
              go_wp2_with fail
              go_region
              all_goals go_wp2_with fail
              all_goals refine leaves_cons (f := 30) (args := #[.pointer (some ⟨w.heap.size + 1, 0, none⟩), .pointer (some ⟨w.heap.size + 1 + 1, 0, none⟩)]) (by simp) (by simp [go_sem]) ?_
              all_goals refine (stopped_idle _ _ _).mono ?_
              all_goals rintro e u' w'' ⟨rfl, rfl, rfl⟩
              have hF := HZ4.out.fin (.bool true) (.int .i64 (nth L 0)) (.int .i64 (nth L 1)) (.int .i64 (nth L 2)) (.int .i64 (nth L 3)) (.int .i64 (nth L 4)) (.int .i64 (nth L 5)) (.int .i64 (nth L 6)) (.int .i64 q) (.int .i64 0)
              all_goals exact head_end HT.out rfl rfl rfl hF.1.drew hF.2.1.drew hF.2.2.1.drew hF.2.2.2.drew
  · have HT := Lib.hid (show headT s = (false, [], 0, 2) by unfold headT; rw [if_pos hI])
    have h1 : Lib.hasPrefix s.data.toList [97, 97, 103, 32] = false := by cases h : Lib.hasPrefix s.data.toList [97, 97, 103, 32]; rfl; exact absurd (HIS.out.1 (.inl h)) hI
    have h2 : Lib.hasPrefix s.data.toList [97, 105, 103, 32] = false := by cases h : Lib.hasPrefix s.data.toList [97, 105, 103, 32]; rfl; exact absurd (HIS.out.1 (.inr h)) hI
    clear hI HIS
    go_enter_defers Tryz.func13, Tryz.ntmps13
    go_wp2_with fail
    refine (HK.out.pre _ _ _).mono ?_
    rintro e w' ⟨rfl, rfl⟩
    rw [show (⟨#[97, 97, 103, 32]⟩ : ByteArray).data.toList = [97, 97, 103, 32] from rfl, h1]
    go_wp2_with fail
    refine (HK.out.pre _ _ _).mono ?_
    rintro e w' ⟨rfl, rfl⟩
    rw [show (⟨#[97, 105, 103, 32]⟩ : ByteArray).data.toList = [97, 105, 103, 32] from rfl, h2]
    go_wp2_with fail
    have key : ∀ (u : World) (c : Array Value) (t : TypeId) (n : Nat), u.heap.size = n → Blk (u.alloc (.cells c t)) n c t := fun u c t n h => by subst h; exact Blk.new u c t
    exact head_end HT.out rfl rfl rfl (((Blk.new w _ _).alloc _).alloc _) ((key _ _ _ _ (by simp)).alloc _) (key _ _ _ _ (by simp)) ((((Kp.refl _ w).alloc _).alloc _).alloc _)

end Go.Proofs.YtckmdcmkjmpiaaaGreatDoor

/-
  ascii.Read's two closures under any head: a literal with its sign; so many lines of one literal.
-/
namespace Go.Proofs.YtckmdcmkjmpiaaaGreatDoor
open Go.RowKit

theorem rdKA : RdK := ⟨fun s p u hs hp => octet_Nat_in s p u hs hp, fun s c u => Tryz.strings_IndexByte s c u, fun s p u => Tryz.strings_HasPrefix s p u⟩

def hdA (bin : Bool) (M : Int) (nI nL nO nA nB nC : Nat) : Array Value := #[.bool bin, .int .i64 M, .int .i64 (nI : Nat), .int .i64 (nL : Nat), .int .i64 (nO : Nat), .int .i64 (nA : Nat), .int .i64 (nB : Nat), .int .i64 (nC : Nat)]

/-- what the closures of a call of ascii.Read stand on -/
structure LB (hd : Array Value) (s : ByteArray) (bv bh br bl : Nat) (w : World) (p : Nat) : Prop where
  v : Blk w bv #[.pointer (some ⟨br, 0, none⟩)] 75
  h : Blk w bh hd 42
  r : Blk w br #[.string s, .int .i64 p] 77
  l : Blk w bl #[.func (Fn.func 67) #[] #[.pointer (some ⟨bv, 0, none⟩), .pointer (some ⟨bh, 0, none⟩)]] 126
  ne : bv ≠ br ∧ bh ≠ br ∧ bl ≠ br

theorem LB.kp {hd : Array Value} {s : ByteArray} {bv bh br bl p : Nat} {w w' : World} (h : LB hd s bv bh br bl w p) {S : Nat → Prop} (hK : Kp S w w') (h1 : ¬ S bv) (h2 : ¬ S bh) (h3 : ¬ S br) (h4 : ¬ S bl) : LB hd s bv bh br bl w' p :=
  ⟨h.v.kp hK h1, h.h.kp hK h2, h.r.kp hK h3, h.l.kp hK h4, h.ne⟩
theorem LB.read {hd : Array Value} {s : ByteArray} {bv bh br bl p q : Nat} {w w' : World} (h : LB hd s bv bh br bl w p) (hK : Kp (fun j => j = br) w w') (hB : Blk w' br #[.string s, .int .i64 q] 77) : LB hd s bv bh br bl w' q :=
  ⟨h.v.kp hK h.ne.1, h.h.kp hK h.ne.2.1, hB, h.l.kp hK h.ne.2.2, h.ne⟩

theorem idx32 : ∀ c, c < 256 → decide (Lib.indexByte (⟨#[32]⟩ : ByteArray).data.toList c.toUInt8 < 0) = !(ok32 c) := by unfold ok32; decide +kernel

/-- what a literal ends with -/
def LitP (hd : Array Value) (s : ByteArray) (bv bh br bl : Nat) (r : Nat × Nat × Nat × Nat) (w : World) (o : Ending) (w' : World) : Prop :=
  Kp (fun j => j = br) w w' ∧ ((r.2.2.2 = 0 ∧ o = .returned (.tuple #[.int .i64 (r.1 : Nat), .int .u8 (r.2.1 : Nat)]) ∧ LB hd s bv bh br bl w' r.2.2.1) ∨ (r.2.2.2 ≠ 0 ∧ o = .panicked [{ v := stopV (r.2.2.1 : Nat) (r.2.2.2 : Nat), recovered := false }]))

theorem numE_rd {s : ByteArray} {p top n q e : Nat} (h : rdD s (top : Int) (p, 0) = (n, q, e)) : (numE s p top = e ∧ (e ≠ 0 → q = p) ∧ (e = 0 → (natN s p).1 = n ∧ (natN s p).2.1 = q)) := by
  unfold rdD at h
  unfold numE
  simp only at h
  rw [if_neg (by simp)] at h
  by_cases c1 : (natN s p).2.2 ≠ 0
  · rw [if_pos c1] at h ⊢
    simp only [Prod.mk.injEq] at h
    exact ⟨h.2.2, fun _ => h.2.1.symm, fun he => absurd (h.2.2.trans he) c1⟩
  rw [if_neg c1] at h ⊢
  by_cases c2 : (top : Int) < ((natN s p).1 : Int)
  · rw [if_pos c2] at h
    rw [if_pos (by omega)]
    simp only [Prod.mk.injEq] at h
    exact ⟨h.2.2, fun _ => h.2.1.symm, fun he => by omega⟩
  · rw [if_neg c2] at h
    rw [if_neg (by omega)]
    simp only [Prod.mk.injEq] at h
    exact ⟨h.2.2, fun he => absurd h.2.2.symm he, fun _ => ⟨h.1, h.2.1⟩⟩

set_option maxRecDepth 100000 in
set_option maxHeartbeats 2000000 in
theorem asc_lit (s some_ : ByteArray) (ok : Nat → Bool) (p : Nat) (bin : Bool) (M nI nL nO nA nB nC : Nat) (bv bh br bl : Nat) (w : World) (hs : s.size ≤ 1000000) (hp : p ≤ s.size) (hM : M ≤ 16777216) (hidx : ∀ c, c < 256 → decide (Lib.indexByte some_.data.toList c.toUInt8 < 0) = !ok c) (hL : LB (hdA bin M nI nL nO nA nB nC) s bv bh br bl w p) :
    Calls Tryz.prog 67 #[.string some_, .pointer (some ⟨bv, 0, none⟩), .pointer (some ⟨bh, 0, none⟩)] w (LitP (hdA bin M nI nL nO nA nB nC) s bv bh br bl (rdL s (2 * (M : Int) + 1) ok (p, 0)) w) := by
  have HNm := Lib.hid (ascii_number (fun s' p' u' hs' hp' => rdKA.nat s' p' u' hs' hp') s p (2 * M + 1) br w (by omega) hp hL.r)
  have HSg := Lib.hid (fun (q : Nat) (u : World) (hq : q ≤ s.size) (hB : Blk u br #[.string s, .int .i64 q] 77) => ascii_sign s some_ q br (ok (bt s q)) _ u (by omega) hq (fun _ => by rw [Int.toNat_natCast]; exact hidx _ (bt_lt s q)) (fun v _ => rdKA.idx _ _ v) hB)
  unfold rdL
  obtain ⟨n, q, e, hD⟩ : ∃ n q e, rdD s (2 * (M : Int) + 1) (p, 0) = (n, q, e) := ⟨_, _, _, rfl⟩
  have hq := rdD_le (s := s) (top := 2 * (M : Int) + 1) (st := (p, 0)) hp
  rw [hD] at hq ⊢
  have hND := numE_rd (s := s) (p := p) (top := 2 * M + 1) (by rw [← hD]; rfl)
  simp only at hq ⊢
  rw [hND.1] at HNm
  obtain ⟨g, hg⟩ : ∃ g, rdS s ok (q, e) = g := ⟨_, rfl⟩
  rw [hg]
  have HG := Lib.hid hg
  have HND := Lib.hid hND
  have HQ := Lib.hid hq
  have HL := Lib.hid hL
  have v0 := hL.v.cells1.1
  have h1 : w.cell? ⟨bh, 1, none⟩ = some (.int .i64 M) := hL.h.cell rfl
  clear hL hD hND hidx hp hs hg hq
  go_enter Tryz.func67, Tryz.ntmps67
  go_wp2_with fail
  have HNm2 := Lib.hid HNm.out
  rw [show (((2 * M + 1 : Nat) : Int)) = 2 * (M : Int) + 1 by omega] at HNm2
  refine HNm2.out.mono ?_
  rintro o w1 hNum
  unfold NumP at hNum
  clear HNm HNm2
  rcases hNum with ⟨he, rfl, hK1, hB1⟩ | ⟨he, rfl, hK1, hB1⟩
  · subst he
    obtain ⟨hn1, hq1⟩ := HND.out.2.2 rfl
    rw [hq1] at hB1
    have HL1 := Lib.hid (HL.out.read hK1 hB1)
    have HK1 := Lib.hid hK1
    clear hK1 hB1 v0 h1
    have v0 := HL1.out.v.cells1.1
    rw [hn1]
    have HSq := Lib.hid (HSg.out q w1 HQ.out HL1.out.r)
    clear HSg
    clear hn1 hq1
    go_wp2_with fail
    refine HSq.out.mono ?_
    rintro o w2 hSg
    unfold SignP at hSg
    have hG := HG.out
    unfold rdS at hG
    simp only at hG
    rw [if_neg (by simp)] at hG
    rcases hSg with ⟨hlt, hok, rfl, hK2, hB2⟩ | ⟨hqe, rfl, hK2, hB2⟩ | ⟨hlt, hok, rfl, hK2, hB2⟩
    · rw [if_neg (by omega), if_neg (by rw [hok]; simp)] at hG
      subst hG
      have HF := Lib.hid (show LitP (hdA bin M nI nL nO nA nB nC) s bv bh br bl (n, bt s q, q + 1, 0) w (.returned (.tuple #[.int .i64 (n : Nat), .int .u8 (bt s q : Nat)])) w2 from ⟨HK1.out.trans hK2 (fun _ _ h => h), .inl ⟨rfl, rfl, HL1.out.read hK2 hB2⟩⟩)
      clear hK2 hB2
      go_wp2_with fail
      go_ret2
      exact HF.out
    · rw [if_pos hqe] at hG
      subst hG
      go_wp2_with fail
      exact ⟨rfl, HK1.out.trans hK2 (fun _ _ h => h), .inr ⟨by simp, rfl⟩⟩
    · rw [if_neg (by omega), if_pos hok] at hG
      subst hG
      go_wp2_with fail
      exact ⟨rfl, HK1.out.trans hK2 (fun _ _ h => h), .inr ⟨by simp, rfl⟩⟩
  · have hG := HG.out
    rw [rdS_stay (by simpa using he)] at hG
    subst hG
    have hqp := HND.out.2.1 he
    subst hqp
    go_wp2_with fail
    exact ⟨rfl, hK1, .inr ⟨he, rfl⟩⟩

/-- what so many lines end with -/
def LitsP (hd : Array Value) (s : ByteArray) (bv bh br bl B : Nat) (r : List Int × Nat × Nat) (w : World) (o : Ending) (w' : World) : Prop :=
  Kp (fun j => j = br) w w' ∧ ((r.2.2 = 0 ∧ ∃ v, o = .returned v ∧ Own w' B 3 v (iv r.1) ∧ LB hd s bv bh br bl w' r.2.1) ∨ (r.2.2 ≠ 0 ∧ o = .panicked [{ v := stopV (r.2.1 : Nat) (r.2.2 : Nat), recovered := false }]))


set_option maxRecDepth 100000 in
set_option maxHeartbeats 4000000 in
theorem asc_lits (s : ByteArray) (p : Nat) (many : Nat) (bin : Bool) (M nI nL nO nA nB nC : Nat) (bv bh br bl : Nat) (w : World) (hs : s.size ≤ 1000000) (hp : p ≤ s.size) (hM : M ≤ 16777216) (hm : many ≤ 20000000) (hL : LB (hdA bin M nI nL nO nA nB nC) s bv bh br bl w p) :
    Calls Tryz.prog 68 #[.int .i64 (many : Nat), .pointer (some ⟨bl, 0, none⟩)] w (LitsP (hdA bin M nI nL nO nA nB nC) s bv bh br bl w.heap.size (rdLits s (2 * (M : Int) + 1) many [] (p, 0)) w) := by
  have HLit := Lib.hid (fun (q : Nat) (u : World) (hq : q ≤ s.size) (hL : LB (hdA bin M nI nL nO nA nB nC) s bv bh br bl u q) => asc_lit s ⟨#[10]⟩ (fun c => c == 10) q bin M nI nL nO nA nB nC bv bh br bl u hs hq hM idx10 hL)
  have HL := Lib.hid hL
  have wint := wint_info
  obtain ⟨top, htop⟩ : ∃ top, 2 * (M : Int) + 1 = top := ⟨_, rfl⟩
  obtain ⟨hd, hhd⟩ : ∃ hd, hdA bin M nI nL nO nA nB nC = hd := ⟨_, rfl⟩
  rw [htop] at HLit ⊢
  rw [hhd] at HLit HL ⊢
  clear hL htop hhd
  go_enter Tryz.func68, Tryz.ntmps68
  go_wp2_with fail
  go_loopw [4, 8] (fun v4 v8 wr => ∃ (k : Nat) (L : List Int) (q : Nat), v8 = .int .i64 k ∧ k ≤ many ∧ L.length = k ∧ rdLits s top many [] (p, 0) = rdLits s top (many - k) L (q, 0) ∧ q ≤ s.size ∧ Own wr w.heap.size 3 v4 (iv L) ∧ LB hd s bv bh br bl wr q ∧ Kp (fun j => j = br) w wr) (fun _ v8 _ => many - (intOf v8).toNat)
  case atStart => exact ⟨0, [], p, rfl, by omega, rfl, rfl, hp, Own.nil _ _ _, HL.out, Kp.refl _ _⟩
  case round =>
    obtain ⟨k, L, q, rfl, hk, hLn, hE, hq, hO, hB, hK⟩ := hrel
    obtain ⟨wp, rfl⟩ : ∃ wp : World, wp = wr := ⟨_, rfl⟩
    have HO := Lib.hid hO
    have HK := Lib.hid hK
    have HE := Lib.hid hE
    have HLn := Lib.hid hLn
    have l0 := hB.l.cells1.1
    have HB := Lib.hid hB
    have HCall := Lib.hid (HLit.out q wp hq hB)
    clear hO hK hE hLn hB
    by_cases hlt : k < many
    · obtain ⟨r, hr⟩ : ∃ r, rdL s top (fun c => c == 10) (q, 0) = r := ⟨_, rfl⟩
      obtain ⟨n, c, q2, e2⟩ := r
      have hq2 : q2 ≤ s.size := by have := rdL_le (s := s) (top := top) (ok := fun c => c == 10) (st := (q, 0)) hq; rw [hr] at this; exact this
      rw [hr] at HCall
      obtain ⟨j, hj⟩ : ∃ j, many - k = j + 1 := ⟨many - k - 1, by omega⟩
      have hstep : rdLits s top (j + 1) L (q, 0) = if c ≠ 10 then ([], (q2, e2)) else rdLits s top j (L ++ [(n : Int)]) (q2, e2) := by
        have h1 : (rdD s top (q, 0)).1 = n := by have := congrArg (·.1) hr; exact this
        have h2 : rdS s (fun c => c == 10) (rdD s top (q, 0)).2 = (c, q2, e2) := by have := congrArg (·.2) hr; exact this
        show (if (rdS s (fun c => c == 10) (rdD s top (q, 0)).2).1 ≠ 10 then _ else _) = _
        rw [h2, h1]
      have hc10 : e2 = 0 → c = 10 := fun h => by
        have h2 : rdS s (fun c => c == 10) (rdD s top (q, 0)).2 = (c, q2, e2) := by have := congrArg (·.2) hr; exact this
        subst h
        by_cases h10 : c = 10
        · exact h10
        · exfalso
          have := rdLits_len (s := s) (top := top) (m := 1) (L := []) (st := (q, 0)) (by
            show (if (rdS s (fun c => c == 10) (rdD s top (q, 0)).2).1 ≠ 10 then (([] : List Int), (rdS s (fun c => c == 10) (rdD s top (q, 0)).2).2) else _).2.2 = 0
            rw [h2, if_pos h10])
          have h3 : rdLits s top 1 [] (q, 0) = ([], (q2, 0)) := by
            show (if (rdS s (fun c => c == 10) (rdD s top (q, 0)).2).1 ≠ 10 then (([] : List Int), (rdS s (fun c => c == 10) (rdD s top (q, 0)).2).2) else _) = _
            rw [h2, if_pos h10]
          rw [h3] at this
          simp at this
      have hc0 : e2 ≠ 0 → c ≠ 10 := fun h h10 => by
        have h2 : rdS s (fun c => c == 10) (rdD s top (q, 0)).2 = (c, q2, e2) := by have := congrArg (·.2) hr; exact this
        obtain ⟨d1, d2, d3⟩ := rdD s top (q, 0)
        unfold rdS at h2
        simp only at h2
        split at h2
        · simp only [Prod.mk.injEq] at h2; omega
        · split at h2
          · simp only [Prod.mk.injEq] at h2; omega
          · split at h2
            · simp only [Prod.mk.injEq] at h2; omega
            · simp only [Prod.mk.injEq] at h2; omega
      rw [hj, hstep] at HE
      have HJ := Lib.hid (show many - (k + 1) = j by omega)
      clear hr hj hstep hq
      go_wp2_with fail
      refine HCall.out.mono ?_
      rintro e w1 ⟨hK1, hC⟩
      have HK1 := Lib.hid (HK.out.trans hK1 (fun _ _ h => h))
      have Hk1 := Lib.hid hK1
      clear hK1
      rcases hC with ⟨he, rfl, hB1⟩ | ⟨he, rfl⟩
      · simp only at he
        subst he
        obtain rfl := hc10 rfl
        rw [if_neg (by simp)] at HE
        simp only at hB1
        have hO1 : Own w1 w.heap.size 3 u4 (iv L) := HO.out.kp Hk1.out (fun j hj e => by have := (HO.out.lt j hj).1; have e2 : j = br := e; have := HL.out.r.lt; omega)
        have HOw := Lib.hid (hO1.alloc (.cells #[.int .i64 (n : Int)] 3))
        have HNew := Lib.hid (Blk.new w1 #[.int .i64 (n : Int)] 3)
        have HB1 := Lib.hid hB1
        have hws : w.heap.size ≤ w1.heap.size := HK1.out.size
        clear hO1 hB1 hc10 hc0 HCall l0
        go_wp2_with (at_builtin; refine wpList_append1_at rfl _ _ 22 3 rfl Tryz.underlying22 wint rfl HOw.out rfl ⟨w1.heap.size, 0, none⟩ (.int .i64 (n : Int)) rfl (HNew.out.cell rfl) rfl ?d1 ?d2 ?d3 ?_)
        case d1 => rw [iv_length, HLn.out]; omega
        case d2 => rw [iv_length, HLn.out]; unfold maxLen; omega
        case d3 => simp; omega
        intro v' w3 hO3 hg3 hat3
        have hkg : Kp (fun j => u4.ownBlock = some j) w1 w3 := ((Kp.refl _ _).alloc _).grown hg3 (fun j hj _ => hj)
        have hof := fun j (h : u4.ownBlock = some j) => (HO.out.lt j h).1
        have hlL := HL.out
        have HF := Lib.hid (show Own w3 w.heap.size 3 v' (iv (L ++ [(n : Int)])) ∧ LB hd s bv bh br bl w3 q2 ∧ Kp (fun j => j = br) w w3 from ⟨by rw [iv_append]; exact hO3, HB1.out.kp hkg (fun e => by have := hof _ e; have := hlL.v.lt; omega) (fun e => by have := hof _ e; have := hlL.h.lt; omega) (fun e => by have := hof _ e; have := hlL.r.lt; omega) (fun e => by have := hof _ e; have := hlL.l.lt; omega), HK1.out.trans hkg (fun j hj e => by have := hof _ e; omega)⟩)
        clear hO3 hg3 hat3 hkg hof HNew HOw hlL
        go_wp2_with fail
        go_roundw
        case rel => exact ⟨k + 1, L ++ [(n : Int)], q2, by go_num, by omega, by rw [List.length_append, HLn.out]; rfl, by rw [HJ.out]; exact HE.out, hq2, HF.out⟩
        case measure => simp [intOf]; omega
      · have hcn := hc0 he
        rw [if_pos hcn] at HE
        have HE2 := Lib.hid he
        clear he hcn hc0 hc10
        go_wp2_with fail
        refine ⟨rfl, ?_⟩
        rw [HE.out]
        exact ⟨HK1.out, .inr ⟨HE2.out, rfl⟩⟩
    · obtain rfl : k = many := by omega
      rw [Nat.sub_self] at HE
      have HF := Lib.hid (show LitsP hd s bv bh br bl w.heap.size (rdLits s top k [] (p, 0)) w (.returned u4) wp by rw [HE.out]; exact ⟨HK.out, .inl ⟨rfl, _, rfl, HO.out, HB.out⟩⟩)
      clear HCall hq l0
      go_wp2_with fail
      go_ret
      exact HF.out

end Go.Proofs.YtckmdcmkjmpiaaaGreatDoor
