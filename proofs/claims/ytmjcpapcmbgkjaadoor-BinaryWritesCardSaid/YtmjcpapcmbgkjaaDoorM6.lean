/-
  The law of loose regions, with guards, and with calls that stand in one order and turn old memory: what the memory is, is told by how
  many of them are done.
-/
import Derived.Test.YtmjcpapcmbgkjaaDoorM5
import Derived.Test.YtmjcpapcmbgkjaaDoorM4
import Derived.Test.YtmjcpapcmbgkjaaDoorM1
set_option linter.unusedVariables false
set_option linter.unusedSimpArgs false
namespace Go.Proofs.YtmjcpapcmbgkjaaDoor
open Go Go.RowKit

def cntC (c : Nat → Bool) (n : Nat) (listed : Array Bool) : Nat := (List.range n).countP (fun i => c i && listed.getD i false)

theorem cntC_succ (c : Nat → Bool) (n : Nat) (listed : Array Bool) : cntC c (n + 1) listed = cntC c n listed + (if (c n && listed.getD n false) = true then 1 else 0) := by
  unfold cntC
  rw [List.range_succ, List.countP_append]
  simp [List.countP_cons]

theorem cntC_zero (c : Nat → Bool) (n m : Nat) : cntC c n (Array.replicate m false) = 0 := by
  induction n with
  | zero => rfl
  | succ n ih =>
    rw [cntC_succ, ih]
    have : (Array.replicate m false).getD n false = false := by
      simp [Array.getD_eq_getD_getElem?, Array.getElem?_replicate]
      split <;> simp
    rw [this]
    simp

theorem getD_set {listed : Array Bool} {i j : Nat} (h : j ≠ i) : (listed.setIfInBounds i true).getD j false = listed.getD j false := by
  simp only [Array.getD_eq_getD_getElem?, Array.getElem?_setIfInBounds]
  rw [if_neg (fun e => h e.symm)]

theorem cntC_set_ne {c : Nat → Bool} {listed : Array Bool} {i : Nat} (hc : c i = false) : ∀ n, cntC c n (listed.setIfInBounds i true) = cntC c n listed
  | 0 => rfl
  | n + 1 => by
    rw [cntC_succ, cntC_succ, cntC_set_ne hc n]
    by_cases e : n = i
    · subst e; rw [hc]; simp
    · rw [getD_set e]

theorem cntC_far {c : Nat → Bool} {listed : Array Bool} {i : Nat} : ∀ n, n ≤ i → cntC c n (listed.setIfInBounds i true) = cntC c n listed
  | 0, _ => rfl
  | n + 1, h => by rw [cntC_succ, cntC_succ, cntC_far n (by omega), getD_set (by omega)]

theorem cntC_set {c : Nat → Bool} {listed : Array Bool} {i : Nat} (hi : i < listed.size) (hu : listed.getD i false = false) (hc : c i = true) : ∀ n, i < n → cntC c n (listed.setIfInBounds i true) = cntC c n listed + 1
  | 0, h => by omega
  | n + 1, h => by
    rw [cntC_succ, cntC_succ]
    by_cases e : i = n
    · subst e
      rw [cntC_far i (Nat.le_refl _), hc, hu]
      have h1 : (listed.setIfInBounds i true).getD i false = true := by simp [Array.getD_eq_getD_getElem?, hi]
      rw [h1]
      simp
    · rw [cntC_set hi hu hc n (by omega), getD_set (fun h => e h.symm)]
      omega

theorem cntC_num {c : Nat → Bool} {listed : Array Bool} {i : Nat} : ∀ {n : Nat}, (∀ j, j < n → c j = true → (listed.getD j false = true ↔ j < i)) → i ≤ n → cntC c n listed = (List.range i).countP c := by
  have low : ∀ n, n ≤ i → (∀ j, j < n → c j = true → (listed.getD j false = true ↔ j < i)) → cntC c n listed = (List.range n).countP c := by
    intro n hn h
    induction n with
    | zero => rfl
    | succ n ih =>
      rw [cntC_succ, ih (by omega) (fun j hj => h j (by omega)), List.range_succ, List.countP_append]
      by_cases hc : c n = true
      · rw [hc, (h n (by omega) hc).2 (by omega)]
        simp [hc]
      · have hc' : c n = false := by simpa using hc
        simp [hc']
  intro n h hn
  induction n with
  | zero =>
    obtain rfl : i = 0 := Nat.le_zero.1 hn
    rfl
  | succ n ih =>
    by_cases e : i = n + 1
    · subst e
      exact low _ (Nat.le_refl _) h
    · rw [cntC_succ, ih (fun j hj => h j (by omega)) (by omega)]
      by_cases hc : c n = true
      · have : listed.getD n false = false := by
          have := h n (by omega) hc
          by_cases hl : listed.getD n false = true
          · have := this.1 hl; omega
          · simpa using hl
        rw [this]
        simp
      · have hc' : c n = false := by simpa using hc
        simp [hc']

def chainB (ops : Array Oper) (c : Nat → Bool) : Bool := (List.range ops.size).all (fun j => !c j || (List.range j).all (fun i => !c i || (clo ops 6 (edgesOf ops j)).contains i))
theorem chainB_spec {ops : Array Oper} {c : Nat → Bool} (h : chainB ops c = true) : ∀ i j, c i = true → c j = true → i < j → j < ops.size → i ∈ clo ops 6 (edgesOf ops j) := by
  intro i j hi hj hij hjs
  unfold chainB at h
  rw [List.all_eq_true] at h
  have h1 := h j (List.mem_range.2 hjs)
  rw [hj, Bool.not_true, Bool.false_or, List.all_eq_true] at h1
  have h2 := h1 i (List.mem_range.2 hij)
  rw [hi, Bool.not_true, Bool.false_or] at h2
  simpa using h2


/-- how many calls stand before operation i -/
def numC (c : Nat → Bool) (i : Nat) : Nat := (List.range i).countP c
theorem numC_lt {c : Nat → Bool} {j : Nat} (hc : c j = true) : ∀ {i : Nat}, j < i → numC c j < numC c i
  | 0, h => by omega
  | i + 1, h => by
    have e : numC c (i + 1) = numC c i + (if c i = true then 1 else 0) := by
      unfold numC
      rw [List.range_succ, List.countP_append]
      simp [List.countP_cons]
    rw [e]
    by_cases hji : j = i
    · subst hji; rw [if_pos hc]; omega
    · have := numC_lt hc (i := i) (by omega)
      omega

theorem numC_succ (c : Nat → Bool) (i : Nat) : numC c (i + 1) = numC c i + (if c i = true then 1 else 0) := by
  unfold numC
  rw [List.range_succ, List.countP_append]
  simp [List.countP_cons]
theorem cntC_le {c : Nat → Bool} {listed : Array Bool} {j : Nat} : ∀ n, (∀ k, k < n → c k = true → listed.getD k false = true → k < j) → cntC c n listed ≤ numC c (min n j)
  | 0, _ => by simp [cntC]
  | n + 1, h => by
    have ih := cntC_le (c := c) (listed := listed) (j := j) n (fun k hk => h k (by omega))
    rw [cntC_succ]
    by_cases hn : n < j
    · rw [Nat.min_eq_left (by omega), numC_succ]
      rw [Nat.min_eq_left (by omega)] at ih
      by_cases hc : c n = true
      · rw [if_pos hc]
        split <;> omega
      · have hc' : c n = false := by simpa using hc
        rw [hc']
        simpa using ih
    · have : (c n && listed.getD n false) = false := by
        by_cases hb : (c n && listed.getD n false) = true
        · rw [Bool.and_eq_true] at hb
          exact absurd (h n (by omega) hb.1 hb.2) hn
        · simpa using hb
      rw [this]
      rw [Nat.min_eq_right (by omega)] at ih ⊢
      simpa using ih

/-- what an operation that comes behind some calls may know of their results -/
def Told (ops : Array Oper) (c : Nat → Bool) (vs : List Value) (a : Act) (P : Nat → Prop) : Prop := ∀ (j : Nat) (oj : Oper) (d : Nat), P j → c j = true → ops[j]? = some oj → oj.dst = some d → a.tmps.getD d undef = vs.getD (numC c j) undef

/-- how the operations hang together: those of p come first -/
structure LooseSOK (ops : Array Oper) (p : Nat → Bool) (N : Nat) : Prop where
  low : ∀ (i : Nat) (o : Oper), ops[i]? = some o → p i = true → ∀ e ∈ o.after, Region.binds .any e = true → e.on < i ∧ p e.on = true
  dst : ∀ (i : Nat) (o : Oper), ops[i]? = some o → p i = true → ∀ d, o.dst = some d → d < N
  inj : ∀ (i j : Nat) (o o' : Oper), ops[i]? = some o → ops[j]? = some o' → p i = true → p j = true → ∀ d, o.dst = some d → o'.dst = some d → i = j
  bar : ∀ (i : Nat) (o : Oper), ops[i]? = some o → p i = false → ∀ j, j < ops.size → p j = true → j ∈ clo ops 6 (edgesOf ops i)

def looseSB (ops : Array Oper) (p : Nat → Bool) (N : Nat) : Bool :=
  (List.range ops.size).all fun i => match ops[i]? with
    | none => true
    | some o => (if p i then
        o.after.all (fun e => !Region.binds .any e || (decide (e.on < i) && p e.on)) &&
          (match o.dst with
            | none => true
            | some d => decide (d < N) && (List.range ops.size).all (fun j => !p j || decide (j = i) || (match ops[j]? with | none => true | some o' => decide (o'.dst ≠ some d))))
      else (List.range ops.size).all (fun j => !p j || (clo ops 6 (edgesOf ops i)).contains j))

theorem looseSB_spec {ops : Array Oper} {p : Nat → Bool} {N : Nat} (h : looseSB ops p N = true) : LooseSOK ops p N := by
  unfold looseSB at h
  rw [List.all_eq_true] at h
  have get : ∀ (i : Nat) (o : Oper), ops[i]? = some o → (if p i then
        o.after.all (fun e => !Region.binds .any e || (decide (e.on < i) && p e.on)) &&
          (match o.dst with
            | none => true
            | some d => decide (d < N) && (List.range ops.size).all (fun j => !p j || decide (j = i) || (match ops[j]? with | none => true | some o' => decide (o'.dst ≠ some d))))
      else (List.range ops.size).all (fun j => !p j || (clo ops 6 (edgesOf ops i)).contains j)) = true := fun i o ho => by
    have hi : i < ops.size := (Array.getElem?_eq_some_iff.1 ho).1
    have := h i (List.mem_range.2 hi)
    simp only [ho] at this
    exact this
  refine ⟨fun i o ho hp e he hb => ?_, fun i o ho hp d hd => ?_, fun i j o o' ho ho' hp hp' d hd hd' => ?_, fun i o ho hp j hj hpj => ?_⟩
  · have := (get i o ho)
    rw [if_pos hp, Bool.and_eq_true] at this
    have h1 := this.1
    rw [Array.all_eq_true_iff_forall_mem] at h1
    have h2 := h1 e he
    rw [hb] at h2
    simpa using h2
  · have := (get i o ho)
    rw [if_pos hp, Bool.and_eq_true] at this
    have h1 := this.2
    rw [hd] at h1
    simp only [Bool.and_eq_true, decide_eq_true_eq] at h1
    exact h1.1
  · have := (get i o ho)
    rw [if_pos hp, Bool.and_eq_true] at this
    have h1 := this.2
    rw [hd] at h1
    simp only [Bool.and_eq_true] at h1
    have h2 := h1.2
    rw [List.all_eq_true] at h2
    have h3 := h2 j (List.mem_range.2 (Array.getElem?_eq_some_iff.1 ho').1)
    rw [hp', ho'] at h3
    simp only [Bool.not_true, Bool.false_or, Bool.or_eq_true, decide_eq_true_eq] at h3
    rcases h3 with h3 | h3
    · exact h3.symm
    · exact absurd hd' h3
  · have := (get i o ho)
    rw [if_neg (by simp [hp]), List.all_eq_true] at this
    have h1 := this j (List.mem_range.2 hj)
    rw [hpj, Bool.not_true, Bool.false_or] at h1
    simpa using h1

/-- behind those that are listed -/
structure LInvS (ops : Array Oper) (V : Nat → World → Value → Prop) (R : World → World → Prop) (W : List Value → World → Prop) (c : Nat → Bool) (vs : List Value) (w0 : World) (a0 : Act) (L : Nat → Prop) (a : Act) (u : World) : Prop where
  rel : R w0 u
  st : W vs u
  told : Told ops c vs a L
  val : ∀ (i : Nat) (o : Oper) (d : Nat), ops[i]? = some o → L i → o.dst = some d → V i u (a.tmps.getD d undef)
  off : ∀ s, (∀ (i : Nat) (o : Oper), ops[i]? = some o → L i → o.dst ≠ some s) → a.tmps.getD s undef = a0.tmps.getD s undef
  size : a.tmps.size = a0.tmps.size
  defers : a.defers = a0.defers

/-- an operation that is done, or is passed by: vs are the results of the calls before it; nx: what they are behind it -/
def LS (P : Program) (ops : Array Oper) (Q : Exit → Act → World → Prop) (V : Nat → World → Value → Prop) (R : World → World → Prop) (W : List Value → World → Prop) (vs : List Value) (ch : Bool) (i : Nat) (o : Oper) (a : Act) (u : World) : Prop :=
  (Region.wanted o (yielded ops a.tmps) = true ∧ o.wp P a u (fun a' u' => ∃ v, a' = a.put o.dst v ∧ R u u' ∧ W (if ch then vs ++ [v] else vs) u' ∧ V i u' v) Q) ∨ (Region.wanted o (yielded ops a.tmps) = false ∧ R u u ∧ W (if ch then vs ++ [undef] else vs) u ∧ V i u undef)

section
variable {P : Program} {ops : Array Oper} {Q : Exit → Act → World → Prop} {V : Nat → World → Value → Prop} {R : World → World → Prop} {W : List Value → World → Prop} {vs : List Value} {ch : Bool} {i : Nat} {o : Oper} {a : Act} {u : World}
theorem ls_none (hg : o.guard = none) (h : o.wp P a u (fun a' u' => ∃ v, a' = a.put o.dst v ∧ R u u' ∧ W (if ch then vs ++ [v] else vs) u' ∧ V i u' v) Q) : LS P ops Q V R W vs ch i o a u :=
  .inl ⟨by unfold Region.wanted; rw [hg], h⟩
theorem ls_on {g x : Nat} {b : Bool} (hg : o.guard = some (g, b)) (hd : (ops[g]?).bind (·.dst) = some x) (hx : a.tmps[x]?.getD undef = .bool b) (h : o.wp P a u (fun a' u' => ∃ v, a' = a.put o.dst v ∧ R u u' ∧ W (if ch then vs ++ [v] else vs) u' ∧ V i u' v) Q) : LS P ops Q V R W vs ch i o a u :=
  .inl ⟨by unfold Region.wanted; rw [hg]; simp only [yielded_at hd hx]; exact beq_self_eq_true _, h⟩
theorem ls_off {g x : Nat} {b d : Bool} (hg : o.guard = some (g, b)) (hd : (ops[g]?).bind (·.dst) = some x) (hx : a.tmps[x]?.getD undef = .bool d) (hbc : (d == b) = false) (hr : R u u) (hw : W (if ch then vs ++ [undef] else vs) u) (h : V i u undef) : LS P ops Q V R W vs ch i o a u :=
  .inr ⟨by unfold Region.wanted; rw [hg]; simp only [yielded_at hd hx]; cases b <;> cases d <;> first | rfl | (simp at hbc), hr, hw, h⟩

theorem ls_value {v : Value} {u' : World} (h : (execOp a.eval o).run P u = .ok (.value v) u') (hr : R u u') (hw : W (if ch then vs ++ [v] else vs) u') (hv : V i u' v) : o.wp P a u (fun a' u' => ∃ v, a' = a.put o.dst v ∧ R u u' ∧ W (if ch then vs ++ [v] else vs) u' ∧ V i u' v) Q := by
  unfold Oper.wp
  rw [h]
  exact ⟨v, rfl, hr, hw, hv⟩
theorem ls_call {f : FuncId} {args : Array Value} (h : (execOp a.eval o).run P u = .ok (.enter f args) u)
    (hc : Calls P f args u fun e u' => ∃ v, e = .returned v ∧ R u u' ∧ W (if ch then vs ++ [v] else vs) u' ∧ V i u' v) : o.wp P a u (fun a' u' => ∃ v, a' = a.put o.dst v ∧ R u u' ∧ W (if ch then vs ++ [v] else vs) u' ∧ V i u' v) Q := by
  unfold Oper.wp
  rw [h]
  refine hc.mono ?_
  rintro e u' ⟨v, rfl, hK⟩
  exact ⟨v, rfl, hK⟩
theorem ls_skip {u' : World} (h : (execOp a.eval o).run P u = .ok .skip u') (hr : R u u') (hw : W (if ch then vs ++ [undef] else vs) u') (hv : V i u' undef) : o.wp P a u (fun a' u' => ∃ v, a' = a.put o.dst v ∧ R u u' ∧ W (if ch then vs ++ [v] else vs) u' ∧ V i u' v) Q := by
  unfold Oper.wp
  rw [h]
  exact ⟨undef, rfl, hr, hw, hv⟩
theorem lsn_value {v : Value} {u' : World} (hg : o.guard = none) (h : (execOp a.eval o).run P u = .ok (.value v) u') (hr : R u u') (hw : W (if ch then vs ++ [v] else vs) u') (hv : V i u' v) : LS P ops Q V R W vs ch i o a u := ls_none hg (ls_value h hr hw hv)
theorem lsn_skip {u' : World} (hg : o.guard = none) (h : (execOp a.eval o).run P u = .ok .skip u') (hr : R u u') (hw : W (if ch then vs ++ [undef] else vs) u') (hv : V i u' undef) : LS P ops Q V R W vs ch i o a u := ls_none hg (ls_skip h hr hw hv)
theorem lsn_call {f : FuncId} {args : Array Value} (hg : o.guard = none) (h : (execOp a.eval o).run P u = .ok (.enter f args) u) (hc : Calls P f args u fun e u' => ∃ v, e = .returned v ∧ R u u' ∧ W (if ch then vs ++ [v] else vs) u' ∧ V i u' v) : LS P ops Q V R W vs ch i o a u := ls_none hg (ls_call h hc)
theorem lso_value {v : Value} {u' : World} {g x : Nat} {b : Bool} (hg : o.guard = some (g, b)) (hd : (ops[g]?).bind (·.dst) = some x) (hx : a.tmps[x]?.getD undef = .bool b) (h : (execOp a.eval o).run P u = .ok (.value v) u') (hr : R u u') (hw : W (if ch then vs ++ [v] else vs) u') (hv : V i u' v) : LS P ops Q V R W vs ch i o a u := ls_on hg hd hx (ls_value h hr hw hv)
theorem lso_call {f : FuncId} {args : Array Value} {g x : Nat} {b : Bool} (hg : o.guard = some (g, b)) (hd : (ops[g]?).bind (·.dst) = some x) (hx : a.tmps[x]?.getD undef = .bool b) (h : (execOp a.eval o).run P u = .ok (.enter f args) u) (hc : Calls P f args u fun e u' => ∃ v, e = .returned v ∧ R u u' ∧ W (if ch then vs ++ [v] else vs) u' ∧ V i u' v) : LS P ops Q V R W vs ch i o a u := ls_on hg hd hx (ls_call h hc)

end

theorem wpAny_looseS {P : Program} {ops : Array Oper} {Q : Exit → Act → World → Prop} {p : Nat → Bool} {V : Nat → World → Value → Prop} {R : World → World → Prop} {W : List Value → World → Prop} {c : Nat → Bool} {w0 : World} {a0 : Act} {LP : Array Bool} (L : LooseSOK ops p a0.tmps.size)
    (stable : ∀ i u u' v, R u u' → V i u v → V i u' v) (tr : ∀ x y z, R x y → R y z → R x z)
    (LC : ∀ i j, c i = true → c j = true → i < j → j < ops.size → i ∈ clo ops 6 (edgesOf ops j))
    (hstep : ∀ (i : Nat) (o : Oper), ops[i]? = some o → p i = true → ∀ vs a u, R w0 u → W vs u → (c i = true → vs.length = numC c i) → (∀ j, j < ops.size → c j = true → i ∈ clo ops 6 (edgesOf ops j) → vs.length ≤ numC c j) → Told ops c vs a (fun j => ∃ e ∈ o.after, Region.binds .any e = true ∧ e.on = j) →
      (∀ s, (∀ (j : Nat) (oj : Oper), ops[j]? = some oj → p j = true → oj.dst ≠ some s) → a.tmps.getD s undef = a0.tmps.getD s undef) →
      (∀ e ∈ o.after, Region.binds .any e = true → ∀ (oj : Oper) (d : Nat), ops[e.on]? = some oj → oj.dst = some d → V e.on u (a.tmps.getD d undef)) →
      LS P ops Q V R W vs (c i) i o a u)
    (hLs : LP.size = ops.size) (hLP : ∀ i, i < ops.size → LP.getD i false = p i)
    (hend : ∀ vs a u, vs.length = cntC c ops.size LP → LInvS ops V R W c vs w0 a0 (fun i => p i = true) a u → wpAny P .any ops Q (cntU ops.size LP) LP a u) :
    ∀ (fuel : Nat) (listed : Array Bool) (vs : List Value) (a : Act) (u : World), listed.size = ops.size → vs.length = cntC c ops.size listed → fuel = cntU ops.size listed → (∀ i, i < ops.size → listed.getD i false = true → p i = true) → (∀ j, listed.getD j false = true → ∀ k, k ∈ edgesOf ops j → listed.getD k false = true) →
      LInvS ops V R W c vs w0 a0 (fun i => listed.getD i false = true) a u → wpAny P .any ops Q fuel listed a u := by
  intro fuel
  induction fuel with
  | zero =>
    intro listed vs a u hs hvl hf hl hcl hI
    have hall : ∀ i, i < ops.size → listed.getD i false = true := fun i hi => by
      by_cases h : listed.getD i false = true
      · exact h
      · have := cntU_set (listed := listed) (by omega) (by simpa using h) ops.size hi
        omega
    have e : listed = LP := listed_ext (by omega) (fun i hi => by
      rw [hall i (by omega), hLP i (by omega)]
      exact (hl i (by omega) (hall i (by omega))).symm)
    subst e
    have := hend vs a u hvl ⟨hI.rel, hI.st, fun j oj d hp hc ho hd => hI.told j oj d (hall j (Array.getElem?_eq_some_iff.1 ho).1) hc ho hd, fun i o d ho _ hd => hI.val i o d ho (hall i (Array.getElem?_eq_some_iff.1 ho).1) hd, fun s hs' => hI.off s (fun i o ho hi => hs' i o ho (hl i (Array.getElem?_eq_some_iff.1 ho).1 hi)), hI.size, hI.defers⟩
    rwa [← hf] at this
  | succ fuel ih =>
    intro listed vs a u hs hvl hf hl hcl hI
    by_cases hall : ∀ i, i < ops.size → p i = true → listed.getD i false = true
    · have e : listed = LP := listed_ext (by omega) (fun i hi => by
        rw [hLP i (by omega)]
        by_cases h : p i = true
        · rw [h, hall i (by omega) h]
        · by_cases h2 : listed.getD i false = true
          · exact absurd (hl i (by omega) h2) h
          · have h3 : p i = false := by simpa using h
            have h4 : listed.getD i false = false := by simpa using h2
            rw [h3, h4])
      subst e
      have := hend vs a u hvl ⟨hI.rel, hI.st, fun j oj d hp hc ho hd => hI.told j oj d (hall j (Array.getElem?_eq_some_iff.1 ho).1 hp) hc ho hd, fun i o d ho hp hd => hI.val i o d ho (hall i (Array.getElem?_eq_some_iff.1 ho).1 hp) hd, fun s hs' => hI.off s (fun i o ho hi => hs' i o ho (hl i (Array.getElem?_eq_some_iff.1 ho).1 hi)), hI.size, hI.defers⟩
      rwa [← hf] at this
    · obtain ⟨i0, ⟨hi0, hp0, hu0⟩, hmin⟩ := least_of (R := fun i => i < ops.size ∧ p i = true ∧ listed.getD i false = false) (by
        refine Classical.byContradiction fun hno => hall fun i hi hp => ?_
        by_cases h : listed.getD i false = true
        · exact h
        · exact absurd ⟨i, hi, hp, by simpa using h⟩ hno)
      have hready : i0 ∈ Region.ready .any ops listed := by
        rw [mem_ready]
        refine ⟨by rw [getD_true_false (by omega)]; exact hu0, ops[i0], Array.getElem?_eq_getElem hi0, fun e he hb => ?_⟩
        obtain ⟨h1, h2⟩ := L.low i0 _ (Array.getElem?_eq_getElem hi0) hp0 e he hb
        by_cases h : listed.getD e.on false = true
        · exact h
        · exact absurd ⟨by omega, h2, by simpa using h⟩ (hmin e.on h1)
      refine ⟨fun h => (by rw [h] at hready; cases hready), fun i hi => ?_⟩
      obtain ⟨h1, o, ho, hedge⟩ := mem_ready.1 hi
      have hisz : i < ops.size := (Array.getElem?_eq_some_iff.1 ho).1
      rw [getD_true_false (by omega)] at h1
      have hpi : p i = true := by
        by_cases h : p i = true
        · exact h
        · have h3 := clo_listed (listed := fun j => listed.getD j false = true) hcl 6 (edgesOf ops i) (fun k hk => by
            obtain ⟨e, he, hb, hon⟩ := (mem_edgesOf ho).1 hk
            have := hedge e he hb
            rwa [hon] at this) i0 (L.bar i o ho (by simpa using h) i0 hi0 hp0)
          rw [hu0] at h3
          cases h3
      have hnum : c i = true → vs.length = numC c i := fun hci => by
        rw [hvl]
        refine cntC_num (fun j hj hcj => ⟨fun hlj => ?_, fun hji => ?_⟩) (by omega)
        · by_cases e : j = i
          · subst e; rw [h1] at hlj; cases hlj
          · by_cases e2 : j < i
            · exact e2
            · have h3 := clo_listed (listed := fun j => listed.getD j false = true) hcl 6 (edgesOf ops j) (fun k hk => hcl j hlj k hk) i (LC i j hci hcj (by omega) hj)
              rw [h1] at h3
              cases h3
        · exact clo_listed (listed := fun j => listed.getD j false = true) hcl 6 (edgesOf ops i) (fun k hk => by
            obtain ⟨e, he, hb, hon⟩ := (mem_edgesOf ho).1 hk
            have := hedge e he hb
            rwa [hon] at this) j (LC j i hcj hci hji hisz)
      have hlow : ∀ j, j < ops.size → c i = true → c j = true → listed.getD j false = true → j < i := fun j hj hci hcj hlj => by
        by_cases e : j = i
        · subst e; rw [h1] at hlj; cases hlj
        · by_cases e2 : j < i
          · exact e2
          · have h3 := clo_listed (listed := fun j => listed.getD j false = true) hcl 6 (edgesOf ops j) (fun k hk => hcl j hlj k hk) i (LC i j hci hcj (by omega) hj)
            rw [h1] at h3
            cases h3
      have hgo : ∀ a' u', (∃ v, a' = a.put o.dst v ∧ R u u' ∧ W (if c i then vs ++ [v] else vs) u' ∧ V i u' v) → wpAny P .any ops Q fuel (listed.setIfInBounds i true) a' u' := by
        rintro a' u' ⟨v, rfl, hK, hW, hV⟩
        have hset : ∀ j, (listed.setIfInBounds i true).getD j false = true ↔ j = i ∨ listed.getD j false = true := fun j => by
          simp only [Array.getD_eq_getD_getElem?, Array.getElem?_setIfInBounds]
          by_cases e : i = j
          · subst e; simp [show i < listed.size by omega]
          · rw [if_neg e]
            exact ⟨.inr, fun h => h.resolve_left (fun h => e h.symm)⟩
        refine ih _ (if c i then vs ++ [v] else vs) _ _ (by simp [hs]) ?_ ?_ (fun j hj hlj => ?_) (fun j hj k hk => ?_) ⟨tr _ _ _ hI.rel hK, hW, fun j oj dj hj hcj hoj hdj => ?_, fun j oj dj hoj hj hdj => ?_, fun s hs' => ?_, by rw [put_size]; exact hI.size, by rw [put_defers]; exact hI.defers⟩
        · by_cases hci : c i = true
          · rw [if_pos hci, List.length_append, hvl, cntC_set (by omega) h1 hci ops.size hisz]
            rfl
          · rw [if_neg hci, hvl, cntC_set_ne (by simpa using hci)]
        · have := cntU_set (listed := listed) (by omega) h1 ops.size hisz
          omega
        · rcases (hset j).1 hlj with e | e
          · rw [e]; exact hpi
          · exact hl j hj e
        · rcases (hset j).1 hj with e | e
          · subst e
            obtain ⟨e, he, hb, hon⟩ := (mem_edgesOf ho).1 hk
            refine (hset k).2 (.inr ?_)
            rw [← hon]
            exact hedge e he hb
          · exact (hset k).2 (.inr (hcl j e k hk))
        · have hjs : j < ops.size := (Array.getElem?_eq_some_iff.1 hoj).1
          by_cases eji : j = i
          · subst eji
            have : oj = o := by rw [hoj] at ho; exact Option.some.inj ho
            subst this
            rw [hdj, put_getD_same (by rw [hI.size]; exact L.dst j oj hoj hpi dj hdj), if_pos hcj, ← hnum hcj]
            simp [List.getD]
          · have hlj := ((hset j).1 hj).resolve_left eji
            rw [put_getD_ne (fun h => eji (L.inj j i oj o hoj ho (hl j hjs hlj) hpi dj hdj h)), hI.told j oj dj hlj hcj hoj hdj]
            by_cases hci : c i = true
            · have h5 := numC_lt hcj (hlow j hjs hci hcj hlj)
              have h6 := hnum hci
              rw [if_pos hci, List.getD_eq_getElem?_getD, List.getD_eq_getElem?_getD, List.getElem?_append_left (by omega)]
            · rw [if_neg hci]
        · rcases (hset j).1 hj with e | e
          · subst e
            have : oj = o := by rw [hoj] at ho; exact Option.some.inj ho
            subst this
            rw [hdj, put_getD_same (by rw [hI.size]; exact L.dst j oj hoj hpi dj hdj)]
            exact hV
          · by_cases eji : j = i
            · subst eji
              rw [h1] at e; cases e
            · rw [put_getD_ne (fun h => eji (L.inj j i oj o hoj ho (hl j (Array.getElem?_eq_some_iff.1 hoj).1 e) hpi dj hdj h))]
              exact stable j u u' _ hK (hI.val j oj dj hoj e hdj)
        · rw [put_getD_ne (hs' i o ho ((hset i).2 (.inl rfl)))]
          exact hI.off s (fun j oj hoj hj => hs' j oj hoj ((hset j).2 (.inr hj)))
      have hub : ∀ j, j < ops.size → c j = true → i ∈ clo ops 6 (edgesOf ops j) → vs.length ≤ numC c j := fun j hj hcj hij => by
        have hnj : ¬ listed.getD j false = true := fun hlj => by
          have h3 := clo_listed (listed := fun j => listed.getD j false = true) hcl 6 (edgesOf ops j) (fun k hk => hcl j hlj k hk) i hij
          rw [h1] at h3
          cases h3
        rw [hvl]
        have := cntC_le (c := c) (listed := listed) (j := j) ops.size (fun k hk hck hlk => by
          by_cases e : k = j
          · subst e; exact absurd hlk hnj
          · by_cases e2 : k < j
            · exact e2
            · exact absurd (clo_listed (listed := fun j => listed.getD j false = true) hcl 6 (edgesOf ops k) (fun q hq => hcl k hlk q hq) j (LC j k hcj hck (by omega) hk)) hnj)
        rwa [Nat.min_eq_right (by omega)] at this
      have hst := hstep i o ho hpi vs a u hI.rel hI.st hnum hub (fun j oj d hj hcj hoj hd' => by
        obtain ⟨e, he, hb, rfl⟩ := hj
        exact hI.told e.on oj d (hedge e he hb) hcj hoj hd') (fun s hs' => hI.off s (fun j oj hoj hj => hs' j oj hoj (hl j (Array.getElem?_eq_some_iff.1 hoj).1 hj))) (fun e he hb oj d' hoj hd' => hI.val e.on oj d' hoj (hedge e he hb) hd')
      unfold wpOp
      rw [ho]
      simp only
      rcases hst with ⟨hw, hst⟩ | ⟨hw, hst, hst2, hst3⟩
      · rw [if_pos hw]
        exact .inl (Oper.wp_mono hgo hst)
      · rw [if_neg (by rw [hw]; exact Bool.false_ne_true)]
        exact hgo _ _ ⟨undef, rfl, hst, hst2, hst3⟩

/-- the region, whose last ones (not of p) stay to be walked -/
theorem wp_region_looseS {P : Program} {id : Nat} {ops : Array Oper} {Q : Exit → Act → World → Prop} {p : Nat → Bool} {V : Nat → World → Value → Prop} {R : World → World → Prop} {W : List Value → World → Prop} {c : Nat → Bool} {w : World} {a0 : Act} {LP : Array Bool} {K N : Nat} (hm : P.follows .mixedOrders = true) (hB : looseSB ops p a0.tmps.size = true)
    (hC : chainB ops c = true) (hR0 : R w w.drew) (hW0 : W [] w.drew) (tr : ∀ x y z, R x y → R y z → R x z) (stable : ∀ i u u' v, R u u' → V i u v → V i u' v)
    (hstep : ∀ (i : Nat) (o : Oper), ops[i]? = some o → p i = true → ∀ vs a u, R w u → W vs u → (c i = true → vs.length = numC c i) → (∀ j, j < ops.size → c j = true → i ∈ clo ops 6 (edgesOf ops j) → vs.length ≤ numC c j) → Told ops c vs a (fun j => ∃ e ∈ o.after, Region.binds .any e = true ∧ e.on = j) →
      (∀ s, (∀ (j : Nat) (oj : Oper), ops[j]? = some oj → p j = true → oj.dst ≠ some s) → a.tmps.getD s undef = a0.tmps.getD s undef) →
      (∀ e ∈ o.after, Region.binds .any e = true → ∀ (oj : Oper) (d : Nat), ops[e.on]? = some oj → oj.dst = some d → V e.on u (a.tmps.getD d undef)) →
      LS P ops Q V R W vs (c i) i o a u)
    (hLs : LP.size = ops.size) (hLP : ∀ i, i < ops.size → LP.getD i false = p i) (hK : cntU ops.size LP = K) (hN : cntC c ops.size LP = N)
    (hend : ∀ vs a u, vs.length = N → LInvS ops V R W c vs w a0 (fun i => p i = true) a u → wpAny P .any ops Q K LP a u) : (Code.region id ops true).wp P Q a0 w := by
  refine wp_region_any hm ?_
  refine wpAny_looseS (looseSB_spec hB) stable tr (chainB_spec hC) hstep hLs hLP (fun vs a u hv h => by rw [hK]; rw [hN] at hv; exact hend vs a u hv h) ops.size _ [] a0 _ (by simp) (cntC_zero _ _ _).symm ?_ (fun i hi h => ?_) (fun i h => ?_) ⟨hR0, hW0, fun j oj d hj => ?_, fun i o d ho h => ?_, fun _ _ => rfl, rfl, rfl⟩
  · have : ∀ n, cntU n (Array.replicate ops.size false) = n := fun n => by
      induction n with
      | zero => rfl
      | succ n ih => rw [cntU_succ, ih]; simp [unl, Array.getD_eq_getD_getElem?, Array.getElem?_replicate]; split <;> simp
    rw [this]
  · simp [Array.getD_eq_getD_getElem?, Array.getElem?_replicate] at h
    split at h <;> simp at h
  · simp [Array.getD_eq_getD_getElem?, Array.getElem?_replicate] at h
    split at h <;> simp at h
  · exfalso
    simp [Array.getD_eq_getD_getElem?, Array.getElem?_replicate] at hj
    split at hj <;> simp at hj
  · simp [Array.getD_eq_getD_getElem?, Array.getElem?_replicate] at h
    split at h <;> simp at h

end Go.Proofs.YtmjcpapcmbgkjaaDoor

/-
  For the law of loose regions: which operations are loose, by a list; those that stay, in their one order.
-/
namespace Go.Proofs.YtmjcpapcmbgkjaaDoor
open Go Go.RowKit

def inL (l : List Nat) (i : Nat) : Bool := l.contains i

theorem pOf_spec {p : Nat → Bool} {m : Nat} {LP : Array Bool} (h : (List.range m).all (fun i => LP.getD i false == p i) = true) : ∀ i, i < m → LP.getD i false = p i := by
  intro i hi
  rw [List.all_eq_true] at h
  have := h i (List.mem_range.2 hi)
  simpa using this

theorem inL_far {l : List Nat} {n N : Nat} (h : l.all (fun x => decide (x < N)) = true) (hp : inL l (n + N) = true) : False := by
  unfold inL at hp
  rw [List.all_eq_true] at h
  have h1 : n + N ∈ l := by simpa using hp
  have := h _ h1
  simp at this
  omega

def seqL (ops : Array Oper) : List Nat → Array Bool → Bool
  | [], listed => (Region.ready .any ops listed).isEmpty
  | k :: l, listed => decide (Region.ready .any ops listed = [k]) && seqL ops l (listed.setIfInBounds k true)

theorem wpAny_of_seqL {P : Program} {ops : Array Oper} {Q : Exit → Act → World → Prop} : ∀ (l : List Nat) (os : List Oper) (listed : Array Bool) (a : Act) (w : World), os.map some = l.map (fun k => ops[k]?) → seqL ops l listed = true → wpList P ops Q os a w → wpAny P .any ops Q l.length listed a w
  | [], [], _, _, _, _, hB, h => ⟨by simpa [seqL] using hB, h⟩
  | [], _ :: _, _, _, _, e, _, _ => by simp at e
  | _ :: _, [], _, _, _, e, _, _ => by simp at e
  | k :: l, o :: os, listed, a, w, e, hB, h => by
    simp only [List.map_cons, List.cons.injEq] at e
    have h0 : ops[k]? = some o := e.1.symm
    simp only [seqL, Bool.and_eq_true, decide_eq_true_eq] at hB
    simp only [List.length_cons]
    refine ⟨fun h1 => (by rw [hB.1] at h1; cases h1), fun i hi => ?_⟩
    rw [hB.1] at hi
    have hik : i = k := by simpa using hi
    subst hik
    have hw : wpOp P ops Q i (wpList P ops Q os) a w := by unfold wpOp; simp only [h0]; exact h
    exact wpOp_mono (fun a' w' h' => wpAny_of_seqL l os _ a' w' e.2 hB.2 h') hw

theorem atV_stR {R : World → World → Prop} {Vs : List (World → Value → Prop)} (h : ∀ V ∈ Vs, ∀ u u' v, R u u' → V u v → V u' v) : ∀ i u u' v, R u u' → atV Vs i u v → atV Vs i u' v := by
  intro i u u' v k
  unfold atV
  rw [List.getD_eq_getElem?_getD]
  cases hi : Vs[i]? with
  | none => exact fun _ => trivial
  | some V => exact h V (List.mem_of_getElem? hi) u u' v k

theorem vs_list1 {vs : List Value} (h : vs.length = 1) : ∃ r0, vs = [r0] := by
  match vs, h with
  | [r0], _ => exact ⟨r0, rfl⟩
theorem vs_list2 {vs : List Value} (h : vs.length = 2) : ∃ r0 r1, vs = [r0, r1] := by
  match vs, h with
  | [r0, r1], _ => exact ⟨r0, r1, rfl⟩
theorem vs_list3 {vs : List Value} (h : vs.length = 3) : ∃ r0 r1 r2, vs = [r0, r1, r2] := by
  match vs, h with
  | [r0, r1, r2], _ => exact ⟨r0, r1, r2, rfl⟩
theorem vs_list4 {vs : List Value} (h : vs.length = 4) : ∃ r0 r1 r2 r3, vs = [r0, r1, r2, r3] := by
  match vs, h with
  | [r0, r1, r2, r3], _ => exact ⟨r0, r1, r2, r3, rfl⟩
theorem vs_list5 {vs : List Value} (h : vs.length = 5) : ∃ r0 r1 r2 r3 r4, vs = [r0, r1, r2, r3, r4] := by
  match vs, h with
  | [r0, r1, r2, r3, r4], _ => exact ⟨r0, r1, r2, r3, r4, rfl⟩
theorem vs_list6 {vs : List Value} (h : vs.length = 6) : ∃ r0 r1 r2 r3 r4 r5, vs = [r0, r1, r2, r3, r4, r5] := by
  match vs, h with
  | [r0, r1, r2, r3, r4, r5], _ => exact ⟨r0, r1, r2, r3, r4, r5, rfl⟩
theorem vs_list7 {vs : List Value} (h : vs.length = 7) : ∃ r0 r1 r2 r3 r4 r5 r6, vs = [r0, r1, r2, r3, r4, r5, r6] := by
  match vs, h with
  | [r0, r1, r2, r3, r4, r5, r6], _ => exact ⟨r0, r1, r2, r3, r4, r5, r6, rfl⟩

/-- the operations of a list of places -/
def opsAt (ops : Array Oper) (l : List Nat) : List Oper := l.filterMap (fun k => ops[k]?)

theorem wpAny_tailL {P : Program} {ops : Array Oper} {Q : Exit → Act → World → Prop} (l : List Nat) (os : List Oper) {LP : Array Bool} {a : Act} {u : World} {K : Nat} (hK : l.length = K) (he : os.map some = l.map (fun k => ops[k]?)) (hB : seqL ops l LP = true) (h : wpList P ops Q os a u) : wpAny P .any ops Q K LP a u := by
  subst hK
  exact wpAny_of_seqL l os LP a u he hB h

theorem eval_at {a : Act} {x : Nat} {v : Value} (h : a.tmps[x]?.getD undef = v) : a.eval (.tmp x) = v := by
  simpa [Act.eval] using h

/-- an element is appended, at an operation -/
theorem op_append1 {P : Program} {w : World} {o : Oper} {a : Act} {post : Act → World → Prop} {Q : Exit → Act → World → Prop} (s x : Operand) (t e : TypeId)
    (ho : o.op = .call { callee := .builtin .append, args := #[s, x], argTypes := #[t, t] }) {z : Value} {bytes : Nat}
    (ht : P.underlying t = some (.slice e)) (hI : (P.info? e).map (fun i => (i.zero, i.size, i.bytes)) = some (some z, 1, bytes)) (hzs : z.cells.size = 1)
    {base : Nat} {v : Value} {cs : List Value} (hown : Own w base e v cs) (hs : a.eval s = v) (ad : Addr) (u : Value) (hx : a.eval x = .slice (some ad) 1 1) (hnew : w.cell? ad = some u) (h1 : u.oneCell' = true)
    (hbytes : (cs.length + 1) * bytes ≤ 140737488355328) (hm : cs.length + 1 ≤ maxLen) (hbase : base ≤ w.heap.size)
    (h : ∀ v' w', Own w' base e v' (cs ++ [u]) → w.grownBy w' v.ownBlock → post (a.put o.dst v') w') : o.wp P a w post Q := by
  obtain ⟨i0, hi, hz0, hz1, hz2⟩ := info_parts hI
  obtain ⟨v', w', hr, h2, h3, h4, h5⟩ := run_append_own_at (P := P) w base t o.type e i0 z 1 bytes ht hi hz0 hz1 hz2 hzs (by decide) v cs.length cs hown ad 1 1 [u] rfl (by
    intro j u' hj
    match j, hj with
    | 0, hj =>
      have : ad.add 0 = ad := by unfold Addr.add; split <;> simp_all
      simp at hj
      rw [this, ← hj]; exact hnew) (by intro u' hu; simp at hu; subst hu; exact h1) hm hbytes hbase
  unfold Oper.wp execOp
  simp only [ho, resolve, invoke, builtin, Sem.run_bind, Sem.run_pure, Result.andThen_ok, List.map_toArray, List.map_cons, List.map_nil, hs, hx, hr]
  exact h v' w' (by unfold Own; rw [List.length_append]; exact h2) h3

end Go.Proofs.YtmjcpapcmbgkjaaDoor

/-
  Nine cells, set one by one. (Out of XAsciiRead.)
-/
namespace Go.Proofs.YtmjcpapcmbgkjaaDoor
open Go.RowKit

/-- nine cells, set one by one -/
def set9 (w : World) (b : Nat) (y0 y1 y2 y3 y4 y5 y6 y7 y8 : Value) : World :=
  ((((((((w.setCell ⟨b, 0, none⟩ y0).setCell ⟨b, 1, none⟩ y1).setCell ⟨b, 2, none⟩ y2).setCell ⟨b, 3, none⟩ y3).setCell ⟨b, 4, none⟩ y4).setCell ⟨b, 5, none⟩ y5).setCell ⟨b, 6, none⟩ y6).setCell ⟨b, 7, none⟩ y7).setCell ⟨b, 8, none⟩ y8

theorem Blk.set9 {w : World} {b : Nat} {x0 x1 x2 x3 x4 x5 x6 x7 x8 : Value} {t : TypeId} (h : Blk w b #[x0, x1, x2, x3, x4, x5, x6, x7, x8] t) (y0 y1 y2 y3 y4 y5 y6 y7 y8 : Value) :
    Blk (set9 w b y0 y1 y2 y3 y4 y5 y6 y7 y8) b #[y0, y1, y2, y3, y4, y5, y6, y7, y8] t := by
  have h7 := ((((((((h.set_same 0 y0).set_same 1 y1).set_same 2 y2).set_same 3 y3).set_same 4 y4).set_same 5 y5).set_same 6 y6).set_same 7 y7).set_same 8 y8
  unfold Go.Proofs.YtmjcpapcmbgkjaaDoor.set9
  simpa only [List.setIfInBounds_toArray, List.set_cons_zero, List.set_cons_succ] using h7

theorem Kp.set9 (w : World) (b : Nat) (y0 y1 y2 y3 y4 y5 y6 y7 y8 : Value) : Kp (fun j => j = b) w (set9 w b y0 y1 y2 y3 y4 y5 y6 y7 y8) :=
  (((((((((Kp.refl (fun j => j = b) w).setCell (p := ⟨b, 0, none⟩) (fun _ => rfl) y0).setCell (p := ⟨b, 1, none⟩) (fun _ => rfl) y1).setCell (p := ⟨b, 2, none⟩) (fun _ => rfl) y2).setCell (p := ⟨b, 3, none⟩) (fun _ => rfl) y3).setCell (p := ⟨b, 4, none⟩) (fun _ => rfl) y4).setCell (p := ⟨b, 5, none⟩) (fun _ => rfl) y5).setCell (p := ⟨b, 6, none⟩) (fun _ => rfl) y6).setCell (p := ⟨b, 7, none⟩) (fun _ => rfl) y7).setCell (p := ⟨b, 8, none⟩) (fun _ => rfl) y8


end Go.Proofs.YtmjcpapcmbgkjaaDoor

/-
  What binary.circuit reads, plainly. (Printed by mkbincirc.py.)
-/
namespace Go.Proofs.YtmjcpapcmbgkjaaDoor
open Go.RowKit

def rdLatsP (s : ByteArray) (top : Int) (I : Nat) : Nat → Nat → List (Int × Int × Int) → Nat × Nat → List (Int × Int × Int) × Nat × Nat
  | 0, _, L, st => (L, st)
  | j + 1, k, L, st =>
    let d := rdD s top st
    let g := rdS s (fun c => c == 32 || c == 10) d.2
    if g.1 = 32 then
      let r := rdD s top g.2
      let q := rdS s (fun c => c == 10) r.2
      rdLatsP s top I j (k + 1) (L ++ [(2 * ((I + k : Nat) : Int) + 2, (d.1 : Int), (r.1 : Int))]) q.2
    else if g.1 = 0 then (L, g.2)
    else rdLatsP s top I j (k + 1) (L ++ [(2 * ((I + k : Nat) : Int) + 2, (d.1 : Int), 0)]) g.2
def rdGatesP (s : ByteArray) (I : Nat) : Nat → Nat → List (Int × Int × Int) → Nat × Nat → List (Int × Int × Int) × Nat × Nat
  | 0, _, L, st => (L, st)
  | j + 1, k, L, st =>
    let lit : Int := 2 * ((I + k : Nat) : Int) + 2
    let d := rdG s 1 lit st
    let e := rdG s 0 (lit - d.1) d.2
    if e.2.2 ≠ 0 then (L, e.2) else rdGatesP s I j (k + 1) (L ++ [(lit, lit - d.1, lit - d.1 - e.1)]) e.2
theorem getR_end {s : ByteArray} {p : Nat} : ∀ (r k a : Nat), p + k ≤ s.size → (getR s p r k a).2.2 = 0 → (getR s p r k a).2.1 ≤ s.size
  | 0, k, a, _, h => by simp [getR] at h
  | r + 1, k, a, hk, h => by
    unfold getR at h ⊢
    by_cases c1 : p + k = s.size
    · rw [if_pos c1] at h; simp at h
    rw [if_neg c1] at h ⊢
    by_cases c2 : k = 4 ∧ 15 < bt s (p + k)
    · rw [if_pos c2] at h; simp at h
    rw [if_neg c2] at h ⊢
    by_cases c3 : 0 < k ∧ bt s (p + k) = 0
    · rw [if_pos c3] at h; simp at h
    rw [if_neg c3] at h ⊢
    by_cases c4 : bt s (p + k) < 128
    · rw [if_pos c4]
      show p + k + 1 ≤ _
      omega
    · rw [if_neg c4] at h ⊢
      exact getR_end r (k + 1) _ (by omega) h
theorem getN_end {s : ByteArray} {p : Nat} (hp : p ≤ s.size) (h : (getN s p).2.2 = 0) : (getN s p).2.1 ≤ s.size := by
  unfold getN at h ⊢
  exact getR_end 5 0 0 (by omega) h
theorem rdLatsP_succ (s : ByteArray) (top : Int) (I j k : Nat) (L : List (Int × Int × Int)) (st : Nat × Nat) : rdLatsP s top I (j + 1) k L st =
    if (rdS s (fun c => c == 32 || c == 10) (rdD s top st).2).1 = 32 then rdLatsP s top I j (k + 1) (L ++ [(2 * ((I + k : Nat) : Int) + 2, ((rdD s top st).1 : Int), ((rdD s top (rdS s (fun c => c == 32 || c == 10) (rdD s top st).2).2).1 : Int))]) (rdS s (fun c => c == 10) (rdD s top (rdS s (fun c => c == 32 || c == 10) (rdD s top st).2).2).2).2
    else if (rdS s (fun c => c == 32 || c == 10) (rdD s top st).2).1 = 0 then (L, (rdS s (fun c => c == 32 || c == 10) (rdD s top st).2).2)
    else rdLatsP s top I j (k + 1) (L ++ [(2 * ((I + k : Nat) : Int) + 2, ((rdD s top st).1 : Int), 0)]) (rdS s (fun c => c == 32 || c == 10) (rdD s top st).2).2 := rfl
theorem rdGatesP_succ (s : ByteArray) (I j k : Nat) (L : List (Int × Int × Int)) (st : Nat × Nat) : rdGatesP s I (j + 1) k L st =
    if (rdG s 0 (2 * ((I + k : Nat) : Int) + 2 - (rdG s 1 (2 * ((I + k : Nat) : Int) + 2) st).1) (rdG s 1 (2 * ((I + k : Nat) : Int) + 2) st).2).2.2 ≠ 0 then (L, (rdG s 0 (2 * ((I + k : Nat) : Int) + 2 - (rdG s 1 (2 * ((I + k : Nat) : Int) + 2) st).1) (rdG s 1 (2 * ((I + k : Nat) : Int) + 2) st).2).2)
    else rdGatesP s I j (k + 1) (L ++ [(2 * ((I + k : Nat) : Int) + 2, 2 * ((I + k : Nat) : Int) + 2 - (rdG s 1 (2 * ((I + k : Nat) : Int) + 2) st).1, 2 * ((I + k : Nat) : Int) + 2 - (rdG s 1 (2 * ((I + k : Nat) : Int) + 2) st).1 - (rdG s 0 (2 * ((I + k : Nat) : Int) + 2 - (rdG s 1 (2 * ((I + k : Nat) : Int) + 2) st).1) (rdG s 1 (2 * ((I + k : Nat) : Int) + 2) st).2).1)]) (rdG s 0 (2 * ((I + k : Nat) : Int) + 2 - (rdG s 1 (2 * ((I + k : Nat) : Int) + 2) st).1) (rdG s 1 (2 * ((I + k : Nat) : Int) + 2) st).2).2 := rfl
theorem rdD_stay {s : ByteArray} {top : Int} {st : Nat × Nat} (h : st.2 ≠ 0) : rdD s top st = (0, st) := by unfold rdD; rw [if_pos h]
theorem rdS_stay {s : ByteArray} {ok : Nat → Bool} {st : Nat × Nat} (h : st.2 ≠ 0) : rdS s ok st = (0, st) := by unfold rdS; rw [if_pos h]
theorem rdG_stay {s : ByteArray} {least top : Int} {st : Nat × Nat} (h : st.2 ≠ 0) : rdG s least top st = (0, st) := by unfold rdG; rw [if_pos h]
theorem rdLits_stay {s : ByteArray} {top : Int} {m : Nat} {L : List Int} {st : Nat × Nat} (h : st.2 ≠ 0) : (rdLits s top m L st).2 = st := by
  cases m with
  | zero => rfl
  | succ m =>
    unfold rdLits
    rw [rdD_stay h]
    simp only
    rw [rdS_stay h]
    simp
theorem rdGatesP_stay {s : ByteArray} {I m k : Nat} {L : List (Int × Int × Int)} {st : Nat × Nat} (h : st.2 ≠ 0) : (rdGatesP s I m k L st).2 = st := by
  cases m with
  | zero => rfl
  | succ m =>
    rw [rdGatesP_succ, rdG_stay h]
    simp only
    rw [rdG_stay h]
    simp only
    rw [if_pos h]
theorem rdG_le {s : ByteArray} {least top : Int} {st : Nat × Nat} (h : st.1 ≤ s.size) (ht : 0 ≤ top) : (rdG s least top st).2.1 ≤ s.size ∧ ((rdG s least top st).1 : Int) ≤ top := by
  unfold rdG
  by_cases c1 : st.2 ≠ 0
  · rw [if_pos c1]; exact ⟨h, by simpa using ht⟩
  rw [if_neg c1]
  by_cases c2 : (getN s st.1).2.2 ≠ 0
  · rw [if_pos c2]; exact ⟨h, by simpa using ht⟩
  rw [if_neg c2]
  by_cases c3 : ((getN s st.1).1 : Int) < least ∨ top < ((getN s st.1).1 : Int)
  · rw [if_pos c3]; exact ⟨h, by simpa using ht⟩
  rw [if_neg c3]
  exact ⟨getN_end h (by simpa using c2), by show ((getN s st.1).1 : Int) ≤ top; omega⟩
theorem rdLits_le {s : ByteArray} {top : Int} : ∀ {m : Nat} {L : List Int} {st : Nat × Nat}, st.1 ≤ s.size → (rdLits s top m L st).2.1 ≤ s.size
  | 0, L, st, h => h
  | m + 1, L, st, h => by
    unfold rdLits
    have h2 := rdS_le (s := s) (ok := fun c => c == 10) (st := (rdD s top st).2) (rdD_le (top := top) h)
    split
    · exact h2
    · exact rdLits_le h2
theorem rdS_zero {s : ByteArray} {ok : Nat → Bool} {st : Nat × Nat} {p e : Nat} (h0 : ok 0 = false) (h : rdS s ok st = (0, p, e)) : e ≠ 0 := by
  unfold rdS at h
  by_cases c1 : st.2 ≠ 0
  · rw [if_pos c1] at h
    have : st = (p, e) := by simpa using h
    rw [this] at c1
    exact c1
  rw [if_neg c1] at h
  by_cases c2 : st.1 = s.size
  · rw [if_pos c2] at h
    simp at h; omega
  rw [if_neg c2] at h
  by_cases c3 : ok (bt s st.1) = false
  · rw [if_pos c3] at h
    simp at h; omega
  rw [if_neg c3] at h
  simp only [Prod.mk.injEq] at h
  rw [h.1, h0] at c3
  exact absurd rfl c3
def insP (n : Nat) : List Int := (List.range n).map (fun k : Nat => 2 * (k : Int) + 2)
def rdC (s : ByteArray) (M : Int) (nI nL nO nA nB nC : Nat) (st : Nat × Nat) : Circ × Nat × Nat :=
  let l := rdLatsP s (2 * M + 1) nI nL 0 [] st
  let o := rdLits s (2 * M + 1) nO [] l.2
  let d := rdLits s (2 * M + 1) nB [] o.2
  let n := rdLits s (2 * M + 1) nC [] d.2
  let g := rdGatesP s (nI + nL) nA 0 [] n.2
  (⟨M, insP nI, l.1, o.1, d.1, n.1, g.1⟩, g.2)

/-- what is so before, between and behind two calls -/
def WG (P0 P1 P2 : World → Prop) : List Value → World → Prop
  | [], u => P0 u
  | [_], u => P1 u
  | [_, _], u => P2 u
  | _, _ => False
theorem WG_all {P0 P1 P2 : World → Prop} {X : Prop} {u : World} (h0 : P0 u → X) (h1 : P1 u → X) (h2 : P2 u → X) : ∀ {vs : List Value}, WG P0 P1 P2 vs u → X
  | [], h => h0 h
  | [_], h => h1 h
  | [_, _], h => h2 h
  | _ :: _ :: _ :: _, h => h.elim

/-- region 18 of circuit: what is so after some of its steps -/
def WO (w : World) (b hb rb cb nb B : Nat) (s : ByteArray) (hd : Array Value) (t : Nat × Nat) (o1 o2 o3 : List Int × Nat × Nat) (M n0 : Int) (vI vL : Value) (I : List Int) (L : List (Int × Int × Int)) : List Value → World → Prop
  | [], u => BC w u b hb rb cb nb B s hd t M n0 vI vL (.slice none 0 0) (.slice none 0 0) (.slice none 0 0) (.slice none 0 0) I L [] [] [] []
  | [r0], u => Own u B 3 r0 (iv o1.1) ∧ BC w u b hb rb cb nb B s hd o1.2 M n0 vI vL (.slice none 0 0) (.slice none 0 0) (.slice none 0 0) (.slice none 0 0) I L [] [] [] []
  | [r0, r1], u => Own u B 3 r0 (iv o1.1) ∧ Own u B 3 r1 (iv o2.1) ∧ BC w u b hb rb cb nb B s hd o2.2 M n0 vI vL (.slice none 0 0) (.slice none 0 0) (.slice none 0 0) (.slice none 0 0) I L [] [] [] []
  | [r0, r1, r2], u => Own u B 3 r0 (iv o1.1) ∧ Own u B 3 r1 (iv o2.1) ∧ Own u B 3 r2 (iv o3.1) ∧ BC w u b hb rb cb nb B s hd o3.2 M n0 vI vL (.slice none 0 0) (.slice none 0 0) (.slice none 0 0) (.slice none 0 0) I L [] [] [] []
  | [r0, r1, r2, _], u => Own u B 3 r1 (iv o2.1) ∧ Own u B 3 r2 (iv o3.1) ∧ BC w u b hb rb cb nb B s hd o3.2 M n0 vI vL r0 (.slice none 0 0) (.slice none 0 0) (.slice none 0 0) I L o1.1 [] [] []
  | [r0, r1, r2, _, _], u => Own u B 3 r2 (iv o3.1) ∧ BC w u b hb rb cb nb B s hd o3.2 M n0 vI vL r0 r1 (.slice none 0 0) (.slice none 0 0) I L o1.1 o2.1 [] []
  | [r0, r1, r2, _, _, _], u => BC w u b hb rb cb nb B s hd o3.2 M n0 vI vL r0 r1 r2 (.slice none 0 0) I L o1.1 o2.1 o3.1 []
  | _, _ => False
theorem WO_h {w u : World} {b hb rb cb nb B : Nat} {s : ByteArray} {hd : Array Value} {t : Nat × Nat} {o1 o2 o3 : List Int × Nat × Nat} {M n0 : Int} {vI vL : Value} {I : List Int} {L : List (Int × Int × Int)} : ∀ {vs : List Value}, WO w b hb rb cb nb B s hd t o1 o2 o3 M n0 vI vL I L vs u → Blk u hb hd 38
  | [], h => h.h
  | [_], h => h.2.h
  | [_, _], h => h.2.2.h
  | [_, _, _], h => h.2.2.2.h
  | [_, _, _, _], h => h.2.2.h
  | [_, _, _, _, _], h => h.2.h
  | [_, _, _, _, _, _], h => h.h
  | _ :: _ :: _ :: _ :: _ :: _ :: _ :: _, h => h.elim

theorem rdC_stop {s : ByteArray} {M : Int} {nI nL nO nA nB nC : Nat} {st t : Nat × Nat} (h : (rdLatsP s (2 * M + 1) nI nL 0 [] st).2 = t) (ht : t.2 ≠ 0) : (rdC s M nI nL nO nA nB nC st).2 = t := by
  unfold rdC
  simp only [h]
  rw [rdLits_stay (st := t) ht, rdLits_stay (st := t) ht, rdLits_stay (st := t) ht, rdGatesP_stay ht]

theorem rdC_fin {s : ByteArray} {M : Int} {nI nL nO nA nB nC : Nat} {st t t2 : Nat × Nat} {L G : List (Int × Int × Int)} {o1 o2 o3 : List Int × Nat × Nat} (hl : rdLatsP s (2 * M + 1) nI nL 0 [] st = (L, t)) (h1 : rdLits s (2 * M + 1) nO [] t = o1) (h2 : rdLits s (2 * M + 1) nB [] o1.2 = o2) (h3 : rdLits s (2 * M + 1) nC [] o2.2 = o3) (hg : rdGatesP s (nI + nL) nA 0 [] o3.2 = (G, t2)) :
    rdC s M nI nL nO nA nB nC st = (⟨M, insP nI, L, o1.1, o2.1, o3.1, G⟩, t2) := by
  unfold rdC
  simp only [hl, h1, h2, h3, hg]

/-- a circuit that no store into older memory spoils -/
def BKeep (B : Nat) (w : World) (V : CV) (C : Circ) : Prop := ∀ (S : Nat → Prop) (w2 : World), (∀ j, S j → j < B) → Kp S w w2 → CAt w2 V C
theorem rdC_cat {u : World} {B : Nat} {M : Int} {I O D N : List Int} {L G : List (Int × Int × Int)} {ia la oa da na ga : Option Addr} {ic lc oc dc nc gc : Nat}
    (h : (∃ a cap, Value.slice ia I.length ic = .slice a (iv I).length cap ∧ (iv I).length ≤ cap ∧ cap ≤ maxLen ∧ (a = none → cap = 0) ∧ (∀ p, a = some p → B ≤ p.block) ∧ RowAt u a (iv I)) ∧
      (∃ a cap, Value.slice la L.length lc = .slice a (L.map tri).length cap ∧ (L.map tri).length ≤ cap ∧ cap ≤ maxLen ∧ (a = none → cap = 0) ∧ (∀ p, a = some p → ∃ g, p = ⟨g, 0, none⟩ ∧ B ≤ g ∧ g < u.heap.size) ∧ RowAt u a (L.map tri).flatten) ∧
      (∃ a cap, Value.slice oa O.length oc = .slice a (iv O).length cap ∧ (iv O).length ≤ cap ∧ cap ≤ maxLen ∧ (a = none → cap = 0) ∧ (∀ p, a = some p → B ≤ p.block) ∧ RowAt u a (iv O)) ∧
      (∃ a cap, Value.slice da D.length dc = .slice a (iv D).length cap ∧ (iv D).length ≤ cap ∧ cap ≤ maxLen ∧ (a = none → cap = 0) ∧ (∀ p, a = some p → B ≤ p.block) ∧ RowAt u a (iv D)) ∧
      (∃ a cap, Value.slice na N.length nc = .slice a (iv N).length cap ∧ (iv N).length ≤ cap ∧ cap ≤ maxLen ∧ (a = none → cap = 0) ∧ (∀ p, a = some p → B ≤ p.block) ∧ RowAt u a (iv N)) ∧
      (∃ a cap, Value.slice ga G.length gc = .slice a (G.map tri).length cap ∧ (G.map tri).length ≤ cap ∧ cap ≤ maxLen ∧ (a = none → cap = 0) ∧ (∀ p, a = some p → ∃ g, p = ⟨g, 0, none⟩ ∧ B ≤ g ∧ g < u.heap.size) ∧ RowAt u a (G.map tri).flatten)) :
    CAt u ⟨ia, ic, la, lc, oa, oc, da, dc, na, nc, ga, gc, none, 0, 0, ⟨#[]⟩⟩ ⟨M, I, L, O, D, N, G⟩ := by
  obtain ⟨⟨a1, c1, e1, q1, m1, n1, p1, r1⟩, ⟨a2, c2, e2, q2, m2, n2, p2, r2⟩, ⟨a3, c3, e3, q3, m3, n3, p3, r3⟩, ⟨a4, c4, e4, q4, m4, n4, p4, r4⟩, ⟨a5, c5, e5, q5, m5, n5, p5, r5⟩, ⟨a6, c6, e6, q6, m6, n6, p6, r6⟩⟩ := h
  simp only [Value.slice.injEq] at e1 e2 e3 e4 e5 e6
  obtain ⟨rfl, -, rfl⟩ := e1
  obtain ⟨rfl, -, rfl⟩ := e2
  obtain ⟨rfl, -, rfl⟩ := e3
  obtain ⟨rfl, -, rfl⟩ := e4
  obtain ⟨rfl, -, rfl⟩ := e5
  obtain ⟨rfl, -, rfl⟩ := e6
  rw [iv_length] at q1 q3 q4 q5
  rw [List.length_map] at q2 q6
  exact ⟨r1, r2, r3, r4, r5, r6, ⟨[], RowAt.nil _ _, rfl, (fun r h => by cases h), (fun r h => by cases h)⟩, ⟨q1, m1, n1⟩, ⟨q2, m2, n2⟩, ⟨q3, m3, n3⟩, ⟨q4, m4, n4⟩, ⟨q5, m5, n5⟩, ⟨q6, m6, n6⟩, ⟨Nat.le_refl _, by simp [maxLen], fun _ => rfl⟩⟩

/-- region 5 of circuit: what is so after some of its steps -/
def WI (w : World) (b hb rb cb nb B : Nat) (s : ByteArray) (hd : Array Value) (st : Nat × Nat) (M n0 : Int) (vI : Value) (I : List Int) : List Value → World → Prop
  | [], u => BC w u b hb rb cb nb B s hd st M n0 vI (.slice none 0 0) (.slice none 0 0) (.slice none 0 0) (.slice none 0 0) (.slice none 0 0) I [] [] [] [] []
  | [r0], u => r0 = .int .i64 (n0 + 2) ∧ BC w u b hb rb cb nb B s hd st M (n0 + 2) vI (.slice none 0 0) (.slice none 0 0) (.slice none 0 0) (.slice none 0 0) (.slice none 0 0) I [] [] [] [] []
  | [_, r1], u => (∃ g, r1 = .slice (some ⟨g, 0, none⟩) 1 1 ∧ u.cell? ⟨g, 0, none⟩ = some (.int .i64 (n0 + 2))) ∧ BC w u b hb rb cb nb B s hd st M (n0 + 2) vI (.slice none 0 0) (.slice none 0 0) (.slice none 0 0) (.slice none 0 0) (.slice none 0 0) I [] [] [] [] []
  | [_, _, r2], u => ∃ u0, BC w u0 b hb rb cb nb B s hd st M (n0 + 2) vI (.slice none 0 0) (.slice none 0 0) (.slice none 0 0) (.slice none 0 0) (.slice none 0 0) I [] [] [] [] [] ∧ Kp (fun j => vI.ownBlock = some j) u0 u ∧ Own u B 3 r2 (iv (I ++ [n0 + 2]))
  | [_, _, r2, _], u => BC w u b hb rb cb nb B s hd st M (n0 + 2) r2 (.slice none 0 0) (.slice none 0 0) (.slice none 0 0) (.slice none 0 0) (.slice none 0 0) (I ++ [n0 + 2]) [] [] [] [] []
  | _, _ => False
theorem WI_load {w u : World} {b hb rb cb nb B : Nat} {s : ByteArray} {hd : Array Value} {st : Nat × Nat} {M n0 : Int} {vI : Value} {I : List Int} : ∀ {vs : List Value}, WI w b hb rb cb nb B s hd st M n0 vI I vs u → vs.length ≤ 2 → u.cell? ⟨cb, 1, none⟩ = some vI
  | [], h, _ => h.c.cell rfl
  | [_], h, _ => h.2.c.cell rfl
  | [_, _], h, _ => h.2.c.cell rfl
  | _ :: _ :: _ :: _, _, h => by simp at h

end Go.Proofs.YtmjcpapcmbgkjaaDoor
