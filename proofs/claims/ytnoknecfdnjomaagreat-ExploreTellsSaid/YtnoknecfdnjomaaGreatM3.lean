/-
  A region that draws its order, whose operations up to a row of last ones load, compute, make memory of their own, or call what
  makes memory of its own: what each yields is told by a predicate that no new memory spoils. One proof an operation, no orders.
-/
import Derived.Test.YtnoknecfdnjomaaGreatM1
import Derived.Orders
import Derived.RegionTactic
import Derived.ArgAppend
import Derived.StillTail
import Derived.Test.YtnoknecfdnjomaaGreatM2
import Derived.Laws.Bits64b
import Derived.Laws.BitsLemmas
import Derived.BigRegion
set_option linter.unusedVariables false
set_option linter.unusedSimpArgs false
namespace Go.Proofs.YtnoknecfdnjomaaGreat
open Go Go.RowKit

def unl (listed : Array Bool) (i : Nat) : Bool := !listed.getD i false
def cntU (n : Nat) (listed : Array Bool) : Nat := (List.range n).countP (unl listed)

theorem cntU_succ (n : Nat) (listed : Array Bool) : cntU (n + 1) listed = cntU n listed + (if unl listed n = true then 1 else 0) := by
 unfold cntU
 rw [List.range_succ, List.countP_append]
 simp [List.countP_cons]

theorem unl_set_ne {listed : Array Bool} {i j : Nat} (h : j ≠ i) : unl (listed.setIfInBounds i true) j = unl listed j := by
 unfold unl
 simp only [Array.getD_eq_getD_getElem?, Array.getElem?_setIfInBounds]
 rw [if_neg (fun e => h e.symm)]

theorem cntU_far {listed : Array Bool} {i : Nat} : ∀ n, n ≤ i → cntU n (listed.setIfInBounds i true) = cntU n listed
 |0, _ => rfl
 |n + 1, h => by rw [cntU_succ, cntU_succ, cntU_far n (by omega), unl_set_ne (by omega)]

theorem cntU_set {listed : Array Bool} {i : Nat} (hi : i < listed.size) (hu : listed.getD i false = false) : ∀ n, i < n → cntU n (listed.setIfInBounds i true) + 1 = cntU n listed
 |0, h => by omega
 |n + 1, h => by
  rw [cntU_succ, cntU_succ]
  by_cases e : i = n
  ·subst e
   rw [cntU_far i (Nat.le_refl _)]
   have h1 : unl (listed.setIfInBounds i true) i = false := by
    unfold unl
    simp [Array.getD_eq_getD_getElem?, hi]
   have h2 : unl listed i = true := by unfold unl; rw [hu]; rfl
   rw [h1, h2]
   simp
  ·have := cntU_set hi hu n (by omega)
   rw [unl_set_ne (fun h => e h.symm)]
   omega

theorem least_of {R : Nat → Prop} (h : ∃ n, R n) : ∃ n, R n ∧ ∀ m, m < n → ¬ R m := by
 obtain ⟨n, hn⟩ := h
 induction n using Nat.strongRecOn with
 |_ n ih =>
  by_cases h : ∃ m, m < n ∧ R m
  ·obtain ⟨m, hm, hr⟩ := h
   exact ih m hm hr
  ·exact ⟨n, hn, fun m hm hr => h ⟨m, hm, hr⟩⟩

def edgesOf (ops : Array Oper) (i : Nat) : List Nat := match ops[i]? with
  | none => []
  | some o => (o.after.toList.filter (Region.binds .any)).map (·.on)
def cloStep (ops : Array Oper) (l : List Nat) : List Nat := (List.range ops.size).filter (fun j => l.contains j || l.any (fun i => (edgesOf ops i).contains j))
def clo (ops : Array Oper) : Nat → List Nat → List Nat
  | 0, l => l
  | n + 1, l => clo ops n (cloStep ops l)

theorem clo_listed {ops : Array Oper} {listed : Nat → Prop} (hc : ∀ j, listed j → ∀ k, k ∈ edgesOf ops j → listed k) : ∀ (n : Nat) (l : List Nat), (∀ j, j ∈ l → listed j) → ∀ j, j ∈ clo ops n l → listed j
 |0, _, h, j, hj => h j hj
 |n + 1, l, h, j, hj => by
  refine clo_listed hc n _ (fun k hk => ?_) j hj
  unfold cloStep at hk
  have h2 := (List.mem_filter.1 hk).2
  simp only [Bool.or_eq_true, List.contains_eq_mem, decide_eq_true_eq, List.any_eq_true] at h2
  rcases h2 with h2 | ⟨i, hi, h3⟩
  ·exact h k h2
  ·exact hc i (h i hi) k h3

theorem mem_edgesOf {ops : Array Oper} {i : Nat} {o : Oper} (ho : ops[i]? = some o) {k : Nat} : k ∈ edgesOf ops i ↔ ∃ e ∈ o.after, Region.binds .any e = true ∧ e.on = k := by
 unfold edgesOf
 rw [ho]
 simp only [List.mem_map, List.mem_filter, Array.mem_toList_iff]
 exact ⟨fun ⟨e, ⟨h1, h2⟩, h3⟩ => ⟨e, h1, h2, h3⟩, fun ⟨e, h1, h2, h3⟩ => ⟨e, ⟨h1, h2⟩, h3⟩⟩

structure LooseOK (ops : Array Oper) (p : Nat → Bool) (N : Nat) : Prop where
  ng : ∀ (i : Nat) (o : Oper), ops[i]? = some o → o.guard = none
  low : ∀ (i : Nat) (o : Oper), ops[i]? = some o → p i = true → ∀ e ∈ o.after, Region.binds .any e = true → e.on < i ∧ p e.on = true
  dst : ∀ (i : Nat) (o : Oper), ops[i]? = some o → p i = true → ∃ d, o.dst = some d ∧ d < N
  inj : ∀ (i j : Nat) (o o' : Oper), ops[i]? = some o → ops[j]? = some o' → p i = true → p j = true → o.dst = o'.dst → i = j
  bar : ∀ (i : Nat) (o : Oper), ops[i]? = some o → p i = false → ∀ j, j < ops.size → p j = true → j ∈ clo ops 6 (edgesOf ops i)

def looseB (ops : Array Oper) (p : Nat → Bool) (N : Nat) : Bool :=
  (List.range ops.size).all fun i => match ops[i]? with
    | none => true
    | some o => o.guard.isNone && (if p i then
        o.after.all (fun e => !Region.binds .any e || (decide (e.on < i) && p e.on)) &&
          (match o.dst with
            | none => false
            | some d => decide (d < N) && (List.range ops.size).all (fun j => !p j || decide (j = i) || (match ops[j]? with | none => true | some o' => decide (o'.dst ≠ some d))))
      else (List.range ops.size).all (fun j => !p j || (clo ops 6 (edgesOf ops i)).contains j))

theorem looseB_spec {ops : Array Oper} {p : Nat → Bool} {N : Nat} (h : looseB ops p N = true) : LooseOK ops p N := by
 unfold looseB at h
 rw [List.all_eq_true] at h
 have get : ∀ (i : Nat) (o : Oper), ops[i]? = some o → o.guard.isNone = true ∧ (if p i then
    o.after.all (fun e => !Region.binds .any e || (decide (e.on < i) && p e.on)) &&
     (match o.dst with
      |none => false
      |some d => decide (d < N) && (List.range ops.size).all (fun j => !p j || decide (j = i) || (match ops[j]? with | none => true | some o' => decide (o'.dst ≠ some d))))
   else (List.range ops.size).all (fun j => !p j || (clo ops 6 (edgesOf ops i)).contains j)) = true := fun i o ho => by
  have hi : i < ops.size := (Array.getElem?_eq_some_iff.1 ho).1
  have := h i (List.mem_range.2 hi)
  simp only [ho, Bool.and_eq_true] at this
  exact this
 refine ⟨fun i o ho => ?_, fun i o ho hp e he hb => ?_, fun i o ho hp => ?_, fun i j o o' ho ho' hp hp' hd => ?_, fun i o ho hp j hj hpj => ?_⟩
 ·have := (get i o ho).1
  simpa using this
 ·have := (get i o ho).2
  rw [if_pos hp, Bool.and_eq_true] at this
  have h1 := this.1
  rw [Array.all_eq_true_iff_forall_mem] at h1
  have h2 := h1 e he
  rw [hb] at h2
  simpa using h2
 ·have := (get i o ho).2
  rw [if_pos hp, Bool.and_eq_true] at this
  have h1 := this.2
  cases hd : o.dst with
  |none => rw [hd] at h1; cases h1
  |some d =>
   rw [hd] at h1
   simp only [Bool.and_eq_true, decide_eq_true_eq] at h1
   exact ⟨d, rfl, h1.1⟩
 ·have := (get i o ho).2
  rw [if_pos hp, Bool.and_eq_true] at this
  have h1 := this.2
  cases hdd : o.dst with
  |none => rw [hdd] at h1; cases h1
  |some d =>
   rw [hdd] at h1
   simp only [Bool.and_eq_true] at h1
   have h2 := h1.2
   rw [List.all_eq_true] at h2
   have h3 := h2 j (List.mem_range.2 (Array.getElem?_eq_some_iff.1 ho').1)
   rw [hp', ho'] at h3
   simp only [Bool.not_true, Bool.false_or, Bool.or_eq_true, decide_eq_true_eq] at h3
   rcases h3 with h3 | h3
   ·exact h3.symm
   ·exact absurd (hd.symm.trans hdd) h3
 ·have := (get i o ho).2
  rw [if_neg (by simp [hp]), List.all_eq_true] at this
  have h1 := this j (List.mem_range.2 hj)
  rw [hpj, Bool.not_true, Bool.false_or] at h1
  simpa using h1

structure LInv (ops : Array Oper) (V : Nat → World → Value → Prop) (w0 : World) (a0 : Act) (L : Nat → Prop) (a : Act) (u : World) : Prop where
  kp : Kp (fun _ => False) w0 u
  val : ∀ (i : Nat) (o : Oper) (d : Nat), ops[i]? = some o → L i → o.dst = some d → V i u (a.tmps.getD d undef)
  off : ∀ s, (∀ (i : Nat) (o : Oper), ops[i]? = some o → L i → o.dst ≠ some s) → a.tmps.getD s undef = a0.tmps.getD s undef
  size : a.tmps.size = a0.tmps.size
  defers : a.defers = a0.defers

theorem put_getD_same {a : Act} {d : Nat} {v : Value} (h : d < a.tmps.size) : (a.put (some d) v).tmps.getD d undef = v := by
 show (a.tmps.setIfInBounds d v).getD d undef = v
 simp [Array.getD_eq_getD_getElem?, h]
theorem put_getD_ne {a : Act} {x : Option Tmp} {d : Nat} {v : Value} (h : x ≠ some d) : (a.put x v).tmps.getD d undef = a.tmps.getD d undef := by
 cases x with
 |none => rfl
 |some e =>
  show (a.tmps.setIfInBounds e v).getD d undef = _
  simp only [Array.getD_eq_getD_getElem?, Array.getElem?_setIfInBounds]
  rw [if_neg (fun h' => h (by rw [h']))]
theorem put_size (a : Act) (x : Option Tmp) (v : Value) : (a.put x v).tmps.size = a.tmps.size := by
 cases x with
 |none => rfl
 |some e => show (a.tmps.setIfInBounds e v).size = _; simp
theorem put_defers (a : Act) (x : Option Tmp) (v : Value) : (a.put x v).defers = a.defers := by cases x <;> rfl

theorem getD_true_false {listed : Array Bool} {i : Nat} (h : i < listed.size) : listed.getD i true = listed.getD i false := by
 simp [Array.getD_eq_getD_getElem?, Array.getElem?_eq_getElem h]

theorem listed_ext {a b : Array Bool} (hs : a.size = b.size) (h : ∀ i, i < a.size → a.getD i false = b.getD i false) : a = b := by
 apply Array.ext hs
 intro i h1 h2
 have := h i h1
 simpa [Array.getD_eq_getD_getElem?, Array.getElem?_eq_getElem h1, Array.getElem?_eq_getElem h2] using this

theorem wpAny_loose {P : Program} {ops : Array Oper} {Q : Exit → Act → World → Prop} {p : Nat → Bool} {V : Nat → World → Value → Prop} {w0 : World} {a0 : Act} {LP : Array Bool} (L : LooseOK ops p a0.tmps.size)
  (stable : ∀ i u u' v, Kp (fun _ => False) u u' → V i u v → V i u' v)
  (hstep : ∀ (i : Nat) (o : Oper), ops[i]? = some o → p i = true → ∀ a u, Kp (fun _ => False) w0 u →
   (∀ s, (∀ (j : Nat) (oj : Oper), ops[j]? = some oj → p j = true → oj.dst ≠ some s) → a.tmps.getD s undef = a0.tmps.getD s undef) →
   (∀ e ∈ o.after, Region.binds .any e = true → ∀ (oj : Oper) (d : Nat), ops[e.on]? = some oj → oj.dst = some d → V e.on u (a.tmps.getD d undef)) →
   o.wp P a u (fun a' u' => ∃ v, a' = a.put o.dst v ∧ Kp (fun _ => False) u u' ∧ V i u' v) Q)
  (hLs : LP.size = ops.size) (hLP : ∀ i, i < ops.size → LP.getD i false = p i)
  (hend : ∀ a u, LInv ops V w0 a0 (fun i => p i = true) a u → wpAny P .any ops Q (cntU ops.size LP) LP a u) :
  ∀ (fuel : Nat) (listed : Array Bool) (a : Act) (u : World), listed.size = ops.size → fuel = cntU ops.size listed → (∀ i, i < ops.size → listed.getD i false = true → p i = true) → (∀ j, listed.getD j false = true → ∀ k, k ∈ edgesOf ops j → listed.getD k false = true) →
   LInv ops V w0 a0 (fun i => listed.getD i false = true) a u → wpAny P .any ops Q fuel listed a u := by
 intro fuel
 induction fuel with
 |zero =>
  intro listed a u hs hf hl hcl hI
  have hall : ∀ i, i < ops.size → listed.getD i false = true := fun i hi => by
   by_cases h : listed.getD i false = true
   ·exact h
   ·have := cntU_set (listed := listed) (by omega) (by simpa using h) ops.size hi
    omega
  have e : listed = LP := listed_ext (by omega) (fun i hi => by
   rw [hall i (by omega), hLP i (by omega)]
   exact (hl i (by omega) (hall i (by omega))).symm)
  subst e
  have := hend a u ⟨hI.kp, fun i o d ho _ hd => hI.val i o d ho (hall i (Array.getElem?_eq_some_iff.1 ho).1) hd, fun s hs' => hI.off s (fun i o ho hi => hs' i o ho (hl i (Array.getElem?_eq_some_iff.1 ho).1 hi)), hI.size, hI.defers⟩
  rwa [← hf] at this
 |succ fuel ih =>
  intro listed a u hs hf hl hcl hI
  by_cases hall : ∀ i, i < ops.size → p i = true → listed.getD i false = true
  ·have e : listed = LP := listed_ext (by omega) (fun i hi => by
    rw [hLP i (by omega)]
    by_cases h : p i = true
    ·rw [h, hall i (by omega) h]
    ·by_cases h2 : listed.getD i false = true
     ·exact absurd (hl i (by omega) h2) h
     ·have h3 : p i = false := by simpa using h
      have h4 : listed.getD i false = false := by simpa using h2
      rw [h3, h4])
   subst e
   have := hend a u ⟨hI.kp, fun i o d ho hp hd => hI.val i o d ho (hall i (Array.getElem?_eq_some_iff.1 ho).1 hp) hd, fun s hs' => hI.off s (fun i o ho hi => hs' i o ho (hl i (Array.getElem?_eq_some_iff.1 ho).1 hi)), hI.size, hI.defers⟩
   rwa [← hf] at this
  ·obtain ⟨i0, ⟨hi0, hp0, hu0⟩, hmin⟩ := least_of (R := fun i => i < ops.size ∧ p i = true ∧ listed.getD i false = false) (by
    refine Classical.byContradiction fun hno => hall fun i hi hp => ?_
    by_cases h : listed.getD i false = true
    ·exact h
    ·exact absurd ⟨i, hi, hp, by simpa using h⟩ hno)
   have hready : i0 ∈ Region.ready .any ops listed := by
    rw [mem_ready]
    refine ⟨by rw [getD_true_false (by omega)]; exact hu0, ops[i0], Array.getElem?_eq_getElem hi0, fun e he hb => ?_⟩
    obtain ⟨h1, h2⟩ := L.low i0 _ (Array.getElem?_eq_getElem hi0) hp0 e he hb
    by_cases h : listed.getD e.on false = true
    ·exact h
    ·exact absurd ⟨by omega, h2, by simpa using h⟩ (hmin e.on h1)
   refine ⟨fun h => (by rw [h] at hready; cases hready), fun i hi => ?_⟩
   obtain ⟨h1, o, ho, hedge⟩ := mem_ready.1 hi
   have hisz : i < ops.size := (Array.getElem?_eq_some_iff.1 ho).1
   rw [getD_true_false (by omega)] at h1
   have hpi : p i = true := by
    by_cases h : p i = true
    ·exact h
    ·have h3 := clo_listed (listed := fun j => listed.getD j false = true) hcl 6 (edgesOf ops i) (fun k hk => by
      obtain ⟨e, he, hb, hon⟩ := (mem_edgesOf ho).1 hk
      have := hedge e he hb
      rwa [hon] at this) i0 (L.bar i o ho (by simpa using h) i0 hi0 hp0)
     rw [hu0] at h3
     cases h3
   obtain ⟨d, hd, hdN⟩ := L.dst i o ho hpi
   have hw : Region.wanted o (yielded ops a.tmps) = true := by simp [Region.wanted, L.ng i o ho]
   unfold wpOp
   rw [ho]
   simp only
   rw [if_pos hw]
   refine .inl (Oper.wp_mono ?_ (hstep i o ho hpi a u hI.kp (fun s hs' => hI.off s (fun j oj hoj hj => hs' j oj hoj (hl j (Array.getElem?_eq_some_iff.1 hoj).1 hj))) (fun e he hb oj d' hoj hd' => hI.val e.on oj d' hoj (hedge e he hb) hd')))
   rintro a' u' ⟨v, rfl, hK, hV⟩
   have hset : ∀ j, (listed.setIfInBounds i true).getD j false = true ↔ j = i ∨ listed.getD j false = true := fun j => by
    simp only [Array.getD_eq_getD_getElem?, Array.getElem?_setIfInBounds]
    by_cases e : i = j
    ·subst e; simp [show i < listed.size by omega]
    ·rw [if_neg e]
     exact ⟨.inr, fun h => h.resolve_left (fun h => e h.symm)⟩
   refine ih _ _ _ (by simp [hs]) ?_ (fun j hj hlj => ?_) (fun j hj k hk => ?_) ⟨hI.kp.trans hK (fun _ _ h => h), fun j oj dj hoj hj hdj => ?_, fun s hs' => ?_, by rw [put_size]; exact hI.size, by rw [put_defers]; exact hI.defers⟩
   ·have := cntU_set (listed := listed) (by omega) h1 ops.size hisz
    omega
   ·rcases (hset j).1 hlj with e | e
    ·rw [e]; exact hpi
    ·exact hl j hj e
   ·rcases (hset j).1 hj with e | e
    ·subst e
     obtain ⟨e, he, hb, hon⟩ := (mem_edgesOf ho).1 hk
     refine (hset k).2 (.inr ?_)
     rw [← hon]
     exact hedge e he hb
    ·exact (hset k).2 (.inr (hcl j e k hk))
   ·rcases (hset j).1 hj with e | e
    ·subst e
     have : oj = o := by rw [hoj] at ho; exact Option.some.inj ho
     subst this
     rw [hdj] at hd
     have : dj = d := Option.some.inj hd
     subst this
     rw [hdj, put_getD_same (by rw [hI.size]; exact hdN)]
     exact hV
    ·by_cases eji : j = i
     ·subst eji
      rw [h1] at e; cases e
     ·rw [put_getD_ne (fun h => eji (L.inj j i oj o hoj ho (hl j (Array.getElem?_eq_some_iff.1 hoj).1 e) hpi (by rw [hdj, h])))]
      exact stable j u u' _ hK (hI.val j oj dj hoj e hdj)
   ·rw [put_getD_ne (hs' i o ho ((hset i).2 (.inl rfl)))]
    exact hI.off s (fun j oj hoj hj => hs' j oj hoj ((hset j).2 (.inr hj)))

theorem wp_region_loose {P : Program} {id : Nat} {ops : Array Oper} {Q : Exit → Act → World → Prop} {p : Nat → Bool} {V : Nat → World → Value → Prop} {w : World} {a0 : Act} {LP : Array Bool} {K : Nat} (hm : P.follows .mixedOrders = true) (hB : looseB ops p a0.tmps.size = true)
  (stable : ∀ i u u' v, Kp (fun _ => False) u u' → V i u v → V i u' v)
  (hstep : ∀ (i : Nat) (o : Oper), ops[i]? = some o → p i = true → ∀ a u, Kp (fun _ => False) w u →
   (∀ s, (∀ (j : Nat) (oj : Oper), ops[j]? = some oj → p j = true → oj.dst ≠ some s) → a.tmps.getD s undef = a0.tmps.getD s undef) →
   (∀ e ∈ o.after, Region.binds .any e = true → ∀ (oj : Oper) (d : Nat), ops[e.on]? = some oj → oj.dst = some d → V e.on u (a.tmps.getD d undef)) →
   o.wp P a u (fun a' u' => ∃ v, a' = a.put o.dst v ∧ Kp (fun _ => False) u u' ∧ V i u' v) Q)
  (hLs : LP.size = ops.size) (hLP : ∀ i, i < ops.size → LP.getD i false = p i) (hK : cntU ops.size LP = K)
  (hend : ∀ a u, LInv ops V w a0 (fun i => p i = true) a u → wpAny P .any ops Q K LP a u) : (Code.region id ops true).wp P Q a0 w := by
 refine wp_region_any hm ?_
 refine wpAny_loose (looseB_spec hB) stable hstep hLs hLP (fun a u h => by rw [hK]; exact hend a u h) ops.size _ a0 _ (by simp) ?_ (fun i hi h => ?_) (fun i h => ?_) ⟨(Kp.refl (fun _ => False) w).drew, fun i o d ho h => ?_, fun _ _ => rfl, rfl, rfl⟩
 ·have : ∀ n, cntU n (Array.replicate ops.size false) = n := fun n => by
   induction n with
   |zero => rfl
   |succ n ih => rw [cntU_succ, ih]; simp [unl, Array.getD_eq_getD_getElem?, Array.getElem?_replicate]; split <;> simp
  rw [this]
 ·simp [Array.getD_eq_getD_getElem?, Array.getElem?_replicate] at h
  split at h <;> simp at h
 ·simp [Array.getD_eq_getD_getElem?, Array.getElem?_replicate] at h
  split at h <;> simp at h
 ·simp [Array.getD_eq_getD_getElem?, Array.getElem?_replicate] at h
  split at h <;> simp at h

def noDst (ops : Array Oper) (p : Nat → Bool) (s : Nat) : Bool := (List.range ops.size).all fun j => !p j || (match ops[j]? with | none => true | some o => decide (o.dst ≠ some s))
theorem noDst_spec {ops : Array Oper} {p : Nat → Bool} {s : Nat} (h : noDst ops p s = true) : ∀ (j : Nat) (oj : Oper), ops[j]? = some oj → p j = true → oj.dst ≠ some s := by
 intro j oj hj hp
 unfold noDst at h
 rw [List.all_eq_true] at h
 have := h j (List.mem_range.2 (Array.getElem?_eq_some_iff.1 hj).1)
 rw [hp, hj] at this
 simpa using this

theorem LInv.o {ops : Array Oper} {V : Nat → World → Value → Prop} {w : World} {a0 : Act} {p : Nat → Bool} {a : Act} {u : World} (h : LInv ops V w a0 (fun i => p i = true) a u) (s : Nat) (hn : noDst ops p s = true) : a.tmps.getD s undef = a0.tmps.getD s undef := h.off s (noDst_spec hn)
theorem slot_at {a : Act} {s : Nat} {v : Value} (h : a.tmps.getD s undef = v) : a.tmps[s]?.getD undef = v := by rw [← Array.getD_eq_getD_getElem?]; exact h

theorem act_list (a : Act) (n : Nat) (h : a.tmps.size = n) : a = ⟨((List.range n).map (fun s => a.tmps.getD s undef)).toArray, a.defers⟩ := by
 obtain ⟨t, ds⟩ := a
 simp only at h
 subst h
 simp only [Act.mk.injEq, and_true]
 apply Array.ext
 ·simp
 ·intro i h1 h2
  simp [Array.getD_eq_getD_getElem?, Array.getElem?_eq_getElem h1]

theorem act_list22 (a : Act) (h : a.tmps.size = 22) : a = ⟨#[a.tmps.getD 0 undef, a.tmps.getD 1 undef, a.tmps.getD 2 undef, a.tmps.getD 3 undef, a.tmps.getD 4 undef, a.tmps.getD 5 undef, a.tmps.getD 6 undef, a.tmps.getD 7 undef, a.tmps.getD 8 undef, a.tmps.getD 9 undef, a.tmps.getD 10 undef, a.tmps.getD 11 undef, a.tmps.getD 12 undef, a.tmps.getD 13 undef, a.tmps.getD 14 undef, a.tmps.getD 15 undef, a.tmps.getD 16 undef, a.tmps.getD 17 undef, a.tmps.getD 18 undef, a.tmps.getD 19 undef, a.tmps.getD 20 undef, a.tmps.getD 21 undef], a.defers⟩ := act_list a 22 h
theorem act_list30 (a : Act) (h : a.tmps.size = 30) : a = ⟨#[a.tmps.getD 0 undef, a.tmps.getD 1 undef, a.tmps.getD 2 undef, a.tmps.getD 3 undef, a.tmps.getD 4 undef, a.tmps.getD 5 undef, a.tmps.getD 6 undef, a.tmps.getD 7 undef, a.tmps.getD 8 undef, a.tmps.getD 9 undef, a.tmps.getD 10 undef, a.tmps.getD 11 undef, a.tmps.getD 12 undef, a.tmps.getD 13 undef, a.tmps.getD 14 undef, a.tmps.getD 15 undef, a.tmps.getD 16 undef, a.tmps.getD 17 undef, a.tmps.getD 18 undef, a.tmps.getD 19 undef, a.tmps.getD 20 undef, a.tmps.getD 21 undef, a.tmps.getD 22 undef, a.tmps.getD 23 undef, a.tmps.getD 24 undef, a.tmps.getD 25 undef, a.tmps.getD 26 undef, a.tmps.getD 27 undef, a.tmps.getD 28 undef, a.tmps.getD 29 undef], a.defers⟩ := act_list a 30 h
theorem act_list32 (a : Act) (h : a.tmps.size = 32) : a = ⟨#[a.tmps.getD 0 undef, a.tmps.getD 1 undef, a.tmps.getD 2 undef, a.tmps.getD 3 undef, a.tmps.getD 4 undef, a.tmps.getD 5 undef, a.tmps.getD 6 undef, a.tmps.getD 7 undef, a.tmps.getD 8 undef, a.tmps.getD 9 undef, a.tmps.getD 10 undef, a.tmps.getD 11 undef, a.tmps.getD 12 undef, a.tmps.getD 13 undef, a.tmps.getD 14 undef, a.tmps.getD 15 undef, a.tmps.getD 16 undef, a.tmps.getD 17 undef, a.tmps.getD 18 undef, a.tmps.getD 19 undef, a.tmps.getD 20 undef, a.tmps.getD 21 undef, a.tmps.getD 22 undef, a.tmps.getD 23 undef, a.tmps.getD 24 undef, a.tmps.getD 25 undef, a.tmps.getD 26 undef, a.tmps.getD 27 undef, a.tmps.getD 28 undef, a.tmps.getD 29 undef, a.tmps.getD 30 undef, a.tmps.getD 31 undef], a.defers⟩ := act_list a 32 h
theorem act_list41 (a : Act) (h : a.tmps.size = 41) : a = ⟨#[a.tmps.getD 0 undef, a.tmps.getD 1 undef, a.tmps.getD 2 undef, a.tmps.getD 3 undef, a.tmps.getD 4 undef, a.tmps.getD 5 undef, a.tmps.getD 6 undef, a.tmps.getD 7 undef, a.tmps.getD 8 undef, a.tmps.getD 9 undef, a.tmps.getD 10 undef, a.tmps.getD 11 undef, a.tmps.getD 12 undef, a.tmps.getD 13 undef, a.tmps.getD 14 undef, a.tmps.getD 15 undef, a.tmps.getD 16 undef, a.tmps.getD 17 undef, a.tmps.getD 18 undef, a.tmps.getD 19 undef, a.tmps.getD 20 undef, a.tmps.getD 21 undef, a.tmps.getD 22 undef, a.tmps.getD 23 undef, a.tmps.getD 24 undef, a.tmps.getD 25 undef, a.tmps.getD 26 undef, a.tmps.getD 27 undef, a.tmps.getD 28 undef, a.tmps.getD 29 undef, a.tmps.getD 30 undef, a.tmps.getD 31 undef, a.tmps.getD 32 undef, a.tmps.getD 33 undef, a.tmps.getD 34 undef, a.tmps.getD 35 undef, a.tmps.getD 36 undef, a.tmps.getD 37 undef, a.tmps.getD 38 undef, a.tmps.getD 39 undef, a.tmps.getD 40 undef], a.defers⟩ := act_list a 41 h
theorem act_list46 (a : Act) (h : a.tmps.size = 46) : a = ⟨#[a.tmps.getD 0 undef, a.tmps.getD 1 undef, a.tmps.getD 2 undef, a.tmps.getD 3 undef, a.tmps.getD 4 undef, a.tmps.getD 5 undef, a.tmps.getD 6 undef, a.tmps.getD 7 undef, a.tmps.getD 8 undef, a.tmps.getD 9 undef, a.tmps.getD 10 undef, a.tmps.getD 11 undef, a.tmps.getD 12 undef, a.tmps.getD 13 undef, a.tmps.getD 14 undef, a.tmps.getD 15 undef, a.tmps.getD 16 undef, a.tmps.getD 17 undef, a.tmps.getD 18 undef, a.tmps.getD 19 undef, a.tmps.getD 20 undef, a.tmps.getD 21 undef, a.tmps.getD 22 undef, a.tmps.getD 23 undef, a.tmps.getD 24 undef, a.tmps.getD 25 undef, a.tmps.getD 26 undef, a.tmps.getD 27 undef, a.tmps.getD 28 undef, a.tmps.getD 29 undef, a.tmps.getD 30 undef, a.tmps.getD 31 undef, a.tmps.getD 32 undef, a.tmps.getD 33 undef, a.tmps.getD 34 undef, a.tmps.getD 35 undef, a.tmps.getD 36 undef, a.tmps.getD 37 undef, a.tmps.getD 38 undef, a.tmps.getD 39 undef, a.tmps.getD 40 undef, a.tmps.getD 41 undef, a.tmps.getD 42 undef, a.tmps.getD 43 undef, a.tmps.getD 44 undef, a.tmps.getD 45 undef], a.defers⟩ := act_list a 46 h
theorem act_list59 (a : Act) (h : a.tmps.size = 59) : a = ⟨#[a.tmps.getD 0 undef, a.tmps.getD 1 undef, a.tmps.getD 2 undef, a.tmps.getD 3 undef, a.tmps.getD 4 undef, a.tmps.getD 5 undef, a.tmps.getD 6 undef, a.tmps.getD 7 undef, a.tmps.getD 8 undef, a.tmps.getD 9 undef, a.tmps.getD 10 undef, a.tmps.getD 11 undef, a.tmps.getD 12 undef, a.tmps.getD 13 undef, a.tmps.getD 14 undef, a.tmps.getD 15 undef, a.tmps.getD 16 undef, a.tmps.getD 17 undef, a.tmps.getD 18 undef, a.tmps.getD 19 undef, a.tmps.getD 20 undef, a.tmps.getD 21 undef, a.tmps.getD 22 undef, a.tmps.getD 23 undef, a.tmps.getD 24 undef, a.tmps.getD 25 undef, a.tmps.getD 26 undef, a.tmps.getD 27 undef, a.tmps.getD 28 undef, a.tmps.getD 29 undef, a.tmps.getD 30 undef, a.tmps.getD 31 undef, a.tmps.getD 32 undef, a.tmps.getD 33 undef, a.tmps.getD 34 undef, a.tmps.getD 35 undef, a.tmps.getD 36 undef, a.tmps.getD 37 undef, a.tmps.getD 38 undef, a.tmps.getD 39 undef, a.tmps.getD 40 undef, a.tmps.getD 41 undef, a.tmps.getD 42 undef, a.tmps.getD 43 undef, a.tmps.getD 44 undef, a.tmps.getD 45 undef, a.tmps.getD 46 undef, a.tmps.getD 47 undef, a.tmps.getD 48 undef, a.tmps.getD 49 undef, a.tmps.getD 50 undef, a.tmps.getD 51 undef, a.tmps.getD 52 undef, a.tmps.getD 53 undef, a.tmps.getD 54 undef, a.tmps.getD 55 undef, a.tmps.getD 56 undef, a.tmps.getD 57 undef, a.tmps.getD 58 undef], a.defers⟩ := act_list a 59 h
theorem act_list84 (a : Act) (h : a.tmps.size = 84) : a = ⟨#[a.tmps.getD 0 undef, a.tmps.getD 1 undef, a.tmps.getD 2 undef, a.tmps.getD 3 undef, a.tmps.getD 4 undef, a.tmps.getD 5 undef, a.tmps.getD 6 undef, a.tmps.getD 7 undef, a.tmps.getD 8 undef, a.tmps.getD 9 undef, a.tmps.getD 10 undef, a.tmps.getD 11 undef, a.tmps.getD 12 undef, a.tmps.getD 13 undef, a.tmps.getD 14 undef, a.tmps.getD 15 undef, a.tmps.getD 16 undef, a.tmps.getD 17 undef, a.tmps.getD 18 undef, a.tmps.getD 19 undef, a.tmps.getD 20 undef, a.tmps.getD 21 undef, a.tmps.getD 22 undef, a.tmps.getD 23 undef, a.tmps.getD 24 undef, a.tmps.getD 25 undef, a.tmps.getD 26 undef, a.tmps.getD 27 undef, a.tmps.getD 28 undef, a.tmps.getD 29 undef, a.tmps.getD 30 undef, a.tmps.getD 31 undef, a.tmps.getD 32 undef, a.tmps.getD 33 undef, a.tmps.getD 34 undef, a.tmps.getD 35 undef, a.tmps.getD 36 undef, a.tmps.getD 37 undef, a.tmps.getD 38 undef, a.tmps.getD 39 undef, a.tmps.getD 40 undef, a.tmps.getD 41 undef, a.tmps.getD 42 undef, a.tmps.getD 43 undef, a.tmps.getD 44 undef, a.tmps.getD 45 undef, a.tmps.getD 46 undef, a.tmps.getD 47 undef, a.tmps.getD 48 undef, a.tmps.getD 49 undef, a.tmps.getD 50 undef, a.tmps.getD 51 undef, a.tmps.getD 52 undef, a.tmps.getD 53 undef, a.tmps.getD 54 undef, a.tmps.getD 55 undef, a.tmps.getD 56 undef, a.tmps.getD 57 undef, a.tmps.getD 58 undef, a.tmps.getD 59 undef, a.tmps.getD 60 undef, a.tmps.getD 61 undef, a.tmps.getD 62 undef, a.tmps.getD 63 undef, a.tmps.getD 64 undef, a.tmps.getD 65 undef, a.tmps.getD 66 undef, a.tmps.getD 67 undef, a.tmps.getD 68 undef, a.tmps.getD 69 undef, a.tmps.getD 70 undef, a.tmps.getD 71 undef, a.tmps.getD 72 undef, a.tmps.getD 73 undef, a.tmps.getD 74 undef, a.tmps.getD 75 undef, a.tmps.getD 76 undef, a.tmps.getD 77 undef, a.tmps.getD 78 undef, a.tmps.getD 79 undef, a.tmps.getD 80 undef, a.tmps.getD 81 undef, a.tmps.getD 82 undef, a.tmps.getD 83 undef], a.defers⟩ := act_list a 84 h
theorem act_list104 (a : Act) (h : a.tmps.size = 104) : a = ⟨#[a.tmps.getD 0 undef, a.tmps.getD 1 undef, a.tmps.getD 2 undef, a.tmps.getD 3 undef, a.tmps.getD 4 undef, a.tmps.getD 5 undef, a.tmps.getD 6 undef, a.tmps.getD 7 undef, a.tmps.getD 8 undef, a.tmps.getD 9 undef, a.tmps.getD 10 undef, a.tmps.getD 11 undef, a.tmps.getD 12 undef, a.tmps.getD 13 undef, a.tmps.getD 14 undef, a.tmps.getD 15 undef, a.tmps.getD 16 undef, a.tmps.getD 17 undef, a.tmps.getD 18 undef, a.tmps.getD 19 undef, a.tmps.getD 20 undef, a.tmps.getD 21 undef, a.tmps.getD 22 undef, a.tmps.getD 23 undef, a.tmps.getD 24 undef, a.tmps.getD 25 undef, a.tmps.getD 26 undef, a.tmps.getD 27 undef, a.tmps.getD 28 undef, a.tmps.getD 29 undef, a.tmps.getD 30 undef, a.tmps.getD 31 undef, a.tmps.getD 32 undef, a.tmps.getD 33 undef, a.tmps.getD 34 undef, a.tmps.getD 35 undef, a.tmps.getD 36 undef, a.tmps.getD 37 undef, a.tmps.getD 38 undef, a.tmps.getD 39 undef, a.tmps.getD 40 undef, a.tmps.getD 41 undef, a.tmps.getD 42 undef, a.tmps.getD 43 undef, a.tmps.getD 44 undef, a.tmps.getD 45 undef, a.tmps.getD 46 undef, a.tmps.getD 47 undef, a.tmps.getD 48 undef, a.tmps.getD 49 undef, a.tmps.getD 50 undef, a.tmps.getD 51 undef, a.tmps.getD 52 undef, a.tmps.getD 53 undef, a.tmps.getD 54 undef, a.tmps.getD 55 undef, a.tmps.getD 56 undef, a.tmps.getD 57 undef, a.tmps.getD 58 undef, a.tmps.getD 59 undef, a.tmps.getD 60 undef, a.tmps.getD 61 undef, a.tmps.getD 62 undef, a.tmps.getD 63 undef, a.tmps.getD 64 undef, a.tmps.getD 65 undef, a.tmps.getD 66 undef, a.tmps.getD 67 undef, a.tmps.getD 68 undef, a.tmps.getD 69 undef, a.tmps.getD 70 undef, a.tmps.getD 71 undef, a.tmps.getD 72 undef, a.tmps.getD 73 undef, a.tmps.getD 74 undef, a.tmps.getD 75 undef, a.tmps.getD 76 undef, a.tmps.getD 77 undef, a.tmps.getD 78 undef, a.tmps.getD 79 undef, a.tmps.getD 80 undef, a.tmps.getD 81 undef, a.tmps.getD 82 undef, a.tmps.getD 83 undef, a.tmps.getD 84 undef, a.tmps.getD 85 undef, a.tmps.getD 86 undef, a.tmps.getD 87 undef, a.tmps.getD 88 undef, a.tmps.getD 89 undef, a.tmps.getD 90 undef, a.tmps.getD 91 undef, a.tmps.getD 92 undef, a.tmps.getD 93 undef, a.tmps.getD 94 undef, a.tmps.getD 95 undef, a.tmps.getD 96 undef, a.tmps.getD 97 undef, a.tmps.getD 98 undef, a.tmps.getD 99 undef, a.tmps.getD 100 undef, a.tmps.getD 101 undef, a.tmps.getD 102 undef, a.tmps.getD 103 undef], a.defers⟩ := act_list a 104 h
theorem act_list106 (a : Act) (h : a.tmps.size = 106) : a = ⟨#[a.tmps.getD 0 undef, a.tmps.getD 1 undef, a.tmps.getD 2 undef, a.tmps.getD 3 undef, a.tmps.getD 4 undef, a.tmps.getD 5 undef, a.tmps.getD 6 undef, a.tmps.getD 7 undef, a.tmps.getD 8 undef, a.tmps.getD 9 undef, a.tmps.getD 10 undef, a.tmps.getD 11 undef, a.tmps.getD 12 undef, a.tmps.getD 13 undef, a.tmps.getD 14 undef, a.tmps.getD 15 undef, a.tmps.getD 16 undef, a.tmps.getD 17 undef, a.tmps.getD 18 undef, a.tmps.getD 19 undef, a.tmps.getD 20 undef, a.tmps.getD 21 undef, a.tmps.getD 22 undef, a.tmps.getD 23 undef, a.tmps.getD 24 undef, a.tmps.getD 25 undef, a.tmps.getD 26 undef, a.tmps.getD 27 undef, a.tmps.getD 28 undef, a.tmps.getD 29 undef, a.tmps.getD 30 undef, a.tmps.getD 31 undef, a.tmps.getD 32 undef, a.tmps.getD 33 undef, a.tmps.getD 34 undef, a.tmps.getD 35 undef, a.tmps.getD 36 undef, a.tmps.getD 37 undef, a.tmps.getD 38 undef, a.tmps.getD 39 undef, a.tmps.getD 40 undef, a.tmps.getD 41 undef, a.tmps.getD 42 undef, a.tmps.getD 43 undef, a.tmps.getD 44 undef, a.tmps.getD 45 undef, a.tmps.getD 46 undef, a.tmps.getD 47 undef, a.tmps.getD 48 undef, a.tmps.getD 49 undef, a.tmps.getD 50 undef, a.tmps.getD 51 undef, a.tmps.getD 52 undef, a.tmps.getD 53 undef, a.tmps.getD 54 undef, a.tmps.getD 55 undef, a.tmps.getD 56 undef, a.tmps.getD 57 undef, a.tmps.getD 58 undef, a.tmps.getD 59 undef, a.tmps.getD 60 undef, a.tmps.getD 61 undef, a.tmps.getD 62 undef, a.tmps.getD 63 undef, a.tmps.getD 64 undef, a.tmps.getD 65 undef, a.tmps.getD 66 undef, a.tmps.getD 67 undef, a.tmps.getD 68 undef, a.tmps.getD 69 undef, a.tmps.getD 70 undef, a.tmps.getD 71 undef, a.tmps.getD 72 undef, a.tmps.getD 73 undef, a.tmps.getD 74 undef, a.tmps.getD 75 undef, a.tmps.getD 76 undef, a.tmps.getD 77 undef, a.tmps.getD 78 undef, a.tmps.getD 79 undef, a.tmps.getD 80 undef, a.tmps.getD 81 undef, a.tmps.getD 82 undef, a.tmps.getD 83 undef, a.tmps.getD 84 undef, a.tmps.getD 85 undef, a.tmps.getD 86 undef, a.tmps.getD 87 undef, a.tmps.getD 88 undef, a.tmps.getD 89 undef, a.tmps.getD 90 undef, a.tmps.getD 91 undef, a.tmps.getD 92 undef, a.tmps.getD 93 undef, a.tmps.getD 94 undef, a.tmps.getD 95 undef, a.tmps.getD 96 undef, a.tmps.getD 97 undef, a.tmps.getD 98 undef, a.tmps.getD 99 undef, a.tmps.getD 100 undef, a.tmps.getD 101 undef, a.tmps.getD 102 undef, a.tmps.getD 103 undef, a.tmps.getD 104 undef, a.tmps.getD 105 undef], a.defers⟩ := act_list a 106 h
theorem act_list206 (a : Act) (h : a.tmps.size = 206) : a = ⟨#[a.tmps.getD 0 undef, a.tmps.getD 1 undef, a.tmps.getD 2 undef, a.tmps.getD 3 undef, a.tmps.getD 4 undef, a.tmps.getD 5 undef, a.tmps.getD 6 undef, a.tmps.getD 7 undef, a.tmps.getD 8 undef, a.tmps.getD 9 undef, a.tmps.getD 10 undef, a.tmps.getD 11 undef, a.tmps.getD 12 undef, a.tmps.getD 13 undef, a.tmps.getD 14 undef, a.tmps.getD 15 undef, a.tmps.getD 16 undef, a.tmps.getD 17 undef, a.tmps.getD 18 undef, a.tmps.getD 19 undef, a.tmps.getD 20 undef, a.tmps.getD 21 undef, a.tmps.getD 22 undef, a.tmps.getD 23 undef, a.tmps.getD 24 undef, a.tmps.getD 25 undef, a.tmps.getD 26 undef, a.tmps.getD 27 undef, a.tmps.getD 28 undef, a.tmps.getD 29 undef, a.tmps.getD 30 undef, a.tmps.getD 31 undef, a.tmps.getD 32 undef, a.tmps.getD 33 undef, a.tmps.getD 34 undef, a.tmps.getD 35 undef, a.tmps.getD 36 undef, a.tmps.getD 37 undef, a.tmps.getD 38 undef, a.tmps.getD 39 undef, a.tmps.getD 40 undef, a.tmps.getD 41 undef, a.tmps.getD 42 undef, a.tmps.getD 43 undef, a.tmps.getD 44 undef, a.tmps.getD 45 undef, a.tmps.getD 46 undef, a.tmps.getD 47 undef, a.tmps.getD 48 undef, a.tmps.getD 49 undef, a.tmps.getD 50 undef, a.tmps.getD 51 undef, a.tmps.getD 52 undef, a.tmps.getD 53 undef, a.tmps.getD 54 undef, a.tmps.getD 55 undef, a.tmps.getD 56 undef, a.tmps.getD 57 undef, a.tmps.getD 58 undef, a.tmps.getD 59 undef, a.tmps.getD 60 undef, a.tmps.getD 61 undef, a.tmps.getD 62 undef, a.tmps.getD 63 undef, a.tmps.getD 64 undef, a.tmps.getD 65 undef, a.tmps.getD 66 undef, a.tmps.getD 67 undef, a.tmps.getD 68 undef, a.tmps.getD 69 undef, a.tmps.getD 70 undef, a.tmps.getD 71 undef, a.tmps.getD 72 undef, a.tmps.getD 73 undef, a.tmps.getD 74 undef, a.tmps.getD 75 undef, a.tmps.getD 76 undef, a.tmps.getD 77 undef, a.tmps.getD 78 undef, a.tmps.getD 79 undef, a.tmps.getD 80 undef, a.tmps.getD 81 undef, a.tmps.getD 82 undef, a.tmps.getD 83 undef, a.tmps.getD 84 undef, a.tmps.getD 85 undef, a.tmps.getD 86 undef, a.tmps.getD 87 undef, a.tmps.getD 88 undef, a.tmps.getD 89 undef, a.tmps.getD 90 undef, a.tmps.getD 91 undef, a.tmps.getD 92 undef, a.tmps.getD 93 undef, a.tmps.getD 94 undef, a.tmps.getD 95 undef, a.tmps.getD 96 undef, a.tmps.getD 97 undef, a.tmps.getD 98 undef, a.tmps.getD 99 undef, a.tmps.getD 100 undef, a.tmps.getD 101 undef, a.tmps.getD 102 undef, a.tmps.getD 103 undef, a.tmps.getD 104 undef, a.tmps.getD 105 undef, a.tmps.getD 106 undef, a.tmps.getD 107 undef, a.tmps.getD 108 undef, a.tmps.getD 109 undef, a.tmps.getD 110 undef, a.tmps.getD 111 undef, a.tmps.getD 112 undef, a.tmps.getD 113 undef, a.tmps.getD 114 undef, a.tmps.getD 115 undef, a.tmps.getD 116 undef, a.tmps.getD 117 undef, a.tmps.getD 118 undef, a.tmps.getD 119 undef, a.tmps.getD 120 undef, a.tmps.getD 121 undef, a.tmps.getD 122 undef, a.tmps.getD 123 undef, a.tmps.getD 124 undef, a.tmps.getD 125 undef, a.tmps.getD 126 undef, a.tmps.getD 127 undef, a.tmps.getD 128 undef, a.tmps.getD 129 undef, a.tmps.getD 130 undef, a.tmps.getD 131 undef, a.tmps.getD 132 undef, a.tmps.getD 133 undef, a.tmps.getD 134 undef, a.tmps.getD 135 undef, a.tmps.getD 136 undef, a.tmps.getD 137 undef, a.tmps.getD 138 undef, a.tmps.getD 139 undef, a.tmps.getD 140 undef, a.tmps.getD 141 undef, a.tmps.getD 142 undef, a.tmps.getD 143 undef, a.tmps.getD 144 undef, a.tmps.getD 145 undef, a.tmps.getD 146 undef, a.tmps.getD 147 undef, a.tmps.getD 148 undef, a.tmps.getD 149 undef, a.tmps.getD 150 undef, a.tmps.getD 151 undef, a.tmps.getD 152 undef, a.tmps.getD 153 undef, a.tmps.getD 154 undef, a.tmps.getD 155 undef, a.tmps.getD 156 undef, a.tmps.getD 157 undef, a.tmps.getD 158 undef, a.tmps.getD 159 undef, a.tmps.getD 160 undef, a.tmps.getD 161 undef, a.tmps.getD 162 undef, a.tmps.getD 163 undef, a.tmps.getD 164 undef, a.tmps.getD 165 undef, a.tmps.getD 166 undef, a.tmps.getD 167 undef, a.tmps.getD 168 undef, a.tmps.getD 169 undef, a.tmps.getD 170 undef, a.tmps.getD 171 undef, a.tmps.getD 172 undef, a.tmps.getD 173 undef, a.tmps.getD 174 undef, a.tmps.getD 175 undef, a.tmps.getD 176 undef, a.tmps.getD 177 undef, a.tmps.getD 178 undef, a.tmps.getD 179 undef, a.tmps.getD 180 undef, a.tmps.getD 181 undef, a.tmps.getD 182 undef, a.tmps.getD 183 undef, a.tmps.getD 184 undef, a.tmps.getD 185 undef, a.tmps.getD 186 undef, a.tmps.getD 187 undef, a.tmps.getD 188 undef, a.tmps.getD 189 undef, a.tmps.getD 190 undef, a.tmps.getD 191 undef, a.tmps.getD 192 undef, a.tmps.getD 193 undef, a.tmps.getD 194 undef, a.tmps.getD 195 undef, a.tmps.getD 196 undef, a.tmps.getD 197 undef, a.tmps.getD 198 undef, a.tmps.getD 199 undef, a.tmps.getD 200 undef, a.tmps.getD 201 undef, a.tmps.getD 202 undef, a.tmps.getD 203 undef, a.tmps.getD 204 undef, a.tmps.getD 205 undef], a.defers⟩ := act_list a 206 h
end Go.Proofs.YtnoknecfdnjomaaGreat

/-
  What the operations of a loose region yield: lists of their own, copies of lists.
-/
namespace Go.Proofs.YtnoknecfdnjomaaGreat
open Go Go.RowKit

def LitV (t : TypeId) (u : World) (v : Value) : Prop := ∃ g, v = .slice (some ⟨g, 0, none⟩) 0 0 ∧ Blk u g #[] t
def LitC (B : Nat) (cs : Array Value) (n : Nat) (t : TypeId) (u : World) (v : Value) : Prop := ∃ g, v = .slice (some ⟨g, 0, none⟩) n n ∧ Blk u g cs t ∧ B ≤ g
def SlI (L : List Int) (n : Nat) (u : World) (v : Value) : Prop := ∃ a c, v = .slice a n c ∧ SlOK a n c ∧ IntsAt u a L
def SlK (rows : List (List Value)) (n : Nat) (u : World) (v : Value) : Prop := ∃ a c, v = .slice a n c ∧ SlOK a n c ∧ RowAt u a rows.flatten
def EqV (x : Value) (_ : World) (v : Value) : Prop := v = x
def AnyV (_ : World) (_ : Value) : Prop := True

def Stable (V : World → Value → Prop) : Prop := ∀ u u' v, Kp (fun _ => False) u u' → V u v → V u' v
theorem LitV.st (t : TypeId) : Stable (LitV t) := fun _ _ _ k ⟨g, h1, h2⟩ => ⟨g, h1, h2.kp k (fun h => h)⟩
theorem LitC.st (B : Nat) (cs : Array Value) (n : Nat) (t : TypeId) : Stable (LitC B cs n t) := fun _ _ _ k ⟨g, h1, h2, h3⟩ => ⟨g, h1, h2.kp k (fun h => h), h3⟩
theorem SlI.st (L : List Int) (n : Nat) : Stable (SlI L n) := fun _ _ _ k ⟨a, c, h1, h2, h3⟩ => ⟨a, c, h1, h2, h3.kp k (fun _ _ h => h)⟩
theorem SlK.st (L : List (List Value)) (n : Nat) : Stable (SlK L n) := fun _ _ _ k ⟨a, c, h1, h2, h3⟩ => ⟨a, c, h1, h2, h3.kp k (fun _ _ h => h)⟩
theorem EqV.st (x : Value) : Stable (EqV x) := fun _ _ _ _ h => h
theorem AnyV.st : Stable AnyV := fun _ _ _ _ _ => trivial

def SlF (B : Nat) (rows : List (List Value)) (n : Nat) (u : World) (v : Value) : Prop := ∃ a c, v = .slice a n c ∧ SlOK a n c ∧ RowAt u a rows.flatten ∧ (rows ≠ [] → ∀ p, a = some p → B ≤ p.block)
theorem SlF.st (B : Nat) (L : List (List Value)) (n : Nat) : Stable (SlF B L n) := fun _ _ _ k ⟨a, c, h1, h2, h3, h4⟩ => ⟨a, c, h1, h2, h3.kp k (fun _ _ h => h), h4⟩
theorem SlF.kp {B n : Nat} {rows : List (List Value)} {S : Nat → Prop} {u u' : World} {v : Value} (h : SlF B rows n u v) (k : Kp S u u') (hS : ∀ j, S j → j < B) : SlF B rows n u' v := by
 obtain ⟨a, c, h1, h2, h3, h4⟩ := h
 refine ⟨a, c, h1, h2, ?_, h4⟩
 by_cases hn : rows = []
 ·subst hn; exact RowAt.nil _ _
 ·exact h3.kp k (fun p hp hs => by have := h4 hn p hp; have := hS _ hs; omega)
theorem SlF.low {B B' n : Nat} {rows : List (List Value)} {u : World} {v : Value} (h : SlF B rows n u v) (hb : B' ≤ B) : SlF B' rows n u v := by
 obtain ⟨a, c, h1, h2, h3, h4⟩ := h
 exact ⟨a, c, h1, h2, h3, fun hn p hp => Nat.le_trans hb (h4 hn p hp)⟩
theorem SlF.row {B n : Nat} {rows : List (List Value)} {u : World} {a : Option Addr} {c : Nat} (h : SlF B rows n u (.slice a n c)) : SlOK a n c ∧ RowAt u a rows.flatten := by
 obtain ⟨a2, c2, e, h2, h3, _⟩ := h
 simp only [Value.slice.injEq, true_and] at e
 obtain ⟨rfl, rfl⟩ := e
 exact ⟨h2, h3⟩

theorem ownForm {w : World} {base : Nat} {e : TypeId} {v : Value} {cs : List Value} (h : Own w base e v cs) : ∃ a cap, v = .slice a cs.length cap ∧ cs.length ≤ cap ∧ cap ≤ maxLen ∧ (a = none → cap = 0) ∧ (∀ p, a = some p → base ≤ p.block) ∧ RowAt w a cs := by
 rcases h.2 with ⟨rfl, hn⟩ | ⟨g, cap, cur, rfl, hb, hg, hnc, hcm, hcs, htake⟩
 ·have : cs = [] := List.eq_nil_of_length_eq_zero hn
  subst this
  exact ⟨none, 0, rfl, Nat.le_refl _, Nat.zero_le _, fun _ => rfl, fun p hp => (by cases hp), RowAt.nil _ _⟩
 ·have hB : Blk w g cur e := hg
  exact ⟨_, cap, rfl, hnc, hcm, (fun h => by cases h), fun p hp => by simp at hp; subst hp; exact hb, hB.rowAt (off := 0) (n := cs.length * 1) (by simpa using htake)⟩

def atV (Vs : List (World → Value → Prop)) (i : Nat) : World → Value → Prop := Vs.getD i AnyV
theorem atV_st {Vs : List (World → Value → Prop)} (h : ∀ V ∈ Vs, Stable V) : ∀ i u u' v, Kp (fun _ => False) u u' → atV Vs i u v → atV Vs i u' v := by
 intro i u u' v k
 unfold atV
 rw [List.getD_eq_getElem?_getD]
 cases hi : Vs[i]? with
 |none => exact fun _ => trivial
 |some V => exact h V (List.mem_of_getElem? hi) u u' v k

theorem lit_append {P : Program} {u : World} {t ty e : TypeId} {z : Value} {k bytes g : Nat} (ht : P.underlying t = some (.slice e)) (hI : (P.info? e).map (fun i => (i.zero, i.size, i.bytes)) = some (some z, k, bytes)) (hzs : z.cells.size = k) (hk : 0 < k)
  (hB : Blk u g #[] e) {src : Option Addr} {n c : Nat} {rows : List (List Value)} (hn : rows.length = n) (hl : ∀ r ∈ rows, r.length = k) (h1 : ∀ r ∈ rows, ∀ x ∈ r, x.oneCell' = true) (hr : RowAt u src rows.flatten) (ho : SlOK src n c) (hm : n ≤ maxLen) (hb : n * bytes ≤ 140737488355328) :
  ∃ v' u', (Builtin.append_ #[t, t] ty #[.slice (some ⟨g, 0, none⟩) 0 0, .slice src n c]).run P u = .ok v' u' ∧ SlF u.heap.size rows n u' v' ∧ Kp (fun _ => False) u u' := by
 obtain ⟨i0, hi, hz0, hz1, hz2⟩ := info_parts hI
 have hfl : rows.flatten.length = n * k := by rw [flat_length hl, hn]
 have hone : ∀ x ∈ rows.flatten, x.oneCell' = true := fun x hx => by
  obtain ⟨r, hr, hxr⟩ := List.mem_flatten.1 hx
  exact h1 r hr x hxr
 have hOwn : OwnK u g e k (.slice (some ⟨g, 0, none⟩) 0 0) [] := OwnK.lit (rows := []) hB (Nat.le_refl _) (fun r h => by cases h) (Nat.zero_le _)
 cases src with
 |none =>
  have hc := ho.nil rfl
  have hn0 : n = 0 := by have := ho.le; omega
  subst hc hn0
  have hrw : rows = [] := List.eq_nil_of_length_eq_zero hn
  subst hrw
  refine ⟨.slice (some ⟨g, 0, none⟩) 0 0, u, run_append_owned_none (P := P) (w := u) g t ty e i0 k ht hi _ 0 [] hOwn.own, ⟨some ⟨g, 0, none⟩, 0, rfl, ⟨Nat.le_refl _, Nat.zero_le _, fun h => by cases h⟩, RowAt.nil _ _, fun h => absurd rfl h⟩, Kp.refl _ _⟩
 |some ad =>
  have hcells : ∀ j x, rows.flatten[j]? = some x → u.cell? (ad.add j) = some x := fun j x hj => by
   obtain ⟨b, off, hab, hc⟩ := hr j x hj
   simp only [Option.some.injEq] at hab
   subst hab
   rw [add_plain']
   exact hc
  by_cases hn0 : n = 0
  ·subst hn0
   have hrw : rows = [] := List.eq_nil_of_length_eq_zero hn
   subst hrw
   have hrun := run_append_room_cells (P := P) (w := u) t ty e i0 ht hi g 0 0 0 ad 0 c [] (by simp) (fun j x hj => by simp at hj) (fun x hx => by cases hx) (Nat.le_refl _) (fun j hj => by simp at hj) (fun j hj => by simp at hj)
   refine ⟨_, _, hrun, ⟨some ⟨g, 0, none⟩, 0, rfl, ⟨Nat.le_refl _, Nat.zero_le _, fun h => by cases h⟩, RowAt.nil _ _, fun h => absurd rfl h⟩, ?_⟩
   exact Kp.refl _ _
  ·obtain ⟨v', u', hrun, hown, hg⟩ := run_append_arg_grows (P := P) (w := u) t ty e i0 z k bytes ht hi hz0 hz1 hz2 hzs hk ⟨g, 0, none⟩ 0 0 [] (by simp) (fun j x hj => by simp at hj) ad n c rows.flatten hfl hcells (by omega) (by omega) (by rw [Nat.zero_add]; exact hb)
   have hO : OwnK u' u.heap.size e k v' rows := ⟨by simpa [hn] using hown, hl⟩
   obtain ⟨a, c', e1, h2, h3, h4, h5, h6⟩ := hO.form
   rw [hn] at e1 h2
   exact ⟨v', u', hrun, ⟨a, c', e1, ⟨h2, h3, h4⟩, h6, fun _ p hp => by obtain ⟨g', rfl, hb', -⟩ := h5 p hp; exact hb'⟩, (Kp.refl (fun _ => False) u).grown hg (fun j hj _ => by cases hj)⟩

theorem wpAny_tail {P : Program} {l : List Oper} {Q : Exit → Act → World → Prop} (n : Nat) {LP : Array Bool} {a : Act} {u : World} {K : Nat} (hK : (l.drop n).length = K) (hB : Region.seqB .any l.toArray K n LP = true) (h : wpList P l.toArray Q (l.drop n) a u) : wpAny P .any l.toArray Q K LP a u := by
 subst hK
 exact wpAny_of_seq (md := .any) (Q' := Q) (l.drop n) n LP a u (fun j => by simp [List.getElem?_drop]) hB h

theorem lw_append {P : Program} {o : Oper} {a : Act} {u : World} {Q : Exit → Act → World → Prop} (s x : Operand) (t e : TypeId) (hop : o.op = .call { callee := .builtin .append, args := #[s, x], argTypes := #[t, t] }) {z : Value} {k bytes : Nat}
  (ht : P.underlying t = some (.slice e)) (hI : (P.info? e).map (fun i => (i.zero, i.size, i.bytes)) = some (some z, k, bytes)) (hzs : z.cells.size = k) (hk : 0 < k)
  (hs : LitV e u (a.eval s)) {rows : List (List Value)} {n : Nat} (hx : SlK rows n u (a.eval x)) (hn : rows.length = n) (hl : ∀ r ∈ rows, r.length = k) (h1 : ∀ r ∈ rows, ∀ y ∈ r, y.oneCell' = true) (hm : n ≤ maxLen) (hb : n * bytes ≤ 140737488355328) {B : Nat} (hBu : B ≤ u.heap.size) :
  o.wp P a u (fun a' u' => ∃ v, a' = a.put o.dst v ∧ Kp (fun _ => False) u u' ∧ SlF B rows n u' v) Q := by
 obtain ⟨g, hg, hB⟩ := hs
 obtain ⟨src, c, hsrc, hok, hr⟩ := hx
 obtain ⟨v', u', hrun, hS, hK⟩ := lit_append (P := P) (u := u) (t := t) (ty := o.type) ht hI hzs hk hB hn hl h1 hr hok hm hb
 unfold Oper.wp execOp
 simp only [hop, resolve, invoke, builtin, Sem.run_bind, Sem.run_pure, Result.andThen_ok, List.map_toArray, List.map_cons, List.map_nil, hg, hsrc, hrun]
 obtain ⟨a1, c1, q1, q2, q3, q4⟩ := hS
 exact ⟨v', rfl, hK, a1, c1, q1, q2, q3, fun hn p hp => Nat.le_trans hBu (q4 hn p hp)⟩



def upTo (n i : Nat) : Bool := decide (i < n)

theorem upTo_spec {n m : Nat} {LP : Array Bool} (h : (List.range m).all (fun i => LP.getD i false == upTo n i) = true) : ∀ i, i < m → LP.getD i false = upTo n i := by
 intro i hi
 rw [List.all_eq_true] at h
 have := h i (List.mem_range.2 hi)
 simpa using this

def ir (L : List Int) : List (List Value) := L.map (fun x => [Value.int .i64 x])
theorem ir_flat (L : List Int) : (ir L).flatten = L.map (Value.int .i64) := by
 unfold ir
 rw [← flat_ones (L.map (Value.int .i64)), List.map_map]
 rfl
theorem ir_len (L : List Int) : ∀ r ∈ ir L, r.length = 1 := fun r hr => by obtain ⟨x, _, rfl⟩ := List.mem_map.1 hr; rfl
theorem ir_one (L : List Int) : ∀ r ∈ ir L, ∀ y ∈ r, y.oneCell' = true := fun r hr y hy => by
 obtain ⟨x, _, rfl⟩ := List.mem_map.1 hr
 simp at hy; subst hy; rfl
theorem ir_length (L : List Int) : (ir L).length = L.length := List.length_map ..
theorem SlK.ints {L : List Int} {n : Nat} {u : World} {v : Value} (h : SlK (ir L) n u v) : ∃ a c, v = .slice a n c ∧ SlOK a n c ∧ IntsAt u a L := by
 obtain ⟨a, c, h1, h2, h3⟩ := h
 rw [ir_flat] at h3
 exact ⟨a, c, h1, h2, h3⟩
theorem SlK.of_ints {L : List Int} {n : Nat} {u : World} {a : Option Addr} {c : Nat} (h2 : SlOK a n c) (h3 : IntsAt u a L) : SlK (ir L) n u (.slice a n c) := ⟨a, c, rfl, h2, by rw [ir_flat]; exact h3⟩

theorem lw_call {P : Program} {o : Oper} {a : Act} {u : World} {Q : Exit → Act → World → Prop} {V : World → Value → Prop} {f : FuncId} {args : Array Value} (h : (execOp a.eval o).run P u = .ok (.enter f args) u)
  (hc : Calls P f args u fun e u' => ∃ v, e = .returned v ∧ Kp (fun _ => False) u u' ∧ V u' v) : o.wp P a u (fun a' u' => ∃ v, a' = a.put o.dst v ∧ Kp (fun _ => False) u u' ∧ V u' v) Q := by
 unfold Oper.wp
 rw [h]
 refine hc.mono ?_
 rintro e u' ⟨v, rfl, hK, hV⟩
 exact ⟨v, rfl, hK, hV⟩

theorem lw_value {P : Program} {o : Oper} {a : Act} {u u' : World} {Q : Exit → Act → World → Prop} {V : World → Value → Prop} {v : Value} (h : (execOp a.eval o).run P u = .ok (.value v) u') (hK : Kp (fun _ => False) u u') (hV : V u' v) :
  o.wp P a u (fun a' u' => ∃ v, a' = a.put o.dst v ∧ Kp (fun _ => False) u u' ∧ V u' v) Q := by
 unfold Oper.wp
 rw [h]
 exact ⟨v, rfl, hK, hV⟩

end Go.Proofs.YtnoknecfdnjomaaGreat

/-
  A net on the way, in memory: its nodes, and where its circuit's variables are.
-/
namespace Go.Proofs.YtnoknecfdnjomaaGreat
open Go.RowKit

theorem OwnK.blkN {w : World} {base k : Nat} {e : TypeId} {v : Value} {rows : List (List Value)} (h : OwnK w base e k v rows) {j : Nat} (hj : v.ownBlock = some j) : ∃ c, Blk w j c e := by
 rcases h.own.2 with ⟨hv, _⟩ | ⟨g, cap, cur, hv, hb, hg, _⟩
 ·rw [hv] at hj; cases hj
 ·rw [hv] at hj
  have e : g = j := by simpa [Value.ownBlock] using hj
  subst e
  exact ⟨cur, hg⟩

theorem blkN_type {w : World} {j : Nat} {c c' : Array Value} {t t' : TypeId} (h : Blk w j c t) (h' : Blk w j c' t') : t = t' := by
 unfold Blk at h h'
 rw [h] at h'
 simp at h'
 exact h'.2

def pr2 (x : Int × Int) : List Value := [.int .i64 x.1, .int .i64 x.2]
theorem pr2_len (L : List (Int × Int)) : ∀ r ∈ L.map pr2, r.length = 2 := fun r hr => by obtain ⟨x, _, rfl⟩ := List.mem_map.1 hr; rfl
theorem pr2_one (x : Int × Int) : ∀ u ∈ pr2 x, u.oneCell' = true := fun u hu => by
 unfold pr2 at hu
 simp at hu
 rcases hu with rfl | rfl <;> rfl

theorem iv_at {l : List Int} {j : Nat} (h : j < l.length) : (iv l)[j]? = some (.int .i64 (gi l j)) := by
 unfold iv gi
 rw [List.getElem?_map, List.getElem?_eq_getElem h]; rfl

theorem iv_set (l : List Int) (j : Nat) (x : Int) : (iv l).set j (.int .i64 x) = iv (l.set j x) := by
 unfold iv; rw [List.map_set]

structure NM (V : CV) (C : Circ) (w : World) (s : NS) (v4 v5 : Value) (wr : World) : Prop where
  n : OwnK wr (w.heap.size + 1) 102 2 v4 (s.1.map pr2)
  a : Own wr (w.heap.size + 1) 3 v5 (iv s.2)
  circ : Blk wr w.heap.size (cvals V C) 27
  kp : Kp (fun _ => False) w wr

section
variable {V : CV} {C : Circ} {w wr wr' w2 : World} {s : NS} {v4 v5 v' : Value}

theorem NM.fr (h : NM V C w s v4 v5 wr) (k : Kp (fun _ => False) wr wr') : NM V C w s v4 v5 wr' :=
 ⟨h.n.kp k (fun _ _ h => h), h.a.kp k (fun _ _ h => h), h.circ.kp k (fun h => h), h.kp.trans k (fun _ _ h => h)⟩

theorem NM.apart (h : NM V C w s v4 v5 wr) {j : Nat} (h4 : v4.ownBlock = some j) (h5 : v5.ownBlock = some j) : False := by
 obtain ⟨c, hc⟩ := h.n.blkN h4
 obtain ⟨c', hc'⟩ := h.a.rows.blkN h5
 exact absurd (blkN_type hc hc') (by decide)

theorem NM.push (h : NM V C w s v4 v5 wr) (hK : Kp (fun _ => False) wr wr') {x : Int × Int} (hO : OwnK w2 (w.heap.size + 1) 102 2 v' (s.1.map pr2 ++ [pr2 x])) (hg : wr'.grownBy w2 v4.ownBlock) : NM V C w (s.1 ++ [x], s.2) v' v5 w2 := by
 have h1 := h.fr hK
 have hk : Kp (fun j => v4.ownBlock = some j) wr' w2 := (Kp.refl _ wr').grown hg (fun j hj _ => hj)
 refine ⟨by rw [List.map_append]; exact hO, h1.a.kp hk (fun j h5 h4 => h1.apart h4 h5), h1.circ.kp hk (fun e => by have := (h1.n.lt _ e).1; omega), h1.kp.grown hg (fun j hj hl => by have := (h1.n.lt j hj).1; omega)⟩

theorem NM.grow (h : NM V C w s v4 v5 wr) (hK : Kp (fun _ => False) wr wr') {x : Int} (hO : Own w2 (w.heap.size + 1) 3 v' (iv s.2 ++ [.int .i64 x])) (hg : wr'.grownBy w2 v5.ownBlock) : NM V C w (s.1, s.2 ++ [x]) v4 v' w2 := by
 have h1 := h.fr hK
 have hk : Kp (fun j => v5.ownBlock = some j) wr' w2 := (Kp.refl _ wr').grown hg (fun j hj _ => hj)
 refine ⟨h1.n.kp hk (fun j h4 h5 => h1.apart h4 h5), by show Own _ _ _ _ (iv (s.2 ++ [x])); rw [iv_append]; exact hO, h1.circ.kp hk (fun e => by have := (h1.a.lt _ e).1; omega), h1.kp.grown hg (fun j hj hl => by have := (h1.a.lt j hj).1; omega)⟩

theorem NM.at_ (h : NM V C w s v4 v5 wr) (hl : 0 < s.2.length) : ∃ g c, v5 = .slice (some ⟨g, 0, none⟩) s.2.length c ∧ s.2.length ≤ c ∧ c ≤ maxLen ∧ (∀ j, j < s.2.length → wr.cell? ⟨g, j, none⟩ = some (.int .i64 (gi s.2 j))) ∧ (∀ j, wr.frozen? ⟨g, j, none⟩ = false) ∧ (∀ (j : Nat) (x : Int), NM V C w (s.1, s.2.set j x) v4 v5 (wr.setCell ⟨g, j, none⟩ (.int .i64 x))) := by
 obtain ⟨g, c, hv, hb, hlt⟩ := h.a.leads (by rw [iv_length]; exact hl)
 obtain ⟨a', c', hv', hle, hm, -⟩ := h.a.form
 rw [iv_length] at hv hv' hle
 have e : c' = c := by rw [hv] at hv'; simp only [Value.slice.injEq] at hv'; exact hv'.2.2.symm
 subst e
 subst hv
 refine ⟨g, c', rfl, hle, hm, fun j hj => h.a.cell (iv_at hj), fun j => h.a.free j, fun j x => ?_⟩
 refine ⟨h.n.kp (Kp.set wr ⟨g, j, none⟩ _) (fun i h4 e => h.apart (j := g) (by rw [h4]; exact congrArg some e) rfl), by show Own _ _ _ _ (iv (s.2.set j x)); rw [← iv_set]; exact h.a.set j _, h.circ.kp (Kp.set wr ⟨g, j, none⟩ _) (fun e => by have e2 : w.heap.size = g := e; omega), h.kp.setCell (p := ⟨g, j, none⟩) (fun hlt => by have h3 : g < w.heap.size := hlt; omega) _⟩

theorem NM.at2 {n g c : Nat} (h : NM V C w s v4 (.slice (some ⟨g, 0, none⟩) n c) wr) : s.2.length = n ∧ w.heap.size < g ∧ g < wr.heap.size ∧ (∀ j, j < n → wr.cell? ⟨g, j, none⟩ = some (.int .i64 (gi s.2 j))) ∧ (∀ j, wr.frozen? ⟨g, j, none⟩ = false) ∧ (∀ (j : Nat) (x : Int), NM V C w (s.1, s.2.set j x) v4 (.slice (some ⟨g, 0, none⟩) n c) (wr.setCell ⟨g, j, none⟩ (.int .i64 x))) := by
 have hlt := h.a.lt g rfl
 have hn : s.2.length = n := by
  obtain ⟨a', c', hv, -⟩ := h.a.form
  rw [iv_length] at hv
  simp only [Value.slice.injEq] at hv
  exact hv.2.1.symm
 refine ⟨hn, by omega, hlt.2, fun j hj => h.a.cell (iv_at (by omega)), fun j => h.a.free j, fun j x => ?_⟩
 refine ⟨h.n.kp (Kp.set wr ⟨g, j, none⟩ _) (fun i h4 e => h.apart (j := g) (by rw [h4]; exact congrArg some e) rfl), by show Own _ _ _ _ (iv (s.2.set j x)); rw [← iv_set]; exact h.a.set j _, h.circ.kp (Kp.set wr ⟨g, j, none⟩ _) (fun e => by have e2 : w.heap.size = g := e; omega), h.kp.setCell (p := ⟨g, j, none⟩) (fun hlt => by have h3 : g < w.heap.size := hlt; omega) _⟩

theorem NM.ord_push {B : Nat} {v9 : Value} {cs : List Value} (h : NM V C w s v4 v5 wr) (ho : Own wr B 3 v9 cs) (hK : Kp (fun _ => False) wr wr') (hg : wr'.grownBy w2 v4.ownBlock) : Own w2 B 3 v9 cs := by
 have h1 := h.fr hK
 have ho1 := ho.kp hK (fun _ _ h => h)
 refine ho1.kp ((Kp.refl (fun j => v4.ownBlock = some j) wr').grown hg (fun j hj _ => hj)) (fun j h9 h4 => ?_)
 obtain ⟨c, hc⟩ := h1.n.blkN h4
 obtain ⟨c', hc'⟩ := ho1.rows.blkN h9
 exact absurd (blkN_type hc hc') (by decide)

end

theorem in_own {C : Circ} {i : Nat} (h : i < C.ins.length) : gi C.ins i ∈ C.owned := by
 unfold Circ.owned
 refine List.mem_append.2 (.inl (List.mem_append.2 (.inl ?_)))
 unfold gi; rw [List.getElem?_eq_getElem h]; exact List.getElem_mem _
theorem lat_own {C : Circ} {i : Nat} (h : i < C.lats.length) : (g3 C.lats i).1 ∈ C.owned := by
 unfold Circ.owned
 exact List.mem_append.2 (.inl (List.mem_append.2 (.inr (List.mem_map.2 ⟨_, g3_mem h, rfl⟩))))

theorem CAt.inCell {w : World} {V : CV} {C : Circ} (h : CAt w V C) {q : Nat} (hq : q < C.ins.length) : ∃ b off, V.ai = some ⟨b, off, none⟩ ∧ ∀ u, Kp (fun _ => False) w u → u.cell? ⟨b, off + q, none⟩ = some (.int .i64 (gi C.ins q)) := by
 obtain ⟨b, off, ea, e⟩ := h.i.get hq
 exact ⟨b, off, ea, fun u hu => hu.cellK e⟩
theorem CAt.latCell {w : World} {V : CV} {C : Circ} (h : CAt w V C) {q : Nat} (hq : q < C.lats.length) : ∃ b off, V.al = some ⟨b, off, none⟩ ∧ ∀ u, Kp (fun _ => False) w u → u.cell? ⟨b, off + q * 3, none⟩ = some (.int .i64 (g3 C.lats q).1) ∧ u.cell? ⟨b, off + q * 3 + 1, none⟩ = some (.int .i64 (g3 C.lats q).2.1) ∧ u.cell? ⟨b, off + q * 3 + 2, none⟩ = some (.int .i64 (g3 C.lats q).2.2) := by
 obtain ⟨b, off, ea, e0, e1, e2⟩ := tri_cells h.l hq
 exact ⟨b, off, ea, fun u hu => ⟨hu.cellK e0, hu.cellK e1, hu.cellK e2⟩⟩
theorem CAt.gateCell {w : World} {V : CV} {C : Circ} (h : CAt w V C) {q : Nat} (hq : q < C.gates.length) : ∃ b off, V.ag = some ⟨b, off, none⟩ ∧ ∀ u, Kp (fun _ => False) w u → u.cell? ⟨b, off + q * 3, none⟩ = some (.int .i64 (g3 C.gates q).1) ∧ u.cell? ⟨b, off + q * 3 + 1, none⟩ = some (.int .i64 (g3 C.gates q).2.1) ∧ u.cell? ⟨b, off + q * 3 + 2, none⟩ = some (.int .i64 (g3 C.gates q).2.2) := by
 obtain ⟨b, off, ea, e0, e1, e2⟩ := tri_cells h.g hq
 exact ⟨b, off, ea, fun u hu => ⟨hu.cellK e0, hu.cellK e1, hu.cellK e2⟩⟩

theorem ref11_lit (g n c : Nat) (L : List Int) (l : Int) (w : World) (hn : L.length = n) (hm : n ≤ 100000000) (hc : ∀ j, j < n → w.cell? ⟨g, j, none⟩ = some (.int .i64 (gi L j))) (l0 : 0 ≤ l) (l1 : (l / 2).toNat < n) (hx : 0 ≤ gi L (l / 2).toNat ∧ gi L (l / 2).toNat % 2 = 0 ∧ gi L (l / 2).toNat ≤ 1000000000) :
  Calls Tryz.prog 65 #[.slice (some ⟨g, 0, none⟩) n c, .int .i64 l] w fun e w' => e = .returned (.int .i64 (ofN L l)) ∧ Kp (fun _ => False) w w' := by
 obtain ⟨q, hq⟩ : ∃ q : Nat, (l / 2).toNat = q := ⟨_, rfl⟩
 have hd : l / 2 = (q : Int) := by omega
 have hl9 : l ≤ 200000002 := by omega
 obtain ⟨r, hr⟩ : ∃ r, ofN L l = r := ⟨_, rfl⟩
 rw [hr]
 unfold ofN at hr
 rw [hq] at l1 hx hr
 have hcell := hc q l1
 obtain ⟨x, hx0⟩ : ∃ x, gi L q = x := ⟨_, rfl⟩
 rw [hx0] at hcell hx hr
 have q0 : (0 : Int) ≤ (q : Int) := by omega
 have q1 : (q : Int) < (n : Int) := by omega
 have hX := Lib.hid hx
 have hl2 : l.tmod 2 = l % 2 := Int.tmod_eq_emod_of_nonneg l0
 have hld : l.tdiv 2 = (q : Int) := by rw [Int.tdiv_eq_ediv_of_nonneg l0]; exact hd
 clear hq hn hc hx0
 by_cases e : l % 2 = 1
 ·have e1 : (l % 2 == 1) = true := by simp [e]
  have e2 : x.tmod 2 = 0 := by rw [Int.tmod_eq_emod_of_nonneg hX.out.1]; exact hX.out.2.1
  rw [if_pos e] at hr
  have hr' : r = x + 1 := by have := hX.out.2.1; omega
  have x0 := hx.1
  have x2 := hx.2.2
  clear e hr hx
  go_enter Tryz.func65, Tryz.ntmps65
  go_upto_region 2 with fail
  go_quiet (fail)
  go_wp2_with fail
  go_ret
  exact ⟨by rw [hr']; go_num, (Kp.refl _ w).drewN _⟩
 ·have e1 : (l % 2 == 1) = false := by simp [e]
  rw [if_neg e] at hr
  subst hr
  clear e hx
  go_enter Tryz.func65, Tryz.ntmps65
  go_wp2_with fail
  go_ret
  exact ⟨rfl, Kp.refl _ w⟩

end Go.Proofs.YtnoknecfdnjomaaGreat

/-
  What a net's variables are; latchetref07.Of.
-/
namespace Go.Proofs.YtnoknecfdnjomaaGreat
open Go.RowKit

def vb (l : List Bool) (i : Nat) : Bool := l[i]?.getD false
def bv (l : List Bool) : List Value := l.map Value.bool
theorem bv_length (l : List Bool) : (bv l).length = l.length := List.length_map ..
theorem bv_append (l r : List Bool) : bv (l ++ r) = bv l ++ bv r := List.map_append
theorem bv_one (l : List Bool) : ∀ u ∈ bv l, u.oneCell' = true := fun u hu => by obtain ⟨x, _, rfl⟩ := List.mem_map.1 hu; rfl
theorem bv_at {l : List Bool} {i : Nat} (h : i < l.length) : (bv l)[i]? = some (.bool (vb l i)) := by
 unfold bv vb
 rw [List.getElem?_map, List.getElem?_eq_getElem h]; rfl
theorem vb_far {l : List Bool} {i : Nat} (h : l.length ≤ i) : vb l i = false := by unfold vb; rw [List.getElem?_eq_none h]; rfl
theorem range_bool (f : Nat → Bool) (k : Nat) : (List.range (k + 1)).map f = (List.range k).map f ++ [f k] := by rw [List.range_succ, List.map_append]; rfl

def litN (vals : List Bool) (l : Int) : Bool := vb vals (l / 2).toNat != decide (l % 2 = 1)
def stepV (ins : List Bool) (s : List Bool × Nat) (x : Int × Int) : List Bool × Nat := if x.1 < 0 then (s.1 ++ [vb ins s.2], s.2 + 1) else (s.1 ++ [litN s.1 x.1 && litN s.1 x.2], s.2)
def valsK (N : List (Int × Int)) (ins : List Bool) (k : Nat) : List Bool × Nat := (N.take k).foldl (stepV ins) ([false], 0)
def valsOf (N : List (Int × Int)) (ins : List Bool) : List Bool := (valsK N ins N.length).1
def g2 (N : List (Int × Int)) (k : Nat) : Int × Int := N[k]?.getD (0, 0)
theorem take_g2 {N : List (Int × Int)} {q : Nat} (h : q < N.length) : N.take (q + 1) = N.take q ++ [g2 N q] := by
 rw [List.take_succ_eq_append_getElem h]
 unfold g2
 rw [List.getElem?_eq_getElem h]; rfl
theorem valsK_succ {N : List (Int × Int)} {ins : List Bool} {k : Nat} (h : k < N.length) : valsK N ins (k + 1) = stepV ins (valsK N ins k) (g2 N k) := by
 unfold valsK; rw [take_g2 h, List.foldl_append]; rfl
theorem valsK_len {N : List (Int × Int)} {ins : List Bool} : ∀ k, k ≤ N.length → (valsK N ins k).1.length = k + 1
 |0, _ => rfl
 |k + 1, h => by
  have ih := valsK_len (N := N) (ins := ins) k (by omega)
  rw [valsK_succ (by omega)]
  unfold stepV
  split <;> simp [ih]
theorem valsK_cnt {N : List (Int × Int)} {ins : List Bool} : ∀ k, k ≤ N.length → (valsK N ins k).2 ≤ k
 |0, _ => Nat.le_refl _
 |k + 1, h => by
  have ih := valsK_cnt (N := N) (ins := ins) k (by omega)
  rw [valsK_succ (by omega)]
  unfold stepV
  split <;> simp <;> omega
theorem valsOf_len (N : List (Int × Int)) (ins : List Bool) : (valsOf N ins).length = N.length + 1 := valsK_len _ (Nat.le_refl _)

def GoodN (N : List (Int × Int)) : Prop := ∀ j, j < N.length → (g2 N j).1 < 0 ∨ (0 ≤ (g2 N j).1 ∧ (g2 N j).1 ≤ 2 * (j : Int) + 1 ∧ 0 ≤ (g2 N j).2 ∧ (g2 N j).2 ≤ 2 * (j : Int) + 1)
theorem GoodC.net {C : Circ} (h : GoodC C) : GoodN (netOf C).1 := fun j hj => by
 have hi := netG_inv h (ordO C.gates).length (Nat.le_refl _)
 refine hi.node j (g2 (netOf C).1 j) ?_
 show (netOf C).1[j]? = _
 unfold g2
 rw [List.getElem?_eq_getElem hj]; rfl
theorem nodes_len (C : Circ) : (netOf C).1.length = C.ins.length + C.lats.length + (ordO C.gates).length := netG_len C _ (Nat.le_refl _)

theorem pr2_at {N : List (Int × Int)} {k : Nat} (h : k < N.length) : (N.map pr2)[k]? = some (pr2 (g2 N k)) := by
 rw [List.getElem?_map, List.getElem?_eq_getElem h]; unfold g2; rw [List.getElem?_eq_getElem h]; rfl
theorem pr2_cells {w : World} {a : Option Addr} {N : List (Int × Int)} (h : RowAt w a (N.map pr2).flatten) {k : Nat} (hk : k < N.length) :
  ∃ b off, a = some ⟨b, off, none⟩ ∧ w.cell? ⟨b, off + k * 2, none⟩ = some (.int .i64 (g2 N k).1) ∧ w.cell? ⟨b, off + k * 2 + 1, none⟩ = some (.int .i64 (g2 N k).2) := by
 obtain ⟨b, off, e0, h0⟩ := h.cellAt (pr2_len N) (j := k) (i := 0) (pr2_at hk) rfl
 obtain ⟨b1, off1, e1, h1⟩ := h.cellAt (pr2_len N) (j := k) (i := 1) (pr2_at hk) rfl
 obtain ⟨rfl, rfl⟩ : b = b1 ∧ off = off1 := by rw [e0] at e1; simpa using e1
 exact ⟨b, off, e0, h0, h1⟩

theorem ref07_Of (a : Option Addr) (n c : Nat) (vals : List Bool) (l : Int) (w : World) (hr : RowAt w a (bv vals)) (hn : vals.length = n) (hm : n ≤ 100000000) (l0 : 0 ≤ l) (l1 : (l / 2).toNat < n) :
  Calls Tryz.prog 87 #[.slice a n c, .int .i64 l] w fun e w' => e = .returned (.bool (litN vals l)) ∧ w = w' := by
 obtain ⟨q, hq⟩ : ∃ q : Nat, (l / 2).toNat = q := ⟨_, rfl⟩
 have hd : l / 2 = (q : Int) := by omega
 have hl9 : l ≤ 200000002 := by omega
 obtain ⟨r, hr0⟩ : ∃ r, litN vals l = r := ⟨_, rfl⟩
 rw [hr0]
 unfold litN at hr0
 rw [hq] at l1 hr0
 obtain ⟨b, off, rfl, hcell⟩ := hr q _ (bv_at (by omega))
 obtain ⟨x, hx⟩ : ∃ x, vb vals q = x := ⟨_, rfl⟩
 rw [hx] at hcell hr0
 have q0 : (0 : Int) ≤ (q : Int) := by omega
 have q1 : (q : Int) < (n : Int) := by omega
 clear hr hq hn hx
 have HR := Lib.hid hr0
 clear hr0
 by_cases e : l % 2 = 1
 ·have e1 : (l % 2 == 1) = true := by simp [e]
  have HE := Lib.hid e
  clear e
  go_enter Tryz.func87, Tryz.ntmps87
  go_wp2_with fail
  go_ret
  refine ⟨?_, rfl⟩
  have := HR.out
  rw [decide_eq_true HE.out] at this
  rw [← this]; cases x <;> rfl
 ·have e1 : (l % 2 == 1) = false := by simp [e]
  have HE := Lib.hid e
  clear e
  go_enter Tryz.func87, Tryz.ntmps87
  go_wp2_with fail
  go_ret
  refine ⟨?_, rfl⟩
  have := HR.out
  rw [decide_eq_false HE.out] at this
  rw [← this]; cases x <;> rfl

end Go.Proofs.YtnoknecfdnjomaaGreat

/-
  The closures of circ.Net.
-/
namespace Go.Proofs.YtnoknecfdnjomaaGreat
open Go.RowKit

theorem i64_and1 (n : Int) (h0 : 0 ≤ n) (h1 : n ≤ 9223372036854775807) : bits .and .i64 n 1 = n % 2 := by
 obtain ⟨a, rfl⟩ : ∃ a : Nat, n = (a : Int) := ⟨n.toNat, by omega⟩
 have e1 : (BitVec.ofInt 64 (a : Int)).toNat = a := by
  rw [BitVec.ofInt_natCast, BitVec.toNat_ofNat]; exact Nat.mod_eq_of_lt (by omega)
 show IntKind.i64.wrap ((BitVec.ofInt 64 (a : Int) &&& BitVec.ofInt 64 1).toNat : Int) = _
 have h2 : (BitVec.ofInt 64 (1 : Int)).toNat = 1 := by decide
 rw [BitVec.toNat_and, e1, h2, Nat.and_one_is_mod]
 rw [IntKind.wrap_i64]
 omega

theorem nat_xor_bit (a b : Nat) (ha : a % 2 = 0) (hb : b < 2) : a ^^^ b = a + b := by
 have x1 := Nat.xor_div_two (a := a) (b := b)
 have x2 := Nat.xor_mod_two_pow (a := a) (b := b) (n := 1)
 simp only [Nat.pow_one] at x2
 have hb2 : b / 2 = 0 := by omega
 rw [hb2, Nat.xor_zero] at x1
 have hm : b % 2 = b := by omega
 rw [ha, hm, Nat.zero_xor] at x2
 omega

theorem i64_xor1 (x l : Int) (x0 : 0 ≤ x) (x1 : x % 2 = 0) (x2 : x ≤ 1000000000) : bits .xor .i64 x (l % 2) = x + l % 2 := by
 obtain ⟨a, rfl⟩ : ∃ a : Nat, x = (a : Int) := ⟨x.toNat, by omega⟩
 obtain ⟨b, hb⟩ : ∃ b : Nat, l % 2 = (b : Int) := ⟨(l % 2).toNat, by omega⟩
 have hb1 : b < 2 := by omega
 rw [hb]
 have e1 : (BitVec.ofInt 64 (a : Int)).toNat = a := by
  rw [BitVec.ofInt_natCast, BitVec.toNat_ofNat]; exact Nat.mod_eq_of_lt (by omega)
 have e2 : (BitVec.ofInt 64 (b : Int)).toNat = b := by
  rw [BitVec.ofInt_natCast, BitVec.toNat_ofNat]; exact Nat.mod_eq_of_lt (by omega)
 show IntKind.i64.wrap ((BitVec.ofInt 64 (a : Int) ^^^ BitVec.ofInt 64 (b : Int)).toNat : Int) = _
 rw [BitVec.toNat_xor, e1, e2, nat_xor_bit a b (by omega) hb1]
 rw [IntKind.wrap_i64]
 omega

theorem net_f2 (ba g n c : Nat) (L : List Int) (l : Int) (w : World) (hb : w.cell? ⟨ba, 0, none⟩ = some (.slice (some ⟨g, 0, none⟩) n c)) (hm : n ≤ 100000000) (hc : ∀ j, j < n → w.cell? ⟨g, j, none⟩ = some (.int .i64 (gi L j))) (l0 : 0 ≤ l) (l1 : (l / 2).toNat < n) (hx : 0 ≤ gi L (l / 2).toNat ∧ gi L (l / 2).toNat % 2 = 0 ∧ gi L (l / 2).toNat ≤ 1000000000) :
  Calls Tryz.prog 82 #[.int .i64 l, .pointer (some ⟨ba, 0, none⟩)] w fun e w' => e = .returned (.int .i64 (ofN L l)) ∧ w = w' := by
 obtain ⟨q, hq⟩ : ∃ q : Nat, (l / 2).toNat = q := ⟨_, rfl⟩
 have hd : l / 2 = (q : Int) := by omega
 have hl9 : l ≤ 200000002 := by omega
 have ha : bits .and .i64 l 1 = l % 2 := i64_and1 l l0 (by omega)
 obtain ⟨r, hr⟩ : ∃ r, ofN L l = r := ⟨_, rfl⟩
 rw [hr]
 unfold ofN at hr
 rw [hq] at l1 hx hr
 have hcell := hc q l1
 obtain ⟨x, hx0⟩ : ∃ x, gi L q = x := ⟨_, rfl⟩
 rw [hx0] at hcell hx hr
 have HX := Lib.hid (show bits .xor .i64 x (l % 2) = r by
  rw [i64_xor1 x l hx.1 hx.2.1 hx.2.2, ← hr]
  split <;> omega)
 have q0 : (0 : Int) ≤ (q : Int) := by omega
 have q1 : (q : Int) < (n : Int) := by omega
 have x0 := hx.1
 have x2 := hx.2.2
 clear hq hc hx0 hr hx
 go_enter Tryz.func82, Tryz.ntmps82
 go_wp2_with fail
 go_ret
 exact ⟨by rw [← HX.out]; rfl, rfl⟩

structure NP (V : CV) (C : Circ) (w : World) (bn ba g m c : Nat) (s : NS) (v4 : Value) (wr : World) : Prop where
  n : OwnK wr (w.heap.size + 1) 102 2 v4 (s.1.map pr2)
  a : Own wr (w.heap.size + 1) 3 (.slice (some ⟨g, 0, none⟩) m c) (iv s.2)
  xn : Blk wr bn #[v4] 77
  xa : Blk wr ba #[.slice (some ⟨g, 0, none⟩) m c] 22
  circ : Blk wr w.heap.size (cvals V C) 27
  kp : Kp (fun _ => False) w wr
  lbn : w.heap.size < bn
  lba : w.heap.size < ba

section
variable {V : CV} {C : Circ} {w wr wr' w2 : World} {bn ba g m c : Nat} {s : NS} {v4 v' : Value}

theorem NP.fr (h : NP V C w bn ba g m c s v4 wr) (k : Kp (fun _ => False) wr wr') : NP V C w bn ba g m c s v4 wr' :=
 ⟨h.n.kp k (fun _ _ h => h), h.a.kp k (fun _ _ h => h), h.xn.kp k (fun h => h), h.xa.kp k (fun h => h), h.circ.kp k (fun h => h), h.kp.trans k (fun _ _ h => h), h.lbn, h.lba⟩

theorem NP.gblk (h : NP V C w bn ba g m c s v4 wr) : ∃ cc, Blk wr g cc 3 := h.a.rows.blkN (j := g) rfl

theorem NP.push (h : NP V C w bn ba g m c s v4 wr) (hK : Kp (fun _ => False) wr wr') {x : Int × Int} (hO : OwnK w2 (w.heap.size + 1) 102 2 v' (s.1.map pr2 ++ [pr2 x])) (hg : wr'.grownBy w2 v4.ownBlock) :
  NP V C w bn ba g m c (s.1 ++ [x], s.2) v' (w2.setCell ⟨bn, 0, none⟩ v') ∧ (∃ u, w2.cell? ⟨bn, 0, none⟩ = some u) ∧ w2.frozen? ⟨bn, 0, none⟩ = false := by
 have h1 := h.fr hK
 have hk : Kp (fun j => v4.ownBlock = some j) wr' w2 := (Kp.refl _ wr').grown hg (fun j hj _ => hj)
 have ap : ∀ {j : Nat} {cc : Array Value} {t : TypeId}, Blk wr' j cc t → t ≠ 102 → ¬ v4.ownBlock = some j := fun hB ht h4 => by
  obtain ⟨c', hc'⟩ := h1.n.blkN h4
  exact ht (blkN_type hB hc')
 obtain ⟨cg, hcg⟩ := h1.gblk
 have a2 := h1.a.kp hk (fun j h5 h4 => by
  have e : g = j := by simpa [Value.ownBlock] using h5
  subst e
  exact ap hcg (by decide) h4)
 have bn2 := h1.xn.kp hk (ap h1.xn (by decide))
 have ba2 := h1.xa.kp hk (ap h1.xa (by decide))
 have cc2 := h1.circ.kp hk (ap h1.circ (by decide))
 have kp2 := h1.kp.grown hg (fun j hj hl => by have := (h1.n.lt j hj).1; omega)
 have hs := Kp.set w2 ⟨bn, 0, none⟩ v'
 refine ⟨⟨?_, ?_, ?_, ?_, ?_, kp2.setCell (p := ⟨bn, 0, none⟩) (fun hlt => by have h3 : bn < w.heap.size := hlt; have := h.lbn; omega) _, h.lbn, h.lba⟩, ⟨_, bn2.cell rfl⟩, bn2.free 0⟩
 ·show OwnK _ _ _ _ _ ((s.1 ++ [x]).map pr2)
  rw [List.map_append]
  exact hO.kp hs (fun j hj e => by
   have e2 : j = bn := e
   subst e2
   obtain ⟨c', hc'⟩ := hO.blkN hj
   exact absurd (blkN_type bn2 hc') (by decide))
 ·obtain ⟨cg2, hcg2⟩ := a2.rows.blkN (j := g) rfl
  exact a2.kp hs (fun j hj e => by
   have e2 : j = bn := e
   have e3 : g = j := by simpa [Value.ownBlock] using hj
   subst e3
   subst e2
   exact absurd (blkN_type bn2 hcg2) (by decide))
 ·exact bn2.set_same 0 v'
 ·exact ba2.kp hs (fun e => by
   have e2 : ba = bn := e
   subst e2
   exact absurd (blkN_type bn2 ba2) (by decide))
 ·exact cc2.kp hs (fun e => by have e2 : w.heap.size = bn := e; have := h.lbn; omega)

theorem NP.len (h : NP V C w bn ba g m c s v4 wr) : s.2.length = m := by
 obtain ⟨a', c', hv, -⟩ := h.a.form
 rw [iv_length] at hv
 simp only [Value.slice.injEq] at hv
 exact hv.2.1.symm

theorem NP.put (h : NP V C w bn ba g m c s v4 wr) (j : Nat) (x : Int) : NP V C w bn ba g m c (s.1, s.2.set j x) v4 (wr.setCell ⟨g, j, none⟩ (.int .i64 x)) := by
 obtain ⟨cg, hcg⟩ := h.gblk
 have hlt := h.a.lt g rfl
 have hs := Kp.set wr ⟨g, j, none⟩ (.int .i64 x)
 have ap : ∀ {i : Nat} {cc : Array Value} {t : TypeId}, Blk wr i cc t → t ≠ 3 → ¬ i = g := fun hB ht e => by
  subst e
  exact ht (blkN_type hB hcg)
 refine ⟨h.n.kp hs (fun i h4 e => ?_), ?_, h.xn.kp hs (ap h.xn (by decide)), h.xa.kp hs (ap h.xa (by decide)), h.circ.kp hs (ap h.circ (by decide)), h.kp.setCell (p := ⟨g, j, none⟩) (fun hl => by have h3 : g < w.heap.size := hl; omega) _, h.lbn, h.lba⟩
 ·obtain ⟨c', hc'⟩ := h.n.blkN h4
  exact ap hc' (by decide) e
 ·show Own _ _ _ _ (iv (s.2.set j x)); rw [← iv_set]; exact h.a.set j _

theorem NP.cells (h : NP V C w bn ba g m c s v4 wr) : (∀ j, j < m → wr.cell? ⟨g, j, none⟩ = some (.int .i64 (gi s.2 j))) ∧ (∀ j, wr.frozen? ⟨g, j, none⟩ = false) ∧ wr.cell? ⟨bn, 0, none⟩ = some v4 ∧ wr.cell? ⟨ba, 0, none⟩ = some (.slice (some ⟨g, 0, none⟩) m c) :=
 ⟨fun j hj => h.a.cell (iv_at (by rw [h.len]; exact hj)), fun j => h.a.free j, h.xn.cell rfl, h.xa.cell rfl⟩
end

set_option maxRecDepth 100000 in
theorem net_f1 (V : CV) (C : Circ) (w0 : World) (bn ba g m c k : Nat) (s : NS) (v4 : Value) (l x1 x2 : Int) (w : World) (h : NP V C w0 bn ba g m c s v4 w) (hk : s.1.length = k) (hk1 : k ≤ 10000000) (l0 : 0 ≤ l) (l1 : (l / 2).toNat < m) (hm : m ≤ 100000000) :
  Calls Tryz.prog 81 #[.int .i64 l, .agg #[.int .i64 x1, .int .i64 x2], .pointer (some ⟨bn, 0, none⟩), .pointer (some ⟨ba, 0, none⟩)] w fun e w' => e = .returned (.tuple #[]) ∧ (∃ v', NP V C w0 bn ba g m c (putN s l (x1, x2)) v' w') ∧ Kp (fun j => v4.ownBlock = some j ∨ j = bn ∨ j = g) w w' := by
 have HIn := Lib.hid (show (Tryz.prog.info? 102).map (fun i => (i.zero, i.size, i.bytes)) = some (some (.agg #[.int .i64 0, .int .i64 0]), 2, 16) by kernel_rfl)
 obtain ⟨y, hy⟩ : ∃ y : Nat, (l / 2).toNat = y := ⟨_, rfl⟩
 have hd : l / 2 = (y : Int) := by omega
 have hl9 : l ≤ 200000002 := by omega
 have y0 : (0 : Int) ≤ (y : Int) := by omega
 have y1 : (y : Int) < (m : Int) := by omega
 have HY := Lib.hid hy
 have HL := Lib.hid hk
 obtain ⟨wz, hwz⟩ : ∃ wz : World, wz = (w.alloc (.cells #[.int .i64 x1, .int .i64 x2] 102)).alloc (.cells #[.int .i64 x1, .int .i64 x2] 102) := ⟨_, rfl⟩
 have HZ := Lib.hid hwz
 have HH := Lib.hid (show NP V C w0 bn ba g m c s v4 wz from by rw [hwz]; exact h.fr (((Kp.refl _ w).alloc _).alloc _))
 have HNew := Lib.hid (show Blk wz (w.heap.size + 1) #[.int .i64 x1, .int .i64 x2] 102 by rw [hwz]; exact two_blk _ _ _ _ _)
 have HSz := Lib.hid (show w0.heap.size + 1 ≤ wz.heap.size from by have := HH.out.circ.lt; omega)
 have cb := h.cells.2.2.1
 have cb2 := ((Kp.refl (fun _ => False) w).alloc (.cells #[.int .i64 x1, .int .i64 x2] 102)).cellK cb
 clear h hk hwz hy
 go_enter Tryz.func81, Tryz.ntmps81
 go_wp2_with (at_builtin; rw [← HZ.out]; refine wpList_appendK rfl _ _ 77 102 rfl Tryz.underlying77 HIn.out rfl (by decide) HH.out.n rfl (w.heap.size + 1) (pr2 (x1, x2)) rfl rfl ?n0 (pr2_one _) ?n1 ?n2 ?n3 ?_)
 case n0 => intro j u hj; exact HNew.out.cell (by simpa [pr2] using hj)
 case n1 => rw [List.length_map, HL.out]; omega
 case n2 => rw [List.length_map, HL.out]; unfold maxLen; omega
 case n3 => exact HSz.out
 intro v' w2 hO2 hg2 hat2
 have hP := HH.out.push (x := (x1, x2)) (Kp.refl _ _) hO2 hg2
 obtain ⟨hP1, ⟨ub, hub⟩, hfb⟩ := hP
 obtain ⟨a4, c4, e4, l4, m4, -⟩ := hP1.n.form
 have hlen : ((s.1 ++ [(x1, x2)]).map pr2).length = k + 1 := by rw [List.length_map, List.length_append, HL.out]; rfl
 rw [hlen] at e4 l4
 subst e4
 have hc := hP1.cells
 have cy := hc.1 y (by omega)
 have fy := hc.2.1 y
 have cn := hc.2.2.1
 have ca := hc.2.2.2
 have HP2 := Lib.hid (hP1.put y (2 * (((k + 1 : Nat)) : Int)))
 have HKp := Lib.hid (show Kp (fun j => v4.ownBlock = some j ∨ j = bn ∨ j = g) w ((w2.setCell ⟨bn, 0, none⟩ (.slice a4 (k + 1) c4)).setCell ⟨g, y, none⟩ (.int .i64 (2 * (((k + 1 : Nat)) : Int)))) from by
  have h0 : Kp (fun j => v4.ownBlock = some j ∨ j = bn ∨ j = g) w wz := by rw [HZ.out]; exact ((Kp.refl _ w).alloc _).alloc _
  exact ((h0.grown hg2 (fun j hj _ => .inl hj)).setCell (p := ⟨bn, 0, none⟩) (fun _ => .inr (.inl rfl)) _).setCell (p := ⟨g, y, none⟩) (fun _ => .inr (.inr rfl)) _)
 clear hP1 hO2 hg2 hat2 hc hlen HZ HNew HH cb cb2
 go_wp2_with fail
 go_end0
 refine ⟨rfl, ⟨.slice a4 (k + 1) c4, ?_⟩, HKp.out⟩
 unfold putN
 rw [HY.out, HL.out]
 exact HP2.out

end Go.Proofs.YtnoknecfdnjomaaGreat

/-
  sim: Lit, Word.
-/
namespace Go.Proofs.YtnoknecfdnjomaaGreat
open Go.RowKit

theorem sim_Lit (a : Option Addr) (n c : Nat) (vals : List Bool) (l : Int) (w : World) (hr : RowAt w a (bv vals)) (hn : vals.length = n) (hm : n ≤ 100000000) (h0 : vb vals 0 = false) (l0 : 0 ≤ l) (l1 : (l / 2).toNat < n) :
  Calls Tryz.prog 97 #[.slice a n c, .int .i64 l] w fun e w' => e = .returned (.bool (litN vals l)) ∧ w = w' := by
 obtain ⟨q, hq⟩ : ∃ q : Nat, (l / 2).toNat = q := ⟨_, rfl⟩
 have hd : l / 2 = (q : Int) := by omega
 have hl9 : l ≤ 200000002 := by omega
 have ha : bits .and .i64 l 1 = l % 2 := i64_and1 l l0 (by omega)
 obtain ⟨r, hr0⟩ : ∃ r, litN vals l = r := ⟨_, rfl⟩
 rw [hr0]
 unfold litN at hr0
 rw [hq] at l1 hr0
 obtain ⟨b, off, rfl, hcell⟩ := hr q _ (bv_at (by omega))
 obtain ⟨x, hx⟩ : ∃ x, vb vals q = x := ⟨_, rfl⟩
 rw [hx] at hcell hr0
 have q0 : (0 : Int) ≤ (q : Int) := by omega
 have q1 : (q : Int) < (n : Int) := by omega
 have q2 : decide (l < 0) = false := decide_eq_false (by omega)
 have q3 : decide ((n : Int) ≤ (q : Int)) = false := decide_eq_false (by omega)
 have q4 : ¬ (n : Int) ≤ (q : Int) := by omega
 have q5 : ¬ l < 0 := by omega
 by_cases hz : q = 0
 ·subst hz
  have hxf : x = false := by rw [← hx]; exact h0
  subst hxf
  have z0 : (((0 : Nat) : Int) == 0) = true := rfl
  by_cases e : l = 1
  ·subst e
   have hrt : r = true := by rw [← hr0]; rfl
   subst hrt
   clear hr hq hn hx hr0 h0
   go_enter Tryz.func97, Tryz.ntmps97
   go_wp2_with fail
   go_ret
   exact ⟨rfl, rfl⟩
  ·have e0 : l = 0 := by omega
   subst e0
   have hrt : r = false := by rw [← hr0]; rfl
   subst hrt
   clear hr hq hn hx hr0 h0 e
   go_enter Tryz.func97, Tryz.ntmps97
   go_wp2_with fail
   go_ret
   exact ⟨rfl, rfl⟩
 ·have z0 : ((q : Int) == 0) = false := by simp [hz]
  have z1 : ¬ (q : Int) = 0 := by omega
  have HR := Lib.hid hr0
  clear hr hq hn hx hr0 h0 hz
  by_cases e : l % 2 = 1
  ·have e1 : (l % 2 == 1) = true := by simp [e]
   have HE := Lib.hid e
   clear e
   go_enter Tryz.func97, Tryz.ntmps97
   go_wp2_with fail
   go_ret
   refine ⟨?_, rfl⟩
   have := HR.out
   rw [decide_eq_true HE.out] at this
   rw [← this]; cases x <;> rfl
  ·have e1 : (l % 2 == 1) = false := by simp [e]
   have HE := Lib.hid e
   clear e
   go_enter Tryz.func97, Tryz.ntmps97
   go_wp2_with fail
   go_ret
   refine ⟨?_, rfl⟩
   have := HR.out
   rw [decide_eq_false HE.out] at this
   rw [← this]; cases x <;> rfl

structure BitOf (x : Int) (b : Bool) : Prop where
  lo : 0 ≤ x
  hi : x < 18446744073709551616
  bit : decide (x % 2 = 1) = b

theorem BitOf.nat {x : Int} {b : Bool} (h : BitOf x b) : ∃ a : Nat, x = (a : Int) ∧ a < 18446744073709551616 ∧ decide (a % 2 = 1) = b := by
 have h0 := h.lo
 have h1 := h.hi
 refine ⟨x.toNat, by omega, by omega, ?_⟩
 rw [← h.bit]
 apply decide_eq_decide.2
 omega
theorem BitOf.of {a : Nat} {b : Bool} (h : a < 18446744073709551616) (hb : decide (a % 2 = 1) = b) : BitOf (a : Int) b := by
 refine ⟨by omega, by omega, ?_⟩
 rw [← hb]
 apply decide_eq_decide.2
 omega
theorem BitOf.not {x : Int} {b : Bool} (h : BitOf x b) : BitOf (bits .xor .u64 IntKind.u64.max x) (b != true) := by
 obtain ⟨a, rfl, ha, hb⟩ := h.nat
 have e : IntKind.u64.max = ((18446744073709551615 : Nat) : Int) := by decide
 rw [e, bits_xor_u64_nat _ _ (by decide) ha]
 refine BitOf.of (by have := Nat.xor_lt_two_pow (x := 18446744073709551615) (y := a) (n := 64) (by decide) (by omega); omega) ?_
 have hm := Nat.xor_mod_two_pow (a := 18446744073709551615) (b := a) (n := 1)
 simp only [Nat.pow_one] at hm
 rw [hm]
 rcases Nat.mod_two_eq_zero_or_one a with q | q
 ·rw [q] at hb ⊢; subst hb; decide
 ·rw [q] at hb ⊢; subst hb; decide
theorem BitOf.and {x y : Int} {b c : Bool} (h : BitOf x b) (k : BitOf y c) : BitOf (bits .and .u64 x y) (b && c) := by
 obtain ⟨a, rfl, ha, hb⟩ := h.nat
 obtain ⟨d, rfl, hd, hc⟩ := k.nat
 rw [bits_and_u64_nat _ _ ha hd]
 refine BitOf.of (by have := Nat.and_lt_two_pow (n := 64) a (y := d) (by omega); omega) ?_
 have hm := Nat.and_mod_two_pow (a := a) (b := d) (n := 1)
 simp only [Nat.pow_one] at hm
 rw [hm]
 rcases Nat.mod_two_eq_zero_or_one a with q | q <;> rcases Nat.mod_two_eq_zero_or_one d with p | p <;> (rw [q] at hb ⊢; rw [p] at hc ⊢; subst hb; subst hc; decide)
theorem BitOf.zero : BitOf 0 false := ⟨by decide, by decide, by decide⟩

def uv (l : List Int) : List Value := l.map (Value.int .u64)
theorem uv_length (l : List Int) : (uv l).length = l.length := List.length_map ..
theorem uv_append (l r : List Int) : uv (l ++ r) = uv l ++ uv r := List.map_append
theorem uv_at {l : List Int} {i : Nat} (h : i < l.length) : (uv l)[i]? = some (.int .u64 (gi l i)) := by
 unfold uv gi
 rw [List.getElem?_map, List.getElem?_eq_getElem h]; rfl

def BitsOf (ws : List Int) (vals : List Bool) : Prop := ws.length = vals.length ∧ ∀ i, i < ws.length → BitOf (gi ws i) (vb vals i)

def wordF (ws : List Int) (l : Int) : Int := if l % 2 = 1 then bits .xor .u64 IntKind.u64.max (gi ws (l / 2).toNat) else gi ws (l / 2).toNat

theorem wordF_bit {ws : List Int} {vals : List Bool} {l : Int} (hb : BitsOf ws vals) (h : (l / 2).toNat < ws.length) : BitOf (wordF ws l) (litN vals l) := by
 have hbx := hb.2 _ h
 unfold wordF litN
 by_cases e : l % 2 = 1
 ·rw [if_pos e, decide_eq_true e]; exact hbx.not
 ·rw [if_neg e, decide_eq_false e]
  cases hv : vb vals (l / 2).toNat
  ·rw [hv] at hbx; exact hbx
  ·rw [hv] at hbx; exact hbx

theorem sim_Word (a : Option Addr) (n c : Nat) (ws : List Int) (vals : List Bool) (l : Int) (w : World) (hr : RowAt w a (uv ws)) (hn : ws.length = n) (hm : n ≤ 100000000) (h0 : gi ws 0 = 0) (hb : BitsOf ws vals) (l0 : 0 ≤ l) (l1 : (l / 2).toNat < n) :
  Calls Tryz.prog 124 #[.slice a n c, .int .i64 l] w fun e w' => e = .returned (.int .u64 (wordF ws l)) ∧ w = w' := by
 obtain ⟨q, hq⟩ : ∃ q : Nat, (l / 2).toNat = q := ⟨_, rfl⟩
 have hd : l / 2 = (q : Int) := by omega
 have hl9 : l ≤ 200000002 := by omega
 have ha : bits .and .i64 l 1 = l % 2 := i64_and1 l l0 (by omega)
 obtain ⟨r, hr0⟩ : ∃ r, wordF ws l = r := ⟨_, rfl⟩
 rw [hr0]
 unfold wordF at hr0
 rw [hq] at l1 hr0
 obtain ⟨b, off, rfl, hcell⟩ := hr q _ (uv_at (by omega))
 have hbx := hb.2 q (by omega)
 obtain ⟨x, hx⟩ : ∃ x, gi ws q = x := ⟨_, rfl⟩
 rw [hx] at hcell hbx hr0
 have x0 := hbx.lo
 have x1 := hbx.hi
 have q0 : (0 : Int) ≤ (q : Int) := by omega
 have q1 : (q : Int) < (n : Int) := by omega
 have q2 : decide (l < 0) = false := decide_eq_false (by omega)
 have q3 : decide ((n : Int) ≤ (q : Int)) = false := decide_eq_false (by omega)
 have q4 : ¬ (n : Int) ≤ (q : Int) := by omega
 have q5 : ¬ l < 0 := by omega
 by_cases hz : q = 0
 ·subst hz
  have hvf : x = 0 := by rw [← hx]; exact h0
  subst hvf
  have z0 : decide ((0 : Int) < ((0 : Nat) : Int)) = false := rfl
  have HR := Lib.hid hr0
  clear hr hq hn hx hr0 h0 hb hbx
  by_cases e : l % 2 = 1
  ·have e1 : (l % 2 == 1) = true := by simp [e]
   have HE := Lib.hid e
   clear e
   go_enter Tryz.func124, Tryz.ntmps124
   go_wp2_with fail
   go_ret
   refine ⟨?_, rfl⟩
   have := HR.out
   rw [if_pos HE.out] at this
   rw [← this]; rfl
  ·have e1 : (l % 2 == 1) = false := by simp [e]
   have HE := Lib.hid e
   clear e
   go_enter Tryz.func124, Tryz.ntmps124
   go_wp2_with fail
   go_ret
   refine ⟨?_, rfl⟩
   have := HR.out
   rw [if_neg HE.out] at this
   rw [← this]; rfl
 ·have z0 : decide ((0 : Int) < (q : Int)) = true := decide_eq_true (by omega)
  have HR := Lib.hid hr0
  clear hr hq hn hx hr0 h0 hb hbx
  by_cases e : l % 2 = 1
  ·have e1 : (l % 2 == 1) = true := by simp [e]
   have HE := Lib.hid e
   clear e
   go_enter Tryz.func124, Tryz.ntmps124
   go_wp2_with fail
   go_ret
   refine ⟨?_, rfl⟩
   have h1 := HR.out
   rw [if_pos HE.out] at h1
   rw [← h1]; rfl
  ·have e1 : (l % 2 == 1) = false := by simp [e]
   have HE := Lib.hid e
   clear e
   go_enter Tryz.func124, Tryz.ntmps124
   go_wp2_with fail
   go_ret
   refine ⟨?_, rfl⟩
   have h1 := HR.out
   rw [if_neg HE.out] at h1
   rw [← h1]; rfl

end Go.Proofs.YtnoknecfdnjomaaGreat

/-
  sim.Words.
-/
namespace Go.Proofs.YtnoknecfdnjomaaGreat
open Go.RowKit

theorem BitsOf.snoc {ws : List Int} {vals : List Bool} (h : BitsOf ws vals) {x : Int} {b : Bool} (hx : BitOf x b) : BitsOf (ws ++ [x]) (vals ++ [b]) := by
 refine ⟨by simp [h.1], fun i hi => ?_⟩
 by_cases e : i < ws.length
 ·have h1 := h.2 i e
  have e2 : i < vals.length := by rw [← h.1]; exact e
  unfold gi vb at h1 ⊢
  rw [List.getElem?_append_left e, List.getElem?_append_left e2]
  exact h1
 ·have e1 : i = ws.length := by simp at hi; omega
  subst e1
  unfold gi vb
  rw [List.getElem?_append_right (Nat.le_refl _), h.1, List.getElem?_append_right (Nat.le_refl _)]
  simpa using hx

theorem drop_gi {l : List Int} {k : Nat} (h : k < l.length) : l.drop k = gi l k :: l.drop (k + 1) := by
 rw [List.drop_eq_getElem_cons h]
 unfold gi; rw [List.getElem?_eq_getElem h]; rfl

set_option maxRecDepth 100000 in
set_option maxHeartbeats 4000000 in
theorem sim_Words (a : Option Addr) (n c : Nat) (N : List (Int × Int)) (b : Option Addr) (m d : Nat) (wi : List Int) (ins : List Bool) (w : World) (hr : RowAt w a (N.map pr2).flatten) (hn : N.length = n) (hm : n ≤ 10000000) (hN : GoodN N) (hi : RowAt w b (uv wi)) (him : wi.length = m) (hmm : m ≤ 100000000) (hmd : m ≤ d) (hdl : d ≤ maxLen) (hb : BitsOf wi ins) :
  Calls Tryz.prog 115 #[.slice a n c, .slice b m d] w fun e w' => ∃ v, e = .returned v ∧ (∃ ws, Own w' w.heap.size 142 v (uv ws) ∧ BitsOf ws (valsOf N ins)) ∧ Kp (fun _ => False) w w' := by
 have HI := Lib.hid (show (Tryz.prog.info? 142).map (fun i => (i.zero, i.size, i.bytes)) = some (some (.int .u64 0), 1, 8) by kernel_rfl)
 obtain ⟨i0, hi0, hz0, hz1, hz2⟩ := info_parts (show (Tryz.prog.info? 142).map (fun i => (i.zero, i.size, i.bytes)) = some (some (.int .u64 0), 1, 8) by kernel_rfl)
 have hmk : ∀ u : World, (Instr.makeSlice 149 (.int .i64 1) (.int .i64 ((n : Int) + 1))).run Tryz.prog u =
   .ok (.slice (some ⟨u.heap.size, 0, none⟩) 1 (n + 1)) (u.alloc (.cells (madeCells #[.int .u64 0] (n + 1)) 142)) := fun u => by
  have h := run_make (P := Tryz.prog) u 149 142 i0 (.int .u64 0) Tryz.underlying149 hi0 hz0 .i64 .i64 1 ((n + 1 : Nat) : Int) (by omega) (by omega) (by rw [hz2]; omega) (by omega)
  simpa [hz1, Value.cells] using h
 clear hi0 hz0 hz1 hz2 i0
 have HR := Lib.hid hr
 have HN := Lib.hid hn
 have HGN := Lib.hid hN
 have HIm := Lib.hid him
 have HB := Lib.hid hb
 obtain ⟨wz, hwz⟩ : ∃ wz : World, wz = w.alloc (.cells (madeCells #[.int .u64 0] (n + 1)) 142) := ⟨_, rfl⟩
 have HK0 := Lib.hid (show Kp (fun _ => False) w wz by rw [hwz]; exact (Kp.refl _ w).alloc _)
 have HO0 : Hid (Own wz w.heap.size 142 (.slice (some ⟨w.heap.size, 0, none⟩) 1 (n + 1)) (uv [0])) := Lib.hid (by
  rw [hwz]
  refine ⟨by simp [uv], .inr ⟨w.heap.size, n + 1, madeCells #[.int .u64 0] (n + 1), rfl, Nat.le_refl _, Blk.new w _ _, by simp [uv], by unfold maxLen; omega, by rw [made_row]; simp [rowF_length], ?_⟩⟩
  rw [made_row]
  simp [rowF, uv, List.range_succ_eq_map])
 have HB0 := Lib.hid (show BitsOf [0] [false] from ⟨rfl, fun i hi => (by
  have e : i = 0 := by simpa using hi
  subst e
  exact BitOf.zero)⟩)
 have HI0 := Lib.hid (show ∃ a1 c1, (Value.slice b m d) = .slice a1 (wi.drop (valsK N ins 0).2).length c1 ∧ RowAt w a1 (uv (wi.drop (valsK N ins 0).2)) ∧ (wi.drop (valsK N ins 0).2).length ≤ c1 ∧ c1 ≤ maxLen from ⟨b, d, by show _ = Value.slice b wi.length d; rw [him], hi, by show wi.length ≤ d; omega, hdl⟩)
 have HZ := Lib.hid hwz
 clear hr hn hN hi him hb hwz
 go_enter Tryz.func115, Tryz.ntmps115
 go_upto_region 2 with fail
 rw [← HZ.out]
 clear HZ hmk
 go_wp2_with fail
 go_loopw [1, 5, 15] (fun v1 v5 v15 wr => ∃ k : Nat, v15 = .int .i64 k ∧ k ≤ n ∧ (∃ a1 c1, v1 = .slice a1 (wi.drop (valsK N ins k).2).length c1 ∧ RowAt w a1 (uv (wi.drop (valsK N ins k).2)) ∧ (wi.drop (valsK N ins k).2).length ≤ c1 ∧ c1 ≤ maxLen) ∧ (∃ ws, Own wr w.heap.size 142 v5 (uv ws) ∧ BitsOf ws (valsK N ins k).1 ∧ gi ws 0 = 0) ∧ Kp (fun _ => False) w wr) (fun _ _ v15 _ => n - (intOf v15).toNat)
 case atStart => exact ⟨0, rfl, by omega, HI0.out, ⟨[0], HO0.out, HB0.out, rfl⟩, HK0.out⟩
 case round =>
  obtain ⟨k, rfl, hk, ⟨a1, c1, rfl, hrow, hc1, hc2⟩, ⟨ws, hO, hbits, hz⟩, hK⟩ := hrel
  clear HO0 HK0 HI0
  obtain ⟨wp, rfl⟩ : ∃ wp : World, wp = wr := ⟨_, rfl⟩
  have HO := Lib.hid hO
  have HK := Lib.hid hK
  have HKs := Lib.hid hK.size
  have HBs := Lib.hid hbits
  have HW0 := Lib.hid hz
  have HRow := Lib.hid hrow
  clear hO hK hbits hz hrow
  by_cases hlt : k < n
  ·have hkl : k < N.length := by rw [HN.out]; exact hlt
   obtain ⟨bb, off, rfl, e0, e1⟩ := pr2_cells (HR.out.kp HK.out (fun _ _ h => h)) hkl
   have hS := valsK_succ (ins := ins) hkl
   have hln := valsK_len (N := N) (ins := ins) k (by omega)
   have hg := HGN.out k hkl
   obtain ⟨x1, hx1⟩ : ∃ x, (g2 N k).1 = x := ⟨_, rfl⟩
   obtain ⟨x2, hx2⟩ : ∃ x, (g2 N k).2 = x := ⟨_, rfl⟩
   obtain ⟨cn, hcn⟩ : ∃ x, (valsK N ins k).2 = x := ⟨_, rfl⟩
   unfold stepV at hS
   rw [hx1, hx2, hcn] at hS
   rw [hx1, hx2] at hg
   rw [hx1] at e0
   rw [hx2] at e1
   obtain ⟨vals, hvals⟩ : ∃ x, (valsK N ins k).1 = x := ⟨_, rfl⟩
   rw [hvals] at hS hln
   have HBv := Lib.hid (show BitsOf ws vals by rw [← hvals]; exact HBs.out)
   have HRw := Lib.hid (show RowAt w a1 (uv (wi.drop cn)) by rw [← hcn]; exact HRow.out)
   rw [hcn] at hc1 ⊢
   have hwl : ws.length = k + 1 := by rw [HBv.out.1, hln]
   have HWl := Lib.hid hwl
   have i0 : (0 : Int) ≤ (k : Int) := by omega
   have i2 : (k : Int) < (n : Int) := by omega
   obtain ⟨wq, hwq⟩ : ∃ wq : World, wq = wp.alloc (.cells #[.int .i64 x1, .int .i64 x2] 102) := ⟨_, rfl⟩
   have HKq := Lib.hid (show Kp (fun _ => False) w wq by rw [hwq]; exact HK.out.alloc _)
   have HOq := Lib.hid (show Own wq w.heap.size 142 u5 (uv ws) by rw [hwq]; exact HO.out.alloc _)
   have HNb := Lib.hid (show Blk wq wp.heap.size #[.int .i64 x1, .int .i64 x2] 102 by rw [hwq]; exact Blk.new _ _ _)
   have HZq := Lib.hid hwq
   clear hx1 hx2 hcn hvals hln hkl hwl hwq HBs HRow
   have hfin : ∀ x bb cn', BitOf x bb → valsK N ins (k + 1) = (vals ++ [bb], cn') → ∀ u, Kp (fun _ => False) wq u → ∀ v' w2, Own w2 w.heap.size 142 v' (uv ws ++ [.int .u64 x]) → (u.alloc (.cells #[.int .u64 x] 142)).grownBy w2 u5.ownBlock → (∃ ws, Own w2 w.heap.size 142 v' (uv ws) ∧ BitsOf ws (valsK N ins (k + 1)).1 ∧ gi ws 0 = 0) ∧ Kp (fun _ => False) w w2 := fun x bb cn' hx hv u hu v' w2 hO3 hg2 =>
    ⟨⟨ws ++ [x], by rw [uv_append]; exact hO3, by rw [hv]; exact HBv.out.snoc hx, by
     have := HW0.out
     unfold gi at this ⊢
     rw [List.getElem?_append_left (by rw [HWl.out]; omega)]; exact this⟩, ((HKq.out.trans hu (fun _ _ h => h)).alloc _).grown hg2 (fun j hj hl => by have := (HOq.out.lt j hj).1; omega)⟩
   by_cases hneg : x1 < 0
   ·rw [if_pos hneg] at hS
    have q1 : decide ((0 : Int) ≤ x1) = false := decide_eq_false (by omega)
    by_cases hc : cn < m
    ·obtain ⟨y, hy⟩ : ∃ y, gi wi cn = y := ⟨_, rfl⟩
     have hdr := drop_gi (l := wi) (k := cn) (by rw [HIm.out]; exact hc)
     rw [hy] at hdr
     have hyb := HB.out.2 cn (by rw [HIm.out]; exact hc)
     rw [hy] at hyb
     obtain ⟨o, ho⟩ : ∃ o, (wi.drop (cn + 1)).length = o := ⟨_, rfl⟩
     have hlen : (wi.drop cn).length = o + 1 := by rw [hdr, List.length_cons, ho]
     obtain ⟨b3, off3, rfl, e3⟩ := HRw.out 0 (.int .u64 y) (by rw [hdr]; rfl)
     rw [Nat.add_zero] at e3
     have e4 := HKq.out.cellK e3
     rw [hlen] at hc1 ⊢
     have HRw2 := Lib.hid (show RowAt w (some ⟨b3, off3 + 1, none⟩) (uv (wi.drop (cn + 1))) from fun j u hj => by
      obtain ⟨b4, off4, e5, e6⟩ := HRw.out (j + 1) u (by rw [hdr]; exact hj)
      simp only [Option.some.injEq, Addr.mk.injEq, and_true] at e5
      obtain ⟨rfl, rfl⟩ := e5
      exact ⟨_, _, rfl, by rw [show off3 + 1 + j = off3 + (j + 1) by omega]; exact e6⟩)
     have HFin := Lib.hid (hfin y _ (cn + 1) hyb hS)
     have HS := Lib.hid hS
     have HO1 := Lib.hid ho
     have p0 : decide ((0 : Int) < ((o + 1 : Nat) : Int)) = true := decide_eq_true (by omega)
     have y0 := hyb.lo
     have y1 := hyb.hi
     have z0 : (0 : Int) < ((o + 1 : Nat) : Int) := by omega
     clear hfin hS hdr hyb ho hlen hy e3
     go_upto_region 5 with fail
     rw [← HZq.out]
     have n0 := HNb.out.cell (i := 0) (v := .int .i64 x1) rfl
     have e3 := e4
     clear HZq
     go_upto_region 9 with fail
     go_quiet (fail)
     have hkt : Kp (fun _ => False) wq (wq.drewN nq) := (Kp.refl _ wq).drewN _
     generalize wq.drewN nq = wt at hkt ⊢
     have HRw3 := Lib.hid (show ∃ a1 c1', (Value.slice (if c1 = 1 then some ⟨b3, off3, none⟩ else some ⟨b3, off3 + 1, none⟩) o (c1 - 1)) = .slice a1 (wi.drop (valsK N ins (k + 1)).2).length c1' ∧ RowAt w a1 (uv (wi.drop (valsK N ins (k + 1)).2)) ∧ (wi.drop (valsK N ins (k + 1)).2).length ≤ c1' ∧ c1' ≤ maxLen from by
      rw [HS.out]
      refine ⟨_, _, by rw [HO1.out], ?_, by rw [HO1.out]; omega, by omega⟩
      by_cases e : c1 = 1
      ·have h0 : wi.drop (cn + 1) = [] := List.eq_nil_of_length_eq_zero (by rw [HO1.out]; omega)
       rw [h0]; exact RowAt.nil _ _
      ·rw [if_neg e]; exact HRw2.out)
     generalize (if c1 = 1 then (some ⟨b3, off3, none⟩ : Option Addr) else some ⟨b3, off3 + 1, none⟩) = a2 at HRw3 ⊢
     have HNew := Lib.hid (Blk.new wt #[.int .u64 y] 142)
     have HOw := Lib.hid ((HOq.out.kp hkt (fun _ _ h => h)).alloc (.cells #[.int .u64 y] 142))
     have HSt := Lib.hid (show w.heap.size ≤ wt.heap.size by have := HKq.out.size; have := hkt.size; omega)
     have HFin2 := Lib.hid (HFin.out wt hkt)
     clear hkt
     go_wp2_with (at_builtin; refine wpList_append1_at rfl _ _ 149 142 rfl Tryz.underlying149 HI.out rfl HOw.out rfl ⟨wt.heap.size, 0, none⟩ (.int .u64 y) rfl (HNew.out.cell rfl) rfl ?d1 ?d2 ?d3 ?_)
     case d1 => rw [uv_length, HWl.out]; omega
     case d2 => rw [uv_length, HWl.out]; unfold maxLen; omega
     case d3 => have := HSt.out; simp; omega
     intro v' w2 hO3 hg2 hat2
     have HR2 := Lib.hid (HFin2.out v' w2 hO3 hg2)
     clear hO3 hg2 hat2 HNew HOw HFin HFin2
     go_wp2_with fail
     go_roundw
     case rel => exact ⟨k + 1, by go_num, by omega, HRw3.out, HR2.out.1, HR2.out.2⟩
     case measure => simp [intOf]; omega
    ·have h0 : wi.drop cn = [] := List.drop_eq_nil_of_le (by rw [HIm.out]; omega)
     have hx : vb ins cn = false := vb_far (by rw [← HB.out.1, HIm.out]; omega)
     rw [hx] at hS
     have h1 : wi.drop (cn + 1) = [] := List.drop_eq_nil_of_le (by rw [HIm.out]; omega)
     have HFin := Lib.hid (hfin 0 false (cn + 1) BitOf.zero hS)
     have HRw3 := Lib.hid (show ∃ a2 c1', (Value.slice a1 0 c1) = .slice a2 (wi.drop (valsK N ins (k + 1)).2).length c1' ∧ RowAt w a2 (uv (wi.drop (valsK N ins (k + 1)).2)) ∧ (wi.drop (valsK N ins (k + 1)).2).length ≤ c1' ∧ c1' ≤ maxLen from by
      rw [hS]
      show ∃ a2 c1', _ = Value.slice a2 (wi.drop (cn + 1)).length c1' ∧ _
      rw [h1]
      exact ⟨a1, c1, rfl, RowAt.nil _ _, Nat.zero_le _, hc2⟩)
     rw [h0]
     simp only [List.length_nil]
     clear hfin hS hx h0 h1
     go_upto_region 5 with fail
     rw [← HZq.out]
     have n0 := HNb.out.cell (i := 0) (v := .int .i64 x1) rfl
     clear HZq
     have hkt : Kp (fun _ => False) wq wq := Kp.refl _ wq
     have HNew := Lib.hid (Blk.new wq #[.int .u64 0] 142)
     have HOw := Lib.hid ((HOq.out.kp hkt (fun _ _ h => h)).alloc (.cells #[.int .u64 0] 142))
     have HSt := Lib.hid (show w.heap.size ≤ wq.heap.size by have := HKq.out.size; have := hkt.size; omega)
     have HFin2 := Lib.hid (HFin.out wq hkt)
     clear hkt
     go_wp2_with (at_builtin; refine wpList_append1_at rfl _ _ 149 142 rfl Tryz.underlying149 HI.out rfl HOw.out rfl ⟨wq.heap.size, 0, none⟩ (.int .u64 0) rfl (HNew.out.cell rfl) rfl ?d1 ?d2 ?d3 ?_)
     case d1 => rw [uv_length, HWl.out]; omega
     case d2 => rw [uv_length, HWl.out]; unfold maxLen; omega
     case d3 => have := HSt.out; simp; omega
     intro v' w2 hO3 hg2 hat2
     have HR2 := Lib.hid (HFin2.out v' w2 hO3 hg2)
     clear hO3 hg2 hat2 HNew HOw HFin HFin2
     go_wp2_with fail
     go_roundw
     case rel => exact ⟨k + 1, by go_num, by omega, HRw3.out, HR2.out.1, HR2.out.2⟩
     case measure => simp [intOf]; omega
   ·rw [if_neg hneg] at hS
    have q1 : decide ((0 : Int) ≤ x1) = true := decide_eq_true (by omega)
    have hgg : 0 ≤ x1 ∧ x1 ≤ 2 * (k : Int) + 1 ∧ 0 ≤ x2 ∧ x2 ≤ 2 * (k : Int) + 1 := hg.resolve_left hneg
    obtain ⟨av, cv, ev, lv, mv, -, hrv⟩ := HOq.out.form
    rw [uv_length, HWl.out] at ev lv
    subst ev
    obtain ⟨F, hF1, hF2⟩ := still_class wq
    have HW1 := Lib.hid (fun y => (sim_Word av (k + 1) cv ws vals x1 (F y) (hrv.kp (hF1 y) (fun _ _ h => h)) HWl.out (by omega) HW0.out HBv.out hgg.1 (by omega)).mono (R' := fun e w' => e = .returned (.int .u64 (wordF ws x1)) ∧ Kp (fun _ => False) (F y) w') (fun e w' ⟨h1, h2⟩ => ⟨h1, h2 ▸ Kp.refl _ _⟩))
    have HW2 := Lib.hid (fun y => (sim_Word av (k + 1) cv ws vals x2 (F y) (hrv.kp (hF1 y) (fun _ _ h => h)) HWl.out (by omega) HW0.out HBv.out hgg.2.2.1 (by omega)).mono (R' := fun e w' => e = .returned (.int .u64 (wordF ws x2)) ∧ Kp (fun _ => False) (F y) w') (fun e w' ⟨h1, h2⟩ => ⟨h1, h2 ▸ Kp.refl _ _⟩))
    have hb1 := wordF_bit (l := x1) HBv.out (by rw [HWl.out]; omega)
    have hb2 := wordF_bit (l := x2) HBv.out (by rw [HWl.out]; omega)
    have HFin := Lib.hid (hfin _ _ cn (hb1.and hb2) hS)
    obtain ⟨o, ho⟩ : ∃ o, (wi.drop cn).length = o := ⟨_, rfl⟩
    have HRw3 := Lib.hid (show ∃ a2 c1', (Value.slice a1 o c1) = .slice a2 (wi.drop (valsK N ins (k + 1)).2).length c1' ∧ RowAt w a2 (uv (wi.drop (valsK N ins (k + 1)).2)) ∧ (wi.drop (valsK N ins (k + 1)).2).length ≤ c1' ∧ c1' ≤ maxLen from by
     rw [hS, ← ho]
     exact ⟨a1, c1, rfl, HRw.out, hc1, hc2⟩)
    rw [ho]
    have HF1 := Lib.hid hF1
    have HF2 := Lib.hid hF2
    have hL1 : ∀ y, (F y).cell? ⟨wp.heap.size, 0, none⟩ = some (.int .i64 x1) := fun y => (HNb.out.kp (HF1.out y) (fun h => h)).cell rfl
    have hL2 : ∀ y, (F y).cell? ⟨wp.heap.size, 1, none⟩ = some (.int .i64 x2) := fun y => (HNb.out.kp (HF1.out y) (fun h => h)).cell rfl
    have b0 := hb1.lo
    have b1 := hb1.hi
    have b2 := hb2.lo
    have b3 := hb2.hi
    clear hfin hS hgg hg hrv hb1 hb2 hF1 hF2 ho
    go_upto_region 5 with fail
    rw [← HZq.out]
    have n0 := HNb.out.cell (i := 0) (v := .int .i64 x1) rfl
    clear HZq
    go_upto_region 7 with fail
    refine wp_region_kept (by kernel_rfl) (by kernel_rfl) HF2.out ?_
    repeat (go_big_quiet_step (with_reducible first | exact Calls.still_of HF1.out HF2.out (HW1.out _) | exact Calls.still_of HF1.out HF2.out (HW2.out _)))
    refine wpQuiet_nil ?_
    rintro wB ⟨y, rfl⟩
    have hkt := HF1.out y
    clear hL1 hL2
    generalize F y = wt at hkt ⊢
    obtain ⟨xx, hxx⟩ : ∃ x, bits .and .u64 (wordF ws x1) (wordF ws x2) = x := ⟨_, rfl⟩
    rw [hxx] at HFin ⊢
    clear hxx
    have HNew := Lib.hid (Blk.new wt #[.int .u64 xx] 142)
    have HOw := Lib.hid ((HOq.out.kp hkt (fun _ _ h => h)).alloc (.cells #[.int .u64 xx] 142))
    have HSt := Lib.hid (show w.heap.size ≤ wt.heap.size by have := HKq.out.size; have := hkt.size; omega)
    have HFin2 := Lib.hid (HFin.out wt hkt)
    clear hkt
    go_wp2_with (at_builtin; refine wpList_append1_at rfl _ _ 149 142 rfl Tryz.underlying149 HI.out rfl HOw.out rfl ⟨wt.heap.size, 0, none⟩ (.int .u64 xx) rfl (HNew.out.cell rfl) rfl ?d1 ?d2 ?d3 ?_)
    case d1 => rw [uv_length, HWl.out]; omega
    case d2 => rw [uv_length, HWl.out]; unfold maxLen; omega
    case d3 => have := HSt.out; simp; omega
    intro v' w2 hO3 hg2 hat2
    have HR2 := Lib.hid (HFin2.out v' w2 hO3 hg2)
    clear hO3 hg2 hat2 HNew HOw HFin HFin2
    go_wp2_with fail
    go_roundw
    case rel => exact ⟨k + 1, by go_num, by omega, HRw3.out, HR2.out.1, HR2.out.2⟩
    case measure => simp [intOf]; omega
  ·obtain rfl : k = n := by omega
   have HE := Lib.hid (show ∃ ws, Own wp w.heap.size 142 u5 (uv ws) ∧ BitsOf ws (valsOf N ins) from ⟨ws, HO.out, by unfold valsOf; rw [HN.out]; exact HBs.out⟩)
   go_wp2_with fail
   go_ret
   exact ⟨_, rfl, HE.out, HK.out⟩

end Go.Proofs.YtnoknecfdnjomaaGreat

/-
  latchetref17.Brought, step.brought.
-/
namespace Go.Proofs.YtnoknecfdnjomaaGreat
open Go.RowKit

def brought (l : List Bool) (n : Nat) : List Bool := (List.range n).map (vb l)
theorem brought_len (l : List Bool) (n : Nat) : (brought l n).length = n := by simp [brought]
theorem brought_succ (l : List Bool) (k : Nat) : brought l (k + 1) = brought l k ++ [vb l k] := range_bool _ _

set_option maxRecDepth 100000 in
theorem ref17_Brought (a : Option Addr) (n c : Nat) (l : List Bool) (m : Nat) (w : World) (hr : RowAt w a (bv l)) (hn : l.length = n) (hm : n ≤ 100000000) (hmm : m ≤ 10000000) :
  Calls Tryz.prog 71 #[.slice a n c, .int .i64 m] w fun e w' => ∃ v, e = .returned v ∧ Own w' w.heap.size 4 v (bv (brought l m)) ∧ Kp (fun _ => False) w w' := by
 have HI := Lib.hid (show (Tryz.prog.info? 4).map (fun i => (i.zero, i.size, i.bytes)) = some (some (.bool false), 1, 1) by kernel_rfl)
 have HR := Lib.hid hr
 have HN := Lib.hid hn
 obtain ⟨wz, hwz⟩ : ∃ wz : World, wz = w.alloc (.cells #[] 4) := ⟨_, rfl⟩
 have HK0 := Lib.hid (show Kp (fun _ => False) w wz by rw [hwz]; exact (Kp.refl _ w).alloc _)
 have HO0 : Hid (Own wz w.heap.size 4 (.slice (some ⟨w.heap.size, 0, none⟩) 0 0) (bv (brought l 0))) := Lib.hid (by rw [hwz]; exact Own.lit (cs := []) (Blk.new w _ _) (Nat.le_refl _) (by decide))
 have HZ := Lib.hid hwz
 clear hr hn hwz
 go_enter Tryz.func71, Tryz.ntmps71
 go_upto_region 2 with fail
 rw [← HZ.out]
 clear HZ
 go_wp2_with fail
 go_loopw [5, 6] (fun v5 v6 wr => ∃ k : Nat, v6 = .int .i64 k ∧ k ≤ m ∧ Own wr w.heap.size 4 v5 (bv (brought l k)) ∧ Kp (fun _ => False) w wr) (fun _ v6 _ => m - (intOf v6).toNat)
 case atStart => exact ⟨0, rfl, by omega, HO0.out, HK0.out⟩
 case round =>
  obtain ⟨k, rfl, hk, hO, hK⟩ := hrel
  clear HO0 HK0
  obtain ⟨wp, rfl⟩ : ∃ wp : World, wp = wr := ⟨_, rfl⟩
  have HO2 := Lib.hid hO
  have HK := Lib.hid hK
  have HKs := Lib.hid hK.size
  clear hO hK
  by_cases hlt : k < m
  ·have HS := Lib.hid (brought_succ l k)
   have i0 : (0 : Int) ≤ (k : Int) := by omega
   have i2 : (k : Int) < (m : Int) := by omega
   have hfin : ∀ x, vb l k = x → ∀ v' w2, Own w2 w.heap.size 4 v' (bv (brought l k) ++ [.bool x]) → (wp.alloc (.cells #[.bool x] 4)).grownBy w2 u5.ownBlock → ∃ k' : Nat, Value.int .i64 ((k : Int) + 1) = .int .i64 k' ∧ k' ≤ m ∧ Own w2 w.heap.size 4 v' (bv (brought l k')) ∧ Kp (fun _ => False) w w2 := fun x hx v' w2 hO3 hg2 =>
    ⟨k + 1, by go_num, by omega, by rw [HS.out, hx, bv_append]; exact hO3, (HK.out.alloc _).grown hg2 (fun j hj hl => by have := (HO2.out.lt j hj).1; omega)⟩
   by_cases hc : k < n
   ·have c1 : (k : Int) < (n : Int) := by omega
    obtain ⟨b3, off3, rfl, e3⟩ := HR.out k _ (bv_at (by rw [HN.out]; exact hc))
    have e4 := HK.out.cellK e3
    obtain ⟨x, hx⟩ : ∃ x, vb l k = x := ⟨_, rfl⟩
    rw [hx] at e3 e4
    have HFin := Lib.hid (hfin x hx)
    have HNew := Lib.hid (Blk.new wp #[.bool x] 4)
    have HOw := Lib.hid (HO2.out.alloc (.cells #[.bool x] 4))
    clear hx hfin e3
    cases x with
    |true =>
     go_wp2_with (at_builtin; refine wpList_append1_at rfl _ _ 38 4 rfl Tryz.underlying38 HI.out rfl HOw.out rfl ⟨wp.heap.size, 0, none⟩ (.bool true) rfl (HNew.out.cell rfl) rfl ?d1 ?d2 ?d3 ?_)
     case d1 => rw [bv_length, brought_len]; omega
     case d2 => rw [bv_length, brought_len]; unfold maxLen; omega
     case d3 => have := HKs.out; simp; omega
     intro v' w2 hO3 hg2 hat2
     have HR2 := Lib.hid (HFin.out v' w2 hO3 hg2)
     clear hO3 hg2 hat2 HNew HOw HFin
     go_wp2_with fail
     go_roundw
     case rel => exact HR2.out
     case measure => simp [intOf]; omega
    |false =>
     go_wp2_with (at_builtin; refine wpList_append1_at rfl _ _ 38 4 rfl Tryz.underlying38 HI.out rfl HOw.out rfl ⟨wp.heap.size, 0, none⟩ (.bool false) rfl (HNew.out.cell rfl) rfl ?d1 ?d2 ?d3 ?_)
     case d1 => rw [bv_length, brought_len]; omega
     case d2 => rw [bv_length, brought_len]; unfold maxLen; omega
     case d3 => have := HKs.out; simp; omega
     intro v' w2 hO3 hg2 hat2
     have HR2 := Lib.hid (HFin.out v' w2 hO3 hg2)
     clear hO3 hg2 hat2 HNew HOw HFin
     go_wp2_with fail
     go_roundw
     case rel => exact HR2.out
     case measure => simp [intOf]; omega
   ·have c1 : decide ((k : Int) < (n : Int)) = false := decide_eq_false (by omega)
    have HFin := Lib.hid (hfin false (vb_far (by rw [HN.out]; omega)))
    have HNew := Lib.hid (Blk.new wp #[.bool false] 4)
    have HOw := Lib.hid (HO2.out.alloc (.cells #[.bool false] 4))
    clear hfin
    go_wp2_with (at_builtin; refine wpList_append1_at rfl _ _ 38 4 rfl Tryz.underlying38 HI.out rfl HOw.out rfl ⟨wp.heap.size, 0, none⟩ (.bool false) rfl (HNew.out.cell rfl) rfl ?d1 ?d2 ?d3 ?_)
    case d1 => rw [bv_length, brought_len]; omega
    case d2 => rw [bv_length, brought_len]; unfold maxLen; omega
    case d3 => have := HKs.out; simp; omega
    intro v' w2 hO3 hg2 hat2
    have HR2 := Lib.hid (HFin.out v' w2 hO3 hg2)
    clear hO3 hg2 hat2 HNew HOw HFin
    go_wp2_with fail
    go_roundw
    case rel => exact HR2.out
    case measure => simp [intOf]; omega
  ·obtain rfl : k = m := by omega
   go_wp2_with fail
   go_ret
   exact ⟨_, rfl, HO2.out, HK.out⟩

end Go.Proofs.YtnoknecfdnjomaaGreat

/-
  sim: Lane, Pack, Eval.
-/
namespace Go.Proofs.YtnoknecfdnjomaaGreat
open Go.RowKit

theorem u64_and1 (x : Int) (h0 : 0 ≤ x) (h1 : x < 18446744073709551616) : bits .and .u64 x 1 = x % 2 := by
 obtain ⟨a, rfl⟩ : ∃ a : Nat, x = (a : Int) := ⟨x.toNat, by omega⟩
 have := bits_and_u64_nat a 1 (by omega) (by decide)
 rw [show (1 : Int) = ((1 : Nat) : Int) from rfl, this, Nat.and_one_is_mod]
 omega

def laid (vals : List Bool) (n k : Nat) : List Bool := vals.take k ++ List.replicate (n - k) false
theorem laid_zero (vals : List Bool) (n : Nat) : laid vals n 0 = List.replicate n false := by simp [laid]
theorem laid_len {vals : List Bool} {n k : Nat} (hn : vals.length = n) (h : k ≤ n) : (laid vals n k).length = n := by unfold laid; simp; omega
theorem laid_full {vals : List Bool} {n : Nat} (hn : vals.length = n) : laid vals n n = vals := by unfold laid; simp [← hn]
theorem laid_step {vals : List Bool} {n k : Nat} (hn : vals.length = n) (h : k < n) : (laid vals n k).set k (vb vals k) = laid vals n (k + 1) := by
 unfold laid
 have hl : (vals.take k).length = k := by simp; omega
 rw [List.set_append_right _ _ (by omega), hl, Nat.sub_self, show n - k = (n - (k + 1)) + 1 by omega, List.replicate_succ, List.set_cons_zero]
 rw [List.take_succ_eq_append_getElem (by omega)]
 unfold vb
 rw [List.getElem?_eq_getElem (by omega)]
 simp only [List.append_assoc, List.singleton_append, Option.getD_some]
theorem bv_rep (n : Nat) : bv (List.replicate n false) = rowF (fun _ => .bool false) n := by
 unfold bv rowF
 rw [List.map_replicate]
 apply List.ext_getElem
 ·simp
 ·intro i h1 h2; simp
theorem bv_set (l : List Bool) (j : Nat) (x : Bool) : (bv l).set j (.bool x) = bv (l.set j x) := by unfold bv; rw [List.map_set]

theorem made_bools0 {w : World} {base n : Nat} (hn : n ≤ maxLen) (hb : base ≤ w.heap.size) : Own (w.alloc (.cells (madeCells #[.bool false] n) 4)) base 4 (.slice (some ⟨w.heap.size, 0, none⟩) n n) (bv (List.replicate n false)) := by
 rw [bv_rep]
 have hl : (rowF (fun _ => Value.bool false) n).length = n := rowF_length _ _
 have := Own.lit (w := w.alloc (.cells (madeCells #[.bool false] n) 4)) (base := base) (g := w.heap.size) (e := 4) (cs := rowF (fun _ => Value.bool false) n) (by rw [← made_row]; exact Blk.new _ _ _) hb (by rw [hl]; exact hn)
 rw [hl] at this
 exact this

set_option maxRecDepth 100000 in
theorem sim_Lane (a : Option Addr) (n c : Nat) (ws : List Int) (vals : List Bool) (w : World) (hr : RowAt w a (uv ws)) (hn : ws.length = n) (hm : n ≤ 20000000) (hb : BitsOf ws vals) :
  Calls Tryz.prog 114 #[.slice a n c, .int .i64 0] w fun e w' => ∃ v, e = .returned v ∧ Own w' w.heap.size 4 v (bv vals) ∧ Kp (fun _ => False) w w' := by
 obtain ⟨i0, hi0, hz0, hz1, hz2⟩ := info_parts (show (Tryz.prog.info? 4).map (fun i => (i.zero, i.size, i.bytes)) = some (some (.bool false), 1, 1) by kernel_rfl)
 have hmk : ∀ u : World, (Instr.makeSlice 38 (.int .i64 (n : Int)) (.int .i64 (n : Int))).run Tryz.prog u =
   .ok (.slice (some ⟨u.heap.size, 0, none⟩) n n) (u.alloc (.cells (madeCells #[.bool false] n) 4)) := fun u => by
  have h := run_make (P := Tryz.prog) u 38 4 i0 (.bool false) Tryz.underlying38 hi0 hz0 .i64 .i64 (n : Int) (n : Int) (by omega) (Int.le_refl _) (by rw [hz2]; omega) (by omega)
  simpa [hz1, Value.cells] using h
 clear hi0 hz0 hz1 hz2 i0
 have HR := Lib.hid hr
 have HN := Lib.hid hn
 have HB := Lib.hid hb
 have HVn := Lib.hid (show vals.length = n by rw [← hb.1]; exact hn)
 obtain ⟨wz, hwz⟩ : ∃ wz : World, wz = w.alloc (.cells (madeCells #[.bool false] n) 4) := ⟨_, rfl⟩
 have HK0 := Lib.hid (show Kp (fun _ => False) w wz by rw [hwz]; exact (Kp.refl _ w).alloc _)
 have HO0 : Hid (Own wz w.heap.size 4 (.slice (some ⟨w.heap.size, 0, none⟩) n n) (bv (laid vals n 0))) := Lib.hid (by rw [hwz, laid_zero]; exact made_bools0 (by unfold maxLen; omega) (Nat.le_refl _))
 have HZ := Lib.hid hwz
 clear hr hn hb hwz
 go_enter Tryz.func114, Tryz.ntmps114
 go_upto_region 4 with fail
 rw [← HZ.out]
 clear HZ hmk
 go_wp2_with fail
 go_loopw [19] (fun v19 wr => ∃ k : Nat, v19 = .int .i64 k ∧ k ≤ n ∧ Own wr w.heap.size 4 (.slice (some ⟨w.heap.size, 0, none⟩) n n) (bv (laid vals n k)) ∧ Kp (fun _ => False) w wr) (fun v19 _ => n - (intOf v19).toNat)
 case atStart => exact ⟨0, rfl, by omega, HO0.out, HK0.out⟩
 case round =>
  obtain ⟨k, rfl, hk, hO, hK⟩ := hrel
  clear HO0 HK0
  obtain ⟨wp, rfl⟩ : ∃ wp : World, wp = wr := ⟨_, rfl⟩
  have HO := Lib.hid hO
  have HK := Lib.hid hK
  clear hO hK
  by_cases hlt : k < n
  ·obtain ⟨b, off, rfl, e0⟩ := (HR.out.kp HK.out (fun _ _ h => h)) k _ (uv_at (by rw [HN.out]; exact hlt))
   have hbx := HB.out.2 k (by rw [HN.out]; exact hlt)
   obtain ⟨x, hx⟩ : ∃ x, gi ws k = x := ⟨_, rfl⟩
   rw [hx] at e0 hbx
   have x0 := hbx.lo
   have x1 := hbx.hi
   have hand : bits .and .u64 x 1 = x % 2 := u64_and1 x x0 x1
   have HBx := Lib.hid hbx
   have i0 : (0 : Int) ≤ (k : Int) := by omega
   have i2 : (k : Int) < (n : Int) := by omega
   have ck := HO.out.cell (j := k) (bv_at (by rw [laid_len HVn.out hk]; exact hlt))
   have fk := HO.out.free k
   have HOs := Lib.hid (HO.out.set k (.bool (vb vals k)))
   clear hx hbx
   cases hv : vb vals k with
   |true =>
    have hp : x % 2 = 1 := by have := HBx.out.bit; rw [hv] at this; exact of_decide_eq_true this
    have e1 : (x % 2 == 1) = true := by simp [hp]
    have HR2 := Lib.hid (show Own (wp.setCell ⟨w.heap.size, k, none⟩ (.bool true)) w.heap.size 4 (.slice (some ⟨w.heap.size, 0, none⟩) n n) (bv (laid vals n (k + 1))) ∧ Kp (fun _ => False) w (wp.setCell ⟨w.heap.size, k, none⟩ (.bool true)) from by
     have h1 := HOs.out
     rw [bv_set, laid_step HVn.out hlt, hv] at h1
     exact ⟨h1, HK.out.setCell (p := ⟨w.heap.size, k, none⟩) (fun hl => by have h3 : w.heap.size < w.heap.size := hl; omega) _⟩)
    clear hp HOs
    go_wp2_with fail
    go_roundw
    case rel => exact ⟨k + 1, by go_num, by omega, HR2.out⟩
    case measure => simp [intOf]; omega
   |false =>
    have hp : ¬ x % 2 = 1 := by have := HBx.out.bit; rw [hv] at this; exact of_decide_eq_false this
    have e1 : (x % 2 == 1) = false := by simp [hp]
    have HR2 := Lib.hid (show Own (wp.setCell ⟨w.heap.size, k, none⟩ (.bool false)) w.heap.size 4 (.slice (some ⟨w.heap.size, 0, none⟩) n n) (bv (laid vals n (k + 1))) ∧ Kp (fun _ => False) w (wp.setCell ⟨w.heap.size, k, none⟩ (.bool false)) from by
     have h1 := HOs.out
     rw [bv_set, laid_step HVn.out hlt, hv] at h1
     exact ⟨h1, HK.out.setCell (p := ⟨w.heap.size, k, none⟩) (fun hl => by have h3 : w.heap.size < w.heap.size := hl; omega) _⟩)
    clear hp HOs
    go_wp2_with fail
    go_roundw
    case rel => exact ⟨k + 1, by go_num, by omega, HR2.out⟩
    case measure => simp [intOf]; omega
  ·obtain rfl : k = n := by omega
   have HE := Lib.hid (show Own wp w.heap.size 4 (.slice (some ⟨w.heap.size, 0, none⟩) k k) (bv vals) from by have := HO.out; rw [laid_full HVn.out] at this; exact this)
   go_wp2_with fail
   go_ret
   exact ⟨_, rfl, HE.out, HK.out⟩

end Go.Proofs.YtnoknecfdnjomaaGreat

/-
  latchetref11.Net.
-/
namespace Go.Proofs.YtnoknecfdnjomaaGreat
open Go.RowKit

set_option maxRecDepth 100000 in
set_option maxHeartbeats 4000000 in
theorem ref11_Net (V : CV) (C : Circ) (w : World) (h : CAt w V C) (hf : CFew C 1000000) (hg : GoodC C) :
  Calls Tryz.prog 39 #[.agg (cvals V C)] w fun e w' => ∃ v4 v5, e = .returned (.tuple #[v4, v5]) ∧ OwnK w' w.heap.size 102 2 v4 ((netOf C).1.map pr2) ∧ Own w' w.heap.size 3 v5 (iv (netOf C).2) ∧ Kp (fun _ => False) w w' := by
 have HI := Lib.hid (show (Tryz.prog.info? 3).map (fun i => (i.zero, i.size, i.bytes)) = some (some (.int .i64 0), 1, 8) by kernel_rfl)
 have HIn := Lib.hid (show (Tryz.prog.info? 102).map (fun i => (i.zero, i.size, i.bytes)) = some (some (.agg #[.int .i64 0, .int .i64 0]), 2, 16) by kernel_rfl)
 obtain ⟨m, hm⟩ : ∃ m, MX C = m := ⟨_, rfl⟩
 obtain ⟨ni, hni⟩ : ∃ n, C.ins.length = n := ⟨_, rfl⟩
 obtain ⟨nl, hnl⟩ : ∃ n, C.lats.length = n := ⟨_, rfl⟩
 obtain ⟨ng, hng⟩ : ∃ n, C.gates.length = n := ⟨_, rfl⟩
 have hmi : C.max = (m : Int) := by rw [← hm]; exact hg.mx.symm
 have hm1 : m ≤ 16777216 := by have := hg.rng.max1; omega
 have hi1 : ni ≤ 1000000 := by have := hf.i; omega
 have hl1 : nl ≤ 1000000 := by have := hf.l; omega
 have hg1 : ng ≤ 1000000 := by have := hf.g; omega
 have HU : Hid (cvals V C = #[.int .i64 (m : Int), .slice V.ai ni V.ci, .slice V.al nl V.cl, .slice V.ao C.outs.length V.co, .slice V.ab C.bads.length V.cb, .slice V.ac C.cons.length V.cc, .slice V.ag ng V.cg, .slice V.ay V.ny V.cy, .string V.cm]) := Lib.hid (by unfold cvals; rw [hmi, hni, hnl, hng])
 have HA := Lib.hid h
 have HF := Lib.hid hf
 have HG := Lib.hid hg
 have HMi := Lib.hid hmi
 have HNi := Lib.hid hni
 have HNl := Lib.hid hnl
 have HNg := Lib.hid hng
 obtain ⟨wz, hwz⟩ : ∃ wz : World, wz = ((w.alloc (.cells (cvals V C) 27)).alloc (.cells #[] 102)).alloc (.cells #[.int .i64 0] 3) := ⟨_, rfl⟩
 have HM0 : Hid (NM V C w ([], 0 :: List.replicate 0 (-1)) (.slice (some ⟨w.heap.size + 1, 0, none⟩) 0 0) (.slice (some ⟨w.heap.size + 2, 0, none⟩) 1 1) wz) := Lib.hid (by
  rw [hwz]
  refine ⟨OwnK.lit (rows := []) ((two_blk w _ _ _ _).alloc _) (Nat.le_refl _) (fun r h => by cases h) (Nat.zero_le _), ?_, ((Blk.new w _ _).alloc _).alloc _, (((Kp.refl _ w).alloc _).alloc _).alloc _⟩
  have := Blk.new ((w.alloc (.cells (cvals V C) 27)).alloc (.cells #[] 102)) #[.int .i64 0] 3
  exact Own.lit (cs := [.int .i64 0]) (by simpa using this) (by omega) (by decide))
 have HZ := Lib.hid hwz
 clear h hf hg hm hmi hni hnl hng hwz
 go_enter Tryz.func39, Tryz.ntmps39
 go_upto_region 2 with fail
 rw [← HZ.out]
 clear HZ
 go_wp2_with fail
 go_loopw [5, 6] (fun v5 v6 wr => ∃ k : Nat, v6 = .int .i64 ((k : Int) + 1) ∧ k ≤ m ∧ NM V C w ([], 0 :: List.replicate k (-1)) (.slice (some ⟨w.heap.size + 1, 0, none⟩) 0 0) v5 wr) (fun _ v6 _ => m + 1 - (intOf v6).toNat)
 case atStart => exact ⟨0, rfl, by omega, HM0.out⟩
 case round =>
  obtain ⟨k, rfl, hk, hM⟩ := hrel
  clear HM0
  obtain ⟨wp, rfl⟩ : ∃ wp : World, wp = wr := ⟨_, rfl⟩
  have HM := Lib.hid hM
  have c0 := hM.circ.cell (i := 0) (v := .int .i64 (m : Int)) (by rw [HU.out]; rfl)
  clear hM
  by_cases hlt : k < m
  ·have i0 : (k : Int) + 1 ≤ (m : Int) := by omega
   have HNew := Lib.hid (Blk.new wp #[.int .i64 (-1)] 3)
   have HOw := Lib.hid (HM.out.a.alloc (.cells #[.int .i64 (-1)] 3))
   go_wp2_with (at_builtin; refine wpList_append1_at rfl _ _ 22 3 rfl Tryz.underlying22 HI.out rfl HOw.out rfl ⟨wp.heap.size, 0, none⟩ (.int .i64 (-1)) rfl (HNew.out.cell rfl) rfl ?d1 ?d2 ?d3 ?_)
   case d1 => rw [iv_length]; simp; omega
   case d2 => rw [iv_length]; unfold maxLen; simp; omega
   case d3 => have := HM.out.circ.lt; simp; omega
   intro v' w2 hO2 hg2 hat2
   have HM2 := Lib.hid (HM.out.grow ((Kp.refl _ wp).alloc _) hO2 hg2)
   clear hO2 hg2 hat2 HNew HOw
   go_wp2_with fail
   go_roundw
   case rel => exact ⟨k + 1, by go_num, by omega, by have := HM2.out; rw [List.replicate_succ']; exact this⟩
   case measure => simp [intOf]; omega
  ·obtain rfl : k = m := by omega
   have i0 : ¬ (k : Int) + 1 ≤ (k : Int) := by omega
   have hM1 : NM V C w (netI C 0) (.slice (some ⟨w.heap.size + 1, 0, none⟩) 0 0) u5 wp := by
    have := HM.out
    have e : netI C 0 = ([], 0 :: List.replicate k (-1)) := by unfold netI net0; rw [HMi.out]; rfl
    rw [e]; exact this
   obtain ⟨g5, c5, rfl, -⟩ := hM1.at_ (by show 0 < (0 :: _).length; simp)
   have hln : (netI C 0).2.length = k + 1 := by show (0 :: List.replicate C.max.toNat (-1)).length = _; rw [HMi.out]; simp
   rw [hln] at hM1
   rw [hln]
   have HM1 := Lib.hid hM1
   clear hM1 HM hln
   go_wp2_with fail
   go_loopw [4, 7] (fun v4 v7 wr => ∃ k' : Nat, v7 = .int .i64 (k' : Int) ∧ k' ≤ ni ∧ NM V C w (netI C k') v4 (.slice (some ⟨g5, 0, none⟩) (k + 1) c5) wr) (fun _ v7 _ => ni - (intOf v7).toNat)
   case atStart => exact ⟨0, rfl, by omega, HM1.out⟩
   case round =>
    obtain ⟨q, rfl, hq, hM⟩ := hrel
    clear HM1 hlt i0 c0
    obtain ⟨wq, rfl⟩ : ∃ wp : World, wp = wr := ⟨_, rfl⟩
    have HM := Lib.hid hM
    have c1 := hM.circ.cell (i := 1) (v := .slice V.ai ni V.ci) (by rw [HU.out]; rfl)
    clear hM
    by_cases hlt : q < ni
    ·have hql : q < C.ins.length := by rw [HNi.out]; exact hlt
     obtain ⟨b, off, ea, hE⟩ := HA.out.inCell hql
     have hr := HG.out.rng.own (gi C.ins q) (in_own hql)
     rw [HMi.out] at hr
     have HS := Lib.hid (netI_succ hql)
     have HL := Lib.hid (netI_len C q (by omega))
     obtain ⟨x0, hx0⟩ : ∃ x, gi C.ins q = x := ⟨_, rfl⟩
     rw [hx0] at hE hr HS
     have HE := Lib.hid hE
     have e0 := hE _ HM.out.kp
     obtain ⟨y, hy⟩ : ∃ y : Nat, (x0 / 2).toNat = y := ⟨_, rfl⟩
     have hd : x0 / 2 = (y : Int) := by omega
     have hyk : y ≤ k := by omega
     have hX := hr.1
     have hX2 := hr.2
     have i0 : (0 : Int) ≤ (q : Int) := by omega
     have i2 : (q : Int) < (ni : Int) := by omega
     rw [ea] at c1
     have HEA := Lib.hid ea
     have HY := Lib.hid hy
     clear hx0 ea hr hy hql hE
     have HNew := Lib.hid (Blk.new wq #[.int .i64 (-1), .int .i64 0] 102)
     have HOw := Lib.hid (HM.out.n.alloc (.cells #[.int .i64 (-1), .int .i64 0] 102))
     go_wp2_with (at_builtin; refine wpList_appendK rfl _ _ 77 102 rfl Tryz.underlying77 HIn.out rfl (by decide) HOw.out rfl wq.heap.size (pr2 (-1, 0)) rfl rfl ?n0 (pr2_one _) ?n1 ?n2 ?n3 ?_)
     case n0 => intro j u hj; exact HNew.out.cell (by simpa [pr2] using hj)
     case n1 => rw [List.length_map, HL.out]; omega
     case n2 => rw [List.length_map, HL.out]; unfold maxLen; omega
     case n3 => have := HM.out.circ.lt; simp; omega
     intro v' w2 hO2 hg2 hat2
     have hM2 := HM.out.push (x := (-1, 0)) ((Kp.refl _ wq).alloc _) hO2 hg2
     obtain ⟨a4, c4, e4, l4, m4, -⟩ := hM2.n.form
     have hlen : (((netI C q).1 ++ [(-1, 0)]).map pr2).length = q + 1 := by rw [List.length_map, List.length_append, HL.out]; rfl
     rw [hlen] at e4 l4
     subst e4
     have c1 := hM2.circ.cell (i := 1) (v := .slice V.ai ni V.ci) (by rw [HU.out]; rfl)
     rw [HEA.out] at c1
     have e0 := HE.out _ hM2.kp
     obtain ⟨-, -, -, -, hfr, hset⟩ := hM2.at2
     have hfy := hfr y
     have HM3 := Lib.hid (hset y (2 * (((q + 1 : Nat)) : Int)))
     have y0 : (0 : Int) ≤ (y : Int) := by omega
     have y1 : (y : Int) < ((k + 1 : Nat) : Int) := by omega
     have HC5 := Lib.hid (hM2.at2.2.2.2.1 y (by omega))
     have cy := HC5.out
     clear hM2 hO2 hg2 hat2 hfr hset HNew HOw hlen
     go_wp2_with fail
     go_roundw
     case rel => exact ⟨q + 1, by go_num, by omega, by
      have := HM3.out
      rw [HS.out]
      unfold inN putN
      rw [HY.out, HL.out]
      exact this⟩
     case measure => simp [intOf]; omega
    ·obtain rfl : q = ni := by omega
     have hL0 : NM V C w (netL C 0) u4 (.slice (some ⟨g5, 0, none⟩) (k + 1) c5) wq := by rw [netL_zero, HNi.out]; exact HM.out
     have HM1 := Lib.hid hL0
     clear hL0 HM
     go_wp2_with fail
     go_loopw [4, 8] (fun v4 v8 wr => ∃ k' : Nat, v8 = .int .i64 (k' : Int) ∧ k' ≤ nl ∧ NM V C w (netL C k') v4 (.slice (some ⟨g5, 0, none⟩) (k + 1) c5) wr) (fun _ v8 _ => nl - (intOf v8).toNat)
     case atStart => exact ⟨0, rfl, by omega, HM1.out⟩
     case round =>
      obtain ⟨p, rfl, hp, hM⟩ := hrel
      clear HM1 hlt c1 hq
      obtain ⟨wx, rfl⟩ : ∃ wp : World, wp = wr := ⟨_, rfl⟩
      have HM := Lib.hid hM
      have c2 := hM.circ.cell (i := 2) (v := .slice V.al nl V.cl) (by rw [HU.out]; rfl)
      clear hM
      by_cases hlt : p < nl
      ·have hql : p < C.lats.length := by rw [HNl.out]; exact hlt
       obtain ⟨b, off, ea, hE⟩ := HA.out.latCell hql
       have hr := HG.out.rng.own _ (lat_own hql)
       rw [HMi.out] at hr
       have HS := Lib.hid (netL_succ hql)
       have HL := Lib.hid (show (netL C p).1.length = q + p by rw [netL_len C p (by omega), HNi.out])
       obtain ⟨x0, hx0⟩ : ∃ x, (g3 C.lats p).1 = x := ⟨_, rfl⟩
       rw [hx0] at hE hr HS
       have HE := Lib.hid hE
       obtain ⟨y, hy⟩ : ∃ y : Nat, (x0 / 2).toNat = y := ⟨_, rfl⟩
       have hd : x0 / 2 = (y : Int) := by omega
       have hyk : y ≤ k := by omega
       have hX := hr.1
       have hX2 := hr.2
       have i0 : (0 : Int) ≤ (p : Int) := by omega
       have i2 : (p : Int) < (nl : Int) := by omega
       rw [ea] at c2
       have HEA := Lib.hid ea
       have HY := Lib.hid hy
       clear hx0 ea hr hy hql hE
       have HNew := Lib.hid (Blk.new wx #[.int .i64 (-1), .int .i64 0] 102)
       have HOw := Lib.hid (HM.out.n.alloc (.cells #[.int .i64 (-1), .int .i64 0] 102))
       go_wp2_with (at_builtin; refine wpList_appendK rfl _ _ 77 102 rfl Tryz.underlying77 HIn.out rfl (by decide) HOw.out rfl wx.heap.size (pr2 (-1, 0)) rfl rfl ?n0 (pr2_one _) ?n1 ?n2 ?n3 ?_)
       case n0 => intro j u hj; exact HNew.out.cell (by simpa [pr2] using hj)
       case n1 => rw [List.length_map, HL.out]; omega
       case n2 => rw [List.length_map, HL.out]; unfold maxLen; omega
       case n3 => have := HM.out.circ.lt; simp; omega
       intro v' w2 hO2 hg2 hat2
       have hM2 := HM.out.push (x := (-1, 0)) ((Kp.refl _ wx).alloc _) hO2 hg2
       obtain ⟨a4, c4, e4, l4, m4, -⟩ := hM2.n.form
       have hlen : (((netL C p).1 ++ [(-1, 0)]).map pr2).length = q + p + 1 := by rw [List.length_map, List.length_append, HL.out]; rfl
       rw [hlen] at e4 l4
       subst e4
       have c2 := hM2.circ.cell (i := 2) (v := .slice V.al nl V.cl) (by rw [HU.out]; rfl)
       rw [HEA.out] at c2
       have e0 := (HE.out _ hM2.kp).1
       obtain ⟨-, -, -, -, hfr, hset⟩ := hM2.at2
       have hfy := hfr y
       have HM3 := Lib.hid (hset y (2 * (((q + p + 1 : Nat)) : Int)))
       have y0 : (0 : Int) ≤ (y : Int) := by omega
       have y1 : (y : Int) < ((k + 1 : Nat) : Int) := by omega
       have HC5 := Lib.hid (hM2.at2.2.2.2.1 y (by omega))
       have cy := HC5.out
       clear hM2 hO2 hg2 hat2 hfr hset HNew HOw hlen
       go_wp2_with fail
       go_roundw
       case rel => exact ⟨p + 1, by go_num, by omega, by
        have := HM3.out
        rw [HS.out]
        unfold inN putN
        rw [HY.out, HL.out]
        exact this⟩
       case measure => simp [intOf]; omega
      ·obtain rfl : p = nl := by omega
       have hL0 : NM V C w (netG C 0) u4 (.slice (some ⟨g5, 0, none⟩) (k + 1) c5) wx := by rw [netG_zero, HNl.out]; exact HM.out
       have HM1 := Lib.hid hL0
       obtain ⟨no, hno⟩ : ∃ g, (ordO C.gates).length = g := ⟨_, rfl⟩
       have hno1 : no ≤ ng := by rw [← HNg.out, ← hno]; exact (ordO_at C.gates).len
       have HO := Lib.hid (show ∀ u, Kp (fun _ => False) w u → Calls Tryz.prog 32 #[.agg #[.int .i64 (k : Int), .slice V.ai q V.ci, .slice V.al p V.cl, .slice V.ao C.outs.length V.co, .slice V.ab C.bads.length V.cb, .slice V.ac C.cons.length V.cc, .slice V.ag ng V.cg, .slice V.ay V.ny V.cy, .string V.cm]] u fun e u' => (∃ a c, e = .returned (.slice a no c) ∧ Own u' u.heap.size 3 (.slice a no c) (nv (ordO C.gates))) ∧ Kp (fun _ => False) u u' from fun u hu => by
        have hor := (ref11_Order V C u (HA.out.kp hu) HF.out.g (fun i hi => by
         have h1 := HG.out.rng.own _ (gate_own hi)
         have h2 := HG.out.rng.use _ (gate_useA hi)
         have h3 := HG.out.rng.use _ (gate_useB hi)
         have h4 := HMi.out
         omega)).mono (R' := fun e u' => (∃ a c, e = .returned (.slice a no c) ∧ Own u' u.heap.size 3 (.slice a no c) (nv (ordO C.gates))) ∧ Kp (fun _ => False) u u') (by
          rintro e u' ⟨v, rfl, hO, hK⟩
          obtain ⟨a, c, e, -⟩ := hO.form
          rw [nv_length, hno] at e
          subst e
          exact ⟨⟨a, c, rfl, hO⟩, hK⟩)
        rw [HU.out] at hor
        exact hor)
       have HNo := Lib.hid hno
       obtain ⟨d0, d1, d2, d3, d4, d5, d6, d7, d8⟩ := Blk.cells9 (show Blk wx w.heap.size #[.int .i64 (k : Int), .slice V.ai q V.ci, .slice V.al p V.cl, .slice V.ao C.outs.length V.co, .slice V.ab C.bads.length V.cb, .slice V.ac C.cons.length V.cc, .slice V.ag ng V.cg, .slice V.ay V.ny V.cy, .string V.cm] 27 by have := HM.out.circ; rw [HU.out] at this; exact this)
       have HLt := Lib.hid HM.out.circ.lt
       clear hL0 HM hno c2
       go_wp2_with (go_at_call 32; refine (HO.out _ HM1.out.kp).mono ?_; rintro e w9 ⟨⟨a9, c9, rfl, hO9⟩, hK9⟩)
       have HM9 := Lib.hid (HM1.out.fr hK9)
       have HO9 := Lib.hid (show Own w9 wx.heap.size 3 (.slice a9 no c9) (nv (ordO C.gates)) from hO9)
       have HG5 := Lib.hid (show g5 < wx.heap.size from HM1.out.at2.2.2.1)
       clear hO9 hK9 d0 d1 d2 d3 d4 d5 d6 d7 d8 HM1
       go_wp2_with fail
       go_loopw [4, 10, 11] (fun v4 v10 _ wr => ∃ r : Nat, v10 = .int .i64 (r : Int) ∧ r ≤ no ∧ NM V C w (netG C r) v4 (.slice (some ⟨g5, 0, none⟩) (k + 1) c5) wr ∧ Own wr wx.heap.size 3 (.slice a9 no c9) (nv (ordO C.gates))) (fun _ v10 _ _ => no - (intOf v10).toNat)
       case atStart => exact ⟨0, rfl, by omega, HM9.out, HO9.out⟩
       case round =>
        obtain ⟨r, rfl, hrk, hM, hO⟩ := hrel
        clear HM9 HO9 hlt HO
        obtain ⟨wy, rfl⟩ : ∃ wp : World, wp = wr := ⟨_, rfl⟩
        have HM := Lib.hid hM
        have HO := Lib.hid hO
        have c6 := hM.circ.cell (i := 6) (v := .slice V.ag ng V.cg) (by rw [HU.out]; rfl)
        clear hM hO
        by_cases hlt : r < no
        ·have hol : r < (ordO C.gates).length := by rw [HNo.out]; exact hlt
         obtain ⟨t, ht⟩ : ∃ t, gno (ordO C.gates) r = t := ⟨_, rfl⟩
         have htn := turn_ok HG.out hol
         rw [ht] at htn
         obtain ⟨htg, hdA, hdB⟩ := htn
         have hinv := netG_inv HG.out r (by omega)
         have rA := HG.out.rng.use _ (gate_useA htg)
         have rB := HG.out.rng.use _ (gate_useB htg)
         have rO := HG.out.rng.own _ (gate_own htg)
         rw [HMi.out] at rA rB rO
         have hmx := HG.out.mx
         rw [HMi.out] at hmx
         have hmk : MX C = k := by omega
         rw [hmk] at hinv
         have hLn := netG_len C r (by omega)
         rw [HNi.out, HNl.out] at hLn
         have hS := netG_succ hol
         rw [ht] at hS
         have HSZ := Lib.hid (hinv.size)
         have hno9 : (nv (ordO C.gates))[r]? = some (.int .i64 (t : Int)) := by
          have h1 := nv_at hol
          have h2 : gn (ordO C.gates) r = t := ht
          rw [h2] at h1; exact h1
         obtain ⟨a9', c9', ev9, -, -, -, hrow9⟩ := HO.out.form
         simp only [Value.slice.injEq] at ev9
         obtain ⟨rfl, -, rfl⟩ := ev9
         obtain ⟨bo, offo, ea9, eo⟩ := hrow9 r _ hno9
         obtain ⟨b, off, ea, hE⟩ := HA.out.gateCell htg
         have hAx := ofL_ok hinv rA.1 (by omega) hdA
         have hBx := ofL_ok hinv rB.1 (by omega) hdB
         have hvA := hinv.val ((g3 C.gates t).2.1 / 2).toNat (by omega)
         have hvB := hinv.val ((g3 C.gates t).2.2 / 2).toNat (by omega)
         obtain ⟨x0, hx0⟩ : ∃ x, (g3 C.gates t).1 = x := ⟨_, rfl⟩
         obtain ⟨x1, hx1⟩ : ∃ x, (g3 C.gates t).2.1 = x := ⟨_, rfl⟩
         obtain ⟨x2, hx2⟩ : ∃ x, (g3 C.gates t).2.2 = x := ⟨_, rfl⟩
         rw [hx0] at rO hE
         rw [hx1] at rA hE hAx hvA
         rw [hx2] at rB hE hBx hvB
         have HS := Lib.hid (show netG C (r + 1) = putN (netG C r) x0 (ofN (netG C r).2 x1, ofN (netG C r).2 x2) by rw [hS]; unfold gateN; rw [hx0, hx1, hx2])
         have HA1 := Lib.hid (show 0 ≤ x1 ∧ (x1 / 2).toNat < k + 1 ∧ 0 ≤ gi (netG C r).2 (x1 / 2).toNat ∧ gi (netG C r).2 (x1 / 2).toNat % 2 = 0 ∧ gi (netG C r).2 (x1 / 2).toNat ≤ 1000000000 from ⟨rA.1, by omega, hAx.1, hAx.2.1, by omega⟩)
         have HB1 := Lib.hid (show 0 ≤ x2 ∧ (x2 / 2).toNat < k + 1 ∧ 0 ≤ gi (netG C r).2 (x2 / 2).toNat ∧ gi (netG C r).2 (x2 / 2).toNat % 2 = 0 ∧ gi (netG C r).2 (x2 / 2).toNat ≤ 1000000000 from ⟨rB.1, by omega, hBx.1, hBx.2.1, by omega⟩)
         have HLn := Lib.hid hLn
         obtain ⟨y, hy⟩ : ∃ y : Nat, (x0 / 2).toNat = y := ⟨_, rfl⟩
         have HY := Lib.hid (show (x0 / 2).toNat = y ∧ x0 / 2 = (y : Int) ∧ y < k + 1 ∧ 0 ≤ x0 ∧ x0 ≤ 2 * (k : Int) + 1 from ⟨hy, by omega, by omega, by omega, by omega⟩)
         have HE := Lib.hid hE
         have e0 := (hE _ HM.out.kp).1
         have e1 := (hE _ HM.out.kp).2.1
         have e2 := (hE _ HM.out.kp).2.2
         have t0 : (0 : Int) ≤ (t : Int) := by omega
         have t1 : (t : Int) < (ng : Int) := by have := HNg.out; omega
         have r0 : (0 : Int) ≤ (r : Int) := by omega
         have r1 : (r : Int) < (no : Int) := by omega
         rw [ea] at c6
         have HSz := Lib.hid HSZ.out
         subst ea9
         have HEA := Lib.hid ea
         clear ea hE hrow9 hno9 hS hx0 hx1 hx2 hy hAx hBx hvA hvB rA rB rO hLn hinv hmx hmk hdA hdB htg ht hol
         go_wp2_with fail
         go_cut [11] from 76 to 83 (fun s11 wq' => ∃ gb, s11 = .pointer (some ⟨gb, 0, none⟩) ∧ Blk wq' gb #[.int .i64 x0, .int .i64 x1, .int .i64 x2] 95 ∧ wy.heap.size ≤ gb ∧ Kp (fun _ => False) wy wq')
         case first =>
          have hka := (Kp.refl (fun _ => False) wy).alloc (.cells #[.int .i64 0, .int .i64 0, .int .i64 0] 95)
          have eo' := hka.cellK eo
          have e0' := hka.cellK e0
          have e1' := hka.cellK e1
          have e2' := hka.cellK e2
          have c6' := hka.cellK c6
          have hnb : (wy.alloc (.cells #[.int .i64 0, .int .i64 0, .int .i64 0] 95)).cell? ⟨wy.heap.size, 0, none⟩ = some (.int .i64 0) := (Blk.new wy _ _).cell rfl
          clear hka
          go_region
          all_goals go_wp2_with fail
          all_goals go_meet
          all_goals exact ⟨_, rfl, (Blk.new wy _ _).drew, Nat.le_refl _, ((Kp.refl _ wy).alloc _).drew⟩
         case rest =>
         obtain ⟨gb, rfl, hGb, hgb, hKc⟩ := hcut
         obtain ⟨wv, rfl⟩ : ∃ wp : World, wp = wc := ⟨_, rfl⟩
         have hvlt := HM.out.n.lt
         have HM2 := Lib.hid (HM.out.fr hKc)
         have HO2 := Lib.hid (HO.out.kp hKc (fun _ _ h => h))
         have HGb := Lib.hid hGb
         have HV4 := Lib.hid (show ∀ j, u4.ownBlock = some j → j ≠ gb from fun j hj => by have := hvlt j hj; omega)
         have HG5b := Lib.hid (show g5 ≠ gb by have := HM.out.at2.2.2.1; omega)
         clear hGb hgb hKc hvlt HM HO e0 e1 e2 eo c6
         have HM := HM2
         clear HM2
         go_upto_region 21 with fail
         refine wp_region_loose (p := upTo 11) (V := atV [EqV (u4), EqV ((.slice (some ⟨g5, 0, none⟩) (k + 1) c5)), EqV (.pointer (some ⟨gb, 1, none⟩)), EqV (.int .i64 x1), EqV (.int .i64 (ofN (netG C r).2 x1)), EqV ((.slice (some ⟨g5, 0, none⟩) (k + 1) c5)), EqV (.pointer (some ⟨gb, 2, none⟩)), EqV (.int .i64 x2), EqV (.int .i64 (ofN (netG C r).2 x2)), EqV (.agg #[.int .i64 (ofN (netG C r).2 x1), .int .i64 (ofN (netG C r).2 x2)]), LitC wv.heap.size #[.int .i64 (ofN (netG C r).2 x1), .int .i64 (ofN (netG C r).2 x2)] 1 102]) (LP := #[true, true, true, true, true, true, true, true, true, true, true, false, false]) (K := 2) (by kernel_rfl) (by kernel_rfl) (atV_st ?hstL21) ?hstepL21 (by kernel_rfl) ?hLPL21 (by kernel_rfl) ?hendL21
         case hstL21 =>
          intro W h
          simp only [List.mem_cons, List.not_mem_nil, or_false] at h
          rcases h with rfl | rfl | rfl | rfl | rfl | rfl | rfl | rfl | rfl | rfl | rfl <;> first | exact EqV.st _ | exact LitC.st _ _ _ _
         case hLPL21 => exact upTo_spec (by kernel_rfl)
         case hstepL21 =>
          intro i o ho hp a u hk hoff hdep
          have e4 : a.tmps[4]?.getD undef = u4 := slot_at (hoff 4 (noDst_spec (by kernel_rfl)))
          have e5 : a.tmps[5]?.getD undef = (.slice (some ⟨g5, 0, none⟩) (k + 1) c5) := slot_at (hoff 5 (noDst_spec (by kernel_rfl)))
          have e11 : a.tmps[11]?.getD undef = (.pointer (some ⟨gb, 0, none⟩)) := slot_at (hoff 11 (noDst_spec (by kernel_rfl)))
          clear hoff
          match i, ho with
          |0, ho =>
           obtain rfl := Option.some.inj ho
           refine lw_value (v := u4) (u' := u) ?_ (Kp.refl _ _) rfl
           go_simp
          |1, ho =>
           obtain rfl := Option.some.inj ho
           refine lw_value (v := (.slice (some ⟨g5, 0, none⟩) (k + 1) c5)) (u' := u) ?_ (Kp.refl _ _) rfl
           go_simp
          |2, ho =>
           obtain rfl := Option.some.inj ho
           refine lw_value (v := .pointer (some ⟨gb, 1, none⟩)) (u' := u) ?_ (Kp.refl _ _) rfl
           go_simp
          |3, ho =>
           obtain rfl := Option.some.inj ho
           have e86 : a.tmps[86]?.getD undef = .pointer (some ⟨gb, 1, none⟩) := slot_at (hdep ⟨2, .data⟩ (by simp) rfl _ 86 rfl rfl)
           have c1 := (HGb.out.kp hk (fun h => h)).cell (i := 1) (v := .int .i64 x1) rfl
           refine lw_value (v := .int .i64 x1) (u' := u) ?_ (Kp.refl _ _) rfl
           go_simp
          |4, ho =>
           obtain rfl := Option.some.inj ho
           have e85 : a.tmps[85]?.getD undef = (.slice (some ⟨g5, 0, none⟩) (k + 1) c5) := slot_at (hdep ⟨1, .data⟩ (by simp) rfl _ 85 rfl rfl)
           have e87 : a.tmps[87]?.getD undef = .int .i64 x1 := slot_at (hdep ⟨3, .data⟩ (by simp) rfl _ 87 rfl rfl)
           refine lw_call (f := 65) (args := #[.slice (some ⟨g5, 0, none⟩) (k + 1) c5, .int .i64 x1]) ?_ ?_
           ·go_simp
           ·exact (ref11_lit g5 (k + 1) c5 (netG C r).2 x1 u (by have := HSZ.out; omega) (by omega) (fun j hj => hk.cellK (HM.out.at2.2.2.2.1 j hj)) HA1.out.1 HA1.out.2.1 HA1.out.2.2).mono (by
             rintro e u' ⟨rfl, hK⟩
             exact ⟨_, rfl, hK, rfl⟩)
          |5, ho =>
           obtain rfl := Option.some.inj ho
           refine lw_value (v := (.slice (some ⟨g5, 0, none⟩) (k + 1) c5)) (u' := u) ?_ (Kp.refl _ _) rfl
           go_simp
          |6, ho =>
           obtain rfl := Option.some.inj ho
           refine lw_value (v := .pointer (some ⟨gb, 2, none⟩)) (u' := u) ?_ (Kp.refl _ _) rfl
           go_simp
          |7, ho =>
           obtain rfl := Option.some.inj ho
           have e90 : a.tmps[90]?.getD undef = .pointer (some ⟨gb, 2, none⟩) := slot_at (hdep ⟨6, .data⟩ (by simp) rfl _ 90 rfl rfl)
           have c1 := (HGb.out.kp hk (fun h => h)).cell (i := 2) (v := .int .i64 x2) rfl
           refine lw_value (v := .int .i64 x2) (u' := u) ?_ (Kp.refl _ _) rfl
           go_simp
          |8, ho =>
           obtain rfl := Option.some.inj ho
           have e89 : a.tmps[89]?.getD undef = (.slice (some ⟨g5, 0, none⟩) (k + 1) c5) := slot_at (hdep ⟨5, .data⟩ (by simp) rfl _ 89 rfl rfl)
           have e91 : a.tmps[91]?.getD undef = .int .i64 x2 := slot_at (hdep ⟨7, .data⟩ (by simp) rfl _ 91 rfl rfl)
           refine lw_call (f := 65) (args := #[.slice (some ⟨g5, 0, none⟩) (k + 1) c5, .int .i64 x2]) ?_ ?_
           ·go_simp
           ·exact (ref11_lit g5 (k + 1) c5 (netG C r).2 x2 u (by have := HSZ.out; omega) (by omega) (fun j hj => hk.cellK (HM.out.at2.2.2.2.1 j hj)) HB1.out.1 HB1.out.2.1 HB1.out.2.2).mono (by
             rintro e u' ⟨rfl, hK⟩
             exact ⟨_, rfl, hK, rfl⟩)
          |9, ho =>
           obtain rfl := Option.some.inj ho
           have e88 : a.tmps[88]?.getD undef = .int .i64 (ofN (netG C r).2 x1) := slot_at (hdep ⟨4, .data⟩ (by simp) rfl _ 88 rfl rfl)
           have e92 : a.tmps[92]?.getD undef = .int .i64 (ofN (netG C r).2 x2) := slot_at (hdep ⟨8, .data⟩ (by simp) rfl _ 92 rfl rfl)
           refine lw_value (v := .agg #[.int .i64 (ofN (netG C r).2 x1), .int .i64 (ofN (netG C r).2 x2)]) (u' := u) ?_ (Kp.refl _ _) rfl
           go_simp
          |10, ho =>
           obtain rfl := Option.some.inj ho
           have e93 : a.tmps[93]?.getD undef = .agg #[.int .i64 (ofN (netG C r).2 x1), .int .i64 (ofN (netG C r).2 x2)] := slot_at (hdep ⟨9, .data⟩ (by simp) rfl _ 93 rfl rfl)
           refine lw_value (v := .slice (some ⟨u.heap.size, 0, none⟩) 1 1) (u' := u.alloc (.cells #[.int .i64 (ofN (netG C r).2 x1), .int .i64 (ofN (netG C r).2 x2)] 102)) ?_ ((Kp.refl _ _).alloc _) ⟨_, rfl, Blk.new _ _ _, hk.size⟩
           go_simp
          |n + 11, _ => exact absurd hp (by simp [upTo])
         intro a u hI
         have hsz : a.tmps.size = 106 := hI.size
         have hdf : a.defers = [] := hI.defers
         have f0 := hI.o 0 (by kernel_rfl)
         have f1 := hI.o 1 (by kernel_rfl)
         have f2 := hI.o 2 (by kernel_rfl)
         have f3 := hI.o 3 (by kernel_rfl)
         have f4 := hI.o 4 (by kernel_rfl)
         have f5 := hI.o 5 (by kernel_rfl)
         have f6 := hI.o 6 (by kernel_rfl)
         have f7 := hI.o 7 (by kernel_rfl)
         have f8 := hI.o 8 (by kernel_rfl)
         have f9 := hI.o 9 (by kernel_rfl)
         have f10 := hI.o 10 (by kernel_rfl)
         have f11 := hI.o 11 (by kernel_rfl)
         have f12 := hI.o 12 (by kernel_rfl)
         have f13 := hI.o 13 (by kernel_rfl)
         have f14 := hI.o 14 (by kernel_rfl)
         have f15 := hI.o 15 (by kernel_rfl)
         have f16 := hI.o 16 (by kernel_rfl)
         have f17 := hI.o 17 (by kernel_rfl)
         have f18 := hI.o 18 (by kernel_rfl)
         have f19 := hI.o 19 (by kernel_rfl)
         have f20 := hI.o 20 (by kernel_rfl)
         have f21 := hI.o 21 (by kernel_rfl)
         have f22 := hI.o 22 (by kernel_rfl)
         have f23 := hI.o 23 (by kernel_rfl)
         have f24 := hI.o 24 (by kernel_rfl)
         have f25 := hI.o 25 (by kernel_rfl)
         have f26 := hI.o 26 (by kernel_rfl)
         have f27 := hI.o 27 (by kernel_rfl)
         have f28 := hI.o 28 (by kernel_rfl)
         have f29 := hI.o 29 (by kernel_rfl)
         have f30 := hI.o 30 (by kernel_rfl)
         have f31 := hI.o 31 (by kernel_rfl)
         have f32 := hI.o 32 (by kernel_rfl)
         have f33 := hI.o 33 (by kernel_rfl)
         have f34 := hI.o 34 (by kernel_rfl)
         have f35 := hI.o 35 (by kernel_rfl)
         have f36 := hI.o 36 (by kernel_rfl)
         have f37 := hI.o 37 (by kernel_rfl)
         have f38 := hI.o 38 (by kernel_rfl)
         have f39 := hI.o 39 (by kernel_rfl)
         have f40 := hI.o 40 (by kernel_rfl)
         have f41 := hI.o 41 (by kernel_rfl)
         have f42 := hI.o 42 (by kernel_rfl)
         have f43 := hI.o 43 (by kernel_rfl)
         have f44 := hI.o 44 (by kernel_rfl)
         have f45 := hI.o 45 (by kernel_rfl)
         have f46 := hI.o 46 (by kernel_rfl)
         have f47 := hI.o 47 (by kernel_rfl)
         have f48 := hI.o 48 (by kernel_rfl)
         have f49 := hI.o 49 (by kernel_rfl)
         have f50 := hI.o 50 (by kernel_rfl)
         have f51 := hI.o 51 (by kernel_rfl)
         have f52 := hI.o 52 (by kernel_rfl)
         have f53 := hI.o 53 (by kernel_rfl)
         have f54 := hI.o 54 (by kernel_rfl)
         have f55 := hI.o 55 (by kernel_rfl)
         have f56 := hI.o 56 (by kernel_rfl)
         have f57 := hI.o 57 (by kernel_rfl)
         have f58 := hI.o 58 (by kernel_rfl)
         have f59 := hI.o 59 (by kernel_rfl)
         have f60 := hI.o 60 (by kernel_rfl)
         have f61 := hI.o 61 (by kernel_rfl)
         have f62 := hI.o 62 (by kernel_rfl)
         have f63 := hI.o 63 (by kernel_rfl)
         have f64 := hI.o 64 (by kernel_rfl)
         have f65 := hI.o 65 (by kernel_rfl)
         have f66 := hI.o 66 (by kernel_rfl)
         have f67 := hI.o 67 (by kernel_rfl)
         have f68 := hI.o 68 (by kernel_rfl)
         have f69 := hI.o 69 (by kernel_rfl)
         have f70 := hI.o 70 (by kernel_rfl)
         have f71 := hI.o 71 (by kernel_rfl)
         have f72 := hI.o 72 (by kernel_rfl)
         have f73 := hI.o 73 (by kernel_rfl)
         have f74 := hI.o 74 (by kernel_rfl)
         have f75 := hI.o 75 (by kernel_rfl)
         have f76 := hI.o 76 (by kernel_rfl)
         have f77 := hI.o 77 (by kernel_rfl)
         have f78 := hI.o 78 (by kernel_rfl)
         have f79 := hI.o 79 (by kernel_rfl)
         have f80 := hI.o 80 (by kernel_rfl)
         have f81 := hI.o 81 (by kernel_rfl)
         have f82 := hI.o 82 (by kernel_rfl)
         have f83 := hI.o 83 (by kernel_rfl)
         have f95 := hI.o 95 (by kernel_rfl)
         have f96 := hI.o 96 (by kernel_rfl)
         have f97 := hI.o 97 (by kernel_rfl)
         have f98 := hI.o 98 (by kernel_rfl)
         have f99 := hI.o 99 (by kernel_rfl)
         have f100 := hI.o 100 (by kernel_rfl)
         have f101 := hI.o 101 (by kernel_rfl)
         have f102 := hI.o 102 (by kernel_rfl)
         have f103 := hI.o 103 (by kernel_rfl)
         have f104 := hI.o 104 (by kernel_rfl)
         have f105 := hI.o 105 (by kernel_rfl)
         have f84 : a.tmps.getD 84 undef = u4 := hI.val 0 _ 84 rfl rfl rfl
         have f85 : a.tmps.getD 85 undef = (.slice (some ⟨g5, 0, none⟩) (k + 1) c5) := hI.val 1 _ 85 rfl rfl rfl
         have f86 : a.tmps.getD 86 undef = .pointer (some ⟨gb, 1, none⟩) := hI.val 2 _ 86 rfl rfl rfl
         have f87 : a.tmps.getD 87 undef = .int .i64 x1 := hI.val 3 _ 87 rfl rfl rfl
         have f88 : a.tmps.getD 88 undef = .int .i64 (ofN (netG C r).2 x1) := hI.val 4 _ 88 rfl rfl rfl
         have f89 : a.tmps.getD 89 undef = (.slice (some ⟨g5, 0, none⟩) (k + 1) c5) := hI.val 5 _ 89 rfl rfl rfl
         have f90 : a.tmps.getD 90 undef = .pointer (some ⟨gb, 2, none⟩) := hI.val 6 _ 90 rfl rfl rfl
         have f91 : a.tmps.getD 91 undef = .int .i64 x2 := hI.val 7 _ 91 rfl rfl rfl
         have f92 : a.tmps.getD 92 undef = .int .i64 (ofN (netG C r).2 x2) := hI.val 8 _ 92 rfl rfl rfl
         have f93 : a.tmps.getD 93 undef = .agg #[.int .i64 (ofN (netG C r).2 x1), .int .i64 (ofN (netG C r).2 x2)] := hI.val 9 _ 93 rfl rfl rfl
         have g94 : (LitC wv.heap.size #[.int .i64 (ofN (netG C r).2 x1), .int .i64 (ofN (netG C r).2 x2)] 1 102) u (a.tmps.getD 94 undef) := hI.val 10 _ 94 rfl rfl rfl
         have ha := act_list106 a hsz
         rw [hdf, f0, f1, f2, f3, f4, f5, f6, f7, f8, f9, f10, f11, f12, f13, f14, f15, f16, f17, f18, f19, f20, f21, f22, f23, f24, f25, f26, f27, f28, f29, f30, f31, f32, f33, f34, f35, f36, f37, f38, f39, f40, f41, f42, f43, f44, f45, f46, f47, f48, f49, f50, f51, f52, f53, f54, f55, f56, f57, f58, f59, f60, f61, f62, f63, f64, f65, f66, f67, f68, f69, f70, f71, f72, f73, f74, f75, f76, f77, f78, f79, f80, f81, f82, f83, f84, f85, f86, f87, f88, f89, f90, f91, f92, f93, f95, f96, f97, f98, f99, f100, f101, f102, f103, f104, f105] at ha
         obtain ⟨x94, hx94⟩ : ∃ x, a.tmps.getD 94 undef = x := ⟨_, rfl⟩
         rw [hx94] at ha
         rw [hx94] at g94
         have hku := hI.kp
         clear hI hsz hdf f0 f1 f2 f3 f4 f5 f6 f7 f8 f9 f10 f11 f12 f13 f14 f15 f16 f17 f18 f19 f20 f21 f22 f23 f24 f25 f26 f27 f28 f29 f30 f31 f32 f33 f34 f35 f36 f37 f38 f39 f40 f41 f42 f43 f44 f45 f46 f47 f48 f49 f50 f51 f52 f53 f54 f55 f56 f57 f58 f59 f60 f61 f62 f63 f64 f65 f66 f67 f68 f69 f70 f71 f72 f73 f74 f75 f76 f77 f78 f79 f80 f81 f82 f83 f84 f85 f86 f87 f88 f89 f90 f91 f92 f93 f95 f96 f97 f98 f99 f100 f101 f102 f103 f104 f105 hx94
         subst ha
         refine wpAny_tail 11 rfl (by kernel_rfl) ?_
         simp only [List.drop_succ_cons, List.drop_zero]
         have HMu := Lib.hid (HM.out.fr hku)
         have HOu := Lib.hid (HO2.out.kp hku (fun _ _ h => h))
         have HGu := Lib.hid (HGb.out.kp hku (fun h => h))
         clear hku
         obtain ⟨gn_, rfl, hBn, -⟩ := g94
         have HNew := Lib.hid hBn
         clear hBn
         have HOw := Lib.hid HMu.out.n
         go_wp2_with (at_builtin; refine wpList_appendK rfl _ _ 77 102 rfl Tryz.underlying77 HIn.out rfl (by decide) HOw.out rfl gn_ (pr2 (ofN (netG C r).2 x1, ofN (netG C r).2 x2)) rfl rfl ?n0 (pr2_one _) ?n1 ?n2 ?n3 ?_)
         case n0 => intro j u hj; exact HNew.out.cell (by simpa [pr2] using hj)
         case n1 => rw [List.length_map, HLn.out]; omega
         case n2 => rw [List.length_map, HLn.out]; unfold maxLen; omega
         case n3 => have := HMu.out.circ.lt; omega
         intro v' w2 hO2 hg2 hat2
         have hM2 := HMu.out.push (x := (ofN (netG C r).2 x1, ofN (netG C r).2 x2)) (Kp.refl _ u) hO2 hg2
         have HO3 := Lib.hid (HMu.out.ord_push HOu.out (Kp.refl _ u) hg2)
         have hGb2 : Blk w2 gb #[.int .i64 x0, .int .i64 x1, .int .i64 x2] 95 := HGu.out.kp ((Kp.refl (fun j => u4.ownBlock = some j) _).grown hg2 (fun j hj _ => hj)) (fun e => HV4.out _ e rfl)
         have b0 := hGb2.cell (i := 0) (v := .int .i64 x0) rfl
         obtain ⟨a4, c4, e4, l4, m4, -⟩ := hM2.n.form
         have hlen : (((netG C r).1 ++ [(ofN (netG C r).2 x1, ofN (netG C r).2 x2)]).map pr2).length = q + p + r + 1 := by rw [List.length_map, List.length_append, HLn.out]; rfl
         rw [hlen] at e4 l4
         subst e4
         obtain ⟨-, -, -, -, hfr, hset⟩ := hM2.at2
         have hfy := hfr y
         have HM3 := Lib.hid (hset y (2 * (((q + p + r + 1 : Nat)) : Int)))
         have HO4 := Lib.hid (HO3.out.set_other (p := ⟨g5, y, none⟩) (fun j hj e => by
          have h1 := (HO3.out.lt j hj).1
          have h2 := HG5.out
          have h3 : j = g5 := e
          omega) (.int .i64 (2 * (((q + p + r + 1 : Nat)) : Int))))
         have y0 : (0 : Int) ≤ (y : Int) := by omega
         have y1 : (y : Int) < ((k + 1 : Nat) : Int) := by have := HY.out.2.2.1; omega
         have hd := HY.out.2.1
         have hX := HY.out.2.2.2.1
         have hX2 := HY.out.2.2.2.2
         have HC5 := Lib.hid (hM2.at2.2.2.2.1 y (by have := HY.out.2.2.1; omega))
         have cy := HC5.out
         clear hM2 hO2 hg2 hat2 hfr hset HNew HOw hlen hGb2
         go_wp2_with fail
         go_roundw
         case rel => exact ⟨r + 1, by go_num, by omega, by
          have := HM3.out
          rw [HS.out]
          unfold putN
          rw [HY.out.1, HLn.out]
          exact this, HO4.out⟩
         case measure => simp [intOf]; omega
        ·obtain rfl : r = no := by omega
         have HE := Lib.hid (show OwnK wy w.heap.size 102 2 u4 ((netOf C).1.map pr2) ∧ Own wy w.heap.size 3 (.slice (some ⟨g5, 0, none⟩) (k + 1) c5) (iv (netOf C).2) ∧ Kp (fun _ => False) w wy from by
          have h1 := HM.out
          rw [← HNo.out] at h1
          exact ⟨h1.n.mono (by omega), h1.a.mono (by omega), h1.kp⟩)
         go_wp2_with fail
         go_ret2
         exact ⟨_, _, rfl, HE.out⟩

end Go.Proofs.YtnoknecfdnjomaaGreat
