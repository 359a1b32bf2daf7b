/-
  The law of loose regions, with guards.
-/
import Derived.Test.YtnoknecfdnjomaaM2
import Derived.Test.YtnoknecfdnjomaaM3
import Derived.Test.YtnoknecfdnjomaaM1
import Derived.Shelf.Small.Bits
import Derived.Shelf.Small.Wraps
import Derived.Shelf.Strconv.Itoa0
import Derived.Shelf.Sort.Plain
import Derived.Ground.Names2Prog
import Derived.Shelf.Slices.Clone
import Derived.Shelf.Slices.SearchI
import Derived.Shelf.Slices.In.SortNone
import Derived.Ground.SlgnProg
import Derived.Shelf.SlicesE.Clone
import Derived.Test.YtnoknecfdnjomaaProg
import Derived.Shelf.SlIterI.Nil
import Derived.Ground.GgzProg
import Derived.Maps.RangeWalk
set_option linter.unusedVariables false
set_option linter.unusedSimpArgs false
namespace Go.Proofs.Ytnoknecfdnjomaa
open Go Go.RowKit

/-- how the operations hang together: those of p come first -/
structure LooseGOK (ops : Array Oper) (p : Nat → Bool) (N : Nat) : Prop where
  low : ∀ (i : Nat) (o : Oper), ops[i]? = some o → p i = true → ∀ e ∈ o.after, Region.binds .any e = true → e.on < i ∧ p e.on = true
  dst : ∀ (i : Nat) (o : Oper), ops[i]? = some o → p i = true → ∃ d, o.dst = some d ∧ d < N
  inj : ∀ (i j : Nat) (o o' : Oper), ops[i]? = some o → ops[j]? = some o' → p i = true → p j = true → o.dst = o'.dst → i = j
  bar : ∀ (i : Nat) (o : Oper), ops[i]? = some o → p i = false → ∀ j, j < ops.size → p j = true → j ∈ clo ops 6 (edgesOf ops i)

def looseGB (ops : Array Oper) (p : Nat → Bool) (N : Nat) : Bool :=
  (List.range ops.size).all fun i => match ops[i]? with
    | none => true
    | some o => (if p i then
        o.after.all (fun e => !Region.binds .any e || (decide (e.on < i) && p e.on)) &&
          (match o.dst with
            | none => false
            | some d => decide (d < N) && (List.range ops.size).all (fun j => !p j || decide (j = i) || (match ops[j]? with | none => true | some o' => decide (o'.dst ≠ some d))))
      else (List.range ops.size).all (fun j => !p j || (clo ops 6 (edgesOf ops i)).contains j))

theorem looseGB_spec {ops : Array Oper} {p : Nat → Bool} {N : Nat} (h : looseGB ops p N = true) : LooseGOK ops p N := by
  unfold looseGB at h
  rw [List.all_eq_true] at h
  have get : ∀ (i : Nat) (o : Oper), ops[i]? = some o → (if p i then
        o.after.all (fun e => !Region.binds .any e || (decide (e.on < i) && p e.on)) &&
          (match o.dst with
            | none => false
            | some d => decide (d < N) && (List.range ops.size).all (fun j => !p j || decide (j = i) || (match ops[j]? with | none => true | some o' => decide (o'.dst ≠ some d))))
      else (List.range ops.size).all (fun j => !p j || (clo ops 6 (edgesOf ops i)).contains j)) = true := fun i o ho => by
    have hi : i < ops.size := (Array.getElem?_eq_some_iff.1 ho).1
    have := h i (List.mem_range.2 hi)
    simp only [ho] at this
    exact this
  refine ⟨fun i o ho hp e he hb => ?_, fun i o ho hp => ?_, fun i j o o' ho ho' hp hp' hd => ?_, fun i o ho hp j hj hpj => ?_⟩
  · have := (get i o ho)
    rw [if_pos hp, Bool.and_eq_true] at this
    have h1 := this.1
    rw [Array.all_eq_true_iff_forall_mem] at h1
    have h2 := h1 e he
    rw [hb] at h2
    simpa using h2
  · have := (get i o ho)
    rw [if_pos hp, Bool.and_eq_true] at this
    have h1 := this.2
    cases hd : o.dst with
    | none => rw [hd] at h1; cases h1
    | some d =>
      rw [hd] at h1
      simp only [Bool.and_eq_true, decide_eq_true_eq] at h1
      exact ⟨d, rfl, h1.1⟩
  · have := (get i o ho)
    rw [if_pos hp, Bool.and_eq_true] at this
    have h1 := this.2
    cases hdd : o.dst with
    | none => rw [hdd] at h1; cases h1
    | some d =>
      rw [hdd] at h1
      simp only [Bool.and_eq_true] at h1
      have h2 := h1.2
      rw [List.all_eq_true] at h2
      have h3 := h2 j (List.mem_range.2 (Array.getElem?_eq_some_iff.1 ho').1)
      rw [hp', ho'] at h3
      simp only [Bool.not_true, Bool.false_or, Bool.or_eq_true, decide_eq_true_eq] at h3
      rcases h3 with h3 | h3
      · exact h3.symm
      · exact absurd (hd.symm.trans hdd) h3
  · have := (get i o ho)
    rw [if_neg (by simp [hp]), List.all_eq_true] at this
    have h1 := this j (List.mem_range.2 hj)
    rw [hpj, Bool.not_true, Bool.false_or] at h1
    simpa using h1

/-- an operation that is done, or is passed by -/
def LG (P : Program) (ops : Array Oper) (Q : Exit → Act → World → Prop) (V : Nat → World → Value → Prop) (i : Nat) (o : Oper) (a : Act) (u : World) : Prop :=
  (Region.wanted o (yielded ops a.tmps) = true ∧ o.wp P a u (fun a' u' => ∃ v, a' = a.put o.dst v ∧ Kp (fun _ => False) u u' ∧ V i u' v) Q) ∨ (Region.wanted o (yielded ops a.tmps) = false ∧ V i u undef)

theorem lg_none {P : Program} {ops : Array Oper} {Q : Exit → Act → World → Prop} {V : Nat → World → Value → Prop} {i : Nat} {o : Oper} {a : Act} {u : World} (hg : o.guard = none) (h : o.wp P a u (fun a' u' => ∃ v, a' = a.put o.dst v ∧ Kp (fun _ => False) u u' ∧ V i u' v) Q) : LG P ops Q V i o a u :=
  .inl ⟨by unfold Region.wanted; rw [hg], h⟩

theorem yielded_at {ops : Array Oper} {g x : Nat} {b : Bool} {a : Act} (hd : (ops[g]?).bind (·.dst) = some x) (h : a.tmps[x]?.getD undef = .bool b) : yielded ops a.tmps g = some b := by
  unfold yielded
  rw [hd]
  simp only [Option.bind_some]
  cases hx : a.tmps[x]? with
  | none => rw [hx] at h; cases h
  | some v => rw [hx] at h; simp only [Option.getD_some] at h; subst h; rfl

theorem lg_on {P : Program} {ops : Array Oper} {Q : Exit → Act → World → Prop} {V : Nat → World → Value → Prop} {i : Nat} {o : Oper} {a : Act} {u : World} {g x : Nat} {b : Bool} (hg : o.guard = some (g, b)) (hd : (ops[g]?).bind (·.dst) = some x) (hx : a.tmps[x]?.getD undef = .bool b)
    (h : o.wp P a u (fun a' u' => ∃ v, a' = a.put o.dst v ∧ Kp (fun _ => False) u u' ∧ V i u' v) Q) : LG P ops Q V i o a u :=
  .inl ⟨by unfold Region.wanted; rw [hg]; simp only [yielded_at hd hx]; exact beq_self_eq_true _, h⟩

theorem wpAny_looseG {P : Program} {ops : Array Oper} {Q : Exit → Act → World → Prop} {p : Nat → Bool} {V : Nat → World → Value → Prop} {w0 : World} {a0 : Act} {LP : Array Bool} (L : LooseGOK ops p a0.tmps.size)
    (stable : ∀ i u u' v, Kp (fun _ => False) u u' → V i u v → V i u' v)
    (hstep : ∀ (i : Nat) (o : Oper), ops[i]? = some o → p i = true → ∀ a u, Kp (fun _ => False) w0 u →
      (∀ s, (∀ (j : Nat) (oj : Oper), ops[j]? = some oj → p j = true → oj.dst ≠ some s) → a.tmps.getD s undef = a0.tmps.getD s undef) →
      (∀ e ∈ o.after, Region.binds .any e = true → ∀ (oj : Oper) (d : Nat), ops[e.on]? = some oj → oj.dst = some d → V e.on u (a.tmps.getD d undef)) →
      LG P ops Q V i o a u)
    (hLs : LP.size = ops.size) (hLP : ∀ i, i < ops.size → LP.getD i false = p i)
    (hend : ∀ a u, LInv ops V w0 a0 (fun i => p i = true) a u → wpAny P .any ops Q (cntU ops.size LP) LP a u) :
    ∀ (fuel : Nat) (listed : Array Bool) (a : Act) (u : World), listed.size = ops.size → fuel = cntU ops.size listed → (∀ i, i < ops.size → listed.getD i false = true → p i = true) → (∀ j, listed.getD j false = true → ∀ k, k ∈ edgesOf ops j → listed.getD k false = true) →
      LInv ops V w0 a0 (fun i => listed.getD i false = true) a u → wpAny P .any ops Q fuel listed a u := by
  intro fuel
  induction fuel with
  | zero =>
    intro listed a u hs hf hl hcl hI
    have hall : ∀ i, i < ops.size → listed.getD i false = true := fun i hi => by
      by_cases h : listed.getD i false = true
      · exact h
      · have := cntU_set (listed := listed) (by omega) (by simpa using h) ops.size hi
        omega
    have e : listed = LP := listed_ext (by omega) (fun i hi => by
      rw [hall i (by omega), hLP i (by omega)]
      exact (hl i (by omega) (hall i (by omega))).symm)
    subst e
    have := hend a u ⟨hI.kp, fun i o d ho _ hd => hI.val i o d ho (hall i (Array.getElem?_eq_some_iff.1 ho).1) hd, fun s hs' => hI.off s (fun i o ho hi => hs' i o ho (hl i (Array.getElem?_eq_some_iff.1 ho).1 hi)), hI.size, hI.defers⟩
    rwa [← hf] at this
  | succ fuel ih =>
    intro listed a u hs hf hl hcl hI
    by_cases hall : ∀ i, i < ops.size → p i = true → listed.getD i false = true
    · have e : listed = LP := listed_ext (by omega) (fun i hi => by
        rw [hLP i (by omega)]
        by_cases h : p i = true
        · rw [h, hall i (by omega) h]
        · by_cases h2 : listed.getD i false = true
          · exact absurd (hl i (by omega) h2) h
          · have h3 : p i = false := by simpa using h
            have h4 : listed.getD i false = false := by simpa using h2
            rw [h3, h4])
      subst e
      have := hend a u ⟨hI.kp, fun i o d ho hp hd => hI.val i o d ho (hall i (Array.getElem?_eq_some_iff.1 ho).1 hp) hd, fun s hs' => hI.off s (fun i o ho hi => hs' i o ho (hl i (Array.getElem?_eq_some_iff.1 ho).1 hi)), hI.size, hI.defers⟩
      rwa [← hf] at this
    · obtain ⟨i0, ⟨hi0, hp0, hu0⟩, hmin⟩ := least_of (R := fun i => i < ops.size ∧ p i = true ∧ listed.getD i false = false) (by
        refine Classical.byContradiction fun hno => hall fun i hi hp => ?_
        by_cases h : listed.getD i false = true
        · exact h
        · exact absurd ⟨i, hi, hp, by simpa using h⟩ hno)
      have hready : i0 ∈ Region.ready .any ops listed := by
        rw [mem_ready]
        refine ⟨by rw [getD_true_false (by omega)]; exact hu0, ops[i0], Array.getElem?_eq_getElem hi0, fun e he hb => ?_⟩
        obtain ⟨h1, h2⟩ := L.low i0 _ (Array.getElem?_eq_getElem hi0) hp0 e he hb
        by_cases h : listed.getD e.on false = true
        · exact h
        · exact absurd ⟨by omega, h2, by simpa using h⟩ (hmin e.on h1)
      refine ⟨fun h => (by rw [h] at hready; cases hready), fun i hi => ?_⟩
      obtain ⟨h1, o, ho, hedge⟩ := mem_ready.1 hi
      have hisz : i < ops.size := (Array.getElem?_eq_some_iff.1 ho).1
      rw [getD_true_false (by omega)] at h1
      have hpi : p i = true := by
        by_cases h : p i = true
        · exact h
        · have h3 := clo_listed (listed := fun j => listed.getD j false = true) hcl 6 (edgesOf ops i) (fun k hk => by
            obtain ⟨e, he, hb, hon⟩ := (mem_edgesOf ho).1 hk
            have := hedge e he hb
            rwa [hon] at this) i0 (L.bar i o ho (by simpa using h) i0 hi0 hp0)
          rw [hu0] at h3
          cases h3
      obtain ⟨d, hd, hdN⟩ := L.dst i o ho hpi
      have hgo : ∀ a' u', (∃ v, a' = a.put o.dst v ∧ Kp (fun _ => False) u u' ∧ V i u' v) → wpAny P .any ops Q fuel (listed.setIfInBounds i true) a' u' := by
        rintro a' u' ⟨v, rfl, hK, hV⟩
        have hset : ∀ j, (listed.setIfInBounds i true).getD j false = true ↔ j = i ∨ listed.getD j false = true := fun j => by
          simp only [Array.getD_eq_getD_getElem?, Array.getElem?_setIfInBounds]
          by_cases e : i = j
          · subst e; simp [show i < listed.size by omega]
          · rw [if_neg e]
            exact ⟨.inr, fun h => h.resolve_left (fun h => e h.symm)⟩
        refine ih _ _ _ (by simp [hs]) ?_ (fun j hj hlj => ?_) (fun j hj k hk => ?_) ⟨hI.kp.trans hK (fun _ _ h => h), fun j oj dj hoj hj hdj => ?_, fun s hs' => ?_, by rw [put_size]; exact hI.size, by rw [put_defers]; exact hI.defers⟩
        · have := cntU_set (listed := listed) (by omega) h1 ops.size hisz
          omega
        · rcases (hset j).1 hlj with e | e
          · rw [e]; exact hpi
          · exact hl j hj e
        · rcases (hset j).1 hj with e | e
          · subst e
            obtain ⟨e, he, hb, hon⟩ := (mem_edgesOf ho).1 hk
            refine (hset k).2 (.inr ?_)
            rw [← hon]
            exact hedge e he hb
          · exact (hset k).2 (.inr (hcl j e k hk))
        · rcases (hset j).1 hj with e | e
          · subst e
            have : oj = o := by rw [hoj] at ho; exact Option.some.inj ho
            subst this
            rw [hdj] at hd
            have : dj = d := Option.some.inj hd
            subst this
            rw [hdj, put_getD_same (by rw [hI.size]; exact hdN)]
            exact hV
          · by_cases eji : j = i
            · subst eji
              rw [h1] at e; cases e
            · rw [put_getD_ne (fun h => eji (L.inj j i oj o hoj ho (hl j (Array.getElem?_eq_some_iff.1 hoj).1 e) hpi (by rw [hdj, h])))]
              exact stable j u u' _ hK (hI.val j oj dj hoj e hdj)
        · rw [put_getD_ne (hs' i o ho ((hset i).2 (.inl rfl)))]
          exact hI.off s (fun j oj hoj hj => hs' j oj hoj ((hset j).2 (.inr hj)))
      have hst := hstep i o ho hpi a u hI.kp (fun s hs' => hI.off s (fun j oj hoj hj => hs' j oj hoj (hl j (Array.getElem?_eq_some_iff.1 hoj).1 hj))) (fun e he hb oj d' hoj hd' => hI.val e.on oj d' hoj (hedge e he hb) hd')
      unfold wpOp
      rw [ho]
      simp only
      rcases hst with ⟨hw, hst⟩ | ⟨hw, hst⟩
      · rw [if_pos hw]
        exact .inl (Oper.wp_mono hgo hst)
      · rw [if_neg (by rw [hw]; exact Bool.false_ne_true)]
        exact hgo _ _ ⟨undef, rfl, Kp.refl _ _, hst⟩

/-- the region, whose last ones (not of p) stay to be walked -/
theorem wp_region_looseG {P : Program} {id : Nat} {ops : Array Oper} {Q : Exit → Act → World → Prop} {p : Nat → Bool} {V : Nat → World → Value → Prop} {w : World} {a0 : Act} {LP : Array Bool} {K : Nat} (hm : P.follows .mixedOrders = true) (hB : looseGB ops p a0.tmps.size = true)
    (stable : ∀ i u u' v, Kp (fun _ => False) u u' → V i u v → V i u' v)
    (hstep : ∀ (i : Nat) (o : Oper), ops[i]? = some o → p i = true → ∀ a u, Kp (fun _ => False) w u →
      (∀ s, (∀ (j : Nat) (oj : Oper), ops[j]? = some oj → p j = true → oj.dst ≠ some s) → a.tmps.getD s undef = a0.tmps.getD s undef) →
      (∀ e ∈ o.after, Region.binds .any e = true → ∀ (oj : Oper) (d : Nat), ops[e.on]? = some oj → oj.dst = some d → V e.on u (a.tmps.getD d undef)) →
      LG P ops Q V i o a u)
    (hLs : LP.size = ops.size) (hLP : ∀ i, i < ops.size → LP.getD i false = p i) (hK : cntU ops.size LP = K)
    (hend : ∀ a u, LInv ops V w a0 (fun i => p i = true) a u → wpAny P .any ops Q K LP a u) : (Code.region id ops true).wp P Q a0 w := by
  refine wp_region_any hm ?_
  refine wpAny_looseG (looseGB_spec hB) stable hstep hLs hLP (fun a u h => by rw [hK]; exact hend a u h) ops.size _ a0 _ (by simp) ?_ (fun i hi h => ?_) (fun i h => ?_) ⟨(Kp.refl (fun _ => False) w).drew, fun i o d ho h => ?_, fun _ _ => rfl, rfl, rfl⟩
  · have : ∀ n, cntU n (Array.replicate ops.size false) = n := fun n => by
      induction n with
      | zero => rfl
      | succ n ih => rw [cntU_succ, ih]; simp [unl, Array.getD_eq_getD_getElem?, Array.getElem?_replicate]; split <;> simp
    rw [this]
  · simp [Array.getD_eq_getD_getElem?, Array.getElem?_replicate] at h
    split at h <;> simp at h
  · simp [Array.getD_eq_getD_getElem?, Array.getElem?_replicate] at h
    split at h <;> simp at h
  · simp [Array.getD_eq_getD_getElem?, Array.getElem?_replicate] at h
    split at h <;> simp at h

end Go.Proofs.Ytnoknecfdnjomaa

/-
  step.Machine: Bad, Holds.
-/
namespace Go.Proofs.Ytnoknecfdnjomaa
open Go.RowKit

set_option maxRecDepth 100000 in
set_option maxHeartbeats 4000000 in
theorem step_Bad (V : CV) (C : Circ) (p : Nat) (a4 a5 : Option Addr) (c4 c5 : Nat) (sa : Option Addr) (sn sc : Nat) (ia : Option Addr) (in_ ic : Nat) (st ip : List Bool) (pr : Int) (w : World) (hM : MAt w 72 V C p a4 c4 a5 c5) (hf : CFew C 1000000) (hg : GoodC C) (hs : BS w sa sn st) (hi : BS w ia in_ ip) :
    Calls Try.prog 40 #[.pointer (some ⟨p, 0, none⟩), .slice sa sn sc, .slice ia in_ ic, .int .i64 pr] w fun e w' => e = .returned (.bool (badM C st ip pr)) ∧ Kp (fun _ => False) w w' := by
  have HIn := Lib.hid (fun u (hu : Kp (fun _ => False) w u) => step_in V C p a4 a5 c4 c5 sa sn sc ia in_ ic st ip u (hM.kp hu) hf hg (hs.kp hu) (hi.kp hu))
  have HL := Lib.hid (fun u (hu : Kp (fun _ => False) w u) va vc (hv : RowAt u va (bv (valsM C st ip))) => step_lit (vc := vc) (c5 := c5) hf hg (hM.ats.kp hu (fun _ _ h => h)) hv u (Kp.refl _ _))
  obtain ⟨nb, hnb⟩ : ∃ n, C.bads.length = n := ⟨_, rfl⟩
  have hnb1 : nb ≤ 1000000 := by have := hf.b; omega
  have hB : w.cell? ⟨p, 4, none⟩ = some (.slice V.ab nb V.cb) := hM.blk.cell (i := 4) (by rw [← hnb]; rfl)
  have HM := Lib.hid hM
  have HNb := Lib.hid hnb
  obtain ⟨r, hr⟩ : ∃ r, badM C st ip pr = r := ⟨_, rfl⟩
  rw [hr]
  unfold badM at hr
  rw [hnb] at hr
  clear hM hf hg hs hi hnb
  by_cases h0 : 0 ≤ pr
  · by_cases h1 : pr < (nb : Int)
    · obtain ⟨k, rfl⟩ : ∃ k : Nat, pr = (k : Int) := ⟨pr.toNat, by omega⟩
      have hkl : k < C.bads.length := by rw [HNb.out]; omega
      obtain ⟨b, off, ea, e0⟩ := HM.out.circ.b.get hkl
      have hc := fun u hu va vc hv => HL.out u hu va vc hv _ (bad_used hkl)
      obtain ⟨x, hx⟩ : ∃ x, gi C.bads k = x := ⟨_, rfl⟩
      rw [decide_eq_true (⟨h0, h1⟩ : 0 ≤ (k : Int) ∧ (k : Int) < (nb : Int)), Bool.true_and, Int.toNat_natCast, hx] at hr
      rw [hx] at e0 hc
      rw [hr] at hc
      have HB : Hid (Blk w p #[.int .i64 C.max, .slice V.ai C.ins.length V.ci, .slice V.al C.lats.length V.cl, .slice V.ao C.outs.length V.co, .slice (some ⟨b, off, none⟩) nb V.cb, .slice V.ac C.cons.length V.cc, .slice V.ag C.gates.length V.cg, .slice V.ay V.ny V.cy, .string V.cm, .slice a4 (netOf C).1.length c4, .slice a5 (netOf C).2.length c5] 72) := Lib.hid (by
        have h := HM.out.blk
        unfold cvals at h
        rw [HNb.out, ea] at h
        exact h)
      have HIs := Lib.hid hc
      have E0 := Lib.hid e0
      clear hr hc hx ea hkl hB HL HM e0
      go_enter Try.func40, Try.ntmps40
      go_upto_region 1 with fail
      refine wp_region_looseG (p := upTo 32) (V := atV [EqV ((.pointer (some ⟨p, 0, none⟩))), EqV (.bool true), EqV (.bool true), EqV ((.int .i64 (k : Int))), EqV (.bool true), EqV (.bool true), EqV (.bool true), EqV ((.int .i64 (k : Int))), EqV ((.pointer (some ⟨p, 0, none⟩))), EqV (.pointer (some ⟨p, 0, none⟩)), EqV (.pointer (some ⟨p, 0, none⟩)), EqV (.pointer (some ⟨p, 4, none⟩)), EqV (.slice (some ⟨b, off, none⟩) nb V.cb), EqV (.int .i64 (nb : Int)), EqV (.bool true), EqV (.bool true), EqV (.bool true), EqV ((.pointer (some ⟨p, 0, none⟩))), EqV ((.slice sa sn sc)), EqV ((.slice ia in_ ic)), (fun u v => ∃ va vc, v = .agg #[.pointer (some ⟨p, 0, none⟩), .slice va ((netOf C).1.length + 1) vc, .slice a5 (netOf C).2.length c5] ∧ RowAt u va (bv (valsM C st ip))), (fun u v => ∃ va vc, v = .agg #[.slice va ((netOf C).1.length + 1) vc, .slice a5 (netOf C).2.length c5] ∧ RowAt u va (bv (valsM C st ip))), EqV ((.pointer (some ⟨p, 0, none⟩))), EqV (.pointer (some ⟨p, 0, none⟩)), EqV (.pointer (some ⟨p, 0, none⟩)), EqV (.pointer (some ⟨p, 4, none⟩)), EqV (.slice (some ⟨b, off, none⟩) nb V.cb), EqV ((.int .i64 (k : Int))), EqV (.pointer (some ⟨b, off + k * 1, none⟩)), EqV (.int .i64 x), EqV (.bool r), EqV (.bool r)]) (LP := #[true, true, true, true, true, true, true, true, true, true, true, true, true, true, true, true, true, true, true, true, true, true, true, true, true, true, true, true, true, true, true, true, false]) (K := 1) (by kernel_rfl) (by kernel_rfl) (atV_st ?hstL1) ?hstepL1 (by kernel_rfl) ?hLPL1 (by kernel_rfl) ?hendL1
      case hstL1 =>
        intro W h
        simp only [List.mem_cons, List.not_mem_nil, or_false] at h
        rcases h with rfl | rfl | rfl | rfl | rfl | rfl | rfl | rfl | rfl | rfl | rfl | rfl | rfl | rfl | rfl | rfl | rfl | rfl | rfl | rfl | rfl | rfl | rfl | rfl | rfl | rfl | rfl | rfl | rfl | rfl | rfl | rfl <;> first | exact EqV.st _ | exact fun _ _ _ k ⟨va, vc, h1, h2⟩ => ⟨va, vc, h1, h2.kp k (fun _ _ h => h)⟩
      case hLPL1 => exact upTo_spec (by kernel_rfl)
      case hstepL1 =>
        intro i o ho hp a u hk hoff hdep
        have e0 : a.tmps[0]?.getD undef = (.pointer (some ⟨p, 0, none⟩)) := slot_at (hoff 0 (noDst_spec (by kernel_rfl)))
        have e1 : a.tmps[1]?.getD undef = (.slice sa sn sc) := slot_at (hoff 1 (noDst_spec (by kernel_rfl)))
        have e2 : a.tmps[2]?.getD undef = (.slice ia in_ ic) := slot_at (hoff 2 (noDst_spec (by kernel_rfl)))
        have e3 : a.tmps[3]?.getD undef = (.int .i64 (k : Int)) := slot_at (hoff 3 (noDst_spec (by kernel_rfl)))
        clear hoff
        match i, ho with
        | 0, ho =>
          obtain rfl := Option.some.inj ho
          refine lg_none rfl ?_
          refine lw_value (v := (.pointer (some ⟨p, 0, none⟩))) (u' := u) ?_ (Kp.refl _ _) rfl
          go_simp
        | 1, ho =>
          obtain rfl := Option.some.inj ho
          have e9 : a.tmps[9]?.getD undef = (.pointer (some ⟨p, 0, none⟩)) := slot_at (hdep ⟨0, .data⟩ (by simp) rfl _ 9 rfl rfl)
          refine lg_none rfl ?_
          refine lw_value (v := .bool true) (u' := u) ?_ (Kp.refl _ _) rfl
          go_simp
        | 2, ho =>
          obtain rfl := Option.some.inj ho
          have e10 : a.tmps[10]?.getD undef = .bool true := slot_at (hdep ⟨1, .data⟩ (by simp) rfl _ 10 rfl rfl)
          refine lg_none rfl ?_
          refine lw_value (v := .bool true) (u' := u) ?_ (Kp.refl _ _) rfl
          go_simp
        | 3, ho =>
          obtain rfl := Option.some.inj ho
          have e11 : a.tmps[11]?.getD undef = .bool true := slot_at (hdep ⟨2, .guard⟩ (by simp) rfl _ 11 rfl rfl)
          refine lg_on (x := 11) rfl rfl e11 ?_
          refine lw_value (v := (.int .i64 (k : Int))) (u' := u) ?_ (Kp.refl _ _) rfl
          go_simp
        | 4, ho =>
          obtain rfl := Option.some.inj ho
          have e12 : a.tmps[12]?.getD undef = (.int .i64 (k : Int)) := slot_at (hdep ⟨3, .data⟩ (by simp) rfl _ 12 rfl rfl)
          have e11 : a.tmps[11]?.getD undef = .bool true := slot_at (hdep ⟨2, .guard⟩ (by simp) rfl _ 11 rfl rfl)
          refine lg_on (x := 11) rfl rfl e11 ?_
          refine lw_value (v := .bool true) (u' := u) ?_ (Kp.refl _ _) rfl
          go_simp
        | 5, ho =>
          obtain rfl := Option.some.inj ho
          have e11 : a.tmps[11]?.getD undef = .bool true := slot_at (hdep ⟨2, .data⟩ (by simp) rfl _ 11 rfl rfl)
          have e13 : a.tmps[13]?.getD undef = .bool true := slot_at (hdep ⟨4, .data⟩ (by simp) rfl _ 13 rfl rfl)
          refine lg_none rfl ?_
          refine lw_value (v := .bool true) (u' := u) ?_ (Kp.refl _ _) rfl
          go_simp
        | 6, ho =>
          obtain rfl := Option.some.inj ho
          have e14 : a.tmps[14]?.getD undef = .bool true := slot_at (hdep ⟨5, .data⟩ (by simp) rfl _ 14 rfl rfl)
          refine lg_none rfl ?_
          refine lw_value (v := .bool true) (u' := u) ?_ (Kp.refl _ _) rfl
          go_simp
        | 7, ho =>
          obtain rfl := Option.some.inj ho
          have e15 : a.tmps[15]?.getD undef = .bool true := slot_at (hdep ⟨6, .guard⟩ (by simp) rfl _ 15 rfl rfl)
          refine lg_on (x := 15) rfl rfl e15 ?_
          refine lw_value (v := (.int .i64 (k : Int))) (u' := u) ?_ (Kp.refl _ _) rfl
          go_simp
        | 8, ho =>
          obtain rfl := Option.some.inj ho
          have e15 : a.tmps[15]?.getD undef = .bool true := slot_at (hdep ⟨6, .guard⟩ (by simp) rfl _ 15 rfl rfl)
          refine lg_on (x := 15) rfl rfl e15 ?_
          refine lw_value (v := (.pointer (some ⟨p, 0, none⟩))) (u' := u) ?_ (Kp.refl _ _) rfl
          go_simp
        | 9, ho =>
          obtain rfl := Option.some.inj ho
          have e17 : a.tmps[17]?.getD undef = (.pointer (some ⟨p, 0, none⟩)) := slot_at (hdep ⟨8, .data⟩ (by simp) rfl _ 17 rfl rfl)
          have e15 : a.tmps[15]?.getD undef = .bool true := slot_at (hdep ⟨6, .guard⟩ (by simp) rfl _ 15 rfl rfl)
          refine lg_on (x := 15) rfl rfl e15 ?_
          refine lw_value (v := .pointer (some ⟨p, 0, none⟩)) (u' := u) ?_ (Kp.refl _ _) rfl
          go_simp
        | 10, ho =>
          obtain rfl := Option.some.inj ho
          have e18 : a.tmps[18]?.getD undef = .pointer (some ⟨p, 0, none⟩) := slot_at (hdep ⟨9, .data⟩ (by simp) rfl _ 18 rfl rfl)
          have e15 : a.tmps[15]?.getD undef = .bool true := slot_at (hdep ⟨6, .guard⟩ (by simp) rfl _ 15 rfl rfl)
          refine lg_on (x := 15) rfl rfl e15 ?_
          refine lw_value (v := .pointer (some ⟨p, 0, none⟩)) (u' := u) ?_ (Kp.refl _ _) rfl
          go_simp
        | 11, ho =>
          obtain rfl := Option.some.inj ho
          have e19 : a.tmps[19]?.getD undef = .pointer (some ⟨p, 0, none⟩) := slot_at (hdep ⟨10, .data⟩ (by simp) rfl _ 19 rfl rfl)
          have e15 : a.tmps[15]?.getD undef = .bool true := slot_at (hdep ⟨6, .guard⟩ (by simp) rfl _ 15 rfl rfl)
          refine lg_on (x := 15) rfl rfl e15 ?_
          refine lw_value (v := .pointer (some ⟨p, 4, none⟩)) (u' := u) ?_ (Kp.refl _ _) rfl
          go_simp
        | 12, ho =>
          obtain rfl := Option.some.inj ho
          have e20 : a.tmps[20]?.getD undef = .pointer (some ⟨p, 4, none⟩) := slot_at (hdep ⟨11, .data⟩ (by simp) rfl _ 20 rfl rfl)
          have e15 : a.tmps[15]?.getD undef = .bool true := slot_at (hdep ⟨6, .guard⟩ (by simp) rfl _ 15 rfl rfl)
          refine lg_on (x := 15) rfl rfl e15 ?_
          have c1 := (HB.out.kp hk (fun h => h)).cell (i := 4) (v := .slice (some ⟨b, off, none⟩) nb V.cb) rfl
          refine lw_value (v := .slice (some ⟨b, off, none⟩) nb V.cb) (u' := u) ?_ (Kp.refl _ _) rfl
          go_simp
        | 13, ho =>
          obtain rfl := Option.some.inj ho
          have e21 : a.tmps[21]?.getD undef = .slice (some ⟨b, off, none⟩) nb V.cb := slot_at (hdep ⟨12, .data⟩ (by simp) rfl _ 21 rfl rfl)
          have e15 : a.tmps[15]?.getD undef = .bool true := slot_at (hdep ⟨6, .guard⟩ (by simp) rfl _ 15 rfl rfl)
          refine lg_on (x := 15) rfl rfl e15 ?_
          refine lw_value (v := .int .i64 (nb : Int)) (u' := u) ?_ (Kp.refl _ _) rfl
          go_simp
        | 14, ho =>
          obtain rfl := Option.some.inj ho
          have e16 : a.tmps[16]?.getD undef = (.int .i64 (k : Int)) := slot_at (hdep ⟨7, .data⟩ (by simp) rfl _ 16 rfl rfl)
          have e22 : a.tmps[22]?.getD undef = .int .i64 (nb : Int) := slot_at (hdep ⟨13, .data⟩ (by simp) rfl _ 22 rfl rfl)
          have e15 : a.tmps[15]?.getD undef = .bool true := slot_at (hdep ⟨6, .guard⟩ (by simp) rfl _ 15 rfl rfl)
          refine lg_on (x := 15) rfl rfl e15 ?_
          refine lw_value (v := .bool true) (u' := u) ?_ (Kp.refl _ _) rfl
          go_simp
        | 15, ho =>
          obtain rfl := Option.some.inj ho
          have e15 : a.tmps[15]?.getD undef = .bool true := slot_at (hdep ⟨6, .data⟩ (by simp) rfl _ 15 rfl rfl)
          have e23 : a.tmps[23]?.getD undef = .bool true := slot_at (hdep ⟨14, .data⟩ (by simp) rfl _ 23 rfl rfl)
          refine lg_none rfl ?_
          refine lw_value (v := .bool true) (u' := u) ?_ (Kp.refl _ _) rfl
          go_simp
        | 16, ho =>
          obtain rfl := Option.some.inj ho
          have e24 : a.tmps[24]?.getD undef = .bool true := slot_at (hdep ⟨15, .data⟩ (by simp) rfl _ 24 rfl rfl)
          refine lg_none rfl ?_
          refine lw_value (v := .bool true) (u' := u) ?_ (Kp.refl _ _) rfl
          go_simp
        | 17, ho =>
          obtain rfl := Option.some.inj ho
          have e25 : a.tmps[25]?.getD undef = .bool true := slot_at (hdep ⟨16, .guard⟩ (by simp) rfl _ 25 rfl rfl)
          refine lg_on (x := 25) rfl rfl e25 ?_
          refine lw_value (v := (.pointer (some ⟨p, 0, none⟩))) (u' := u) ?_ (Kp.refl _ _) rfl
          go_simp
        | 18, ho =>
          obtain rfl := Option.some.inj ho
          have e25 : a.tmps[25]?.getD undef = .bool true := slot_at (hdep ⟨16, .guard⟩ (by simp) rfl _ 25 rfl rfl)
          refine lg_on (x := 25) rfl rfl e25 ?_
          refine lw_value (v := (.slice sa sn sc)) (u' := u) ?_ (Kp.refl _ _) rfl
          go_simp
        | 19, ho =>
          obtain rfl := Option.some.inj ho
          have e25 : a.tmps[25]?.getD undef = .bool true := slot_at (hdep ⟨16, .guard⟩ (by simp) rfl _ 25 rfl rfl)
          refine lg_on (x := 25) rfl rfl e25 ?_
          refine lw_value (v := (.slice ia in_ ic)) (u' := u) ?_ (Kp.refl _ _) rfl
          go_simp
        | 20, ho =>
          obtain rfl := Option.some.inj ho
          have e26 : a.tmps[26]?.getD undef = (.pointer (some ⟨p, 0, none⟩)) := slot_at (hdep ⟨17, .data⟩ (by simp) rfl _ 26 rfl rfl)
          have e27 : a.tmps[27]?.getD undef = (.slice sa sn sc) := slot_at (hdep ⟨18, .data⟩ (by simp) rfl _ 27 rfl rfl)
          have e28 : a.tmps[28]?.getD undef = (.slice ia in_ ic) := slot_at (hdep ⟨19, .data⟩ (by simp) rfl _ 28 rfl rfl)
          have e25 : a.tmps[25]?.getD undef = .bool true := slot_at (hdep ⟨16, .chain⟩ (by simp) rfl _ 25 rfl rfl)
          refine lg_on (x := 25) rfl rfl e25 ?_
          refine lw_call (f := 66) (args := #[.pointer (some ⟨p, 0, none⟩), .slice sa sn sc, .slice ia in_ ic]) ?_ ?_
          · go_simp
          · exact (HIn.out u hk).mono (by
              rintro e u' ⟨⟨va, vc, rfl, hv⟩, hK⟩
              exact ⟨_, rfl, hK, va, vc, rfl, hv⟩)
        | 21, ho =>
          obtain rfl := Option.some.inj ho
          have e25 : a.tmps[25]?.getD undef = .bool true := slot_at (hdep ⟨16, .guard⟩ (by simp) rfl _ 25 rfl rfl)
          refine lg_on (x := 25) rfl rfl e25 ?_
          obtain ⟨va, vc, ev, hvr⟩ : ∃ va vc, (a.tmps.getD 29 undef) = .agg #[.pointer (some ⟨p, 0, none⟩), .slice va ((netOf C).1.length + 1) vc, .slice a5 (netOf C).2.length c5] ∧ RowAt u va (bv (valsM C st ip)) := hdep ⟨20, .data⟩ (by simp) rfl _ 29 rfl rfl
          have e29 := slot_at ev
          have hfd : ∀ W, (Instr.field 116 (.agg #[.pointer (some ⟨p, 0, none⟩), .slice va ((netOf C).1.length + 1) vc, .slice a5 (netOf C).2.length c5]) 1).run Try.prog W = .ok (.agg #[.slice va ((netOf C).1.length + 1) vc, .slice a5 (netOf C).2.length c5]) W := fun _ => by kernel_rfl
          refine lw_value (v := .agg #[.slice va ((netOf C).1.length + 1) vc, .slice a5 (netOf C).2.length c5]) (u' := u) ?_ (Kp.refl _ _) ⟨va, vc, rfl, hvr⟩
          go_simp
        | 22, ho =>
          obtain rfl := Option.some.inj ho
          have e25 : a.tmps[25]?.getD undef = .bool true := slot_at (hdep ⟨16, .guard⟩ (by simp) rfl _ 25 rfl rfl)
          refine lg_on (x := 25) rfl rfl e25 ?_
          refine lw_value (v := (.pointer (some ⟨p, 0, none⟩))) (u' := u) ?_ (Kp.refl _ _) rfl
          go_simp
        | 23, ho =>
          obtain rfl := Option.some.inj ho
          have e31 : a.tmps[31]?.getD undef = (.pointer (some ⟨p, 0, none⟩)) := slot_at (hdep ⟨22, .data⟩ (by simp) rfl _ 31 rfl rfl)
          have e25 : a.tmps[25]?.getD undef = .bool true := slot_at (hdep ⟨16, .guard⟩ (by simp) rfl _ 25 rfl rfl)
          refine lg_on (x := 25) rfl rfl e25 ?_
          refine lw_value (v := .pointer (some ⟨p, 0, none⟩)) (u' := u) ?_ (Kp.refl _ _) rfl
          go_simp
        | 24, ho =>
          obtain rfl := Option.some.inj ho
          have e32 : a.tmps[32]?.getD undef = .pointer (some ⟨p, 0, none⟩) := slot_at (hdep ⟨23, .data⟩ (by simp) rfl _ 32 rfl rfl)
          have e25 : a.tmps[25]?.getD undef = .bool true := slot_at (hdep ⟨16, .guard⟩ (by simp) rfl _ 25 rfl rfl)
          refine lg_on (x := 25) rfl rfl e25 ?_
          refine lw_value (v := .pointer (some ⟨p, 0, none⟩)) (u' := u) ?_ (Kp.refl _ _) rfl
          go_simp
        | 25, ho =>
          obtain rfl := Option.some.inj ho
          have e33 : a.tmps[33]?.getD undef = .pointer (some ⟨p, 0, none⟩) := slot_at (hdep ⟨24, .data⟩ (by simp) rfl _ 33 rfl rfl)
          have e25 : a.tmps[25]?.getD undef = .bool true := slot_at (hdep ⟨16, .guard⟩ (by simp) rfl _ 25 rfl rfl)
          refine lg_on (x := 25) rfl rfl e25 ?_
          refine lw_value (v := .pointer (some ⟨p, 4, none⟩)) (u' := u) ?_ (Kp.refl _ _) rfl
          go_simp
        | 26, ho =>
          obtain rfl := Option.some.inj ho
          have e34 : a.tmps[34]?.getD undef = .pointer (some ⟨p, 4, none⟩) := slot_at (hdep ⟨25, .data⟩ (by simp) rfl _ 34 rfl rfl)
          have e25 : a.tmps[25]?.getD undef = .bool true := slot_at (hdep ⟨16, .guard⟩ (by simp) rfl _ 25 rfl rfl)
          refine lg_on (x := 25) rfl rfl e25 ?_
          have c1 := (HB.out.kp hk (fun h => h)).cell (i := 4) (v := .slice (some ⟨b, off, none⟩) nb V.cb) rfl
          refine lw_value (v := .slice (some ⟨b, off, none⟩) nb V.cb) (u' := u) ?_ (Kp.refl _ _) rfl
          go_simp
        | 27, ho =>
          obtain rfl := Option.some.inj ho
          have e25 : a.tmps[25]?.getD undef = .bool true := slot_at (hdep ⟨16, .guard⟩ (by simp) rfl _ 25 rfl rfl)
          refine lg_on (x := 25) rfl rfl e25 ?_
          refine lw_value (v := (.int .i64 (k : Int))) (u' := u) ?_ (Kp.refl _ _) rfl
          go_simp
        | 28, ho =>
          obtain rfl := Option.some.inj ho
          have e35 : a.tmps[35]?.getD undef = .slice (some ⟨b, off, none⟩) nb V.cb := slot_at (hdep ⟨26, .data⟩ (by simp) rfl _ 35 rfl rfl)
          have e36 : a.tmps[36]?.getD undef = (.int .i64 (k : Int)) := slot_at (hdep ⟨27, .data⟩ (by simp) rfl _ 36 rfl rfl)
          have e25 : a.tmps[25]?.getD undef = .bool true := slot_at (hdep ⟨16, .guard⟩ (by simp) rfl _ 25 rfl rfl)
          refine lg_on (x := 25) rfl rfl e25 ?_
          refine lw_value (v := .pointer (some ⟨b, off + k * 1, none⟩)) (u' := u) ?_ (Kp.refl _ _) rfl
          go_simp
        | 29, ho =>
          obtain rfl := Option.some.inj ho
          have e37 : a.tmps[37]?.getD undef = .pointer (some ⟨b, off + k * 1, none⟩) := slot_at (hdep ⟨28, .data⟩ (by simp) rfl _ 37 rfl rfl)
          have e25 : a.tmps[25]?.getD undef = .bool true := slot_at (hdep ⟨16, .guard⟩ (by simp) rfl _ 25 rfl rfl)
          refine lg_on (x := 25) rfl rfl e25 ?_
          have c1 := hk.cellK E0.out
          refine lw_value (v := .int .i64 x) (u' := u) ?_ (Kp.refl _ _) rfl
          go_simp
        | 30, ho =>
          obtain rfl := Option.some.inj ho
          have e38 : a.tmps[38]?.getD undef = .int .i64 x := slot_at (hdep ⟨29, .data⟩ (by simp) rfl _ 38 rfl rfl)
          have e25 : a.tmps[25]?.getD undef = .bool true := slot_at (hdep ⟨16, .guard⟩ (by simp) rfl _ 25 rfl rfl)
          refine lg_on (x := 25) rfl rfl e25 ?_
          obtain ⟨va, vc, ev, hvr⟩ : ∃ va vc, (a.tmps.getD 30 undef) = .agg #[.slice va ((netOf C).1.length + 1) vc, .slice a5 (netOf C).2.length c5] ∧ RowAt u va (bv (valsM C st ip)) := hdep ⟨21, .data⟩ (by simp) rfl _ 30 rfl rfl
          have e30 := slot_at ev
          refine lw_call (f := 68) (args := #[.agg #[.slice va ((netOf C).1.length + 1) vc, .slice a5 (netOf C).2.length c5], .int .i64 x]) ?_ ?_
          · go_simp
          · exact (HIs.out u hk va vc hvr).mono (by
              rintro e u' ⟨rfl, hK⟩
              exact ⟨_, rfl, hK, rfl⟩)
        | 31, ho =>
          obtain rfl := Option.some.inj ho
          have e25 : a.tmps[25]?.getD undef = .bool true := slot_at (hdep ⟨16, .data⟩ (by simp) rfl _ 25 rfl rfl)
          have e39 : a.tmps[39]?.getD undef = .bool r := slot_at (hdep ⟨30, .data⟩ (by simp) rfl _ 39 rfl rfl)
          refine lg_none rfl ?_
          refine lw_value (v := .bool r) (u' := u) ?_ (Kp.refl _ _) rfl
          go_simp
        | n + 32, _ => exact absurd hp (by simp [upTo])
      intro a u hI
      have hsz : a.tmps.size = 41 := hI.size
      have hdf : a.defers = [] := hI.defers
      have f0 : a.tmps.getD 0 undef = _ := hI.off 0 (noDst_spec (p := upTo 32) (by kernel_rfl))
      have f1 : a.tmps.getD 1 undef = _ := hI.off 1 (noDst_spec (p := upTo 32) (by kernel_rfl))
      have f2 : a.tmps.getD 2 undef = _ := hI.off 2 (noDst_spec (p := upTo 32) (by kernel_rfl))
      have f3 : a.tmps.getD 3 undef = _ := hI.off 3 (noDst_spec (p := upTo 32) (by kernel_rfl))
      have f4 : a.tmps.getD 4 undef = _ := hI.off 4 (noDst_spec (p := upTo 32) (by kernel_rfl))
      have f5 : a.tmps.getD 5 undef = _ := hI.off 5 (noDst_spec (p := upTo 32) (by kernel_rfl))
      have f6 : a.tmps.getD 6 undef = _ := hI.off 6 (noDst_spec (p := upTo 32) (by kernel_rfl))
      have f7 : a.tmps.getD 7 undef = _ := hI.off 7 (noDst_spec (p := upTo 32) (by kernel_rfl))
      have f8 : a.tmps.getD 8 undef = _ := hI.off 8 (noDst_spec (p := upTo 32) (by kernel_rfl))
      have f9 : a.tmps.getD 9 undef = (.pointer (some ⟨p, 0, none⟩)) := hI.val 0 _ 9 rfl rfl rfl
      have f10 : a.tmps.getD 10 undef = .bool true := hI.val 1 _ 10 rfl rfl rfl
      have f11 : a.tmps.getD 11 undef = .bool true := hI.val 2 _ 11 rfl rfl rfl
      have f12 : a.tmps.getD 12 undef = (.int .i64 (k : Int)) := hI.val 3 _ 12 rfl rfl rfl
      have f13 : a.tmps.getD 13 undef = .bool true := hI.val 4 _ 13 rfl rfl rfl
      have f14 : a.tmps.getD 14 undef = .bool true := hI.val 5 _ 14 rfl rfl rfl
      have f15 : a.tmps.getD 15 undef = .bool true := hI.val 6 _ 15 rfl rfl rfl
      have f16 : a.tmps.getD 16 undef = (.int .i64 (k : Int)) := hI.val 7 _ 16 rfl rfl rfl
      have f17 : a.tmps.getD 17 undef = (.pointer (some ⟨p, 0, none⟩)) := hI.val 8 _ 17 rfl rfl rfl
      have f18 : a.tmps.getD 18 undef = .pointer (some ⟨p, 0, none⟩) := hI.val 9 _ 18 rfl rfl rfl
      have f19 : a.tmps.getD 19 undef = .pointer (some ⟨p, 0, none⟩) := hI.val 10 _ 19 rfl rfl rfl
      have f20 : a.tmps.getD 20 undef = .pointer (some ⟨p, 4, none⟩) := hI.val 11 _ 20 rfl rfl rfl
      have f21 : a.tmps.getD 21 undef = .slice (some ⟨b, off, none⟩) nb V.cb := hI.val 12 _ 21 rfl rfl rfl
      have f22 : a.tmps.getD 22 undef = .int .i64 (nb : Int) := hI.val 13 _ 22 rfl rfl rfl
      have f23 : a.tmps.getD 23 undef = .bool true := hI.val 14 _ 23 rfl rfl rfl
      have f24 : a.tmps.getD 24 undef = .bool true := hI.val 15 _ 24 rfl rfl rfl
      have f25 : a.tmps.getD 25 undef = .bool true := hI.val 16 _ 25 rfl rfl rfl
      have f26 : a.tmps.getD 26 undef = (.pointer (some ⟨p, 0, none⟩)) := hI.val 17 _ 26 rfl rfl rfl
      have f27 : a.tmps.getD 27 undef = (.slice sa sn sc) := hI.val 18 _ 27 rfl rfl rfl
      have f28 : a.tmps.getD 28 undef = (.slice ia in_ ic) := hI.val 19 _ 28 rfl rfl rfl
      have g29 : ((fun u v => ∃ va vc, v = .agg #[.pointer (some ⟨p, 0, none⟩), .slice va ((netOf C).1.length + 1) vc, .slice a5 (netOf C).2.length c5] ∧ RowAt u va (bv (valsM C st ip)))) u (a.tmps.getD 29 undef) := hI.val 20 _ 29 rfl rfl rfl
      have g30 : ((fun u v => ∃ va vc, v = .agg #[.slice va ((netOf C).1.length + 1) vc, .slice a5 (netOf C).2.length c5] ∧ RowAt u va (bv (valsM C st ip)))) u (a.tmps.getD 30 undef) := hI.val 21 _ 30 rfl rfl rfl
      have f31 : a.tmps.getD 31 undef = (.pointer (some ⟨p, 0, none⟩)) := hI.val 22 _ 31 rfl rfl rfl
      have f32 : a.tmps.getD 32 undef = .pointer (some ⟨p, 0, none⟩) := hI.val 23 _ 32 rfl rfl rfl
      have f33 : a.tmps.getD 33 undef = .pointer (some ⟨p, 0, none⟩) := hI.val 24 _ 33 rfl rfl rfl
      have f34 : a.tmps.getD 34 undef = .pointer (some ⟨p, 4, none⟩) := hI.val 25 _ 34 rfl rfl rfl
      have f35 : a.tmps.getD 35 undef = .slice (some ⟨b, off, none⟩) nb V.cb := hI.val 26 _ 35 rfl rfl rfl
      have f36 : a.tmps.getD 36 undef = (.int .i64 (k : Int)) := hI.val 27 _ 36 rfl rfl rfl
      have f37 : a.tmps.getD 37 undef = .pointer (some ⟨b, off + k * 1, none⟩) := hI.val 28 _ 37 rfl rfl rfl
      have f38 : a.tmps.getD 38 undef = .int .i64 x := hI.val 29 _ 38 rfl rfl rfl
      have f39 : a.tmps.getD 39 undef = .bool r := hI.val 30 _ 39 rfl rfl rfl
      have f40 : a.tmps.getD 40 undef = .bool r := hI.val 31 _ 40 rfl rfl rfl
      have ha : a = ⟨#[a.tmps.getD 0 undef, a.tmps.getD 1 undef, a.tmps.getD 2 undef, a.tmps.getD 3 undef, a.tmps.getD 4 undef, a.tmps.getD 5 undef, a.tmps.getD 6 undef, a.tmps.getD 7 undef, a.tmps.getD 8 undef, a.tmps.getD 9 undef, a.tmps.getD 10 undef, a.tmps.getD 11 undef, a.tmps.getD 12 undef, a.tmps.getD 13 undef, a.tmps.getD 14 undef, a.tmps.getD 15 undef, a.tmps.getD 16 undef, a.tmps.getD 17 undef, a.tmps.getD 18 undef, a.tmps.getD 19 undef, a.tmps.getD 20 undef, a.tmps.getD 21 undef, a.tmps.getD 22 undef, a.tmps.getD 23 undef, a.tmps.getD 24 undef, a.tmps.getD 25 undef, a.tmps.getD 26 undef, a.tmps.getD 27 undef, a.tmps.getD 28 undef, a.tmps.getD 29 undef, a.tmps.getD 30 undef, a.tmps.getD 31 undef, a.tmps.getD 32 undef, a.tmps.getD 33 undef, a.tmps.getD 34 undef, a.tmps.getD 35 undef, a.tmps.getD 36 undef, a.tmps.getD 37 undef, a.tmps.getD 38 undef, a.tmps.getD 39 undef, a.tmps.getD 40 undef], a.defers⟩ := act_list a 41 hsz
      rw [hdf, f0, f1, f2, f3, f4, f5, f6, f7, f8, f9, f10, f11, f12, f13, f14, f15, f16, f17, f18, f19, f20, f21, f22, f23, f24, f25, f26, f27, f28, f31, f32, f33, f34, f35, f36, f37, f38, f39, f40] at ha
      obtain ⟨x29, hx29⟩ : ∃ x, a.tmps.getD 29 undef = x := ⟨_, rfl⟩
      obtain ⟨x30, hx30⟩ : ∃ x, a.tmps.getD 30 undef = x := ⟨_, rfl⟩
      rw [hx29, hx30] at ha
      rw [hx29] at g29
      rw [hx30] at g30
      have hku := hI.kp
      clear hI hsz hdf f0 f1 f2 f3 f4 f5 f6 f7 f8 f9 f10 f11 f12 f13 f14 f15 f16 f17 f18 f19 f20 f21 f22 f23 f24 f25 f26 f27 f28 f31 f32 f33 f34 f35 f36 f37 f38 f39 f40 hx29 hx30
      subst ha
      refine wpAny_tail 32 rfl (by kernel_rfl) ?_
      simp only [List.drop_succ_cons, List.drop_zero]
      have HKu := Lib.hid hku
      clear hku g29 g30
      go_wp2_with fail
      go_ret
      exact ⟨rfl, HKu.out⟩
    · have hd : decide (pr < (nb : Int)) = false := decide_eq_false h1
      have hd0 : decide (0 ≤ pr) = true := decide_eq_true h0
      rw [decide_eq_false (fun h => h1 h.2), Bool.false_and] at hr
      subst hr
      clear HIn HL
      go_enter Try.func40, Try.ntmps40
      go_upto_region 1 with fail
      go_quiet (fail)
      go_wp2_with fail
      go_ret
      exact ⟨rfl, (Kp.refl _ _).drewN _⟩
  · have hd : decide (0 ≤ pr) = false := decide_eq_false h0
    rw [decide_eq_false (fun h => h0 h.1), Bool.false_and] at hr
    subst hr
    clear HIn HL
    go_enter Try.func40, Try.ntmps40
    go_upto_region 1 with fail
    go_quiet (fail)
    go_wp2_with fail
    go_ret
    exact ⟨rfl, (Kp.refl _ _).drewN _⟩

set_option maxRecDepth 100000 in
set_option maxHeartbeats 4000000 in
theorem step_Holds (V : CV) (C : Circ) (p : Nat) (a4 a5 : Option Addr) (c4 c5 : Nat) (sa : Option Addr) (sn sc : Nat) (ia : Option Addr) (in_ ic : Nat) (st ip : List Bool) (w : World) (hM : MAt w 72 V C p a4 c4 a5 c5) (hf : CFew C 1000000) (hg : GoodC C) (hs : BS w sa sn st) (hi : BS w ia in_ ip) :
    Calls Try.prog 39 #[.pointer (some ⟨p, 0, none⟩), .slice sa sn sc, .slice ia in_ ic] w fun e w' => e = .returned (.bool (holdsM C st ip)) ∧ Kp (fun _ => False) w w' := by
  have HIn := Lib.hid (fun u (hu : Kp (fun _ => False) w u) => step_in V C p a4 a5 c4 c5 sa sn sc ia in_ ic st ip u (hM.kp hu) hf hg (hs.kp hu) (hi.kp hu))
  obtain ⟨nc, hnc⟩ : ∃ n, C.cons.length = n := ⟨_, rfl⟩
  have hnc1 : nc ≤ 1000000 := by have := hf.c; omega
  obtain ⟨r, hr⟩ : ∃ r, holdsM C st ip = r := ⟨_, rfl⟩
  rw [hr]
  unfold holdsM at hr
  have HAll := Lib.hid (fun u (hu : Kp (fun _ => False) w u) va vc (hv : RowAt u va (bv (valsM C st ip))) => by
    have h := step_all #[.slice va ((netOf C).1.length + 1) vc, .slice a5 (netOf C).2.length c5] _ _ rfl V.ac nc V.cc C.cons (litM C st ip) u ((hM.kp hu).circ.c) hnc hnc1 rfl rfl (fun u' hu' l hl => step_lit (vc := vc) (c5 := c5) hf hg ((hM.kp hu).ats) hv u' hu' l (by
      unfold Circ.used
      simp only [List.mem_append]
      exact .inl (.inl (.inr hl)))) va a5 _ vc _ c5 rfl rfl
    rw [hr] at h
    exact h)
  have HB : Hid (Blk w p #[.int .i64 C.max, .slice V.ai C.ins.length V.ci, .slice V.al C.lats.length V.cl, .slice V.ao C.outs.length V.co, .slice V.ab C.bads.length V.cb, .slice V.ac nc V.cc, .slice V.ag C.gates.length V.cg, .slice V.ay V.ny V.cy, .string V.cm, .slice a4 (netOf C).1.length c4, .slice a5 (netOf C).2.length c5] 72) := Lib.hid (by
    have h := hM.blk
    unfold cvals at h
    rw [hnc] at h
    exact h)
  clear hM hf hg hs hi hnc hr
  go_enter Try.func39, Try.ntmps39
  go_upto_region 1 with fail
  refine wp_region_looseG (p := upTo 15) (V := atV [EqV ((.pointer (some ⟨p, 0, none⟩))), EqV (.bool true), EqV (.bool true), EqV ((.pointer (some ⟨p, 0, none⟩))), EqV ((.slice sa sn sc)), EqV ((.slice ia in_ ic)), (fun u v => ∃ va vc, v = .agg #[.pointer (some ⟨p, 0, none⟩), .slice va ((netOf C).1.length + 1) vc, .slice a5 (netOf C).2.length c5] ∧ RowAt u va (bv (valsM C st ip))), (fun u v => ∃ va vc, v = .agg #[.slice va ((netOf C).1.length + 1) vc, .slice a5 (netOf C).2.length c5] ∧ RowAt u va (bv (valsM C st ip))), EqV ((.pointer (some ⟨p, 0, none⟩))), EqV (.pointer (some ⟨p, 0, none⟩)), EqV (.pointer (some ⟨p, 0, none⟩)), EqV (.pointer (some ⟨p, 5, none⟩)), EqV (.slice V.ac nc V.cc), EqV (.bool r), EqV (.bool r)]) (LP := #[true, true, true, true, true, true, true, true, true, true, true, true, true, true, true, false]) (K := 1) (by kernel_rfl) (by kernel_rfl) (atV_st ?hstL2) ?hstepL2 (by kernel_rfl) ?hLPL2 (by kernel_rfl) ?hendL2
  case hstL2 =>
    intro W h
    simp only [List.mem_cons, List.not_mem_nil, or_false] at h
    rcases h with rfl | rfl | rfl | rfl | rfl | rfl | rfl | rfl | rfl | rfl | rfl | rfl | rfl | rfl | rfl <;> first | exact EqV.st _ | exact fun _ _ _ k ⟨va, vc, h1, h2⟩ => ⟨va, vc, h1, h2.kp k (fun _ _ h => h)⟩
  case hLPL2 => exact upTo_spec (by kernel_rfl)
  case hstepL2 =>
    intro i o ho hp a u hk hoff hdep
    have e0 : a.tmps[0]?.getD undef = (.pointer (some ⟨p, 0, none⟩)) := slot_at (hoff 0 (noDst_spec (by kernel_rfl)))
    have e1 : a.tmps[1]?.getD undef = (.slice sa sn sc) := slot_at (hoff 1 (noDst_spec (by kernel_rfl)))
    have e2 : a.tmps[2]?.getD undef = (.slice ia in_ ic) := slot_at (hoff 2 (noDst_spec (by kernel_rfl)))
    clear hoff
    match i, ho with
    | 0, ho =>
      obtain rfl := Option.some.inj ho
      refine lg_none rfl ?_
      refine lw_value (v := (.pointer (some ⟨p, 0, none⟩))) (u' := u) ?_ (Kp.refl _ _) rfl
      go_simp
    | 1, ho =>
      obtain rfl := Option.some.inj ho
      have e7 : a.tmps[7]?.getD undef = (.pointer (some ⟨p, 0, none⟩)) := slot_at (hdep ⟨0, .data⟩ (by simp) rfl _ 7 rfl rfl)
      refine lg_none rfl ?_
      refine lw_value (v := .bool true) (u' := u) ?_ (Kp.refl _ _) rfl
      go_simp
    | 2, ho =>
      obtain rfl := Option.some.inj ho
      have e8 : a.tmps[8]?.getD undef = .bool true := slot_at (hdep ⟨1, .data⟩ (by simp) rfl _ 8 rfl rfl)
      refine lg_none rfl ?_
      refine lw_value (v := .bool true) (u' := u) ?_ (Kp.refl _ _) rfl
      go_simp
    | 3, ho =>
      obtain rfl := Option.some.inj ho
      have e9 : a.tmps[9]?.getD undef = .bool true := slot_at (hdep ⟨2, .guard⟩ (by simp) rfl _ 9 rfl rfl)
      refine lg_on (x := 9) rfl rfl e9 ?_
      refine lw_value (v := (.pointer (some ⟨p, 0, none⟩))) (u' := u) ?_ (Kp.refl _ _) rfl
      go_simp
    | 4, ho =>
      obtain rfl := Option.some.inj ho
      have e9 : a.tmps[9]?.getD undef = .bool true := slot_at (hdep ⟨2, .guard⟩ (by simp) rfl _ 9 rfl rfl)
      refine lg_on (x := 9) rfl rfl e9 ?_
      refine lw_value (v := (.slice sa sn sc)) (u' := u) ?_ (Kp.refl _ _) rfl
      go_simp
    | 5, ho =>
      obtain rfl := Option.some.inj ho
      have e9 : a.tmps[9]?.getD undef = .bool true := slot_at (hdep ⟨2, .guard⟩ (by simp) rfl _ 9 rfl rfl)
      refine lg_on (x := 9) rfl rfl e9 ?_
      refine lw_value (v := (.slice ia in_ ic)) (u' := u) ?_ (Kp.refl _ _) rfl
      go_simp
    | 6, ho =>
      obtain rfl := Option.some.inj ho
      have e10 : a.tmps[10]?.getD undef = (.pointer (some ⟨p, 0, none⟩)) := slot_at (hdep ⟨3, .data⟩ (by simp) rfl _ 10 rfl rfl)
      have e11 : a.tmps[11]?.getD undef = (.slice sa sn sc) := slot_at (hdep ⟨4, .data⟩ (by simp) rfl _ 11 rfl rfl)
      have e12 : a.tmps[12]?.getD undef = (.slice ia in_ ic) := slot_at (hdep ⟨5, .data⟩ (by simp) rfl _ 12 rfl rfl)
      have e9 : a.tmps[9]?.getD undef = .bool true := slot_at (hdep ⟨2, .chain⟩ (by simp) rfl _ 9 rfl rfl)
      refine lg_on (x := 9) rfl rfl e9 ?_
      refine lw_call (f := 66) (args := #[.pointer (some ⟨p, 0, none⟩), .slice sa sn sc, .slice ia in_ ic]) ?_ ?_
      · go_simp
      · exact (HIn.out u hk).mono (by
          rintro e u' ⟨⟨va, vc, rfl, hv⟩, hK⟩
          exact ⟨_, rfl, hK, va, vc, rfl, hv⟩)
    | 7, ho =>
      obtain rfl := Option.some.inj ho
      have e9 : a.tmps[9]?.getD undef = .bool true := slot_at (hdep ⟨2, .guard⟩ (by simp) rfl _ 9 rfl rfl)
      refine lg_on (x := 9) rfl rfl e9 ?_
      obtain ⟨va, vc, ev, hvr⟩ : ∃ va vc, (a.tmps.getD 13 undef) = .agg #[.pointer (some ⟨p, 0, none⟩), .slice va ((netOf C).1.length + 1) vc, .slice a5 (netOf C).2.length c5] ∧ RowAt u va (bv (valsM C st ip)) := hdep ⟨6, .data⟩ (by simp) rfl _ 13 rfl rfl
      have e13 := slot_at ev
      have hfd : ∀ W, (Instr.field 116 (.agg #[.pointer (some ⟨p, 0, none⟩), .slice va ((netOf C).1.length + 1) vc, .slice a5 (netOf C).2.length c5]) 1).run Try.prog W = .ok (.agg #[.slice va ((netOf C).1.length + 1) vc, .slice a5 (netOf C).2.length c5]) W := fun _ => by kernel_rfl
      refine lw_value (v := .agg #[.slice va ((netOf C).1.length + 1) vc, .slice a5 (netOf C).2.length c5]) (u' := u) ?_ (Kp.refl _ _) ⟨va, vc, rfl, hvr⟩
      go_simp
    | 8, ho =>
      obtain rfl := Option.some.inj ho
      have e9 : a.tmps[9]?.getD undef = .bool true := slot_at (hdep ⟨2, .guard⟩ (by simp) rfl _ 9 rfl rfl)
      refine lg_on (x := 9) rfl rfl e9 ?_
      refine lw_value (v := (.pointer (some ⟨p, 0, none⟩))) (u' := u) ?_ (Kp.refl _ _) rfl
      go_simp
    | 9, ho =>
      obtain rfl := Option.some.inj ho
      have e15 : a.tmps[15]?.getD undef = (.pointer (some ⟨p, 0, none⟩)) := slot_at (hdep ⟨8, .data⟩ (by simp) rfl _ 15 rfl rfl)
      have e9 : a.tmps[9]?.getD undef = .bool true := slot_at (hdep ⟨2, .guard⟩ (by simp) rfl _ 9 rfl rfl)
      refine lg_on (x := 9) rfl rfl e9 ?_
      refine lw_value (v := .pointer (some ⟨p, 0, none⟩)) (u' := u) ?_ (Kp.refl _ _) rfl
      go_simp
    | 10, ho =>
      obtain rfl := Option.some.inj ho
      have e16 : a.tmps[16]?.getD undef = .pointer (some ⟨p, 0, none⟩) := slot_at (hdep ⟨9, .data⟩ (by simp) rfl _ 16 rfl rfl)
      have e9 : a.tmps[9]?.getD undef = .bool true := slot_at (hdep ⟨2, .guard⟩ (by simp) rfl _ 9 rfl rfl)
      refine lg_on (x := 9) rfl rfl e9 ?_
      refine lw_value (v := .pointer (some ⟨p, 0, none⟩)) (u' := u) ?_ (Kp.refl _ _) rfl
      go_simp
    | 11, ho =>
      obtain rfl := Option.some.inj ho
      have e17 : a.tmps[17]?.getD undef = .pointer (some ⟨p, 0, none⟩) := slot_at (hdep ⟨10, .data⟩ (by simp) rfl _ 17 rfl rfl)
      have e9 : a.tmps[9]?.getD undef = .bool true := slot_at (hdep ⟨2, .guard⟩ (by simp) rfl _ 9 rfl rfl)
      refine lg_on (x := 9) rfl rfl e9 ?_
      refine lw_value (v := .pointer (some ⟨p, 5, none⟩)) (u' := u) ?_ (Kp.refl _ _) rfl
      go_simp
    | 12, ho =>
      obtain rfl := Option.some.inj ho
      have e18 : a.tmps[18]?.getD undef = .pointer (some ⟨p, 5, none⟩) := slot_at (hdep ⟨11, .data⟩ (by simp) rfl _ 18 rfl rfl)
      have e9 : a.tmps[9]?.getD undef = .bool true := slot_at (hdep ⟨2, .guard⟩ (by simp) rfl _ 9 rfl rfl)
      refine lg_on (x := 9) rfl rfl e9 ?_
      have c1 := (HB.out.kp hk (fun h => h)).cell (i := 5) (v := .slice V.ac nc V.cc) rfl
      refine lw_value (v := .slice V.ac nc V.cc) (u' := u) ?_ (Kp.refl _ _) rfl
      go_simp
    | 13, ho =>
      obtain rfl := Option.some.inj ho
      have e19 : a.tmps[19]?.getD undef = .slice V.ac nc V.cc := slot_at (hdep ⟨12, .data⟩ (by simp) rfl _ 19 rfl rfl)
      have e9 : a.tmps[9]?.getD undef = .bool true := slot_at (hdep ⟨2, .guard⟩ (by simp) rfl _ 9 rfl rfl)
      refine lg_on (x := 9) rfl rfl e9 ?_
      obtain ⟨va, vc, ev, hvr⟩ : ∃ va vc, (a.tmps.getD 14 undef) = .agg #[.slice va ((netOf C).1.length + 1) vc, .slice a5 (netOf C).2.length c5] ∧ RowAt u va (bv (valsM C st ip)) := hdep ⟨7, .data⟩ (by simp) rfl _ 14 rfl rfl
      have e14 := slot_at ev
      refine lw_call (f := 67) (args := #[.agg #[.slice va ((netOf C).1.length + 1) vc, .slice a5 (netOf C).2.length c5], .slice V.ac nc V.cc]) ?_ ?_
      · go_simp
      · exact (HAll.out u hk va vc hvr).mono (by
          rintro e u' ⟨rfl, hK⟩
          exact ⟨_, rfl, hK, rfl⟩)
    | 14, ho =>
      obtain rfl := Option.some.inj ho
      have e9 : a.tmps[9]?.getD undef = .bool true := slot_at (hdep ⟨2, .data⟩ (by simp) rfl _ 9 rfl rfl)
      have e20 : a.tmps[20]?.getD undef = .bool r := slot_at (hdep ⟨13, .data⟩ (by simp) rfl _ 20 rfl rfl)
      refine lg_none rfl ?_
      refine lw_value (v := .bool r) (u' := u) ?_ (Kp.refl _ _) rfl
      go_simp
    | n + 15, _ => exact absurd hp (by simp [upTo])
  intro a u hI
  have hsz : a.tmps.size = 22 := hI.size
  have hdf : a.defers = [] := hI.defers
  have f0 : a.tmps.getD 0 undef = _ := hI.off 0 (noDst_spec (p := upTo 15) (by kernel_rfl))
  have f1 : a.tmps.getD 1 undef = _ := hI.off 1 (noDst_spec (p := upTo 15) (by kernel_rfl))
  have f2 : a.tmps.getD 2 undef = _ := hI.off 2 (noDst_spec (p := upTo 15) (by kernel_rfl))
  have f3 : a.tmps.getD 3 undef = _ := hI.off 3 (noDst_spec (p := upTo 15) (by kernel_rfl))
  have f4 : a.tmps.getD 4 undef = _ := hI.off 4 (noDst_spec (p := upTo 15) (by kernel_rfl))
  have f5 : a.tmps.getD 5 undef = _ := hI.off 5 (noDst_spec (p := upTo 15) (by kernel_rfl))
  have f6 : a.tmps.getD 6 undef = _ := hI.off 6 (noDst_spec (p := upTo 15) (by kernel_rfl))
  have f7 : a.tmps.getD 7 undef = (.pointer (some ⟨p, 0, none⟩)) := hI.val 0 _ 7 rfl rfl rfl
  have f8 : a.tmps.getD 8 undef = .bool true := hI.val 1 _ 8 rfl rfl rfl
  have f9 : a.tmps.getD 9 undef = .bool true := hI.val 2 _ 9 rfl rfl rfl
  have f10 : a.tmps.getD 10 undef = (.pointer (some ⟨p, 0, none⟩)) := hI.val 3 _ 10 rfl rfl rfl
  have f11 : a.tmps.getD 11 undef = (.slice sa sn sc) := hI.val 4 _ 11 rfl rfl rfl
  have f12 : a.tmps.getD 12 undef = (.slice ia in_ ic) := hI.val 5 _ 12 rfl rfl rfl
  have g13 : ((fun u v => ∃ va vc, v = .agg #[.pointer (some ⟨p, 0, none⟩), .slice va ((netOf C).1.length + 1) vc, .slice a5 (netOf C).2.length c5] ∧ RowAt u va (bv (valsM C st ip)))) u (a.tmps.getD 13 undef) := hI.val 6 _ 13 rfl rfl rfl
  have g14 : ((fun u v => ∃ va vc, v = .agg #[.slice va ((netOf C).1.length + 1) vc, .slice a5 (netOf C).2.length c5] ∧ RowAt u va (bv (valsM C st ip)))) u (a.tmps.getD 14 undef) := hI.val 7 _ 14 rfl rfl rfl
  have f15 : a.tmps.getD 15 undef = (.pointer (some ⟨p, 0, none⟩)) := hI.val 8 _ 15 rfl rfl rfl
  have f16 : a.tmps.getD 16 undef = .pointer (some ⟨p, 0, none⟩) := hI.val 9 _ 16 rfl rfl rfl
  have f17 : a.tmps.getD 17 undef = .pointer (some ⟨p, 0, none⟩) := hI.val 10 _ 17 rfl rfl rfl
  have f18 : a.tmps.getD 18 undef = .pointer (some ⟨p, 5, none⟩) := hI.val 11 _ 18 rfl rfl rfl
  have f19 : a.tmps.getD 19 undef = .slice V.ac nc V.cc := hI.val 12 _ 19 rfl rfl rfl
  have f20 : a.tmps.getD 20 undef = .bool r := hI.val 13 _ 20 rfl rfl rfl
  have f21 : a.tmps.getD 21 undef = .bool r := hI.val 14 _ 21 rfl rfl rfl
  have ha : a = ⟨#[a.tmps.getD 0 undef, a.tmps.getD 1 undef, a.tmps.getD 2 undef, a.tmps.getD 3 undef, a.tmps.getD 4 undef, a.tmps.getD 5 undef, a.tmps.getD 6 undef, a.tmps.getD 7 undef, a.tmps.getD 8 undef, a.tmps.getD 9 undef, a.tmps.getD 10 undef, a.tmps.getD 11 undef, a.tmps.getD 12 undef, a.tmps.getD 13 undef, a.tmps.getD 14 undef, a.tmps.getD 15 undef, a.tmps.getD 16 undef, a.tmps.getD 17 undef, a.tmps.getD 18 undef, a.tmps.getD 19 undef, a.tmps.getD 20 undef, a.tmps.getD 21 undef], a.defers⟩ := act_list a 22 hsz
  rw [hdf, f0, f1, f2, f3, f4, f5, f6, f7, f8, f9, f10, f11, f12, f15, f16, f17, f18, f19, f20, f21] at ha
  obtain ⟨x13, hx13⟩ : ∃ x, a.tmps.getD 13 undef = x := ⟨_, rfl⟩
  obtain ⟨x14, hx14⟩ : ∃ x, a.tmps.getD 14 undef = x := ⟨_, rfl⟩
  rw [hx13, hx14] at ha
  rw [hx13] at g13
  rw [hx14] at g14
  have hku := hI.kp
  clear hI hsz hdf f0 f1 f2 f3 f4 f5 f6 f7 f8 f9 f10 f11 f12 f15 f16 f17 f18 f19 f20 f21 hx13 hx14
  subst ha
  refine wpAny_tail 15 rfl (by kernel_rfl) ?_
  simp only [List.drop_succ_cons, List.drop_zero]
  have HKu := Lib.hid hku
  clear hku g13 g14
  go_wp2_with fail
  go_ret
  exact ⟨rfl, HKu.out⟩

end Go.Proofs.Ytnoknecfdnjomaa

/-
  explore: what a state does by itself.
-/
namespace Go.Proofs.Ytnoknecfdnjomaa
open Go.RowKit

theorem Kp.cellAt2 {w w' : World} (k : Kp (fun _ => False) w w') {b o : Nat} {v : Value} (h : w.cell? ⟨b, o, none⟩ = some v) : w'.cell? ⟨b, o, none⟩ = some v :=
  (World.cell?_of_block (w := w) (w' := w') (a := ⟨b, o, none⟩) (k.block b (World.block_lt_of_cell? w _ h) (fun h => h))).trans h

set_option maxRecDepth 100000 in
set_option maxHeartbeats 8000000 in
theorem ex_row {V : CV} {C : Circ} {p sp : Nat} {a4 a5 : Option Addr} {c4 c5 : Nat} {w : World} (hM : MAt w 72 V C p a4 c4 a5 c5) (hf : CFew C 1000000) (hg : GoodC C) (hs : w.cell? ⟨sp, 0, none⟩ = some (.pointer (some ⟨p, 0, none⟩))) (hl : C.lats.length ≤ 10) (hi : C.ins.length ≤ 8) (n : Nat) (hn : n < 2 ^ C.lats.length) (pr : Int) :
    Calls Try.prog 30 #[.pointer (some ⟨sp, 0, none⟩), .int .i64 n, .int .i64 pr] w fun e w' => (∃ b k, e = .returned (.agg #[.map (some b), .int .i64 (rowB C pr n), .int .i64 (-1), .int .i64 (-1)]) ∧ IMI w' b k (rowF2 C n) ∧ w.heap.size ≤ b ∧ k ≤ 256) ∧ Kp (fun _ => False) w w' := by
  have hmm := @run_makeMap Try.prog
  have HSt := Lib.hid (fun u (hu : Kp (fun _ => False) w u) => ex_state (hM.kp hu) hf ((hu.cellAt2 hs)) hl n hn)
  have HInp := Lib.hid (fun u (hu : Kp (fun _ => False) w u) k (hk : k < 2 ^ C.ins.length) => ex_input (hM.kp hu) hf ((hu.cellAt2 hs)) hi k hk)
  have HIs := Lib.hid (fun u (hu : Kp (fun _ => False) w u) => step_Inputs V C p a4 a5 c4 c5 u (hM.kp hu) hf)
  have HHo := Lib.hid (fun u (hu : Kp (fun _ => False) w u) k sa sc ia ic (h1 : BS u sa C.lats.length (stN C n)) (h2 : BS u ia C.ins.length (inN2 C k)) => show Calls Try.prog 39 #[.pointer (some ⟨p, 0, none⟩), .slice sa C.lats.length sc, .slice ia C.ins.length ic] u (fun e w' => e = .returned (.bool (hldN C n k)) ∧ Kp (fun _ => False) u w') from step_Holds V C p a4 a5 c4 c5 sa _ sc ia _ ic _ _ u (hM.kp hu) hf hg h1 h2)
  have HBa := Lib.hid (fun u (hu : Kp (fun _ => False) w u) k sa sc ia ic (h1 : BS u sa C.lats.length (stN C n)) (h2 : BS u ia C.ins.length (inN2 C k)) => show Calls Try.prog 40 #[.pointer (some ⟨p, 0, none⟩), .slice sa C.lats.length sc, .slice ia C.ins.length ic, .int .i64 pr] u (fun e w' => e = .returned (.bool (bdN C pr n k)) ∧ Kp (fun _ => False) u w') from step_Bad V C p a4 a5 c4 c5 sa _ sc ia _ ic _ _ pr u (hM.kp hu) hf hg h1 h2)
  have HNx := Lib.hid (fun u (hu : Kp (fun _ => False) w u) k sa sc ia ic (h1 : BS u sa C.lats.length (stN C n)) (h2 : BS u ia C.ins.length (inN2 C k)) => step_Next V C p a4 a5 c4 c5 sa _ sc ia _ ic _ _ u (hM.kp hu) hf hg h1 h2)
  have HNl := Lib.hid (fun k => nextM_len C (stN C n) (inN2 C k))
  have HXl := Lib.hid (fun k => show nxtN C n k < 1024 from by
    have h1 := numP_lt (nextM C (stN C n) (inN2 C k))
    rw [nextM_len] at h1
    have h2 := Nat.pow_le_pow_right (n := 2) (by decide) hl
    exact Nat.lt_of_lt_of_le h1 h2)
  have HNm := Lib.hid (fun (u : World) k a c (hr : RowAt u a (bv (nextM C (stN C n) (inN2 C k)))) => show Calls Try.prog 41 #[.slice a C.lats.length c] u (fun e w' => e = .returned (.int .i64 (nxtN C n k : Int)) ∧ u = w') from ex_number a _ c _ u hr (nextM_len C _ _) (by omega))
  have HSl := Lib.hid (show (stN C n).length = C.lats.length from bitsP_len _ _)
  have HIl := Lib.hid (fun k => show (inN2 C k).length = C.ins.length from bitsP_len _ _)
  have HRw := Lib.hid (show rowF2 C n = succK (hldN C n) (nxtN C n) (2 ^ C.ins.length) ∧ rowB C pr n = badK (hldN C n) (bdN C pr n) (2 ^ C.ins.length) from ⟨rfl, rfl⟩)
  obtain ⟨F2, hF2⟩ : ∃ F, rowF2 C n = F := ⟨_, rfl⟩
  obtain ⟨B2, hB2⟩ : ∃ B, rowB C pr n = B := ⟨_, rfl⟩
  rw [hF2, hB2] at HRw
  rw [hF2, hB2]
  obtain ⟨P, hP⟩ : ∃ P, 2 ^ C.ins.length = P := ⟨_, rfl⟩
  have hP9 : P ≤ 256 := by rw [← hP]; have h2 := Nat.pow_le_pow_right (n := 2) (by decide) hi; exact h2
  have HPw := Lib.hid (show wrap64 ((2 : Int) ^ C.ins.length) = (P : Int) by
    have e0 : ((2 : Int) ^ C.ins.length) = ((2 ^ C.ins.length : Nat) : Int) := by push_cast; rfl
    rw [e0, hP]
    unfold wrap64; omega)
  rw [hP] at HRw
  simp only [hP] at HInp
  obtain ⟨nl, hnl⟩ : ∃ nl, C.lats.length = nl := ⟨_, rfl⟩
  obtain ⟨ni, hni⟩ : ∃ ni, C.ins.length = ni := ⟨_, rfl⟩
  rw [hnl] at HSl
  simp only [hnl] at HNl HNm
  simp only [hnl, hni] at HHo HBa HNx
  simp only [hni] at HIs HIl
  rw [hni] at HPw
  obtain ⟨H, hH⟩ : ∃ H, hldN C n = H := ⟨_, rfl⟩
  obtain ⟨X, hX⟩ : ∃ X, nxtN C n = X := ⟨_, rfl⟩
  obtain ⟨B, hB⟩ : ∃ B, bdN C pr n = B := ⟨_, rfl⟩
  rw [hH, hX, hB] at HRw
  simp only [hH] at HHo
  simp only [hB] at HBa
  simp only [hX] at HNm HXl
  rw [hni] at hi
  rw [hnl] at hl
  clear hM hf hg hF2 hB2 hP hnl hni hH hX hB hn
  go_enter Try.func30, Try.ntmps30
  go_upto_region 2 with fail
  clear hmm
  obtain ⟨W1, hW1⟩ : ∃ W1, ((w.alloc (.cells #[.map none, .int .i64 0, .int .i64 0, .int .i64 0] 42)).alloc (.map #[] 0)).alloc (.cells #[.map (some (w.heap.size + 1)), .int .i64 (-1), .int .i64 (-1), .int .i64 (-1)] 42) = W1 := ⟨_, rfl⟩
  have k1 : Kp (fun _ => False) w W1 := by rw [← hW1]; exact (((Kp.refl _ w).alloc _).alloc _).alloc _
  have HR0 := Lib.hid (show Blk W1 w.heap.size #[.map none, .int .i64 0, .int .i64 0, .int .i64 0] 42 by rw [← hW1]; exact ((Blk.new w _ _).alloc _).alloc _)
  have HM0 := Lib.hid (show IMI W1 (w.heap.size + 1) 0 (succK H X 0) by
    rw [← hW1]
    have h := IMI.made (w.alloc (.cells #[.map none, .int .i64 0, .int .i64 0, .int .i64 0] 42))
    rw [World.size_alloc] at h
    exact h.kp ((Kp.refl (fun _ => False) _).alloc _) (fun h => h))
  have HX0 := Lib.hid (show Blk W1 (w.heap.size + 1 + 1) #[.map (some (w.heap.size + 1)), .int .i64 (-1), .int .i64 (-1), .int .i64 (-1)] 42 by
    rw [← hW1]
    have h := Blk.new ((w.alloc (.cells #[.map none, .int .i64 0, .int .i64 0, .int .i64 0] 42)).alloc (.map #[] 0)) #[.map (some (w.heap.size + 1)), .int .i64 (-1), .int .i64 (-1), .int .i64 (-1)] 42
    rw [World.size_alloc, World.size_alloc] at h
    exact h)
  rw [hW1]
  obtain ⟨r0, hr0⟩ : ∃ r0, w.heap.size = r0 := ⟨_, rfl⟩
  obtain ⟨b, hb⟩ : ∃ b, r0 + 1 = b := ⟨_, rfl⟩
  obtain ⟨hx, hhx⟩ : ∃ hx, b + 1 = hx := ⟨_, rfl⟩
  rw [hr0, hb, hhx] at HX0
  rw [hr0, hb] at HM0
  rw [hr0] at HR0
  rw [hr0, hb, hhx]
  have HLo := Lib.hid (show w.heap.size = r0 ∧ r0 + 1 = b ∧ b + 1 = hx from ⟨hr0, hb, hhx⟩)
  have HK1 := Lib.hid k1
  have HSt1 := Lib.hid (HSt.out W1 k1)
  clear hW1 hr0 hb hhx k1 HSt
  go_upto_region 4 with (first
    | (go_at_call 14; refine HSt1.out.mono ?_; rintro e w2 ⟨v8, rfl, hO, hK⟩; obtain ⟨sa, sc, e8, -, -, hb8, hr8⟩ := hO.form; rw [bv_length, HSl.out] at e8; subst e8; have HRs := Lib.hid hr8; have HBs := Lib.hid (fun q (hq : sa = some q) => show hx < q.block from (by obtain ⟨g, rfl, h1, -⟩ := hb8 q hq; have h2 := HX0.out.lt; show hx < g; omega)); have HK2 := Lib.hid hK; have HIs2 := Lib.hid (HIs.out w2 (HK1.out.trans hK (fun _ _ h => h))); have hs2 := (HK1.out.trans hK (fun _ _ h => h)).cellAt2 hs; clear hO hK hb8 hr8)
    | (go_at_call 25; refine HIs2.out.mono ?_; rintro e w' ⟨rfl, rfl⟩))
  rw [HPw.out]
  clear HPw HIs2 HSt1
  have HKw := Lib.hid (HK1.out.trans HK2.out (fun _ _ h => h))
  have HX2 := Lib.hid (HX0.out.kp HK2.out (fun h => h))
  have HM2 := Lib.hid (HM0.out.kp HK2.out (fun h => h))
  have HR2 := Lib.hid (HR0.out.kp HK2.out (fun h => h))
  clear HX0 HM0 HR0
  go_loopw [25] (fun v25 wr => ∃ k q : Nat, v25 = .int .i64 (k : Int) ∧ k ≤ P ∧ Blk wr hx #[.map (some b), .int .i64 (badK H B k), .int .i64 (-1), .int .i64 (-1)] 42 ∧ IMI wr b q (succK H X k) ∧ q ≤ k ∧ Kp (fun j => j = hx ∨ j = b) w2 wr) (fun v25 _ => P - (intOf v25).toNat)
  case atStart => exact ⟨0, 0, rfl, Nat.zero_le _, HX2.out, HM2.out, Nat.le_refl _, Kp.refl _ _⟩
  case round =>
    clear HX2 HM2 hs2
    obtain ⟨k, q, rfl, hk, hBk, hIm, hq, hK⟩ := hrel
    have HBk := Lib.hid hBk
    have HIm := Lib.hid hIm
    have HK := Lib.hid hK
    clear hBk hIm hK
    obtain ⟨wp, rfl⟩ : ∃ wp : World, wp = wr := ⟨_, rfl⟩
    have HKp := Lib.hid (HKw.out.trans HK.out (fun j hj h => by have := HLo.out; omega))
    by_cases hlt : k < P
    · have HIk := Lib.hid (HInp.out wp HKp.out k hlt)
      have HBS := Lib.hid (fun u (hu : Kp (fun j => j = hx ∨ j = b) w2 u) => show BS u sa nl (stN C n) from ⟨HRs.out.kp hu (fun p hp e => by have := HBs.out p hp; have := HLo.out; omega), HSl.out, by omega⟩)
      have hsp := HKp.out.cellAt2 hs
      have hk256 : k < 256 := by omega
      obtain ⟨y, hy⟩ : ∃ y, H k = y := ⟨_, rfl⟩
      cases y with
      | false =>
        go_upto_region 7 with (go_at_call 15; refine HIk.out.mono ?_; rintro e w3 ⟨v10, rfl, hO, hK3⟩; obtain ⟨ia, ic, e10, -, -, hb10, hr10⟩ := hO.form; rw [bv_length, HIl.out] at e10; subst e10; have HRi := Lib.hid hr10; have HBi := Lib.hid (fun q (hq : ia = some q) => show q.block ≠ hx ∧ q.block ≠ b from (by obtain ⟨g, rfl, h1, -⟩ := hb10 q hq; have h2 := HBk.out.lt; have h3 := HIm.out.lt; exact ⟨fun e => by simp only at e; omega, fun e => by simp only at e; omega⟩)); have HK3 := Lib.hid hK3; have HK3w := Lib.hid (HKp.out.trans hK3 (fun _ _ h => h)); have HK3b := Lib.hid (HK.out.trans (hK3.mono (fun _ _ h => h.elim)) (fun _ _ h => h)); have HBI := Lib.hid (show BS w3 ia ni (inN2 C k) from ⟨hr10, HIl.out k, by omega⟩); clear hO hK3 hb10 hr10)
        have HHk := Lib.hid (HHo.out w3 HK3w.out k sa sc ia ic (HBS.out w3 HK3b.out) HBI.out)
        rw [hy] at HHk
        have hs3 := HK3w.out.cellAt2 hs
        go_wp2_with (go_at_call 39; refine HHk.out.mono ?_; rintro e w4 ⟨rfl, hK4⟩; have HK4 := Lib.hid hK4; clear hK4)
        go_roundw
        case rel => exact ⟨k + 1, q, by go_num, hlt, by
          have e : badK H B (k + 1) = badK H B k := by show (if _ then _ else _) = _; rw [if_neg (fun z => by rw [hy] at z; cases z.2.1)]
          rw [e]; exact (HBk.out.kp HK3.out (fun h => h)).kp HK4.out (fun h => h), by rw [succK_skip hy]; exact (HIm.out.kp HK3.out (fun h => h)).kp HK4.out (fun h => h), by omega, HK3b.out.trans (HK4.out.mono (fun _ _ h => h.elim)) (fun _ _ h => h)⟩
        case measure => simp [intOf]; omega
      | true =>
        have HHt := Lib.hid hy
        by_cases hbk : badK H B k = -1
        · obtain ⟨yb, hyb⟩ : ∃ y, B k = y := ⟨_, rfl⟩
          cases yb with
          | true =>
            have HBe := Lib.hid (show badK H B (k + 1) = (k : Int) by show (if _ then _ else _) = _; rw [if_pos ⟨hbk, HHt.out, hyb⟩])
            have HYb := Lib.hid hyb
            rw [hbk] at HBk
            clear hbk hyb
            go_upto_region 7 with (go_at_call 15; refine HIk.out.mono ?_; rintro e w3 ⟨v10, rfl, hO, hK3⟩; obtain ⟨ia, ic, e10, -, -, hb10, hr10⟩ := hO.form; rw [bv_length, HIl.out] at e10; subst e10; have HRi := Lib.hid hr10; have HBi := Lib.hid (fun q (hq : ia = some q) => show q.block ≠ hx ∧ q.block ≠ b from (by obtain ⟨g, rfl, h1, -⟩ := hb10 q hq; have h2 := HBk.out.lt; have h3 := HIm.out.lt; exact ⟨fun e => by simp only at e; omega, fun e => by simp only at e; omega⟩)); have HK3 := Lib.hid hK3; have HK3w := Lib.hid (HKp.out.trans hK3 (fun _ _ h => h)); have HK3b := Lib.hid (HK.out.trans (hK3.mono (fun _ _ h => h.elim)) (fun _ _ h => h)); have HBI := Lib.hid (show BS w3 ia ni (inN2 C k) from ⟨hr10, HIl.out k, by omega⟩); clear hO hK3 hb10 hr10)
            have HHk := Lib.hid (HHo.out w3 HK3w.out k sa sc ia ic (HBS.out w3 HK3b.out) HBI.out)
            rw [HHt.out] at HHk
            have hs3 := HK3w.out.cellAt2 hs
            go_upto_region 8 with (go_at_call 39; refine HHk.out.mono ?_; rintro e w4 ⟨rfl, hK4⟩; have HK4 := Lib.hid hK4; clear hK4)
            have HB4 := Lib.hid ((HBk.out.kp HK3.out (fun h => h)).kp HK4.out (fun h => h))
            have HI4 := Lib.hid ((HIm.out.kp HK3.out (fun h => h)).kp HK4.out (fun h => h))
            have HK4b := Lib.hid (HK3b.out.trans (HK4.out.mono (fun _ _ h => h.elim)) (fun _ _ h => h))
            have HK4w := Lib.hid (HK3w.out.trans HK4.out (fun _ _ h => h))
            have HBI4 := Lib.hid (HBI.out.kp HK4.out)
            have hs4 := HK4w.out.cellAt2 hs
            have b1 := HB4.out.cell (i := 1) rfl
            have HBd := Lib.hid (HBa.out w4 HK4w.out k sa sc ia ic (HBS.out w4 HK4b.out) HBI4.out)
            rw [HYb.out] at HBd
            go_upto_region 9 with (go_at_call 40; refine HBd.out.mono ?_; rintro e w5 ⟨rfl, hK5⟩; have HK5 := Lib.hid hK5; clear hK5)
            have HB5 := Lib.hid (HB4.out.kp HK5.out (fun h => h))
            have n1 := HB5.out.cell (i := 1) rfl
            have f1 := HB5.out.free 1
            go_upto_region 10 with fail
            have HKs := Lib.hid (Kp.set w5 ⟨hx, 1, none⟩ (.int .i64 (k : Int)))
            have HBt := Lib.hid (show Blk (w5.setCell ⟨hx, 1, none⟩ (.int .i64 (k : Int))) hx #[.map (some b), .int .i64 (k : Int), .int .i64 (-1), .int .i64 (-1)] 42 from HB5.out.set_same 1 _)
            have HIt := Lib.hid ((HI4.out.kp HK5.out (fun h => h)).kp HKs.out (fun e => by have := HLo.out; have e2 : b = hx := e; omega))
            have HKt := Lib.hid ((HK4b.out.trans (HK5.out.mono (T := fun j => j = hx ∨ j = b) (fun _ _ h => h.elim)) (fun _ _ h => h)).trans (HKs.out.mono (T := fun j => j = hx ∨ j = b) (fun _ _ h => .inl h)) (fun _ _ h => h))
            have HBIt := Lib.hid (show BS (w5.setCell ⟨hx, 1, none⟩ (.int .i64 (k : Int))) ia ni (inN2 C k) from ⟨(HBI4.out.kp HK5.out).row.kp HKs.out (fun p hp e => (HBi.out p hp).1 e), HBI.out.len, HBI.out.most⟩)
            obtain ⟨wt, hwt⟩ : ∃ wt, w5.setCell ⟨hx, 1, none⟩ (.int .i64 (k : Int)) = wt := ⟨_, rfl⟩
            rw [hwt] at HBt HIt HKt HBIt
            rw [hwt]
            clear hwt HKs
            have HKtw := Lib.hid (HKw.out.trans HKt.out (fun j hj h => by have := HLo.out; omega))
            have HNt := Lib.hid (HNx.out wt HKtw.out k sa sc ia ic (HBS.out wt HKt.out) HBIt.out)
            have hst := HKtw.out.cellAt2 hs
            go_upto_region 11 with (first
              | (go_at_call 42; refine HNt.out.mono ?_; rintro e w7 ⟨v60, rfl, hO7, hK7⟩; obtain ⟨na, nc, e60, -, -, -, hr60⟩ := hO7.form; rw [bv_length, HNl.out] at e60; subst e60; have HNk := Lib.hid (HNm.out w7 k na nc hr60); have HK7 := Lib.hid hK7; clear hO7 hr60 hK7)
              | (go_at_call 41; refine HNk.out.mono ?_; rintro e w' ⟨rfl, rfl⟩))
            have HB7 := Lib.hid (HBt.out.kp HK7.out (fun h => h))
            have hI7 := HIt.out.kp HK7.out (fun h => h)
            have hX9 := HXl.out k
            have hlook := hI7.look (x := (X k : Int)) ⟨by omega, by omega⟩
            have m0 := HB7.out.cell (i := 0) rfl
            have HK7b := Lib.hid (HKt.out.trans (HK7.out.mono (fun _ _ h => h.elim)) (fun _ _ h => h))
            cases hfx : succK H X k (X k : Int) with
            | some i0 =>
              have HTh := Lib.hid (succK_there (H := H) (X := X) (k := k) (by rw [hfx]; rfl))
              rw [hfx] at hlook
              have hlook2 : (Instr.lookup 40 (.map (some b)) (.int .i64 (X k : Int)) true).run Try.prog w7 = .ok (.tuple #[.int .i64 i0, .bool true]) w7 := hlook
              have HI7 := Lib.hid hI7
              clear hlook hfx hI7
              obtain ⟨x, hxx⟩ : ∃ x : Int, (X k : Int) = x := ⟨_, rfl⟩
              rw [hxx] at hlook2
              rw [hxx]
              clear hxx
              go_wp2_with fail
              go_roundw
              case rel => exact ⟨k + 1, q, by go_num, hlt, by rw [HBe.out]; exact HB7.out, by rw [HTh.out]; exact HI7.out, by omega, HK7b.out⟩
              case measure => simp [intOf]; omega
            | none =>
              have HPt := Lib.hid (succK_put (H := H) (X := X) (k := k) HHt.out (by rw [hfx]; rfl))
              rw [hfx] at hlook
              have hlook2 : (Instr.lookup 40 (.map (some b)) (.int .i64 (X k : Int)) true).run Try.prog w7 = .ok (.tuple #[.int .i64 0, .bool false]) w7 := hlook
              obtain ⟨w8, hput, hI8, hK8⟩ := hI7.put (by unfold maxLen; omega) (x := (X k : Int)) ⟨by omega, by omega⟩ (v := (k : Int)) ⟨by omega, by omega⟩
              have HI8 := Lib.hid hI8
              have HK8 := Lib.hid (HK7b.out.trans (hK8.mono (T := fun j => j = hx ∨ j = b) (fun _ _ h => .inr h)) (fun _ _ h => h))
              have HB8 := Lib.hid (HB7.out.kp hK8 (fun e => by have := HLo.out; omega))
              clear hlook hfx hI7 hI8 hK8
              obtain ⟨x, hxx⟩ : ∃ x : Int, (X k : Int) = x := ⟨_, rfl⟩
              rw [hxx] at hlook2 hput HI8 HPt
              rw [hxx]
              clear hxx
              go_wp2_with fail
              go_roundw
              case rel => exact ⟨k + 1, q + 1, by go_num, hlt, by rw [HBe.out]; exact HB8.out, by rw [HPt.out]; exact HI8.out, by omega, HK8.out⟩
              case measure => simp [intOf]; omega
          | false =>
            have HBe := Lib.hid (show badK H B (k + 1) = -1 by show (if _ then _ else _) = _; rw [if_neg (fun z => by rw [hyb] at z; cases z.2.2)]; exact hbk)
            have HYb := Lib.hid hyb
            rw [hbk] at HBk
            clear hbk hyb
            go_upto_region 7 with (go_at_call 15; refine HIk.out.mono ?_; rintro e w3 ⟨v10, rfl, hO, hK3⟩; obtain ⟨ia, ic, e10, -, -, hb10, hr10⟩ := hO.form; rw [bv_length, HIl.out] at e10; subst e10; have HRi := Lib.hid hr10; have HBi := Lib.hid (fun q (hq : ia = some q) => show q.block ≠ hx ∧ q.block ≠ b from (by obtain ⟨g, rfl, h1, -⟩ := hb10 q hq; have h2 := HBk.out.lt; have h3 := HIm.out.lt; exact ⟨fun e => by simp only at e; omega, fun e => by simp only at e; omega⟩)); have HK3 := Lib.hid hK3; have HK3w := Lib.hid (HKp.out.trans hK3 (fun _ _ h => h)); have HK3b := Lib.hid (HK.out.trans (hK3.mono (fun _ _ h => h.elim)) (fun _ _ h => h)); have HBI := Lib.hid (show BS w3 ia ni (inN2 C k) from ⟨hr10, HIl.out k, by omega⟩); clear hO hK3 hb10 hr10)
            have HHk := Lib.hid (HHo.out w3 HK3w.out k sa sc ia ic (HBS.out w3 HK3b.out) HBI.out)
            rw [HHt.out] at HHk
            have hs3 := HK3w.out.cellAt2 hs
            go_upto_region 8 with (go_at_call 39; refine HHk.out.mono ?_; rintro e w4 ⟨rfl, hK4⟩; have HK4 := Lib.hid hK4; clear hK4)
            have HB4 := Lib.hid ((HBk.out.kp HK3.out (fun h => h)).kp HK4.out (fun h => h))
            have HI4 := Lib.hid ((HIm.out.kp HK3.out (fun h => h)).kp HK4.out (fun h => h))
            have HK4b := Lib.hid (HK3b.out.trans (HK4.out.mono (fun _ _ h => h.elim)) (fun _ _ h => h))
            have HK4w := Lib.hid (HK3w.out.trans HK4.out (fun _ _ h => h))
            have HBI4 := Lib.hid (HBI.out.kp HK4.out)
            have hs4 := HK4w.out.cellAt2 hs
            have b1 := HB4.out.cell (i := 1) rfl
            have HBd := Lib.hid (HBa.out w4 HK4w.out k sa sc ia ic (HBS.out w4 HK4b.out) HBI4.out)
            rw [HYb.out] at HBd
            go_upto_region 10 with (go_at_call 40; refine HBd.out.mono ?_; rintro e w5 ⟨rfl, hK5⟩; have HK5 := Lib.hid hK5; clear hK5)
            have HBt := Lib.hid (HB4.out.kp HK5.out (fun h => h))
            have HIt := Lib.hid (HI4.out.kp HK5.out (fun h => h))
            have HKt := Lib.hid (HK4b.out.trans (HK5.out.mono (T := fun j => j = hx ∨ j = b) (fun _ _ h => h.elim)) (fun _ _ h => h))
            have HBIt := Lib.hid (HBI4.out.kp HK5.out)
            have HKtw := Lib.hid (HKw.out.trans HKt.out (fun j hj h => by have := HLo.out; omega))
            have HNt := Lib.hid (HNx.out w5 HKtw.out k sa sc ia ic (HBS.out w5 HKt.out) HBIt.out)
            have hst := HKtw.out.cellAt2 hs
            go_upto_region 11 with (first
              | (go_at_call 42; refine HNt.out.mono ?_; rintro e w7 ⟨v60, rfl, hO7, hK7⟩; obtain ⟨na, nc, e60, -, -, -, hr60⟩ := hO7.form; rw [bv_length, HNl.out] at e60; subst e60; have HNk := Lib.hid (HNm.out w7 k na nc hr60); have HK7 := Lib.hid hK7; clear hO7 hr60 hK7)
              | (go_at_call 41; refine HNk.out.mono ?_; rintro e w' ⟨rfl, rfl⟩))
            have HB7 := Lib.hid (HBt.out.kp HK7.out (fun h => h))
            have hI7 := HIt.out.kp HK7.out (fun h => h)
            have hX9 := HXl.out k
            have hlook := hI7.look (x := (X k : Int)) ⟨by omega, by omega⟩
            have m0 := HB7.out.cell (i := 0) rfl
            have HK7b := Lib.hid (HKt.out.trans (HK7.out.mono (fun _ _ h => h.elim)) (fun _ _ h => h))
            cases hfx : succK H X k (X k : Int) with
            | some i0 =>
              have HTh := Lib.hid (succK_there (H := H) (X := X) (k := k) (by rw [hfx]; rfl))
              rw [hfx] at hlook
              have hlook2 : (Instr.lookup 40 (.map (some b)) (.int .i64 (X k : Int)) true).run Try.prog w7 = .ok (.tuple #[.int .i64 i0, .bool true]) w7 := hlook
              have HI7 := Lib.hid hI7
              clear hlook hfx hI7
              obtain ⟨x, hxx⟩ : ∃ x : Int, (X k : Int) = x := ⟨_, rfl⟩
              rw [hxx] at hlook2
              rw [hxx]
              clear hxx
              go_wp2_with fail
              go_roundw
              case rel => exact ⟨k + 1, q, by go_num, hlt, by rw [HBe.out]; exact HB7.out, by rw [HTh.out]; exact HI7.out, by omega, HK7b.out⟩
              case measure => simp [intOf]; omega
            | none =>
              have HPt := Lib.hid (succK_put (H := H) (X := X) (k := k) HHt.out (by rw [hfx]; rfl))
              rw [hfx] at hlook
              have hlook2 : (Instr.lookup 40 (.map (some b)) (.int .i64 (X k : Int)) true).run Try.prog w7 = .ok (.tuple #[.int .i64 0, .bool false]) w7 := hlook
              obtain ⟨w8, hput, hI8, hK8⟩ := hI7.put (by unfold maxLen; omega) (x := (X k : Int)) ⟨by omega, by omega⟩ (v := (k : Int)) ⟨by omega, by omega⟩
              have HI8 := Lib.hid hI8
              have HK8 := Lib.hid (HK7b.out.trans (hK8.mono (T := fun j => j = hx ∨ j = b) (fun _ _ h => .inr h)) (fun _ _ h => h))
              have HB8 := Lib.hid (HB7.out.kp hK8 (fun e => by have := HLo.out; omega))
              clear hlook hfx hI7 hI8 hK8
              obtain ⟨x, hxx⟩ : ∃ x : Int, (X k : Int) = x := ⟨_, rfl⟩
              rw [hxx] at hlook2 hput HI8 HPt
              rw [hxx]
              clear hxx
              go_wp2_with fail
              go_roundw
              case rel => exact ⟨k + 1, q + 1, by go_num, hlt, by rw [HBe.out]; exact HB8.out, by rw [HPt.out]; exact HI8.out, by omega, HK8.out⟩
              case measure => simp [intOf]; omega
        · have HBe := Lib.hid (show badK H B (k + 1) = badK H B k by show (if _ then _ else _) = _; rw [if_neg (fun z => hbk z.1)])
          obtain ⟨bv0, hbv⟩ : ∃ x, badK H B k = x := ⟨_, rfl⟩
          rw [hbv] at hbk HBk HBe
          have dbk : (bv0 == -1) = false := by simp [hbk]
          clear hbk hbv
          go_upto_region 7 with (go_at_call 15; refine HIk.out.mono ?_; rintro e w3 ⟨v10, rfl, hO, hK3⟩; obtain ⟨ia, ic, e10, -, -, hb10, hr10⟩ := hO.form; rw [bv_length, HIl.out] at e10; subst e10; have HRi := Lib.hid hr10; have HBi := Lib.hid (fun q (hq : ia = some q) => show q.block ≠ hx ∧ q.block ≠ b from (by obtain ⟨g, rfl, h1, -⟩ := hb10 q hq; have h2 := HBk.out.lt; have h3 := HIm.out.lt; exact ⟨fun e => by simp only at e; omega, fun e => by simp only at e; omega⟩)); have HK3 := Lib.hid hK3; have HK3w := Lib.hid (HKp.out.trans hK3 (fun _ _ h => h)); have HK3b := Lib.hid (HK.out.trans (hK3.mono (fun _ _ h => h.elim)) (fun _ _ h => h)); have HBI := Lib.hid (show BS w3 ia ni (inN2 C k) from ⟨hr10, HIl.out k, by omega⟩); clear hO hK3 hb10 hr10)
          have HHk := Lib.hid (HHo.out w3 HK3w.out k sa sc ia ic (HBS.out w3 HK3b.out) HBI.out)
          rw [HHt.out] at HHk
          have hs3 := HK3w.out.cellAt2 hs
          go_upto_region 8 with (go_at_call 39; refine HHk.out.mono ?_; rintro e w4 ⟨rfl, hK4⟩; have HK4 := Lib.hid hK4; clear hK4)
          have HB4 := Lib.hid ((HBk.out.kp HK3.out (fun h => h)).kp HK4.out (fun h => h))
          have HI4 := Lib.hid ((HIm.out.kp HK3.out (fun h => h)).kp HK4.out (fun h => h))
          have HK4b := Lib.hid (HK3b.out.trans (HK4.out.mono (fun _ _ h => h.elim)) (fun _ _ h => h))
          have HK4w := Lib.hid (HK3w.out.trans HK4.out (fun _ _ h => h))
          have HBI4 := Lib.hid (HBI.out.kp HK4.out)
          have hs4 := HK4w.out.cellAt2 hs
          have b1 := HB4.out.cell (i := 1) rfl
          go_upto_region 10 with fail
          have HBt := HB4
          have HIt := HI4
          have HKt := HK4b
          have HBIt := HBI4
          have HKtw := Lib.hid (HKw.out.trans HKt.out (fun j hj h => by have := HLo.out; omega))
          have HNt := Lib.hid (HNx.out w4 HKtw.out k sa sc ia ic (HBS.out w4 HKt.out) HBIt.out)
          have hst := HKtw.out.cellAt2 hs
          go_upto_region 11 with (first
            | (go_at_call 42; refine HNt.out.mono ?_; rintro e w7 ⟨v60, rfl, hO7, hK7⟩; obtain ⟨na, nc, e60, -, -, -, hr60⟩ := hO7.form; rw [bv_length, HNl.out] at e60; subst e60; have HNk := Lib.hid (HNm.out w7 k na nc hr60); have HK7 := Lib.hid hK7; clear hO7 hr60 hK7)
            | (go_at_call 41; refine HNk.out.mono ?_; rintro e w' ⟨rfl, rfl⟩))
          have HB7 := Lib.hid (HBt.out.kp HK7.out (fun h => h))
          have hI7 := HIt.out.kp HK7.out (fun h => h)
          have hX9 := HXl.out k
          have hlook := hI7.look (x := (X k : Int)) ⟨by omega, by omega⟩
          have m0 := HB7.out.cell (i := 0) rfl
          have HK7b := Lib.hid (HKt.out.trans (HK7.out.mono (fun _ _ h => h.elim)) (fun _ _ h => h))
          cases hfx : succK H X k (X k : Int) with
          | some i0 =>
            have HTh := Lib.hid (succK_there (H := H) (X := X) (k := k) (by rw [hfx]; rfl))
            rw [hfx] at hlook
            have hlook2 : (Instr.lookup 40 (.map (some b)) (.int .i64 (X k : Int)) true).run Try.prog w7 = .ok (.tuple #[.int .i64 i0, .bool true]) w7 := hlook
            have HI7 := Lib.hid hI7
            clear hlook hfx hI7
            obtain ⟨x, hxx⟩ : ∃ x : Int, (X k : Int) = x := ⟨_, rfl⟩
            rw [hxx] at hlook2
            rw [hxx]
            clear hxx
            go_wp2_with fail
            go_roundw
            case rel => exact ⟨k + 1, q, by go_num, hlt, by rw [HBe.out]; exact HB7.out, by rw [HTh.out]; exact HI7.out, by omega, HK7b.out⟩
            case measure => simp [intOf]; omega
          | none =>
            have HPt := Lib.hid (succK_put (H := H) (X := X) (k := k) HHt.out (by rw [hfx]; rfl))
            rw [hfx] at hlook
            have hlook2 : (Instr.lookup 40 (.map (some b)) (.int .i64 (X k : Int)) true).run Try.prog w7 = .ok (.tuple #[.int .i64 0, .bool false]) w7 := hlook
            obtain ⟨w8, hput, hI8, hK8⟩ := hI7.put (by unfold maxLen; omega) (x := (X k : Int)) ⟨by omega, by omega⟩ (v := (k : Int)) ⟨by omega, by omega⟩
            have HI8 := Lib.hid hI8
            have HK8 := Lib.hid (HK7b.out.trans (hK8.mono (T := fun j => j = hx ∨ j = b) (fun _ _ h => .inr h)) (fun _ _ h => h))
            have HB8 := Lib.hid (HB7.out.kp hK8 (fun e => by have := HLo.out; omega))
            clear hlook hfx hI7 hI8 hK8
            obtain ⟨x, hxx⟩ : ∃ x : Int, (X k : Int) = x := ⟨_, rfl⟩
            rw [hxx] at hlook2 hput HI8 HPt
            rw [hxx]
            clear hxx
            go_wp2_with fail
            go_roundw
            case rel => exact ⟨k + 1, q + 1, by go_num, hlt, by rw [HBe.out]; exact HB8.out, by rw [HPt.out]; exact HI8.out, by omega, HK8.out⟩
            case measure => simp [intOf]; omega
    · have hk' : k = P := by omega
      have HE := Lib.hid (show succK H X k = F2 ∧ badK H B k = B2 by rw [hk']; exact ⟨HRw.out.1.symm, HRw.out.2.symm⟩)
      have hno : decide ((k : Int) < (P : Int)) = false := by simp; omega
      rw [HE.out.2] at HBk
      rw [HE.out.1] at HIm
      have HRf := Lib.hid (HR2.out.kp HK.out (fun e => by have := HLo.out; omega))
      have x0 := HBk.out.cell (i := 0) rfl
      have x1 := HBk.out.cell (i := 1) rfl
      have x2 := HBk.out.cell (i := 2) rfl
      have x3 := HBk.out.cell (i := 3) rfl
      have y0 := HRf.out.cell (i := 0) rfl
      have y1 := HRf.out.cell (i := 1) rfl
      have y2 := HRf.out.cell (i := 2) rfl
      have y3 := HRf.out.cell (i := 3) rfl
      have z0 := HRf.out.free 0
      have z1 := HRf.out.free 1
      have z2 := HRf.out.free 2
      have z3 := HRf.out.free 3
      clear hk'
      go_wp2_with fail
      have hB := (((HRf.out.set_same 0 (.map (some b))).set_same 1 (.int .i64 B2)).set_same 2 (.int .i64 (-1))).set_same 3 (.int .i64 (-1))
      have q1 := (Kp.refl (fun j => j = r0) wp).setCell (p := ⟨r0, 0, none⟩) (fun _ => rfl) (.map (some b))
      have q2 := q1.setCell (p := ⟨r0, 1, none⟩) (fun _ => rfl) (.int .i64 B2)
      have q3 := q2.setCell (p := ⟨r0, 2, none⟩) (fun _ => rfl) (.int .i64 (-1))
      have hKf := q3.setCell (p := ⟨r0, 3, none⟩) (fun _ => rfl) (.int .i64 (-1))
      clear q1 q2 q3
      obtain ⟨wf, hwf⟩ : ∃ wf, ((((wp.setCell ⟨r0, 0, none⟩ (.map (some b))).setCell ⟨r0, 1, none⟩ (.int .i64 B2)).setCell ⟨r0, 2, none⟩ (.int .i64 (-1))).setCell ⟨r0, 3, none⟩ (.int .i64 (-1))) = wf := ⟨_, rfl⟩
      rw [hwf] at hB hKf
      rw [hwf]
      have HKf := Lib.hid hKf
      have v0 := hB.cell (i := 0) (v := .map (some b)) rfl
      have v1 := hB.cell (i := 1) (v := .int .i64 B2) rfl
      have v2 := hB.cell (i := 2) (v := .int .i64 (-1)) rfl
      have v3 := hB.cell (i := 3) (v := .int .i64 (-1)) rfl
      clear hB hKf hwf x0 x1 x2 x3 y0 y1 y2 y3 z0 z1 z2 z3
      refine bodyPost_ret (v := .agg #[.map (some b), .int .i64 B2, .int .i64 (-1), .int .i64 (-1)]) ?_ rfl ⟨⟨b, q, rfl, HIm.out.kp HKf.out (fun e => by have := HLo.out; omega), by have := HLo.out; omega, by omega⟩, HKp.out.trans HKf.out (fun j hj e => by have := HLo.out; omega)⟩
      simp [results, Try.results30, go_sem, v0, v1, v2, v3]

end Go.Proofs.Ytnoknecfdnjomaa

/-
  explore: the rows of a space in memory.
-/
namespace Go.Proofs.Ytnoknecfdnjomaa
open Go.RowKit

/-- the cell j of row t -/
def rowV (mb : Nat → Nat) (BD R D : Nat → Int) (t j : Nat) : Value := if j = 0 then .map (some (mb t)) else if j = 1 then .int .i64 (BD t) else if j = 2 then .int .i64 (R t) else .int .i64 (D t)
def rowC (n : Nat) (h : Nat → Value) : Array Value := ((List.range (n * 4)).map h).toArray
def rowH (mb : Nat → Nat) (BD R D : Nat → Int) (i : Nat) : Value := rowV mb BD R D (i / 4) (i % 4)
theorem rowC_at {n : Nat} {h : Nat → Value} {i : Nat} (hi : i < n * 4) : (rowC n h)[i]? = some (h i) := by simp [rowC, hi]
theorem rowC_set {n : Nat} {h : Nat → Value} {i : Nat} {x : Value} : (rowC n h).setIfInBounds i x = rowC n (fun j => if j = i then x else h j) := by
  unfold rowC
  rw [List.setIfInBounds_toArray]
  congr 1
  apply List.ext_getElem?
  intro j
  rw [List.getElem?_set]
  by_cases hj : j < n * 4
  · by_cases e : i = j
    · subst e; simp [hj]
    · simp [hj, e]; exact fun q => absurd q.symm e
  · by_cases e : i = j
    · subst e; simp [hj]
    · simp [hj, e]
theorem rowC_congr {n : Nat} {h h' : Nat → Value} (e : ∀ i, i < n * 4 → h i = h' i) : rowC n h = rowC n h' := by
  unfold rowC
  congr 1
  exact List.map_congr_left fun i hi => e i (List.mem_range.1 hi)

/-- the rows of a space at block g: maps of what is behind, and three numbers -/
structure RowsS (w : World) (g n : Nat) (mb : Nat → Nat) (F : Nat → Int → Option Int) (BD R D : Nat → Int) : Prop where
  blk : Blk w g (rowC n (rowH mb BD R D)) 42
  map : ∀ t, t < n → ∃ q, IMI w (mb t) q (F t) ∧ q ≤ 256
  ne : ∀ t, t < n → mb t ≠ g

section
variable {w w' : World} {g n : Nat} {mb : Nat → Nat} {F : Nat → Int → Option Int} {BD R D : Nat → Int}
theorem RowsS.kpS {S : Nat → Prop} (h : RowsS w g n mb F BD R D) (k : Kp S w w') (h1 : ¬ S g) (h2 : ∀ t, t < n → ¬ S (mb t)) : RowsS w' g n mb F BD R D :=
  ⟨h.blk.kp k h1, fun t ht => by
    obtain ⟨q, h3, h4⟩ := h.map t ht
    exact ⟨q, h3.kp k (h2 t ht), h4⟩, h.ne⟩
theorem RowsS.kp (h : RowsS w g n mb F BD R D) (k : Kp (fun _ => False) w w') : RowsS w' g n mb F BD R D := h.kpS k (fun h => h) (fun _ _ h => h)
theorem RowsS.cell (h : RowsS w g n mb F BD R D) {t j : Nat} (ht : t < n) (hj : j < 4) : w.cell? ⟨g, t * 4 + j, none⟩ = some (rowV mb BD R D t j) := by
  have := h.blk.cell (i := t * 4 + j) (rowC_at (by omega))
  rw [this]
  unfold rowH
  rw [show (t * 4 + j) / 4 = t by omega, show (t * 4 + j) % 4 = j by omega]
theorem RowsS.cell0 (h : RowsS w g n mb F BD R D) {t : Nat} (ht : t < n) : w.cell? ⟨g, t * 4, none⟩ = some (.map (some (mb t))) := h.cell ht (j := 0) (by decide)
theorem RowsS.cell1 (h : RowsS w g n mb F BD R D) {t : Nat} (ht : t < n) : w.cell? ⟨g, t * 4 + 1, none⟩ = some (.int .i64 (BD t)) := h.cell ht (j := 1) (by decide)
theorem RowsS.cell2 (h : RowsS w g n mb F BD R D) {t : Nat} (ht : t < n) : w.cell? ⟨g, t * 4 + 2, none⟩ = some (.int .i64 (R t)) := h.cell ht (j := 2) (by decide)
theorem RowsS.cell3 (h : RowsS w g n mb F BD R D) {t : Nat} (ht : t < n) : w.cell? ⟨g, t * 4 + 3, none⟩ = some (.int .i64 (D t)) := h.cell ht (j := 3) (by decide)
/-- one number at a place -/
def upI (f : Nat → Int) (t : Nat) (x : Int) : Nat → Int := fun s => if s = t then x else f s
theorem RowsS.setR (h : RowsS w g n mb F BD R D) {t : Nat} (ht : t < n) (x : Int) : RowsS (w.setCell ⟨g, t * 4 + 2, none⟩ (.int .i64 x)) g n mb F BD (upI R t x) D := by
  have k := Kp.set w ⟨g, t * 4 + 2, none⟩ (.int .i64 x)
  refine ⟨?_, fun s hs => ?_, h.ne⟩
  · have := h.blk.set_same (t * 4 + 2) (.int .i64 x)
    rw [rowC_set] at this
    rw [show rowC n (rowH mb BD (upI R t x) D) = rowC n (fun j => if j = t * 4 + 2 then .int .i64 x else rowH mb BD R D j) from rowC_congr fun i hi => by
      unfold rowH rowV upI
      by_cases e : i = t * 4 + 2
      · rw [if_pos e, e, show (t * 4 + 2) / 4 = t by omega, show (t * 4 + 2) % 4 = 2 by omega]
        simp
      · rw [if_neg e]
        by_cases e2 : i % 4 = 2
        · have : i / 4 ≠ t := fun q => e (by omega)
          simp [e2, this]
        · simp [e2]]
    exact this
  · obtain ⟨q, h3, h4⟩ := h.map s hs
    exact ⟨q, h3.kp k (fun e => h.ne s hs e), h4⟩
theorem RowsS.setD (h : RowsS w g n mb F BD R D) {t : Nat} (ht : t < n) (x : Int) : RowsS (w.setCell ⟨g, t * 4 + 3, none⟩ (.int .i64 x)) g n mb F BD R (upI D t x) := by
  have k := Kp.set w ⟨g, t * 4 + 3, none⟩ (.int .i64 x)
  refine ⟨?_, fun s hs => ?_, h.ne⟩
  · have := h.blk.set_same (t * 4 + 3) (.int .i64 x)
    rw [rowC_set] at this
    rw [show rowC n (rowH mb BD R (upI D t x)) = rowC n (fun j => if j = t * 4 + 3 then .int .i64 x else rowH mb BD R D j) from rowC_congr fun i hi => by
      unfold rowH rowV upI
      by_cases e : i = t * 4 + 3
      · rw [if_pos e, e, show (t * 4 + 3) / 4 = t by omega, show (t * 4 + 3) % 4 = 3 by omega]
        simp
      · rw [if_neg e]
        by_cases e2 : i % 4 = 3
        · have : i / 4 ≠ t := fun q => e (by omega)
          simp [e2, this]
        · have : i % 4 = 0 ∨ i % 4 = 1 ∨ i % 4 = 2 := by omega
          rcases this with e3 | e3 | e3 <;> simp [e3]]
    exact this
  · obtain ⟨q, h3, h4⟩ := h.map s hs
    exact ⟨q, h3.kp k (fun e => h.ne s hs e), h4⟩
end

end Go.Proofs.Ytnoknecfdnjomaa

/-
  A graph of few states: in how many steps states are reached. No program in sight.
-/
namespace Go.Proofs.Ytnoknecfdnjomaa
open Go.RowKit

section
variable {n : Nat} {st : Nat → Bool} {E : Nat → Nat → Bool}

/-- reached in at most k steps -/
def seenG (n : Nat) (st : Nat → Bool) (E : Nat → Nat → Bool) : Nat → Nat → Bool
  | 0, t => st t
  | k + 1, t => seenG n st E k t || (List.range n).any (fun s => seenG n st E k s && E s t)
/-- after how many steps, at most m; -1: never -/
def distG (n : Nat) (st : Nat → Bool) (E : Nat → Nat → Bool) : Nat → Nat → Int
  | 0, t => if st t = true then 0 else -1
  | m + 1, t => if seenG n st E m t = true then distG n st E m t else if seenG n st E (m + 1) t = true then (m : Int) + 1 else -1

theorem seenG_succ {k t : Nat} : seenG n st E (k + 1) t = true ↔ seenG n st E k t = true ∨ ∃ s, s < n ∧ seenG n st E k s = true ∧ E s t = true := by
  show (seenG n st E k t || (List.range n).any (fun s => seenG n st E k s && E s t)) = true ↔ _
  rw [Bool.or_eq_true, List.any_eq_true]
  constructor
  · rintro (h | ⟨s, hs, h⟩)
    · exact .inl h
    · rw [Bool.and_eq_true] at h
      exact .inr ⟨s, List.mem_range.1 hs, h⟩
  · rintro (h | ⟨s, hs, h⟩)
    · exact .inl h
    · exact .inr ⟨s, List.mem_range.2 hs, by rw [Bool.and_eq_true]; exact h⟩
theorem distG_cases : ∀ m t, (seenG n st E m t = false ∧ distG n st E m t = -1) ∨ (seenG n st E m t = true ∧ 0 ≤ distG n st E m t ∧ distG n st E m t ≤ m)
  | 0, t => by
    unfold distG seenG
    cases st t with
    | true => exact .inr ⟨rfl, by simp, by simp⟩
    | false => exact .inl ⟨rfl, by simp⟩
  | m + 1, t => by
    unfold distG
    rcases distG_cases m t with ⟨h1, h2⟩ | ⟨h1, h2, h3⟩
    · rw [if_neg (by rw [h1]; decide)]
      cases h : seenG n st E (m + 1) t with
      | true => exact .inr ⟨rfl, by rw [if_pos rfl]; omega, by rw [if_pos rfl]; omega⟩
      | false => exact .inl ⟨rfl, by rw [if_neg (by decide)]⟩
    · rw [if_pos h1]
      exact .inr ⟨seenG_succ.2 (.inl h1), h2, by omega⟩
theorem distG_neg {m t : Nat} : distG n st E m t = -1 ↔ seenG n st E m t = false := by
  rcases distG_cases (n := n) (st := st) (E := E) m t with ⟨h1, h2⟩ | ⟨h1, h2, _⟩
  · exact ⟨fun _ => h1, fun _ => h2⟩
  · exact ⟨fun h => by omega, fun h => by rw [h1] at h; cases h⟩
theorem distG_keep {m t : Nat} (h : distG n st E m t ≠ -1) : distG n st E (m + 1) t = distG n st E m t := by
  have : seenG n st E m t = true := by
    cases e : seenG n st E m t with
    | true => rfl
    | false => exact absurd (distG_neg.2 e) h
  show (if seenG n st E m t = true then distG n st E m t else _) = _
  rw [if_pos this]
/-- one step more -/
theorem distG_step {m t : Nat} (h : distG n st E m t = -1) : distG n st E (m + 1) t = if ∃ s, s < n ∧ distG n st E m s = m ∧ E s t = true then (m : Int) + 1 else -1 := by
  have h0 := distG_neg.1 h
  show (if seenG n st E m t = true then distG n st E m t else if seenG n st E (m + 1) t = true then (m : Int) + 1 else -1) = _
  rw [if_neg (by rw [h0]; decide)]
  have key : seenG n st E (m + 1) t = true ↔ ∃ s, s < n ∧ distG n st E m s = m ∧ E s t = true := by
    constructor
    · intro hs
      rcases seenG_succ.1 hs with q | ⟨s, hs1, hs2, hs3⟩
      · rw [h0] at q; cases q
      · refine ⟨s, hs1, ?_, hs3⟩
        cases m with
        | zero =>
          unfold distG
          rw [if_pos (show st s = true from hs2)]; rfl
        | succ m =>
          unfold distG
          by_cases q : seenG n st E m s = true
          · have : seenG n st E (m + 1) t = true := seenG_succ.2 (.inr ⟨s, hs1, q, hs3⟩)
            rw [h0] at this; cases this
          · rw [if_neg q, if_pos hs2]; omega
    · rintro ⟨s, hs1, hs2, hs3⟩
      refine seenG_succ.2 (.inr ⟨s, hs1, ?_, hs3⟩)
      rcases distG_cases (n := n) (st := st) (E := E) m s with ⟨_, q⟩ | ⟨q, _⟩
      · omega
      · exact q
  by_cases q : seenG n st E (m + 1) t = true
  · rw [if_pos q, if_pos (key.1 q)]
  · rw [if_neg q, if_neg (fun h => q (key.2 h))]
/-- no state is reached in just m steps: none is later -/
theorem distG_still {m : Nat} (h : ∀ t, t < n → distG n st E m t ≠ m) : ∀ d t, distG n st E (m + d) t = distG n st E m t
  | 0, _ => rfl
  | d + 1, t => by
    have ih := distG_still h d
    by_cases e : distG n st E (m + d) t = -1
    · rw [← Nat.add_assoc, distG_step e, if_neg, ← ih, e]
      rintro ⟨s, hs, q, _⟩
      rw [ih] at q
      rcases distG_cases (n := n) (st := st) (E := E) m s with ⟨_, q2⟩ | ⟨_, _, q2⟩
      · omega
      · have := h s hs
        omega
    · rw [← Nat.add_assoc, distG_keep e, ih]
/-- the layers up to m are not empty: so many are seen -/
theorem layers_cnt {m : Nat} (h : ∀ k, k ≤ m → ∃ t, t < n ∧ distG n st E m t = k) : m < n := by
  -- a place for each layer, all others
  have hex : ∀ k, ∃ t, k ≤ m → t < n ∧ distG n st E m t = k := fun k => by
    by_cases hk : k ≤ m
    · obtain ⟨t, ht⟩ := h k hk; exact ⟨t, fun _ => ht⟩
    · exact ⟨0, fun q => absurd q hk⟩
  have hf : ∃ f : Nat → Nat, ∀ k, k ≤ m → f k < n ∧ distG n st E m (f k) = k := ⟨fun k => (hex k).choose, fun k => (hex k).choose_spec⟩
  obtain ⟨f, hf⟩ := hf
  have inj : ∀ i j, i ≤ m → j ≤ m → f i = f j → i = j := fun i j hi hj e => by
    have h1 := (hf i hi).2
    have h2 := (hf j hj).2
    rw [e] at h1
    omega
  -- the list of places has no doubles
  have nd : ((List.range (m + 1)).map f).Nodup := by
    rw [List.nodup_iff_pairwise_ne, List.pairwise_map]
    refine List.Pairwise.imp_of_mem (fun {a b} ha hb hab => ?_) List.nodup_range
    intro e
    exact hab (inj a b (by have := List.mem_range.1 ha; omega) (by have := List.mem_range.1 hb; omega) e)
  have sub : (List.range (m + 1)).map f ⊆ List.range n := fun x hx => by
    obtain ⟨i, hi, rfl⟩ := List.mem_map.1 hx
    exact List.mem_range.2 (hf i (by have := List.mem_range.1 hi; omega)).1
  have := nd.length_le_of_subset sub
  simp at this
  omega
end

end Go.Proofs.Ytnoknecfdnjomaa

/-
  A graph of few states: paths, and how far it is from a first state to a bad one. No program in sight.
-/
namespace Go.Proofs.Ytnoknecfdnjomaa
open Go.RowKit

/-- from s to t in just k steps -/
def PathG (n : Nat) (E : Nat → Nat → Bool) : Nat → Nat → Nat → Prop
  | 0, s, t => s = t
  | k + 1, s, t => ∃ u, u < n ∧ E s u = true ∧ PathG n E k u t
section
variable {n : Nat} {st : Nat → Bool} {E : Nat → Nat → Bool}

theorem PathG.snoc {k s t u : Nat} (ht : t < n) (h : PathG n E k s t) (hu : E t u = true) (hn : u < n) : PathG n E (k + 1) s u := by
  induction k generalizing s with
  | zero =>
    cases h
    exact ⟨u, hn, hu, rfl⟩
  | succ k ih =>
    obtain ⟨v, hv, h1, h2⟩ := h
    exact ⟨v, hv, h1, ih h2⟩
/-- the graph backwards -/
def revG (E : Nat → Nat → Bool) (s t : Nat) : Bool := E t s
end

end Go.Proofs.Ytnoknecfdnjomaa

/-
  The first state that is nearest to breaking, and when it breaks first. No program in sight.
-/
namespace Go.Proofs.Ytnoknecfdnjomaa
open Go.RowKit

/-- a first state that is nearest, among the first k; -1: none breaks -/
def bestG (st : Nat → Bool) (d : Nat → Int) : Nat → Int
  | 0 => -1
  | k + 1 => if st k = true ∧ d k ≠ -1 ∧ (bestG st d k = -1 ∨ d k < d (bestG st d k).toNat) then (k : Int) else bestG st d k
theorem bestG_cases {st : Nat → Bool} {d : Nat → Int} : ∀ k, (bestG st d k = -1 ∧ ∀ s, s < k → st s = true → d s = -1) ∨ (∃ b, b < k ∧ bestG st d k = (b : Int) ∧ st b = true ∧ d b ≠ -1 ∧ ∀ s, s < k → st s = true → d s ≠ -1 → d b ≤ d s)
  | 0 => .inl ⟨rfl, fun s hs => absurd hs (Nat.not_lt_zero s)⟩
  | k + 1 => by
    unfold bestG
    rcases bestG_cases (st := st) (d := d) k with ⟨h1, h2⟩ | ⟨b, hb, h1, h2, h3, h4⟩
    · by_cases h : st k = true ∧ d k ≠ -1
      · rw [if_pos ⟨h.1, h.2, .inl h1⟩]
        refine .inr ⟨k, Nat.lt_succ_self k, rfl, h.1, h.2, fun s hs h5 h6 => ?_⟩
        by_cases e : s = k
        · rw [e]; exact Int.le_refl _
        · exact absurd (h2 s (by omega) h5) h6
      · rw [if_neg (fun q => h ⟨q.1, q.2.1⟩)]
        refine .inl ⟨h1, fun s hs h5 => ?_⟩
        by_cases e : s = k
        · subst e
          exact Classical.byContradiction fun q => h ⟨h5, q⟩
        · exact h2 s (by omega) h5
    · have hbt : (bestG st d k).toNat = b := by rw [h1]; rfl
      by_cases h : st k = true ∧ d k ≠ -1 ∧ (bestG st d k = -1 ∨ d k < d (bestG st d k).toNat)
      · rw [if_pos h]
        refine .inr ⟨k, Nat.lt_succ_self k, rfl, h.1, h.2.1, fun s hs h5 h6 => ?_⟩
        by_cases e : s = k
        · rw [e]; exact Int.le_refl _
        · have := h4 s (by omega) h5 h6
          rcases h.2.2 with q | q
          · rw [h1] at q; omega
          · rw [hbt] at q; omega
      · rw [if_neg h]
        refine .inr ⟨b, by omega, h1, h2, h3, fun s hs h5 h6 => ?_⟩
        by_cases e : s = k
        · subst e
          apply Classical.byContradiction
          intro q
          exact h ⟨h5, h6, .inr (by rw [hbt]; omega)⟩
        · exact h4 s (by omega) h5 h6
section
variable {n m : Nat} {st bad : Nat → Bool} {E : Nat → Nat → Bool}

end

end Go.Proofs.Ytnoknecfdnjomaa

/-
  explore: States, is, Reached, Distance, begin, First.
-/
namespace Go.Proofs.Ytnoknecfdnjomaa
open Go.RowKit

section
variable {sp g n cg : Nat} {w : World} {mb : Nat → Nat} {F : Nat → Int → Option Int} {BD R D : Nat → Int}

set_option maxRecDepth 100000 in
theorem ex_States (hs1 : w.cell? ⟨sp, 1, none⟩ = some (.slice (some ⟨g, 0, none⟩) n cg)) :
    Calls Try.prog 5 #[.pointer (some ⟨sp, 0, none⟩)] w fun e w' => e = .returned (.int .i64 (n : Int)) ∧ w = w' := by
  go_enter Try.func5, Try.ntmps5
  go_wp2_with fail
  go_ret
  exact ⟨rfl, rfl⟩
set_option maxRecDepth 100000 in
theorem ex_States_nil (w : World) :
    Calls Try.prog 5 #[.pointer none] w fun e w' => e = .returned (.int .i64 0) ∧ w = w' := by
  go_enter Try.func5, Try.ntmps5
  go_wp2_with fail
  go_ret
  exact ⟨rfl, rfl⟩
set_option maxRecDepth 100000 in
theorem ex_is (hs1 : w.cell? ⟨sp, 1, none⟩ = some (.slice (some ⟨g, 0, none⟩) n cg)) (t : Int) :
    Calls Try.prog 16 #[.pointer (some ⟨sp, 0, none⟩), .int .i64 t] w fun e w' => e = .returned (.bool (decide (0 ≤ t ∧ t < (n : Int)))) ∧ w = w' := by
  by_cases h0 : 0 ≤ t
  · have q0 : t ≥ 0 := h0
    have e : decide (0 ≤ t ∧ t < (n : Int)) = decide (t < (n : Int)) := by simp [h0]
    rw [e]
    clear e
    go_enter Try.func16, Try.ntmps16
    go_wp2_with fail
    go_ret
    exact ⟨rfl, rfl⟩
  · have q0 : ¬ t ≥ 0 := h0
    have e : decide (0 ≤ t ∧ t < (n : Int)) = false := by simp [h0]
    rw [e]
    clear e
    go_enter Try.func16, Try.ntmps16
    go_wp2_with fail
    go_ret
    exact ⟨rfl, rfl⟩
set_option maxRecDepth 100000 in
theorem ex_is_nil (w : World) (t : Int) :
    Calls Try.prog 16 #[.pointer none, .int .i64 t] w fun e w' => e = .returned (.bool false) ∧ w = w' := by
  go_enter Try.func16, Try.ntmps16
  go_wp2_with fail
  go_ret
  exact ⟨rfl, rfl⟩

/-- a number of a state, -1 of what is none -/
def atS (n : Nat) (R : Nat → Int) (t : Int) : Int := if 0 ≤ t ∧ t < (n : Int) then R t.toNat else -1
theorem atS_in {n : Nat} {R : Nat → Int} {t : Nat} (h : t < n) : atS n R (t : Int) = R t := by unfold atS; rw [if_pos ⟨by omega, by omega⟩]; rfl
theorem atS_out {n : Nat} {R : Nat → Int} {t : Int} (h : ¬ (0 ≤ t ∧ t < (n : Int))) : atS n R t = -1 := by unfold atS; rw [if_neg h]

set_option maxRecDepth 100000 in
theorem ex_Reached_nil (w : World) (t : Int) :
    Calls Try.prog 7 #[.pointer none, .int .i64 t] w fun e w' => e = .returned (.int .i64 (-1)) ∧ w = w' := by
  have HIs := Lib.hid (ex_is_nil w t)
  go_enter Try.func7, Try.ntmps7
  go_wp2_with (go_at_call 16; refine Calls.mono HIs.out ?_; rintro e w2 ⟨rfl, rfl⟩)
  go_ret
  exact ⟨rfl, rfl⟩
set_option maxRecDepth 100000 in
theorem ex_Distance (hs1 : w.cell? ⟨sp, 1, none⟩ = some (.slice (some ⟨g, 0, none⟩) n cg)) (hR : RowsS w g n mb F BD R D) (t : Int) :
    Calls Try.prog 8 #[.pointer (some ⟨sp, 0, none⟩), .int .i64 t] w fun e w' => e = .returned (.int .i64 (atS n D t)) ∧ w = w' := by
  have HIs := Lib.hid (ex_is hs1 t)
  by_cases h : 0 ≤ t ∧ t < (n : Int)
  · obtain ⟨v, rfl⟩ : ∃ v : Nat, t = (v : Int) := ⟨t.toNat, by omega⟩
    have hv : v < n := by omega
    rw [atS_in hv]
    rw [decide_eq_true h] at HIs
    have c2 := hR.cell3 hv
    obtain ⟨v0, v1⟩ := h
    clear hR
    go_enter Try.func8, Try.ntmps8
    go_wp2_with (go_at_call 16; refine Calls.mono HIs.out ?_; rintro e w2 ⟨rfl, rfl⟩)
    go_ret
    exact ⟨rfl, rfl⟩
  · rw [atS_out h]
    rw [decide_eq_false h] at HIs
    clear hR
    go_enter Try.func8, Try.ntmps8
    go_wp2_with (go_at_call 16; refine Calls.mono HIs.out ?_; rintro e w2 ⟨rfl, rfl⟩)
    go_ret
    exact ⟨rfl, rfl⟩
set_option maxRecDepth 100000 in
theorem ex_Distance_nil (w : World) (t : Int) :
    Calls Try.prog 8 #[.pointer none, .int .i64 t] w fun e w' => e = .returned (.int .i64 (-1)) ∧ w = w' := by
  have HIs := Lib.hid (ex_is_nil w t)
  go_enter Try.func8, Try.ntmps8
  go_wp2_with (go_at_call 16; refine Calls.mono HIs.out ?_; rintro e w2 ⟨rfl, rfl⟩)
  go_ret
  exact ⟨rfl, rfl⟩

/-- begin's answer -/
def beg (n : Nat) (R D : Nat → Int) : Int := bestG (fun t => decide (R t = 0)) D n

set_option maxRecDepth 100000 in
set_option maxHeartbeats 4000000 in
theorem ex_begin (hs1 : w.cell? ⟨sp, 1, none⟩ = some (.slice (some ⟨g, 0, none⟩) n cg)) (hR : RowsS w g n mb F BD R D) (hn9 : n ≤ 1024) :
    Calls Try.prog 13 #[.pointer (some ⟨sp, 0, none⟩)] w fun e w' => e = .returned (.int .i64 (beg n R D)) ∧ Kp (fun _ => False) w w' := by
  have HSt := Lib.hid (fun (u : World) (hu : Kp (fun _ => False) w u) => ex_States (hu.cellAt2 hs1))
  have HSc := Lib.hid (fun (u : World) (hu : Kp (fun _ => False) w u) => hu.cellAt2 hs1)
  have HR := Lib.hid hR
  obtain ⟨bg, hbg⟩ : ∃ bg : Nat → Int, bestG (fun t => decide (R t = 0)) D = bg := ⟨_, rfl⟩
  have HBc := Lib.hid (fun k => hbg ▸ bestG_cases (st := fun t => decide (R t = 0)) (d := D) k)
  have HB0 := Lib.hid (show bg 0 = -1 from hbg ▸ rfl)
  have HBs := Lib.hid (fun k => show bg (k + 1) = if R k = 0 ∧ D k ≠ -1 ∧ (bg k = -1 ∨ D k < D (bg k).toNat) then (k : Int) else bg k by
    rw [← hbg]
    show (if decide (R k = 0) = true ∧ _ then _ else _) = _
    simp only [decide_eq_true_eq])
  have he : beg n R D = bg n := by unfold beg; rw [hbg]
  rw [he]
  have HSw := Lib.hid (HSt.out w (Kp.refl _ _))
  clear hs1 hR hbg he HSt
  go_enter Try.func13, Try.ntmps13
  go_wp2_with (go_at_call 5; refine Calls.mono HSw.out ?_; rintro e w2 ⟨rfl, rfl⟩)
  go_loopw [3, 4, 7] (fun v3 v4 v7 wr => ∃ k : Nat, v7 = .int .i64 (k : Int) ∧ k ≤ n ∧ v3 = .int .i64 (bg k) ∧ Kp (fun _ => False) w wr) (fun _ _ v7 _ => n - (intOf v7).toNat)
  case atStart => exact ⟨0, rfl, Nat.zero_le _, by rw [HB0.out], Kp.refl _ _⟩
  case round =>
    obtain ⟨k, rfl, hk, rfl, hK⟩ := hrel
    have HK := Lib.hid hK
    have c1 := HSc.out wr hK
    have HRw := Lib.hid (HR.out.kp hK)
    clear hK
    by_cases hlt : k < n
    · have k0 : (0 : Int) ≤ (k : Int) := by omega
      have k1 : (k : Int) < (n : Int) := by omega
      have b2 := HRw.out.cell2 hlt
      have b3 := HRw.out.cell3 hlt
      have hs := HBs.out k
      have hc := HBc.out k
      obtain ⟨B, hB⟩ : ∃ B, bg k = B := ⟨_, rfl⟩
      rw [hB] at hs hc ⊢
      clear hB
      obtain ⟨rk, hrk⟩ : ∃ x, R k = x := ⟨_, rfl⟩
      obtain ⟨dk, hdk⟩ : ∃ x, D k = x := ⟨_, rfl⟩
      rw [hrk] at b2 hs
      rw [hdk] at b3 hs
      clear hrk hdk
      by_cases h1 : rk = 0
      · by_cases h2 : dk = -1
        · have HE := Lib.hid (show bg (k + 1) = B by rw [hs, if_neg (fun q => q.2.1 h2)])
          subst h1 h2
          clear hs hc
          go_wp2_with fail
          go_roundw
          case rel => exact ⟨k + 1, by go_num, by omega, by rw [HE.out], HK.out⟩
          case measure => simp [intOf]; omega
        · by_cases h3 : B = -1
          · have HE := Lib.hid (show bg (k + 1) = (k : Int) by rw [hs, if_pos ⟨h1, h2, .inl h3⟩])
            subst h1 h3
            clear hs hc
            go_upto_region 6 with fail
            go_quiet (fail)
            go_wp2_with fail
            go_roundw
            case rel => exact ⟨k + 1, by go_num, by omega, by rw [HE.out], by first | exact HK.out | exact HK.out.drewN _⟩
            case measure => simp [intOf]; omega
          · obtain ⟨b, hb, hbe⟩ : ∃ b : Nat, b < n ∧ B = (b : Int) := by
              rcases hc with ⟨q, -⟩ | ⟨b, q1, q2, -⟩
              · exact absurd q h3
              · exact ⟨b, by omega, q2⟩
            subst hbe
            have b0 : (0 : Int) ≤ (b : Int) := by omega
            have b1 : (b : Int) < (n : Int) := by omega
            have c3 := HRw.out.cell3 hb
            rw [Int.toNat_natCast] at hs
            obtain ⟨db, hdb⟩ : ∃ x, D b = x := ⟨_, rfl⟩
            rw [hdb] at c3 hs
            clear hdb
            by_cases h4 : dk < db
            · have HE := Lib.hid (show bg (k + 1) = (k : Int) by rw [hs, if_pos ⟨h1, h2, .inr h4⟩])
              subst h1
              clear hs hc
              go_upto_region 6 with fail
              go_quiet (fail)
              go_wp2_with fail
              go_roundw
              case rel => exact ⟨k + 1, by go_num, by omega, by rw [HE.out], by first | exact HK.out | exact HK.out.drewN _⟩
              case measure => simp [intOf]; omega
            · have HE := Lib.hid (show bg (k + 1) = (b : Int) by rw [hs, if_neg (fun q => by rcases q.2.2 with q | q <;> omega)])
              subst h1
              clear hs hc
              go_upto_region 6 with fail
              go_quiet (fail)
              go_wp2_with fail
              go_roundw
              case rel => exact ⟨k + 1, by go_num, by omega, by rw [HE.out], by first | exact HK.out | exact HK.out.drewN _⟩
              case measure => simp [intOf]; omega
      · have HE := Lib.hid (show bg (k + 1) = B by rw [hs, if_neg (fun q => h1 q.1)])
        clear hs hc
        go_wp2_with fail
        go_roundw
        case rel => exact ⟨k + 1, by go_num, by omega, by rw [HE.out], HK.out⟩
        case measure => simp [intOf]; omega
    · obtain rfl : k = n := by omega
      go_wp2_with fail
      go_ret
      exact ⟨rfl, HK.out⟩

set_option maxRecDepth 100000 in
theorem ex_begin_nil (w : World) :
    Calls Try.prog 13 #[.pointer none] w fun e w' => e = .returned (.int .i64 (-1)) ∧ Kp (fun _ => False) w w' := by
  have HSw := Lib.hid (ex_States_nil w)
  go_enter Try.func13, Try.ntmps13
  go_wp2_with (go_at_call 5; refine Calls.mono HSw.out ?_; rintro e w2 ⟨rfl, rfl⟩)
  go_loopw [3, 4, 7] (fun v3 v4 v7 wr => v7 = .int .i64 0 ∧ v3 = .int .i64 (-1) ∧ wr = w) (fun _ _ _ _ => 0)
  case atStart => exact ⟨rfl, rfl, rfl⟩
  case round =>
    obtain ⟨rfl, rfl, rfl⟩ := hrel
    go_wp2_with fail
    go_ret
    exact ⟨rfl, Kp.refl _ _⟩

set_option maxRecDepth 100000 in
theorem ex_First (hs1 : w.cell? ⟨sp, 1, none⟩ = some (.slice (some ⟨g, 0, none⟩) n cg)) (hR : RowsS w g n mb F BD R D) (hn9 : n ≤ 1024) :
    Calls Try.prog 9 #[.pointer (some ⟨sp, 0, none⟩)] w fun e w' => e = .returned (.int .i64 (atS n D (beg n R D))) ∧ Kp (fun _ => False) w w' := by
  have HB := Lib.hid (ex_begin hs1 hR hn9)
  have HD := Lib.hid (fun u (hu : Kp (fun _ => False) w u) => ex_Distance (hu.cellAt2 hs1) (hR.kp hu) (beg n R D))
  clear hs1 hR
  go_enter Try.func9, Try.ntmps9
  go_wp2_with (first
    | (go_at_call 13; refine Calls.mono HB.out ?_; rintro e w2 ⟨rfl, hK⟩; have HK := Lib.hid hK; have HD2 := Lib.hid (HD.out w2 hK); clear hK)
    | (go_at_call 8; refine Calls.mono HD2.out ?_; rintro e w3 ⟨rfl, rfl⟩))
  go_ret
  exact ⟨rfl, HK.out⟩
set_option maxRecDepth 100000 in
theorem ex_First_nil (w : World) :
    Calls Try.prog 9 #[.pointer none] w fun e w' => e = .returned (.int .i64 (-1)) ∧ Kp (fun _ => False) w w' := by
  have HB := Lib.hid (ex_begin_nil w)
  have HD := Lib.hid (fun u => ex_Distance_nil u (-1))
  go_enter Try.func9, Try.ntmps9
  go_wp2_with (first
    | (go_at_call 13; refine Calls.mono HB.out ?_; rintro e w2 ⟨rfl, hK⟩; have HK := Lib.hid hK; have HD2 := Lib.hid (HD.out w2); clear hK)
    | (go_at_call 8; refine Calls.mono HD2.out ?_; rintro e w3 ⟨rfl, rfl⟩))
  go_ret
  exact ⟨rfl, HK.out⟩
end

end Go.Proofs.Ytnoknecfdnjomaa

/-
  The run that is told: from state to state, each nearer to what is bad. No program in sight.
-/
namespace Go.Proofs.Ytnoknecfdnjomaa
open Go.RowKit

/-- the numbers below n that are keys, rising -/
def stepN (n : Nat) (F : Int → Option Int) : List Nat := (List.range n).filter (fun v => (F ((v : Nat) : Int)).isSome)
def stepL (n : Nat) (F : Int → Option Int) : List Int := (stepN n F).map (fun v => ((v : Nat) : Int))
theorem stepL_lt {n : Nat} {F : Int → Option Int} : (stepL n F).Pairwise (· < ·) := by
  unfold stepL stepN
  exact List.Pairwise.map _ (fun a b h => by omega) ((List.pairwise_lt_range).filter _)
theorem stepN_mem {n : Nat} {F : Int → Option Int} {v : Nat} : v ∈ stepN n F ↔ v < n ∧ (F (v : Int)).isSome = true := by
  unfold stepN; rw [List.mem_filter, List.mem_range]
/-- the first state behind s that is one nearer -/
def hopG (n : Nat) (F : Nat → Int → Option Int) (D : Nat → Int) (s : Nat) : Nat := ((stepN n (F s)).find? (fun t => decide (D t = D s - 1))).getD 0
def chainG (n : Nat) (F : Nat → Int → Option Int) (D : Nat → Int) (s : Nat) : Nat → Nat
  | 0 => s
  | k + 1 => hopG n F D (chainG n F D s k)
section
variable {n m : Nat} {bad : Nat → Bool} {F : Nat → Int → Option Int} {D : Nat → Int}

/-- what distances tell of the states behind -/
structure NearG (n : Nat) (F : Nat → Int → Option Int) (bad : Nat → Bool) (D : Nat → Int) : Prop where
  low : ∀ s, s < n → -1 ≤ D s
  zero : ∀ s, s < n → D s = 0 → bad s = true
  one : ∀ s, s < n → ∀ k : Nat, D s = (k : Int) + 1 → ∃ t, t < n ∧ (F s (t : Int)).isSome = true ∧ D t = k

theorem NearG.hop (h : NearG n F bad D) {s k : Nat} (hs : s < n) (hd : D s = (k : Int) + 1) : hopG n F D s < n ∧ (F s (hopG n F D s : Int)).isSome = true ∧ D (hopG n F D s) = k := by
  obtain ⟨t, ht, h1, h2⟩ := h.one s hs k hd
  unfold hopG
  cases e : (stepN n (F s)).find? (fun t => decide (D t = D s - 1)) with
  | none =>
    have := List.find?_eq_none.1 e t (stepN_mem.2 ⟨ht, h1⟩)
    simp only [decide_eq_true_eq] at this
    omega
  | some u =>
    have h3 := List.find?_some e
    have h4 := stepN_mem.1 (List.mem_of_find?_eq_some e)
    simp only [decide_eq_true_eq] at h3
    exact ⟨h4.1, h4.2, by show D u = k; omega⟩
theorem NearG.chain (h : NearG n F bad D) {s d : Nat} (hs : s < n) (hd : D s = d) : ∀ k, k ≤ d → chainG n F D s k < n ∧ D (chainG n F D s k) = (d : Int) - k
  | 0, _ => ⟨hs, by show D s = _; rw [hd]; omega⟩
  | k + 1, hk => by
    obtain ⟨h1, h2⟩ := h.chain hs hd k (by omega)
    obtain ⟨j, hj⟩ : ∃ j : Nat, d - k = j + 1 := ⟨d - k - 1, by omega⟩
    have := h.hop h1 (k := j) (by omega)
    refine ⟨this.1, ?_⟩
    show D (hopG n F D (chainG n F D s k)) = _
    rw [this.2.2]; omega
end

end Go.Proofs.Ytnoknecfdnjomaa

/-
  The library's contracts at this dump, as the kit's own tool lays them.
-/
namespace Go.Proofs
open Go.Shelf
def Try.lays189_ren : Go.Shelf.Ren := ⟨fun | 189 => 27 | 125 => 35 | 257 => 34 | 128 => 53 | 129 => 54 | 294 => 44 | 295 => 45 | 296 => 46 | 297 => 47 | 298 => 48 | 299 => 49 | 216 => 50 | 300 => 51 | 301 => 52 | 328 => 70 | 329 => 71 | 330 => 72 | 331 => 73 | 332 => 74 | 215 => 75 | 343 => 82 | n => n, fun | 28 => 22 | 3 => 3 | 46 => 76 | 0 => 0 | 51 => 96 | 53 => 98 | 4 => 4 | 183 => 89 | 182 => 88 | 131 => 84 | 5 => 5 | 9 => 9 | 218 => 119 | 222 => 123 | 228 => 132 | 229 => 133 | n => n, fun | n => n⟩
theorem Try.lays189 : Go.Proofs.Lays.n189 Try.prog Try.lays189_ren := {
  mixed := by kernel_rfl
  f125 := Try.func35.trans (congrArg some (by kernel_rfl))
  f128 := Try.func53.trans (congrArg some (by kernel_rfl))
  f129 := Try.func54.trans (congrArg some (by kernel_rfl))
  f189 := Try.func27.trans (congrArg some (by kernel_rfl))
  f215 := Try.func75.trans (congrArg some (by kernel_rfl))
  f216 := Try.func50.trans (congrArg some (by kernel_rfl))
  f257 := Try.func34.trans (congrArg some (by kernel_rfl))
  f294 := Try.func44.trans (congrArg some (by kernel_rfl))
  f295 := Try.func45.trans (congrArg some (by kernel_rfl))
  f296 := Try.func46.trans (congrArg some (by kernel_rfl))
  f297 := Try.func47.trans (congrArg some (by kernel_rfl))
  f298 := Try.func48.trans (congrArg some (by kernel_rfl))
  f299 := Try.func49.trans (congrArg some (by kernel_rfl))
  f300 := Try.func51.trans (congrArg some (by kernel_rfl))
  f301 := Try.func52.trans (congrArg some (by kernel_rfl))
  f328 := Try.func70.trans (congrArg some (by kernel_rfl))
  f329 := Try.func71.trans (congrArg some (by kernel_rfl))
  f330 := Try.func72.trans (congrArg some (by kernel_rfl))
  f331 := Try.func73.trans (congrArg some (by kernel_rfl))
  f332 := Try.func74.trans (congrArg some (by kernel_rfl))
  f343 := Try.func82.trans (congrArg some (by kernel_rfl))
  t0 := Try.underlying0
  a0 := Try.isAgg0
  z0 := Try.sizeOf0
  v0 := Try.zeroValue0
  t3 := Try.underlying3
  a3 := Try.isAgg3
  z3 := Try.sizeOf3
  v3 := Try.zeroValue3
  t4 := Try.underlying4
  a4 := Try.isAgg4
  z4 := Try.sizeOf4
  v4 := Try.zeroValue4
  t5 := Try.underlying5
  a5 := Try.isAgg5
  z5 := Try.sizeOf5
  v5 := Try.zeroValue5
  t9 := Try.underlying9
  a9 := Try.isAgg9
  z9 := Try.sizeOf9
  v9 := Try.zeroValue9
  t28 := Try.underlying22
  a28 := Try.isAgg22
  z28 := Try.sizeOf22
  v28 := Try.zeroValue22
  t46 := Try.underlying76
  a46 := Try.isAgg76
  z46 := Try.sizeOf76
  v46 := Try.zeroValue76
  t51 := Try.underlying96
  a51 := Try.isAgg96
  z51 := Try.sizeOf96
  v51 := Try.zeroValue96
  t53 := Try.underlying98
  a53 := Try.isAgg98
  z53 := Try.sizeOf98
  v53 := Try.zeroValue98
  t131 := Try.underlying84
  a131 := Try.isAgg84
  z131 := Try.sizeOf84
  v131 := Try.zeroValue84
  t182 := Try.underlying88
  a182 := Try.isAgg88
  z182 := Try.sizeOf88
  v182 := Try.zeroValue88
  t183 := Try.underlying89
  a183 := Try.isAgg89
  z183 := Try.sizeOf89
  v183 := Try.zeroValue89
  t218 := Try.underlying119
  a218 := Try.isAgg119
  z218 := Try.sizeOf119
  v218 := Try.zeroValue119
  t222 := Try.underlying123
  a222 := Try.isAgg123
  z222 := Try.sizeOf123
  v222 := Try.zeroValue123
  t228 := Try.underlying132
  a228 := Try.isAgg132
  z228 := Try.sizeOf132
  v228 := Try.zeroValue132
  t229 := Try.underlying133
  a229 := Try.isAgg133
  z229 := Try.sizeOf133
  v229 := Try.zeroValue133 }
open Go.Sort Go.RowKit in
theorem Try.slices_Sort_int (blk off cap : Nat) (zs : List Int) (w : World) (hH : Holds (Value.int .i64) w blk off zs.toArray) (hblk : blk < w.heap.size) (hsz : zs.length < 4611686018427387904) :
    Calls Try.prog 27 #[.slice (some ⟨blk, off, none⟩) zs.length cap] w fun e w' =>
      e = .returned (.tuple #[]) ∧ ∃ n os, w' = grow (putRow (Value.int .i64) (Sort.ahead w n) blk off (zs.mergeSort fun x y => decide (x ≤ y)).toArray) os := Any.slices_Sort_int Try.lays189 blk off cap zs w hH hblk hsz
open Go.RowKit Go.Sort in
theorem Try.slices_Sort_int_none (p : Option Addr) (cap : Nat) (w : World) :
    Calls Try.prog 27 #[.slice p 0 cap] w fun e w' => e = .returned (.tuple #[]) ∧ w' = w := Any.slices_Sort_int_none Try.lays189 p cap w
end Go.Proofs

/-
  The library's contracts at this dump, as the kit's own tool lays them: maps.Keys, slices.Sorted.
-/
namespace Go.Proofs
open Go.Shelf
def Try.keysA_ren : Go.Shelf.Ren := ⟨fun | 7 => 18 | 10 => 28 | n => n, fun | 23 => 40 | 26 => 3 | 3 => 3 | 28 => 50 | 0 => 0 | 27 => 49 | 33 => 47 | 4 => 4 | n => n, fun | n => n⟩
theorem Try.keysA : Go.Proofs.SlLaysZI.n7 Try.prog Try.keysA_ren := {
  mixed := by kernel_rfl
  f7 := ⟨Try.f18.name, by decide, Try.func18.trans (congrArg some (by kernel_rfl))⟩
  f10 := ⟨Try.f28.name, by decide, Try.func28.trans (congrArg some (by kernel_rfl))⟩
  t0 := Try.underlying0
  a0 := Try.isAgg0
  z0 := Try.sizeOf0
  v0 := Try.zeroValue0
  t4 := Try.underlying4
  a4 := Try.isAgg4
  z4 := Try.sizeOf4
  v4 := Try.zeroValue4
  t23 := Try.underlying40
  a23 := Try.isAgg40
  z23 := Try.sizeOf40
  v23 := Try.zeroValue40
  t26 := Try.underlying3
  a26 := Try.isAgg3
  z26 := Try.sizeOf3
  v26 := Try.zeroValue3
  t27 := Try.underlying49
  a27 := Try.isAgg49
  z27 := Try.sizeOf49
  v27 := Try.zeroValue49
  t28 := Try.underlying50
  a28 := Try.isAgg50
  z28 := Try.sizeOf50
  v28 := Try.zeroValue50
  t33 := Try.underlying47
  a33 := Try.isAgg47
  z33 := Try.sizeOf47
  v33 := Try.zeroValue47 }
def Try.sortedA_ren : Go.Shelf.Ren := ⟨fun | 6 => 17 | 8 => 26 | 9 => 27 | 11 => 33 | 13 => 35 | 12 => 34 | 23 => 53 | 24 => 54 | 14 => 44 | 15 => 45 | 16 => 46 | 17 => 47 | 18 => 48 | 19 => 49 | 20 => 50 | 21 => 51 | 22 => 52 | 25 => 70 | 26 => 71 | 27 => 72 | 28 => 73 | 29 => 74 | 30 => 75 | 31 => 82 | n => n, fun | 26 => 3 | 28 => 50 | 24 => 22 | 0 => 0 | 3 => 3 | 37 => 76 | 48 => 96 | 50 => 98 | 4 => 4 | 40 => 89 | 39 => 88 | 45 => 84 | 5 => 5 | 9 => 9 | 51 => 119 | 55 => 123 | 57 => 132 | 58 => 133 | 33 => 47 | n => n, fun | n => n⟩
theorem Try.sortedA : Go.Proofs.SlLaysZI.n6 Try.prog Try.sortedA_ren := {
  mixed := by kernel_rfl
  f6 := ⟨Try.f17.name, by decide, Try.func17.trans (congrArg some (by kernel_rfl))⟩
  f8 := ⟨Try.f26.name, by decide, Try.func26.trans (congrArg some (by kernel_rfl))⟩
  f11 := ⟨Try.f33.name, by decide, Try.func33.trans (congrArg some (by kernel_rfl))⟩
  t0 := Try.underlying0
  a0 := Try.isAgg0
  z0 := Try.sizeOf0
  v0 := Try.zeroValue0
  t24 := Try.underlying22
  a24 := Try.isAgg22
  z24 := Try.sizeOf22
  v24 := Try.zeroValue22
  t26 := Try.underlying3
  a26 := Try.isAgg3
  z26 := Try.sizeOf3
  v26 := Try.zeroValue3
  t28 := Try.underlying50
  a28 := Try.isAgg50
  z28 := Try.sizeOf50
  v28 := Try.zeroValue50
  i26 := by kernel_rfl }
end Go.Proofs

/-
  explore.Step: the states behind one, rising.
-/
namespace Go.Proofs.Ytnoknecfdnjomaa
open Go.RowKit Go.Maps Go.Sort Go.Shelf

theorem has_ok {w : World} {b q : Nat} {D : DataW Unit} (hown : w.ownsMap Try.prog 3 (plainElem Try.prog 3) b q D) {x : Int} (h : Maps.has D (.int .i64 x) = true) : okInt x := by
  obtain ⟨es, hD, hko⟩ := hown.keysOf
  subst hD
  have h' := h
  rw [has_eq, List.any_eq_true] at h'
  obtain ⟨p, hp, hs⟩ := h'
  have hwf := intKeys_wf hown Try.underlying3 (Go.intOf p.1) (List.mem_map.2 ⟨p, hp, rfl⟩)
  obtain ⟨v, hv⟩ := hko p hp
  obtain ⟨y, _, hy, hl⟩ := Maps.keyOf_i64 Try.underlying3 hv
  rw [hy] at hs
  have : y = x := by simpa [Lit.sameKey] using hs
  subst this
  simp [Lit.wf, IntKind.min, IntKind.max, IntKind.signed, IntKind.bits] at hl
  unfold okInt; omega

theorem keys_sorted {w : World} {b q n : Nat} {F : Int → Option Int} {D : DataW Unit} (hown : w.ownsMap Try.prog 3 (plainElem Try.prog 3) b q D) (h2 : ∀ x, okInt x → Maps.has D (.int .i64 x) = (F x).isSome) (hF : ∀ u i, F u = some i → ∃ v : Nat, u = (v : Int) ∧ v < n) (hn : n ≤ 1024) {ss : List Int} (hp : ss.Perm (intKeys D)) :
    ss.mergeSort leI = stepL n F := by
  have hc : CollectedI D (fun _ => false) (stepL n F) := by
    refine ⟨stepL_lt.imp (fun h => Int.ne_of_lt h), fun x => ?_⟩
    constructor
    · intro hx
      obtain ⟨v, hv, rfl⟩ := List.mem_map.1 hx
      obtain ⟨h3, h4⟩ := stepN_mem.1 hv
      exact ⟨by rw [h2 _ (by unfold okInt; omega)]; exact h4, rfl⟩
    · rintro ⟨hx, -⟩
      have hok := has_ok hown hx
      rw [h2 x hok] at hx
      obtain ⟨i, hi⟩ := Option.isSome_iff_exists.1 hx
      obtain ⟨v, rfl, hv⟩ := hF x i hi
      exact List.mem_map.2 ⟨v, stepN_mem.2 ⟨hv, by rw [hi]; rfl⟩, rfl⟩
  have hq := hc.perm hown intk_keyed Try.underlying3 (fun _ => rfl)
  rw [mergeSort_of_perm_i (hp.trans hq.symm)]
  exact List.mergeSort_of_pairwise (stepL_lt.imp (fun h => by simpa [leI] using Int.le_of_lt h))

theorem sortsA (m : Nat) : AnyZI.SortsIn Try.prog Try.sortedA_ren Fence.wide m :=
  ⟨fun blk off cap ss W hH hblk hsz => callsIn_wide.2 (Try.slices_Sort_int blk off cap ss W hH hblk hsz),
   fun p cap W => callsIn_wide.2 (Try.slices_Sort_int_none p cap W)⟩

/-- what Step tells -/
def stepS (n : Nat) (F : Nat → Int → Option Int) (t : Int) : List Int := if 0 ≤ t ∧ t < (n : Int) then stepL n (F t.toNat) else []

set_option maxRecDepth 100000 in
set_option maxHeartbeats 4000000 in
theorem ex_Step {sp g n cg : Nat} {w : World} {mb : Nat → Nat} {F : Nat → Int → Option Int} {BD R D : Nat → Int} (hs1 : w.cell? ⟨sp, 1, none⟩ = some (.slice (some ⟨g, 0, none⟩) n cg)) (hR : RowsS w g n mb F BD R D) (hF : ∀ t, t < n → ∀ u i, F t u = some i → ∃ v : Nat, u = (v : Int) ∧ v < n) (hn : n ≤ 1024) (t : Int) :
    Calls Try.prog 6 #[.pointer (some ⟨sp, 0, none⟩), .int .i64 t] w fun e w' => ∃ v, e = .returned v ∧ Own w' w.heap.size 3 v ((stepS n F t).map encZ) ∧ Kp (fun _ => False) w w' := by
  have HIs := Lib.hid (ex_is hs1 t)
  by_cases h : 0 ≤ t ∧ t < (n : Int)
  · obtain ⟨v, rfl⟩ : ∃ v : Nat, t = (v : Int) := ⟨t.toNat, by omega⟩
    have hv : v < n := by omega
    have hS : stepS n F (v : Int) = stepL n (F v) := by unfold stepS; rw [if_pos h]; rfl
    rw [hS]
    rw [decide_eq_true h] at HIs
    have c0 := hR.cell0 hv
    obtain ⟨v0, v1⟩ := h
    obtain ⟨q, ⟨D0, hown, hM, hD⟩, hq⟩ := hR.map v hv
    have hsz := hown.size_le
    have hsort : ∀ ss : List Int, ss.Perm (intKeys D0) → ss.mergeSort leI = stepL n (F v) := fun ss hp => keys_sorted hown (fun x hx => (hD x hx).2) (hF v hv) hn hp
    have HSort := Lib.hid hsort
    obtain ⟨b, hb⟩ : ∃ b, mb v = b := ⟨_, rfl⟩
    rw [hb] at c0 hown
    have hbl := hown.lt
    have hmax : Maps.size D0 ≤ maxLen := Nat.le_trans (Nat.le_trans hsz hq) (by decide)
    have hbytes : Maps.size D0 * 8 ≤ 140737488355328 := by omega
    have hseq : SeqGives Fence.wide 2 Try.prog 28 #[.pointer (some ⟨w.heap.size, 0, none⟩)] encZ (fun ss => ss.Perm (intKeys D0)) (Maps.size D0) (w.alloc (.cells #[.map (some b)] 40)) :=
      AnyZI.keys_gives (ρ := Try.keysA_ren) { Try.keysA with } Fence.wide _ trivial rfl (by omega) w.heap.size b q D0 _ (by simp) (by simp) (by
        obtain ⟨es, clock, hb, Ft, hs, hD⟩ := hown
        exact ⟨es, clock, (Below.heap_alloc _ _ b hbl).trans hb, Ft, hs, hD⟩)
    have cK : ∀ mb W, CallsIn Fence.wide 5 Try.prog 18 #[.map mb] W fun e w' => e = .returned (.func (.func 28) #[] #[.pointer (some ⟨W.heap.size, 0, none⟩)]) ∧ w' = W.alloc (.cells #[.map mb] 40) := fun mb W => AnyZI.keys_in Try.keysA Fence.wide 5 trivial rfl mb W
    have cS := AnyZI.sorted_in Try.sortedA Fence.wide 5 trivial trivial trivial trivial rfl (by omega) (sortsA _) (enters_of Try.func27 (by kernel_rfl) rfl) 28 #[.pointer (some ⟨w.heap.size, 0, none⟩)] trivial (enters_of Try.func28 (by kernel_rfl) rfl) _ _ hmax hbytes _ hseq
    change CallsIn _ _ Try.prog 17 _ _ _ at cS
    have HCK := Lib.hid (fun mb W => (callsIn_wide).1 (cK mb W))
    have HCS := Lib.hid ((callsIn_wide).1 cS)
    clear hR hown hM hD hsz hq hmax hbytes hseq cK cS hb hbl hsort
    go_enter Try.func6, Try.ntmps6
    go_wp2_with (first
      | (go_at_call 16; refine Calls.mono HIs.out ?_; rintro e w2 ⟨rfl, rfl⟩)
      | (go_at_call 18; refine Calls.mono (HCK.out _ _) ?_; rintro e w2 ⟨rfl, rfl⟩)
      | (go_at_call 17; refine Calls.mono HCS.out ?_; rintro e w3 ⟨x, ss, rfl, hp, hrow, hnil, hb⟩; have HP := Lib.hid hp; have HRow := Lib.hid hrow; have HB := Lib.hid hb; clear hp hrow hnil hb))
    go_ret
    have hl : (stepL n (F v)).length = ss.length := by rw [← HSort.out ss HP.out]; simp
    refine ⟨_, rfl, ?_, ?_⟩
    · unfold Own
      rw [List.length_map, hl, ← HSort.out ss HP.out]
      exact ownsRow_base_a HRow.out (by simp)
    · exact ((Kp.refl _ w).alloc _).trans (Kp.of_below HB.out (fun _ => False)) (fun _ _ h => h)
  · have hS : stepS n F t = [] := by unfold stepS; rw [if_neg h]
    rw [hS]
    rw [decide_eq_false h] at HIs
    clear hR
    go_enter Try.func6, Try.ntmps6
    go_wp2_with (go_at_call 16; refine Calls.mono HIs.out ?_; rintro e w2 ⟨rfl, rfl⟩)
    go_ret
    exact ⟨_, rfl, Own.nil _ _ _, Kp.refl _ _⟩

set_option maxRecDepth 100000 in
theorem ex_Step_nil (w : World) (t : Int) :
    Calls Try.prog 6 #[.pointer none, .int .i64 t] w fun e w' => e = .returned (.slice none 0 0) ∧ w = w' := by
  have HIs := Lib.hid (ex_is_nil w t)
  go_enter Try.func6, Try.ntmps6
  go_wp2_with (go_at_call 16; refine Calls.mono HIs.out ?_; rintro e w2 ⟨rfl, rfl⟩)
  go_ret
  exact ⟨rfl, rfl⟩

end Go.Proofs.Ytnoknecfdnjomaa

/-
  A layer after the other: in the midst of a round. No program in sight.
-/
namespace Go.Proofs.Ytnoknecfdnjomaa
open Go.RowKit

/-- in a round behind m: what R says, and which are next; Q: to whom a step was looked at -/
structure MidG (n : Nat) (st : Nat → Bool) (E : Nat → Nat → Bool) (m : Nat) (Q : Nat → Prop) (R : Nat → Int) (N : List Nat) : Prop where
  old : ∀ t, t < n → distG n st E m t ≠ -1 → R t = distG n st E m t
  new : ∀ t, t < n → distG n st E m t = -1 → Q t → R t = (m : Int) + 1
  none : ∀ t, t < n → distG n st E m t = -1 → ¬ Q t → R t = -1
  nd : N.Nodup
  mem : ∀ t, t ∈ N ↔ t < n ∧ distG n st E m t = -1 ∧ Q t

section
variable {n : Nat} {st : Nat → Bool} {E : Nat → Nat → Bool} {m : Nat} {Q : Nat → Prop} {R : Nat → Int} {N : List Nat}

theorem MidG.start (h : ∀ t, t < n → R t = distG n st E m t) : MidG n st E m (fun _ => False) R [] :=
  ⟨fun t ht _ => h t ht, fun _ _ _ h => h.elim, fun t ht h1 _ => by rw [h t ht, h1], List.nodup_nil, fun t => ⟨fun h => (by cases h), fun h => h.2.2.elim⟩⟩
theorem MidG.congr {Q' : Nat → Prop} (h : MidG n st E m Q R N) (e : ∀ t, t < n → (Q t ↔ Q' t)) : MidG n st E m Q' R N :=
  ⟨h.old, fun t ht h1 h2 => h.new t ht h1 ((e t ht).2 h2), fun t ht h1 h2 => h.none t ht h1 (fun q => h2 ((e t ht).1 q)), h.nd, fun t => by
    rw [h.mem]
    exact ⟨fun ⟨a, b, c⟩ => ⟨a, b, (e t a).1 c⟩, fun ⟨a, b, c⟩ => ⟨a, b, (e t a).2 c⟩⟩⟩
/-- one that was not reached -/
theorem MidG.put (h : MidG n st E m Q R N) {u : Nat} (hu : u < n) (hr : R u = -1) : MidG n st E m (fun t => Q t ∨ t = u) (upI R u ((m : Int) + 1)) (N ++ [u]) := by
  have hd : distG n st E m u = -1 := by
    apply Classical.byContradiction
    intro q
    have := h.old u hu q
    rcases distG_cases (n := n) (st := st) (E := E) m u with ⟨_, z⟩ | ⟨_, z, _⟩
    · exact q z
    · omega
  have hq : ¬ Q u := fun q => by have := h.new u hu hd q; omega
  have hN : u ∉ N := fun q => hq ((h.mem u).1 q).2.2
  refine ⟨fun t ht h1 => ?_, fun t ht h1 h2 => ?_, fun t ht h1 h2 => ?_, ?_, fun t => ?_⟩
  · have : t ≠ u := fun e => h1 (by rw [e]; exact hd)
    unfold upI; rw [if_neg this]; exact h.old t ht h1
  · unfold upI
    by_cases e : t = u
    · rw [if_pos e]
    · rw [if_neg e]; exact h.new t ht h1 (h2.resolve_right e)
  · unfold upI
    rw [if_neg (fun e => h2 (.inr e))]
    exact h.none t ht h1 (fun q => h2 (.inl q))
  · rw [List.nodup_append]
    refine ⟨h.nd, by simp, fun a ha b hb => ?_⟩
    simp at hb
    subst hb
    exact fun e => hN (e ▸ ha)
  · rw [List.mem_append, h.mem]
    constructor
    · rintro (⟨a, b, c⟩ | h1)
      · exact ⟨a, b, .inl c⟩
      · simp at h1; subst h1; exact ⟨hu, hd, .inr rfl⟩
    · rintro ⟨a, b, c | c⟩
      · exact .inl ⟨a, b, c⟩
      · subst c; exact .inr (by simp)
/-- one that was reached -/
theorem MidG.skip (h : MidG n st E m Q R N) {u : Nat} (hu : u < n) (hr : R u ≠ -1) : MidG n st E m (fun t => Q t ∨ t = u) R N := by
  have hc : distG n st E m u ≠ -1 ∨ Q u := by
    by_cases e : distG n st E m u = -1
    · right
      apply Classical.byContradiction
      intro q
      exact hr (h.none u hu e q)
    · exact .inl e
  refine ⟨h.old, fun t ht h1 h2 => ?_, fun t ht h1 h2 => h.none t ht h1 (fun q => h2 (.inl q)), h.nd, fun t => ?_⟩
  · rcases h2 with h2 | h2
    · exact h.new t ht h1 h2
    · subst h2
      exact h.new t ht h1 (hc.resolve_left (fun q => q h1))
  · rw [h.mem]
    constructor
    · rintro ⟨a, b, c⟩; exact ⟨a, b, .inl c⟩
    · rintro ⟨a, b, c | c⟩
      · exact ⟨a, b, c⟩
      · subst c; exact ⟨a, b, hc.resolve_left (fun q => q b)⟩
/-- the round's end -/
theorem MidG.fin (h : MidG n st E m (fun t => ∃ s, s < n ∧ distG n st E m s = m ∧ E s t = true) R N) : (∀ t, t < n → R t = distG n st E (m + 1) t) ∧ ∀ t, t ∈ N ↔ t < n ∧ distG n st E (m + 1) t = ((m + 1 : Nat) : Int) := by
  have key : ∀ t, t < n → R t = distG n st E (m + 1) t := fun t ht => by
    by_cases e : distG n st E m t = -1
    · rw [distG_step e]
      by_cases q : ∃ s, s < n ∧ distG n st E m s = m ∧ E s t = true
      · rw [if_pos q]; exact h.new t ht e q
      · rw [if_neg q]; exact h.none t ht e q
    · rw [distG_keep e]; exact h.old t ht e
  refine ⟨key, fun t => ?_⟩
  rw [h.mem]
  constructor
  · rintro ⟨a, b, c⟩
    exact ⟨a, by rw [distG_step b, if_pos c]; omega⟩
  · rintro ⟨a, b⟩
    by_cases e : distG n st E m t = -1
    · rw [distG_step e] at b
      split at b
      · rename_i q; exact ⟨a, e, q⟩
      · omega
    · rw [distG_keep e] at b
      rcases distG_cases (n := n) (st := st) (E := E) m t with ⟨_, z⟩ | ⟨_, _, z⟩
      · exact absurd z e
      · omega
end

end Go.Proofs.Ytnoknecfdnjomaa

/-
  step.Starts.
-/
namespace Go.Proofs.Ytnoknecfdnjomaa
open Go.RowKit

set_option maxRecDepth 100000 in
set_option maxHeartbeats 4000000 in
theorem step_Starts (V : CV) (C : Circ) (p : Nat) (a4 a5 : Option Addr) (c4 c5 : Nat) (sa : Option Addr) (sn sc : Nat) (st : List Bool) (w : World) (hM : MAt w 72 V C p a4 c4 a5 c5) (hf : CFew C 1000000) (hg : GoodC C) (hs : BS w sa sn st) :
    Calls Try.prog 43 #[.pointer (some ⟨p, 0, none⟩), .slice sa sn sc] w fun e w' => e = .returned (.bool (startsM C st)) ∧ Kp (fun _ => False) w w' := by
  obtain ⟨nl, hnl⟩ : ∃ n, C.lats.length = n := ⟨_, rfl⟩
  have hnl1 : nl ≤ 1000000 := by have := hf.l; omega
  have HNl := Lib.hid hnl
  have hB : w.cell? ⟨p, 2, none⟩ = some (.slice V.al nl V.cl) := hM.blk.cell (i := 2) (by rw [← hnl]; rfl)
  have HLa := Lib.hid (step_Latches V C p a4 a5 c4 c5 w hM hf)
  rw [hnl] at HLa
  have HRes := Lib.hid (show ∀ k, k < nl → 0 ≤ (g3 C.lats k).2.2 from fun k hk => by
    have h1 := hg.rng.res _ (g3_mem (G := C.lats) (i := k) (by omega))
    have h2 := hg.rng.own _ (lat_own (C := C) (i := k) (by omega))
    omega)
  have HM := Lib.hid hM
  have HS := Lib.hid hs
  have hsm := hs.most
  obtain ⟨r, hr⟩ : ∃ r, startsM C st = r := ⟨_, rfl⟩
  rw [hr]
  unfold startsM at hr
  rw [hnl, hs.len] at hr
  clear hM hf hg hs hnl
  by_cases hl : sn = nl
  · rw [decide_eq_true hl, Bool.true_and] at hr
    have HR := Lib.hid hr
    have q0 : ((sn : Int) == (nl : Int)) = true := by simp [hl]
    subst hl
    clear hr
    go_enter Try.func43, Try.ntmps43
    go_wp2_with (go_at_call 24; with_reducible refine Calls.mono HLa.out ?_; rintro e w1 ⟨rfl, rfl⟩)
    go_loopw [22] (fun v22 wr => ∃ k : Nat, v22 = .int .i64 k ∧ k ≤ sn ∧ (List.range k).all (fun k => startOk (g3 C.lats k).2.2 (vb st k)) = true ∧ Kp (fun _ => False) w wr) (fun v22 _ => sn - (intOf v22).toNat)
    case atStart => exact ⟨0, rfl, by omega, rfl, Kp.refl _ _⟩
    case round =>
      obtain ⟨k, rfl, hk, hall, hK⟩ := hrel
      obtain ⟨wp, rfl⟩ : ∃ wp : World, wp = wr := ⟨_, rfl⟩
      have HK := Lib.hid hK
      clear hK
      by_cases hlt : k < sn
      · have hkl : k < C.lats.length := by rw [HNl.out]; exact hlt
        obtain ⟨b, off, ea, hE⟩ := HM.out.circ.latCell hkl
        obtain ⟨e0, e1, e2⟩ := hE _ HK.out
        obtain ⟨b3, off3, ea3, e3⟩ := HS.out.row k _ (bv_at (by rw [HS.out.len]; exact hlt))
        have e3 := HK.out.cellK e3
        have hS := all_range_succ (fun k => startOk (g3 C.lats k).2.2 (vb st k)) k
        rw [hall, Bool.true_and] at hS
        have hF : startOk (g3 C.lats k).2.2 (vb st k) = false → r = false := fun h => by
          rw [← HR.out]; exact all_range_lt hlt h
        have hrs := HRes.out k hlt
        obtain ⟨y0, hy0⟩ : ∃ x, (g3 C.lats k).1 = x := ⟨_, rfl⟩
        obtain ⟨y1, hy1⟩ : ∃ x, (g3 C.lats k).2.1 = x := ⟨_, rfl⟩
        obtain ⟨x, hx⟩ : ∃ x, (g3 C.lats k).2.2 = x := ⟨_, rfl⟩
        obtain ⟨y, hy⟩ : ∃ y, vb st k = y := ⟨_, rfl⟩
        rw [hy0] at e0
        rw [hy1] at e1
        rw [hx] at e2 hrs
        rw [hy] at e3
        rw [hx, hy] at hS hF
        have HSS := Lib.hid hS
        have HFl := Lib.hid hF
        rw [ea]
        subst ea3
        have i0 : (0 : Int) ≤ (k : Int) := by omega
        have i2 : (k : Int) < (sn : Int) := by omega
        have hka := (Kp.refl (fun _ => False) wp).alloc (.cells #[.int .i64 y0, .int .i64 y1, .int .i64 x] 58)
        have nb := (Blk.new wp #[.int .i64 y0, .int .i64 y1, .int .i64 x] 58).cell (i := 2) (v := .int .i64 x) rfl
        have e4 := hka.cellK e3
        have HKa := Lib.hid (HK.out.trans hka (fun _ _ h => h))
        clear hx hy hy0 hy1 hS hF hE ea hkl hall hka
        by_cases x0 : x = 0
        · subst x0
          cases y with
          | true =>
            obtain rfl : r = false := HFl.out rfl
            go_upto_region 6 with fail
            go_quiet (fail)
            go_wp2_with fail
            go_ret
            exact ⟨rfl, HKa.out.drewN _⟩
          | false =>
            go_upto_region 6 with fail
            go_quiet (fail)
            go_wp2_with fail
            exact ⟨⟨k + 1, by go_num, by omega, by rw [HSS.out]; rfl, HKa.out.drewN _⟩, by simp [intOf]; omega⟩
        · by_cases x1 : x = 1
          · subst x1
            cases y with
            | false =>
              obtain rfl : r = false := HFl.out rfl
              clear x0
              go_upto_region 6 with fail
              go_quiet (fail)
              go_wp2_with fail
              go_ret
              exact ⟨rfl, HKa.out.drewN _⟩
            | true =>
              clear x0
              go_upto_region 6 with fail
              go_quiet (fail)
              go_wp2_with fail
              exact ⟨⟨k + 1, by go_num, by omega, by rw [HSS.out]; rfl, HKa.out.drewN _⟩, by simp [intOf]; omega⟩
          · have z1 : decide (x < 2) = false := decide_eq_false (by omega)
            have z2 : ¬ x < 2 := by omega
            have HOk := Lib.hid (show startOk x y = true by unfold startOk; rw [decide_eq_false x0, decide_eq_false x1]; rfl)
            clear x0 x1
            go_upto_region 6 with fail
            go_quiet (fail)
            go_wp2_with fail
            exact ⟨⟨k + 1, by go_num, by omega, by rw [HSS.out, HOk.out], HKa.out.drewN _⟩, by simp [intOf]; omega⟩
      · obtain rfl : k = sn := by omega
        obtain rfl : r = true := by rw [← HR.out]; exact hall
        clear hall
        go_wp2_with fail
        go_ret
        exact ⟨rfl, HK.out⟩
  · rw [decide_eq_false hl, Bool.false_and] at hr
    subst hr
    have q0 : ((sn : Int) == (nl : Int)) = false := by simp; omega
    clear hl
    go_enter Try.func43, Try.ntmps43
    go_wp2_with (go_at_call 24; with_reducible refine Calls.mono HLa.out ?_; rintro e w1 ⟨rfl, rfl⟩)
    go_ret
    exact ⟨rfl, Kp.refl _ _⟩

end Go.Proofs.Ytnoknecfdnjomaa

/-
  a range over a map[int]int.
-/
namespace Go.Proofs.Ytnoknecfdnjomaa
open Go.RowKit

/-- the range over map b, whose iterator is at r: which keys are left -/
def RGI (w : World) (b r n : Nat) (F : Int → Option Int) (left : Int → Prop) (cnt : Nat) : Prop :=
  ∃ (D : DataW Unit) (lf : Lit → Bool), w.ranges Try.prog 3 (plainElem Try.prog 3) b r n D lf cnt ∧ (∀ x, okInt x → D.atKey (.int .i64 x) (.lit (.int .i64 0)) = .lit (.int .i64 ((F x).getD 0)) ∧ Maps.has D (.int .i64 x) = (F x).isSome) ∧
    (∀ x, okInt x → (lf (.int .i64 x) = true ↔ left x)) ∧ ∀ x, okInt x → left x → (F x).isSome = true

section
variable {w : World} {b r n cnt : Nat} {F : Int → Option Int} {left : Int → Prop}

theorem RGI.left_eq (h : RGI w b r n F left cnt) : w.rangeLeft b r = cnt := by obtain ⟨D, lf, h, _⟩ := h; exact h.left_eq
theorem RGI.ne (h : RGI w b r n F left cnt) : r ≠ b := by obtain ⟨D, lf, h, _⟩ := h; exact h.ne
theorem RGI.lt (h : RGI w b r n F left cnt) : r < w.heap.size := by obtain ⟨D, lf, h, _⟩ := h; exact h.lt
theorem RGI.ltb (h : RGI w b r n F left cnt) : b < w.heap.size := by obtain ⟨D, lf, h, _⟩ := h; exact h.owns.lt
theorem RGI.kp {S : Nat → Prop} {w' : World} (h : RGI w b r n F left cnt) (k : Kp S w w') (hb : ¬ S b) (hr : ¬ S r) : RGI w' b r n F left cnt := by
  have h1 := h.ltb
  have h2 := h.lt
  obtain ⟨D, lf, ⟨es, clock, since, seen, c0, q1, q2, q3, q4, q5, q6⟩, h4⟩ := h
  exact ⟨D, lf, ⟨es, clock, since, seen, c0, (k.block b h1 hb).trans q1, q2, q3, q4, (k.block r h2 hr).trans q5, q6⟩, h4⟩
theorem RGI.congr {left' : Int → Prop} (h : RGI w b r n F left cnt) (e : ∀ x, okInt x → (left x ↔ left' x)) : RGI w b r n F left' cnt := by
  obtain ⟨D, lf, h1, h2, h3, h4⟩ := h
  exact ⟨D, lf, h1, h2, fun x hx => (h3 x hx).trans (e x hx), fun x hx h => h4 x hx ((e x hx).2 h)⟩

variable {ops : Array Oper} {rest : List Oper} {o : Oper} {a : Act} {Q : Exit → Act → World → Prop}

theorem wpList_rangeI (hg : o.guard = none) (m : Operand) (hop : o.op = Op.range 40 m) (hm : a.eval m = .map (some b)) (hI : IMI w b n F)
    (hK : ∀ w' cnt, RGI w' b w.heap.size n F (fun x => (F x).isSome = true) cnt → Kp (fun _ => False) w w' → w'.heap.size = w.heap.size + 1 → wpList Try.prog ops Q rest (a.put o.dst (.pointer (some ⟨w.heap.size, 0, none⟩))) w') :
    wpList Try.prog ops Q (o :: rest) a w := by
  obtain ⟨D, h1, h2, h3⟩ := hI
  refine wpList_range_own _ hg m 40 hop 3 3 intk_keyed Try.underlying40 (plainElem Try.prog 3) b n D hm h1 fun w' r1 r2 r3 => ?_
  exact hK w' _ ⟨D, _, r1, h3, fun x hx => by rw [(h3 x hx).2], fun x hx h => h⟩ ((Kp.refl _ w).grown r2 (fun j hj _ => by cases hj)) r3

theorem wpList_nextI (hg : o.guard = none) (it : Operand) (hop : o.op = Op.next it false) (hit : a.eval it = .pointer (some ⟨r, 0, none⟩)) (h : RGI w b r n F left cnt)
    (hDone : (∀ x, okInt x → ¬ left x) → wpList Try.prog ops Q rest (a.put o.dst (.tuple #[.bool false])) w)
    (hMore : ∀ (x c : Int) (w' : World) (cnt' : Nat), okInt x → left x → F x = some c → RGI w' b r n F (fun z => left z ∧ z ≠ x) cnt' → cnt' < cnt → Kp (· = r) w w' → w'.heap.size = w.heap.size → (Instr.entry (.pointer (some ⟨r, 0, none⟩))).run Try.prog w' = .ok (.tuple #[.int .i64 x, .int .i64 c]) w' →
      wpList Try.prog ops Q rest (a.put o.dst (.tuple #[.bool true, .int .i64 x, .int .i64 c])) w') :
    wpList Try.prog ops Q (o :: rest) a w := by
  obtain ⟨D, lf, h1, h2, h3, h4⟩ := h
  refine wpList_next_ranges_ii _ hg it hop 3 3 .i64 .i64 intk_keyed Try.underlying3 Try.underlying3 b r n D lf cnt hit h1 (fun _ hl => hDone fun x hx h => by have := hl (.int .i64 x); rw [(h3 x hx).2 h] at this; cases this) fun x c w' cnt' hx hc hl hat hr hlt hgr hsz hen => ?_
  have okx : okInt x := by
    simp [Lit.wf, IntKind.min, IntKind.max, IntKind.signed, IntKind.bits] at hx
    unfold okInt; omega
  have hlx := (h3 x okx).1 hl
  have hF : F x = some c := by
    have e := (h2 x okx).1
    rw [hat] at e
    have hs := h4 x okx hlx
    obtain ⟨y, hy⟩ := Option.isSome_iff_exists.1 hs
    rw [hy] at e ⊢
    simp only [Option.getD_some, DataW.lit.injEq, Lit.int.injEq, true_and] at e
    rw [e]
  refine hMore x c w' cnt' okx hlx hF ⟨D, _, hr, h2, fun z hz => ?_, fun z hz h => h4 z hz h.1⟩ hlt ((Kp.refl _ w).grown hgr (fun j hj _ => by simpa using hj.symm)) hsz hen
  simp only [Bool.and_eq_true, (h3 z hz), Bool.not_eq_true']
  refine and_congr_right fun _ => ?_
  by_cases e : z = x
  · subst e; simp [WideAt.sameKey_self (intk_keyed.key (intk_key hz))]
  · have : (Lit.int IntKind.i64 z).sameKey (.int .i64 x) = false := by
      cases hs : (Lit.int IntKind.i64 z).sameKey (.int .i64 x)
      · rfl
      · exact absurd (WideAt.sameKey_eq hs) (by simpa using e)
    simp [e, this]
end

end Go.Proofs.Ytnoknecfdnjomaa
