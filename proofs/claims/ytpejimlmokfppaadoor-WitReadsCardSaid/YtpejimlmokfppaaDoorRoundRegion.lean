/-
  A region inside a round of a range over a function goes as it goes elsewhere: the laws of a plain region's walk serve in a round's frame. No program in sight.
-/
import Derived.OwnWalkIn
import Derived.RangeFuncNested
import Derived.RangeFuncCalls
import Derived.OrdersHeld
import Derived.Deep.RegionHeld3
namespace Go.Proofs.YtpejimlmokfppaaDoor
open Go

/-- the post of a region: it ends normally -/
def Onward (K : Act → World → Prop) : Exit → Act → World → Prop
  | .normal, a, w => K a w
  | _, _, _ => False

theorem Onward.only {K : Act → World → Prop} : ∀ {e : Exit} {a : Act} {w : World}, Onward K e a w → e = .normal ∧ K a w := fun {e} {_} {_} h => by
  cases e <;> first | exact ⟨rfl, h⟩ | exact h.elim

theorem opsIn_of_ops {l n : Nat} {P : Program} {ops : Array Oper} (hd : ∀ (i : Nat) (o : Oper), ops[i]? = some o → ∀ c, o.op ≠ .defer c) {K : Act → World → Prop} {Q : Exit → Act → World → Prop} (hK : ∀ a w, K a w → Q .normal a w) :
    ∀ (L : List Nat) (a : Act) (w : World), wpOps P ops (Onward K) L a w → wpOpsIn (Fence.wide.inRound l) n P ops Q L a w
  | [], a, w, h => hK _ _ h
  | i :: rest, a, w, h => by
    have ih := fun a w => opsIn_of_ops (l := l) (n := n) (P := P) hd hK rest a w
    simp only [wpOps, wpOpsIn] at h ⊢
    cases ho : ops[i]? with
    | none => rw [ho] at h; exact ih _ _ h
    | some o =>
      rw [ho] at h
      simp only at h ⊢
      by_cases hw : Region.wanted o (yielded ops a.tmps) = true
      · rw [if_pos hw] at h ⊢
        rcases h with h | ⟨_, _, _, hq⟩
        · refine ⟨fun _ _ => trivial, ?_⟩
          rw [Oper.semAt_plain _ _ _ (hd i o ho)]
          unfold Oper.wp at h
          generalize (execOp a.eval o).run P w = r at h ⊢
          cases r with
          | ok x w1 =>
            cases x <;> simp only [Oper.upon, Oper.uponIn] at h ⊢ <;> first | exact ih _ _ h | exact h.elim | skip
            · refine ⟨(fun h => nomatch h), ?_⟩
              refine CallsIn.mono (callsIn_wide.2 h) ?_
              intro e w2 he
              cases e with
              | returned v => exact ih _ _ he
              | panicked c => exact (Onward.only he).1 |> fun h => by cases h
              | outgrown => obtain ⟨_, _, hq⟩ := he; exact (Onward.only hq).1 |> fun h => by cases h
            · refine ⟨(fun h => nomatch h), ?_⟩
              intro c cs _
              obtain ⟨v, w2, hr, hs⟩ := h c cs
              exact ⟨v, w2, ih _ _ hr, stepsIn_wide.2 hs⟩
          | halt c w1 =>
            cases c <;> simp only [Oper.upon] at h <;> first | exact h.elim | exact ((Onward.only h).1 |> fun h => by cases h)
        · exact (Onward.only hq).1 |> fun h => by cases h
      · rw [if_neg hw] at h ⊢
        exact ⟨fun _ _ => trivial, ih _ _ h⟩

def noDefer (ops : Array Oper) : Bool := ops.all fun o => match o.op with | .defer _ => false | _ => true

theorem noDefer_spec {ops : Array Oper} (h : noDefer ops = true) : ∀ (i : Nat) (o : Oper), ops[i]? = some o → ∀ c, o.op ≠ .defer c := by
  intro i o ho c e
  obtain ⟨hi, he⟩ := Array.getElem?_eq_some_iff.1 ho
  have := (Array.all_eq_true.1 h) i hi
  rw [he, e] at this
  cases this

/-- a region that draws, in a round's frame -/
theorem wpIn_region_held {l n id : Nat} {P : Program} {ops : Array Oper} {S : World → Prop} {Q : Exit → Act → World → Prop} {a : Act} {w : World} (hm : P.follows .mixedOrders = true) (hd : noDefer ops = true)
    (hS : S w.drew) (h : ∀ K : Act → World → Prop, (∀ a w, Q .normal a w → K a w) → S w.drew → wpAnyH P .any ops (Onward K) S ops.size (Array.replicate ops.size false) a w.drew) :
    (Code.region id ops true).wpIn (Fence.wide.inRound l) n P Q a w :=
  wpIn_region_draw fun t => by
    simp only [Region.schedule, hm, Bool.true_or, if_true]
    exact opsIn_of_ops (noDefer_spec hd) (fun _ _ h => h) _ _ _ (wpAny_sound ops.size t _ a _ (wpAny_of_held _ _ _ _ (h _ (fun _ _ h => h) hS)))

end Go.Proofs.YtpejimlmokfppaaDoor
