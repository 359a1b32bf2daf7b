/-
  explore.Step: the states behind one, rising.
-/
import Derived.Test.YtnoknecfdnjomaaGreatM5
import Derived.Test.YtnoknecfdnjomaaGreatM2
import Derived.Maps.RangeWalk
import Derived.Test.YtnoknecfdnjomaaGreatM3
import Derived.Test.YtnoknecfdnjomaaGreatM1
set_option linter.unusedVariables false
set_option linter.unusedSimpArgs false
namespace Go.Proofs.YtnoknecfdnjomaaGreat
open Go.RowKit Go.Maps Go.Sort Go.Shelf

theorem has_ok {w : World} {b q : Nat} {D : DataW Unit} (hown : w.ownsMap Tryz.prog 3 (plainElem Tryz.prog 3) b q D) {x : Int} (h : Maps.has D (.int .i64 x) = true) : okInt x := by
 obtain ⟨es, hD, hko⟩ := hown.keysOf
 subst hD
 have h' := h
 rw [has_eq, List.any_eq_true] at h'
 obtain ⟨p, hp, hs⟩ := h'
 have hwf := intKeys_wf hown Tryz.underlying3 (Go.intOf p.1) (List.mem_map.2 ⟨p, hp, rfl⟩)
 obtain ⟨v, hv⟩ := hko p hp
 obtain ⟨y, _, hy, hl⟩ := Maps.keyOf_i64 Tryz.underlying3 hv
 rw [hy] at hs
 have : y = x := by simpa [Lit.sameKey] using hs
 subst this
 simp [Lit.wf, IntKind.min, IntKind.max, IntKind.signed, IntKind.bits] at hl
 unfold okInt; omega

theorem keys_sorted {w : World} {b q n : Nat} {F : Int → Option Int} {D : DataW Unit} (hown : w.ownsMap Tryz.prog 3 (plainElem Tryz.prog 3) b q D) (h2 : ∀ x, okInt x → Maps.has D (.int .i64 x) = (F x).isSome) (hF : ∀ u i, F u = some i → ∃ v : Nat, u = (v : Int) ∧ v < n) (hn : n ≤ 1024) {ss : List Int} (hp : ss.Perm (intKeys D)) :
  ss.mergeSort leI = stepL n F := by
 have hc : CollectedI D (fun _ => false) (stepL n F) := by
  refine ⟨stepL_lt.imp (fun h => Int.ne_of_lt h), fun x => ?_⟩
  constructor
  ·intro hx
   obtain ⟨v, hv, rfl⟩ := List.mem_map.1 hx
   obtain ⟨h3, h4⟩ := stepN_mem.1 hv
   exact ⟨by rw [h2 _ (by unfold okInt; omega)]; exact h4, rfl⟩
  ·rintro ⟨hx, -⟩
   have hok := has_ok hown hx
   rw [h2 x hok] at hx
   obtain ⟨i, hi⟩ := Option.isSome_iff_exists.1 hx
   obtain ⟨v, rfl, hv⟩ := hF x i hi
   exact List.mem_map.2 ⟨v, stepN_mem.2 ⟨hv, by rw [hi]; rfl⟩, rfl⟩
 have hq := hc.perm hown intk_keyed Tryz.underlying3 (fun _ => rfl)
 rw [mergeSort_of_perm_i (hp.trans hq.symm)]
 exact List.mergeSort_of_pairwise (stepL_lt.imp (fun h => by simpa [leI] using Int.le_of_lt h))

theorem sortsA (m : Nat) : AnyZI.SortsIn Tryz.prog Tryz.sortedA_ren Fence.wide m :=
  ⟨fun blk off cap ss W hH hblk hsz => callsIn_wide.2 (Tryz.slices_Sort_int blk off cap ss W hH hblk hsz),
   fun p cap W => callsIn_wide.2 (Tryz.slices_Sort_int_none p cap W)⟩

def stepS (n : Nat) (F : Nat → Int → Option Int) (t : Int) : List Int := if 0 ≤ t ∧ t < (n : Int) then stepL n (F t.toNat) else []

set_option maxRecDepth 100000 in
set_option maxHeartbeats 4000000 in
theorem ex_Step {sp g n cg : Nat} {w : World} {mb : Nat → Nat} {F : Nat → Int → Option Int} {BD R D : Nat → Int} (hs1 : w.cell? ⟨sp, 1, none⟩ = some (.slice (some ⟨g, 0, none⟩) n cg)) (hR : RowsS w g n mb F BD R D) (hF : ∀ t, t < n → ∀ u i, F t u = some i → ∃ v : Nat, u = (v : Int) ∧ v < n) (hn : n ≤ 1024) (t : Int) :
  Calls Tryz.prog 20 #[.pointer (some ⟨sp, 0, none⟩), .int .i64 t] w fun e w' => ∃ v, e = .returned v ∧ Own w' w.heap.size 3 v ((stepS n F t).map encZ) ∧ Kp (fun _ => False) w w' := by
 have HIs := Lib.hid (ex_is hs1 t)
 by_cases h : 0 ≤ t ∧ t < (n : Int)
 ·obtain ⟨v, rfl⟩ : ∃ v : Nat, t = (v : Int) := ⟨t.toNat, by omega⟩
  have hv : v < n := by omega
  have hS : stepS n F (v : Int) = stepL n (F v) := by unfold stepS; rw [if_pos h]; rfl
  rw [hS]
  rw [decide_eq_true h] at HIs
  have c0 := hR.cell0 hv
  obtain ⟨v0, v1⟩ := h
  obtain ⟨q, ⟨D0, hown, hM, hD⟩, hq⟩ := hR.map v hv
  have hsz := hown.size_le
  have hsort : ∀ ss : List Int, ss.Perm (intKeys D0) → ss.mergeSort leI = stepL n (F v) := fun ss hp => keys_sorted hown (fun x hx => (hD x hx).2) (hF v hv) hn hp
  have HSort := Lib.hid hsort
  obtain ⟨b, hb⟩ : ∃ b, mb v = b := ⟨_, rfl⟩
  rw [hb] at c0 hown
  have hbl := hown.lt
  have hmax : Maps.size D0 ≤ maxLen := Nat.le_trans (Nat.le_trans hsz hq) (by decide)
  have hbytes : Maps.size D0 * 8 ≤ 140737488355328 := by omega
  have hseq : SeqGives Fence.wide 2 Tryz.prog 69 #[.pointer (some ⟨w.heap.size, 0, none⟩)] encZ (fun ss => ss.Perm (intKeys D0)) (Maps.size D0) (w.alloc (.cells #[.map (some b)] 73)) :=
   AnyZI.keys_gives (ρ := Tryz.keysA_ren) { Tryz.keysA with } Fence.wide _ trivial rfl (by omega) w.heap.size b q D0 _ (by simp) (by simp) (by
    obtain ⟨es, clock, hb, Ft, hs, hD⟩ := hown
    exact ⟨es, clock, (Below.heap_alloc _ _ b hbl).trans hb, Ft, hs, hD⟩)
  have cK : ∀ mb W, CallsIn Fence.wide 5 Tryz.prog 50 #[.map mb] W fun e w' => e = .returned (.func (.func 69) #[] #[.pointer (some ⟨W.heap.size, 0, none⟩)]) ∧ w' = W.alloc (.cells #[.map mb] 73) := fun mb W => AnyZI.keys_in Tryz.keysA Fence.wide 5 trivial rfl mb W
  have cS := AnyZI.sorted_in Tryz.sortedA Fence.wide 5 trivial trivial trivial trivial rfl (by omega) (sortsA _) (enters_of Tryz.func68 (by kernel_rfl) rfl) 69 #[.pointer (some ⟨w.heap.size, 0, none⟩)] trivial (enters_of Tryz.func69 (by kernel_rfl) rfl) _ _ hmax hbytes _ hseq
  change CallsIn _ _ Tryz.prog 49 _ _ _ at cS
  have HCK := Lib.hid (fun mb W => (callsIn_wide).1 (cK mb W))
  have HCS := Lib.hid ((callsIn_wide).1 cS)
  clear hR hown hM hD hsz hq hmax hbytes hseq cK cS hb hbl hsort
  go_enter Tryz.func20, Tryz.ntmps20
  go_wp2_with (first
   |(go_at_call 48; refine Calls.mono HIs.out ?_; rintro e w2 ⟨rfl, rfl⟩)
   |(go_at_call 50; refine Calls.mono (HCK.out _ _) ?_; rintro e w2 ⟨rfl, rfl⟩)
   |(go_at_call 49; refine Calls.mono HCS.out ?_; rintro e w3 ⟨x, ss, rfl, hp, hrow, hnil, hb⟩; have HP := Lib.hid hp; have HRow := Lib.hid hrow; have HB := Lib.hid hb; clear hp hrow hnil hb))
  go_ret
  have hl : (stepL n (F v)).length = ss.length := by rw [← HSort.out ss HP.out]; simp
  refine ⟨_, rfl, ?_, ?_⟩
  ·unfold Own
   rw [List.length_map, hl, ← HSort.out ss HP.out]
   exact ownsRow_base_a HRow.out (by simp)
  ·exact ((Kp.refl _ w).alloc _).trans (Kp.of_below HB.out (fun _ => False)) (fun _ _ h => h)
 ·have hS : stepS n F t = [] := by unfold stepS; rw [if_neg h]
  rw [hS]
  rw [decide_eq_false h] at HIs
  clear hR
  go_enter Tryz.func20, Tryz.ntmps20
  go_wp2_with (go_at_call 48; refine Calls.mono HIs.out ?_; rintro e w2 ⟨rfl, rfl⟩)
  go_ret
  exact ⟨_, rfl, Own.nil _ _ _, Kp.refl _ _⟩

end Go.Proofs.YtnoknecfdnjomaaGreat

/-
  A layer after the other: in the midst of a round. No program in sight.
-/
namespace Go.Proofs.YtnoknecfdnjomaaGreat
open Go.RowKit

structure MidG (n : Nat) (st : Nat → Bool) (E : Nat → Nat → Bool) (m : Nat) (Q : Nat → Prop) (R : Nat → Int) (N : List Nat) : Prop where
  old : ∀ t, t < n → distG n st E m t ≠ -1 → R t = distG n st E m t
  new : ∀ t, t < n → distG n st E m t = -1 → Q t → R t = (m : Int) + 1
  none : ∀ t, t < n → distG n st E m t = -1 → ¬ Q t → R t = -1
  nd : N.Nodup
  mem : ∀ t, t ∈ N ↔ t < n ∧ distG n st E m t = -1 ∧ Q t

section
variable {n : Nat} {st : Nat → Bool} {E : Nat → Nat → Bool} {m : Nat} {Q : Nat → Prop} {R : Nat → Int} {N : List Nat}

theorem MidG.start (h : ∀ t, t < n → R t = distG n st E m t) : MidG n st E m (fun _ => False) R [] :=
 ⟨fun t ht _ => h t ht, fun _ _ _ h => h.elim, fun t ht h1 _ => by rw [h t ht, h1], List.nodup_nil, fun t => ⟨fun h => (by cases h), fun h => h.2.2.elim⟩⟩
theorem MidG.congr {Q' : Nat → Prop} (h : MidG n st E m Q R N) (e : ∀ t, t < n → (Q t ↔ Q' t)) : MidG n st E m Q' R N :=
 ⟨h.old, fun t ht h1 h2 => h.new t ht h1 ((e t ht).2 h2), fun t ht h1 h2 => h.none t ht h1 (fun q => h2 ((e t ht).1 q)), h.nd, fun t => by
  rw [h.mem]
  exact ⟨fun ⟨a, b, c⟩ => ⟨a, b, (e t a).1 c⟩, fun ⟨a, b, c⟩ => ⟨a, b, (e t a).2 c⟩⟩⟩
theorem MidG.put (h : MidG n st E m Q R N) {u : Nat} (hu : u < n) (hr : R u = -1) : MidG n st E m (fun t => Q t ∨ t = u) (upI R u ((m : Int) + 1)) (N ++ [u]) := by
 have hd : distG n st E m u = -1 := by
  apply Classical.byContradiction
  intro q
  have := h.old u hu q
  rcases distG_cases (n := n) (st := st) (E := E) m u with ⟨_, z⟩ | ⟨_, z, _⟩
  ·exact q z
  ·omega
 have hq : ¬ Q u := fun q => by have := h.new u hu hd q; omega
 have hN : u ∉ N := fun q => hq ((h.mem u).1 q).2.2
 refine ⟨fun t ht h1 => ?_, fun t ht h1 h2 => ?_, fun t ht h1 h2 => ?_, ?_, fun t => ?_⟩
 ·have : t ≠ u := fun e => h1 (by rw [e]; exact hd)
  unfold upI; rw [if_neg this]; exact h.old t ht h1
 ·unfold upI
  by_cases e : t = u
  ·rw [if_pos e]
  ·rw [if_neg e]; exact h.new t ht h1 (h2.resolve_right e)
 ·unfold upI
  rw [if_neg (fun e => h2 (.inr e))]
  exact h.none t ht h1 (fun q => h2 (.inl q))
 ·rw [List.nodup_append]
  refine ⟨h.nd, by simp, fun a ha b hb => ?_⟩
  simp at hb
  subst hb
  exact fun e => hN (e ▸ ha)
 ·rw [List.mem_append, h.mem]
  constructor
  ·rintro (⟨a, b, c⟩ | h1)
   ·exact ⟨a, b, .inl c⟩
   ·simp at h1; subst h1; exact ⟨hu, hd, .inr rfl⟩
  ·rintro ⟨a, b, c | c⟩
   ·exact .inl ⟨a, b, c⟩
   ·subst c; exact .inr (by simp)
theorem MidG.skip (h : MidG n st E m Q R N) {u : Nat} (hu : u < n) (hr : R u ≠ -1) : MidG n st E m (fun t => Q t ∨ t = u) R N := by
 have hc : distG n st E m u ≠ -1 ∨ Q u := by
  by_cases e : distG n st E m u = -1
  ·right
   apply Classical.byContradiction
   intro q
   exact hr (h.none u hu e q)
  ·exact .inl e
 refine ⟨h.old, fun t ht h1 h2 => ?_, fun t ht h1 h2 => h.none t ht h1 (fun q => h2 (.inl q)), h.nd, fun t => ?_⟩
 ·rcases h2 with h2 | h2
  ·exact h.new t ht h1 h2
  ·subst h2
   exact h.new t ht h1 (hc.resolve_left (fun q => q h1))
 ·rw [h.mem]
  constructor
  ·rintro ⟨a, b, c⟩; exact ⟨a, b, .inl c⟩
  ·rintro ⟨a, b, c | c⟩
   ·exact ⟨a, b, c⟩
   ·subst c; exact ⟨a, b, hc.resolve_left (fun q => q b)⟩
theorem MidG.fin (h : MidG n st E m (fun t => ∃ s, s < n ∧ distG n st E m s = m ∧ E s t = true) R N) : (∀ t, t < n → R t = distG n st E (m + 1) t) ∧ ∀ t, t ∈ N ↔ t < n ∧ distG n st E (m + 1) t = ((m + 1 : Nat) : Int) := by
 have key : ∀ t, t < n → R t = distG n st E (m + 1) t := fun t ht => by
  by_cases e : distG n st E m t = -1
  ·rw [distG_step e]
   by_cases q : ∃ s, s < n ∧ distG n st E m s = m ∧ E s t = true
   ·rw [if_pos q]; exact h.new t ht e q
   ·rw [if_neg q]; exact h.none t ht e q
  ·rw [distG_keep e]; exact h.old t ht e
 refine ⟨key, fun t => ?_⟩
 rw [h.mem]
 constructor
 ·rintro ⟨a, b, c⟩
  exact ⟨a, by rw [distG_step b, if_pos c]; omega⟩
 ·rintro ⟨a, b⟩
  by_cases e : distG n st E m t = -1
  ·rw [distG_step e] at b
   split at b
   ·rename_i q; exact ⟨a, e, q⟩
   ·omega
  ·rw [distG_keep e] at b
   rcases distG_cases (n := n) (st := st) (E := E) m t with ⟨_, z⟩ | ⟨_, _, z⟩
   ·exact absurd z e
   ·omega
end

end Go.Proofs.YtnoknecfdnjomaaGreat

/-
  step.Starts.
-/
namespace Go.Proofs.YtnoknecfdnjomaaGreat
open Go.RowKit

set_option maxRecDepth 100000 in
set_option maxHeartbeats 4000000 in
theorem step_Starts (V : CV) (C : Circ) (p : Nat) (a4 a5 : Option Addr) (c4 c5 : Nat) (sa : Option Addr) (sn sc : Nat) (st : List Bool) (w : World) (hM : MAt w 99 V C p a4 c4 a5 c5) (hf : CFew C 1000000) (hg : GoodC C) (hs : BS w sa sn st) :
  Calls Tryz.prog 64 #[.pointer (some ⟨p, 0, none⟩), .slice sa sn sc] w fun e w' => e = .returned (.bool (startsM C st)) ∧ Kp (fun _ => False) w w' := by
 obtain ⟨nl, hnl⟩ : ∃ n, C.lats.length = n := ⟨_, rfl⟩
 have hnl1 : nl ≤ 1000000 := by have := hf.l; omega
 have HNl := Lib.hid hnl
 have hB : w.cell? ⟨p, 2, none⟩ = some (.slice V.al nl V.cl) := hM.blk.cell (i := 2) (by rw [← hnl]; rfl)
 have HLa := Lib.hid (step_Latches V C p a4 a5 c4 c5 w hM hf)
 rw [hnl] at HLa
 have HRes := Lib.hid (show ∀ k, k < nl → 0 ≤ (g3 C.lats k).2.2 from fun k hk => by
  have h1 := hg.rng.res _ (g3_mem (G := C.lats) (i := k) (by omega))
  have h2 := hg.rng.own _ (lat_own (C := C) (i := k) (by omega))
  omega)
 have HM := Lib.hid hM
 have HS := Lib.hid hs
 have hsm := hs.most
 obtain ⟨r, hr⟩ : ∃ r, startsM C st = r := ⟨_, rfl⟩
 rw [hr]
 unfold startsM at hr
 rw [hnl, hs.len] at hr
 clear hM hf hg hs hnl
 by_cases hl : sn = nl
 ·rw [decide_eq_true hl, Bool.true_and] at hr
  have HR := Lib.hid hr
  have q0 : ((sn : Int) == (nl : Int)) = true := by simp [hl]
  subst hl
  clear hr
  go_enter Tryz.func64, Tryz.ntmps64
  go_wp2_with (go_at_call 34; with_reducible refine Calls.mono HLa.out ?_; rintro e w1 ⟨rfl, rfl⟩)
  go_loopw [22] (fun v22 wr => ∃ k : Nat, v22 = .int .i64 k ∧ k ≤ sn ∧ (List.range k).all (fun k => startOk (g3 C.lats k).2.2 (vb st k)) = true ∧ Kp (fun _ => False) w wr) (fun v22 _ => sn - (intOf v22).toNat)
  case atStart => exact ⟨0, rfl, by omega, rfl, Kp.refl _ _⟩
  case round =>
   obtain ⟨k, rfl, hk, hall, hK⟩ := hrel
   obtain ⟨wp, rfl⟩ : ∃ wp : World, wp = wr := ⟨_, rfl⟩
   have HK := Lib.hid hK
   clear hK
   by_cases hlt : k < sn
   ·have hkl : k < C.lats.length := by rw [HNl.out]; exact hlt
    obtain ⟨b, off, ea, hE⟩ := HM.out.circ.latCell hkl
    obtain ⟨e0, e1, e2⟩ := hE _ HK.out
    obtain ⟨b3, off3, ea3, e3⟩ := HS.out.row k _ (bv_at (by rw [HS.out.len]; exact hlt))
    have e3 := HK.out.cellK e3
    have hS := all_range_succ (fun k => startOk (g3 C.lats k).2.2 (vb st k)) k
    rw [hall, Bool.true_and] at hS
    have hF : startOk (g3 C.lats k).2.2 (vb st k) = false → r = false := fun h => by
     rw [← HR.out]; exact all_range_lt hlt h
    have hrs := HRes.out k hlt
    obtain ⟨y0, hy0⟩ : ∃ x, (g3 C.lats k).1 = x := ⟨_, rfl⟩
    obtain ⟨y1, hy1⟩ : ∃ x, (g3 C.lats k).2.1 = x := ⟨_, rfl⟩
    obtain ⟨x, hx⟩ : ∃ x, (g3 C.lats k).2.2 = x := ⟨_, rfl⟩
    obtain ⟨y, hy⟩ : ∃ y, vb st k = y := ⟨_, rfl⟩
    rw [hy0] at e0
    rw [hy1] at e1
    rw [hx] at e2 hrs
    rw [hy] at e3
    rw [hx, hy] at hS hF
    have HSS := Lib.hid hS
    have HFl := Lib.hid hF
    rw [ea]
    subst ea3
    have i0 : (0 : Int) ≤ (k : Int) := by omega
    have i2 : (k : Int) < (sn : Int) := by omega
    have hka := (Kp.refl (fun _ => False) wp).alloc (.cells #[.int .i64 y0, .int .i64 y1, .int .i64 x] 64)
    have nb := (Blk.new wp #[.int .i64 y0, .int .i64 y1, .int .i64 x] 64).cell (i := 2) (v := .int .i64 x) rfl
    have e4 := hka.cellK e3
    have HKa := Lib.hid (HK.out.trans hka (fun _ _ h => h))
    clear hx hy hy0 hy1 hS hF hE ea hkl hall hka
    by_cases x0 : x = 0
    ·subst x0
     cases y with
     |true =>
      obtain rfl : r = false := HFl.out rfl
      go_upto_region 6 with fail
      go_quiet (fail)
      go_wp2_with fail
      go_ret
      exact ⟨rfl, HKa.out.drewN _⟩
     |false =>
      go_upto_region 6 with fail
      go_quiet (fail)
      go_wp2_with fail
      exact ⟨⟨k + 1, by go_num, by omega, by rw [HSS.out]; rfl, HKa.out.drewN _⟩, by simp [intOf]; omega⟩
    ·by_cases x1 : x = 1
     ·subst x1
      cases y with
      |false =>
       obtain rfl : r = false := HFl.out rfl
       clear x0
       go_upto_region 6 with fail
       go_quiet (fail)
       go_wp2_with fail
       go_ret
       exact ⟨rfl, HKa.out.drewN _⟩
      |true =>
       clear x0
       go_upto_region 6 with fail
       go_quiet (fail)
       go_wp2_with fail
       exact ⟨⟨k + 1, by go_num, by omega, by rw [HSS.out]; rfl, HKa.out.drewN _⟩, by simp [intOf]; omega⟩
     ·have z1 : decide (x < 2) = false := decide_eq_false (by omega)
      have z2 : ¬ x < 2 := by omega
      have HOk := Lib.hid (show startOk x y = true by unfold startOk; rw [decide_eq_false x0, decide_eq_false x1]; rfl)
      clear x0 x1
      go_upto_region 6 with fail
      go_quiet (fail)
      go_wp2_with fail
      exact ⟨⟨k + 1, by go_num, by omega, by rw [HSS.out, HOk.out], HKa.out.drewN _⟩, by simp [intOf]; omega⟩
   ·obtain rfl : k = sn := by omega
    obtain rfl : r = true := by rw [← HR.out]; exact hall
    clear hall
    go_wp2_with fail
    go_ret
    exact ⟨rfl, HK.out⟩
 ·rw [decide_eq_false hl, Bool.false_and] at hr
  subst hr
  have q0 : ((sn : Int) == (nl : Int)) = false := by simp; omega
  clear hl
  go_enter Tryz.func64, Tryz.ntmps64
  go_wp2_with (go_at_call 34; with_reducible refine Calls.mono HLa.out ?_; rintro e w1 ⟨rfl, rfl⟩)
  go_ret
  exact ⟨rfl, Kp.refl _ _⟩

end Go.Proofs.YtnoknecfdnjomaaGreat

/-
  a range over a map[int]int.
-/
namespace Go.Proofs.YtnoknecfdnjomaaGreat
open Go.RowKit

def RGI (w : World) (b r n : Nat) (F : Int → Option Int) (left : Int → Prop) (cnt : Nat) : Prop :=
  ∃ (D : DataW Unit) (lf : Lit → Bool), w.ranges Tryz.prog 3 (plainElem Tryz.prog 3) b r n D lf cnt ∧ (∀ x, okInt x → D.atKey (.int .i64 x) (.lit (.int .i64 0)) = .lit (.int .i64 ((F x).getD 0)) ∧ Maps.has D (.int .i64 x) = (F x).isSome) ∧
    (∀ x, okInt x → (lf (.int .i64 x) = true ↔ left x)) ∧ ∀ x, okInt x → left x → (F x).isSome = true

section
variable {w : World} {b r n cnt : Nat} {F : Int → Option Int} {left : Int → Prop}

theorem RGI.left_eq (h : RGI w b r n F left cnt) : w.rangeLeft b r = cnt := by obtain ⟨D, lf, h, _⟩ := h; exact h.left_eq
theorem RGI.ne (h : RGI w b r n F left cnt) : r ≠ b := by obtain ⟨D, lf, h, _⟩ := h; exact h.ne
theorem RGI.lt (h : RGI w b r n F left cnt) : r < w.heap.size := by obtain ⟨D, lf, h, _⟩ := h; exact h.lt
theorem RGI.ltb (h : RGI w b r n F left cnt) : b < w.heap.size := by obtain ⟨D, lf, h, _⟩ := h; exact h.owns.lt
theorem RGI.kp {S : Nat → Prop} {w' : World} (h : RGI w b r n F left cnt) (k : Kp S w w') (hb : ¬ S b) (hr : ¬ S r) : RGI w' b r n F left cnt := by
 have h1 := h.ltb
 have h2 := h.lt
 obtain ⟨D, lf, ⟨es, clock, since, seen, c0, q1, q2, q3, q4, q5, q6⟩, h4⟩ := h
 exact ⟨D, lf, ⟨es, clock, since, seen, c0, (k.block b h1 hb).trans q1, q2, q3, q4, (k.block r h2 hr).trans q5, q6⟩, h4⟩
theorem RGI.congr {left' : Int → Prop} (h : RGI w b r n F left cnt) (e : ∀ x, okInt x → (left x ↔ left' x)) : RGI w b r n F left' cnt := by
 obtain ⟨D, lf, h1, h2, h3, h4⟩ := h
 exact ⟨D, lf, h1, h2, fun x hx => (h3 x hx).trans (e x hx), fun x hx h => h4 x hx ((e x hx).2 h)⟩

variable {ops : Array Oper} {rest : List Oper} {o : Oper} {a : Act} {Q : Exit → Act → World → Prop}

theorem wpList_rangeI (hg : o.guard = none) (m : Operand) (hop : o.op = Op.range 73 m) (hm : a.eval m = .map (some b)) (hI : IMI w b n F)
  (hK : ∀ w' cnt, RGI w' b w.heap.size n F (fun x => (F x).isSome = true) cnt → Kp (fun _ => False) w w' → w'.heap.size = w.heap.size + 1 → wpList Tryz.prog ops Q rest (a.put o.dst (.pointer (some ⟨w.heap.size, 0, none⟩))) w') :
  wpList Tryz.prog ops Q (o :: rest) a w := by
 obtain ⟨D, h1, h2, h3⟩ := hI
 refine wpList_range_own _ hg m 73 hop 3 3 intk_keyed Tryz.underlying73 (plainElem Tryz.prog 3) b n D hm h1 fun w' r1 r2 r3 => ?_
 exact hK w' _ ⟨D, _, r1, h3, fun x hx => by rw [(h3 x hx).2], fun x hx h => h⟩ ((Kp.refl _ w).grown r2 (fun j hj _ => by cases hj)) r3

theorem wpList_nextI (hg : o.guard = none) (it : Operand) (hop : o.op = Op.next it false) (hit : a.eval it = .pointer (some ⟨r, 0, none⟩)) (h : RGI w b r n F left cnt)
  (hDone : (∀ x, okInt x → ¬ left x) → wpList Tryz.prog ops Q rest (a.put o.dst (.tuple #[.bool false])) w)
  (hMore : ∀ (x c : Int) (w' : World) (cnt' : Nat), okInt x → left x → F x = some c → RGI w' b r n F (fun z => left z ∧ z ≠ x) cnt' → cnt' < cnt → Kp (· = r) w w' → w'.heap.size = w.heap.size → (Instr.entry (.pointer (some ⟨r, 0, none⟩))).run Tryz.prog w' = .ok (.tuple #[.int .i64 x, .int .i64 c]) w' →
   wpList Tryz.prog ops Q rest (a.put o.dst (.tuple #[.bool true, .int .i64 x, .int .i64 c])) w') :
  wpList Tryz.prog ops Q (o :: rest) a w := by
 obtain ⟨D, lf, h1, h2, h3, h4⟩ := h
 refine wpList_next_ranges_ii _ hg it hop 3 3 .i64 .i64 intk_keyed Tryz.underlying3 Tryz.underlying3 b r n D lf cnt hit h1 (fun _ hl => hDone fun x hx h => by have := hl (.int .i64 x); rw [(h3 x hx).2 h] at this; cases this) fun x c w' cnt' hx hc hl hat hr hlt hgr hsz hen => ?_
 have okx : okInt x := by
  simp [Lit.wf, IntKind.min, IntKind.max, IntKind.signed, IntKind.bits] at hx
  unfold okInt; omega
 have hlx := (h3 x okx).1 hl
 have hF : F x = some c := by
  have e := (h2 x okx).1
  rw [hat] at e
  have hs := h4 x okx hlx
  obtain ⟨y, hy⟩ := Option.isSome_iff_exists.1 hs
  rw [hy] at e ⊢
  simp only [Option.getD_some, DataW.lit.injEq, Lit.int.injEq, true_and] at e
  rw [e]
 refine hMore x c w' cnt' okx hlx hF ⟨D, _, hr, h2, fun z hz => ?_, fun z hz h => h4 z hz h.1⟩ hlt ((Kp.refl _ w).grown hgr (fun j hj _ => by simpa using hj.symm)) hsz hen
 simp only [Bool.and_eq_true, (h3 z hz), Bool.not_eq_true']
 refine and_congr_right fun _ => ?_
 by_cases e : z = x
 ·subst e; simp [WideAt.sameKey_self (intk_keyed.key (intk_key hz))]
 ·have : (Lit.int IntKind.i64 z).sameKey (.int .i64 x) = false := by
   cases hs : (Lit.int IntKind.i64 z).sameKey (.int .i64 x)
   ·rfl
   ·exact absurd (WideAt.sameKey_eq hs) (by simpa using e)
  simp [e, this]
end

end Go.Proofs.YtnoknecfdnjomaaGreat

/-
  explore: forwards.
-/
namespace Go.Proofs.YtnoknecfdnjomaaGreat
open Go.RowKit

def BSV (C : Circ) (k : Nat) (u : World) (v : Value) : Prop := ∃ a c, v = .slice a C.lats.length c ∧ BS u a C.lats.length (stN C k)
theorem BSV.st (C : Circ) (k : Nat) : Stable (BSV C k) := fun _ _ _ k ⟨a, c, h1, h2⟩ => ⟨a, c, h1, h2.kp k⟩
def firstR (st : Nat → Bool) (k t : Nat) : Int := if t < k ∧ st t = true then 0 else -1

theorem firstR_skip {st : Nat → Bool} {k : Nat} (h : st k = false) : firstR st (k + 1) = firstR st k := by
 funext t
 unfold firstR
 by_cases q : t < k ∧ st t = true
 ·rw [if_pos q, if_pos ⟨by omega, q.2⟩]
 ·rw [if_neg q, if_neg]
  rintro ⟨h1, h2⟩
  by_cases e : t = k
  ·rw [e, h] at h2; cases h2
  ·exact q ⟨by omega, h2⟩
theorem firstR_put {st : Nat → Bool} {k : Nat} (h : st k = true) : firstR st (k + 1) = upI (firstR st k) k 0 := by
 funext t
 show firstR st (k + 1) t = if t = k then 0 else firstR st k t
 unfold firstR
 by_cases e : t = k
 ·subst e; simp [h]
 ·rw [if_neg e]
  by_cases q : t < k ∧ st t = true
  ·rw [if_pos q, if_pos ⟨by omega, q.2⟩]
  ·rw [if_neg q, if_neg]
   rintro ⟨h1, h2⟩
   exact q ⟨by omega, h2⟩
theorem firstR_dist {st : Nat → Bool} {E : Nat → Nat → Bool} {n t : Nat} (ht : t < n) : firstR st n t = distG n st E 0 t := by
 unfold firstR distG
 by_cases h : st t = true
 ·rw [if_pos ⟨ht, h⟩, if_pos h]
 ·rw [if_neg (fun q => h q.2), if_neg h]
theorem RowsS.congrR {w : World} {g n : Nat} {mb : Nat → Nat} {F : Nat → Int → Option Int} {BD R R' D : Nat → Int} (h : RowsS w g n mb F BD R D) (e : ∀ t, t < n → R t = R' t) : RowsS w g n mb F BD R' D := by
 refine ⟨?_, h.map, h.ne⟩
 have := h.blk
 rw [rowC_congr (h' := rowH mb BD R' D) fun i hi => by
  unfold rowH rowV
  rw [e (i / 4) (by omega)]] at this
 exact this
def LowR (B g n : Nat) (mb : Nat → Nat) : Prop := g < B ∧ ∀ t, t < n → mb t < B
theorem RowsS.lowR {w : World} {g n : Nat} {mb : Nat → Nat} {F : Nat → Int → Option Int} {BD R D : Nat → Int} (h : RowsS w g n mb F BD R D) : LowR w.heap.size g n mb := ⟨h.blk.lt, fun t ht => by obtain ⟨q, h1, -⟩ := h.map t ht; exact h1.lt⟩
theorem RowsS.kpL {w w' : World} {B g n : Nat} {mb : Nat → Nat} {F : Nat → Int → Option Int} {BD R D : Nat → Int} (h : RowsS w g n mb F BD R D) (hl : LowR B g n mb) (k : Kp (fun j => B ≤ j) w w') : RowsS w' g n mb F BD R D :=
 h.kpS k (by have := hl.1; omega) (fun t ht => by have := hl.2 t ht; omega)

set_option maxRecDepth 100000 in
set_option maxHeartbeats 8000000 in
theorem ex_forwards {V : CV} {C : Circ} {p sp g n cg : Nat} {a4 a5 : Option Addr} {c4 c5 : Nat} {w : World} {mb : Nat → Nat} {F : Nat → Int → Option Int} {BD D : Nat → Int} (hM : MAt w 99 V C p a4 c4 a5 c5) (hf : CFew C 1000000) (hg : GoodC C) (hl : C.lats.length ≤ 10) (hn : n = 2 ^ C.lats.length)
  (hs0 : w.cell? ⟨sp, 0, none⟩ = some (.pointer (some ⟨p, 0, none⟩))) (hs1 : w.cell? ⟨sp, 1, none⟩ = some (.slice (some ⟨g, 0, none⟩) n cg)) (hR : RowsS w g n mb F BD (fun _ => -1) D) (hF : ∀ t, t < n → ∀ u i, F t u = some i → ∃ v : Nat, u = (v : Int) ∧ v < n) (hgp : g ≠ p) (hgs : g ≠ sp) (hMK : ∀ w2, Kp (fun j => j = g) w w2 → MAt w2 99 V C p a4 c4 a5 c5) :
  Calls Tryz.prog 37 #[.pointer (some ⟨sp, 0, none⟩)] w fun e w' => e = .returned (.tuple #[]) ∧ RowsS w' g n mb F BD (distG n (fun t => startsM C (stN C t)) (fun s t => (F s (t : Int)).isSome) n) D ∧ Kp (fun j => j = g) w w' := by
 have HI := Lib.hid (show (Tryz.prog.info? 3).map (fun i => (i.zero, i.size, i.bytes)) = some (some (.int .i64 0), 1, 8) by kernel_rfl)
 have hn9 : n ≤ 1024 := by rw [hn]; have := Nat.pow_le_pow_right (n := 2) (by decide) hl; exact this
 obtain ⟨st, hst⟩ : ∃ st : Nat → Bool, (fun t => startsM C (stN C t)) = st := ⟨_, rfl⟩
 have HSt := Lib.hid hst
 rw [hst]
 obtain ⟨E, hE⟩ : ∃ E : Nat → Nat → Bool, (fun s (t : Nat) => (F s (t : Int)).isSome) = E := ⟨_, rfl⟩
 rw [hE]
 have HE := Lib.hid (fun s t => congrFun (congrFun hE s) t)
 clear hE
 have HR0 : Hid (RowsS w g n mb F BD (firstR st 0) D) := Lib.hid (by
  have e : firstR st 0 = fun _ => -1 := by funext t; unfold firstR; rw [if_neg (fun h => absurd h.1 (Nat.not_lt_zero t))]
  rw [e]; exact hR)
 have HStt := Lib.hid (fun (u : World) (hu : Kp (fun j => j = g) w u) k a c (hb : BS u a C.lats.length (stN C k)) => (step_Starts V C p a4 a5 c4 c5 a _ c (stN C k) u (hMK u hu) hf hg hb).mono (R' := fun e w' => e = .returned (.bool (st k)) ∧ Kp (fun _ => False) u w') (by rintro e w' ⟨rfl, h⟩; rw [← hst]; exact ⟨rfl, h⟩))
 have HSta := Lib.hid (fun (u : World) (hu : Kp (fun j => j = g) w u) k (hk : k < n) => (ex_state (hMK u hu) hf ((World.cell?_of_block (w := w) (w' := u) (a := ⟨sp, 0, none⟩) (hu.block sp (World.block_lt_of_cell? w _ hs0) (fun e => hgs e.symm))).trans hs0) hl k (by rw [← hn]; exact hk)).mono (R' := fun e w' => ∃ v, e = .returned v ∧ Kp (fun _ => False) u w' ∧ BSV C k w' v) (by
  rintro e w' ⟨v, rfl, hO, hK⟩
  obtain ⟨a, c, e, -, -, -, hr⟩ := hO.form
  have hsl : (stN C k).length = C.lats.length := bitsP_len _ _
  rw [bv_length, hsl] at e
  exact ⟨v, rfl, hK, a, c, e, hr, hsl, by omega⟩))
 have HCs := Lib.hid (fun (u : World) (hu : Kp (fun j => j = g) w u) => show u.cell? ⟨sp, 0, none⟩ = some (.pointer (some ⟨p, 0, none⟩)) ∧ u.cell? ⟨sp, 1, none⟩ = some (.slice (some ⟨g, 0, none⟩) n cg) from
  ⟨(World.cell?_of_block (w := w) (w' := u) (a := ⟨sp, 0, none⟩) (hu.block sp (World.block_lt_of_cell? w _ hs0) (fun e => hgs e.symm))).trans hs0, (World.cell?_of_block (w := w) (w' := u) (a := ⟨sp, 1, none⟩) (hu.block sp (World.block_lt_of_cell? w _ hs0) (fun e => hgs e.symm))).trans hs1⟩)
 have HF := Lib.hid hF
 have HLw := Lib.hid hR.lowR
 have HGp := Lib.hid (show g ≠ p ∧ g ≠ sp from ⟨hgp, hgs⟩)
 have hs1' := hs1
 have HN := Lib.hid hn
 clear hM hR hF hst hgp hgs hMK hs0 hg hf hn
 go_enter Tryz.func37, Tryz.ntmps37
 go_wp2_with fail
 go_loopw [2, 14] (fun v2 v14 wr => ∃ (k : Nat) (L : List Nat), v14 = .int .i64 (k : Int) ∧ k ≤ n ∧ RowsS wr g n mb F BD (firstR st k) D ∧ Own wr w.heap.size 3 v2 (nv L) ∧ L.Nodup ∧ (∀ t, t ∈ L ↔ t < k ∧ st t = true) ∧ Kp (fun j => j = g) w wr) (fun _ v14 _ => n - (intOf v14).toNat)
 case atStart => exact ⟨0, [], rfl, Nat.zero_le _, HR0.out, Own.nil _ _ _, List.nodup_nil, fun t => ⟨fun h => (by cases h), fun h => absurd h.1 (Nat.not_lt_zero t)⟩, Kp.refl _ _⟩
 case round =>
  clear HR0 hs1 hs1'
  obtain ⟨k, L, rfl, hk, hRw, hO, hnd, hm, hK⟩ := hrel
  have HRw := Lib.hid hRw
  have HO := Lib.hid hO
  have HNd := Lib.hid hnd
  have HMm := Lib.hid hm
  have HK := Lib.hid hK
  clear hRw hO hnd hm hK
  obtain ⟨wp, rfl⟩ : ∃ wp : World, wp = wr := ⟨_, rfl⟩
  obtain ⟨hsp, hsg⟩ := HCs.out wp HK.out
  by_cases hlt : k < n
  ·have k0 : (0 : Int) ≤ (k : Int) := by omega
   have k1 : (k : Int) < (n : Int) := by omega
   have HStk := Lib.hid (fun u (hu : Kp (fun _ => False) wp u) => HSta.out u (HK.out.trans (hu.mono (T := fun j => j = g) (fun _ _ h => h.elim)) (fun _ _ h => h)) k hlt)
   go_upto_region 4 with fail
   refine wp_region_loose (p := upTo 7) (V := atV [EqV ((.pointer (some ⟨sp, 0, none⟩))), EqV (.pointer (some ⟨sp, 0, none⟩)), EqV (.pointer (some ⟨sp, 0, none⟩)), EqV (.pointer (some ⟨p, 0, none⟩)), EqV ((.pointer (some ⟨sp, 0, none⟩))), EqV ((.int .i64 (k : Int))), BSV C k]) (LP := #[true, true, true, true, true, true, true, false]) (K := 1) (by kernel_rfl) (by kernel_rfl) (atV_st ?hstS4) ?hstepS4 (by kernel_rfl) ?hLPS4 (by kernel_rfl) ?hendS4
   case hstS4 =>
    intro W h
    simp only [List.mem_cons, List.not_mem_nil, or_false] at h
    rcases h with rfl | rfl | rfl | rfl | rfl | rfl | rfl <;> first | exact EqV.st _ | exact BSV.st _ _
   case hLPS4 => exact upTo_spec (by kernel_rfl)
   case hstepS4 =>
    intro i o ho hp a u hk hoff hdep
    have e0 : a.tmps[0]?.getD undef = (.pointer (some ⟨sp, 0, none⟩)) := slot_at (hoff 0 (noDst_spec (by kernel_rfl)))
    have e3 : a.tmps[3]?.getD undef = (.int .i64 (k : Int)) := slot_at (hoff 3 (noDst_spec (by kernel_rfl)))
    clear hoff
    match i, ho with
    |0, ho =>
     obtain rfl := Option.some.inj ho
     refine lw_value (v := (.pointer (some ⟨sp, 0, none⟩))) (u' := u) ?_ (Kp.refl _ _) rfl
     go_simp
    |1, ho =>
     obtain rfl := Option.some.inj ho
     have e17 : a.tmps[17]?.getD undef = (.pointer (some ⟨sp, 0, none⟩)) := slot_at (hdep ⟨0, .data⟩ (by simp) rfl _ 17 rfl rfl)
     refine lw_value (v := .pointer (some ⟨sp, 0, none⟩)) (u' := u) ?_ (Kp.refl _ _) rfl
     go_simp
    |2, ho =>
     obtain rfl := Option.some.inj ho
     have e18 : a.tmps[18]?.getD undef = .pointer (some ⟨sp, 0, none⟩) := slot_at (hdep ⟨1, .data⟩ (by simp) rfl _ 18 rfl rfl)
     refine lw_value (v := .pointer (some ⟨sp, 0, none⟩)) (u' := u) ?_ (Kp.refl _ _) rfl
     go_simp
    |3, ho =>
     obtain rfl := Option.some.inj ho
     have e19 : a.tmps[19]?.getD undef = .pointer (some ⟨sp, 0, none⟩) := slot_at (hdep ⟨2, .data⟩ (by simp) rfl _ 19 rfl rfl)
     have c1 := hk.cellAt2 hsp
     refine lw_value (v := .pointer (some ⟨p, 0, none⟩)) (u' := u) ?_ (Kp.refl _ _) rfl
     go_simp
    |4, ho =>
     obtain rfl := Option.some.inj ho
     refine lw_value (v := (.pointer (some ⟨sp, 0, none⟩))) (u' := u) ?_ (Kp.refl _ _) rfl
     go_simp
    |5, ho =>
     obtain rfl := Option.some.inj ho
     refine lw_value (v := (.int .i64 (k : Int))) (u' := u) ?_ (Kp.refl _ _) rfl
     go_simp
    |6, ho =>
     obtain rfl := Option.some.inj ho
     have e21 : a.tmps[21]?.getD undef = (.pointer (some ⟨sp, 0, none⟩)) := slot_at (hdep ⟨4, .data⟩ (by simp) rfl _ 21 rfl rfl)
     have e22 : a.tmps[22]?.getD undef = (.int .i64 (k : Int)) := slot_at (hdep ⟨5, .data⟩ (by simp) rfl _ 22 rfl rfl)
     refine lw_call (f := 52) (args := #[.pointer (some ⟨sp, 0, none⟩), .int .i64 (k : Int)]) ?_ ?_
     ·go_simp
     ·exact HStk.out u hk
    |n + 7, _ => exact absurd hp (by simp [upTo])
   case hendS4 =>
    intro a u hI
    have hsz : a.tmps.size = 84 := hI.size
    have hdf : a.defers = [] := hI.defers
    have f0 := hI.o 0 (by kernel_rfl)
    have f1 := hI.o 1 (by kernel_rfl)
    have f2 := hI.o 2 (by kernel_rfl)
    have f3 := hI.o 3 (by kernel_rfl)
    have f4 := hI.o 4 (by kernel_rfl)
    have f5 := hI.o 5 (by kernel_rfl)
    have f6 := hI.o 6 (by kernel_rfl)
    have f7 := hI.o 7 (by kernel_rfl)
    have f8 := hI.o 8 (by kernel_rfl)
    have f9 := hI.o 9 (by kernel_rfl)
    have f10 := hI.o 10 (by kernel_rfl)
    have f11 := hI.o 11 (by kernel_rfl)
    have f12 := hI.o 12 (by kernel_rfl)
    have f13 := hI.o 13 (by kernel_rfl)
    have f14 := hI.o 14 (by kernel_rfl)
    have f15 := hI.o 15 (by kernel_rfl)
    have f16 := hI.o 16 (by kernel_rfl)
    have f24 := hI.o 24 (by kernel_rfl)
    have f25 := hI.o 25 (by kernel_rfl)
    have f26 := hI.o 26 (by kernel_rfl)
    have f27 := hI.o 27 (by kernel_rfl)
    have f28 := hI.o 28 (by kernel_rfl)
    have f29 := hI.o 29 (by kernel_rfl)
    have f30 := hI.o 30 (by kernel_rfl)
    have f31 := hI.o 31 (by kernel_rfl)
    have f32 := hI.o 32 (by kernel_rfl)
    have f33 := hI.o 33 (by kernel_rfl)
    have f34 := hI.o 34 (by kernel_rfl)
    have f35 := hI.o 35 (by kernel_rfl)
    have f36 := hI.o 36 (by kernel_rfl)
    have f37 := hI.o 37 (by kernel_rfl)
    have f38 := hI.o 38 (by kernel_rfl)
    have f39 := hI.o 39 (by kernel_rfl)
    have f40 := hI.o 40 (by kernel_rfl)
    have f41 := hI.o 41 (by kernel_rfl)
    have f42 := hI.o 42 (by kernel_rfl)
    have f43 := hI.o 43 (by kernel_rfl)
    have f44 := hI.o 44 (by kernel_rfl)
    have f45 := hI.o 45 (by kernel_rfl)
    have f46 := hI.o 46 (by kernel_rfl)
    have f47 := hI.o 47 (by kernel_rfl)
    have f48 := hI.o 48 (by kernel_rfl)
    have f49 := hI.o 49 (by kernel_rfl)
    have f50 := hI.o 50 (by kernel_rfl)
    have f51 := hI.o 51 (by kernel_rfl)
    have f52 := hI.o 52 (by kernel_rfl)
    have f53 := hI.o 53 (by kernel_rfl)
    have f54 := hI.o 54 (by kernel_rfl)
    have f55 := hI.o 55 (by kernel_rfl)
    have f56 := hI.o 56 (by kernel_rfl)
    have f57 := hI.o 57 (by kernel_rfl)
    have f58 := hI.o 58 (by kernel_rfl)
    have f59 := hI.o 59 (by kernel_rfl)
    have f60 := hI.o 60 (by kernel_rfl)
    have f61 := hI.o 61 (by kernel_rfl)
    have f62 := hI.o 62 (by kernel_rfl)
    have f63 := hI.o 63 (by kernel_rfl)
    have f64 := hI.o 64 (by kernel_rfl)
    have f65 := hI.o 65 (by kernel_rfl)
    have f66 := hI.o 66 (by kernel_rfl)
    have f67 := hI.o 67 (by kernel_rfl)
    have f68 := hI.o 68 (by kernel_rfl)
    have f69 := hI.o 69 (by kernel_rfl)
    have f70 := hI.o 70 (by kernel_rfl)
    have f71 := hI.o 71 (by kernel_rfl)
    have f72 := hI.o 72 (by kernel_rfl)
    have f73 := hI.o 73 (by kernel_rfl)
    have f74 := hI.o 74 (by kernel_rfl)
    have f75 := hI.o 75 (by kernel_rfl)
    have f76 := hI.o 76 (by kernel_rfl)
    have f77 := hI.o 77 (by kernel_rfl)
    have f78 := hI.o 78 (by kernel_rfl)
    have f79 := hI.o 79 (by kernel_rfl)
    have f80 := hI.o 80 (by kernel_rfl)
    have f81 := hI.o 81 (by kernel_rfl)
    have f82 := hI.o 82 (by kernel_rfl)
    have f83 := hI.o 83 (by kernel_rfl)
    have f17 : a.tmps.getD 17 undef = (.pointer (some ⟨sp, 0, none⟩)) := hI.val 0 _ 17 rfl rfl rfl
    have f18 : a.tmps.getD 18 undef = .pointer (some ⟨sp, 0, none⟩) := hI.val 1 _ 18 rfl rfl rfl
    have f19 : a.tmps.getD 19 undef = .pointer (some ⟨sp, 0, none⟩) := hI.val 2 _ 19 rfl rfl rfl
    have f20 : a.tmps.getD 20 undef = .pointer (some ⟨p, 0, none⟩) := hI.val 3 _ 20 rfl rfl rfl
    have f21 : a.tmps.getD 21 undef = (.pointer (some ⟨sp, 0, none⟩)) := hI.val 4 _ 21 rfl rfl rfl
    have f22 : a.tmps.getD 22 undef = (.int .i64 (k : Int)) := hI.val 5 _ 22 rfl rfl rfl
    have g23 : (BSV C k) u (a.tmps.getD 23 undef) := hI.val 6 _ 23 rfl rfl rfl
    have ha := act_list84 a hsz
    rw [hdf, f0, f1, f2, f3, f4, f5, f6, f7, f8, f9, f10, f11, f12, f13, f14, f15, f16, f17, f18, f19, f20, f21, f22, f24, f25, f26, f27, f28, f29, f30, f31, f32, f33, f34, f35, f36, f37, f38, f39, f40, f41, f42, f43, f44, f45, f46, f47, f48, f49, f50, f51, f52, f53, f54, f55, f56, f57, f58, f59, f60, f61, f62, f63, f64, f65, f66, f67, f68, f69, f70, f71, f72, f73, f74, f75, f76, f77, f78, f79, f80, f81, f82, f83] at ha
    obtain ⟨x23, hx23⟩ : ∃ x, a.tmps.getD 23 undef = x := ⟨_, rfl⟩
    rw [hx23] at ha
    rw [hx23] at g23
    have hku := hI.kp
    clear hI hsz hdf f0 f1 f2 f3 f4 f5 f6 f7 f8 f9 f10 f11 f12 f13 f14 f15 f16 f17 f18 f19 f20 f21 f22 f24 f25 f26 f27 f28 f29 f30 f31 f32 f33 f34 f35 f36 f37 f38 f39 f40 f41 f42 f43 f44 f45 f46 f47 f48 f49 f50 f51 f52 f53 f54 f55 f56 f57 f58 f59 f60 f61 f62 f63 f64 f65 f66 f67 f68 f69 f70 f71 f72 f73 f74 f75 f76 f77 f78 f79 f80 f81 f82 f83 hx23
    subst ha
    refine wpAny_tail 7 rfl (by kernel_rfl) ?_
    simp only [List.drop_succ_cons, List.drop_zero]
    obtain ⟨sa, sc, rfl, hbs⟩ := g23
    have HKu := Lib.hid (HK.out.trans (hku.mono (T := fun j => j = g) (fun _ _ h => h.elim)) (fun _ _ h => h))
    have hst0 := HStt.out u HKu.out k sa sc hbs
    have HRu := Lib.hid (HRw.out.kp hku)
    have HOu := Lib.hid (HO.out.kp hku (fun _ _ h => h))
    clear hku hbs HRw HO HK hsp hsg
    simp only [Array.getD_eq_getD_getElem?, List.getElem?_toArray, List.getElem?_cons_zero, List.getElem?_cons_succ, Option.getD_some]
    cases hb : st k with
    |false =>
     rw [hb] at hst0
     have HStu := Lib.hid hst0
     clear hst0
     go_wp2_with (go_at_call 64; refine HStu.out.mono ?_; rintro e w2 ⟨rfl, hK2⟩; have HK2 := Lib.hid hK2; clear hK2)
     go_roundw
     case rel =>
      refine ⟨k + 1, L, by go_num, by omega, ?_, HOu.out.kp HK2.out (fun _ _ h => h), HNd.out, fun t => ?_, HKu.out.trans (HK2.out.mono (T := fun j => j = g) (fun _ _ h => h.elim)) (fun _ _ h => h)⟩
      ·rw [firstR_skip hb]; exact HRu.out.kp HK2.out
      ·rw [HMm.out]
       constructor
       ·rintro ⟨h1, h2⟩; exact ⟨by omega, h2⟩
       ·rintro ⟨h1, h2⟩
        refine ⟨?_, h2⟩
        apply Classical.byContradiction
        intro q
        rw [show t = k by omega, hb] at h2
        cases h2
     case measure => simp [intOf]; omega
    |true =>
     rw [hb] at hst0
     have HStu := Lib.hid hst0
     clear hst0
     go_upto_region 5 with (go_at_call 64; refine HStu.out.mono ?_; rintro e w2 ⟨rfl, hK2⟩; have HK2 := Lib.hid hK2; clear hK2)
     have HR2 := Lib.hid (HRu.out.kp HK2.out)
     have HK2w := Lib.hid (HKu.out.trans (HK2.out.mono (T := fun j => j = g) (fun _ _ h => h.elim)) (fun _ _ h => h))
     obtain ⟨d0, d1⟩ := HCs.out w2 HK2w.out
     have c2 := HR2.out.cell2 hlt
     have f2 := HR2.out.blk.free (k * 4 + 2)
     go_upto_region 6 with fail
     obtain ⟨w3, hw3⟩ : ∃ w3, w3 = w2.setCell ⟨g, k * 4 + 2, none⟩ (.int .i64 0) := ⟨_, rfl⟩
     rw [← hw3]
     have HK23 := Lib.hid (show Kp (fun j => j = g) w2 w3 by rw [hw3]; exact Kp.set w2 ⟨g, k * 4 + 2, none⟩ (.int .i64 0))
     have HR3 := Lib.hid (show RowsS w3 g n mb F BD (firstR st (k + 1)) D by rw [hw3, firstR_put hb]; exact HR2.out.setR hlt 0)
     have hgl := HLw.out.1
     have HO3 := Lib.hid ((HOu.out.kp HK2.out (fun _ _ h => h)).kp HK23.out (fun j hj e => by have := HOu.out.lt j hj; omega))
     have hsz2 := HK2w.out.size
     have hsz3 := HK23.out.size
     have hll : L.length ≤ k := nodup_le k HNd.out (fun t ht => ((HMm.out t).1 ht).1)
     clear hw3 c2 f2 d0 d1
     go_wp2_with (at_builtin; refine wpList_append1 rfl _ _ 22 3 rfl Tryz.underlying22 HI.out rfl (HO3.out.alloc _) rfl ⟨w3.heap.size, 0, none⟩ (.int .i64 (k : Int)) rfl ?c1 rfl ?c2 ?c3 ?c4 ?_)
     case c1 => exact World.cell?_alloc_at _ _ _ _ rfl
     case c2 => rw [nv_length]; omega
     case c3 => rw [nv_length]; unfold maxLen; omega
     case c4 => simp; omega
     intro v' w4 hO4 hg4
     rw [← nv_snoc] at hO4
     have hv := fun j hj => (HO3.out.lt j hj).1
     have hK34 : Kp (fun j => w.heap.size ≤ j) w3 w4 := ((Kp.refl _ w3).alloc _).grown hg4 (fun j hj _ => hv j hj)
     have hR4 := HR3.out.kpL HLw.out hK34
     have hK4 : Kp (fun j => j = g) w w4 := ((HK2w.out.trans HK23.out (fun _ _ h => h)).trans hK34 (fun j h1 h2 => by omega))
     have HO4 := Lib.hid hO4
     have HR4 := Lib.hid hR4
     have HK4 := Lib.hid hK4
     clear hO4 hg4 hv hK34 hR4 hK4 hgl hsz2 hsz3
     go_wp2_with fail
     go_roundw
     case rel =>
      refine ⟨k + 1, L ++ [k], by go_num, by omega, HR4.out, HO4.out, ?_, fun t => ?_, HK4.out⟩
      ·rw [List.nodup_append]
       refine ⟨HNd.out, by simp, fun a ha b hb => ?_⟩
       simp at hb
       subst hb
       have := ((HMm.out a).1 ha).1
       omega
      ·rw [List.mem_append, HMm.out]
       constructor
       ·rintro (⟨h1, h2⟩ | h1)
        ·exact ⟨by omega, h2⟩
        ·simp at h1; subst h1; exact ⟨by omega, hb⟩
       ·rintro ⟨h1, h2⟩
        by_cases e : t = k
        ·exact .inr (by simp [e])
        ·exact .inl ⟨by omega, h2⟩
     case measure => simp [intOf]; omega
  ·obtain hk' : k = n := by omega
   subst hk'
   clear hsp hsg HStt HSta hk
   have k1 : ¬ (k : Int) < (k : Int) := by omega
   go_wp2_with fail
   go_loopw [2, 4] (fun v2 v4 wr => ∃ (m : Nat) (L : List Nat) (R : Nat → Int), v4 = .int .i64 ((m : Int) + 1) ∧ m ≤ k ∧ RowsS wr g k mb F BD R D ∧ (∀ t, t < k → R t = distG k st E m t) ∧ Own wr w.heap.size 3 v2 (nv L) ∧ L.Nodup ∧ (∀ t, t ∈ L ↔ t < k ∧ distG k st E m t = (m : Int)) ∧ (∀ j, j < m → ∃ t, t < k ∧ distG k st E m t = (j : Int)) ∧ Kp (fun j => j = g) w wr) (fun _ v4 _ => k + 2 - (intOf v4).toNat)
   case atStart =>
    refine ⟨0, L, firstR st k, rfl, Nat.zero_le _, HRw.out, fun t ht => firstR_dist ht, HO.out, HNd.out, fun t => ?_, fun j hj => absurd hj (Nat.not_lt_zero j), HK.out⟩
    rw [HMm.out]
    refine and_congr_right fun ht => ?_
    rw [← firstR_dist ht]
    unfold firstR
    by_cases e : st t = true
    ·rw [if_pos ⟨ht, e⟩]; simp [e]
    ·rw [if_neg (fun q => e q.2)]
     exact ⟨fun q => absurd q e, fun q => by simp at q⟩
   case round =>
    clear HRw HO HNd HMm HK
    obtain ⟨m, L, R, rfl, hm, hRw, hRd, hO, hnd, hmem, hlay, hK⟩ := hrel
    obtain ⟨a2, c2, rfl, -⟩ := hO.form
    rw [nv_length]
    rw [nv_length] at hO
    have HRw := Lib.hid hRw
    have HO := Lib.hid hO
    have HNd := Lib.hid hnd
    have HMm := Lib.hid hmem
    have HLay := Lib.hid hlay
    have HRd := Lib.hid hRd
    have HK := Lib.hid hK
    have hLk : L.length ≤ k := nodup_le k hnd (fun t ht => ((hmem t).1 ht).1)
    clear hRw hO hnd hmem hlay hRd hK
    obtain ⟨wp, rfl⟩ : ∃ wp : World, wp = wr := ⟨_, rfl⟩
    by_cases hL : 0 < L.length
    ·have hL1 : (0 : Int) < (L.length : Int) := by omega
     obtain ⟨g2, cap, eg, hg2, hg2'⟩ := HO.out.leads (by rw [nv_length]; exact hL)
     simp only [Value.slice.injEq] at eg
     obtain ⟨rfl, -, rfl⟩ := eg
     have hmk : m < k := layers_cnt (m := m) (fun j hj => by
      by_cases e : j = m
      ·subst e; exact ⟨gn L 0, (HMm.out _).1 (gn_mem hL)⟩
      ·exact HLay.out j (by omega))
     have HLo := Lib.hid (show LowR wp.heap.size g k mb from HRw.out.lowR)
     have HWs := Lib.hid (show w.heap.size ≤ wp.heap.size from HK.out.size)
     go_wp2_with fail
     go_loopw [5, 44] (fun v5 v44 w3 => ∃ (i : Nat) (N : List Nat) (R : Nat → Int), v44 = .int .i64 (i : Int) ∧ i ≤ L.length ∧ RowsS w3 g k mb F BD R D ∧ MidG k st E m (fun t => ∃ j, j < i ∧ E (gn L j) t = true) R N ∧ Own w3 w.heap.size 3 (.slice (some ⟨g2, 0, none⟩) L.length c2) (nv L) ∧ Own w3 wp.heap.size 3 v5 (nv N) ∧ Kp (fun j => j = g) w w3 ∧ wp.heap.size ≤ w3.heap.size) (fun _ v44 _ => L.length - (intOf v44).toNat)
     case atStart => exact ⟨0, [], R, rfl, Nat.zero_le _, HRw.out, (MidG.start HRd.out).congr (fun t _ => ⟨fun h => h.elim, fun ⟨j, hj, _⟩ => absurd hj (Nat.not_lt_zero j)⟩), HO.out, Own.nil _ _ _, HK.out, Nat.le_refl _⟩
     case round =>
      clear HRw HO HK HRd
      obtain ⟨i, N, R, rfl, hi, hRw, hMid, hO, hO5, hK, hsz⟩ := hrel
      have HRw := Lib.hid hRw
      have HMid := Lib.hid hMid
      have HO := Lib.hid hO
      have HO5 := Lib.hid hO5
      have HK := Lib.hid hK
      have HSz := Lib.hid hsz
      clear hRw hMid hO hO5 hK hsz
      obtain ⟨w3, rfl⟩ : ∃ w3 : World, w3 = wr := ⟨_, rfl⟩
      by_cases hiL : i < L.length
      ·have i0 : (0 : Int) ≤ (i : Int) := by omega
       have i1 : (i : Int) < (L.length : Int) := by omega
       obtain ⟨s, hs⟩ : ∃ s, gn L i = s := ⟨_, rfl⟩
       have cl := HO.out.cell (nv_at hiL)
       rw [hs] at cl
       have hsm := (HMm.out s).1 (hs ▸ gn_mem hiL)
       have hsk := hsm.1
       have HSm := Lib.hid hsm
       have HS := Lib.hid hs
       clear hsm hs
       have s0 : (0 : Int) ≤ (s : Int) := by omega
       have s1 : (s : Int) < (k : Int) := by omega
       obtain ⟨d0, d1⟩ := HCs.out w3 HK.out
       have c0 := HRw.out.cell0 hsk
       have HMap := Lib.hid (HRw.out.map s hsk)
       obtain ⟨q, hMq, hq⟩ := HMap.out
       have HMq := Lib.hid hMq
       clear hMq HMap
       go_wp2_with (at_range; refine wpList_rangeI rfl (.tmp 55) rfl rfl HMq.out ?_; intro w4 cnt0 hrg hk4 hs4; go_frame)
       have HK4 := Lib.hid (HK.out.trans (hk4.mono (T := fun j => j = g) (fun _ _ h => h.elim)) (fun _ _ h => h))
       have HR4 := Lib.hid (HRw.out.kp hk4)
       have HO4 := Lib.hid (HO.out.kp hk4 (fun _ _ h => h))
       have HN4 := Lib.hid (HO5.out.kp hk4 (fun _ _ h => h))
       have HSz4 := Lib.hid (show wp.heap.size ≤ w4.heap.size by have := HSz.out; omega)
       have hne4 : ∀ j, u5.ownBlock = some j → j ≠ w3.heap.size := fun j hj e => by have := HO5.out.lt j hj; omega
       have HNe := Lib.hid hne4
       obtain ⟨r, hr⟩ : ∃ r, w3.heap.size = r := ⟨_, rfl⟩
       have HRr := Lib.hid (show wp.heap.size ≤ r by have := HSz.out; omega)
       rw [hr] at hrg HNe ⊢
       have HRg := Lib.hid hrg
       clear hrg hk4 hs4 hne4 hr HRw HO HO5 HK HSz d0 d1 c0 cl HMq
       go_loopw [5] (fun v5 w5 => ∃ (N : List Nat) (R : Nat → Int) (left : Int → Prop) (cnt : Nat), RGI w5 (mb s) r q (F s) left cnt ∧ RowsS w5 g k mb F BD R D ∧ MidG k st E m (fun t => (∃ j, j < i ∧ E (gn L j) t = true) ∨ (E s t = true ∧ ¬ left (t : Int))) R N ∧ Own w5 w.heap.size 3 (.slice (some ⟨g2, 0, none⟩) L.length c2) (nv L) ∧ Own w5 wp.heap.size 3 v5 (nv N) ∧ (∀ j, v5.ownBlock = some j → j ≠ r) ∧ Kp (fun j => j = g) w w5 ∧ wp.heap.size ≤ w5.heap.size) (fun _ w5 => w5.rangeLeft (mb s) r)
       case atStart =>
        exact ⟨N, R, _, cnt0, HRg.out, HR4.out, HMid.out.congr (fun t ht => ⟨fun h => .inl h, fun h => h.resolve_right (fun ⟨h1, h2⟩ => h2 (by show (F s t).isSome = true; rw [HE.out]; exact h1))⟩), HO4.out, HN4.out, HNe.out, HK4.out, HSz4.out⟩
       case round =>
        clear HRg HR4 HMid HO4 HN4 HNe HK4 HSz4
        obtain ⟨N, R, left, cnt, hrg, hRw, hMid, hO, hO5, hne, hK, hsz⟩ := hrel
        have HRg := Lib.hid hrg
        have HRw := Lib.hid hRw
        have HMid := Lib.hid hMid
        have HO := Lib.hid hO
        have HO5 := Lib.hid hO5
        have HNe := Lib.hid hne
        have HK := Lib.hid hK
        have HSz := Lib.hid hsz
        clear hrg hRw hMid hO hO5 hne hK hsz
        obtain ⟨w5, rfl⟩ : ∃ w5 : World, w5 = wr := ⟨_, rfl⟩
        go_wp2_with (first
         |(at_next; refine wpList_nextI rfl (.tmp 56) rfl rfl HRg.out ?_ ?_)
         |go_in)
        ·intro hdone
         go_wp2_with fail
         go_roundw
         case rel =>
          refine ⟨i + 1, N, R, by go_num, by omega, HRw.out, HMid.out.congr fun t ht => ?_, HO.out, HO5.out, HK.out, HSz.out⟩
          have hl : ¬ left (t : Int) := hdone t (by unfold okInt; omega)
          constructor
          ·rintro (⟨j, h1, h2⟩ | ⟨h1, -⟩)
           ·exact ⟨j, by omega, h2⟩
           ·exact ⟨i, by omega, by rw [HS.out]; exact h1⟩
          ·rintro ⟨j, h1, h2⟩
           by_cases e : j = i
           ·subst e; rw [HS.out] at h2; exact .inr ⟨h2, hl⟩
           ·exact .inl ⟨j, by omega, h2⟩
         case measure => simp [intOf]; omega
        ·intro x c w6 cnt1 okx hlx hF hR1 hlt1 hk1 hs1 hen
         obtain ⟨v, rfl, hv⟩ := HF.out s hsk x c hF
         have v0 : (0 : Int) ≤ (v : Int) := by omega
         have v1 : (v : Int) < (k : Int) := by omega
         have hrL := HLo.out
         have hrg0 := HRr.out
         have hsz0 := HSz.out
         have hws0 := HWs.out
         have hk1' : Kp (fun j => wp.heap.size ≤ j) w5 w6 := hk1.mono (fun j _ e => by subst e; exact hrg0)
         have HR6 := Lib.hid (HRw.out.kpL hrL hk1')
         have HO6 := Lib.hid (HO.out.kp hk1 (fun j hj e => by simp [Value.ownBlock] at hj; omega))
         have HN6 := Lib.hid (HO5.out.kp hk1 (fun j hj e => HNe.out j hj e))
         have HK6 := Lib.hid (HK.out.trans hk1 (fun j h1 e => by omega))
         have HEv := Lib.hid (show E s v = true by rw [← HE.out, hF]; rfl)
         have HR1 := Lib.hid hR1
         have e2 := HR6.out.cell2 hv
         have f2 := HR6.out.blk.free (v * 4 + 2)
         obtain ⟨d0, d1⟩ := HCs.out w6 HK6.out
         obtain ⟨rv, hrv⟩ : ∃ rv, R v = rv := ⟨_, rfl⟩
         rw [hrv] at e2
         have HLt := Lib.hid hlt1
         clear hF hR1 hk1 hk1' hlt1 hrL
         have hQ : ∀ t, t < k → ((((∃ j, j < i ∧ E (gn L j) t = true) ∨ (E s t = true ∧ ¬ left (t : Int))) ∨ t = v) ↔ ((∃ j, j < i ∧ E (gn L j) t = true) ∨ (E s t = true ∧ ¬ (left (t : Int) ∧ (t : Int) ≠ (v : Int))))) := fun t ht => by
          constructor
          ·rintro ((h | ⟨h1, h2⟩) | rfl)
           ·exact .inl h
           ·exact .inr ⟨h1, fun q => h2 q.1⟩
           ·exact .inr ⟨HEv.out, fun q => q.2 rfl⟩
          ·rintro (h | ⟨h1, h2⟩)
           ·exact .inl (.inl h)
           ·by_cases e : t = v
            ·exact .inr e
            ·exact .inl (.inr ⟨h1, fun q => h2 ⟨q, by omega⟩⟩)
         have HQ := Lib.hid hQ
         clear hQ
         by_cases hr1 : rv = -1
         ·subst hr1
          go_upto_region 20 with fail
          obtain ⟨w7, hw7⟩ : ∃ w7, w7 = w6.setCell ⟨g, v * 4 + 2, none⟩ (.int .i64 ((m : Int) + 1)) := ⟨_, rfl⟩
          rw [← hw7]
          have hK67 : Kp (fun j => j = g) w6 w7 := by rw [hw7]; exact Kp.set w6 ⟨g, v * 4 + 2, none⟩ (.int .i64 ((m : Int) + 1))
          have HR7 := Lib.hid (show RowsS w7 g k mb F BD (upI R v ((m : Int) + 1)) D by rw [hw7]; exact HR6.out.setR hv _)
          have hlg := HLo.out
          have hlw := HLw.out.1
          have HO7 := Lib.hid (HO6.out.kp hK67 (fun j hj e => by simp [Value.ownBlock] at hj; omega))
          have HN7 := Lib.hid (HN6.out.kp hK67 (fun j hj e => by have := HN6.out.lt j hj; omega))
          have HG7 := Lib.hid (HR1.out.kp hK67 (fun e => HR6.out.ne s hsk e) (fun e => by omega))
          have HK7 := Lib.hid (HK6.out.trans hK67 (fun _ _ h => h))
          have hsz7 := hK67.size
          have HM7 := Lib.hid ((HMid.out.put hv hrv).congr HQ.out)
          have hNl : N.length ≤ k := nodup_le k HMid.out.nd (fun t ht => ((HMid.out.mem t).1 ht).1)
          clear hw7 hK67 e2 f2 d0 d1
          go_wp2_with (at_builtin; refine wpList_append1_at rfl _ _ 22 3 rfl Tryz.underlying22 HI.out rfl (HN7.out.alloc _) rfl ⟨w7.heap.size, 0, none⟩ (.int .i64 (v : Int)) rfl ?c1 rfl ?c2 ?c3 ?c4 ?_)
          case c1 => exact World.cell?_alloc_at _ _ _ _ rfl
          case c2 => rw [nv_length]; omega
          case c3 => rw [nv_length]; unfold maxLen; omega
          case c4 => simp; omega
          intro v' w8 hO8 hg8 hat8
          rw [← nv_snoc] at hO8
          have hv8 := fun j hj => (HN7.out.lt j hj).1
          have hK78 : Kp (fun j => wp.heap.size ≤ j) w7 w8 := ((Kp.refl _ w7).alloc _).grown hg8 (fun j hj _ => hv8 j hj)
          have hK78r : Kp (fun j => u5.ownBlock = some j) w7 w8 := ((Kp.refl _ w7).alloc _).grown hg8 (fun j hj _ => hj)
          have HR8 := Lib.hid (HR7.out.kpL HLo.out hK78)
          have HK8 := Lib.hid (show Kp (fun j => j = g) w w8 from HK7.out.trans hK78 (fun j h1 h2 => by omega))
          have HO8 := Lib.hid (HO7.out.kp hK78 (fun j hj e => by simp [Value.ownBlock] at hj; omega))
          have HG8 := Lib.hid (HG7.out.kp hK78r (fun e => by have := hv8 _ e; have := HLo.out.2 s hsk; omega) (fun e => HNe.out _ e rfl))
          have HN8 := Lib.hid hO8
          have hsz8 := hK78.size
          have hlr := HR1.out.lt
          have HNe8 := Lib.hid (show ∀ j, v'.ownBlock = some j → j ≠ r from fun j hj => by
           rcases hat8 with e | e
           ·rw [e] at hj; exact HNe.out j hj
           ·rw [e] at hj
            simp at hj
            omega)
          clear hO8 hg8 hat8 hv8 hK78 hK78r
          go_wp2_with fail
          go_roundw
          case rel =>
           exact ⟨N ++ [v], _, _, cnt1, HG8.out, HR8.out, HM7.out, HO8.out, HN8.out, HNe8.out, HK8.out, by omega⟩
          case measure => rw [HG8.out.left_eq, HRg.out.left_eq]; exact HLt.out
         ·go_wp2_with fail
          go_roundw
          case rel =>
           exact ⟨N, R, _, cnt1, HR1.out, HR6.out, (HMid.out.skip hv (by rw [hrv]; exact hr1)).congr HQ.out, HO6.out, HN6.out, HNe.out, HK6.out, by omega⟩
          case measure => rw [HR1.out.left_eq, HRg.out.left_eq]; exact HLt.out
      ·have i1 : ¬ (i : Int) < (L.length : Int) := by omega
       obtain hie : i = L.length := by omega
       subst hie
       obtain ⟨a5, c5, rfl, -⟩ := HO5.out.form
       rw [nv_length]
       have HO5 := Lib.hid (nv_length N ▸ HO5.out)
       go_wp2_with fail
       go_roundw
       case rel =>
        have hfin := (HMid.out.congr (Q' := fun t => ∃ s, s < k ∧ distG k st E m s = m ∧ E s t = true) fun t ht => by
         constructor
         ·rintro ⟨j, hj, he⟩
          have := (HMm.out (gn L j)).1 (gn_mem hj)
          exact ⟨_, this.1, this.2, he⟩
         ·rintro ⟨s, h1, h2, h3⟩
          obtain ⟨j, hj, e⟩ := List.mem_iff_getElem.1 ((HMm.out s).2 ⟨h1, h2⟩)
          refine ⟨j, hj, ?_⟩
          rw [show gn L j = s by unfold gn; rw [List.getElem?_eq_getElem hj, e]; rfl]
          exact h3).fin
        refine ⟨m + 1, N, R, by go_num, by omega, HRw.out, hfin.1, HO5.out.mono (by have := HWs.out; omega), HMid.out.nd, fun t => by rw [hfin.2 t], fun j hj => ?_, HK.out⟩
        by_cases e : j = m
        ·subst e
         have := (HMm.out (gn L 0)).1 (gn_mem hL)
         exact ⟨gn L 0, this.1, by rw [distG_keep (by rw [this.2]; omega), this.2]⟩
        ·obtain ⟨t, h1, h2⟩ := HLay.out j (by omega)
         exact ⟨t, h1, by rw [distG_keep (by rw [h2]; omega), h2]⟩
       case measure => simp [intOf]; omega
    ·have hL1 : ¬ (0 : Int) < (L.length : Int) := by omega
     go_wp2_with fail
     go_end0
     refine ⟨rfl, HRw.out.congrR fun t ht => ?_, HK.out⟩
     rw [HRd.out t ht]
     have := distG_still (n := k) (st := st) (E := E) (m := m) (fun t ht e => hL (List.length_pos_of_mem ((HMm.out t).2 ⟨ht, e⟩))) (k - m) t
     rw [← this, show m + (k - m) = k by omega]

end Go.Proofs.YtnoknecfdnjomaaGreat

/-
  A row of rows of ints of the call's own, each of which may grow.
-/
namespace Go.Proofs.YtnoknecfdnjomaaGreat
open Go.RowKit

structure RowsM (w : World) (lo g m : Nat) (R : Nat → Value) (A : Nat → List Int) : Prop where
  blk : Blk w g (rowF R m).toArray 22
  ow : ∀ k, k < m → Own w lo 3 (R k) (iv (A k))
  lo : lo ≤ g
  ne : ∀ k, k < m → ∀ j, (R k).ownBlock = some j → j ≠ g
  dis : ∀ k k', k < m → k' < m → k ≠ k' → ∀ j, (R k).ownBlock = some j → (R k').ownBlock ≠ some j

section
variable {w w' : World} {lo g m : Nat} {R : Nat → Value} {A : Nat → List Int}

theorem RowsM.kpS {S : Nat → Prop} (h : RowsM w lo g m R A) (k : Kp S w w') (hS : ∀ j, S j → j < lo ∨ w.heap.size ≤ j) : RowsM w' lo g m R A :=
 ⟨h.blk.kp k (fun q => by have := h.blk.lt; have := h.lo; rcases hS _ q with e | e <;> omega), fun i hi => (h.ow i hi).kp k (fun j hj q => by have := (h.ow i hi).lt j hj; rcases hS _ q with e | e <;> omega), h.lo, h.ne, h.dis⟩
theorem RowsM.kp (h : RowsM w lo g m R A) (k : Kp (fun _ => False) w w') : RowsM w' lo g m R A := h.kpS k (fun _ h => h.elim)

theorem RowsM.congr {A' : Nat → List Int} (h : RowsM w lo g m R A) (e : ∀ k, k < m → A k = A' k) : RowsM w lo g m R A' :=
 ⟨h.blk, fun k hk => by rw [← e k hk]; exact h.ow k hk, h.lo, h.ne, h.dis⟩

theorem RowsM.cell (h : RowsM w lo g m R A) {k : Nat} (hk : k < m) : w.cell? ⟨g, k, none⟩ = some (R k) :=
 h.blk.cell (by have := rowF_at (f := R) hk; simpa using this)

theorem RowsM.push {w1 w2 : World} {v' : Value} {k : Nat} {x : Int} (h : RowsM w lo g m R A) (hk : k < m) (hK : Kp (fun _ => False) w w1)
  (hO : Own w2 lo 3 v' (iv (A k) ++ [.int .i64 x])) (hg : w1.grownBy w2 (R k).ownBlock) (hat : v'.ownBlock = (R k).ownBlock ∨ v'.ownBlock = some w1.heap.size) :
  RowsM (w2.setCell ⟨g, k, none⟩ v') lo g m (up1 R k v') (up1 A k (A k ++ [x])) ∧ Kp (fun j => j = g ∨ (R k).ownBlock = some j) w (w2.setCell ⟨g, k, none⟩ v') := by
 have H1 := h.kp hK
 have hKg : Kp (fun j => (R k).ownBlock = some j) w1 w2 := (Kp.refl _ w1).grown hg (fun j hj _ => hj)
 have hKs : Kp (fun j => j = g) w2 (w2.setCell ⟨g, k, none⟩ v') := Kp.set w2 ⟨g, k, none⟩ _
 have hKK : Kp (fun j => j = g ∨ (R k).ownBlock = some j) w1 (w2.setCell ⟨g, k, none⟩ v') := (hKg.mono (fun _ _ h => .inr h)).trans hKs (fun _ _ h => .inl h)
 have hgl := H1.blk.lt
 have hRlt : ∀ i, i < m → ∀ j, (R i).ownBlock = some j → j < w1.heap.size := fun i hi j hj => ((H1.ow i hi).lt j hj).2
 have hne : ∀ j, v'.ownBlock = some j → j ≠ g ∧ ∀ i, i < m → i ≠ k → (R i).ownBlock ≠ some j := fun j hj => by
  rcases hat with e | e
  ·rw [e] at hj
   exact ⟨h.ne k hk j hj, fun i hi hn => h.dis k i hk hi (fun q => hn q.symm) j hj⟩
  ·rw [e] at hj
   have e2 : w1.heap.size = j := by simpa using hj
   exact ⟨by omega, fun i hi _ q => by have := hRlt i hi j q; omega⟩
 refine ⟨⟨?_, fun i hi => ?_, h.lo, fun i hi j hj => ?_, fun a b ha hb hab j hj => ?_⟩, ?_⟩
 ·have hB : Blk w2 g (rowF R m).toArray 22 := H1.blk.kp hKg (fun e => h.ne k hk _ e rfl)
  have := hB.set_same k v'
  have e : (rowF R m).toArray.setIfInBounds k v' = ((rowF R m).set k v').toArray := by simp
  rw [e, rowF_set] at this
  exact this
 ·by_cases e : i = k
  ·subst e
   rw [up1_at, up1_at, show iv (A i ++ [x]) = iv (A i) ++ [.int .i64 x] by simp [iv]]
   exact hO.kp hKs (fun j hj e => (hne j hj).1 e)
  ·rw [up1_off _ _ e, up1_off _ _ e]
   refine (H1.ow i hi).kp hKK (fun j hj q => ?_)
   rcases q with q | q
   ·exact h.ne i hi j hj q
   ·exact h.dis i k hi hk e j hj q
 ·by_cases e : i = k
  ·subst e
   rw [up1_at] at hj
   exact (hne j hj).1
  ·rw [up1_off _ _ e] at hj
   exact h.ne i hi j hj
 ·by_cases e : a = k
  ·subst e
   rw [up1_at] at hj
   rw [up1_off _ _ (fun q => hab q.symm)]
   exact (hne j hj).2 b hb (fun q => hab q.symm)
  ·rw [up1_off _ _ e] at hj
   by_cases e2 : b = k
   ·subst e2
    rw [up1_at]
    intro q
    exact (hne j q).2 a ha e hj
   ·rw [up1_off _ _ e2]
    exact h.dis a b ha hb hab j hj
 ·exact (hK.mono (fun _ _ h => h.elim)).trans hKK (fun _ _ h => h)

end

end Go.Proofs.YtnoknecfdnjomaaGreat

/-
  explore: backwards.
-/
namespace Go.Proofs.YtnoknecfdnjomaaGreat
open Go.RowKit

def ahN (E : Nat → Nat → Bool) (k t : Nat) : List Nat := (List.range k).filter (fun s => E s t)
def ahV (l : List Nat) : List Int := l.map (fun (s : Nat) => (s : Int))
theorem ahV_iv (l : List Nat) : iv (ahV l) = nv l := by simp [iv, nv, ahV]
theorem ahV_snoc (l : List Nat) (s : Nat) : ahV (l ++ [s]) = ahV l ++ [(s : Int)] := by simp [ahV]
theorem ahN_put {E : Nat → Nat → Bool} {k t : Nat} (h : E k t = true) : ahN E (k + 1) t = ahN E k t ++ [k] := by
 unfold ahN; rw [List.range_succ, List.filter_append]; simp [h]
theorem ahN_skip {E : Nat → Nat → Bool} {k t : Nat} (h : E k t = false) : ahN E (k + 1) t = ahN E k t := by
 unfold ahN; rw [List.range_succ, List.filter_append]; simp [h]
theorem ahN_mem {E : Nat → Nat → Bool} {k t s : Nat} : s ∈ ahN E k t ↔ s < k ∧ E s t = true := by
 unfold ahN; rw [List.mem_filter, List.mem_range]
theorem ahN_len {E : Nat → Nat → Bool} {k t : Nat} : (ahN E k t).length ≤ k := by
 have := List.length_filter_le (fun s => E s t) (List.range k)
 rw [List.length_range] at this
 exact this
theorem RowsS.congrD {w : World} {g n : Nat} {mb : Nat → Nat} {F : Nat → Int → Option Int} {BD R D D' : Nat → Int} (h : RowsS w g n mb F BD R D) (e : ∀ t, t < n → D t = D' t) : RowsS w g n mb F BD R D' := by
 refine ⟨?_, h.map, h.ne⟩
 have := h.blk
 rw [rowC_congr (h' := rowH mb BD R D') fun i hi => by
  unfold rowH rowV
  rw [e (i / 4) (by omega)]] at this
 exact this
theorem RowsM.kpO {w w' : World} {lo g m : Nat} {R : Nat → Value} {A : Nat → List Int} {S : Nat → Prop} (h : RowsM w lo g m R A) (k : Kp S w w') (hg : ¬ S g) (hS : ∀ t, t < m → ∀ j, (R t).ownBlock = some j → ¬ S j) : RowsM w' lo g m R A :=
 ⟨h.blk.kp k hg, fun i hi => (h.ow i hi).kp k (hS i hi), h.lo, h.ne, h.dis⟩

set_option maxRecDepth 100000 in
set_option maxHeartbeats 8000000 in
theorem ex_backwards {sp g n cg : Nat} {w : World} {mb : Nat → Nat} {F : Nat → Int → Option Int} {BD Rc : Nat → Int} (hn9 : n ≤ 1024) (hn1 : 0 < n)
  (hs1 : w.cell? ⟨sp, 1, none⟩ = some (.slice (some ⟨g, 0, none⟩) n cg)) (hR : RowsS w g n mb F BD Rc (fun _ => -1)) (hF : ∀ t, t < n → ∀ u i, F t u = some i → ∃ v : Nat, u = (v : Int) ∧ v < n) (hgs : g ≠ sp) :
  Calls Tryz.prog 38 #[.pointer (some ⟨sp, 0, none⟩)] w fun e w' => e = .returned (.tuple #[]) ∧ RowsS w' g n mb F BD Rc (distG n (fun t => decide (BD t ≠ -1)) (revG (fun s t => (F s (t : Int)).isSome)) n) ∧ Kp (fun j => j = g) w w' := by
 obtain ⟨i0, hi, hz0, hz1, hz2⟩ := info_parts (show (Tryz.prog.info? 22).map (fun i => (i.zero, i.size, i.bytes)) = some (some (.slice none 0 0), 1, 24) by kernel_rfl)
 have hmk : ∀ u : World, (Instr.makeSlice 39 (.int .i64 (n : Int)) (.int .i64 (n : Int))).run Tryz.prog u =
   .ok (.slice (some ⟨u.heap.size, 0, none⟩) n n) (u.alloc (.cells (madeCells #[.slice none 0 0] n) 22)) := fun u => by
  have h := run_make (P := Tryz.prog) u 39 22 i0 (.slice none 0 0) Tryz.underlying39 hi hz0 .i64 .i64 (n : Int) (n : Int) (by omega) (Int.le_refl _) (by rw [hz2]; omega) (by omega)
  simpa [hz1, Value.cells] using h
 clear hi hz0 hz1 hz2 i0
 have HI := Lib.hid (show (Tryz.prog.info? 3).map (fun i => (i.zero, i.size, i.bytes)) = some (some (.int .i64 0), 1, 8) by kernel_rfl)
 obtain ⟨st, hst⟩ : ∃ st : Nat → Bool, (fun t => decide (BD t ≠ -1)) = st := ⟨_, rfl⟩
 have HSt := Lib.hid (fun t => congrFun hst t)
 rw [hst]
 clear hst
 obtain ⟨E, hE⟩ : ∃ E : Nat → Nat → Bool, (fun s (t : Nat) => (F s (t : Int)).isSome) = E := ⟨_, rfl⟩
 rw [hE]
 have HE := Lib.hid (fun s t => congrFun (congrFun hE s) t)
 clear hE
 obtain ⟨E2, hE2⟩ : ∃ E2, E2 = revG E := ⟨_, rfl⟩
 have HE2 := Lib.hid (show ∀ s t, E2 s t = E t s by rw [hE2]; intro s t; rfl)
 rw [← hE2]
 clear hE2
 have HR0 : Hid (RowsS w g n mb F BD Rc (firstR st 0)) := Lib.hid (by
  have e : firstR st 0 = fun _ => -1 := by funext t; unfold firstR; rw [if_neg (fun h => absurd h.1 (Nat.not_lt_zero t))]
  rw [e]; exact hR)
 have HCs := Lib.hid (fun (u : World) (hu : Kp (fun j => j = g) w u) => show u.cell? ⟨sp, 1, none⟩ = some (.slice (some ⟨g, 0, none⟩) n cg) from
  (World.cell?_of_block (w := w) (w' := u) (a := ⟨sp, 1, none⟩) (hu.block sp (World.block_lt_of_cell? w _ hs1) (fun e => hgs e.symm))).trans hs1)
 have HF := Lib.hid hF
 have HLw := Lib.hid hR.lowR
 obtain ⟨wz, hwz⟩ : ∃ wz : World, wz = w.alloc (.cells (madeCells #[.slice none 0 0] n) 22) := ⟨_, rfl⟩
 have HK0 := Lib.hid (show Kp (fun _ => False) w wz by rw [hwz]; exact (Kp.refl _ w).alloc _)
 have HM0 := Lib.hid (show RowsM wz w.heap.size w.heap.size n (fun _ => .slice none 0 0) (fun t => ahV (ahN E 0 t)) from
  ⟨by rw [hwz, ← made_row]; exact Blk.new w _ _, fun k hk => Own.nil _ _ _, Nat.le_refl _, fun k hk j hj => (by cases hj), fun k k' h1 h2 h3 j hj => (by cases hj)⟩)
 have HZ := Lib.hid hwz
 have HMk := Lib.hid hmk
 have hs1' := hs1
 have hmk' := hmk w
 clear hR hF hgs hmk hwz hs1
 obtain ⟨ga, hga⟩ : ∃ ga, w.heap.size = ga := ⟨_, rfl⟩
 rw [hga] at HM0 HLw hmk'
 have HGa := Lib.hid hga
 clear hga
 go_enter Tryz.func38, Tryz.ntmps38
 go_upto_region 1 with fail
 rw [← HZ.out]
 clear HZ hmk' hs1' HMk
 have HKz := Lib.hid (show Kp (fun j => j = g) w wz from HK0.out.mono (fun _ _ h => h.elim))
 have d1 := HCs.out wz HKz.out
 have HSz0 := Lib.hid (show ga + 1 ≤ wz.heap.size by have := HM0.out.blk.lt; omega)
 go_wp2_with fail
 go_loopw [3, 24] (fun v3 v24 wr => ∃ (k : Nat) (L : List Nat) (R : Nat → Value), v24 = .int .i64 (k : Int) ∧ k ≤ n ∧ RowsM wr ga ga n R (fun t => ahV (ahN E k t)) ∧ RowsS wr g n mb F BD Rc (firstR st k) ∧ Own wr (ga + 1) 3 v3 (nv L) ∧ L.Nodup ∧ (∀ t, t ∈ L ↔ t < k ∧ st t = true) ∧ (∀ t, t < n → ∀ j, (R t).ownBlock = some j → v3.ownBlock ≠ some j) ∧ Kp (fun j => j = g) w wr ∧ ga + 1 ≤ wr.heap.size) (fun _ v24 _ => n - (intOf v24).toNat)
 case atStart => exact ⟨0, [], _, rfl, Nat.zero_le _, HM0.out, HR0.out.kp HK0.out, Own.nil _ _ _, List.nodup_nil, fun t => ⟨fun h => (by cases h), fun h => absurd h.1 (Nat.not_lt_zero t)⟩, fun t ht j hj => (by cases hj), HKz.out, HSz0.out⟩
 case round =>
  clear HR0 HM0 HK0 HKz HSz0 d1
  obtain ⟨k, L, R, rfl, hk, hM, hRw, hO, hnd, hm, hfar, hK, hsz⟩ := hrel
  have HM := Lib.hid hM
  have HRw := Lib.hid hRw
  have HO := Lib.hid hO
  have HNd := Lib.hid hnd
  have HMm := Lib.hid hm
  have HFar := Lib.hid hfar
  have HK := Lib.hid hK
  have HSz := Lib.hid hsz
  clear hM hRw hO hnd hm hfar hK hsz
  obtain ⟨wp, rfl⟩ : ∃ wp : World, wp = wr := ⟨_, rfl⟩
  by_cases hlt : k < n
  ·have k0 : (0 : Int) ≤ (k : Int) := by omega
   have k1 : (k : Int) < (n : Int) := by omega
   have b0 := HRw.out.cell0 hlt
   have b1 := HRw.out.cell1 hlt
   have b2 := HRw.out.cell2 hlt
   have b3 := HRw.out.cell3 hlt
   obtain ⟨bd, hbd⟩ : ∃ bd, BD k = bd := ⟨_, rfl⟩
   have HBd := Lib.hid hbd
   rw [hbd] at b1
   clear hbd
   obtain ⟨x2, hx2⟩ : ∃ x, Rc k = x := ⟨_, rfl⟩
   obtain ⟨x3, hx3⟩ : ∃ x, firstR st k k = x := ⟨_, rfl⟩
   rw [hx2] at b2
   rw [hx3] at b3
   clear hx2 hx3
   obtain ⟨xb, hxb⟩ : ∃ xb, wp.heap.size = xb := ⟨_, rfl⟩
   have HXb := Lib.hid hxb
   clear hxb
   obtain ⟨w1, hw1⟩ : ∃ w1 : World, w1 = wp.alloc (.cells #[.map (some (mb k)), .int .i64 bd, .int .i64 x2, .int .i64 x3] 75) := ⟨_, rfl⟩
   have HK1 := Lib.hid (show Kp (fun _ => False) wp w1 by rw [hw1]; exact (Kp.refl _ wp).alloc _)
   have HB1 := Lib.hid (show Blk w1 xb #[.map (some (mb k)), .int .i64 bd, .int .i64 x2, .int .i64 x3] 75 by rw [hw1, ← HXb.out]; exact Blk.new _ _ _)
   have HW1 := Lib.hid hw1
   clear hw1
   have e0 := HB1.out.cell (i := 0) (v := .map (some (mb k))) rfl
   obtain ⟨q, hMq, hq⟩ := HRw.out.map k hlt
   have HMq := Lib.hid (hMq.kp HK1.out (fun h => h))
   clear hMq
   go_upto_region 5 with fail
   rw [← HW1.out, HXb.out]
   clear HW1 b0 b1 b2 b3
   go_wp2_with (at_range; refine wpList_rangeI rfl (.tmp 30) rfl rfl HMq.out ?_; intro w2 cnt0 hrg hk2 hs2; go_frame)
   obtain ⟨r, hr⟩ : ∃ r, w1.heap.size = r := ⟨_, rfl⟩
   have hrx : xb < r := by have := HB1.out.lt; omega
   have hxg : ga + 1 ≤ xb := by have := HSz.out; have := HXb.out; omega
   rw [hr] at hrg hs2 ⊢
   have hK12 : Kp (fun _ => False) wp w2 := HK1.out.trans hk2 (fun _ _ h => h)
   have HRg := Lib.hid hrg
   have HM2 := Lib.hid (HM.out.kp hK12)
   have HR2 := Lib.hid (HRw.out.kp hK12)
   have HO2 := Lib.hid (HO.out.kp hK12 (fun _ _ h => h))
   have HB2 := Lib.hid (HB1.out.kp hk2 (fun h => h))
   have HK2 := Lib.hid (show Kp (fun j => j = g) w w2 from HK.out.trans (hK12.mono (T := fun j => j = g) (fun _ _ h => h.elim)) (fun _ _ h => h))
   have HFar2 := Lib.hid (show ∀ t, t < n → ∀ j, (R t).ownBlock = some j → u3.ownBlock ≠ some j ∧ j ≠ xb ∧ j ≠ r from fun t ht j hj => by
    have := ((HM.out.ow t ht).lt j hj).2
    have h2 := HXb.out
    exact ⟨HFar.out t ht j hj, by omega, by omega⟩)
   have HV := Lib.hid (show ∀ j, u3.ownBlock = some j → j < xb from fun j hj => by have := HO.out.lt j hj; have := HXb.out; omega)
   clear hrg hk2 hK12 HM HRw HO HB1 HK HFar HK1 HMq hr e0
   go_loopw [6] (fun _ wr => ∃ (R : Nat → Value) (A : Nat → List Int) (left : Int → Prop) (cnt : Nat), RGI wr (mb k) r q (F k) left cnt ∧ RowsM wr ga ga n R A ∧ (∀ t : Nat, t < n → (left (t : Int) → A t = ahV (ahN E k t)) ∧ (¬ left (t : Int) → A t = ahV (ahN E (k + 1) t))) ∧ RowsS wr g n mb F BD Rc (firstR st k) ∧ Own wr (ga + 1) 3 u3 (nv L) ∧ (∀ t, t < n → ∀ j, (R t).ownBlock = some j → u3.ownBlock ≠ some j ∧ j ≠ xb ∧ j ≠ r) ∧ Blk wr xb #[.map (some (mb k)), .int .i64 bd, .int .i64 x2, .int .i64 x3] 75 ∧ Kp (fun j => j = g) w wr ∧ r < wr.heap.size) (fun _ wr => wr.rangeLeft (mb k) r)
   case atStart =>
    refine ⟨R, _, _, cnt0, HRg.out, HM2.out, fun t ht => ⟨fun _ => rfl, fun h => ?_⟩, HR2.out, HO2.out, HFar2.out, HB2.out, HK2.out, by omega⟩
    rw [ahN_skip]
    have := HE.out k t
    cases he : E k t with
    |true => rw [he] at this; exact absurd this h
    |false => rfl
   case round =>
    clear HRg HM2 HR2 HO2 HFar2 HB2 HK2
    obtain ⟨R, A, left, cnt, hrg, hM, hA, hRw, hO, hfar, hB, hK, hsz⟩ := hrel
    have HRg := Lib.hid hrg
    have HM := Lib.hid hM
    have HA := Lib.hid hA
    have HRw := Lib.hid hRw
    have HO := Lib.hid hO
    have HFar := Lib.hid hfar
    have HB := Lib.hid hB
    have HK := Lib.hid hK
    have HSz2 := Lib.hid hsz
    clear hrg hM hA hRw hO hfar hB hK hsz
    obtain ⟨w3, rfl⟩ : ∃ w3 : World, w3 = wr := ⟨_, rfl⟩
    go_wp2_with (first
     |(at_next; refine wpList_nextI rfl (.tmp 31) rfl rfl HRg.out ?_ ?_)
     |go_in)
    ·intro hdone
     have e1 := HB.out.cell (i := 1) (v := .int .i64 bd) rfl
     have HMn := Lib.hid (show RowsM w3 ga ga n R (fun t => ahV (ahN E (k + 1) t)) from HM.out.congr (fun t ht => (HA.out t ht).2 (hdone t (by unfold okInt; omega))))
     clear hdone HA HB HRg
     have hstk := HSt.out k
     rw [HBd.out] at hstk
     by_cases hbn : bd = -1
     ·subst hbn
      have hsf : st k = false := by rw [← hstk]; rfl
      clear hstk
      go_wp2_with fail
      go_roundw
      case rel =>
       refine ⟨k + 1, L, R, by go_num, by omega, HMn.out, ?_, HO.out, HNd.out, fun t => ?_, fun t ht j hj => (HFar.out t ht j hj).1, HK.out, by have := HSz2.out; omega⟩
       ·rw [firstR_skip hsf]; exact HRw.out
       ·rw [HMm.out]
        constructor
        ·rintro ⟨h1, h2⟩; exact ⟨by omega, h2⟩
        ·rintro ⟨h1, h2⟩
         refine ⟨?_, h2⟩
         apply Classical.byContradiction
         intro q
         rw [show t = k by omega, hsf] at h2
         cases h2
      case measure => simp [intOf]; omega
     ·have hstt : st k = true := by rw [← hstk]; simp [hbn]
      clear hstk
      have d1 := HCs.out w3 HK.out
      have b3 := HRw.out.cell3 hlt
      have f3 := HRw.out.blk.free (k * 4 + 3)
      go_upto_region 11 with fail
      obtain ⟨w4, hw4⟩ : ∃ w4, w4 = w3.setCell ⟨g, k * 4 + 3, none⟩ (.int .i64 0) := ⟨_, rfl⟩
      rw [← hw4]
      have hK34 : Kp (fun j => j = g) w3 w4 := by rw [hw4]; exact Kp.set w3 ⟨g, k * 4 + 3, none⟩ (.int .i64 0)
      have HR4 := Lib.hid (show RowsS w4 g n mb F BD Rc (firstR st (k + 1)) by rw [hw4, firstR_put hstt]; exact HRw.out.setD hlt 0)
      have hgl := HLw.out.1
      have hgz := HSz2.out
      have HM4 := Lib.hid (HMn.out.kpO hK34 (fun e => by omega) (fun t ht j hj e => by have := (HMn.out.ow t ht).lt j hj; omega))
      have HO4 := Lib.hid (HO.out.kp hK34 (fun j hj e => by have := HO.out.lt j hj; omega))
      have HK4 := Lib.hid (HK.out.trans hK34 (fun _ _ h => h))
      have hsz4 := hK34.size
      have hll : L.length ≤ k := nodup_le k HNd.out (fun t ht => ((HMm.out t).1 ht).1)
      clear hw4 hK34 d1 b3 f3 HMn
      go_wp2_with (at_builtin; refine wpList_append1_at rfl _ _ 22 3 rfl Tryz.underlying22 HI.out rfl (HO4.out.alloc _) rfl ⟨w4.heap.size, 0, none⟩ (.int .i64 (k : Int)) rfl ?c1 rfl ?c2 ?c3 ?c4 ?_)
      case c1 => exact World.cell?_alloc_at _ _ _ _ rfl
      case c2 => rw [nv_length]; omega
      case c3 => rw [nv_length]; unfold maxLen; omega
      case c4 => simp; omega
      intro v' w5 hO5 hg5 hat5
      rw [← nv_snoc] at hO5
      have hK45 : Kp (fun j => u3.ownBlock = some j) w4 w5 := ((Kp.refl _ w4).alloc _).grown hg5 (fun j hj _ => hj)
      have hv5 := fun j hj => (HO4.out.lt j hj).1
      have HM5 := Lib.hid (HM4.out.kpO hK45 (fun e => by have := hv5 _ e; omega) (fun t ht j hj e => (HFar.out t ht j hj).1 e))
      have HR5 := Lib.hid (HR4.out.kpL HLw.out (hK45.mono (T := fun j => ga ≤ j) (fun j _ e => by have := hv5 j e; omega)))
      have HK5 := Lib.hid (show Kp (fun j => j = g) w w5 from HK4.out.trans hK45 (fun j h1 h2 => by have := hv5 j h2; have := HGa.out; omega))
      have HO5 := Lib.hid hO5
      have hsz5 := hK45.size
      have HFar5 := Lib.hid (show ∀ t, t < n → ∀ j, (R t).ownBlock = some j → v'.ownBlock ≠ some j from fun t ht j hj e => by
       have h1 := ((HM4.out.ow t ht).lt j hj).2
       rcases hat5 with e2 | e2
       ·rw [e2] at e; exact (HFar.out t ht j hj).1 e
       ·rw [e2] at e; simp at e; omega)
      clear hO5 hg5 hat5 hK45 hv5
      go_wp2_with fail
      go_roundw
      case rel =>
       refine ⟨k + 1, L ++ [k], R, by go_num, by omega, HM5.out, HR5.out, HO5.out, ?_, fun t => ?_, HFar5.out, HK5.out, by omega⟩
       ·rw [List.nodup_append]
        refine ⟨HNd.out, by simp, fun a ha b hb => ?_⟩
        simp at hb
        subst hb
        have := ((HMm.out a).1 ha).1
        omega
       ·rw [List.mem_append, HMm.out]
        constructor
        ·rintro (⟨h1, h2⟩ | h1)
         ·exact ⟨by omega, h2⟩
         ·simp at h1; subst h1; exact ⟨by omega, hstt⟩
        ·rintro ⟨h1, h2⟩
         by_cases e : t = k
         ·exact .inr (by simp [e])
         ·exact .inl ⟨by omega, h2⟩
      case measure => simp [intOf]; omega
    ·intro x c w4 cnt1 okx hlx hF hR1 hlt1 hk1 hs1 hen
     obtain ⟨v, rfl, hv⟩ := HF.out k hlt x c hF
     have v0 : (0 : Int) ≤ (v : Int) := by omega
     have v1 : (v : Int) < (n : Int) := by omega
     have hEv : E k v = true := by rw [← HE.out, hF]; rfl
     have hgl := HLw.out.1
     have HM4 := Lib.hid (HM.out.kpO hk1 (fun e => by omega) (fun t ht j hj e => (HFar.out t ht j hj).2.2 e))
     have HR4 := Lib.hid (HRw.out.kpS hk1 (fun e => by omega) (fun t ht e => by have := HLw.out.2 t ht; omega))
     have HO4 := Lib.hid (HO.out.kp hk1 (fun j hj e => by have := HV.out j hj; omega))
     have HB4 := Lib.hid (HB.out.kp hk1 (fun e => by omega))
     have HK4 := Lib.hid (HK.out.trans hk1 (fun j h1 e => by have := HGa.out; omega))
     have hszr := HSz2.out
     have hszr4 : r < w4.heap.size := by omega
     clear hs1
     have HAv := Lib.hid (show A v = ahV (ahN E k v) from (HA.out v hv).1 hlx)
     have HR1 := Lib.hid hR1
     have HLt := Lib.hid hlt1
     have RCa := HM4.out.cell hv
     have fCa := HM4.out.blk.free v
     have HOw := Lib.hid (HM4.out.ow v hv)
     have hal : (A v).length ≤ n := by rw [HAv.out]; have := ahN_len (E := E) (k := k) (t := v); simp [ahV]; omega
     obtain ⟨aa, cc, eea, -⟩ := HOw.out.form
     rw [eea] at RCa HOw
     have HEE := Lib.hid eea
     rw [iv_length] at RCa HOw HEE
     clear hF hR1 hk1 hlt1 eea HM HRw HO HB HK
     have HNw := Lib.hid (Blk.new w4 #[.int .i64 (k : Int)] 3)
     go_wp2_with (at_builtin; refine wpList_append1_at rfl _ _ 22 3 rfl Tryz.underlying22 HI.out rfl (HOw.out.alloc _) rfl ⟨w4.heap.size, 0, none⟩ (.int .i64 (k : Int)) rfl (HNw.out.cell rfl) rfl ?d1 ?d2 ?d3 ?_)
     case d1 => rw [iv_length]; omega
     case d2 => rw [iv_length]; unfold maxLen; omega
     case d3 => simp; omega
     intro v' w5 hO5 hg5 hat5
     obtain ⟨aN, cN, eN, -⟩ := hO5.form
     rw [List.length_append, List.length_singleton, iv_length] at eN
     subst eN
     have hP := HM4.out.push (k := v) (x := (k : Int)) hv (w1 := w4.alloc (.cells #[.int .i64 (k : Int)] 3)) ((Kp.refl _ _).alloc _) hO5 (by rw [HEE.out]; exact hg5) (by rw [HEE.out, World.size_alloc]; exact hat5)
     have HP := Lib.hid hP
     have HAt := Lib.hid hat5
     have c5 : w5.cell? ⟨ga, v, none⟩ = some (.slice aa (A v).length cc) := by
      rw [← RCa]
      refine World.cell?_of_block (w := w4) (w' := w5) (a := ⟨ga, v, none⟩) ?_
      have := ((Kp.refl (fun j => (R v).ownBlock = some j) w4).alloc (.cells #[.int .i64 (k : Int)] 3)).grown hg5 (fun j hj _ => by rw [HEE.out]; exact hj)
      exact this.block ga (by omega) (fun e => HM4.out.ne v hv ga e rfl)
     have f5 : w5.frozen? ⟨ga, v, none⟩ = false := by
      have h1 := ((Kp.refl (fun j => (R v).ownBlock = some j) w4).alloc (.cells #[.int .i64 (k : Int)] 3)).grown hg5 (fun j hj _ => by rw [HEE.out]; exact hj)
      exact (HM4.out.blk.kp h1 (fun e => HM4.out.ne v hv ga e rfl)).free v
     clear hP hO5 hg5 hat5 RCa fCa
     go_wp2_with fail
     have HP1 := Lib.hid HP.out.1
     have HKp := Lib.hid HP.out.2
     have hown : ∀ j, (R v).ownBlock = some j → ga ≤ j ∧ j < w4.heap.size := fun j hj => (HM4.out.ow v hv).lt j hj
     go_roundw
     case rel =>
      refine ⟨_, _, _, cnt1, HR1.out.kp HKp.out (fun e => ?_) (fun e => ?_), HP1.out, fun t ht => ⟨fun h => ?_, fun h => ?_⟩, HR4.out.kpS HKp.out (fun e => ?_) (fun t ht e => ?_), HO4.out.kp HKp.out (fun j hj e => ?_), fun t ht j hj => ?_, HB4.out.kp HKp.out (fun e => ?_), HK4.out.trans HKp.out (fun j h1 e => ?_), by have := HKp.out.size; omega⟩
      ·have := HLw.out.2 k hlt
       rcases e with e | e
       ·omega
       ·have := (hown _ e).1; omega
      ·rcases e with e | e
       ·omega
       ·exact (HFar.out v hv r e).2.2 rfl
      ·rw [up1_off _ _ (fun e => h.2 (by rw [e]))]
       exact (HA.out t ht).1 h.1
      ·by_cases e : t = v
       ·subst e
        rw [up1_at, HAv.out, ahN_put hEv, ahV_snoc]
       ·rw [up1_off _ _ e]
        exact (HA.out t ht).2 (fun q => h ⟨q, by omega⟩)
      ·rcases e with e | e
       ·omega
       ·have := (hown _ e).1; omega
      ·have := HLw.out.2 t ht
       rcases e with e | e
       ·omega
       ·have := (hown _ e).1; omega
      ·have := HO4.out.lt j hj
       rcases e with e | e
       ·omega
       ·exact (HFar.out v hv j e).1 hj
      ·by_cases e : t = v
       ·subst e
        rw [up1_at] at hj
        rcases HAt.out with e2 | e2
        ·rw [e2, ← HEE.out] at hj; exact HFar.out t hv j hj
        ·rw [e2] at hj
         have hj2 : w4.heap.size + 1 = j := by simpa using hj
         exact ⟨fun q => by have := HO4.out.lt j q; omega, by omega, by omega⟩
       ·rw [up1_off _ _ e] at hj
        exact HFar.out t ht j hj
      ·rcases e with e | e
       ·omega
       ·exact (HFar.out v hv xb e).2.1 rfl
      ·have := HGa.out
       rcases e with e | e
       ·omega
       ·have := (hown _ e).1; omega
     case measure => rw [(HR1.out.kp HKp.out (fun e => by
       have := HLw.out.2 k hlt
       rcases e with e | e
       ·omega
       ·have := (hown _ e).1; omega) (fun e => by
       rcases e with e | e
       ·omega
       ·exact (HFar.out v hv r e).2.2 rfl)).left_eq, HRg.out.left_eq]; exact HLt.out
  ·obtain hk' : k = n := by omega
   subst hk'
   have k1 : ¬ (k : Int) < (k : Int) := by omega
   have HBnd := Lib.hid (show ∀ t, t < k → ∀ j, (R t).ownBlock = some j → j < wp.heap.size from fun t ht j hj => ((HM.out.ow t ht).lt j hj).2)
   obtain ⟨B, hB⟩ : ∃ B, wp.heap.size = B := ⟨_, rfl⟩
   have hBs : B ≤ wp.heap.size := by omega
   have HBs := Lib.hid hBs
   rw [hB] at HBnd
   clear hBs hB
   go_wp2_with fail
   go_loopw [3, 7] (fun v3 v7 wr => ∃ (m : Nat) (L : List Nat) (D : Nat → Int), v7 = .int .i64 ((m : Int) + 1) ∧ m ≤ k ∧ RowsM wr ga ga k R (fun t => ahV (ahN E k t)) ∧ RowsS wr g k mb F BD Rc D ∧ (∀ t, t < k → D t = distG k st E2 m t) ∧ Own wr (ga + 1) 3 v3 (nv L) ∧ L.Nodup ∧ (∀ t, t ∈ L ↔ t < k ∧ distG k st E2 m t = (m : Int)) ∧ (∀ j, j < m → ∃ t, t < k ∧ distG k st E2 m t = (j : Int)) ∧ Kp (fun j => j = g) w wr ∧ B ≤ wr.heap.size) (fun _ v7 _ => k + 2 - (intOf v7).toNat)
   case atStart =>
    refine ⟨0, L, firstR st k, rfl, Nat.zero_le _, HM.out, HRw.out, fun t ht => firstR_dist ht, HO.out, HNd.out, fun t => ?_, fun j hj => absurd hj (Nat.not_lt_zero j), HK.out, HBs.out⟩
    rw [HMm.out]
    refine and_congr_right fun ht => ?_
    rw [← firstR_dist ht]
    unfold firstR
    by_cases e : st t = true
    ·rw [if_pos ⟨ht, e⟩]; simp [e]
    ·rw [if_neg (fun q => e q.2)]
     exact ⟨fun q => absurd q e, fun q => by simp at q⟩
   case round =>
    clear HM HRw HO HNd HMm HK HBs HSz HFar
    obtain ⟨m, L, D, rfl, hm, hM, hRw, hRd, hO, hnd, hmem, hlay, hK, hBs⟩ := hrel
    obtain ⟨a2, c2, rfl, -⟩ := hO.form
    rw [nv_length]
    rw [nv_length] at hO
    have HM := Lib.hid hM
    have HRw := Lib.hid hRw
    have HO := Lib.hid hO
    have HNd := Lib.hid hnd
    have HMm := Lib.hid hmem
    have HLay := Lib.hid hlay
    have HRd := Lib.hid hRd
    have HK := Lib.hid hK
    have HBs := Lib.hid hBs
    have hLk : L.length ≤ k := nodup_le k hnd (fun t ht => ((hmem t).1 ht).1)
    clear hM hRw hO hnd hmem hlay hRd hK hBs
    obtain ⟨wp, rfl⟩ : ∃ wp : World, wp = wr := ⟨_, rfl⟩
    by_cases hL : 0 < L.length
    ·have hL1 : (0 : Int) < (L.length : Int) := by omega
     obtain ⟨g2, cap, eg, hg2, hg2'⟩ := HO.out.leads (by rw [nv_length]; exact hL)
     simp only [Value.slice.injEq] at eg
     obtain ⟨rfl, -, rfl⟩ := eg
     have hmk : m < k := layers_cnt (m := m) (fun j hj => by
      by_cases e : j = m
      ·subst e; exact ⟨gn L 0, (HMm.out _).1 (gn_mem hL)⟩
      ·exact HLay.out j (by omega))
     have HLo := Lib.hid (show LowR wp.heap.size g k mb from HRw.out.lowR)
     have HWs := Lib.hid (show ga + 1 ≤ wp.heap.size by have := HM.out.blk.lt; omega)
     go_wp2_with fail
     go_loopw [8, 68] (fun v8 v68 w3 => ∃ (i : Nat) (N : List Nat) (D : Nat → Int), v68 = .int .i64 (i : Int) ∧ i ≤ L.length ∧ RowsM w3 ga ga k R (fun t => ahV (ahN E k t)) ∧ RowsS w3 g k mb F BD Rc D ∧ MidG k st E2 m (fun t => ∃ j, j < i ∧ E2 (gn L j) t = true) D N ∧ Own w3 (ga + 1) 3 (.slice (some ⟨g2, 0, none⟩) L.length c2) (nv L) ∧ Own w3 wp.heap.size 3 v8 (nv N) ∧ Kp (fun j => j = g) w w3 ∧ wp.heap.size ≤ w3.heap.size) (fun _ v68 _ => L.length - (intOf v68).toNat)
     case atStart => exact ⟨0, [], D, rfl, Nat.zero_le _, HM.out, HRw.out, (MidG.start HRd.out).congr (fun t _ => ⟨fun h => h.elim, fun ⟨j, hj, _⟩ => absurd hj (Nat.not_lt_zero j)⟩), HO.out, Own.nil _ _ _, HK.out, Nat.le_refl _⟩
     case round =>
      clear HM HRw HO HK HRd
      obtain ⟨i, N, D, rfl, hi, hM, hRw, hMid, hO, hO5, hK, hsz⟩ := hrel
      have HM := Lib.hid hM
      have HRw := Lib.hid hRw
      have HMid := Lib.hid hMid
      have HO := Lib.hid hO
      have HO5 := Lib.hid hO5
      have HK := Lib.hid hK
      have HSz := Lib.hid hsz
      clear hM hRw hMid hO hO5 hK hsz
      obtain ⟨w3, rfl⟩ : ∃ w3 : World, w3 = wr := ⟨_, rfl⟩
      by_cases hiL : i < L.length
      ·have i0 : (0 : Int) ≤ (i : Int) := by omega
       have i1 : (i : Int) < (L.length : Int) := by omega
       obtain ⟨s, hs⟩ : ∃ s, gn L i = s := ⟨_, rfl⟩
       have cl := HO.out.cell (nv_at hiL)
       rw [hs] at cl
       have hsm := (HMm.out s).1 (hs ▸ gn_mem hiL)
       have hsk := hsm.1
       have HS := Lib.hid hs
       clear hsm hs
       have s0 : (0 : Int) ≤ (s : Int) := by omega
       have s1 : (s : Int) < (k : Int) := by omega
       obtain ⟨P, hP⟩ : ∃ P, ahN E k s = P := ⟨_, rfl⟩
       have HP := Lib.hid hP
       have hOs := HM.out.ow s hsk
       have RCs := HM.out.cell hsk
       have hPo : Own w3 ga 3 (R s) (nv P) := by rw [← hP, ← ahV_iv]; exact hOs
       obtain ⟨pa, pc, epa, -⟩ := hPo.form
       rw [nv_length] at epa
       rw [epa] at RCs hPo
       have HEp := Lib.hid epa
       have hPl : P.length ≤ k := by rw [← hP]; exact ahN_len
       clear hP hOs epa hPo
       go_wp2_with fail
       go_loopw [8, 77] (fun v8 v77 w5 => ∃ (l : Nat) (N : List Nat) (D : Nat → Int), v77 = .int .i64 (l : Int) ∧ l ≤ P.length ∧ RowsM w5 ga ga k R (fun t => ahV (ahN E k t)) ∧ RowsS w5 g k mb F BD Rc D ∧ MidG k st E2 m (fun t => (∃ j, j < i ∧ E2 (gn L j) t = true) ∨ ∃ j, j < l ∧ gn P j = t) D N ∧ Own w5 (ga + 1) 3 (.slice (some ⟨g2, 0, none⟩) L.length c2) (nv L) ∧ Own w5 wp.heap.size 3 v8 (nv N) ∧ Kp (fun j => j = g) w w5 ∧ wp.heap.size ≤ w5.heap.size) (fun _ v77 _ => P.length - (intOf v77).toNat)
       case atStart =>
        exact ⟨0, N, D, rfl, Nat.zero_le _, HM.out, HRw.out, HMid.out.congr (fun t ht => ⟨fun h => .inl h, fun h => h.resolve_right (fun ⟨j, hj, _⟩ => absurd hj (Nat.not_lt_zero j))⟩), HO.out, HO5.out, HK.out, HSz.out⟩
       case round =>
        clear HM HRw HMid HO HO5 HK HSz RCs cl
        obtain ⟨l, N, D, rfl, hl, hM, hRw, hMid, hO, hO5, hK, hsz⟩ := hrel
        have HM := Lib.hid hM
        have HRw := Lib.hid hRw
        have HMid := Lib.hid hMid
        have HO := Lib.hid hO
        have HO5 := Lib.hid hO5
        have HK := Lib.hid hK
        have HSz := Lib.hid hsz
        clear hM hRw hMid hO hO5 hK hsz
        obtain ⟨w5, rfl⟩ : ∃ w5 : World, w5 = wr := ⟨_, rfl⟩
        by_cases hlP : l < P.length
        ·have l0 : (0 : Int) ≤ (l : Int) := by omega
         have l1 : (l : Int) < (P.length : Int) := by omega
         obtain ⟨v, hv⟩ : ∃ v, gn P l = v := ⟨_, rfl⟩
         have HPo := Lib.hid (show Own w5 ga 3 (.slice pa P.length pc) (nv P) by
          rw [← HEp.out, ← HP.out, ← ahV_iv]; exact HM.out.ow s hsk)
         obtain ⟨g5, cap, eg, hg5, -⟩ := HPo.out.leads (by rw [nv_length]; omega)
         simp only [Value.slice.injEq] at eg
         obtain ⟨rfl, -, rfl⟩ := eg
         have cv := HPo.out.cell (nv_at hlP)
         have hvm := (ahN_mem (E := E) (k := k) (t := s) (s := v)).1 (by rw [HP.out, ← hv]; exact gn_mem hlP)
         have hvk := hvm.1
         rw [hv] at cv
         have HV := Lib.hid hv
         clear hv hvm
         have v0 : (0 : Int) ≤ (v : Int) := by omega
         have v1 : (v : Int) < (k : Int) := by omega
         have e3 := HRw.out.cell3 hvk
         have f3 := HRw.out.blk.free (v * 4 + 3)
         have d1 := HCs.out w5 HK.out
         obtain ⟨dv, hdv⟩ : ∃ dv, D v = dv := ⟨_, rfl⟩
         rw [hdv] at e3
         have HQ := Lib.hid (show ∀ t, t < k → ((((∃ j, j < i ∧ E2 (gn L j) t = true) ∨ ∃ j, j < l ∧ gn P j = t) ∨ t = v) ↔ ((∃ j, j < i ∧ E2 (gn L j) t = true) ∨ ∃ j, j < l + 1 ∧ gn P j = t)) from fun t ht => by
          constructor
          ·rintro ((h | ⟨j, h1, h2⟩) | rfl)
           ·exact .inl h
           ·exact .inr ⟨j, by omega, h2⟩
           ·exact .inr ⟨l, by omega, HV.out⟩
          ·rintro (h | ⟨j, h1, h2⟩)
           ·exact .inl (.inl h)
           ·by_cases e : j = l
            ·subst e; exact .inr (h2.symm.trans HV.out)
            ·exact .inl (.inr ⟨j, by omega, h2⟩))
         by_cases hr1 : dv = -1
         ·subst hr1
          go_upto_region 25 with fail
          obtain ⟨w7, hw7⟩ : ∃ w7, w7 = w5.setCell ⟨g, v * 4 + 3, none⟩ (.int .i64 ((m : Int) + 1)) := ⟨_, rfl⟩
          rw [← hw7]
          have hK67 : Kp (fun j => j = g) w5 w7 := by rw [hw7]; exact Kp.set w5 ⟨g, v * 4 + 3, none⟩ (.int .i64 ((m : Int) + 1))
          have HR7 := Lib.hid (show RowsS w7 g k mb F BD Rc (upI D v ((m : Int) + 1)) by rw [hw7]; exact HRw.out.setD hvk _)
          have hlg := HLw.out.1
          have hws := HWs.out
          have hsz5 := HSz.out
          have HM7 := Lib.hid (HM.out.kpO hK67 (fun e => by omega) (fun t ht j hj e => by have := (HM.out.ow t ht).lt j hj; omega))
          have HO7 := Lib.hid (HO.out.kp hK67 (fun j hj e => by simp [Value.ownBlock] at hj; omega))
          have HN7 := Lib.hid (HO5.out.kp hK67 (fun j hj e => by have := HO5.out.lt j hj; omega))
          have HK7 := Lib.hid (HK.out.trans hK67 (fun _ _ h => h))
          have hsz7 := hK67.size
          have HMd := Lib.hid ((HMid.out.put hvk hdv).congr HQ.out)
          have hNl : N.length ≤ k := nodup_le k HMid.out.nd (fun t ht => ((HMid.out.mem t).1 ht).1)
          clear hw7 hK67 e3 f3 d1 cv
          go_wp2_with (at_builtin; refine wpList_append1 rfl _ _ 22 3 rfl Tryz.underlying22 HI.out rfl (HN7.out.alloc _) rfl ⟨w7.heap.size, 0, none⟩ (.int .i64 (v : Int)) rfl ?c1 rfl ?c2 ?c3 ?c4 ?_)
          case c1 => exact World.cell?_alloc_at _ _ _ _ rfl
          case c2 => rw [nv_length]; omega
          case c3 => rw [nv_length]; unfold maxLen; omega
          case c4 => simp; omega
          intro v' w8 hO8 hg8
          rw [← nv_snoc] at hO8
          have hv8 := fun j hj => (HN7.out.lt j hj).1
          have hK78 : Kp (fun j => wp.heap.size ≤ j) w7 w8 := ((Kp.refl _ w7).alloc _).grown hg8 (fun j hj _ => hv8 j hj)
          have HR8 := Lib.hid (HR7.out.kpL HLo.out hK78)
          have hbs := HBs.out
          have hga := HGa.out
          have HM8 := Lib.hid (HM7.out.kpO hK78 (fun e => by omega) (fun t ht j hj e => by have := HBnd.out t ht j hj; omega))
          have HK8 := Lib.hid (show Kp (fun j => j = g) w w8 from HK7.out.trans hK78 (fun j h1 h2 => by omega))
          have HO8 := Lib.hid (HO7.out.kp hK78 (fun j hj e => by simp [Value.ownBlock] at hj; omega))
          have HN8 := Lib.hid hO8
          have hsz8 := hK78.size
          clear hO8 hg8 hv8 hK78
          go_wp2_with fail
          go_roundw
          case rel =>
           exact ⟨l + 1, N ++ [v], _, by go_num, by omega, HM8.out, HR8.out, HMd.out, HO8.out, HN8.out, HK8.out, by omega⟩
          case measure => simp [intOf]; omega
         ·go_wp2_with fail
          go_roundw
          case rel =>
           exact ⟨l + 1, N, D, by go_num, by omega, HM.out, HRw.out, (HMid.out.skip hvk (by rw [hdv]; exact hr1)).congr HQ.out, HO.out, HO5.out, HK.out, HSz.out⟩
          case measure => simp [intOf]; omega
        ·have l1 : ¬ (l : Int) < (P.length : Int) := by omega
         obtain hle : l = P.length := by omega
         subst hle
         go_wp2_with fail
         go_roundw
         case rel =>
          refine ⟨i + 1, N, D, by go_num, by omega, HM.out, HRw.out, HMid.out.congr fun t ht => ?_, HO.out, HO5.out, HK.out, HSz.out⟩
          have hmemP : (∃ j, j < P.length ∧ gn P j = t) ↔ E2 s t = true := by
           rw [HE2.out]
           constructor
           ·rintro ⟨j, h1, rfl⟩
            exact ((ahN_mem (E := E) (k := k) (t := s) (s := gn P j)).1 (by rw [HP.out]; exact gn_mem h1)).2
           ·intro h
            have : t ∈ P := by rw [← HP.out]; exact ahN_mem.2 ⟨ht, h⟩
            obtain ⟨j, hj, e⟩ := List.mem_iff_getElem.1 this
            exact ⟨j, hj, by unfold gn; rw [List.getElem?_eq_getElem hj, e]; rfl⟩
          rw [hmemP]
          constructor
          ·rintro (⟨j, h1, h2⟩ | h1)
           ·exact ⟨j, by omega, h2⟩
           ·exact ⟨i, by omega, by rw [HS.out]; exact h1⟩
          ·rintro ⟨j, h1, h2⟩
           by_cases e : j = i
           ·subst e; rw [HS.out] at h2; exact .inr h2
           ·exact .inl ⟨j, by omega, h2⟩
         case measure => simp [intOf]; omega
      ·have i1 : ¬ (i : Int) < (L.length : Int) := by omega
       obtain hie : i = L.length := by omega
       subst hie
       obtain ⟨a5, c5, rfl, -⟩ := HO5.out.form
       rw [nv_length]
       have HO5 := Lib.hid (nv_length N ▸ HO5.out)
       go_wp2_with fail
       go_roundw
       case rel =>
        have hfin := (HMid.out.congr (Q' := fun t => ∃ s, s < k ∧ distG k st E2 m s = m ∧ E2 s t = true) fun t ht => by
         constructor
         ·rintro ⟨j, hj, he⟩
          have := (HMm.out (gn L j)).1 (gn_mem hj)
          exact ⟨_, this.1, this.2, he⟩
         ·rintro ⟨s, h1, h2, h3⟩
          obtain ⟨j, hj, e⟩ := List.mem_iff_getElem.1 ((HMm.out s).2 ⟨h1, h2⟩)
          refine ⟨j, hj, ?_⟩
          rw [show gn L j = s by unfold gn; rw [List.getElem?_eq_getElem hj, e]; rfl]
          exact h3).fin
        refine ⟨m + 1, N, D, by go_num, by omega, HM.out, HRw.out, hfin.1, HO5.out.mono (by have := HWs.out; omega), HMid.out.nd, fun t => by rw [hfin.2 t], fun j hj => ?_, HK.out, by have := HSz.out; have := HBs.out; omega⟩
        by_cases e : j = m
        ·subst e
         have := (HMm.out (gn L 0)).1 (gn_mem hL)
         exact ⟨gn L 0, this.1, by rw [distG_keep (by rw [this.2]; omega), this.2]⟩
        ·obtain ⟨t, h1, h2⟩ := HLay.out j (by omega)
         exact ⟨t, h1, by rw [distG_keep (by rw [h2]; omega), h2]⟩
       case measure => simp [intOf]; omega
    ·have hL1 : ¬ (0 : Int) < (L.length : Int) := by omega
     go_wp2_with fail
     go_end0
     refine ⟨rfl, HRw.out.congrD fun t ht => ?_, HK.out⟩
     rw [HRd.out t ht]
     have := distG_still (n := k) (st := st) (E := E2) (m := m) (fun t ht e => hL (List.length_pos_of_mem ((HMm.out t).2 ⟨ht, e⟩))) (k - m) t
     rw [← this, show m + (k - m) = k by omega]

end Go.Proofs.YtnoknecfdnjomaaGreat

/-
  step.States.
-/
namespace Go.Proofs.YtnoknecfdnjomaaGreat
open Go.RowKit

end Go.Proofs.YtnoknecfdnjomaaGreat

/-
  circ.uses: all literals that are used are handed over, up to the first that is refused. (Printed by mkuses.py.)
-/
namespace Go.Proofs.YtnoknecfdnjomaaGreat
open Go.RowKit

theorem IntsAt.lt {w : World} {a : Option Addr} {l : List Int} (h : IntsAt w a l) (hl : l ≠ []) : ∀ p, a = some p → p.block < w.heap.size := by
 intro p hp
 obtain ⟨b, off, e, hc⟩ := h.get (j := 0) (by cases l with | nil => exact absurd rfl hl | cons x r => simp)
 rw [hp] at e
 simp only [Option.some.injEq] at e
 subst e
 exact World.block_lt_of_cell? w _ hc

def RowsAt (X : Nat → Prop) (u : World) (rs : List Value) (Ls : List (List Int)) : Prop :=
  rs.length = Ls.length ∧ ∀ (k : Nat) (r : Value) (l : List Int), rs[k]? = some r → Ls[k]? = some l → ∃ a c, r = .slice a l.length c ∧ l.length ≤ c ∧ c ≤ maxLen ∧ IntsAt u a l ∧ (l ≠ [] → ∀ p, a = some p → ¬ X p.block)

theorem RowsAt.kp {X S : Nat → Prop} {u u' : World} {rs : List Value} {Ls : List (List Int)} (h : RowsAt X u rs Ls) (k : Kp S u u') (hS : ∀ j, S j → X j) : RowsAt X u' rs Ls := by
 refine ⟨h.1, fun i r l hr hl => ?_⟩
 obtain ⟨a, c, e, h1, h2, h3, h4⟩ := h.2 i r l hr hl
 refine ⟨a, c, e, h1, h2, ?_, h4⟩
 by_cases hn : l = []
 ·subst hn; exact RowAt.nil _ _
 ·exact h3.kp k (fun p hp hs => h4 hn p hp (hS _ hs))

theorem RowsAt.mono {X X' : Nat → Prop} {u : World} {rs : List Value} {Ls : List (List Int)} (h : RowsAt X u rs Ls) (hX : ∀ j, j < u.heap.size → X' j → X j) : RowsAt X' u rs Ls := by
 refine ⟨h.1, fun i r l hr hl => ?_⟩
 obtain ⟨a, c, e, h1, h2, h3, h4⟩ := h.2 i r l hr hl
 exact ⟨a, c, e, h1, h2, h3, fun hn p hp hx => h4 hn p hp (hX _ (h3.lt hn p hp) hx)⟩

theorem RowsAt.snoc {X : Nat → Prop} {u : World} {rs : List Value} {Ls : List (List Int)} (h : RowsAt X u rs Ls) {a : Option Addr} {c : Nat} {l : List Int} (h1 : l.length ≤ c) (h2 : c ≤ maxLen) (h3 : IntsAt u a l) (h4 : ∀ p, a = some p → ¬ X p.block) : RowsAt X u (rs ++ [.slice a l.length c]) (Ls ++ [l]) := by
 refine ⟨by simp [h.1], fun k r x hr hx => ?_⟩
 by_cases hk : k < rs.length
 ·rw [List.getElem?_append_left hk] at hr
  rw [List.getElem?_append_left (by rw [← h.1]; exact hk)] at hx
  exact h.2 k r x hr hx
 ·rw [List.getElem?_append_right (by omega)] at hr
  rw [List.getElem?_append_right (by rw [← h.1]; omega)] at hx
  have e : k - rs.length = 0 := by
   have := (List.getElem?_eq_some_iff.1 hr).1
   simp at this; omega
  rw [e] at hr
  rw [← h.1, e] at hx
  simp at hr hx
  subst hr hx
  exact ⟨a, c, rfl, h1, h2, h3, fun _ => h4⟩

def usedRows (C : Circ) : List (List Int) := [C.outs, C.bads, C.cons] ++ C.lats.map (fun x => [x.2.1]) ++ C.gates.map (fun g => [g.2.1, g.2.2])
theorem usedRows_flat (C : Circ) : (usedRows C).flatten = C.used := by
 unfold usedRows Circ.used
 rw [List.flatten_append, List.flatten_append]
 have h1 : ∀ L : List (Int × Int × Int), (L.map (fun x => [x.2.1])).flatten = L.map (fun x => x.2.1) := by
  intro L; induction L with
  |nil => rfl
  |cons a r ih => simp [ih]
 have h2 : ∀ L : List (Int × Int × Int), (L.map (fun g => [g.2.1, g.2.2])).flatten = L.flatMap (fun g => [g.2.1, g.2.2]) := fun L => rfl
 rw [h1, h2]
 simp
theorem usedRows_length (C : Circ) : (usedRows C).length = 3 + C.lats.length + C.gates.length := by
 unfold usedRows; simp; omega

def grow (L : List (List Int)) (k : Nat) : List Int := L[k]?.getD []
theorem grow_at {L : List (List Int)} {k : Nat} (h : k < L.length) : L[k]? = some (grow L k) := by unfold grow; rw [List.getElem?_eq_getElem h]; rfl
theorem take_grow {L : List (List Int)} {k : Nat} (h : k < L.length) : (L.take (k + 1)).flatten = (L.take k).flatten ++ grow L k := by
 rw [List.take_succ_eq_append_getElem h, List.flatten_append]
 unfold grow
 rw [List.getElem?_eq_getElem h]
 simp

theorem all_take_gi {l : List Int} {k : Nat} (h : k < l.length) (P : List Int) (f : Int → Bool) : (P ++ l.take (k + 1)).all f = ((P ++ l.take k).all f && f (gi l k)) := by
 rw [take_gi h, ← List.append_assoc, List.all_append]
 simp

theorem used_false {L : List (List Int)} {i k : Nat} (hi : i < L.length) {f : Int → Bool} {b : Bool} (h : (b && ((L.take i).flatten ++ (grow L i).take (k + 1)).all f) = false) : (b && L.flatten.all f) = false := by
 cases b with
 |false => rfl
 |true =>
  rw [Bool.true_and] at h ⊢
  rw [List.all_eq_false] at h ⊢
  obtain ⟨x, hx, hf⟩ := h
  refine ⟨x, ?_, hf⟩
  have hL := List.take_append_drop (i + 1) L
  rw [← hL, List.flatten_append]
  refine List.mem_append.2 (.inl ?_)
  rw [take_grow hi]
  rcases List.mem_append.1 hx with h | h
  ·exact List.mem_append.2 (.inl h)
  ·exact List.mem_append.2 (.inr (List.mem_of_mem_take h))

theorem mem_used {L : List (List Int)} {i k : Nat} (hi : i < L.length) (hk : k < (grow L i).length) : gi (grow L i) k ∈ L.flatten := by
 refine List.mem_flatten.2 ⟨grow L i, List.mem_of_getElem? (grow_at hi), ?_⟩
 refine List.mem_of_getElem? (i := k) ?_
 unfold gi
 rw [List.getElem?_eq_getElem hk]; rfl

theorem three_blk (w : World) (c0 c1 c2 : Array Value) (t0 t1 t2 : TypeId) : Blk (((w.alloc (.cells c0 t0)).alloc (.cells c1 t1)).alloc (.cells c2 t2)) (w.heap.size + 1) c1 t1 ∧ Blk (((w.alloc (.cells c0 t0)).alloc (.cells c1 t1)).alloc (.cells c2 t2)) (w.heap.size + 2) c2 t2 := by
 refine ⟨(two_blk w c0 c1 t0 t1).alloc _, ?_⟩
 have := Blk.new ((w.alloc (.cells c0 t0)).alloc (.cells c1 t1)) c2 t2
 simpa using this

theorem ints_blk {w : World} {b : Nat} {l : List Int} {t : TypeId} (h : Blk w b (l.map (Value.int .i64)).toArray t) : IntsAt w (some ⟨b, 0, none⟩) l :=
 h.rowAt (off := 0) (n := l.length) (by simp; exact List.take_of_length_le (by simp))

def Gather (V : CV) (C : Circ) (bo : Nat) (w : World) (Ls : List (List Int)) (v4 : Value) (wr : World) : Prop :=
  ∃ rs, Own wr w.heap.size 22 v4 rs ∧ RowsAt (fun j => j = bo ∨ v4.ownBlock = some j) wr rs Ls ∧ (∀ j, v4.ownBlock = some j → w.heap.size < j) ∧ Blk wr w.heap.size (cvals V C) 27 ∧ Kp (fun _ => False) w wr

theorem Gather.start (V : CV) (C : Circ) (bo : Nat) (w0 w wz : World) (hz : wz = (w.alloc (.cells (cvals V C) 27)).alloc (.cells #[.slice V.ao C.outs.length V.co, .slice V.ab C.bads.length V.cb, .slice V.ac C.cons.length V.cc] 22))
  (h0 : CAt w0 V C) (hk0 : Kp (fun _ => False) w0 w) (hbo : w0.heap.size ≤ bo) (hbw : bo < w.heap.size) :
  Gather V C bo w [C.outs, C.bads, C.cons] (.slice (some ⟨w.heap.size + 1, 0, none⟩) 3 3) wz := by
 have hK : Kp (fun _ => False) w wz := by rw [hz]; exact ((Kp.refl _ w).alloc _).alloc _
 have hB : Blk wz (w.heap.size + 1) #[.slice V.ao C.outs.length V.co, .slice V.ab C.bads.length V.cb, .slice V.ac C.cons.length V.cc] 22 := by rw [hz]; exact two_blk _ _ _ _ _
 have hC : Blk wz w.heap.size (cvals V C) 27 := by rw [hz]; exact (Blk.new w _ _).alloc _
 have hz := h0.kp (hk0.trans hK (fun _ _ h => h))
 have hs := hk0.size
 have far : ∀ {a : Option Addr} {l : List Int}, IntsAt w0 a l → l ≠ [] → ∀ p, a = some p → ¬ (p.block = bo ∨ (Value.slice (some ⟨w.heap.size + 1, 0, none⟩) 3 3).ownBlock = some p.block) := by
  intro a l hi hl p hp
  have := hi.lt hl p hp
  simp [Value.ownBlock]
  omega
 refine ⟨[.slice V.ao C.outs.length V.co, .slice V.ab C.bads.length V.cb, .slice V.ac C.cons.length V.cc], Own.lit (cs := [.slice V.ao C.outs.length V.co, .slice V.ab C.bads.length V.cb, .slice V.ac C.cons.length V.cc]) hB (by omega) (by simp [maxLen]), ⟨rfl, fun k r l hr hl => ?_⟩, fun j hj => by simp [Value.ownBlock] at hj; omega, hC, hK⟩
 match k, hr, hl with
 |0, hr, hl => simp at hr hl; subst hr hl; exact ⟨_, _, rfl, h0.fo.le, h0.fo.most, hz.o, far h0.o⟩
 |1, hr, hl => simp at hr hl; subst hr hl; exact ⟨_, _, rfl, h0.fb.le, h0.fb.most, hz.b, far h0.b⟩
 |2, hr, hl => simp at hr hl; subst hr hl; exact ⟨_, _, rfl, h0.fc.le, h0.fc.most, hz.c, far h0.c⟩
 |n + 3, hr, hl => simp at hr

theorem Gather.kp {V : CV} {C : Circ} {bo : Nat} {w wr wr' : World} {Ls : List (List Int)} {v4 : Value} (h : Gather V C bo w Ls v4 wr) (k : Kp (fun _ => False) wr wr') : Gather V C bo w Ls v4 wr' := by
 obtain ⟨rs, h1, h2, h3, h4, h5⟩ := h
 exact ⟨rs, h1.kp k (fun _ _ h => h), h2.kp k (fun _ h => h.elim), h3, h4.kp k (fun h => h), h5.trans k (fun _ _ h => h)⟩

theorem Gather.more {V : CV} {C : Circ} {bo : Nat} {w wr wr' w2 : World} {Ls : List (List Int)} {v4 v' : Value} {rs : List Value} (hbo : bo < w.heap.size) (h1 : Own wr w.heap.size 22 v4 rs) (h2 : RowsAt (fun j => j = bo ∨ v4.ownBlock = some j) wr rs Ls) (h3 : ∀ j, v4.ownBlock = some j → w.heap.size < j) (h4 : Blk wr w.heap.size (cvals V C) 27) (h5 : Kp (fun _ => False) w wr)
  (hK : Kp (fun _ => False) wr wr') {g n : Nat} {l : List Int} (hg : wr.heap.size ≤ g) (hB : Blk wr' g (l.map (Value.int .i64)).toArray 3) (hn : l.length = n) (hl : n ≤ maxLen)
  (hO : Own w2 w.heap.size 22 v' (rs ++ [.slice (some ⟨g, 0, none⟩) n n])) (hgr : wr'.grownBy w2 v4.ownBlock) (hat : v'.ownBlock = v4.ownBlock ∨ v'.ownBlock = some wr'.heap.size) : Gather V C bo w (Ls ++ [l]) v' w2 := by
 subst hn
 have hKg : Kp (fun j => v4.ownBlock = some j) wr' w2 := (Kp.refl _ _).grown hgr (fun j hj _ => hj)
 have hKw : Kp (fun _ => False) w w2 := (h5.trans hK (fun _ _ h => h)).grown hgr (fun j hj hlt => by have := h3 j hj; omega)
 have hsz := h5.size
 have hsz' := hK.size
 have hlt := hB.lt
 have hb' : Blk w2 g (l.map (Value.int .i64)).toArray 3 := hB.kp hKg (fun e => by have := (h1.lt g e).2; omega)
 have h2' : RowsAt (fun j => j = bo ∨ v4.ownBlock = some j) wr' rs Ls := h2.kp hK (fun _ h => h.elim)
 have h2'' : RowsAt (fun j => j = bo ∨ v4.ownBlock = some j ∨ v'.ownBlock = some j) wr' rs Ls := h2'.mono (fun j hj hx => by
  rcases hx with e | e | e
  ·exact .inl e
  ·exact .inr e
  ·rcases hat with e2 | e2
   ·exact .inr (e2 ▸ e)
   ·rw [e2] at e; simp at e; omega)
 have h2w : RowsAt (fun j => j = bo ∨ v4.ownBlock = some j ∨ v'.ownBlock = some j) w2 rs Ls := h2''.kp hKg (fun j h => .inr (.inl h))
 have h2z : RowsAt (fun j => j = bo ∨ v'.ownBlock = some j) w2 rs Ls := h2w.mono (fun j _ h => by rcases h with e | e; exact .inl e; exact .inr (.inr e))
 refine ⟨_, hO, ?_, ?_, (h4.kp hK (fun h => h)).kp hKg (fun e => by have := h3 _ e; omega), hKw⟩
 ·refine h2z.snoc (Nat.le_refl _) hl (ints_blk hb') (fun p hp => ?_)
  simp at hp
  subst hp
  intro h
  rcases h with e | e
  ·have : g = bo := e
   omega
  ·rcases hat with e2 | e2
   ·rw [e2] at e
    have : g < wr.heap.size := (h1.lt g e).2
    omega
   ·rw [e2] at e
    have : wr'.heap.size = g := by simpa using e
    omega
 ·intro j hj
  rcases hat with e | e
  ·exact h3 j (e ▸ hj)
  ·rw [e] at hj; simp at hj; omega

set_option maxRecDepth 100000 in
set_option maxHeartbeats 4000000 in
theorem circ_uses1 (p q : Value) (V : CV) (C : Circ) (bo : Nat) (f : Int → Bool) (I : World → Bool → Prop) (b0 : Bool) (w0 w : World) (h0 : CAt w0 V C) (hf : CFew C 1000000) (hk0 : Kp (fun _ => False) w0 w) (hbo : w0.heap.size ≤ bo) (hbw : bo < w.heap.size)
  (hI : I w b0) (hIk : ∀ u u' b, Kp (fun _ => False) u u' → I u b → I u' b)
  (hY : ∀ u x b, x ∈ C.used → I u b → Calls Tryz.prog 74 #[.int .i64 x, p, q] u fun e u' => e = .returned (.bool (b && f x)) ∧ I u' (b && f x) ∧ Kp (fun j => j = bo) u u') :
  Calls Tryz.prog 73 #[.agg (cvals V C), .func (Fn.func 74) #[] #[p, q]] w fun e w' => e = .returned (.tuple #[]) ∧ I w' (b0 && C.used.all f) ∧ Kp (fun j => j = bo) w w' := by
 obtain ⟨wz, hwz⟩ : ∃ wz : World, wz = (w.alloc (.cells (cvals V C) 27)).alloc (.cells #[.slice V.ao C.outs.length V.co, .slice V.ab C.bads.length V.cb, .slice V.ac C.cons.length V.cc] 22) := ⟨_, rfl⟩
 have HG := Lib.hid (Gather.start V C bo w0 w wz hwz h0 hk0 hbo hbw)
 have HC1 := Lib.hid (Blk.new w (cvals V C) 27)
 have HS := Lib.hid (show wz.heap.size = w.heap.size + 2 by rw [hwz]; simp)
 have HZ := Lib.hid hwz
 have HA := Lib.hid h0
 have HF := Lib.hid hf
 have HK0 := Lib.hid hk0
 have HBO := Lib.hid (And.intro hbo hbw)
 have HII := Lib.hid (And.intro hI (And.intro hIk hY))
 have HI := Lib.hid (show (Tryz.prog.info? 22).map (fun i => (i.zero, i.size, i.bytes)) = some (some (.slice none 0 0), 1, 24) by kernel_rfl)
 have hl := (h0.fl.le63).1
 have hg := (h0.fg.le63).1
 clear hwz h0 hf hk0 hbo hbw hI hIk hY
 go_enter Tryz.func73, Tryz.ntmps73
 go_upto_region 1 with fail
 obtain ⟨d0, d1, d2, d3, d4, d5, d6, d7, d8⟩ := HC1.out.cells9
 go_upto_region 2 with fail
 rw [← HZ.out]
 clear d0 d1 d2 d3 d4 d5 d6 d7 d8 HC1
 have hG := HG.out
 obtain ⟨rs0, -, -, -, hB0, -⟩ := hG
 have c2 := hB0.cell (i := 2) (v := .slice V.al C.lats.length V.cl) rfl
 clear hB0
 go_wp2_with fail
 go_loopw [4, 23] (fun v4 v23 wr => ∃ k : Nat, v23 = .int .i64 k ∧ k ≤ C.lats.length ∧ Gather V C bo w ([C.outs, C.bads, C.cons] ++ (C.lats.take k).map (fun x => [x.2.1])) v4 wr) (fun _ v23 _ => C.lats.length - (intOf v23).toNat)
 case atStart => exact ⟨0, rfl, by omega, by simpa using HG.out⟩
 case round =>
  obtain ⟨k, rfl, hk, hG⟩ := hrel
  clear c2 HG
  obtain ⟨wp, rfl⟩ : ∃ wp : World, wp = wr := ⟨_, rfl⟩
  have HG := Lib.hid hG
  by_cases hlt : k < C.lats.length
  ·obtain ⟨rs, hO, hR, hB, hC, hK⟩ := hG
   have HSw := Lib.hid (show w.heap.size ≤ wp.heap.size from hK.size)
   have HRL := Lib.hid (show rs.length ≤ 3000000 by have := hR.1; have := HF.out.l; simp at this ⊢; rw [hR.1]; simp; omega)
   obtain ⟨b, off, ea, e0, e1, e2⟩ := tri_cells (HA.out.kp (HK0.out.trans hK (fun _ _ h => h))).l hlt
   have i0 : (0 : Int) ≤ (k : Int) := by omega
   have i1 : decide ((k : Int) < (C.lats.length : Int)) = true := decide_eq_true (by omega)
   obtain ⟨x0, hx0⟩ : ∃ x, (g3 C.lats k).1 = x := ⟨_, rfl⟩
   obtain ⟨x1, hx1⟩ : ∃ x, (g3 C.lats k).2.1 = x := ⟨_, rfl⟩
   obtain ⟨x2, hx2⟩ : ∃ x, (g3 C.lats k).2.2 = x := ⟨_, rfl⟩
   have HT := Lib.hid (take_g3 hlt)
   rw [hx0] at e0
   rw [hx1] at e1
   rw [hx2] at e2
   have HX := Lib.hid hx1
   have HEA := Lib.hid ea
   have i2 : (k : Int) < (C.lats.length : Int) := by omega
   clear hx0 hx1 hx2 ea
   have HNew := Lib.hid (three_blk wp #[.int .i64 x0, .int .i64 x1, .int .i64 x2] #[.int .i64 x1] #[.slice (some ⟨wp.heap.size + 1, 0, none⟩) 1 1] 64 3 22)
   have HOw := Lib.hid (((hO.alloc (.cells #[.int .i64 x0, .int .i64 x1, .int .i64 x2] 64)).alloc (.cells #[.int .i64 x1] 3)).alloc (.cells #[.slice (some ⟨wp.heap.size + 1, 0, none⟩) 1 1] 22))
   have HMore := Lib.hid (fun v' w2 hO2 hgr hat => Gather.more (v' := v') (w2 := w2) (g := wp.heap.size + 1) (n := 1) (l := [x1]) HBO.out.2 hO hR hB hC hK ((((Kp.refl _ wp).alloc (.cells #[.int .i64 x0, .int .i64 x1, .int .i64 x2] 64)).alloc (.cells #[.int .i64 x1] 3)).alloc (.cells #[.slice (some ⟨wp.heap.size + 1, 0, none⟩) 1 1] 22)) (by omega) HNew.out.1 rfl (by simp [maxLen]) hO2 hgr hat)
   clear hO hR hB hC hK
   rw [HEA.out]
   go_wp2_with (at_builtin; refine wpList_append1_at rfl _ _ 39 22 rfl Tryz.underlying39 HI.out rfl HOw.out rfl ⟨wp.heap.size + 2, 0, none⟩ (.slice (some ⟨wp.heap.size + 1, 0, none⟩) 1 1) rfl (HNew.out.2.cell rfl) rfl ?c1 ?c2 ?c3 ?_)
   case c1 => have := HRL.out; omega
   case c2 => have := HRL.out; unfold maxLen; omega
   case c3 => have := HSw.out; simp; omega
   intro v' w2 hO2 hg2 hat2
   have hrel : ∃ k' : Nat, Value.int .i64 ((k : Int) + 1) = .int .i64 k' ∧ k' ≤ C.lats.length ∧ Gather V C bo w ([C.outs, C.bads, C.cons] ++ (C.lats.take k').map (fun x => [x.2.1])) v' w2 := by
    refine ⟨k + 1, by go_num, by omega, ?_⟩
    rw [HT.out, List.map_append, ← List.append_assoc]
    have : [g3 C.lats k].map (fun x => [x.2.1]) = [[x1]] := by simp [HX.out]
    rw [this]
    exact HMore.out v' w2 hO2 hg2 (by simpa using hat2)
   have HR := Lib.hid hrel
   clear hrel hO2 hg2 hat2 HOw HNew HT HMore HG
   go_wp2_with fail
   go_roundw
   case rel => exact HR.out
   case measure => simp [intOf]; omega
  ·have hk' : k = C.lats.length := by omega
   have HG1 : Hid (Gather V C bo w ([C.outs, C.bads, C.cons] ++ C.lats.map (fun x => [x.2.1])) u4 wp) := Lib.hid (by rwa [hk', List.take_length] at hG)
   obtain ⟨rs0, -, -, -, hB0, -⟩ := hG
   have c6 := hB0.cell (i := 6) (v := .slice V.ag C.gates.length V.cg) rfl
   clear HG hk hk' hB0
   go_wp2_with fail
   go_loopw [4, 37] (fun v4 v37 wr => ∃ k : Nat, v37 = .int .i64 k ∧ k ≤ C.gates.length ∧ Gather V C bo w ([C.outs, C.bads, C.cons] ++ C.lats.map (fun x => [x.2.1]) ++ (C.gates.take k).map (fun x => [x.2.1, x.2.2])) v4 wr) (fun _ v37 _ => C.gates.length - (intOf v37).toNat)
   case atStart => exact ⟨0, rfl, by omega, by simpa using HG1.out⟩
   case round =>
    obtain ⟨k, rfl, hk, hG⟩ := hrel
    clear c6 HG1 hlt
    obtain ⟨wq, rfl⟩ : ∃ wp : World, wp = wr := ⟨_, rfl⟩
    have HG := Lib.hid hG
    by_cases hlt : k < C.gates.length
    ·obtain ⟨rs, hO, hR, hB, hC, hK⟩ := hG
     have HSw := Lib.hid (show w.heap.size ≤ wq.heap.size from hK.size)
     have HRL := Lib.hid (show rs.length ≤ 3000000 by have := hR.1; have := HF.out.l; have := HF.out.g; rw [hR.1]; simp; omega)
     obtain ⟨b, off, ea, e0, e1, e2⟩ := tri_cells (HA.out.kp (HK0.out.trans hK (fun _ _ h => h))).g hlt
     have i0 : (0 : Int) ≤ (k : Int) := by omega
     have i1 : decide ((k : Int) < (C.gates.length : Int)) = true := decide_eq_true (by omega)
     obtain ⟨x0, hx0⟩ : ∃ x, (g3 C.gates k).1 = x := ⟨_, rfl⟩
     obtain ⟨x1, hx1⟩ : ∃ x, (g3 C.gates k).2.1 = x := ⟨_, rfl⟩
     obtain ⟨x2, hx2⟩ : ∃ x, (g3 C.gates k).2.2 = x := ⟨_, rfl⟩
     have HT := Lib.hid (take_g3 hlt)
     rw [hx0] at e0
     rw [hx1] at e1
     rw [hx2] at e2
     have HX := Lib.hid (And.intro hx1 hx2)
     have HEA := Lib.hid ea
     have i2 : (k : Int) < (C.gates.length : Int) := by omega
     clear hx0 hx1 hx2 ea
     have HNew := Lib.hid (three_blk wq #[.int .i64 x0, .int .i64 x1, .int .i64 x2] #[.int .i64 x1, .int .i64 x2] #[.slice (some ⟨wq.heap.size + 1, 0, none⟩) 2 2] 95 3 22)
     have HOw := Lib.hid (((hO.alloc (.cells #[.int .i64 x0, .int .i64 x1, .int .i64 x2] 95)).alloc (.cells #[.int .i64 x1, .int .i64 x2] 3)).alloc (.cells #[.slice (some ⟨wq.heap.size + 1, 0, none⟩) 2 2] 22))
     have HMore := Lib.hid (fun v' w2 hO2 hgr hat => Gather.more (v' := v') (w2 := w2) (g := wq.heap.size + 1) (n := 2) (l := [x1, x2]) HBO.out.2 hO hR hB hC hK ((((Kp.refl _ wq).alloc (.cells #[.int .i64 x0, .int .i64 x1, .int .i64 x2] 95)).alloc (.cells #[.int .i64 x1, .int .i64 x2] 3)).alloc (.cells #[.slice (some ⟨wq.heap.size + 1, 0, none⟩) 2 2] 22)) (by omega) HNew.out.1 rfl (by simp [maxLen]) hO2 hgr hat)
     clear hO hR hB hC hK
     rw [HEA.out]
     go_wp2_with (at_builtin; refine wpList_append1_at rfl _ _ 39 22 rfl Tryz.underlying39 HI.out rfl HOw.out rfl ⟨wq.heap.size + 2, 0, none⟩ (.slice (some ⟨wq.heap.size + 1, 0, none⟩) 2 2) rfl (HNew.out.2.cell rfl) rfl ?d1 ?d2 ?d3 ?_)
     case d1 => have := HRL.out; omega
     case d2 => have := HRL.out; unfold maxLen; omega
     case d3 => have := HSw.out; simp; omega
     intro v' w2 hO2 hg2 hat2
     have hrel : ∃ k' : Nat, Value.int .i64 ((k : Int) + 1) = .int .i64 k' ∧ k' ≤ C.gates.length ∧ Gather V C bo w ([C.outs, C.bads, C.cons] ++ C.lats.map (fun x => [x.2.1]) ++ (C.gates.take k').map (fun x => [x.2.1, x.2.2])) v' w2 := by
      refine ⟨k + 1, by go_num, by omega, ?_⟩
      rw [HT.out, List.map_append, ← List.append_assoc]
      have : [g3 C.gates k].map (fun x => [x.2.1, x.2.2]) = [[x1, x2]] := by simp [HX.out.1, HX.out.2]
      rw [this]
      exact HMore.out v' w2 hO2 hg2 (by simpa using hat2)
     have HR := Lib.hid hrel
     clear hrel hO2 hg2 hat2 HOw HNew HT HMore HG
     go_wp2_with fail
     go_roundw
     case rel => exact HR.out
     case measure => simp [intOf]; omega
    ·have hk' : k = C.gates.length := by omega
     have hG1 : Gather V C bo w (usedRows C) u4 wq := by rw [hk', List.take_length] at hG; exact hG
     obtain ⟨rs, hO, hR, hB, hC, hK⟩ := hG1
     obtain ⟨a4, c4, e4, hc4, hm4, hp4, -⟩ := hO.form
     have HO := Lib.hid hO
     have HR := Lib.hid hR
     have hln : rs.length = (usedRows C).length := hR.1
     rw [hln] at e4 hc4
     subst e4
     obtain ⟨n4, hn4⟩ : ∃ n, (usedRows C).length = n := ⟨_, rfl⟩
     have HN4 := Lib.hid hn4
     have HIw := Lib.hid (HII.out.2.1 _ _ _ hK HII.out.1)
     have HKw := Lib.hid hK
     have hn63 : n4 ≤ 9223372036854775807 := by rw [← hn4, usedRows_length]; have := HF.out.l; have := HF.out.g; omega
     have hB4 : ∀ j, (Value.slice a4 n4 c4).ownBlock = some j → j ≠ bo := fun j hj => by
      have := hB j (by rw [hn4]; exact hj)
      have := HBO.out.2
      omega
     have HB4 := Lib.hid hB4
     rw [hn4] at HO HR ⊢
     have HRW := Lib.hid (show ∀ u, Kp (fun j => j = bo) wq u → RowAt u a4 rs from fun u hu => by
      obtain ⟨a, c, e, -, -, hp, hr⟩ := HO.out.form
      simp only [Value.slice.injEq] at e
      obtain ⟨rfl, -, -⟩ := e
      refine hr.kp hu (fun p hp' hb => ?_)
      obtain ⟨g, rfl, -, -⟩ := hp p hp'
      subst hp'
      exact hB4 g rfl hb)
     have HRR := Lib.hid (show ∀ u, Kp (fun j => j = bo) wq u → RowsAt (fun j => j = bo) u rs (usedRows C) from fun u hu => (HR.out.mono (fun j _ h => .inl h)).kp hu (fun _ h => h))
     clear hG hk' hO hR hB hC hK hln hk hp4 hm4 hB4 hn4 hc4 HO HR HB4 HG HA
     go_wp2_with fail
     go_loopw [52] (fun v52 wr => ∃ i : Nat, v52 = .int .i64 i ∧ i ≤ n4 ∧ I wr (b0 && ((usedRows C).take i).flatten.all f) ∧ Kp (fun j => j = bo) wq wr) (fun v52 _ => n4 - (intOf v52).toNat)
     case atStart => exact ⟨0, rfl, by omega, by simpa using HIw.out, Kp.refl _ _⟩
     case round =>
      obtain ⟨i, rfl, hi, hI3, hK3⟩ := hrel
      obtain ⟨w3, rfl⟩ : ∃ w3 : World, w3 = wr := ⟨_, rfl⟩
      have HI3 := Lib.hid hI3
      have HK3 := Lib.hid hK3
      clear hI3 hK3 HIw
      by_cases hi4 : i < n4
      ·have hiU : i < (usedRows C).length := by rw [HN4.out]; exact hi4
       obtain ⟨r, hr⟩ : ∃ r, rs[i]? = some r := ⟨_, List.getElem?_eq_getElem (by rw [(HRR.out _ HK3.out).1]; exact hiU)⟩
       obtain ⟨ai, ci, rfl, hci, hcm, hri, -⟩ := (HRR.out _ HK3.out).2 i r _ hr (grow_at hiU)
       obtain ⟨b, off, ea, hcell⟩ := HRW.out _ HK3.out i _ hr
       have HRI := Lib.hid (show ∀ u, Kp (fun j => j = bo) w3 u → IntsAt u ai (grow (usedRows C) i) from fun u hu => by
        obtain ⟨a2, c2, e2, -, -, h2, -⟩ := (HRR.out u (HK3.out.trans hu (fun _ _ h => h))).2 i _ _ hr (grow_at hiU)
        simp only [Value.slice.injEq] at e2
        rw [e2.1]; exact h2)
       have HIU := Lib.hid hiU
       obtain ⟨ni, hni⟩ : ∃ ni, (grow (usedRows C) i).length = ni := ⟨_, rfl⟩
       rw [hni] at hcell hci
       have HNI := Lib.hid hni
       have hn63i : ni ≤ 9223372036854775807 := by unfold maxLen at hcm; omega
       subst ea
       clear hr hri hci hcm hni hiU
       have i0 : (0 : Int) ≤ (i : Int) := by omega
       have i1 : (i : Int) < (n4 : Int) := by omega
       go_wp2_with fail
       go_loopw [58] (fun v58 w4 => ∃ k : Nat, v58 = .int .i64 k ∧ k ≤ ni ∧ I w4 (b0 && (((usedRows C).take i).flatten ++ (grow (usedRows C) i).take k).all f) ∧ Kp (fun j => j = bo) w3 w4) (fun v58 _ => ni - (intOf v58).toNat)
       case atStart => exact ⟨0, rfl, by omega, by simpa using HI3.out, Kp.refl _ _⟩
       case round =>
        obtain ⟨k, rfl, hk, hI4, hK4⟩ := hrel
        obtain ⟨w4, rfl⟩ : ∃ w4 : World, w4 = wr := ⟨_, rfl⟩
        have HI4 := Lib.hid hI4
        have HK4 := Lib.hid hK4
        clear hI4 hK4 hcell
        by_cases hkl : k < ni
        ·obtain ⟨b, off, e, hcell⟩ := (HRI.out _ HK4.out).get (j := k) (by rw [HNI.out]; exact hkl)
         have HMem := Lib.hid (show gi (grow (usedRows C) i) k ∈ C.used by rw [← usedRows_flat]; exact mem_used HIU.out (by rw [HNI.out]; exact hkl))
         have HAll := Lib.hid (all_take_gi (l := grow (usedRows C) i) (k := k) (by rw [HNI.out]; exact hkl) (((usedRows C).take i).flatten) f)
         have HUF := Lib.hid (used_false (L := usedRows C) (i := i) (k := k) HIU.out (f := f) (b := b0))
         obtain ⟨x, hx⟩ : ∃ x, gi (grow (usedRows C) i) k = x := ⟨_, rfl⟩
         rw [hx] at hcell HMem HAll
         obtain ⟨bb, hbb⟩ : ∃ bb, (b0 && (((usedRows C).take i).flatten ++ (grow (usedRows C) i).take k).all f) = bb := ⟨_, rfl⟩
         have HBB := Lib.hid hbb
         rw [hbb] at HI4
         obtain ⟨b5, hb5⟩ : ∃ b5, (bb && f x) = b5 := ⟨_, rfl⟩
         have HYx := Lib.hid (HII.out.2.2 _ _ _ HMem.out HI4.out)
         rw [hb5] at HYx
         have HB5 := Lib.hid (show (b0 && (((usedRows C).take i).flatten ++ (grow (usedRows C) i).take (k + 1)).all f) = b5 by rw [HAll.out, ← Bool.and_assoc, hbb]; exact hb5)
         have k0 : (0 : Int) ≤ (k : Int) := by omega
         have k1 : (k : Int) < (ni : Int) := by omega
         subst e
         clear hx hbb hb5
         go_wp2_with fail
         refine HYx.out.mono ?_
         rintro o w5 ⟨rfl, hI5, hK5⟩
         have HI5 := Lib.hid hI5
         have HK5 := Lib.hid (HK4.out.trans hK5 (fun _ _ h => h))
         clear hI5 hK5 HYx
         cases b5 with
         |false =>
          go_wp2_with fail
          refine bodyPost_ret (results_none rfl _ _ _) rfl ?_
          exact ⟨rfl, by rw [← usedRows_flat, HUF.out HB5.out]; exact HI5.out, (HKw.out.mono (fun _ _ h => h.elim)).trans (HK3.out.trans HK5.out (fun _ _ h => h)) (fun _ _ h => h)⟩
         |true =>
          go_wp2_with fail
          go_roundw
          case rel => exact ⟨k + 1, by go_num, by omega, by rw [HB5.out]; exact HI5.out, HK5.out⟩
          case measure => simp [intOf]; omega
        ·have HI4' := Lib.hid (show I w4 (b0 && ((usedRows C).take (i + 1)).flatten.all f) by
          have h := HI4.out
          rw [List.take_of_length_le (l := grow (usedRows C) i) (by rw [HNI.out]; omega)] at h
          rwa [take_grow HIU.out])
         go_wp2_with fail
         go_roundw
         case rel => exact ⟨i + 1, by go_num, by omega, HI4'.out, HK3.out.trans HK4.out (fun _ _ h => h)⟩
         case measure => simp [intOf]; omega
      ·have HI3' := Lib.hid (show I w3 (b0 && C.used.all f) by
        have h := HI3.out
        rw [List.take_of_length_le (by rw [HN4.out]; omega), usedRows_flat] at h
        exact h)
       go_wp2_with fail
       go_end0
       exact ⟨rfl, HI3'.out, (HKw.out.mono (fun _ _ h => h.elim)).trans HK3.out (fun _ _ h => h)⟩

set_option maxRecDepth 100000 in
set_option maxHeartbeats 4000000 in
theorem circ_uses2 (p q : Value) (V : CV) (C : Circ) (bo : Nat) (f : Int → Bool) (I : World → Bool → Prop) (b0 : Bool) (w0 w : World) (h0 : CAt w0 V C) (hf : CFew C 1000000) (hk0 : Kp (fun _ => False) w0 w) (hbo : w0.heap.size ≤ bo) (hbw : bo < w.heap.size)
  (hI : I w b0) (hIk : ∀ u u' b, Kp (fun _ => False) u u' → I u b → I u' b)
  (hY : ∀ u x b, x ∈ C.used → I u b → Calls Tryz.prog 75 #[.int .i64 x, p, q] u fun e u' => e = .returned (.bool (b && f x)) ∧ I u' (b && f x) ∧ Kp (fun j => j = bo) u u') :
  Calls Tryz.prog 73 #[.agg (cvals V C), .func (Fn.func 75) #[] #[p, q]] w fun e w' => e = .returned (.tuple #[]) ∧ I w' (b0 && C.used.all f) ∧ Kp (fun j => j = bo) w w' := by
 obtain ⟨wz, hwz⟩ : ∃ wz : World, wz = (w.alloc (.cells (cvals V C) 27)).alloc (.cells #[.slice V.ao C.outs.length V.co, .slice V.ab C.bads.length V.cb, .slice V.ac C.cons.length V.cc] 22) := ⟨_, rfl⟩
 have HG := Lib.hid (Gather.start V C bo w0 w wz hwz h0 hk0 hbo hbw)
 have HC1 := Lib.hid (Blk.new w (cvals V C) 27)
 have HS := Lib.hid (show wz.heap.size = w.heap.size + 2 by rw [hwz]; simp)
 have HZ := Lib.hid hwz
 have HA := Lib.hid h0
 have HF := Lib.hid hf
 have HK0 := Lib.hid hk0
 have HBO := Lib.hid (And.intro hbo hbw)
 have HII := Lib.hid (And.intro hI (And.intro hIk hY))
 have HI := Lib.hid (show (Tryz.prog.info? 22).map (fun i => (i.zero, i.size, i.bytes)) = some (some (.slice none 0 0), 1, 24) by kernel_rfl)
 have hl := (h0.fl.le63).1
 have hg := (h0.fg.le63).1
 clear hwz h0 hf hk0 hbo hbw hI hIk hY
 go_enter Tryz.func73, Tryz.ntmps73
 go_upto_region 1 with fail
 obtain ⟨d0, d1, d2, d3, d4, d5, d6, d7, d8⟩ := HC1.out.cells9
 go_upto_region 2 with fail
 rw [← HZ.out]
 clear d0 d1 d2 d3 d4 d5 d6 d7 d8 HC1
 have hG := HG.out
 obtain ⟨rs0, -, -, -, hB0, -⟩ := hG
 have c2 := hB0.cell (i := 2) (v := .slice V.al C.lats.length V.cl) rfl
 clear hB0
 go_wp2_with fail
 go_loopw [4, 23] (fun v4 v23 wr => ∃ k : Nat, v23 = .int .i64 k ∧ k ≤ C.lats.length ∧ Gather V C bo w ([C.outs, C.bads, C.cons] ++ (C.lats.take k).map (fun x => [x.2.1])) v4 wr) (fun _ v23 _ => C.lats.length - (intOf v23).toNat)
 case atStart => exact ⟨0, rfl, by omega, by simpa using HG.out⟩
 case round =>
  obtain ⟨k, rfl, hk, hG⟩ := hrel
  clear c2 HG
  obtain ⟨wp, rfl⟩ : ∃ wp : World, wp = wr := ⟨_, rfl⟩
  have HG := Lib.hid hG
  by_cases hlt : k < C.lats.length
  ·obtain ⟨rs, hO, hR, hB, hC, hK⟩ := hG
   have HSw := Lib.hid (show w.heap.size ≤ wp.heap.size from hK.size)
   have HRL := Lib.hid (show rs.length ≤ 3000000 by have := hR.1; have := HF.out.l; simp at this ⊢; rw [hR.1]; simp; omega)
   obtain ⟨b, off, ea, e0, e1, e2⟩ := tri_cells (HA.out.kp (HK0.out.trans hK (fun _ _ h => h))).l hlt
   have i0 : (0 : Int) ≤ (k : Int) := by omega
   have i1 : decide ((k : Int) < (C.lats.length : Int)) = true := decide_eq_true (by omega)
   obtain ⟨x0, hx0⟩ : ∃ x, (g3 C.lats k).1 = x := ⟨_, rfl⟩
   obtain ⟨x1, hx1⟩ : ∃ x, (g3 C.lats k).2.1 = x := ⟨_, rfl⟩
   obtain ⟨x2, hx2⟩ : ∃ x, (g3 C.lats k).2.2 = x := ⟨_, rfl⟩
   have HT := Lib.hid (take_g3 hlt)
   rw [hx0] at e0
   rw [hx1] at e1
   rw [hx2] at e2
   have HX := Lib.hid hx1
   have HEA := Lib.hid ea
   have i2 : (k : Int) < (C.lats.length : Int) := by omega
   clear hx0 hx1 hx2 ea
   have HNew := Lib.hid (three_blk wp #[.int .i64 x0, .int .i64 x1, .int .i64 x2] #[.int .i64 x1] #[.slice (some ⟨wp.heap.size + 1, 0, none⟩) 1 1] 64 3 22)
   have HOw := Lib.hid (((hO.alloc (.cells #[.int .i64 x0, .int .i64 x1, .int .i64 x2] 64)).alloc (.cells #[.int .i64 x1] 3)).alloc (.cells #[.slice (some ⟨wp.heap.size + 1, 0, none⟩) 1 1] 22))
   have HMore := Lib.hid (fun v' w2 hO2 hgr hat => Gather.more (v' := v') (w2 := w2) (g := wp.heap.size + 1) (n := 1) (l := [x1]) HBO.out.2 hO hR hB hC hK ((((Kp.refl _ wp).alloc (.cells #[.int .i64 x0, .int .i64 x1, .int .i64 x2] 64)).alloc (.cells #[.int .i64 x1] 3)).alloc (.cells #[.slice (some ⟨wp.heap.size + 1, 0, none⟩) 1 1] 22)) (by omega) HNew.out.1 rfl (by simp [maxLen]) hO2 hgr hat)
   clear hO hR hB hC hK
   rw [HEA.out]
   go_wp2_with (at_builtin; refine wpList_append1_at rfl _ _ 39 22 rfl Tryz.underlying39 HI.out rfl HOw.out rfl ⟨wp.heap.size + 2, 0, none⟩ (.slice (some ⟨wp.heap.size + 1, 0, none⟩) 1 1) rfl (HNew.out.2.cell rfl) rfl ?c1 ?c2 ?c3 ?_)
   case c1 => have := HRL.out; omega
   case c2 => have := HRL.out; unfold maxLen; omega
   case c3 => have := HSw.out; simp; omega
   intro v' w2 hO2 hg2 hat2
   have hrel : ∃ k' : Nat, Value.int .i64 ((k : Int) + 1) = .int .i64 k' ∧ k' ≤ C.lats.length ∧ Gather V C bo w ([C.outs, C.bads, C.cons] ++ (C.lats.take k').map (fun x => [x.2.1])) v' w2 := by
    refine ⟨k + 1, by go_num, by omega, ?_⟩
    rw [HT.out, List.map_append, ← List.append_assoc]
    have : [g3 C.lats k].map (fun x => [x.2.1]) = [[x1]] := by simp [HX.out]
    rw [this]
    exact HMore.out v' w2 hO2 hg2 (by simpa using hat2)
   have HR := Lib.hid hrel
   clear hrel hO2 hg2 hat2 HOw HNew HT HMore HG
   go_wp2_with fail
   go_roundw
   case rel => exact HR.out
   case measure => simp [intOf]; omega
  ·have hk' : k = C.lats.length := by omega
   have HG1 : Hid (Gather V C bo w ([C.outs, C.bads, C.cons] ++ C.lats.map (fun x => [x.2.1])) u4 wp) := Lib.hid (by rwa [hk', List.take_length] at hG)
   obtain ⟨rs0, -, -, -, hB0, -⟩ := hG
   have c6 := hB0.cell (i := 6) (v := .slice V.ag C.gates.length V.cg) rfl
   clear HG hk hk' hB0
   go_wp2_with fail
   go_loopw [4, 37] (fun v4 v37 wr => ∃ k : Nat, v37 = .int .i64 k ∧ k ≤ C.gates.length ∧ Gather V C bo w ([C.outs, C.bads, C.cons] ++ C.lats.map (fun x => [x.2.1]) ++ (C.gates.take k).map (fun x => [x.2.1, x.2.2])) v4 wr) (fun _ v37 _ => C.gates.length - (intOf v37).toNat)
   case atStart => exact ⟨0, rfl, by omega, by simpa using HG1.out⟩
   case round =>
    obtain ⟨k, rfl, hk, hG⟩ := hrel
    clear c6 HG1 hlt
    obtain ⟨wq, rfl⟩ : ∃ wp : World, wp = wr := ⟨_, rfl⟩
    have HG := Lib.hid hG
    by_cases hlt : k < C.gates.length
    ·obtain ⟨rs, hO, hR, hB, hC, hK⟩ := hG
     have HSw := Lib.hid (show w.heap.size ≤ wq.heap.size from hK.size)
     have HRL := Lib.hid (show rs.length ≤ 3000000 by have := hR.1; have := HF.out.l; have := HF.out.g; rw [hR.1]; simp; omega)
     obtain ⟨b, off, ea, e0, e1, e2⟩ := tri_cells (HA.out.kp (HK0.out.trans hK (fun _ _ h => h))).g hlt
     have i0 : (0 : Int) ≤ (k : Int) := by omega
     have i1 : decide ((k : Int) < (C.gates.length : Int)) = true := decide_eq_true (by omega)
     obtain ⟨x0, hx0⟩ : ∃ x, (g3 C.gates k).1 = x := ⟨_, rfl⟩
     obtain ⟨x1, hx1⟩ : ∃ x, (g3 C.gates k).2.1 = x := ⟨_, rfl⟩
     obtain ⟨x2, hx2⟩ : ∃ x, (g3 C.gates k).2.2 = x := ⟨_, rfl⟩
     have HT := Lib.hid (take_g3 hlt)
     rw [hx0] at e0
     rw [hx1] at e1
     rw [hx2] at e2
     have HX := Lib.hid (And.intro hx1 hx2)
     have HEA := Lib.hid ea
     have i2 : (k : Int) < (C.gates.length : Int) := by omega
     clear hx0 hx1 hx2 ea
     have HNew := Lib.hid (three_blk wq #[.int .i64 x0, .int .i64 x1, .int .i64 x2] #[.int .i64 x1, .int .i64 x2] #[.slice (some ⟨wq.heap.size + 1, 0, none⟩) 2 2] 95 3 22)
     have HOw := Lib.hid (((hO.alloc (.cells #[.int .i64 x0, .int .i64 x1, .int .i64 x2] 95)).alloc (.cells #[.int .i64 x1, .int .i64 x2] 3)).alloc (.cells #[.slice (some ⟨wq.heap.size + 1, 0, none⟩) 2 2] 22))
     have HMore := Lib.hid (fun v' w2 hO2 hgr hat => Gather.more (v' := v') (w2 := w2) (g := wq.heap.size + 1) (n := 2) (l := [x1, x2]) HBO.out.2 hO hR hB hC hK ((((Kp.refl _ wq).alloc (.cells #[.int .i64 x0, .int .i64 x1, .int .i64 x2] 95)).alloc (.cells #[.int .i64 x1, .int .i64 x2] 3)).alloc (.cells #[.slice (some ⟨wq.heap.size + 1, 0, none⟩) 2 2] 22)) (by omega) HNew.out.1 rfl (by simp [maxLen]) hO2 hgr hat)
     clear hO hR hB hC hK
     rw [HEA.out]
     go_wp2_with (at_builtin; refine wpList_append1_at rfl _ _ 39 22 rfl Tryz.underlying39 HI.out rfl HOw.out rfl ⟨wq.heap.size + 2, 0, none⟩ (.slice (some ⟨wq.heap.size + 1, 0, none⟩) 2 2) rfl (HNew.out.2.cell rfl) rfl ?d1 ?d2 ?d3 ?_)
     case d1 => have := HRL.out; omega
     case d2 => have := HRL.out; unfold maxLen; omega
     case d3 => have := HSw.out; simp; omega
     intro v' w2 hO2 hg2 hat2
     have hrel : ∃ k' : Nat, Value.int .i64 ((k : Int) + 1) = .int .i64 k' ∧ k' ≤ C.gates.length ∧ Gather V C bo w ([C.outs, C.bads, C.cons] ++ C.lats.map (fun x => [x.2.1]) ++ (C.gates.take k').map (fun x => [x.2.1, x.2.2])) v' w2 := by
      refine ⟨k + 1, by go_num, by omega, ?_⟩
      rw [HT.out, List.map_append, ← List.append_assoc]
      have : [g3 C.gates k].map (fun x => [x.2.1, x.2.2]) = [[x1, x2]] := by simp [HX.out.1, HX.out.2]
      rw [this]
      exact HMore.out v' w2 hO2 hg2 (by simpa using hat2)
     have HR := Lib.hid hrel
     clear hrel hO2 hg2 hat2 HOw HNew HT HMore HG
     go_wp2_with fail
     go_roundw
     case rel => exact HR.out
     case measure => simp [intOf]; omega
    ·have hk' : k = C.gates.length := by omega
     have hG1 : Gather V C bo w (usedRows C) u4 wq := by rw [hk', List.take_length] at hG; exact hG
     obtain ⟨rs, hO, hR, hB, hC, hK⟩ := hG1
     obtain ⟨a4, c4, e4, hc4, hm4, hp4, -⟩ := hO.form
     have HO := Lib.hid hO
     have HR := Lib.hid hR
     have hln : rs.length = (usedRows C).length := hR.1
     rw [hln] at e4 hc4
     subst e4
     obtain ⟨n4, hn4⟩ : ∃ n, (usedRows C).length = n := ⟨_, rfl⟩
     have HN4 := Lib.hid hn4
     have HIw := Lib.hid (HII.out.2.1 _ _ _ hK HII.out.1)
     have HKw := Lib.hid hK
     have hn63 : n4 ≤ 9223372036854775807 := by rw [← hn4, usedRows_length]; have := HF.out.l; have := HF.out.g; omega
     have hB4 : ∀ j, (Value.slice a4 n4 c4).ownBlock = some j → j ≠ bo := fun j hj => by
      have := hB j (by rw [hn4]; exact hj)
      have := HBO.out.2
      omega
     have HB4 := Lib.hid hB4
     rw [hn4] at HO HR ⊢
     have HRW := Lib.hid (show ∀ u, Kp (fun j => j = bo) wq u → RowAt u a4 rs from fun u hu => by
      obtain ⟨a, c, e, -, -, hp, hr⟩ := HO.out.form
      simp only [Value.slice.injEq] at e
      obtain ⟨rfl, -, -⟩ := e
      refine hr.kp hu (fun p hp' hb => ?_)
      obtain ⟨g, rfl, -, -⟩ := hp p hp'
      subst hp'
      exact hB4 g rfl hb)
     have HRR := Lib.hid (show ∀ u, Kp (fun j => j = bo) wq u → RowsAt (fun j => j = bo) u rs (usedRows C) from fun u hu => (HR.out.mono (fun j _ h => .inl h)).kp hu (fun _ h => h))
     clear hG hk' hO hR hB hC hK hln hk hp4 hm4 hB4 hn4 hc4 HO HR HB4 HG HA
     go_wp2_with fail
     go_loopw [52] (fun v52 wr => ∃ i : Nat, v52 = .int .i64 i ∧ i ≤ n4 ∧ I wr (b0 && ((usedRows C).take i).flatten.all f) ∧ Kp (fun j => j = bo) wq wr) (fun v52 _ => n4 - (intOf v52).toNat)
     case atStart => exact ⟨0, rfl, by omega, by simpa using HIw.out, Kp.refl _ _⟩
     case round =>
      obtain ⟨i, rfl, hi, hI3, hK3⟩ := hrel
      obtain ⟨w3, rfl⟩ : ∃ w3 : World, w3 = wr := ⟨_, rfl⟩
      have HI3 := Lib.hid hI3
      have HK3 := Lib.hid hK3
      clear hI3 hK3 HIw
      by_cases hi4 : i < n4
      ·have hiU : i < (usedRows C).length := by rw [HN4.out]; exact hi4
       obtain ⟨r, hr⟩ : ∃ r, rs[i]? = some r := ⟨_, List.getElem?_eq_getElem (by rw [(HRR.out _ HK3.out).1]; exact hiU)⟩
       obtain ⟨ai, ci, rfl, hci, hcm, hri, -⟩ := (HRR.out _ HK3.out).2 i r _ hr (grow_at hiU)
       obtain ⟨b, off, ea, hcell⟩ := HRW.out _ HK3.out i _ hr
       have HRI := Lib.hid (show ∀ u, Kp (fun j => j = bo) w3 u → IntsAt u ai (grow (usedRows C) i) from fun u hu => by
        obtain ⟨a2, c2, e2, -, -, h2, -⟩ := (HRR.out u (HK3.out.trans hu (fun _ _ h => h))).2 i _ _ hr (grow_at hiU)
        simp only [Value.slice.injEq] at e2
        rw [e2.1]; exact h2)
       have HIU := Lib.hid hiU
       obtain ⟨ni, hni⟩ : ∃ ni, (grow (usedRows C) i).length = ni := ⟨_, rfl⟩
       rw [hni] at hcell hci
       have HNI := Lib.hid hni
       have hn63i : ni ≤ 9223372036854775807 := by unfold maxLen at hcm; omega
       subst ea
       clear hr hri hci hcm hni hiU
       have i0 : (0 : Int) ≤ (i : Int) := by omega
       have i1 : (i : Int) < (n4 : Int) := by omega
       go_wp2_with fail
       go_loopw [58] (fun v58 w4 => ∃ k : Nat, v58 = .int .i64 k ∧ k ≤ ni ∧ I w4 (b0 && (((usedRows C).take i).flatten ++ (grow (usedRows C) i).take k).all f) ∧ Kp (fun j => j = bo) w3 w4) (fun v58 _ => ni - (intOf v58).toNat)
       case atStart => exact ⟨0, rfl, by omega, by simpa using HI3.out, Kp.refl _ _⟩
       case round =>
        obtain ⟨k, rfl, hk, hI4, hK4⟩ := hrel
        obtain ⟨w4, rfl⟩ : ∃ w4 : World, w4 = wr := ⟨_, rfl⟩
        have HI4 := Lib.hid hI4
        have HK4 := Lib.hid hK4
        clear hI4 hK4 hcell
        by_cases hkl : k < ni
        ·obtain ⟨b, off, e, hcell⟩ := (HRI.out _ HK4.out).get (j := k) (by rw [HNI.out]; exact hkl)
         have HMem := Lib.hid (show gi (grow (usedRows C) i) k ∈ C.used by rw [← usedRows_flat]; exact mem_used HIU.out (by rw [HNI.out]; exact hkl))
         have HAll := Lib.hid (all_take_gi (l := grow (usedRows C) i) (k := k) (by rw [HNI.out]; exact hkl) (((usedRows C).take i).flatten) f)
         have HUF := Lib.hid (used_false (L := usedRows C) (i := i) (k := k) HIU.out (f := f) (b := b0))
         obtain ⟨x, hx⟩ : ∃ x, gi (grow (usedRows C) i) k = x := ⟨_, rfl⟩
         rw [hx] at hcell HMem HAll
         obtain ⟨bb, hbb⟩ : ∃ bb, (b0 && (((usedRows C).take i).flatten ++ (grow (usedRows C) i).take k).all f) = bb := ⟨_, rfl⟩
         have HBB := Lib.hid hbb
         rw [hbb] at HI4
         obtain ⟨b5, hb5⟩ : ∃ b5, (bb && f x) = b5 := ⟨_, rfl⟩
         have HYx := Lib.hid (HII.out.2.2 _ _ _ HMem.out HI4.out)
         rw [hb5] at HYx
         have HB5 := Lib.hid (show (b0 && (((usedRows C).take i).flatten ++ (grow (usedRows C) i).take (k + 1)).all f) = b5 by rw [HAll.out, ← Bool.and_assoc, hbb]; exact hb5)
         have k0 : (0 : Int) ≤ (k : Int) := by omega
         have k1 : (k : Int) < (ni : Int) := by omega
         subst e
         clear hx hbb hb5
         go_wp2_with fail
         refine HYx.out.mono ?_
         rintro o w5 ⟨rfl, hI5, hK5⟩
         have HI5 := Lib.hid hI5
         have HK5 := Lib.hid (HK4.out.trans hK5 (fun _ _ h => h))
         clear hI5 hK5 HYx
         cases b5 with
         |false =>
          go_wp2_with fail
          refine bodyPost_ret (results_none rfl _ _ _) rfl ?_
          exact ⟨rfl, by rw [← usedRows_flat, HUF.out HB5.out]; exact HI5.out, (HKw.out.mono (fun _ _ h => h.elim)).trans (HK3.out.trans HK5.out (fun _ _ h => h)) (fun _ _ h => h)⟩
         |true =>
          go_wp2_with fail
          go_roundw
          case rel => exact ⟨k + 1, by go_num, by omega, by rw [HB5.out]; exact HI5.out, HK5.out⟩
          case measure => simp [intOf]; omega
        ·have HI4' := Lib.hid (show I w4 (b0 && ((usedRows C).take (i + 1)).flatten.all f) by
          have h := HI4.out
          rw [List.take_of_length_le (l := grow (usedRows C) i) (by rw [HNI.out]; omega)] at h
          rwa [take_grow HIU.out])
         go_wp2_with fail
         go_roundw
         case rel => exact ⟨i + 1, by go_num, by omega, HI4'.out, HK3.out.trans HK4.out (fun _ _ h => h)⟩
         case measure => simp [intOf]; omega
      ·have HI3' := Lib.hid (show I w3 (b0 && C.used.all f) by
        have h := HI3.out
        rw [List.take_of_length_le (by rw [HN4.out]; omega), usedRows_flat] at h
        exact h)
       go_wp2_with fail
       go_end0
       exact ⟨rfl, HI3'.out, (HKw.out.mono (fun _ _ h => h.elim)).trans HK3.out (fun _ _ h => h)⟩

end Go.Proofs.YtnoknecfdnjomaaGreat

/-
  The closures of circ.Check.
-/
namespace Go.Proofs.YtnoknecfdnjomaaGreat
open Go.RowKit

theorem check_f1 (bo bc : Nat) (V : CV) (C : Circ) (u : World) (x : Int) (b : Bool) (hO : Blk u bo #[.bool b] 4) (hC : Blk u bc (cvals V C) 27) (m0 : 0 ≤ C.max) (m1 : C.max ≤ 16777216) :
  Calls Tryz.prog 74 #[.int .i64 x, .pointer (some ⟨bo, 0, none⟩), .pointer (some ⟨bc, 0, none⟩)] u fun e u' => e = .returned (.bool (b && useB C.max x)) ∧ u' = u.setCell ⟨bo, 0, none⟩ (.bool (b && useB C.max x)) := by
 have o0 : u.cell? ⟨bo, 0, none⟩ = some (.bool b) := hO.cell rfl
 have fo := hO.free 0
 have c0 : u.cell? ⟨bc, 0, none⟩ = some (.int .i64 C.max) := hC.cell rfl
 clear hO hC
 obtain ⟨r, hr⟩ : ∃ r, (b && useB C.max x) = r := ⟨_, rfl⟩
 rw [hr]
 have HR := Lib.hid hr
 clear hr
 cases b with
 |false =>
  obtain rfl : r = false := by have := HR.out; simpa using this.symm
  go_enter Tryz.func74, Tryz.ntmps74
  go_wp2_with fail
  go_ret
  exact ⟨rfl, rfl⟩
 |true =>
  by_cases h1 : 0 ≤ x
  ·by_cases h2 : x ≤ 2 * C.max + 1
   ·obtain rfl : r = true := by have := HR.out; rw [← this]; simp [useB, h1, h2]
    go_enter Tryz.func74, Tryz.ntmps74
    go_wp2_with fail
    go_ret
    exact ⟨rfl, rfl⟩
   ·obtain rfl : r = false := by have := HR.out; rw [← this]; simp [useB, h2]
    have d2 : decide (x ≤ 2 * C.max + 1) = false := decide_eq_false h2
    go_enter Tryz.func74, Tryz.ntmps74
    go_wp2_with fail
    go_ret
    exact ⟨rfl, rfl⟩
  ·obtain rfl : r = false := by have := HR.out; rw [← this]; simp [useB, h1]
   have d1 : decide (0 ≤ x) = false := decide_eq_false h1
   go_enter Tryz.func74, Tryz.ntmps74
   go_wp2_with fail
   go_ret
   exact ⟨rfl, rfl⟩

theorem check_f2 (bo bh bm n : Nat) (F : Int → Bool) (u : World) (x : Int) (b : Bool) (hO : Blk u bo #[.bool b] 4) (hH : Blk u bh #[.map (some bm)] 107) (hM : IMB u bm n F) (x0 : 0 ≤ x) (x1 : x ≤ 100000000) :
  Calls Tryz.prog 75 #[.int .i64 x, .pointer (some ⟨bo, 0, none⟩), .pointer (some ⟨bh, 0, none⟩)] u fun e u' => e = .returned (.bool (b && F (x / 2))) ∧ u' = u.setCell ⟨bo, 0, none⟩ (.bool (b && F (x / 2))) := by
 have o0 : u.cell? ⟨bo, 0, none⟩ = some (.bool b) := hO.cell rfl
 have fo := hO.free 0
 have c0 : u.cell? ⟨bh, 0, none⟩ = some (.map (some bm)) := hH.cell rfl
 have hl := hM.look (x := x / 2) ⟨by omega, by omega⟩
 clear hO hH hM
 obtain ⟨f, hf⟩ : ∃ f, F (x / 2) = f := ⟨_, rfl⟩
 rw [hf] at hl ⊢
 clear hf
 cases b with
 |false =>
  go_enter Tryz.func75, Tryz.ntmps75
  go_wp2_with fail
  go_ret
  exact ⟨rfl, rfl⟩
 |true =>
  go_enter Tryz.func75, Tryz.ntmps75
  go_wp2_with fail
  go_ret
  exact ⟨rfl, rfl⟩

end Go.Proofs.YtnoknecfdnjomaaGreat
