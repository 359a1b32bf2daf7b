/-
  step: Inputs, Latches, values.is, values.all.
-/
import Derived.Test.YtnoknecfdnjomaaGreatM4
import Derived.Test.YtnoknecfdnjomaaGreatM1
import Derived.Test.YtnoknecfdnjomaaGreatM3
import Derived.Laws.CopyOwn
import Derived.Test.YtnoknecfdnjomaaGreatM2
set_option linter.unusedVariables false
set_option linter.unusedSimpArgs false
namespace Go.Proofs.YtnoknecfdnjomaaGreat
open Go.RowKit

theorem step_Inputs (V : CV) (C : Circ) (p : Nat) (a4 a5 : Option Addr) (c4 c5 : Nat) (w : World) (hM : MAt w 99 V C p a4 c4 a5 c5) (hf : CFew C 1000000) :
    Calls Tryz.prog 35 #[.pointer (some ⟨p, 0, none⟩)] w fun e w' => e = .returned (.int .i64 (C.ins.length : Int)) ∧ w = w' := by
  obtain ⟨n, hn⟩ : ∃ n, C.ins.length = n := ⟨_, rfl⟩
  have hn1 : n ≤ 1000000 := by have := hf.i; omega
  have hB : w.cell? ⟨p, 1, none⟩ = some (.slice V.ai n V.ci) := hM.blk.cell (i := 1) (by rw [← hn]; rfl)
  rw [hn]
  clear hM hf hn
  go_enter Tryz.func35, Tryz.ntmps35
  go_wp2_with fail
  go_ret
  exact ⟨rfl, rfl⟩

theorem step_Latches (V : CV) (C : Circ) (p : Nat) (a4 a5 : Option Addr) (c4 c5 : Nat) (w : World) (hM : MAt w 99 V C p a4 c4 a5 c5) (hf : CFew C 1000000) :
    Calls Tryz.prog 34 #[.pointer (some ⟨p, 0, none⟩)] w fun e w' => e = .returned (.int .i64 (C.lats.length : Int)) ∧ w = w' := by
  obtain ⟨n, hn⟩ : ∃ n, C.lats.length = n := ⟨_, rfl⟩
  have hn1 : n ≤ 1000000 := by have := hf.l; omega
  have hB : w.cell? ⟨p, 2, none⟩ = some (.slice V.al n V.cl) := hM.blk.cell (i := 2) (by rw [← hn]; rfl)
  rw [hn]
  clear hM hf hn
  go_enter Tryz.func34, Tryz.ntmps34
  go_wp2_with fail
  go_ret
  exact ⟨rfl, rfl⟩

set_option maxRecDepth 100000 in
set_option maxHeartbeats 1000000 in
theorem step_is (va : Option Addr) (vn vc : Nat) (vals : List Bool) (a5 : Option Addr) (n5 c5 : Nat) (at_ : List Int) (l : Int) (w : World) (hv : RowAt w va (bv vals)) (hvn : vals.length = vn) (hv1 : vn ≤ 100000000) (h0 : vb vals 0 = false) (ha : RowAt w a5 (iv at_)) (han : at_.length = n5) (ha1 : n5 ≤ 100000000) (l0 : 0 ≤ l) (lq : (l / 2).toNat < n5) (hx : 0 ≤ gi at_ (l / 2).toNat ∧ gi at_ (l / 2).toNat % 2 = 0 ∧ gi at_ (l / 2).toNat ≤ 1000000000) (hp : 0 ≤ ofN at_ l) (hq : (ofN at_ l / 2).toNat < vn) :
    Calls Tryz.prog 85 #[.agg #[.slice va vn vc, .slice a5 n5 c5], .int .i64 l] w fun e w' => e = .returned (.bool (litN vals (ofN at_ l))) ∧ Kp (fun _ => False) w w' := by
  obtain ⟨wz, hwz⟩ : ∃ wz : World, wz = w.alloc (.cells #[.slice va vn vc, .slice a5 n5 c5] 116) := ⟨_, rfl⟩
  have HK0 := Lib.hid (show Kp (fun _ => False) w wz by rw [hwz]; exact (Kp.refl _ w).alloc _)
  have HBk := Lib.hid (show Blk wz w.heap.size #[.slice va vn vc, .slice a5 n5 c5] 116 by rw [hwz]; exact Blk.new _ _ _)
  obtain ⟨q, hqq⟩ : ∃ q : Nat, (l / 2).toNat = q := ⟨_, rfl⟩
  have hd : l / 2 = (q : Int) := by omega
  have hld : l.tdiv 2 = (q : Int) := by rw [Int.tdiv_eq_ediv_of_nonneg l0]; exact hd
  have hl9 : l ≤ 200000002 := by omega
  have hand : bits .and .i64 l 1 = l % 2 := i64_and1 l l0 (by omega)
  have hz : ofN at_ l = gi at_ q + l % 2 := by unfold ofN; rw [hqq]; rw [hqq] at hx; split <;> omega
  rw [hqq] at lq hx
  obtain ⟨b, off, rfl, e0⟩ := ha q _ (iv_at (by omega))
  obtain ⟨y, hy⟩ : ∃ y, gi at_ q = y := ⟨_, rfl⟩
  rw [hy] at e0 hx hz
  have hxor : bits .xor .i64 y (l % 2) = ofN at_ l := by rw [i64_xor1 y l hx.1 hx.2.1 hx.2.2, hz]
  obtain ⟨z, hzz⟩ : ∃ z, ofN at_ l = z := ⟨_, rfl⟩
  rw [hzz] at hp hq hxor ⊢
  have HL := Lib.hid (fun u (hu : Kp (fun _ => False) w u) => sim_Lit va vn vc vals z u (hv.kp hu (fun _ _ h => h)) hvn hv1 h0 hp hq)
  have q0 : (0 : Int) ≤ (q : Int) := by omega
  have q1 : (q : Int) < (n5 : Int) := by omega
  have y0 := hx.1
  have y2 := hx.2.2
  have HZ := Lib.hid hwz
  have HE0 := Lib.hid e0
  clear hv hvn ha han hqq hx hy hz hzz hwz e0
  obtain ⟨F, hF1, hF2⟩ := still_class wz
  have HF1 := Lib.hid hF1
  have HF2 := Lib.hid hF2
  clear hF1 hF2
  have m0 : ∀ y, (F y).cell? ⟨w.heap.size, 0, none⟩ = some (.slice va vn vc) := fun y => (HBk.out.kp (HF1.out y) (fun h => h)).cell rfl
  have m1 : ∀ y, (F y).cell? ⟨w.heap.size, 1, none⟩ = some (.slice (some ⟨b, off, none⟩) n5 c5) := fun y => (HBk.out.kp (HF1.out y) (fun h => h)).cell rfl
  have m2 := fun y => (HF1.out y).cellK (HK0.out.cellK HE0.out)
  have HW := Lib.hid (fun y => (HL.out (F y) (HK0.out.trans (HF1.out y) (fun _ _ h => h))).mono (R' := fun e w' => e = .returned (.bool (litN vals z)) ∧ Kp (fun _ => False) (F y) w') (fun e w' ⟨h1, h2⟩ => ⟨h1, h2 ▸ Kp.refl _ _⟩))
  go_enter Tryz.func85, Tryz.ntmps85
  go_upto_region 1 with fail
  rw [← HZ.out]
  clear HZ
  refine wp_region_kept (by kernel_rfl) (by kernel_rfl) HF2.out ?_
  repeat (go_big_quiet_step (with_reducible first | exact Calls.still_of HF1.out HF2.out (HW.out _)))
  refine wpQuiet_nil ?_
  rintro wB ⟨y, rfl⟩
  have HE := Lib.hid (HK0.out.trans (HF1.out y) (fun _ _ h => h))
  clear m0 m1 m2
  go_wp2_with fail
  go_ret
  exact ⟨rfl, HE.out⟩

end Go.Proofs.YtnoknecfdnjomaaGreat

/-
  latchetref17.number; explore's state and input.
-/
namespace Go.Proofs.YtnoknecfdnjomaaGreat
open Go.RowKit

end Go.Proofs.YtnoknecfdnjomaaGreat

/-
  What a state does by itself: the states behind it, and an input that leads to each. No program in sight.
-/
namespace Go.Proofs.YtnoknecfdnjomaaGreat
open Go.RowKit

/-- the first of k inputs that is good and leads to u -/
def succK (H : Nat → Bool) (X : Nat → Nat) : Nat → Int → Option Int
  | 0, _ => none
  | k + 1, u => if (succK H X k u).isSome = true then succK H X k u else if H k = true ∧ (X k : Int) = u then some (k : Int) else none
/-- the first of k inputs that is good and bad -/
def badK (H B : Nat → Bool) : Nat → Int
  | 0 => -1
  | k + 1 => if badK H B k = -1 ∧ H k = true ∧ B k = true then (k : Int) else badK H B k
theorem succK_skip {H : Nat → Bool} {X : Nat → Nat} {k : Nat} (h : H k = false) : succK H X (k + 1) = succK H X k := by
  funext u
  show (if _ then _ else if H k = true ∧ (X k : Int) = u then _ else none) = _
  rw [if_neg (show ¬ (H k = true ∧ (X k : Int) = u) from fun q => by rw [h] at q; cases q.1)]
  cases e : succK H X k u <;> simp
theorem succK_there {H : Nat → Bool} {X : Nat → Nat} {k : Nat} (h : (succK H X k (X k)).isSome = true) : succK H X (k + 1) = succK H X k := by
  funext u
  show (if _ then _ else if H k = true ∧ (X k : Int) = u then _ else none) = _
  by_cases e : (succK H X k u).isSome = true
  · rw [if_pos e]
  · rw [if_neg e, if_neg (show ¬ (H k = true ∧ (X k : Int) = u) from fun q => e (by rw [← q.2]; exact h))]
    cases e2 : succK H X k u with
    | none => rfl
    | some x => rw [e2] at e; exact absurd rfl e
theorem succK_put {H : Nat → Bool} {X : Nat → Nat} {k : Nat} (hH : H k = true) (h : (succK H X k (X k)).isSome = false) : succK H X (k + 1) = fun u => if u = (X k : Int) then some (k : Int) else succK H X k u := by
  funext u
  show (if _ then _ else if H k = true ∧ (X k : Int) = u then _ else none) = _
  by_cases e : u = (X k : Int)
  · subst e
    rw [if_neg (by rw [h]; decide), if_pos ⟨hH, rfl⟩, if_pos rfl]
  · rw [if_neg (show ¬ (H k = true ∧ (X k : Int) = u) from fun q => e q.2.symm), if_neg e]
    cases e2 : succK H X k u <;> simp
theorem succK_some {H : Nat → Bool} {X : Nat → Nat} : ∀ {k : Nat} {u i : Int}, succK H X k u = some i → ∃ j : Nat, i = (j : Int) ∧ j < k ∧ H j = true ∧ (X j : Int) = u
  | 0, _, _, h => by cases h
  | k + 1, u, i, h => by
    have h2 : (if (succK H X k u).isSome = true then succK H X k u else if H k = true ∧ (X k : Int) = u then some (k : Int) else none) = some i := h
    split at h2
    · obtain ⟨j, h3, h4, h5⟩ := succK_some h2
      exact ⟨j, h3, by omega, h5⟩
    · split at h2
      · rename_i q
        cases h2
        exact ⟨k, rfl, Nat.lt_succ_self k, q⟩
      · cases h2
theorem badK_cases {H B : Nat → Bool} : ∀ k, (badK H B k = -1 ∧ ∀ j, j < k → ¬ (H j = true ∧ B j = true)) ∨ ∃ j : Nat, badK H B k = (j : Int) ∧ j < k ∧ H j = true ∧ B j = true
  | 0 => .inl ⟨rfl, fun j hj => absurd hj (Nat.not_lt_zero j)⟩
  | k + 1 => by
    unfold badK
    rcases badK_cases (H := H) (B := B) k with ⟨h1, h2⟩ | ⟨j, h1, h2, h3⟩
    · by_cases q : H k = true ∧ B k = true
      · rw [if_pos ⟨h1, q⟩]
        exact .inr ⟨k, rfl, Nat.lt_succ_self k, q⟩
      · rw [if_neg (fun z => q z.2)]
        refine .inl ⟨h1, fun j hj => ?_⟩
        by_cases e : j = k
        · rw [e]; exact q
        · exact h2 j (by omega)
    · rw [if_neg (fun z => by rw [h1] at z; omega)]
      exact .inr ⟨j, h1, by omega, h3⟩

/-- a state, an input, by numbers -/
def stN (C : Circ) (t : Nat) : List Bool := bitsP t C.lats.length
def inN2 (C : Circ) (i : Nat) : List Bool := bitsP i C.ins.length
def hldN (C : Circ) (t i : Nat) : Bool := holdsM C (stN C t) (inN2 C i)
def nxtN (C : Circ) (t i : Nat) : Nat := numP (nextM C (stN C t) (inN2 C i))
def bdN (C : Circ) (p : Int) (t i : Nat) : Bool := badM C (stN C t) (inN2 C i) p
/-- the states behind t -/
def rowF2 (C : Circ) (t : Nat) : Int → Option Int := succK (hldN C t) (nxtN C t) (2 ^ C.ins.length)
def rowB (C : Circ) (p : Int) (t : Nat) : Int := badK (hldN C t) (bdN C p t) (2 ^ C.ins.length)

end Go.Proofs.YtnoknecfdnjomaaGreat

/-
  explore: the bits of a state, and of an input.
-/
namespace Go.Proofs.YtnoknecfdnjomaaGreat
open Go.RowKit

set_option maxRecDepth 100000 in
theorem ex_state {V : CV} {C : Circ} {p sp : Nat} {a4 a5 : Option Addr} {c4 c5 : Nat} {w : World} (hM : MAt w 99 V C p a4 c4 a5 c5) (hf : CFew C 1000000) (hs : w.cell? ⟨sp, 0, none⟩ = some (.pointer (some ⟨p, 0, none⟩))) (hl : C.lats.length ≤ 10) (n : Nat) (hn : n < 2 ^ C.lats.length) :
    Calls Tryz.prog 52 #[.pointer (some ⟨sp, 0, none⟩), .int .i64 n] w fun e w' => ∃ v, e = .returned v ∧ Own w' w.heap.size 4 v (bv (stN C n)) ∧ Kp (fun _ => False) w w' := by
  have HL := Lib.hid (step_Latches V C p a4 a5 c4 c5 w hM hf)
  have HB := Lib.hid (ex_bits n C.lats.length hn (by omega) w)
  have e : stN C n = bitsP n C.lats.length := rfl
  rw [← e] at HB
  obtain ⟨m, hm⟩ : ∃ m, C.lats.length = m := ⟨_, rfl⟩
  rw [hm] at HL HB
  clear hM hf hl hn hm e
  go_enter Tryz.func52, Tryz.ntmps52
  go_wp2_with (first
    | (go_at_call 34; refine HL.out.mono ?_; rintro e w' ⟨rfl, rfl⟩)
    | (go_at_call 70; refine HB.out.mono ?_; rintro e w' ⟨v, rfl, hO, hK⟩; have HO := Lib.hid hO; have HK := Lib.hid hK; clear hO hK))
  go_ret
  exact ⟨_, rfl, HO.out, HK.out⟩

set_option maxRecDepth 100000 in
theorem ex_input {V : CV} {C : Circ} {p sp : Nat} {a4 a5 : Option Addr} {c4 c5 : Nat} {w : World} (hM : MAt w 99 V C p a4 c4 a5 c5) (hf : CFew C 1000000) (hs : w.cell? ⟨sp, 0, none⟩ = some (.pointer (some ⟨p, 0, none⟩))) (hl : C.ins.length ≤ 8) (n : Nat) (hn : n < 2 ^ C.ins.length) :
    Calls Tryz.prog 53 #[.pointer (some ⟨sp, 0, none⟩), .int .i64 n] w fun e w' => ∃ v, e = .returned v ∧ Own w' w.heap.size 4 v (bv (inN2 C n)) ∧ Kp (fun _ => False) w w' := by
  have HL := Lib.hid (step_Inputs V C p a4 a5 c4 c5 w hM hf)
  have HB := Lib.hid (ex_bits n C.ins.length hn (by omega) w)
  have e : inN2 C n = bitsP n C.ins.length := rfl
  rw [← e] at HB
  obtain ⟨m, hm⟩ : ∃ m, C.ins.length = m := ⟨_, rfl⟩
  rw [hm] at HL HB
  clear hM hf hl hn hm e
  go_enter Tryz.func53, Tryz.ntmps53
  go_wp2_with (first
    | (go_at_call 35; refine HL.out.mono ?_; rintro e w' ⟨rfl, rfl⟩)
    | (go_at_call 70; refine HB.out.mono ?_; rintro e w' ⟨v, rfl, hO, hK⟩; have HO := Lib.hid hO; have HK := Lib.hid hK; clear hO hK))
  go_ret
  exact ⟨_, rfl, HO.out, HK.out⟩

end Go.Proofs.YtnoknecfdnjomaaGreat

/-
  step: values.all; the literals of a moment.
-/
namespace Go.Proofs.YtnoknecfdnjomaaGreat
open Go.RowKit

theorem valsK_head {N : List (Int × Int)} {ins : List Bool} : ∀ k, k ≤ N.length → vb (valsK N ins k).1 0 = false
  | 0, _ => rfl
  | k + 1, h => by
    have ih := valsK_head (N := N) (ins := ins) k (by omega)
    have hl := valsK_len (N := N) (ins := ins) k (by omega)
    rw [valsK_succ (by omega)]
    unfold vb at ih ⊢
    unfold stepV
    split
    · show ((valsK N ins k).1 ++ _)[0]?.getD false = false
      rw [List.getElem?_append_left (by omega)]; exact ih
    · show ((valsK N ins k).1 ++ _)[0]?.getD false = false
      rw [List.getElem?_append_left (by omega)]; exact ih

theorem net_few {C : Circ} (hf : CFew C 1000000) (hg : GoodC C) : (netOf C).1.length ≤ 3000000 ∧ (netOf C).2.length ≤ 20000000 := by
  have hnl := nodes_len C
  have hol := (ordO_at C.gates).len
  have hfi := hf.i
  have hfl := hf.l
  have hfg := hf.g
  refine ⟨by omega, ?_⟩
  have h1 := (netG_inv hg (ordO C.gates).length (Nat.le_refl _)).size
  have h2 := hg.mx
  have h3 := hg.rng.max1
  show (netG C _).2.length ≤ _
  omega

/-- a literal of a moment -/
theorem step_lit {C : Circ} {a5 : Option Addr} {c5 : Nat} {va : Option Addr} {vc : Nat} {st ip : List Bool} {w : World} (hf : CFew C 1000000) (hg : GoodC C) (ha : RowAt w a5 (iv (netOf C).2)) (hv : RowAt w va (bv (valsM C st ip))) :
    ∀ u, Kp (fun _ => False) w u → ∀ l, l ∈ C.used → Calls Tryz.prog 85 #[.agg #[.slice va ((netOf C).1.length + 1) vc, .slice a5 (netOf C).2.length c5], .int .i64 l] u fun e w' => e = .returned (.bool (litM C st ip l)) ∧ Kp (fun _ => False) u w' := fun u hu l hl => by
  obtain ⟨l0, lq, ly0, ly1, ly2, lo0, lo1⟩ := lit_place hg hl
  obtain ⟨h4, h5⟩ := net_few hf hg
  exact step_is va _ vc (valsM C st ip) a5 _ c5 (netOf C).2 l u (hv.kp hu (fun _ _ h => h)) (valsOf_len _ _) (by omega) (valsK_head _ (Nat.le_refl _)) (ha.kp hu (fun _ _ h => h)) rfl (by omega) l0 lq ⟨ly0, ly1, by omega⟩ lo0 (by omega)

set_option maxRecDepth 100000 in
set_option maxHeartbeats 2000000 in
theorem step_all (vs : Array Value) (x0 x1 : Value) (hvs : vs = #[x0, x1]) (la : Option Addr) (ln lc : Nat) (L : List Int) (f : Int → Bool) (w : World) (hL : IntsAt w la L) (hln : L.length = ln) (hl1 : ln ≤ 1000000) (hx0 : x0.oneCell' = true) (hx1 : x1.oneCell' = true)
    (his : ∀ u, Kp (fun _ => False) w u → ∀ l, l ∈ L → Calls Tryz.prog 85 #[.agg vs, .int .i64 l] u fun e w' => e = .returned (.bool (f l)) ∧ Kp (fun _ => False) u w') (sa sb : Option Addr) (m0 d0 m1 d1 : Nat) (e0 : x0 = .slice sa m0 d0) (e1 : x1 = .slice sb m1 d1) :
    Calls Tryz.prog 84 #[.agg vs, .slice la ln lc] w fun e w' => e = .returned (.bool (L.all f)) ∧ Kp (fun _ => False) w w' := by
  subst hvs e0 e1
  obtain ⟨wz, hwz⟩ : ∃ wz : World, wz = w.alloc (.cells #[.slice sa m0 d0, .slice sb m1 d1] 116) := ⟨_, rfl⟩
  have HK0 := Lib.hid (show Kp (fun _ => False) w wz by rw [hwz]; exact (Kp.refl _ w).alloc _)
  have HBk := Lib.hid (show Blk wz w.heap.size #[.slice sa m0 d0, .slice sb m1 d1] 116 by rw [hwz]; exact Blk.new _ _ _)
  have HZ := Lib.hid hwz
  have HL := Lib.hid hL
  have HLn := Lib.hid hln
  have HIs := Lib.hid his
  clear hL hln his hwz hx0 hx1
  go_enter Tryz.func84, Tryz.ntmps84
  go_upto_region 1 with fail
  rw [← HZ.out]
  clear HZ
  go_wp2_with fail
  go_loopw [9] (fun v9 wr => ∃ k : Nat, v9 = .int .i64 k ∧ k ≤ ln ∧ (L.take k).all f = true ∧ Kp (fun _ => False) wz wr) (fun v9 _ => ln - (intOf v9).toNat)
  case atStart => exact ⟨0, rfl, by omega, rfl, Kp.refl _ _⟩
  case round =>
    obtain ⟨k, rfl, hk, hall, hK⟩ := hrel
    obtain ⟨wp, rfl⟩ : ∃ wp : World, wp = wr := ⟨_, rfl⟩
    have HK := Lib.hid hK
    have HKw := Lib.hid (HK0.out.trans hK (fun _ _ h => h))
    have b0 := (HBk.out.kp hK (fun h => h)).cell (i := 0) (v := .slice sa m0 d0) rfl
    have b1 := (HBk.out.kp hK (fun h => h)).cell (i := 1) (v := .slice sb m1 d1) rfl
    clear hK
    by_cases hlt : k < ln
    · have hkl : k < L.length := by rw [HLn.out]; exact hlt
      obtain ⟨b, off, rfl, e0⟩ := IntsAt.get (RowAt.kp HL.out HKw.out (fun _ _ h => h)) hkl
      have hc := HIs.out _ HKw.out _ (gi_mem hkl)
      have hS : (L.take (k + 1)).all f = f (gi L k) := by rw [take_gi hkl, List.all_append, hall]; simp
      have hF : f (gi L k) = false → L.all f = false := fun h => by
        rw [List.all_eq_false]
        exact ⟨_, gi_mem hkl, by rw [h]; simp⟩
      obtain ⟨x, hx⟩ : ∃ x, gi L k = x := ⟨_, rfl⟩
      rw [hx] at e0 hc hS hF
      obtain ⟨y, hy⟩ : ∃ y, f x = y := ⟨_, rfl⟩
      rw [hy] at hc hS hF
      have HC := Lib.hid hc
      have HS := Lib.hid hS
      have HFl := Lib.hid hF
      have i0 : (0 : Int) ≤ (k : Int) := by omega
      have i2 : (k : Int) < (ln : Int) := by omega
      clear hx hy hc hS hF hkl hall
      cases y with
      | true =>
        go_wp2_with (go_at_call 85; with_reducible refine Calls.mono HC.out ?_; rintro e w1 ⟨rfl, hK1⟩; have HK1 := Lib.hid (HK.out.trans hK1 (fun _ _ h => h)); clear hK1)
        go_roundw
        case rel => exact ⟨k + 1, by go_num, by omega, HS.out, HK1.out⟩
        case measure => simp [intOf]; omega
      | false =>
        go_wp2_with (go_at_call 85; with_reducible refine Calls.mono HC.out ?_; rintro e w1 ⟨rfl, hK1⟩; have HK1 := Lib.hid (HK.out.trans hK1 (fun _ _ h => h)); clear hK1)
        go_ret
        exact ⟨by rw [HFl.out (by simp)]; rfl, HK0.out.trans HK1.out (fun _ _ h => h)⟩
    · obtain rfl : k = ln := by omega
      have HE := Lib.hid (show L.all f = true from by rw [List.take_of_length_le (by rw [HLn.out]; exact Nat.le_refl _)] at hall; exact hall)
      clear hall
      go_wp2_with fail
      go_ret
      exact ⟨by rw [HE.out]; rfl, HKw.out⟩

end Go.Proofs.YtnoknecfdnjomaaGreat

/-
  step.brought.
-/
namespace Go.Proofs.YtnoknecfdnjomaaGreat
open Go.RowKit

theorem brought_take (l : List Bool) (m : Nat) : brought l m = l.take (Nat.min l.length m) ++ List.replicate (m - Nat.min l.length m) false := by
  have hmin : Nat.min l.length m ≤ l.length ∧ Nat.min l.length m ≤ m ∧ (Nat.min l.length m = l.length ∨ Nat.min l.length m = m) := by
    simp only [Nat.min_def]; split <;> omega
  apply List.ext_getElem?
  intro i
  unfold brought
  rw [List.getElem?_map]
  by_cases hi : i < m
  · rw [List.getElem?_range hi]
    show some (vb l i) = _
    by_cases h2 : i < Nat.min l.length m
    · rw [List.getElem?_append_left (by simp; omega), List.getElem?_take, if_pos h2]
      unfold vb
      rw [List.getElem?_eq_getElem (by omega)]; rfl
    · have hlen : (l.take (Nat.min l.length m)).length = Nat.min l.length m := by rw [List.length_take]; omega
      rw [List.getElem?_append_right (by omega), hlen, List.getElem?_replicate, if_pos (by omega)]
      rw [vb_far (by omega)]
  · rw [List.getElem?_eq_none (by simp; omega)]
    rw [List.getElem?_eq_none (by simp; omega)]; rfl

theorem splice_bools (l : List Bool) (m : Nat) : splice (bv (List.replicate m false)) 0 (bv (l.take (Nat.min l.length m))) = bv (brought l m) := by
  have hmin : Nat.min l.length m ≤ l.length ∧ Nat.min l.length m ≤ m := by
    simp only [Nat.min_def]; split <;> omega
  rw [brought_take]
  unfold splice
  have hlen : (bv (l.take (Nat.min l.length m))).length = Nat.min l.length m := by rw [bv_length, List.length_take]; omega
  rw [List.take_zero, List.nil_append, hlen, Nat.zero_add, bv_append]
  congr 1
  unfold bv
  rw [← List.map_drop, List.drop_replicate]

set_option maxRecDepth 100000 in
theorem step_brought (a : Option Addr) (n c : Nat) (l : List Bool) (m : Nat) (w : World) (hr : RowAt w a (bv l)) (hn : l.length = n) (hm : n ≤ 100000000) (hmm : m ≤ 10000000) :
    Calls Tryz.prog 95 #[.slice a n c, .int .i64 m] w fun e w' => ∃ v, e = .returned v ∧ Own w' w.heap.size 4 v (bv (brought l m)) ∧ Kp (fun _ => False) w w' := by
  obtain ⟨i0, hi0, hz0, hz1, hz2⟩ := info_parts (show (Tryz.prog.info? 4).map (fun i => (i.zero, i.size, i.bytes)) = some (some (.bool false), 1, 1) by kernel_rfl)
  have hsz := Lib.hid (show (Tryz.prog.info? 4).map (·.size) = some 1 by kernel_rfl)
  have hmk : ∀ u : World, (Instr.makeSlice 38 (.int .i64 (m : Int)) (.int .i64 (m : Int))).run Tryz.prog u =
      .ok (.slice (some ⟨u.heap.size, 0, none⟩) m m) (u.alloc (.cells (madeCells #[.bool false] m) 4)) := fun u => by
    have h := run_make (P := Tryz.prog) u 38 4 i0 (.bool false) Tryz.underlying38 hi0 hz0 .i64 .i64 (m : Int) (m : Int) (by omega) (Int.le_refl _) (by rw [hz2]; omega) (by omega)
    simpa [hz1, Value.cells] using h
  clear hi0 hz0 hz1 hz2 i0
  obtain ⟨wz, hwz⟩ : ∃ wz : World, wz = w.alloc (.cells (madeCells #[.bool false] m) 4) := ⟨_, rfl⟩
  have HK0 := Lib.hid (show Kp (fun _ => False) w wz by rw [hwz]; exact (Kp.refl _ w).alloc _)
  have HB := Lib.hid (show Blk wz w.heap.size (bv (List.replicate m false)).toArray 4 by rw [hwz, bv_rep, ← made_row]; exact Blk.new _ _ _)
  have HBw := Lib.hid (show Below w.heap.size w wz by rw [hwz]; exact ⟨rfl, rfl, rfl, by simp, fun j hj => Below.heap_alloc w _ j hj⟩)
  obtain ⟨cs, hcs⟩ : ∃ cs, cs = bv (l.take (Nat.min l.length m)) := ⟨_, rfl⟩
  have hmin : Nat.min l.length m ≤ l.length ∧ Nat.min l.length m ≤ m := by
    simp only [Nat.min_def]; split <;> omega
  have hcl : cs.length = Nat.min n m := by rw [hcs, bv_length, ← hn, List.length_take]; omega
  have HCs := Lib.hid hcs
  have HCl := Lib.hid hcl
  have HR := Lib.hid (show RowAt wz a cs from by
    rw [hcs]
    unfold bv
    rw [List.map_take]
    exact (hr.kp HK0.out (fun _ _ h => h)).take _)
  have HOne := Lib.hid (show ∀ v ∈ cs, v.oneCell' = true from by rw [hcs]; exact bv_one _)
  have HLe := Lib.hid (show cs.length ≤ m by rw [hcl, ← hn]; exact hmin.2)
  have HZ := Lib.hid hwz
  clear hr hwz hcs hcl hmin
  go_enter Tryz.func95, Tryz.ntmps95
  go_upto_region 2 with fail
  rw [← HZ.out]
  clear HZ hmk
  go_wp2_with (refine wpList_copy_splice rfl (.tmp 8) (.tmp 9) 38 38 rfl 4 Tryz.underlying38 hsz.out (some ⟨w.heap.size, 0, none⟩) a m m n c rfl rfl w.heap.size 0 (bv (List.replicate m false)) 4 HB.out cs HCl.out ?p1 ?p2 HOne.out w.heap.size w HBw.out (Nat.le_refl _) ?_)
  case p1 =>
    intro h0
    try refine ⟨rfl, ?_⟩
    obtain ⟨b, off, ea, -⟩ := HR.out 0 cs[0] (List.getElem?_eq_getElem h0)
    refine ⟨⟨b, off, none⟩, ea, fun j v hj => ?_⟩
    obtain ⟨b', off', ea', e⟩ := HR.out j v hj
    rw [ea] at ea'
    simp only [Option.some.injEq, Addr.mk.injEq, and_true] at ea'
    obtain ⟨rfl, rfl⟩ := ea'
    rw [add_plain']
    exact e
  case p2 => rw [bv_length]; simp; exact HLe.out
  intro w2 hB2 hBe
  have HE := Lib.hid (show Own w2 w.heap.size 4 (.slice (some ⟨w.heap.size, 0, none⟩) m m) (bv (brought l m)) ∧ Kp (fun _ => False) w w2 from by
    refine ⟨?_, Kp.of_below hBe _⟩
    have h1 : Blk w2 w.heap.size (splice (bv (List.replicate m false)) 0 cs).toArray 4 := hB2.out
    rw [HCs.out, splice_bools] at h1
    have hl : (bv (brought l m)).length = m := by rw [bv_length, brought_len]
    have := Own.lit (base := w.heap.size) h1 (Nat.le_refl _) (by rw [hl]; unfold maxLen; omega)
    rw [hl] at this
    exact this)
  clear hB2 hBe
  go_wp2_with fail
  go_ret
  exact ⟨_, rfl, HE.out⟩

end Go.Proofs.YtnoknecfdnjomaaGreat

/-
  step.Machine.in.
-/
namespace Go.Proofs.YtnoknecfdnjomaaGreat
open Go.RowKit

set_option maxRecDepth 100000 in
set_option maxHeartbeats 4000000 in
theorem step_in (V : CV) (C : Circ) (p : Nat) (a4 a5 : Option Addr) (c4 c5 : Nat) (sa : Option Addr) (sn sc : Nat) (ia : Option Addr) (in_ ic : Nat) (st ip : List Bool) (w : World) (hM : MAt w 99 V C p a4 c4 a5 c5) (hf : CFew C 1000000) (hg : GoodC C) (hs : BS w sa sn st) (hi : BS w ia in_ ip) :
    Calls Tryz.prog 83 #[.pointer (some ⟨p, 0, none⟩), .slice sa sn sc, .slice ia in_ ic] w fun e w' => (∃ va vc, e = .returned (.agg #[.pointer (some ⟨p, 0, none⟩), .slice va ((netOf C).1.length + 1) vc, .slice a5 (netOf C).2.length c5]) ∧ RowAt w' va (bv (valsM C st ip))) ∧ Kp (fun _ => False) w w' := by
  have HIb := Lib.hid (show (Tryz.prog.info? 4).map (fun i => (i.zero, i.size, i.bytes)) = some (some (.bool false), 1, 1) by kernel_rfl)
  have HNf := Lib.hid (net_few hf hg)
  have HM := Lib.hid hM
  have HF := Lib.hid hf
  have HG := Lib.hid hg
  have HS := Lib.hid hs
  have HI := Lib.hid hi
  have hfi := hf.i
  have hfl := hf.l
  obtain ⟨wz, hwz⟩ : ∃ wz : World, wz = w.alloc (.cells #[.pointer none, .slice none 0 0, .slice none 0 0] 118) := ⟨_, rfl⟩
  have HK0 := Lib.hid (show Kp (fun _ => False) w wz by rw [hwz]; exact (Kp.refl _ w).alloc _)
  have HMb := Lib.hid (show Blk wz w.heap.size #[.pointer none, .slice none 0 0, .slice none 0 0] 118 by rw [hwz]; exact Blk.new _ _ _)
  have HIn := Lib.hid (step_Inputs V C p a4 a5 c4 c5 wz (hM.kp HK0.out) hf)
  have HBi := Lib.hid (step_brought ia in_ ic ip C.ins.length wz (hi.kp HK0.out).row hi.len hi.most (by omega))
  have HLa := Lib.hid (fun u (hu : Kp (fun _ => False) wz u) => step_Latches V C p a4 a5 c4 c5 u (hM.kp (HK0.out.trans hu (fun _ _ h => h))) hf)
  have HBs := Lib.hid (fun u (hu : Kp (fun _ => False) wz u) => step_brought sa sn sc st C.lats.length u (hs.kp (HK0.out.trans hu (fun _ _ h => h))).row hs.len hs.most (by omega))
  have HSz := Lib.hid (show wz.heap.size = w.heap.size + 1 by rw [hwz]; simp)
  have HZ := Lib.hid hwz
  clear hM hf hg hs hi hwz
  go_enter Tryz.func83, Tryz.ntmps83
  go_upto_region 1 with fail
  rw [← HZ.out]
  clear HZ
  go_wp2_with (first
    | (go_at_call 35; with_reducible refine Calls.mono HIn.out ?_; rintro e w1 ⟨rfl, rfl⟩)
    | (go_at_call 34; with_reducible refine Calls.mono (HLa.out _ hKi) ?_; rintro e w1 ⟨rfl, rfl⟩)
    | (go_at_call 95; with_reducible refine Calls.mono HBi.out ?_; rintro e wi ⟨v1, rfl, hOi, hKi⟩)
    | (go_at_call 95; with_reducible refine Calls.mono (HBs.out _ hKi) ?_; rintro e ws ⟨v2, rfl, hOs, hKs⟩; obtain ⟨s2a, s2c, ev2, s2le, s2m, s2nil, -, hr2⟩ := ownForm hOs; rw [bv_length, brought_len] at ev2 s2le; subst ev2; have HO1 := Lib.hid (hOi.kp hKs (fun _ _ h => h)); have HR2 := Lib.hid hr2; have HKz := Lib.hid (hKi.trans hKs (fun _ _ h => h)); clear hOs hKs hOi hKi hr2)
    | (at_builtin; refine wpList_append1s rfl _ _ 38 4 rfl Tryz.underlying38 HIb.out rfl HO1.out rfl s2a C.lats.length s2c (bv (brought st C.lats.length)) rfl ?k0 HR2.out s2nil (bv_one _) ?k1 ?k2 ?k3 ?_))
  case k0 => rw [bv_length, brought_len]
  case k1 => rw [bv_length, brought_len]; omega
  case k2 => rw [bv_length, brought_len]; unfold maxLen; omega
  case k3 => exact HKz.out.size
  intro v9 w2 hO9 hg9 hat9
  have hO9' : Own w2 wz.heap.size 4 v9 (bv (insOf C st ip)) := by unfold insOf; rw [bv_append]; exact hO9
  obtain ⟨n9, hn9⟩ : ∃ n, (insOf C st ip).length = n := ⟨_, rfl⟩
  obtain ⟨a9, c9, ev9, -, -, -, hr9⟩ := hO9'.form
  rw [bv_length, hn9] at ev9
  subst ev9
  have HKy := Lib.hid (show Kp (fun _ => False) wz w2 from HKz.out.grown hg9 (fun j hj hl => by have := (HO1.out.lt j hj).1; omega))
  have HK2 := Lib.hid (HK0.out.trans HKy.out (fun _ _ h => h))
  have HMb2 := Lib.hid (HMb.out.kp HKy.out (fun h => h))
  have HR9 := Lib.hid hr9
  have HN9 := Lib.hid hn9
  have hn91 : n9 ≤ 2000000 := by rw [← hn9, insOf_len]; omega
  have HB := Lib.hid (HM.out.blk.kp HK2.out (fun h => h))
  clear hO9 hO9' hg9 hat9 hr9 hn9 s2nil HO1 HR2 HIn HBi HLa HBs HMb
  go_upto_region 2 with fail
  refine wp_region_loose (p := upTo 13) (V := atV [EqV ((.pointer (some ⟨p, 0, none⟩))), EqV ((.pointer (some ⟨p, 0, none⟩))), EqV (.pointer (some ⟨p, 0, none⟩)), EqV (.pointer (some ⟨p, 9, none⟩)), EqV (.slice a4 (netOf C).1.length c4), EqV ((.slice a9 n9 c9)), (fun u v => Own u (w.heap.size + 1) 4 v (bv (valsM C st ip))), EqV ((.pointer (some ⟨p, 0, none⟩))), EqV (.pointer (some ⟨p, 0, none⟩)), EqV (.pointer (some ⟨p, 10, none⟩)), EqV (.slice a5 (netOf C).2.length c5), (fun u v => ∃ va vc, v = .agg #[.slice va ((netOf C).1.length + 1) vc, .slice a5 (netOf C).2.length c5] ∧ RowAt u va (bv (valsM C st ip)) ∧ ∀ q, va = some q → w.heap.size < q.block), (fun u v => ∃ va vc, v = .agg #[.pointer (some ⟨p, 0, none⟩), .slice va ((netOf C).1.length + 1) vc, .slice a5 (netOf C).2.length c5] ∧ RowAt u va (bv (valsM C st ip)) ∧ ∀ q, va = some q → w.heap.size < q.block)]) (LP := #[true, true, true, true, true, true, true, true, true, true, true, true, true, false]) (K := 1) (by kernel_rfl) (by kernel_rfl) (atV_st ?hstL2) ?hstepL2 (by kernel_rfl) ?hLPL2 (by kernel_rfl) ?hendL2
  case hstL2 =>
    intro W h
    simp only [List.mem_cons, List.not_mem_nil, or_false] at h
    rcases h with rfl | rfl | rfl | rfl | rfl | rfl | rfl | rfl | rfl | rfl | rfl | rfl | rfl <;> first | exact EqV.st _ | exact fun _ _ _ k h => Own.kp h k (fun _ _ h => h) | exact fun _ _ _ k ⟨va, vc, h1, h2, h3⟩ => ⟨va, vc, h1, h2.kp k (fun _ _ h => h), h3⟩
  case hLPL2 => exact upTo_spec (by kernel_rfl)
  case hstepL2 =>
    intro i o ho hp a u hk hoff hdep
    have e0 : a.tmps[0]?.getD undef = (.pointer (some ⟨p, 0, none⟩)) := slot_at (hoff 0 (noDst_spec (by kernel_rfl)))
    have e7 : a.tmps[7]?.getD undef = (.slice a9 n9 c9) := slot_at (hoff 7 (noDst_spec (by kernel_rfl)))
    clear hoff
    match i, ho with
    | 0, ho =>
      obtain rfl := Option.some.inj ho
      refine lw_value (v := (.pointer (some ⟨p, 0, none⟩))) (u' := u) ?_ (Kp.refl _ _) rfl
      go_simp
    | 1, ho =>
      obtain rfl := Option.some.inj ho
      refine lw_value (v := (.pointer (some ⟨p, 0, none⟩))) (u' := u) ?_ (Kp.refl _ _) rfl
      go_simp
    | 2, ho =>
      obtain rfl := Option.some.inj ho
      have e18 : a.tmps[18]?.getD undef = (.pointer (some ⟨p, 0, none⟩)) := slot_at (hdep ⟨1, .data⟩ (by simp) rfl _ 18 rfl rfl)
      refine lw_value (v := .pointer (some ⟨p, 0, none⟩)) (u' := u) ?_ (Kp.refl _ _) rfl
      go_simp
    | 3, ho =>
      obtain rfl := Option.some.inj ho
      have e19 : a.tmps[19]?.getD undef = .pointer (some ⟨p, 0, none⟩) := slot_at (hdep ⟨2, .data⟩ (by simp) rfl _ 19 rfl rfl)
      refine lw_value (v := .pointer (some ⟨p, 9, none⟩)) (u' := u) ?_ (Kp.refl _ _) rfl
      go_simp
    | 4, ho =>
      obtain rfl := Option.some.inj ho
      have e20 : a.tmps[20]?.getD undef = .pointer (some ⟨p, 9, none⟩) := slot_at (hdep ⟨3, .data⟩ (by simp) rfl _ 20 rfl rfl)
      have c1 := (HB.out.kp hk (fun h => h)).cell (i := 9) (v := .slice a4 (netOf C).1.length c4) rfl
      refine lw_value (v := .slice a4 (netOf C).1.length c4) (u' := u) ?_ (Kp.refl _ _) rfl
      go_simp
    | 5, ho =>
      obtain rfl := Option.some.inj ho
      refine lw_value (v := (.slice a9 n9 c9)) (u' := u) ?_ (Kp.refl _ _) rfl
      go_simp
    | 6, ho =>
      obtain rfl := Option.some.inj ho
      have e21 : a.tmps[21]?.getD undef = .slice a4 (netOf C).1.length c4 := slot_at (hdep ⟨4, .data⟩ (by simp) rfl _ 21 rfl rfl)
      have e22 : a.tmps[22]?.getD undef = (.slice a9 n9 c9) := slot_at (hdep ⟨5, .data⟩ (by simp) rfl _ 22 rfl rfl)
      refine lw_call (f := 96) (args := #[.slice a4 (netOf C).1.length c4, .slice a9 n9 c9]) ?_ ?_
      · go_simp
      · exact (sim_Eval a4 (netOf C).1.length c4 (netOf C).1 a9 n9 c9 (insOf C st ip) u (HM.out.net.kp (HK2.out.trans hk (fun _ _ h => h)) (fun _ _ h => h)) rfl (by have := HNf.out.1; omega) HG.out.net (HR9.out.kp hk (fun _ _ h => h)) HN9.out (by omega)).mono (by
          rintro e u' ⟨v, rfl, hO, hK⟩
          exact ⟨v, rfl, hK, hO.mono (by have := hk.size; have := HKy.out.size; have := HSz.out; omega)⟩)
    | 7, ho =>
      obtain rfl := Option.some.inj ho
      refine lw_value (v := (.pointer (some ⟨p, 0, none⟩))) (u' := u) ?_ (Kp.refl _ _) rfl
      go_simp
    | 8, ho =>
      obtain rfl := Option.some.inj ho
      have e24 : a.tmps[24]?.getD undef = (.pointer (some ⟨p, 0, none⟩)) := slot_at (hdep ⟨7, .data⟩ (by simp) rfl _ 24 rfl rfl)
      refine lw_value (v := .pointer (some ⟨p, 0, none⟩)) (u' := u) ?_ (Kp.refl _ _) rfl
      go_simp
    | 9, ho =>
      obtain rfl := Option.some.inj ho
      have e25 : a.tmps[25]?.getD undef = .pointer (some ⟨p, 0, none⟩) := slot_at (hdep ⟨8, .data⟩ (by simp) rfl _ 25 rfl rfl)
      refine lw_value (v := .pointer (some ⟨p, 10, none⟩)) (u' := u) ?_ (Kp.refl _ _) rfl
      go_simp
    | 10, ho =>
      obtain rfl := Option.some.inj ho
      have e26 : a.tmps[26]?.getD undef = .pointer (some ⟨p, 10, none⟩) := slot_at (hdep ⟨9, .data⟩ (by simp) rfl _ 26 rfl rfl)
      have c1 := (HB.out.kp hk (fun h => h)).cell (i := 10) (v := .slice a5 (netOf C).2.length c5) rfl
      refine lw_value (v := .slice a5 (netOf C).2.length c5) (u' := u) ?_ (Kp.refl _ _) rfl
      go_simp
    | 11, ho =>
      obtain rfl := Option.some.inj ho
      have e27 : a.tmps[27]?.getD undef = .slice a5 (netOf C).2.length c5 := slot_at (hdep ⟨10, .data⟩ (by simp) rfl _ 27 rfl rfl)
      have hV : Own u (w.heap.size + 1) 4 (a.tmps.getD 23 undef) (bv (valsM C st ip)) := hdep ⟨6, .data⟩ (by simp) rfl _ 23 rfl rfl
      obtain ⟨va, vc, ev, -, -, hfar, hvr⟩ := hV.form
      rw [bv_length, show (valsM C st ip).length = (netOf C).1.length + 1 from valsOf_len _ _] at ev
      have e23 := slot_at ev
      refine lw_value (v := .agg #[.slice va ((netOf C).1.length + 1) vc, .slice a5 (netOf C).2.length c5]) (u' := u) ?_ (Kp.refl _ _) ⟨va, vc, rfl, hvr, fun q hq => by obtain ⟨g, rfl, hb, -⟩ := hfar q hq; exact hb⟩
      go_simp
    | 12, ho =>
      obtain rfl := Option.some.inj ho
      have e17 : a.tmps[17]?.getD undef = (.pointer (some ⟨p, 0, none⟩)) := slot_at (hdep ⟨0, .data⟩ (by simp) rfl _ 17 rfl rfl)
      obtain ⟨va, vc, ev, hvr, hfar⟩ : ∃ va vc, (a.tmps.getD 28 undef) = .agg #[.slice va ((netOf C).1.length + 1) vc, .slice a5 (netOf C).2.length c5] ∧ RowAt u va (bv (valsM C st ip)) ∧ ∀ q, va = some q → w.heap.size < q.block := hdep ⟨11, .data⟩ (by simp) rfl _ 28 rfl rfl
      have e28 := slot_at ev
      refine lw_value (v := .agg #[.pointer (some ⟨p, 0, none⟩), .slice va ((netOf C).1.length + 1) vc, .slice a5 (netOf C).2.length c5]) (u' := u) ?_ (Kp.refl _ _) ⟨va, vc, rfl, hvr, hfar⟩
      go_simp
    | n + 13, _ => exact absurd hp (by simp [upTo])
  intro a u hI
  have hsz : a.tmps.size = 30 := hI.size
  have hdf : a.defers = [] := hI.defers
  have f0 : a.tmps.getD 0 undef = _ := hI.off 0 (noDst_spec (p := upTo 13) (by kernel_rfl))
  have f1 : a.tmps.getD 1 undef = _ := hI.off 1 (noDst_spec (p := upTo 13) (by kernel_rfl))
  have f2 : a.tmps.getD 2 undef = _ := hI.off 2 (noDst_spec (p := upTo 13) (by kernel_rfl))
  have f3 : a.tmps.getD 3 undef = _ := hI.off 3 (noDst_spec (p := upTo 13) (by kernel_rfl))
  have f4 : a.tmps.getD 4 undef = _ := hI.off 4 (noDst_spec (p := upTo 13) (by kernel_rfl))
  have f5 : a.tmps.getD 5 undef = _ := hI.off 5 (noDst_spec (p := upTo 13) (by kernel_rfl))
  have f6 : a.tmps.getD 6 undef = _ := hI.off 6 (noDst_spec (p := upTo 13) (by kernel_rfl))
  have f7 : a.tmps.getD 7 undef = _ := hI.off 7 (noDst_spec (p := upTo 13) (by kernel_rfl))
  have f8 : a.tmps.getD 8 undef = _ := hI.off 8 (noDst_spec (p := upTo 13) (by kernel_rfl))
  have f9 : a.tmps.getD 9 undef = _ := hI.off 9 (noDst_spec (p := upTo 13) (by kernel_rfl))
  have f10 : a.tmps.getD 10 undef = _ := hI.off 10 (noDst_spec (p := upTo 13) (by kernel_rfl))
  have f11 : a.tmps.getD 11 undef = _ := hI.off 11 (noDst_spec (p := upTo 13) (by kernel_rfl))
  have f12 : a.tmps.getD 12 undef = _ := hI.off 12 (noDst_spec (p := upTo 13) (by kernel_rfl))
  have f13 : a.tmps.getD 13 undef = _ := hI.off 13 (noDst_spec (p := upTo 13) (by kernel_rfl))
  have f14 : a.tmps.getD 14 undef = _ := hI.off 14 (noDst_spec (p := upTo 13) (by kernel_rfl))
  have f15 : a.tmps.getD 15 undef = _ := hI.off 15 (noDst_spec (p := upTo 13) (by kernel_rfl))
  have f16 : a.tmps.getD 16 undef = _ := hI.off 16 (noDst_spec (p := upTo 13) (by kernel_rfl))
  have f17 : a.tmps.getD 17 undef = (.pointer (some ⟨p, 0, none⟩)) := hI.val 0 _ 17 rfl rfl rfl
  have f18 : a.tmps.getD 18 undef = (.pointer (some ⟨p, 0, none⟩)) := hI.val 1 _ 18 rfl rfl rfl
  have f19 : a.tmps.getD 19 undef = .pointer (some ⟨p, 0, none⟩) := hI.val 2 _ 19 rfl rfl rfl
  have f20 : a.tmps.getD 20 undef = .pointer (some ⟨p, 9, none⟩) := hI.val 3 _ 20 rfl rfl rfl
  have f21 : a.tmps.getD 21 undef = .slice a4 (netOf C).1.length c4 := hI.val 4 _ 21 rfl rfl rfl
  have f22 : a.tmps.getD 22 undef = (.slice a9 n9 c9) := hI.val 5 _ 22 rfl rfl rfl
  have g23 : ((fun u v => Own u (w.heap.size + 1) 4 v (bv (valsM C st ip)))) u (a.tmps.getD 23 undef) := hI.val 6 _ 23 rfl rfl rfl
  have f24 : a.tmps.getD 24 undef = (.pointer (some ⟨p, 0, none⟩)) := hI.val 7 _ 24 rfl rfl rfl
  have f25 : a.tmps.getD 25 undef = .pointer (some ⟨p, 0, none⟩) := hI.val 8 _ 25 rfl rfl rfl
  have f26 : a.tmps.getD 26 undef = .pointer (some ⟨p, 10, none⟩) := hI.val 9 _ 26 rfl rfl rfl
  have f27 : a.tmps.getD 27 undef = .slice a5 (netOf C).2.length c5 := hI.val 10 _ 27 rfl rfl rfl
  have g28 : ((fun u v => ∃ va vc, v = .agg #[.slice va ((netOf C).1.length + 1) vc, .slice a5 (netOf C).2.length c5] ∧ RowAt u va (bv (valsM C st ip)) ∧ ∀ q, va = some q → w.heap.size < q.block)) u (a.tmps.getD 28 undef) := hI.val 11 _ 28 rfl rfl rfl
  have g29 : ((fun u v => ∃ va vc, v = .agg #[.pointer (some ⟨p, 0, none⟩), .slice va ((netOf C).1.length + 1) vc, .slice a5 (netOf C).2.length c5] ∧ RowAt u va (bv (valsM C st ip)) ∧ ∀ q, va = some q → w.heap.size < q.block)) u (a.tmps.getD 29 undef) := hI.val 12 _ 29 rfl rfl rfl
  have ha : a = ⟨#[a.tmps.getD 0 undef, a.tmps.getD 1 undef, a.tmps.getD 2 undef, a.tmps.getD 3 undef, a.tmps.getD 4 undef, a.tmps.getD 5 undef, a.tmps.getD 6 undef, a.tmps.getD 7 undef, a.tmps.getD 8 undef, a.tmps.getD 9 undef, a.tmps.getD 10 undef, a.tmps.getD 11 undef, a.tmps.getD 12 undef, a.tmps.getD 13 undef, a.tmps.getD 14 undef, a.tmps.getD 15 undef, a.tmps.getD 16 undef, a.tmps.getD 17 undef, a.tmps.getD 18 undef, a.tmps.getD 19 undef, a.tmps.getD 20 undef, a.tmps.getD 21 undef, a.tmps.getD 22 undef, a.tmps.getD 23 undef, a.tmps.getD 24 undef, a.tmps.getD 25 undef, a.tmps.getD 26 undef, a.tmps.getD 27 undef, a.tmps.getD 28 undef, a.tmps.getD 29 undef], a.defers⟩ := act_list a 30 hsz
  rw [hdf, f0, f1, f2, f3, f4, f5, f6, f7, f8, f9, f10, f11, f12, f13, f14, f15, f16, f17, f18, f19, f20, f21, f22, f24, f25, f26, f27] at ha
  obtain ⟨x23, hx23⟩ : ∃ x, a.tmps.getD 23 undef = x := ⟨_, rfl⟩
  obtain ⟨x28, hx28⟩ : ∃ x, a.tmps.getD 28 undef = x := ⟨_, rfl⟩
  obtain ⟨x29, hx29⟩ : ∃ x, a.tmps.getD 29 undef = x := ⟨_, rfl⟩
  rw [hx23, hx28, hx29] at ha
  rw [hx23] at g23
  rw [hx28] at g28
  rw [hx29] at g29
  have hku := hI.kp
  clear hI hsz hdf f0 f1 f2 f3 f4 f5 f6 f7 f8 f9 f10 f11 f12 f13 f14 f15 f16 f17 f18 f19 f20 f21 f22 f24 f25 f26 f27 hx23 hx28 hx29
  subst ha
  refine wpAny_tail 13 rfl (by kernel_rfl) ?_
  simp only [List.drop_succ_cons, List.drop_zero]
  obtain ⟨va, vc, rfl, hvr, hfar⟩ := g29
  have HFar := Lib.hid hfar
  clear hfar
  have HMu := HMb2.out.kp hku (fun h => h)
  obtain ⟨t0, t1, t2⟩ : u.cell? ⟨w.heap.size, 0, none⟩ = some (.pointer none) ∧ u.cell? ⟨w.heap.size, 1, none⟩ = some (.slice none 0 0) ∧ u.cell? ⟨w.heap.size, 2, none⟩ = some (.slice none 0 0) := ⟨HMu.cell rfl, HMu.cell rfl, HMu.cell rfl⟩
  have z0 := HMu.free 0
  have z1 := HMu.free 1
  have z2 := HMu.free 2
  have HV := Lib.hid hvr
  have HKu := Lib.hid (HK2.out.trans hku (fun _ _ h => h))
  have HMw := Lib.hid HMu
  clear hvr hku HMu g23 g28
  go_wp2_with fail
  have h3 := ((HMw.out.set_same 0 (.pointer (some ⟨p, 0, none⟩))).set_same 1 (.slice va ((netOf C).1.length + 1) vc)).set_same 2 (.slice a5 (netOf C).2.length c5)
  have s0 := h3.cell (i := 0) (v := .pointer (some ⟨p, 0, none⟩)) rfl
  have s1 := h3.cell (i := 1) (v := .slice va ((netOf C).1.length + 1) vc) rfl
  have s2 := h3.cell (i := 2) (v := .slice a5 (netOf C).2.length c5) rfl
  have hkS := (((Kp.refl (fun j => j = w.heap.size) u).setCell (p := ⟨w.heap.size, 0, none⟩) (fun _ => rfl) (.pointer (some ⟨p, 0, none⟩))).setCell (p := ⟨w.heap.size, 1, none⟩) (fun _ => rfl) (.slice va ((netOf C).1.length + 1) vc)).setCell (p := ⟨w.heap.size, 2, none⟩) (fun _ => rfl) (.slice a5 (netOf C).2.length c5)
  have HE := HV.out.kp hkS (fun q hq e => by have := HFar.out q hq; have e2 : q.block = w.heap.size := e; omega)
  have HKe := HKu.out.trans hkS (fun j hj e => by have e2 : j = w.heap.size := e; omega)
  exact bodyPost_ret (v := .agg #[.pointer (some ⟨p, 0, none⟩), .slice va ((netOf C).1.length + 1) vc, .slice a5 (netOf C).2.length c5]) (by simp [results, Tryz.results83, go_sem, s0, s1, s2]) rfl ⟨⟨va, vc, rfl, HE⟩, HKe⟩
end Go.Proofs.YtnoknecfdnjomaaGreat

/-
  step: moment.next, Machine.Next.
-/
namespace Go.Proofs.YtnoknecfdnjomaaGreat
open Go.RowKit

set_option maxRecDepth 100000 in
set_option maxHeartbeats 2000000 in
theorem step_next (V : CV) (C : Circ) (p : Nat) (a4 a5 : Option Addr) (c4 c5 : Nat) (va : Option Addr) (vc : Nat) (st ip : List Bool) (w : World) (hM : MAt w 99 V C p a4 c4 a5 c5) (hf : CFew C 1000000) (hg : GoodC C) (hv : RowAt w va (bv (valsM C st ip))) :
    Calls Tryz.prog 86 #[.agg #[.pointer (some ⟨p, 0, none⟩), .slice va ((netOf C).1.length + 1) vc, .slice a5 (netOf C).2.length c5]] w fun e w' => ∃ v, e = .returned v ∧ Own w' w.heap.size 4 v (bv (nextM C st ip)) ∧ Kp (fun _ => False) w w' := by
  obtain ⟨nl, hnl⟩ : ∃ n, C.lats.length = n := ⟨_, rfl⟩
  have hnl1 : nl ≤ 1000000 := by have := hf.l; omega
  obtain ⟨i0, hi0, hz0, hz1, hz2⟩ := info_parts (show (Tryz.prog.info? 4).map (fun i => (i.zero, i.size, i.bytes)) = some (some (.bool false), 1, 1) by kernel_rfl)
  have hmk : ∀ u : World, (Instr.makeSlice 38 (.int .i64 (nl : Int)) (.int .i64 (nl : Int))).run Tryz.prog u =
      .ok (.slice (some ⟨u.heap.size, 0, none⟩) nl nl) (u.alloc (.cells (madeCells #[.bool false] nl) 4)) := fun u => by
    have h := run_make (P := Tryz.prog) u 38 4 i0 (.bool false) Tryz.underlying38 hi0 hz0 .i64 .i64 (nl : Int) (nl : Int) (by omega) (Int.le_refl _) (by rw [hz2]; omega) (by omega)
    simpa [hz1, Value.cells] using h
  clear hi0 hz0 hz1 hz2 i0
  have HNl := Lib.hid hnl
  have HL := Lib.hid (step_lit (c5 := c5) (vc := vc) hf hg hM.ats hv)
  have HM := Lib.hid hM
  have HNx := Lib.hid (show (nextM C st ip).length = nl by rw [nextM_len]; exact hnl)
  have HVx := Lib.hid (show ∀ k, k < nl → vb (nextM C st ip) k = litM C st ip (g3 C.lats k).2.1 from fun k hk => by
    unfold vb nextM
    rw [List.getElem?_map, g3_at (by omega)]; rfl)
  obtain ⟨n4, hn4⟩ : ∃ n, (netOf C).1.length + 1 = n := ⟨_, rfl⟩
  obtain ⟨n5, hn5⟩ : ∃ n, (netOf C).2.length = n := ⟨_, rfl⟩
  rw [hn4, hn5] at HL ⊢
  obtain ⟨wa, hwa⟩ : ∃ wa : World, wa = w.alloc (.cells #[.pointer (some ⟨p, 0, none⟩), .slice va n4 vc, .slice a5 n5 c5] 118) := ⟨_, rfl⟩
  obtain ⟨wz, hwz⟩ : ∃ wz : World, wz = wa.alloc (.cells (madeCells #[.bool false] nl) 4) := ⟨_, rfl⟩
  have hwas : wa.heap.size = w.heap.size + 1 := by rw [hwa]; simp
  have hKa : Kp (fun _ => False) w wa := by rw [hwa]; exact (Kp.refl _ w).alloc _
  have hBa : Blk wa w.heap.size #[.pointer (some ⟨p, 0, none⟩), .slice va n4 vc, .slice a5 n5 c5] 118 := by rw [hwa]; exact Blk.new _ _ _
  have HLa := Lib.hid (step_Latches V C p a4 a5 c4 c5 wa (hM.kp hKa) hf)
  rw [hnl] at HLa
  have HK0 := Lib.hid (show Kp (fun _ => False) w wz by rw [hwz]; exact hKa.alloc _)
  have HB0 := Lib.hid (show Blk wz w.heap.size #[.pointer (some ⟨p, 0, none⟩), .slice va n4 vc, .slice a5 n5 c5] 118 by rw [hwz]; exact hBa.alloc _)
  have HO0 : Hid (Own wz (w.heap.size + 1) 4 (.slice (some ⟨wa.heap.size, 0, none⟩) nl nl) (bv (laid (nextM C st ip) nl 0))) := Lib.hid (by rw [hwz, laid_zero]; exact made_bools0 (by unfold maxLen; omega) (by omega))
  have HWs := Lib.hid hwas
  have HZa := Lib.hid hwa
  have HZ := Lib.hid hwz
  have m0 := hBa.cell (i := 0) (v := .pointer (some ⟨p, 0, none⟩)) rfl
  have m1 := HB0.out.cell (i := 0) (v := .pointer (some ⟨p, 0, none⟩)) rfl
  have m2 : wz.cell? ⟨p, 2, none⟩ = some (.slice V.al nl V.cl) := (HM.out.blk.kp HK0.out (fun h => h)).cell (i := 2) (by rw [← hnl]; rfl)
  clear hM hf hg hv hnl hn4 hn5 hwa hwz hwas hKa hBa
  go_enter Tryz.func86, Tryz.ntmps86
  go_upto_region 1 with fail
  rw [← HZa.out]
  go_upto_region 2 with (go_at_call 34; with_reducible refine Calls.mono HLa.out ?_; rintro e w1 ⟨rfl, rfl⟩)
  rw [← HZ.out]
  generalize hgr : wa.heap.size = gr at HO0 HWs ⊢
  clear HZ HZa hmk HLa m0 hgr
  go_wp2_with fail
  clear m1 m2
  go_loopw [17] (fun v17 wr => ∃ k : Nat, v17 = .int .i64 k ∧ k ≤ nl ∧ Own wr (w.heap.size + 1) 4 (.slice (some ⟨gr, 0, none⟩) nl nl) (bv (laid (nextM C st ip) nl k)) ∧ Blk wr w.heap.size #[.pointer (some ⟨p, 0, none⟩), .slice va n4 vc, .slice a5 n5 c5] 118 ∧ Kp (fun _ => False) w wr) (fun v17 _ => nl - (intOf v17).toNat)
  case atStart => exact ⟨0, rfl, by omega, HO0.out, HB0.out, HK0.out⟩
  case round =>
    obtain ⟨k, rfl, hk, hO, hB, hK⟩ := hrel
    clear HO0 HB0 HK0
    obtain ⟨wp, rfl⟩ : ∃ wp : World, wp = wr := ⟨_, rfl⟩
    have HO := Lib.hid hO
    have HB := Lib.hid hB
    have HK := Lib.hid hK
    clear hO hB hK
    by_cases hlt : k < nl
    · have hkl : k < C.lats.length := by rw [HNl.out]; exact hlt
      obtain ⟨b, off, ea, hE⟩ := HM.out.circ.latCell hkl
      obtain ⟨e0, e1, e2⟩ := hE _ HK.out
      obtain ⟨x0, hx0⟩ : ∃ x, (g3 C.lats k).1 = x := ⟨_, rfl⟩
      obtain ⟨x1, hx1⟩ : ∃ x, (g3 C.lats k).2.1 = x := ⟨_, rfl⟩
      obtain ⟨x2, hx2⟩ : ∃ x, (g3 C.lats k).2.2 = x := ⟨_, rfl⟩
      have hvx := HVx.out k hlt
      obtain ⟨wv, hwv⟩ : ∃ wv : World, wv = wp.alloc (.cells #[.int .i64 x0, .int .i64 x1, .int .i64 x2] 64) := ⟨_, rfl⟩
      have hKv : Kp (fun _ => False) wp wv := by rw [hwv]; exact (Kp.refl _ wp).alloc _
      have hc := HL.out wv (HK.out.trans hKv (fun _ _ h => h)) _ (lat_used hkl)
      rw [hx1] at hc hvx e1
      rw [hx0] at e0
      rw [hx2] at e2
      obtain ⟨y, hy⟩ : ∃ y, litM C st ip x1 = y := ⟨_, rfl⟩
      rw [hy] at hc hvx
      have HC := Lib.hid hc
      have HVk := Lib.hid hvx
      have i0 : (0 : Int) ≤ (k : Int) := by omega
      have i2 : (k : Int) < (nl : Int) := by omega
      have nb : wv.cell? ⟨wp.heap.size, 1, none⟩ = some (.int .i64 x1) := by rw [hwv]; exact (Blk.new wp _ _).cell rfl
      have b1 := (HB.out.kp hKv (fun h => h)).cell (i := 1) (v := .slice va n4 vc) rfl
      have b2 := (HB.out.kp hKv (fun h => h)).cell (i := 2) (v := .slice a5 n5 c5) rfl
      have HKv := Lib.hid hKv
      have HZv := Lib.hid hwv
      rw [ea]
      clear hx0 hx1 hx2 hy hc hvx hE ea hkl hwv hKv
      go_upto_region 5 with fail
      rw [← HZv.out]
      clear HZv e0 e1 e2
      go_wp2_with (go_at_call 85; with_reducible refine Calls.mono HC.out ?_; rintro e w1 ⟨rfl, hK1⟩; have HK1 := Lib.hid (HKv.out.trans hK1 (fun _ _ h => h)); have ck := (HO.out.kp HK1.out (fun _ _ h => h)).cell (j := k) (bv_at (by rw [laid_len HNx.out hk]; exact hlt)); have fk := (HO.out.kp HK1.out (fun _ _ h => h)).free k; clear hK1)
      have h1 := (HO.out.kp HK1.out (fun _ _ h => h)).set k (.bool y)
      have h2 := laid_step HNx.out hlt
      rw [HVk.out] at h2
      rw [bv_set, h2] at h1
      have h3 := (HB.out.kp HK1.out (fun h => h)).kp (Kp.set w1 ⟨gr, k, none⟩ (.bool y)) (fun e => by have e2 : w.heap.size = gr := e; have := HWs.out; omega)
      have h4 := (HK.out.trans HK1.out (fun _ _ h => h)).setCell (p := ⟨gr, k, none⟩) (fun hl => by have h5 : gr < w.heap.size := hl; have := HWs.out; omega) (.bool y)
      exact ⟨⟨k + 1, by go_num, by omega, h1, h3, h4⟩, by simp [intOf]; omega⟩
    · obtain rfl : k = nl := by omega
      have HE := Lib.hid (show Own wp w.heap.size 4 (.slice (some ⟨gr, 0, none⟩) k k) (bv (nextM C st ip)) from by have := HO.out; rw [laid_full HNx.out] at this; exact this.mono (by omega))
      go_wp2_with fail
      go_ret
      exact ⟨_, rfl, HE.out, HK.out⟩

set_option maxRecDepth 100000 in
theorem step_Next (V : CV) (C : Circ) (p : Nat) (a4 a5 : Option Addr) (c4 c5 : Nat) (sa : Option Addr) (sn sc : Nat) (ia : Option Addr) (in_ ic : Nat) (st ip : List Bool) (w : World) (hM : MAt w 99 V C p a4 c4 a5 c5) (hf : CFew C 1000000) (hg : GoodC C) (hs : BS w sa sn st) (hi : BS w ia in_ ip) :
    Calls Tryz.prog 63 #[.pointer (some ⟨p, 0, none⟩), .slice sa sn sc, .slice ia in_ ic] w fun e w' => ∃ v, e = .returned v ∧ Own w' w.heap.size 4 v (bv (nextM C st ip)) ∧ Kp (fun _ => False) w w' := by
  have H1 := Lib.hid (step_in V C p a4 a5 c4 c5 sa sn sc ia in_ ic st ip w hM hf hg hs hi)
  have H2 := Lib.hid (fun w1 va vc (hk : Kp (fun _ => False) w w1) hv => step_next V C p a4 a5 c4 c5 va vc st ip w1 (hM.kp hk) hf hg hv)
  clear hM hf hg hs hi
  go_enter Tryz.func63, Tryz.ntmps63
  go_wp2_with (first
    | (go_at_call 83; with_reducible refine Calls.mono H1.out ?_; rintro e w1 ⟨⟨va, vc, rfl, hv1⟩, hK1⟩)
    | (go_at_call 86; with_reducible refine Calls.mono (H2.out _ _ _ hK1 hv1) ?_; rintro e w2 ⟨v2, rfl, hO2, hK2⟩))
  have HE := Lib.hid (And.intro (hO2.mono hK1.size) (hK1.trans hK2 (fun _ _ h => h)))
  clear hO2 hK2 hK1 hv1
  try go_wp2_with fail
  go_ret
  exact ⟨_, rfl, HE.out⟩

end Go.Proofs.YtnoknecfdnjomaaGreat

/-
  The law of loose regions, with guards.
-/
namespace Go.Proofs.YtnoknecfdnjomaaGreat
open Go Go.RowKit

/-- how the operations hang together: those of p come first -/
structure LooseGOK (ops : Array Oper) (p : Nat → Bool) (N : Nat) : Prop where
  low : ∀ (i : Nat) (o : Oper), ops[i]? = some o → p i = true → ∀ e ∈ o.after, Region.binds .any e = true → e.on < i ∧ p e.on = true
  dst : ∀ (i : Nat) (o : Oper), ops[i]? = some o → p i = true → ∃ d, o.dst = some d ∧ d < N
  inj : ∀ (i j : Nat) (o o' : Oper), ops[i]? = some o → ops[j]? = some o' → p i = true → p j = true → o.dst = o'.dst → i = j
  bar : ∀ (i : Nat) (o : Oper), ops[i]? = some o → p i = false → ∀ j, j < ops.size → p j = true → j ∈ clo ops 6 (edgesOf ops i)

def looseGB (ops : Array Oper) (p : Nat → Bool) (N : Nat) : Bool :=
  (List.range ops.size).all fun i => match ops[i]? with
    | none => true
    | some o => (if p i then
        o.after.all (fun e => !Region.binds .any e || (decide (e.on < i) && p e.on)) &&
          (match o.dst with
            | none => false
            | some d => decide (d < N) && (List.range ops.size).all (fun j => !p j || decide (j = i) || (match ops[j]? with | none => true | some o' => decide (o'.dst ≠ some d))))
      else (List.range ops.size).all (fun j => !p j || (clo ops 6 (edgesOf ops i)).contains j))

theorem looseGB_spec {ops : Array Oper} {p : Nat → Bool} {N : Nat} (h : looseGB ops p N = true) : LooseGOK ops p N := by
  unfold looseGB at h
  rw [List.all_eq_true] at h
  have get : ∀ (i : Nat) (o : Oper), ops[i]? = some o → (if p i then
        o.after.all (fun e => !Region.binds .any e || (decide (e.on < i) && p e.on)) &&
          (match o.dst with
            | none => false
            | some d => decide (d < N) && (List.range ops.size).all (fun j => !p j || decide (j = i) || (match ops[j]? with | none => true | some o' => decide (o'.dst ≠ some d))))
      else (List.range ops.size).all (fun j => !p j || (clo ops 6 (edgesOf ops i)).contains j)) = true := fun i o ho => by
    have hi : i < ops.size := (Array.getElem?_eq_some_iff.1 ho).1
    have := h i (List.mem_range.2 hi)
    simp only [ho] at this
    exact this
  refine ⟨fun i o ho hp e he hb => ?_, fun i o ho hp => ?_, fun i j o o' ho ho' hp hp' hd => ?_, fun i o ho hp j hj hpj => ?_⟩
  · have := (get i o ho)
    rw [if_pos hp, Bool.and_eq_true] at this
    have h1 := this.1
    rw [Array.all_eq_true_iff_forall_mem] at h1
    have h2 := h1 e he
    rw [hb] at h2
    simpa using h2
  · have := (get i o ho)
    rw [if_pos hp, Bool.and_eq_true] at this
    have h1 := this.2
    cases hd : o.dst with
    | none => rw [hd] at h1; cases h1
    | some d =>
      rw [hd] at h1
      simp only [Bool.and_eq_true, decide_eq_true_eq] at h1
      exact ⟨d, rfl, h1.1⟩
  · have := (get i o ho)
    rw [if_pos hp, Bool.and_eq_true] at this
    have h1 := this.2
    cases hdd : o.dst with
    | none => rw [hdd] at h1; cases h1
    | some d =>
      rw [hdd] at h1
      simp only [Bool.and_eq_true] at h1
      have h2 := h1.2
      rw [List.all_eq_true] at h2
      have h3 := h2 j (List.mem_range.2 (Array.getElem?_eq_some_iff.1 ho').1)
      rw [hp', ho'] at h3
      simp only [Bool.not_true, Bool.false_or, Bool.or_eq_true, decide_eq_true_eq] at h3
      rcases h3 with h3 | h3
      · exact h3.symm
      · exact absurd (hd.symm.trans hdd) h3
  · have := (get i o ho)
    rw [if_neg (by simp [hp]), List.all_eq_true] at this
    have h1 := this j (List.mem_range.2 hj)
    rw [hpj, Bool.not_true, Bool.false_or] at h1
    simpa using h1

/-- an operation that is done, or is passed by -/
def LG (P : Program) (ops : Array Oper) (Q : Exit → Act → World → Prop) (V : Nat → World → Value → Prop) (i : Nat) (o : Oper) (a : Act) (u : World) : Prop :=
  (Region.wanted o (yielded ops a.tmps) = true ∧ o.wp P a u (fun a' u' => ∃ v, a' = a.put o.dst v ∧ Kp (fun _ => False) u u' ∧ V i u' v) Q) ∨ (Region.wanted o (yielded ops a.tmps) = false ∧ V i u undef)

theorem lg_none {P : Program} {ops : Array Oper} {Q : Exit → Act → World → Prop} {V : Nat → World → Value → Prop} {i : Nat} {o : Oper} {a : Act} {u : World} (hg : o.guard = none) (h : o.wp P a u (fun a' u' => ∃ v, a' = a.put o.dst v ∧ Kp (fun _ => False) u u' ∧ V i u' v) Q) : LG P ops Q V i o a u :=
  .inl ⟨by unfold Region.wanted; rw [hg], h⟩

theorem yielded_at {ops : Array Oper} {g x : Nat} {b : Bool} {a : Act} (hd : (ops[g]?).bind (·.dst) = some x) (h : a.tmps[x]?.getD undef = .bool b) : yielded ops a.tmps g = some b := by
  unfold yielded
  rw [hd]
  simp only [Option.bind_some]
  cases hx : a.tmps[x]? with
  | none => rw [hx] at h; cases h
  | some v => rw [hx] at h; simp only [Option.getD_some] at h; subst h; rfl

theorem lg_on {P : Program} {ops : Array Oper} {Q : Exit → Act → World → Prop} {V : Nat → World → Value → Prop} {i : Nat} {o : Oper} {a : Act} {u : World} {g x : Nat} {b : Bool} (hg : o.guard = some (g, b)) (hd : (ops[g]?).bind (·.dst) = some x) (hx : a.tmps[x]?.getD undef = .bool b)
    (h : o.wp P a u (fun a' u' => ∃ v, a' = a.put o.dst v ∧ Kp (fun _ => False) u u' ∧ V i u' v) Q) : LG P ops Q V i o a u :=
  .inl ⟨by unfold Region.wanted; rw [hg]; simp only [yielded_at hd hx]; exact beq_self_eq_true _, h⟩

theorem wpAny_looseG {P : Program} {ops : Array Oper} {Q : Exit → Act → World → Prop} {p : Nat → Bool} {V : Nat → World → Value → Prop} {w0 : World} {a0 : Act} {LP : Array Bool} (L : LooseGOK ops p a0.tmps.size)
    (stable : ∀ i u u' v, Kp (fun _ => False) u u' → V i u v → V i u' v)
    (hstep : ∀ (i : Nat) (o : Oper), ops[i]? = some o → p i = true → ∀ a u, Kp (fun _ => False) w0 u →
      (∀ s, (∀ (j : Nat) (oj : Oper), ops[j]? = some oj → p j = true → oj.dst ≠ some s) → a.tmps.getD s undef = a0.tmps.getD s undef) →
      (∀ e ∈ o.after, Region.binds .any e = true → ∀ (oj : Oper) (d : Nat), ops[e.on]? = some oj → oj.dst = some d → V e.on u (a.tmps.getD d undef)) →
      LG P ops Q V i o a u)
    (hLs : LP.size = ops.size) (hLP : ∀ i, i < ops.size → LP.getD i false = p i)
    (hend : ∀ a u, LInv ops V w0 a0 (fun i => p i = true) a u → wpAny P .any ops Q (cntU ops.size LP) LP a u) :
    ∀ (fuel : Nat) (listed : Array Bool) (a : Act) (u : World), listed.size = ops.size → fuel = cntU ops.size listed → (∀ i, i < ops.size → listed.getD i false = true → p i = true) → (∀ j, listed.getD j false = true → ∀ k, k ∈ edgesOf ops j → listed.getD k false = true) →
      LInv ops V w0 a0 (fun i => listed.getD i false = true) a u → wpAny P .any ops Q fuel listed a u := by
  intro fuel
  induction fuel with
  | zero =>
    intro listed a u hs hf hl hcl hI
    have hall : ∀ i, i < ops.size → listed.getD i false = true := fun i hi => by
      by_cases h : listed.getD i false = true
      · exact h
      · have := cntU_set (listed := listed) (by omega) (by simpa using h) ops.size hi
        omega
    have e : listed = LP := listed_ext (by omega) (fun i hi => by
      rw [hall i (by omega), hLP i (by omega)]
      exact (hl i (by omega) (hall i (by omega))).symm)
    subst e
    have := hend a u ⟨hI.kp, fun i o d ho _ hd => hI.val i o d ho (hall i (Array.getElem?_eq_some_iff.1 ho).1) hd, fun s hs' => hI.off s (fun i o ho hi => hs' i o ho (hl i (Array.getElem?_eq_some_iff.1 ho).1 hi)), hI.size, hI.defers⟩
    rwa [← hf] at this
  | succ fuel ih =>
    intro listed a u hs hf hl hcl hI
    by_cases hall : ∀ i, i < ops.size → p i = true → listed.getD i false = true
    · have e : listed = LP := listed_ext (by omega) (fun i hi => by
        rw [hLP i (by omega)]
        by_cases h : p i = true
        · rw [h, hall i (by omega) h]
        · by_cases h2 : listed.getD i false = true
          · exact absurd (hl i (by omega) h2) h
          · have h3 : p i = false := by simpa using h
            have h4 : listed.getD i false = false := by simpa using h2
            rw [h3, h4])
      subst e
      have := hend a u ⟨hI.kp, fun i o d ho hp hd => hI.val i o d ho (hall i (Array.getElem?_eq_some_iff.1 ho).1 hp) hd, fun s hs' => hI.off s (fun i o ho hi => hs' i o ho (hl i (Array.getElem?_eq_some_iff.1 ho).1 hi)), hI.size, hI.defers⟩
      rwa [← hf] at this
    · obtain ⟨i0, ⟨hi0, hp0, hu0⟩, hmin⟩ := least_of (R := fun i => i < ops.size ∧ p i = true ∧ listed.getD i false = false) (by
        refine Classical.byContradiction fun hno => hall fun i hi hp => ?_
        by_cases h : listed.getD i false = true
        · exact h
        · exact absurd ⟨i, hi, hp, by simpa using h⟩ hno)
      have hready : i0 ∈ Region.ready .any ops listed := by
        rw [mem_ready]
        refine ⟨by rw [getD_true_false (by omega)]; exact hu0, ops[i0], Array.getElem?_eq_getElem hi0, fun e he hb => ?_⟩
        obtain ⟨h1, h2⟩ := L.low i0 _ (Array.getElem?_eq_getElem hi0) hp0 e he hb
        by_cases h : listed.getD e.on false = true
        · exact h
        · exact absurd ⟨by omega, h2, by simpa using h⟩ (hmin e.on h1)
      refine ⟨fun h => (by rw [h] at hready; cases hready), fun i hi => ?_⟩
      obtain ⟨h1, o, ho, hedge⟩ := mem_ready.1 hi
      have hisz : i < ops.size := (Array.getElem?_eq_some_iff.1 ho).1
      rw [getD_true_false (by omega)] at h1
      have hpi : p i = true := by
        by_cases h : p i = true
        · exact h
        · have h3 := clo_listed (listed := fun j => listed.getD j false = true) hcl 6 (edgesOf ops i) (fun k hk => by
            obtain ⟨e, he, hb, hon⟩ := (mem_edgesOf ho).1 hk
            have := hedge e he hb
            rwa [hon] at this) i0 (L.bar i o ho (by simpa using h) i0 hi0 hp0)
          rw [hu0] at h3
          cases h3
      obtain ⟨d, hd, hdN⟩ := L.dst i o ho hpi
      have hgo : ∀ a' u', (∃ v, a' = a.put o.dst v ∧ Kp (fun _ => False) u u' ∧ V i u' v) → wpAny P .any ops Q fuel (listed.setIfInBounds i true) a' u' := by
        rintro a' u' ⟨v, rfl, hK, hV⟩
        have hset : ∀ j, (listed.setIfInBounds i true).getD j false = true ↔ j = i ∨ listed.getD j false = true := fun j => by
          simp only [Array.getD_eq_getD_getElem?, Array.getElem?_setIfInBounds]
          by_cases e : i = j
          · subst e; simp [show i < listed.size by omega]
          · rw [if_neg e]
            exact ⟨.inr, fun h => h.resolve_left (fun h => e h.symm)⟩
        refine ih _ _ _ (by simp [hs]) ?_ (fun j hj hlj => ?_) (fun j hj k hk => ?_) ⟨hI.kp.trans hK (fun _ _ h => h), fun j oj dj hoj hj hdj => ?_, fun s hs' => ?_, by rw [put_size]; exact hI.size, by rw [put_defers]; exact hI.defers⟩
        · have := cntU_set (listed := listed) (by omega) h1 ops.size hisz
          omega
        · rcases (hset j).1 hlj with e | e
          · rw [e]; exact hpi
          · exact hl j hj e
        · rcases (hset j).1 hj with e | e
          · subst e
            obtain ⟨e, he, hb, hon⟩ := (mem_edgesOf ho).1 hk
            refine (hset k).2 (.inr ?_)
            rw [← hon]
            exact hedge e he hb
          · exact (hset k).2 (.inr (hcl j e k hk))
        · rcases (hset j).1 hj with e | e
          · subst e
            have : oj = o := by rw [hoj] at ho; exact Option.some.inj ho
            subst this
            rw [hdj] at hd
            have : dj = d := Option.some.inj hd
            subst this
            rw [hdj, put_getD_same (by rw [hI.size]; exact hdN)]
            exact hV
          · by_cases eji : j = i
            · subst eji
              rw [h1] at e; cases e
            · rw [put_getD_ne (fun h => eji (L.inj j i oj o hoj ho (hl j (Array.getElem?_eq_some_iff.1 hoj).1 e) hpi (by rw [hdj, h])))]
              exact stable j u u' _ hK (hI.val j oj dj hoj e hdj)
        · rw [put_getD_ne (hs' i o ho ((hset i).2 (.inl rfl)))]
          exact hI.off s (fun j oj hoj hj => hs' j oj hoj ((hset j).2 (.inr hj)))
      have hst := hstep i o ho hpi a u hI.kp (fun s hs' => hI.off s (fun j oj hoj hj => hs' j oj hoj (hl j (Array.getElem?_eq_some_iff.1 hoj).1 hj))) (fun e he hb oj d' hoj hd' => hI.val e.on oj d' hoj (hedge e he hb) hd')
      unfold wpOp
      rw [ho]
      simp only
      rcases hst with ⟨hw, hst⟩ | ⟨hw, hst⟩
      · rw [if_pos hw]
        exact .inl (Oper.wp_mono hgo hst)
      · rw [if_neg (by rw [hw]; exact Bool.false_ne_true)]
        exact hgo _ _ ⟨undef, rfl, Kp.refl _ _, hst⟩

/-- the region, whose last ones (not of p) stay to be walked -/
theorem wp_region_looseG {P : Program} {id : Nat} {ops : Array Oper} {Q : Exit → Act → World → Prop} {p : Nat → Bool} {V : Nat → World → Value → Prop} {w : World} {a0 : Act} {LP : Array Bool} {K : Nat} (hm : P.follows .mixedOrders = true) (hB : looseGB ops p a0.tmps.size = true)
    (stable : ∀ i u u' v, Kp (fun _ => False) u u' → V i u v → V i u' v)
    (hstep : ∀ (i : Nat) (o : Oper), ops[i]? = some o → p i = true → ∀ a u, Kp (fun _ => False) w u →
      (∀ s, (∀ (j : Nat) (oj : Oper), ops[j]? = some oj → p j = true → oj.dst ≠ some s) → a.tmps.getD s undef = a0.tmps.getD s undef) →
      (∀ e ∈ o.after, Region.binds .any e = true → ∀ (oj : Oper) (d : Nat), ops[e.on]? = some oj → oj.dst = some d → V e.on u (a.tmps.getD d undef)) →
      LG P ops Q V i o a u)
    (hLs : LP.size = ops.size) (hLP : ∀ i, i < ops.size → LP.getD i false = p i) (hK : cntU ops.size LP = K)
    (hend : ∀ a u, LInv ops V w a0 (fun i => p i = true) a u → wpAny P .any ops Q K LP a u) : (Code.region id ops true).wp P Q a0 w := by
  refine wp_region_any hm ?_
  refine wpAny_looseG (looseGB_spec hB) stable hstep hLs hLP (fun a u h => by rw [hK]; exact hend a u h) ops.size _ a0 _ (by simp) ?_ (fun i hi h => ?_) (fun i h => ?_) ⟨(Kp.refl (fun _ => False) w).drew, fun i o d ho h => ?_, fun _ _ => rfl, rfl, rfl⟩
  · have : ∀ n, cntU n (Array.replicate ops.size false) = n := fun n => by
      induction n with
      | zero => rfl
      | succ n ih => rw [cntU_succ, ih]; simp [unl, Array.getD_eq_getD_getElem?, Array.getElem?_replicate]; split <;> simp
    rw [this]
  · simp [Array.getD_eq_getD_getElem?, Array.getElem?_replicate] at h
    split at h <;> simp at h
  · simp [Array.getD_eq_getD_getElem?, Array.getElem?_replicate] at h
    split at h <;> simp at h
  · simp [Array.getD_eq_getD_getElem?, Array.getElem?_replicate] at h
    split at h <;> simp at h

end Go.Proofs.YtnoknecfdnjomaaGreat

/-
  step.Machine: Bad, Holds.
-/
namespace Go.Proofs.YtnoknecfdnjomaaGreat
open Go.RowKit

set_option maxRecDepth 100000 in
set_option maxHeartbeats 4000000 in
theorem step_Bad (V : CV) (C : Circ) (p : Nat) (a4 a5 : Option Addr) (c4 c5 : Nat) (sa : Option Addr) (sn sc : Nat) (ia : Option Addr) (in_ ic : Nat) (st ip : List Bool) (pr : Int) (w : World) (hM : MAt w 99 V C p a4 c4 a5 c5) (hf : CFew C 1000000) (hg : GoodC C) (hs : BS w sa sn st) (hi : BS w ia in_ ip) :
    Calls Tryz.prog 61 #[.pointer (some ⟨p, 0, none⟩), .slice sa sn sc, .slice ia in_ ic, .int .i64 pr] w fun e w' => e = .returned (.bool (badM C st ip pr)) ∧ Kp (fun _ => False) w w' := by
  have HIn := Lib.hid (fun u (hu : Kp (fun _ => False) w u) => step_in V C p a4 a5 c4 c5 sa sn sc ia in_ ic st ip u (hM.kp hu) hf hg (hs.kp hu) (hi.kp hu))
  have HL := Lib.hid (fun u (hu : Kp (fun _ => False) w u) va vc (hv : RowAt u va (bv (valsM C st ip))) => step_lit (vc := vc) (c5 := c5) hf hg (hM.ats.kp hu (fun _ _ h => h)) hv u (Kp.refl _ _))
  obtain ⟨nb, hnb⟩ : ∃ n, C.bads.length = n := ⟨_, rfl⟩
  have hnb1 : nb ≤ 1000000 := by have := hf.b; omega
  have hB : w.cell? ⟨p, 4, none⟩ = some (.slice V.ab nb V.cb) := hM.blk.cell (i := 4) (by rw [← hnb]; rfl)
  have HM := Lib.hid hM
  have HNb := Lib.hid hnb
  obtain ⟨r, hr⟩ : ∃ r, badM C st ip pr = r := ⟨_, rfl⟩
  rw [hr]
  unfold badM at hr
  rw [hnb] at hr
  clear hM hf hg hs hi hnb
  by_cases h0 : 0 ≤ pr
  · by_cases h1 : pr < (nb : Int)
    · obtain ⟨k, rfl⟩ : ∃ k : Nat, pr = (k : Int) := ⟨pr.toNat, by omega⟩
      have hkl : k < C.bads.length := by rw [HNb.out]; omega
      obtain ⟨b, off, ea, e0⟩ := HM.out.circ.b.get hkl
      have hc := fun u hu va vc hv => HL.out u hu va vc hv _ (bad_used hkl)
      obtain ⟨x, hx⟩ : ∃ x, gi C.bads k = x := ⟨_, rfl⟩
      rw [decide_eq_true (⟨h0, h1⟩ : 0 ≤ (k : Int) ∧ (k : Int) < (nb : Int)), Bool.true_and, Int.toNat_natCast, hx] at hr
      rw [hx] at e0 hc
      rw [hr] at hc
      have HB : Hid (Blk w p #[.int .i64 C.max, .slice V.ai C.ins.length V.ci, .slice V.al C.lats.length V.cl, .slice V.ao C.outs.length V.co, .slice (some ⟨b, off, none⟩) nb V.cb, .slice V.ac C.cons.length V.cc, .slice V.ag C.gates.length V.cg, .slice V.ay V.ny V.cy, .string V.cm, .slice a4 (netOf C).1.length c4, .slice a5 (netOf C).2.length c5] 99) := Lib.hid (by
        have h := HM.out.blk
        unfold cvals at h
        rw [HNb.out, ea] at h
        exact h)
      have HIs := Lib.hid hc
      have E0 := Lib.hid e0
      clear hr hc hx ea hkl hB HL HM e0
      go_enter Tryz.func61, Tryz.ntmps61
      go_upto_region 1 with fail
      refine wp_region_looseG (p := upTo 32) (V := atV [EqV ((.pointer (some ⟨p, 0, none⟩))), EqV (.bool true), EqV (.bool true), EqV ((.int .i64 (k : Int))), EqV (.bool true), EqV (.bool true), EqV (.bool true), EqV ((.int .i64 (k : Int))), EqV ((.pointer (some ⟨p, 0, none⟩))), EqV (.pointer (some ⟨p, 0, none⟩)), EqV (.pointer (some ⟨p, 0, none⟩)), EqV (.pointer (some ⟨p, 4, none⟩)), EqV (.slice (some ⟨b, off, none⟩) nb V.cb), EqV (.int .i64 (nb : Int)), EqV (.bool true), EqV (.bool true), EqV (.bool true), EqV ((.pointer (some ⟨p, 0, none⟩))), EqV ((.slice sa sn sc)), EqV ((.slice ia in_ ic)), (fun u v => ∃ va vc, v = .agg #[.pointer (some ⟨p, 0, none⟩), .slice va ((netOf C).1.length + 1) vc, .slice a5 (netOf C).2.length c5] ∧ RowAt u va (bv (valsM C st ip))), (fun u v => ∃ va vc, v = .agg #[.slice va ((netOf C).1.length + 1) vc, .slice a5 (netOf C).2.length c5] ∧ RowAt u va (bv (valsM C st ip))), EqV ((.pointer (some ⟨p, 0, none⟩))), EqV (.pointer (some ⟨p, 0, none⟩)), EqV (.pointer (some ⟨p, 0, none⟩)), EqV (.pointer (some ⟨p, 4, none⟩)), EqV (.slice (some ⟨b, off, none⟩) nb V.cb), EqV ((.int .i64 (k : Int))), EqV (.pointer (some ⟨b, off + k * 1, none⟩)), EqV (.int .i64 x), EqV (.bool r), EqV (.bool r)]) (LP := #[true, true, true, true, true, true, true, true, true, true, true, true, true, true, true, true, true, true, true, true, true, true, true, true, true, true, true, true, true, true, true, true, false]) (K := 1) (by kernel_rfl) (by kernel_rfl) (atV_st ?hstL1) ?hstepL1 (by kernel_rfl) ?hLPL1 (by kernel_rfl) ?hendL1
      case hstL1 =>
        intro W h
        simp only [List.mem_cons, List.not_mem_nil, or_false] at h
        rcases h with rfl | rfl | rfl | rfl | rfl | rfl | rfl | rfl | rfl | rfl | rfl | rfl | rfl | rfl | rfl | rfl | rfl | rfl | rfl | rfl | rfl | rfl | rfl | rfl | rfl | rfl | rfl | rfl | rfl | rfl | rfl | rfl <;> first | exact EqV.st _ | exact fun _ _ _ k ⟨va, vc, h1, h2⟩ => ⟨va, vc, h1, h2.kp k (fun _ _ h => h)⟩
      case hLPL1 => exact upTo_spec (by kernel_rfl)
      case hstepL1 =>
        intro i o ho hp a u hk hoff hdep
        have e0 : a.tmps[0]?.getD undef = (.pointer (some ⟨p, 0, none⟩)) := slot_at (hoff 0 (noDst_spec (by kernel_rfl)))
        have e1 : a.tmps[1]?.getD undef = (.slice sa sn sc) := slot_at (hoff 1 (noDst_spec (by kernel_rfl)))
        have e2 : a.tmps[2]?.getD undef = (.slice ia in_ ic) := slot_at (hoff 2 (noDst_spec (by kernel_rfl)))
        have e3 : a.tmps[3]?.getD undef = (.int .i64 (k : Int)) := slot_at (hoff 3 (noDst_spec (by kernel_rfl)))
        clear hoff
        match i, ho with
        | 0, ho =>
          obtain rfl := Option.some.inj ho
          refine lg_none rfl ?_
          refine lw_value (v := (.pointer (some ⟨p, 0, none⟩))) (u' := u) ?_ (Kp.refl _ _) rfl
          go_simp
        | 1, ho =>
          obtain rfl := Option.some.inj ho
          have e9 : a.tmps[9]?.getD undef = (.pointer (some ⟨p, 0, none⟩)) := slot_at (hdep ⟨0, .data⟩ (by simp) rfl _ 9 rfl rfl)
          refine lg_none rfl ?_
          refine lw_value (v := .bool true) (u' := u) ?_ (Kp.refl _ _) rfl
          go_simp
        | 2, ho =>
          obtain rfl := Option.some.inj ho
          have e10 : a.tmps[10]?.getD undef = .bool true := slot_at (hdep ⟨1, .data⟩ (by simp) rfl _ 10 rfl rfl)
          refine lg_none rfl ?_
          refine lw_value (v := .bool true) (u' := u) ?_ (Kp.refl _ _) rfl
          go_simp
        | 3, ho =>
          obtain rfl := Option.some.inj ho
          have e11 : a.tmps[11]?.getD undef = .bool true := slot_at (hdep ⟨2, .guard⟩ (by simp) rfl _ 11 rfl rfl)
          refine lg_on (x := 11) rfl rfl e11 ?_
          refine lw_value (v := (.int .i64 (k : Int))) (u' := u) ?_ (Kp.refl _ _) rfl
          go_simp
        | 4, ho =>
          obtain rfl := Option.some.inj ho
          have e12 : a.tmps[12]?.getD undef = (.int .i64 (k : Int)) := slot_at (hdep ⟨3, .data⟩ (by simp) rfl _ 12 rfl rfl)
          have e11 : a.tmps[11]?.getD undef = .bool true := slot_at (hdep ⟨2, .guard⟩ (by simp) rfl _ 11 rfl rfl)
          refine lg_on (x := 11) rfl rfl e11 ?_
          refine lw_value (v := .bool true) (u' := u) ?_ (Kp.refl _ _) rfl
          go_simp
        | 5, ho =>
          obtain rfl := Option.some.inj ho
          have e11 : a.tmps[11]?.getD undef = .bool true := slot_at (hdep ⟨2, .data⟩ (by simp) rfl _ 11 rfl rfl)
          have e13 : a.tmps[13]?.getD undef = .bool true := slot_at (hdep ⟨4, .data⟩ (by simp) rfl _ 13 rfl rfl)
          refine lg_none rfl ?_
          refine lw_value (v := .bool true) (u' := u) ?_ (Kp.refl _ _) rfl
          go_simp
        | 6, ho =>
          obtain rfl := Option.some.inj ho
          have e14 : a.tmps[14]?.getD undef = .bool true := slot_at (hdep ⟨5, .data⟩ (by simp) rfl _ 14 rfl rfl)
          refine lg_none rfl ?_
          refine lw_value (v := .bool true) (u' := u) ?_ (Kp.refl _ _) rfl
          go_simp
        | 7, ho =>
          obtain rfl := Option.some.inj ho
          have e15 : a.tmps[15]?.getD undef = .bool true := slot_at (hdep ⟨6, .guard⟩ (by simp) rfl _ 15 rfl rfl)
          refine lg_on (x := 15) rfl rfl e15 ?_
          refine lw_value (v := (.int .i64 (k : Int))) (u' := u) ?_ (Kp.refl _ _) rfl
          go_simp
        | 8, ho =>
          obtain rfl := Option.some.inj ho
          have e15 : a.tmps[15]?.getD undef = .bool true := slot_at (hdep ⟨6, .guard⟩ (by simp) rfl _ 15 rfl rfl)
          refine lg_on (x := 15) rfl rfl e15 ?_
          refine lw_value (v := (.pointer (some ⟨p, 0, none⟩))) (u' := u) ?_ (Kp.refl _ _) rfl
          go_simp
        | 9, ho =>
          obtain rfl := Option.some.inj ho
          have e17 : a.tmps[17]?.getD undef = (.pointer (some ⟨p, 0, none⟩)) := slot_at (hdep ⟨8, .data⟩ (by simp) rfl _ 17 rfl rfl)
          have e15 : a.tmps[15]?.getD undef = .bool true := slot_at (hdep ⟨6, .guard⟩ (by simp) rfl _ 15 rfl rfl)
          refine lg_on (x := 15) rfl rfl e15 ?_
          refine lw_value (v := .pointer (some ⟨p, 0, none⟩)) (u' := u) ?_ (Kp.refl _ _) rfl
          go_simp
        | 10, ho =>
          obtain rfl := Option.some.inj ho
          have e18 : a.tmps[18]?.getD undef = .pointer (some ⟨p, 0, none⟩) := slot_at (hdep ⟨9, .data⟩ (by simp) rfl _ 18 rfl rfl)
          have e15 : a.tmps[15]?.getD undef = .bool true := slot_at (hdep ⟨6, .guard⟩ (by simp) rfl _ 15 rfl rfl)
          refine lg_on (x := 15) rfl rfl e15 ?_
          refine lw_value (v := .pointer (some ⟨p, 0, none⟩)) (u' := u) ?_ (Kp.refl _ _) rfl
          go_simp
        | 11, ho =>
          obtain rfl := Option.some.inj ho
          have e19 : a.tmps[19]?.getD undef = .pointer (some ⟨p, 0, none⟩) := slot_at (hdep ⟨10, .data⟩ (by simp) rfl _ 19 rfl rfl)
          have e15 : a.tmps[15]?.getD undef = .bool true := slot_at (hdep ⟨6, .guard⟩ (by simp) rfl _ 15 rfl rfl)
          refine lg_on (x := 15) rfl rfl e15 ?_
          refine lw_value (v := .pointer (some ⟨p, 4, none⟩)) (u' := u) ?_ (Kp.refl _ _) rfl
          go_simp
        | 12, ho =>
          obtain rfl := Option.some.inj ho
          have e20 : a.tmps[20]?.getD undef = .pointer (some ⟨p, 4, none⟩) := slot_at (hdep ⟨11, .data⟩ (by simp) rfl _ 20 rfl rfl)
          have e15 : a.tmps[15]?.getD undef = .bool true := slot_at (hdep ⟨6, .guard⟩ (by simp) rfl _ 15 rfl rfl)
          refine lg_on (x := 15) rfl rfl e15 ?_
          have c1 := (HB.out.kp hk (fun h => h)).cell (i := 4) (v := .slice (some ⟨b, off, none⟩) nb V.cb) rfl
          refine lw_value (v := .slice (some ⟨b, off, none⟩) nb V.cb) (u' := u) ?_ (Kp.refl _ _) rfl
          go_simp
        | 13, ho =>
          obtain rfl := Option.some.inj ho
          have e21 : a.tmps[21]?.getD undef = .slice (some ⟨b, off, none⟩) nb V.cb := slot_at (hdep ⟨12, .data⟩ (by simp) rfl _ 21 rfl rfl)
          have e15 : a.tmps[15]?.getD undef = .bool true := slot_at (hdep ⟨6, .guard⟩ (by simp) rfl _ 15 rfl rfl)
          refine lg_on (x := 15) rfl rfl e15 ?_
          refine lw_value (v := .int .i64 (nb : Int)) (u' := u) ?_ (Kp.refl _ _) rfl
          go_simp
        | 14, ho =>
          obtain rfl := Option.some.inj ho
          have e16 : a.tmps[16]?.getD undef = (.int .i64 (k : Int)) := slot_at (hdep ⟨7, .data⟩ (by simp) rfl _ 16 rfl rfl)
          have e22 : a.tmps[22]?.getD undef = .int .i64 (nb : Int) := slot_at (hdep ⟨13, .data⟩ (by simp) rfl _ 22 rfl rfl)
          have e15 : a.tmps[15]?.getD undef = .bool true := slot_at (hdep ⟨6, .guard⟩ (by simp) rfl _ 15 rfl rfl)
          refine lg_on (x := 15) rfl rfl e15 ?_
          refine lw_value (v := .bool true) (u' := u) ?_ (Kp.refl _ _) rfl
          go_simp
        | 15, ho =>
          obtain rfl := Option.some.inj ho
          have e15 : a.tmps[15]?.getD undef = .bool true := slot_at (hdep ⟨6, .data⟩ (by simp) rfl _ 15 rfl rfl)
          have e23 : a.tmps[23]?.getD undef = .bool true := slot_at (hdep ⟨14, .data⟩ (by simp) rfl _ 23 rfl rfl)
          refine lg_none rfl ?_
          refine lw_value (v := .bool true) (u' := u) ?_ (Kp.refl _ _) rfl
          go_simp
        | 16, ho =>
          obtain rfl := Option.some.inj ho
          have e24 : a.tmps[24]?.getD undef = .bool true := slot_at (hdep ⟨15, .data⟩ (by simp) rfl _ 24 rfl rfl)
          refine lg_none rfl ?_
          refine lw_value (v := .bool true) (u' := u) ?_ (Kp.refl _ _) rfl
          go_simp
        | 17, ho =>
          obtain rfl := Option.some.inj ho
          have e25 : a.tmps[25]?.getD undef = .bool true := slot_at (hdep ⟨16, .guard⟩ (by simp) rfl _ 25 rfl rfl)
          refine lg_on (x := 25) rfl rfl e25 ?_
          refine lw_value (v := (.pointer (some ⟨p, 0, none⟩))) (u' := u) ?_ (Kp.refl _ _) rfl
          go_simp
        | 18, ho =>
          obtain rfl := Option.some.inj ho
          have e25 : a.tmps[25]?.getD undef = .bool true := slot_at (hdep ⟨16, .guard⟩ (by simp) rfl _ 25 rfl rfl)
          refine lg_on (x := 25) rfl rfl e25 ?_
          refine lw_value (v := (.slice sa sn sc)) (u' := u) ?_ (Kp.refl _ _) rfl
          go_simp
        | 19, ho =>
          obtain rfl := Option.some.inj ho
          have e25 : a.tmps[25]?.getD undef = .bool true := slot_at (hdep ⟨16, .guard⟩ (by simp) rfl _ 25 rfl rfl)
          refine lg_on (x := 25) rfl rfl e25 ?_
          refine lw_value (v := (.slice ia in_ ic)) (u' := u) ?_ (Kp.refl _ _) rfl
          go_simp
        | 20, ho =>
          obtain rfl := Option.some.inj ho
          have e26 : a.tmps[26]?.getD undef = (.pointer (some ⟨p, 0, none⟩)) := slot_at (hdep ⟨17, .data⟩ (by simp) rfl _ 26 rfl rfl)
          have e27 : a.tmps[27]?.getD undef = (.slice sa sn sc) := slot_at (hdep ⟨18, .data⟩ (by simp) rfl _ 27 rfl rfl)
          have e28 : a.tmps[28]?.getD undef = (.slice ia in_ ic) := slot_at (hdep ⟨19, .data⟩ (by simp) rfl _ 28 rfl rfl)
          have e25 : a.tmps[25]?.getD undef = .bool true := slot_at (hdep ⟨16, .chain⟩ (by simp) rfl _ 25 rfl rfl)
          refine lg_on (x := 25) rfl rfl e25 ?_
          refine lw_call (f := 83) (args := #[.pointer (some ⟨p, 0, none⟩), .slice sa sn sc, .slice ia in_ ic]) ?_ ?_
          · go_simp
          · exact (HIn.out u hk).mono (by
              rintro e u' ⟨⟨va, vc, rfl, hv⟩, hK⟩
              exact ⟨_, rfl, hK, va, vc, rfl, hv⟩)
        | 21, ho =>
          obtain rfl := Option.some.inj ho
          have e25 : a.tmps[25]?.getD undef = .bool true := slot_at (hdep ⟨16, .guard⟩ (by simp) rfl _ 25 rfl rfl)
          refine lg_on (x := 25) rfl rfl e25 ?_
          obtain ⟨va, vc, ev, hvr⟩ : ∃ va vc, (a.tmps.getD 29 undef) = .agg #[.pointer (some ⟨p, 0, none⟩), .slice va ((netOf C).1.length + 1) vc, .slice a5 (netOf C).2.length c5] ∧ RowAt u va (bv (valsM C st ip)) := hdep ⟨20, .data⟩ (by simp) rfl _ 29 rfl rfl
          have e29 := slot_at ev
          have hfd : ∀ W, (Instr.field 118 (.agg #[.pointer (some ⟨p, 0, none⟩), .slice va ((netOf C).1.length + 1) vc, .slice a5 (netOf C).2.length c5]) 1).run Tryz.prog W = .ok (.agg #[.slice va ((netOf C).1.length + 1) vc, .slice a5 (netOf C).2.length c5]) W := fun _ => by kernel_rfl
          refine lw_value (v := .agg #[.slice va ((netOf C).1.length + 1) vc, .slice a5 (netOf C).2.length c5]) (u' := u) ?_ (Kp.refl _ _) ⟨va, vc, rfl, hvr⟩
          go_simp
        | 22, ho =>
          obtain rfl := Option.some.inj ho
          have e25 : a.tmps[25]?.getD undef = .bool true := slot_at (hdep ⟨16, .guard⟩ (by simp) rfl _ 25 rfl rfl)
          refine lg_on (x := 25) rfl rfl e25 ?_
          refine lw_value (v := (.pointer (some ⟨p, 0, none⟩))) (u' := u) ?_ (Kp.refl _ _) rfl
          go_simp
        | 23, ho =>
          obtain rfl := Option.some.inj ho
          have e31 : a.tmps[31]?.getD undef = (.pointer (some ⟨p, 0, none⟩)) := slot_at (hdep ⟨22, .data⟩ (by simp) rfl _ 31 rfl rfl)
          have e25 : a.tmps[25]?.getD undef = .bool true := slot_at (hdep ⟨16, .guard⟩ (by simp) rfl _ 25 rfl rfl)
          refine lg_on (x := 25) rfl rfl e25 ?_
          refine lw_value (v := .pointer (some ⟨p, 0, none⟩)) (u' := u) ?_ (Kp.refl _ _) rfl
          go_simp
        | 24, ho =>
          obtain rfl := Option.some.inj ho
          have e32 : a.tmps[32]?.getD undef = .pointer (some ⟨p, 0, none⟩) := slot_at (hdep ⟨23, .data⟩ (by simp) rfl _ 32 rfl rfl)
          have e25 : a.tmps[25]?.getD undef = .bool true := slot_at (hdep ⟨16, .guard⟩ (by simp) rfl _ 25 rfl rfl)
          refine lg_on (x := 25) rfl rfl e25 ?_
          refine lw_value (v := .pointer (some ⟨p, 0, none⟩)) (u' := u) ?_ (Kp.refl _ _) rfl
          go_simp
        | 25, ho =>
          obtain rfl := Option.some.inj ho
          have e33 : a.tmps[33]?.getD undef = .pointer (some ⟨p, 0, none⟩) := slot_at (hdep ⟨24, .data⟩ (by simp) rfl _ 33 rfl rfl)
          have e25 : a.tmps[25]?.getD undef = .bool true := slot_at (hdep ⟨16, .guard⟩ (by simp) rfl _ 25 rfl rfl)
          refine lg_on (x := 25) rfl rfl e25 ?_
          refine lw_value (v := .pointer (some ⟨p, 4, none⟩)) (u' := u) ?_ (Kp.refl _ _) rfl
          go_simp
        | 26, ho =>
          obtain rfl := Option.some.inj ho
          have e34 : a.tmps[34]?.getD undef = .pointer (some ⟨p, 4, none⟩) := slot_at (hdep ⟨25, .data⟩ (by simp) rfl _ 34 rfl rfl)
          have e25 : a.tmps[25]?.getD undef = .bool true := slot_at (hdep ⟨16, .guard⟩ (by simp) rfl _ 25 rfl rfl)
          refine lg_on (x := 25) rfl rfl e25 ?_
          have c1 := (HB.out.kp hk (fun h => h)).cell (i := 4) (v := .slice (some ⟨b, off, none⟩) nb V.cb) rfl
          refine lw_value (v := .slice (some ⟨b, off, none⟩) nb V.cb) (u' := u) ?_ (Kp.refl _ _) rfl
          go_simp
        | 27, ho =>
          obtain rfl := Option.some.inj ho
          have e25 : a.tmps[25]?.getD undef = .bool true := slot_at (hdep ⟨16, .guard⟩ (by simp) rfl _ 25 rfl rfl)
          refine lg_on (x := 25) rfl rfl e25 ?_
          refine lw_value (v := (.int .i64 (k : Int))) (u' := u) ?_ (Kp.refl _ _) rfl
          go_simp
        | 28, ho =>
          obtain rfl := Option.some.inj ho
          have e35 : a.tmps[35]?.getD undef = .slice (some ⟨b, off, none⟩) nb V.cb := slot_at (hdep ⟨26, .data⟩ (by simp) rfl _ 35 rfl rfl)
          have e36 : a.tmps[36]?.getD undef = (.int .i64 (k : Int)) := slot_at (hdep ⟨27, .data⟩ (by simp) rfl _ 36 rfl rfl)
          have e25 : a.tmps[25]?.getD undef = .bool true := slot_at (hdep ⟨16, .guard⟩ (by simp) rfl _ 25 rfl rfl)
          refine lg_on (x := 25) rfl rfl e25 ?_
          refine lw_value (v := .pointer (some ⟨b, off + k * 1, none⟩)) (u' := u) ?_ (Kp.refl _ _) rfl
          go_simp
        | 29, ho =>
          obtain rfl := Option.some.inj ho
          have e37 : a.tmps[37]?.getD undef = .pointer (some ⟨b, off + k * 1, none⟩) := slot_at (hdep ⟨28, .data⟩ (by simp) rfl _ 37 rfl rfl)
          have e25 : a.tmps[25]?.getD undef = .bool true := slot_at (hdep ⟨16, .guard⟩ (by simp) rfl _ 25 rfl rfl)
          refine lg_on (x := 25) rfl rfl e25 ?_
          have c1 := hk.cellK E0.out
          refine lw_value (v := .int .i64 x) (u' := u) ?_ (Kp.refl _ _) rfl
          go_simp
        | 30, ho =>
          obtain rfl := Option.some.inj ho
          have e38 : a.tmps[38]?.getD undef = .int .i64 x := slot_at (hdep ⟨29, .data⟩ (by simp) rfl _ 38 rfl rfl)
          have e25 : a.tmps[25]?.getD undef = .bool true := slot_at (hdep ⟨16, .guard⟩ (by simp) rfl _ 25 rfl rfl)
          refine lg_on (x := 25) rfl rfl e25 ?_
          obtain ⟨va, vc, ev, hvr⟩ : ∃ va vc, (a.tmps.getD 30 undef) = .agg #[.slice va ((netOf C).1.length + 1) vc, .slice a5 (netOf C).2.length c5] ∧ RowAt u va (bv (valsM C st ip)) := hdep ⟨21, .data⟩ (by simp) rfl _ 30 rfl rfl
          have e30 := slot_at ev
          refine lw_call (f := 85) (args := #[.agg #[.slice va ((netOf C).1.length + 1) vc, .slice a5 (netOf C).2.length c5], .int .i64 x]) ?_ ?_
          · go_simp
          · exact (HIs.out u hk va vc hvr).mono (by
              rintro e u' ⟨rfl, hK⟩
              exact ⟨_, rfl, hK, rfl⟩)
        | 31, ho =>
          obtain rfl := Option.some.inj ho
          have e25 : a.tmps[25]?.getD undef = .bool true := slot_at (hdep ⟨16, .data⟩ (by simp) rfl _ 25 rfl rfl)
          have e39 : a.tmps[39]?.getD undef = .bool r := slot_at (hdep ⟨30, .data⟩ (by simp) rfl _ 39 rfl rfl)
          refine lg_none rfl ?_
          refine lw_value (v := .bool r) (u' := u) ?_ (Kp.refl _ _) rfl
          go_simp
        | n + 32, _ => exact absurd hp (by simp [upTo])
      intro a u hI
      have hsz : a.tmps.size = 41 := hI.size
      have hdf : a.defers = [] := hI.defers
      have f0 : a.tmps.getD 0 undef = _ := hI.off 0 (noDst_spec (p := upTo 32) (by kernel_rfl))
      have f1 : a.tmps.getD 1 undef = _ := hI.off 1 (noDst_spec (p := upTo 32) (by kernel_rfl))
      have f2 : a.tmps.getD 2 undef = _ := hI.off 2 (noDst_spec (p := upTo 32) (by kernel_rfl))
      have f3 : a.tmps.getD 3 undef = _ := hI.off 3 (noDst_spec (p := upTo 32) (by kernel_rfl))
      have f4 : a.tmps.getD 4 undef = _ := hI.off 4 (noDst_spec (p := upTo 32) (by kernel_rfl))
      have f5 : a.tmps.getD 5 undef = _ := hI.off 5 (noDst_spec (p := upTo 32) (by kernel_rfl))
      have f6 : a.tmps.getD 6 undef = _ := hI.off 6 (noDst_spec (p := upTo 32) (by kernel_rfl))
      have f7 : a.tmps.getD 7 undef = _ := hI.off 7 (noDst_spec (p := upTo 32) (by kernel_rfl))
      have f8 : a.tmps.getD 8 undef = _ := hI.off 8 (noDst_spec (p := upTo 32) (by kernel_rfl))
      have f9 : a.tmps.getD 9 undef = (.pointer (some ⟨p, 0, none⟩)) := hI.val 0 _ 9 rfl rfl rfl
      have f10 : a.tmps.getD 10 undef = .bool true := hI.val 1 _ 10 rfl rfl rfl
      have f11 : a.tmps.getD 11 undef = .bool true := hI.val 2 _ 11 rfl rfl rfl
      have f12 : a.tmps.getD 12 undef = (.int .i64 (k : Int)) := hI.val 3 _ 12 rfl rfl rfl
      have f13 : a.tmps.getD 13 undef = .bool true := hI.val 4 _ 13 rfl rfl rfl
      have f14 : a.tmps.getD 14 undef = .bool true := hI.val 5 _ 14 rfl rfl rfl
      have f15 : a.tmps.getD 15 undef = .bool true := hI.val 6 _ 15 rfl rfl rfl
      have f16 : a.tmps.getD 16 undef = (.int .i64 (k : Int)) := hI.val 7 _ 16 rfl rfl rfl
      have f17 : a.tmps.getD 17 undef = (.pointer (some ⟨p, 0, none⟩)) := hI.val 8 _ 17 rfl rfl rfl
      have f18 : a.tmps.getD 18 undef = .pointer (some ⟨p, 0, none⟩) := hI.val 9 _ 18 rfl rfl rfl
      have f19 : a.tmps.getD 19 undef = .pointer (some ⟨p, 0, none⟩) := hI.val 10 _ 19 rfl rfl rfl
      have f20 : a.tmps.getD 20 undef = .pointer (some ⟨p, 4, none⟩) := hI.val 11 _ 20 rfl rfl rfl
      have f21 : a.tmps.getD 21 undef = .slice (some ⟨b, off, none⟩) nb V.cb := hI.val 12 _ 21 rfl rfl rfl
      have f22 : a.tmps.getD 22 undef = .int .i64 (nb : Int) := hI.val 13 _ 22 rfl rfl rfl
      have f23 : a.tmps.getD 23 undef = .bool true := hI.val 14 _ 23 rfl rfl rfl
      have f24 : a.tmps.getD 24 undef = .bool true := hI.val 15 _ 24 rfl rfl rfl
      have f25 : a.tmps.getD 25 undef = .bool true := hI.val 16 _ 25 rfl rfl rfl
      have f26 : a.tmps.getD 26 undef = (.pointer (some ⟨p, 0, none⟩)) := hI.val 17 _ 26 rfl rfl rfl
      have f27 : a.tmps.getD 27 undef = (.slice sa sn sc) := hI.val 18 _ 27 rfl rfl rfl
      have f28 : a.tmps.getD 28 undef = (.slice ia in_ ic) := hI.val 19 _ 28 rfl rfl rfl
      have g29 : ((fun u v => ∃ va vc, v = .agg #[.pointer (some ⟨p, 0, none⟩), .slice va ((netOf C).1.length + 1) vc, .slice a5 (netOf C).2.length c5] ∧ RowAt u va (bv (valsM C st ip)))) u (a.tmps.getD 29 undef) := hI.val 20 _ 29 rfl rfl rfl
      have g30 : ((fun u v => ∃ va vc, v = .agg #[.slice va ((netOf C).1.length + 1) vc, .slice a5 (netOf C).2.length c5] ∧ RowAt u va (bv (valsM C st ip)))) u (a.tmps.getD 30 undef) := hI.val 21 _ 30 rfl rfl rfl
      have f31 : a.tmps.getD 31 undef = (.pointer (some ⟨p, 0, none⟩)) := hI.val 22 _ 31 rfl rfl rfl
      have f32 : a.tmps.getD 32 undef = .pointer (some ⟨p, 0, none⟩) := hI.val 23 _ 32 rfl rfl rfl
      have f33 : a.tmps.getD 33 undef = .pointer (some ⟨p, 0, none⟩) := hI.val 24 _ 33 rfl rfl rfl
      have f34 : a.tmps.getD 34 undef = .pointer (some ⟨p, 4, none⟩) := hI.val 25 _ 34 rfl rfl rfl
      have f35 : a.tmps.getD 35 undef = .slice (some ⟨b, off, none⟩) nb V.cb := hI.val 26 _ 35 rfl rfl rfl
      have f36 : a.tmps.getD 36 undef = (.int .i64 (k : Int)) := hI.val 27 _ 36 rfl rfl rfl
      have f37 : a.tmps.getD 37 undef = .pointer (some ⟨b, off + k * 1, none⟩) := hI.val 28 _ 37 rfl rfl rfl
      have f38 : a.tmps.getD 38 undef = .int .i64 x := hI.val 29 _ 38 rfl rfl rfl
      have f39 : a.tmps.getD 39 undef = .bool r := hI.val 30 _ 39 rfl rfl rfl
      have f40 : a.tmps.getD 40 undef = .bool r := hI.val 31 _ 40 rfl rfl rfl
      have ha : a = ⟨#[a.tmps.getD 0 undef, a.tmps.getD 1 undef, a.tmps.getD 2 undef, a.tmps.getD 3 undef, a.tmps.getD 4 undef, a.tmps.getD 5 undef, a.tmps.getD 6 undef, a.tmps.getD 7 undef, a.tmps.getD 8 undef, a.tmps.getD 9 undef, a.tmps.getD 10 undef, a.tmps.getD 11 undef, a.tmps.getD 12 undef, a.tmps.getD 13 undef, a.tmps.getD 14 undef, a.tmps.getD 15 undef, a.tmps.getD 16 undef, a.tmps.getD 17 undef, a.tmps.getD 18 undef, a.tmps.getD 19 undef, a.tmps.getD 20 undef, a.tmps.getD 21 undef, a.tmps.getD 22 undef, a.tmps.getD 23 undef, a.tmps.getD 24 undef, a.tmps.getD 25 undef, a.tmps.getD 26 undef, a.tmps.getD 27 undef, a.tmps.getD 28 undef, a.tmps.getD 29 undef, a.tmps.getD 30 undef, a.tmps.getD 31 undef, a.tmps.getD 32 undef, a.tmps.getD 33 undef, a.tmps.getD 34 undef, a.tmps.getD 35 undef, a.tmps.getD 36 undef, a.tmps.getD 37 undef, a.tmps.getD 38 undef, a.tmps.getD 39 undef, a.tmps.getD 40 undef], a.defers⟩ := act_list a 41 hsz
      rw [hdf, f0, f1, f2, f3, f4, f5, f6, f7, f8, f9, f10, f11, f12, f13, f14, f15, f16, f17, f18, f19, f20, f21, f22, f23, f24, f25, f26, f27, f28, f31, f32, f33, f34, f35, f36, f37, f38, f39, f40] at ha
      obtain ⟨x29, hx29⟩ : ∃ x, a.tmps.getD 29 undef = x := ⟨_, rfl⟩
      obtain ⟨x30, hx30⟩ : ∃ x, a.tmps.getD 30 undef = x := ⟨_, rfl⟩
      rw [hx29, hx30] at ha
      rw [hx29] at g29
      rw [hx30] at g30
      have hku := hI.kp
      clear hI hsz hdf f0 f1 f2 f3 f4 f5 f6 f7 f8 f9 f10 f11 f12 f13 f14 f15 f16 f17 f18 f19 f20 f21 f22 f23 f24 f25 f26 f27 f28 f31 f32 f33 f34 f35 f36 f37 f38 f39 f40 hx29 hx30
      subst ha
      refine wpAny_tail 32 rfl (by kernel_rfl) ?_
      simp only [List.drop_succ_cons, List.drop_zero]
      have HKu := Lib.hid hku
      clear hku g29 g30
      go_wp2_with fail
      go_ret
      exact ⟨rfl, HKu.out⟩
    · have hd : decide (pr < (nb : Int)) = false := decide_eq_false h1
      have hd0 : decide (0 ≤ pr) = true := decide_eq_true h0
      rw [decide_eq_false (fun h => h1 h.2), Bool.false_and] at hr
      subst hr
      clear HIn HL
      go_enter Tryz.func61, Tryz.ntmps61
      go_upto_region 1 with fail
      go_quiet (fail)
      go_wp2_with fail
      go_ret
      exact ⟨rfl, (Kp.refl _ _).drewN _⟩
  · have hd : decide (0 ≤ pr) = false := decide_eq_false h0
    rw [decide_eq_false (fun h => h0 h.1), Bool.false_and] at hr
    subst hr
    clear HIn HL
    go_enter Tryz.func61, Tryz.ntmps61
    go_upto_region 1 with fail
    go_quiet (fail)
    go_wp2_with fail
    go_ret
    exact ⟨rfl, (Kp.refl _ _).drewN _⟩

set_option maxRecDepth 100000 in
set_option maxHeartbeats 4000000 in
theorem step_Holds (V : CV) (C : Circ) (p : Nat) (a4 a5 : Option Addr) (c4 c5 : Nat) (sa : Option Addr) (sn sc : Nat) (ia : Option Addr) (in_ ic : Nat) (st ip : List Bool) (w : World) (hM : MAt w 99 V C p a4 c4 a5 c5) (hf : CFew C 1000000) (hg : GoodC C) (hs : BS w sa sn st) (hi : BS w ia in_ ip) :
    Calls Tryz.prog 60 #[.pointer (some ⟨p, 0, none⟩), .slice sa sn sc, .slice ia in_ ic] w fun e w' => e = .returned (.bool (holdsM C st ip)) ∧ Kp (fun _ => False) w w' := by
  have HIn := Lib.hid (fun u (hu : Kp (fun _ => False) w u) => step_in V C p a4 a5 c4 c5 sa sn sc ia in_ ic st ip u (hM.kp hu) hf hg (hs.kp hu) (hi.kp hu))
  obtain ⟨nc, hnc⟩ : ∃ n, C.cons.length = n := ⟨_, rfl⟩
  have hnc1 : nc ≤ 1000000 := by have := hf.c; omega
  obtain ⟨r, hr⟩ : ∃ r, holdsM C st ip = r := ⟨_, rfl⟩
  rw [hr]
  unfold holdsM at hr
  have HAll := Lib.hid (fun u (hu : Kp (fun _ => False) w u) va vc (hv : RowAt u va (bv (valsM C st ip))) => by
    have h := step_all #[.slice va ((netOf C).1.length + 1) vc, .slice a5 (netOf C).2.length c5] _ _ rfl V.ac nc V.cc C.cons (litM C st ip) u ((hM.kp hu).circ.c) hnc hnc1 rfl rfl (fun u' hu' l hl => step_lit (vc := vc) (c5 := c5) hf hg ((hM.kp hu).ats) hv u' hu' l (by
      unfold Circ.used
      simp only [List.mem_append]
      exact .inl (.inl (.inr hl)))) va a5 _ vc _ c5 rfl rfl
    rw [hr] at h
    exact h)
  have HB : Hid (Blk w p #[.int .i64 C.max, .slice V.ai C.ins.length V.ci, .slice V.al C.lats.length V.cl, .slice V.ao C.outs.length V.co, .slice V.ab C.bads.length V.cb, .slice V.ac nc V.cc, .slice V.ag C.gates.length V.cg, .slice V.ay V.ny V.cy, .string V.cm, .slice a4 (netOf C).1.length c4, .slice a5 (netOf C).2.length c5] 99) := Lib.hid (by
    have h := hM.blk
    unfold cvals at h
    rw [hnc] at h
    exact h)
  clear hM hf hg hs hi hnc hr
  go_enter Tryz.func60, Tryz.ntmps60
  go_upto_region 1 with fail
  refine wp_region_looseG (p := upTo 15) (V := atV [EqV ((.pointer (some ⟨p, 0, none⟩))), EqV (.bool true), EqV (.bool true), EqV ((.pointer (some ⟨p, 0, none⟩))), EqV ((.slice sa sn sc)), EqV ((.slice ia in_ ic)), (fun u v => ∃ va vc, v = .agg #[.pointer (some ⟨p, 0, none⟩), .slice va ((netOf C).1.length + 1) vc, .slice a5 (netOf C).2.length c5] ∧ RowAt u va (bv (valsM C st ip))), (fun u v => ∃ va vc, v = .agg #[.slice va ((netOf C).1.length + 1) vc, .slice a5 (netOf C).2.length c5] ∧ RowAt u va (bv (valsM C st ip))), EqV ((.pointer (some ⟨p, 0, none⟩))), EqV (.pointer (some ⟨p, 0, none⟩)), EqV (.pointer (some ⟨p, 0, none⟩)), EqV (.pointer (some ⟨p, 5, none⟩)), EqV (.slice V.ac nc V.cc), EqV (.bool r), EqV (.bool r)]) (LP := #[true, true, true, true, true, true, true, true, true, true, true, true, true, true, true, false]) (K := 1) (by kernel_rfl) (by kernel_rfl) (atV_st ?hstL2) ?hstepL2 (by kernel_rfl) ?hLPL2 (by kernel_rfl) ?hendL2
  case hstL2 =>
    intro W h
    simp only [List.mem_cons, List.not_mem_nil, or_false] at h
    rcases h with rfl | rfl | rfl | rfl | rfl | rfl | rfl | rfl | rfl | rfl | rfl | rfl | rfl | rfl | rfl <;> first | exact EqV.st _ | exact fun _ _ _ k ⟨va, vc, h1, h2⟩ => ⟨va, vc, h1, h2.kp k (fun _ _ h => h)⟩
  case hLPL2 => exact upTo_spec (by kernel_rfl)
  case hstepL2 =>
    intro i o ho hp a u hk hoff hdep
    have e0 : a.tmps[0]?.getD undef = (.pointer (some ⟨p, 0, none⟩)) := slot_at (hoff 0 (noDst_spec (by kernel_rfl)))
    have e1 : a.tmps[1]?.getD undef = (.slice sa sn sc) := slot_at (hoff 1 (noDst_spec (by kernel_rfl)))
    have e2 : a.tmps[2]?.getD undef = (.slice ia in_ ic) := slot_at (hoff 2 (noDst_spec (by kernel_rfl)))
    clear hoff
    match i, ho with
    | 0, ho =>
      obtain rfl := Option.some.inj ho
      refine lg_none rfl ?_
      refine lw_value (v := (.pointer (some ⟨p, 0, none⟩))) (u' := u) ?_ (Kp.refl _ _) rfl
      go_simp
    | 1, ho =>
      obtain rfl := Option.some.inj ho
      have e7 : a.tmps[7]?.getD undef = (.pointer (some ⟨p, 0, none⟩)) := slot_at (hdep ⟨0, .data⟩ (by simp) rfl _ 7 rfl rfl)
      refine lg_none rfl ?_
      refine lw_value (v := .bool true) (u' := u) ?_ (Kp.refl _ _) rfl
      go_simp
    | 2, ho =>
      obtain rfl := Option.some.inj ho
      have e8 : a.tmps[8]?.getD undef = .bool true := slot_at (hdep ⟨1, .data⟩ (by simp) rfl _ 8 rfl rfl)
      refine lg_none rfl ?_
      refine lw_value (v := .bool true) (u' := u) ?_ (Kp.refl _ _) rfl
      go_simp
    | 3, ho =>
      obtain rfl := Option.some.inj ho
      have e9 : a.tmps[9]?.getD undef = .bool true := slot_at (hdep ⟨2, .guard⟩ (by simp) rfl _ 9 rfl rfl)
      refine lg_on (x := 9) rfl rfl e9 ?_
      refine lw_value (v := (.pointer (some ⟨p, 0, none⟩))) (u' := u) ?_ (Kp.refl _ _) rfl
      go_simp
    | 4, ho =>
      obtain rfl := Option.some.inj ho
      have e9 : a.tmps[9]?.getD undef = .bool true := slot_at (hdep ⟨2, .guard⟩ (by simp) rfl _ 9 rfl rfl)
      refine lg_on (x := 9) rfl rfl e9 ?_
      refine lw_value (v := (.slice sa sn sc)) (u' := u) ?_ (Kp.refl _ _) rfl
      go_simp
    | 5, ho =>
      obtain rfl := Option.some.inj ho
      have e9 : a.tmps[9]?.getD undef = .bool true := slot_at (hdep ⟨2, .guard⟩ (by simp) rfl _ 9 rfl rfl)
      refine lg_on (x := 9) rfl rfl e9 ?_
      refine lw_value (v := (.slice ia in_ ic)) (u' := u) ?_ (Kp.refl _ _) rfl
      go_simp
    | 6, ho =>
      obtain rfl := Option.some.inj ho
      have e10 : a.tmps[10]?.getD undef = (.pointer (some ⟨p, 0, none⟩)) := slot_at (hdep ⟨3, .data⟩ (by simp) rfl _ 10 rfl rfl)
      have e11 : a.tmps[11]?.getD undef = (.slice sa sn sc) := slot_at (hdep ⟨4, .data⟩ (by simp) rfl _ 11 rfl rfl)
      have e12 : a.tmps[12]?.getD undef = (.slice ia in_ ic) := slot_at (hdep ⟨5, .data⟩ (by simp) rfl _ 12 rfl rfl)
      have e9 : a.tmps[9]?.getD undef = .bool true := slot_at (hdep ⟨2, .chain⟩ (by simp) rfl _ 9 rfl rfl)
      refine lg_on (x := 9) rfl rfl e9 ?_
      refine lw_call (f := 83) (args := #[.pointer (some ⟨p, 0, none⟩), .slice sa sn sc, .slice ia in_ ic]) ?_ ?_
      · go_simp
      · exact (HIn.out u hk).mono (by
          rintro e u' ⟨⟨va, vc, rfl, hv⟩, hK⟩
          exact ⟨_, rfl, hK, va, vc, rfl, hv⟩)
    | 7, ho =>
      obtain rfl := Option.some.inj ho
      have e9 : a.tmps[9]?.getD undef = .bool true := slot_at (hdep ⟨2, .guard⟩ (by simp) rfl _ 9 rfl rfl)
      refine lg_on (x := 9) rfl rfl e9 ?_
      obtain ⟨va, vc, ev, hvr⟩ : ∃ va vc, (a.tmps.getD 13 undef) = .agg #[.pointer (some ⟨p, 0, none⟩), .slice va ((netOf C).1.length + 1) vc, .slice a5 (netOf C).2.length c5] ∧ RowAt u va (bv (valsM C st ip)) := hdep ⟨6, .data⟩ (by simp) rfl _ 13 rfl rfl
      have e13 := slot_at ev
      have hfd : ∀ W, (Instr.field 118 (.agg #[.pointer (some ⟨p, 0, none⟩), .slice va ((netOf C).1.length + 1) vc, .slice a5 (netOf C).2.length c5]) 1).run Tryz.prog W = .ok (.agg #[.slice va ((netOf C).1.length + 1) vc, .slice a5 (netOf C).2.length c5]) W := fun _ => by kernel_rfl
      refine lw_value (v := .agg #[.slice va ((netOf C).1.length + 1) vc, .slice a5 (netOf C).2.length c5]) (u' := u) ?_ (Kp.refl _ _) ⟨va, vc, rfl, hvr⟩
      go_simp
    | 8, ho =>
      obtain rfl := Option.some.inj ho
      have e9 : a.tmps[9]?.getD undef = .bool true := slot_at (hdep ⟨2, .guard⟩ (by simp) rfl _ 9 rfl rfl)
      refine lg_on (x := 9) rfl rfl e9 ?_
      refine lw_value (v := (.pointer (some ⟨p, 0, none⟩))) (u' := u) ?_ (Kp.refl _ _) rfl
      go_simp
    | 9, ho =>
      obtain rfl := Option.some.inj ho
      have e15 : a.tmps[15]?.getD undef = (.pointer (some ⟨p, 0, none⟩)) := slot_at (hdep ⟨8, .data⟩ (by simp) rfl _ 15 rfl rfl)
      have e9 : a.tmps[9]?.getD undef = .bool true := slot_at (hdep ⟨2, .guard⟩ (by simp) rfl _ 9 rfl rfl)
      refine lg_on (x := 9) rfl rfl e9 ?_
      refine lw_value (v := .pointer (some ⟨p, 0, none⟩)) (u' := u) ?_ (Kp.refl _ _) rfl
      go_simp
    | 10, ho =>
      obtain rfl := Option.some.inj ho
      have e16 : a.tmps[16]?.getD undef = .pointer (some ⟨p, 0, none⟩) := slot_at (hdep ⟨9, .data⟩ (by simp) rfl _ 16 rfl rfl)
      have e9 : a.tmps[9]?.getD undef = .bool true := slot_at (hdep ⟨2, .guard⟩ (by simp) rfl _ 9 rfl rfl)
      refine lg_on (x := 9) rfl rfl e9 ?_
      refine lw_value (v := .pointer (some ⟨p, 0, none⟩)) (u' := u) ?_ (Kp.refl _ _) rfl
      go_simp
    | 11, ho =>
      obtain rfl := Option.some.inj ho
      have e17 : a.tmps[17]?.getD undef = .pointer (some ⟨p, 0, none⟩) := slot_at (hdep ⟨10, .data⟩ (by simp) rfl _ 17 rfl rfl)
      have e9 : a.tmps[9]?.getD undef = .bool true := slot_at (hdep ⟨2, .guard⟩ (by simp) rfl _ 9 rfl rfl)
      refine lg_on (x := 9) rfl rfl e9 ?_
      refine lw_value (v := .pointer (some ⟨p, 5, none⟩)) (u' := u) ?_ (Kp.refl _ _) rfl
      go_simp
    | 12, ho =>
      obtain rfl := Option.some.inj ho
      have e18 : a.tmps[18]?.getD undef = .pointer (some ⟨p, 5, none⟩) := slot_at (hdep ⟨11, .data⟩ (by simp) rfl _ 18 rfl rfl)
      have e9 : a.tmps[9]?.getD undef = .bool true := slot_at (hdep ⟨2, .guard⟩ (by simp) rfl _ 9 rfl rfl)
      refine lg_on (x := 9) rfl rfl e9 ?_
      have c1 := (HB.out.kp hk (fun h => h)).cell (i := 5) (v := .slice V.ac nc V.cc) rfl
      refine lw_value (v := .slice V.ac nc V.cc) (u' := u) ?_ (Kp.refl _ _) rfl
      go_simp
    | 13, ho =>
      obtain rfl := Option.some.inj ho
      have e19 : a.tmps[19]?.getD undef = .slice V.ac nc V.cc := slot_at (hdep ⟨12, .data⟩ (by simp) rfl _ 19 rfl rfl)
      have e9 : a.tmps[9]?.getD undef = .bool true := slot_at (hdep ⟨2, .guard⟩ (by simp) rfl _ 9 rfl rfl)
      refine lg_on (x := 9) rfl rfl e9 ?_
      obtain ⟨va, vc, ev, hvr⟩ : ∃ va vc, (a.tmps.getD 14 undef) = .agg #[.slice va ((netOf C).1.length + 1) vc, .slice a5 (netOf C).2.length c5] ∧ RowAt u va (bv (valsM C st ip)) := hdep ⟨7, .data⟩ (by simp) rfl _ 14 rfl rfl
      have e14 := slot_at ev
      refine lw_call (f := 84) (args := #[.agg #[.slice va ((netOf C).1.length + 1) vc, .slice a5 (netOf C).2.length c5], .slice V.ac nc V.cc]) ?_ ?_
      · go_simp
      · exact (HAll.out u hk va vc hvr).mono (by
          rintro e u' ⟨rfl, hK⟩
          exact ⟨_, rfl, hK, rfl⟩)
    | 14, ho =>
      obtain rfl := Option.some.inj ho
      have e9 : a.tmps[9]?.getD undef = .bool true := slot_at (hdep ⟨2, .data⟩ (by simp) rfl _ 9 rfl rfl)
      have e20 : a.tmps[20]?.getD undef = .bool r := slot_at (hdep ⟨13, .data⟩ (by simp) rfl _ 20 rfl rfl)
      refine lg_none rfl ?_
      refine lw_value (v := .bool r) (u' := u) ?_ (Kp.refl _ _) rfl
      go_simp
    | n + 15, _ => exact absurd hp (by simp [upTo])
  intro a u hI
  have hsz : a.tmps.size = 22 := hI.size
  have hdf : a.defers = [] := hI.defers
  have f0 : a.tmps.getD 0 undef = _ := hI.off 0 (noDst_spec (p := upTo 15) (by kernel_rfl))
  have f1 : a.tmps.getD 1 undef = _ := hI.off 1 (noDst_spec (p := upTo 15) (by kernel_rfl))
  have f2 : a.tmps.getD 2 undef = _ := hI.off 2 (noDst_spec (p := upTo 15) (by kernel_rfl))
  have f3 : a.tmps.getD 3 undef = _ := hI.off 3 (noDst_spec (p := upTo 15) (by kernel_rfl))
  have f4 : a.tmps.getD 4 undef = _ := hI.off 4 (noDst_spec (p := upTo 15) (by kernel_rfl))
  have f5 : a.tmps.getD 5 undef = _ := hI.off 5 (noDst_spec (p := upTo 15) (by kernel_rfl))
  have f6 : a.tmps.getD 6 undef = _ := hI.off 6 (noDst_spec (p := upTo 15) (by kernel_rfl))
  have f7 : a.tmps.getD 7 undef = (.pointer (some ⟨p, 0, none⟩)) := hI.val 0 _ 7 rfl rfl rfl
  have f8 : a.tmps.getD 8 undef = .bool true := hI.val 1 _ 8 rfl rfl rfl
  have f9 : a.tmps.getD 9 undef = .bool true := hI.val 2 _ 9 rfl rfl rfl
  have f10 : a.tmps.getD 10 undef = (.pointer (some ⟨p, 0, none⟩)) := hI.val 3 _ 10 rfl rfl rfl
  have f11 : a.tmps.getD 11 undef = (.slice sa sn sc) := hI.val 4 _ 11 rfl rfl rfl
  have f12 : a.tmps.getD 12 undef = (.slice ia in_ ic) := hI.val 5 _ 12 rfl rfl rfl
  have g13 : ((fun u v => ∃ va vc, v = .agg #[.pointer (some ⟨p, 0, none⟩), .slice va ((netOf C).1.length + 1) vc, .slice a5 (netOf C).2.length c5] ∧ RowAt u va (bv (valsM C st ip)))) u (a.tmps.getD 13 undef) := hI.val 6 _ 13 rfl rfl rfl
  have g14 : ((fun u v => ∃ va vc, v = .agg #[.slice va ((netOf C).1.length + 1) vc, .slice a5 (netOf C).2.length c5] ∧ RowAt u va (bv (valsM C st ip)))) u (a.tmps.getD 14 undef) := hI.val 7 _ 14 rfl rfl rfl
  have f15 : a.tmps.getD 15 undef = (.pointer (some ⟨p, 0, none⟩)) := hI.val 8 _ 15 rfl rfl rfl
  have f16 : a.tmps.getD 16 undef = .pointer (some ⟨p, 0, none⟩) := hI.val 9 _ 16 rfl rfl rfl
  have f17 : a.tmps.getD 17 undef = .pointer (some ⟨p, 0, none⟩) := hI.val 10 _ 17 rfl rfl rfl
  have f18 : a.tmps.getD 18 undef = .pointer (some ⟨p, 5, none⟩) := hI.val 11 _ 18 rfl rfl rfl
  have f19 : a.tmps.getD 19 undef = .slice V.ac nc V.cc := hI.val 12 _ 19 rfl rfl rfl
  have f20 : a.tmps.getD 20 undef = .bool r := hI.val 13 _ 20 rfl rfl rfl
  have f21 : a.tmps.getD 21 undef = .bool r := hI.val 14 _ 21 rfl rfl rfl
  have ha : a = ⟨#[a.tmps.getD 0 undef, a.tmps.getD 1 undef, a.tmps.getD 2 undef, a.tmps.getD 3 undef, a.tmps.getD 4 undef, a.tmps.getD 5 undef, a.tmps.getD 6 undef, a.tmps.getD 7 undef, a.tmps.getD 8 undef, a.tmps.getD 9 undef, a.tmps.getD 10 undef, a.tmps.getD 11 undef, a.tmps.getD 12 undef, a.tmps.getD 13 undef, a.tmps.getD 14 undef, a.tmps.getD 15 undef, a.tmps.getD 16 undef, a.tmps.getD 17 undef, a.tmps.getD 18 undef, a.tmps.getD 19 undef, a.tmps.getD 20 undef, a.tmps.getD 21 undef], a.defers⟩ := act_list a 22 hsz
  rw [hdf, f0, f1, f2, f3, f4, f5, f6, f7, f8, f9, f10, f11, f12, f15, f16, f17, f18, f19, f20, f21] at ha
  obtain ⟨x13, hx13⟩ : ∃ x, a.tmps.getD 13 undef = x := ⟨_, rfl⟩
  obtain ⟨x14, hx14⟩ : ∃ x, a.tmps.getD 14 undef = x := ⟨_, rfl⟩
  rw [hx13, hx14] at ha
  rw [hx13] at g13
  rw [hx14] at g14
  have hku := hI.kp
  clear hI hsz hdf f0 f1 f2 f3 f4 f5 f6 f7 f8 f9 f10 f11 f12 f15 f16 f17 f18 f19 f20 f21 hx13 hx14
  subst ha
  refine wpAny_tail 15 rfl (by kernel_rfl) ?_
  simp only [List.drop_succ_cons, List.drop_zero]
  have HKu := Lib.hid hku
  clear hku g13 g14
  go_wp2_with fail
  go_ret
  exact ⟨rfl, HKu.out⟩

end Go.Proofs.YtnoknecfdnjomaaGreat

/-
  explore: what a state does by itself.
-/
namespace Go.Proofs.YtnoknecfdnjomaaGreat
open Go.RowKit

theorem Kp.cellAt2 {w w' : World} (k : Kp (fun _ => False) w w') {b o : Nat} {v : Value} (h : w.cell? ⟨b, o, none⟩ = some v) : w'.cell? ⟨b, o, none⟩ = some v :=
  (World.cell?_of_block (w := w) (w' := w') (a := ⟨b, o, none⟩) (k.block b (World.block_lt_of_cell? w _ h) (fun h => h))).trans h

set_option maxRecDepth 100000 in
set_option maxHeartbeats 8000000 in
theorem ex_row {V : CV} {C : Circ} {p sp : Nat} {a4 a5 : Option Addr} {c4 c5 : Nat} {w : World} (hM : MAt w 99 V C p a4 c4 a5 c5) (hf : CFew C 1000000) (hg : GoodC C) (hs : w.cell? ⟨sp, 0, none⟩ = some (.pointer (some ⟨p, 0, none⟩))) (hl : C.lats.length ≤ 10) (hi : C.ins.length ≤ 8) (n : Nat) (hn : n < 2 ^ C.lats.length) (pr : Int) :
    Calls Tryz.prog 36 #[.pointer (some ⟨sp, 0, none⟩), .int .i64 n, .int .i64 pr] w fun e w' => (∃ b k, e = .returned (.agg #[.map (some b), .int .i64 (rowB C pr n), .int .i64 (-1), .int .i64 (-1)]) ∧ IMI w' b k (rowF2 C n) ∧ w.heap.size ≤ b ∧ k ≤ 256) ∧ Kp (fun _ => False) w w' := by
  have hmm := @run_makeMap Tryz.prog
  have HSt := Lib.hid (fun u (hu : Kp (fun _ => False) w u) => ex_state (hM.kp hu) hf ((hu.cellAt2 hs)) hl n hn)
  have HInp := Lib.hid (fun u (hu : Kp (fun _ => False) w u) k (hk : k < 2 ^ C.ins.length) => ex_input (hM.kp hu) hf ((hu.cellAt2 hs)) hi k hk)
  have HIs := Lib.hid (fun u (hu : Kp (fun _ => False) w u) => step_Inputs V C p a4 a5 c4 c5 u (hM.kp hu) hf)
  have HHo := Lib.hid (fun u (hu : Kp (fun _ => False) w u) k sa sc ia ic (h1 : BS u sa C.lats.length (stN C n)) (h2 : BS u ia C.ins.length (inN2 C k)) => show Calls Tryz.prog 60 #[.pointer (some ⟨p, 0, none⟩), .slice sa C.lats.length sc, .slice ia C.ins.length ic] u (fun e w' => e = .returned (.bool (hldN C n k)) ∧ Kp (fun _ => False) u w') from step_Holds V C p a4 a5 c4 c5 sa _ sc ia _ ic _ _ u (hM.kp hu) hf hg h1 h2)
  have HBa := Lib.hid (fun u (hu : Kp (fun _ => False) w u) k sa sc ia ic (h1 : BS u sa C.lats.length (stN C n)) (h2 : BS u ia C.ins.length (inN2 C k)) => show Calls Tryz.prog 61 #[.pointer (some ⟨p, 0, none⟩), .slice sa C.lats.length sc, .slice ia C.ins.length ic, .int .i64 pr] u (fun e w' => e = .returned (.bool (bdN C pr n k)) ∧ Kp (fun _ => False) u w') from step_Bad V C p a4 a5 c4 c5 sa _ sc ia _ ic _ _ pr u (hM.kp hu) hf hg h1 h2)
  have HNx := Lib.hid (fun u (hu : Kp (fun _ => False) w u) k sa sc ia ic (h1 : BS u sa C.lats.length (stN C n)) (h2 : BS u ia C.ins.length (inN2 C k)) => step_Next V C p a4 a5 c4 c5 sa _ sc ia _ ic _ _ u (hM.kp hu) hf hg h1 h2)
  have HNl := Lib.hid (fun k => nextM_len C (stN C n) (inN2 C k))
  have HXl := Lib.hid (fun k => show nxtN C n k < 1024 from by
    have h1 := numP_lt (nextM C (stN C n) (inN2 C k))
    rw [nextM_len] at h1
    have h2 := Nat.pow_le_pow_right (n := 2) (by decide) hl
    exact Nat.lt_of_lt_of_le h1 h2)
  have HNm := Lib.hid (fun (u : World) k a c (hr : RowAt u a (bv (nextM C (stN C n) (inN2 C k)))) => show Calls Tryz.prog 62 #[.slice a C.lats.length c] u (fun e w' => e = .returned (.int .i64 (nxtN C n k : Int)) ∧ u = w') from ex_number a _ c _ u hr (nextM_len C _ _) (by omega))
  have HSl := Lib.hid (show (stN C n).length = C.lats.length from bitsP_len _ _)
  have HIl := Lib.hid (fun k => show (inN2 C k).length = C.ins.length from bitsP_len _ _)
  have HRw := Lib.hid (show rowF2 C n = succK (hldN C n) (nxtN C n) (2 ^ C.ins.length) ∧ rowB C pr n = badK (hldN C n) (bdN C pr n) (2 ^ C.ins.length) from ⟨rfl, rfl⟩)
  obtain ⟨F2, hF2⟩ : ∃ F, rowF2 C n = F := ⟨_, rfl⟩
  obtain ⟨B2, hB2⟩ : ∃ B, rowB C pr n = B := ⟨_, rfl⟩
  rw [hF2, hB2] at HRw
  rw [hF2, hB2]
  obtain ⟨P, hP⟩ : ∃ P, 2 ^ C.ins.length = P := ⟨_, rfl⟩
  have hP9 : P ≤ 256 := by rw [← hP]; have h2 := Nat.pow_le_pow_right (n := 2) (by decide) hi; exact h2
  have HPw := Lib.hid (show wrap64 ((2 : Int) ^ C.ins.length) = (P : Int) by
    have e0 : ((2 : Int) ^ C.ins.length) = ((2 ^ C.ins.length : Nat) : Int) := by push_cast; rfl
    rw [e0, hP]
    unfold wrap64; omega)
  rw [hP] at HRw
  simp only [hP] at HInp
  obtain ⟨nl, hnl⟩ : ∃ nl, C.lats.length = nl := ⟨_, rfl⟩
  obtain ⟨ni, hni⟩ : ∃ ni, C.ins.length = ni := ⟨_, rfl⟩
  rw [hnl] at HSl
  simp only [hnl] at HNl HNm
  simp only [hnl, hni] at HHo HBa HNx
  simp only [hni] at HIs HIl
  rw [hni] at HPw
  obtain ⟨H, hH⟩ : ∃ H, hldN C n = H := ⟨_, rfl⟩
  obtain ⟨X, hX⟩ : ∃ X, nxtN C n = X := ⟨_, rfl⟩
  obtain ⟨B, hB⟩ : ∃ B, bdN C pr n = B := ⟨_, rfl⟩
  rw [hH, hX, hB] at HRw
  simp only [hH] at HHo
  simp only [hB] at HBa
  simp only [hX] at HNm HXl
  rw [hni] at hi
  rw [hnl] at hl
  clear hM hf hg hF2 hB2 hP hnl hni hH hX hB hn
  go_enter Tryz.func36, Tryz.ntmps36
  go_upto_region 2 with fail
  clear hmm
  obtain ⟨W1, hW1⟩ : ∃ W1, ((w.alloc (.cells #[.map none, .int .i64 0, .int .i64 0, .int .i64 0] 75)).alloc (.map #[] 0)).alloc (.cells #[.map (some (w.heap.size + 1)), .int .i64 (-1), .int .i64 (-1), .int .i64 (-1)] 75) = W1 := ⟨_, rfl⟩
  have k1 : Kp (fun _ => False) w W1 := by rw [← hW1]; exact (((Kp.refl _ w).alloc _).alloc _).alloc _
  have HR0 := Lib.hid (show Blk W1 w.heap.size #[.map none, .int .i64 0, .int .i64 0, .int .i64 0] 75 by rw [← hW1]; exact ((Blk.new w _ _).alloc _).alloc _)
  have HM0 := Lib.hid (show IMI W1 (w.heap.size + 1) 0 (succK H X 0) by
    rw [← hW1]
    have h := IMI.made (w.alloc (.cells #[.map none, .int .i64 0, .int .i64 0, .int .i64 0] 75))
    rw [World.size_alloc] at h
    exact h.kp ((Kp.refl (fun _ => False) _).alloc _) (fun h => h))
  have HX0 := Lib.hid (show Blk W1 (w.heap.size + 1 + 1) #[.map (some (w.heap.size + 1)), .int .i64 (-1), .int .i64 (-1), .int .i64 (-1)] 75 by
    rw [← hW1]
    have h := Blk.new ((w.alloc (.cells #[.map none, .int .i64 0, .int .i64 0, .int .i64 0] 75)).alloc (.map #[] 0)) #[.map (some (w.heap.size + 1)), .int .i64 (-1), .int .i64 (-1), .int .i64 (-1)] 75
    rw [World.size_alloc, World.size_alloc] at h
    exact h)
  rw [hW1]
  obtain ⟨r0, hr0⟩ : ∃ r0, w.heap.size = r0 := ⟨_, rfl⟩
  obtain ⟨b, hb⟩ : ∃ b, r0 + 1 = b := ⟨_, rfl⟩
  obtain ⟨hx, hhx⟩ : ∃ hx, b + 1 = hx := ⟨_, rfl⟩
  rw [hr0, hb, hhx] at HX0
  rw [hr0, hb] at HM0
  rw [hr0] at HR0
  rw [hr0, hb, hhx]
  have HLo := Lib.hid (show w.heap.size = r0 ∧ r0 + 1 = b ∧ b + 1 = hx from ⟨hr0, hb, hhx⟩)
  have HK1 := Lib.hid k1
  have HSt1 := Lib.hid (HSt.out W1 k1)
  clear hW1 hr0 hb hhx k1 HSt
  go_upto_region 4 with (first
    | (go_at_call 52; refine HSt1.out.mono ?_; rintro e w2 ⟨v8, rfl, hO, hK⟩; obtain ⟨sa, sc, e8, -, -, hb8, hr8⟩ := hO.form; rw [bv_length, HSl.out] at e8; subst e8; have HRs := Lib.hid hr8; have HBs := Lib.hid (fun q (hq : sa = some q) => show hx < q.block from (by obtain ⟨g, rfl, h1, -⟩ := hb8 q hq; have h2 := HX0.out.lt; show hx < g; omega)); have HK2 := Lib.hid hK; have HIs2 := Lib.hid (HIs.out w2 (HK1.out.trans hK (fun _ _ h => h))); have hs2 := (HK1.out.trans hK (fun _ _ h => h)).cellAt2 hs; clear hO hK hb8 hr8)
    | (go_at_call 35; refine HIs2.out.mono ?_; rintro e w' ⟨rfl, rfl⟩))
  rw [HPw.out]
  clear HPw HIs2 HSt1
  have HKw := Lib.hid (HK1.out.trans HK2.out (fun _ _ h => h))
  have HX2 := Lib.hid (HX0.out.kp HK2.out (fun h => h))
  have HM2 := Lib.hid (HM0.out.kp HK2.out (fun h => h))
  have HR2 := Lib.hid (HR0.out.kp HK2.out (fun h => h))
  clear HX0 HM0 HR0
  go_loopw [25] (fun v25 wr => ∃ k q : Nat, v25 = .int .i64 (k : Int) ∧ k ≤ P ∧ Blk wr hx #[.map (some b), .int .i64 (badK H B k), .int .i64 (-1), .int .i64 (-1)] 75 ∧ IMI wr b q (succK H X k) ∧ q ≤ k ∧ Kp (fun j => j = hx ∨ j = b) w2 wr) (fun v25 _ => P - (intOf v25).toNat)
  case atStart => exact ⟨0, 0, rfl, Nat.zero_le _, HX2.out, HM2.out, Nat.le_refl _, Kp.refl _ _⟩
  case round =>
    clear HX2 HM2 hs2
    obtain ⟨k, q, rfl, hk, hBk, hIm, hq, hK⟩ := hrel
    have HBk := Lib.hid hBk
    have HIm := Lib.hid hIm
    have HK := Lib.hid hK
    clear hBk hIm hK
    obtain ⟨wp, rfl⟩ : ∃ wp : World, wp = wr := ⟨_, rfl⟩
    have HKp := Lib.hid (HKw.out.trans HK.out (fun j hj h => by have := HLo.out; omega))
    by_cases hlt : k < P
    · have HIk := Lib.hid (HInp.out wp HKp.out k hlt)
      have HBS := Lib.hid (fun u (hu : Kp (fun j => j = hx ∨ j = b) w2 u) => show BS u sa nl (stN C n) from ⟨HRs.out.kp hu (fun p hp e => by have := HBs.out p hp; have := HLo.out; omega), HSl.out, by omega⟩)
      have hsp := HKp.out.cellAt2 hs
      have hk256 : k < 256 := by omega
      obtain ⟨y, hy⟩ : ∃ y, H k = y := ⟨_, rfl⟩
      cases y with
      | false =>
        go_upto_region 7 with (go_at_call 53; refine HIk.out.mono ?_; rintro e w3 ⟨v10, rfl, hO, hK3⟩; obtain ⟨ia, ic, e10, -, -, hb10, hr10⟩ := hO.form; rw [bv_length, HIl.out] at e10; subst e10; have HRi := Lib.hid hr10; have HBi := Lib.hid (fun q (hq : ia = some q) => show q.block ≠ hx ∧ q.block ≠ b from (by obtain ⟨g, rfl, h1, -⟩ := hb10 q hq; have h2 := HBk.out.lt; have h3 := HIm.out.lt; exact ⟨fun e => by simp only at e; omega, fun e => by simp only at e; omega⟩)); have HK3 := Lib.hid hK3; have HK3w := Lib.hid (HKp.out.trans hK3 (fun _ _ h => h)); have HK3b := Lib.hid (HK.out.trans (hK3.mono (fun _ _ h => h.elim)) (fun _ _ h => h)); have HBI := Lib.hid (show BS w3 ia ni (inN2 C k) from ⟨hr10, HIl.out k, by omega⟩); clear hO hK3 hb10 hr10)
        have HHk := Lib.hid (HHo.out w3 HK3w.out k sa sc ia ic (HBS.out w3 HK3b.out) HBI.out)
        rw [hy] at HHk
        have hs3 := HK3w.out.cellAt2 hs
        go_wp2_with (go_at_call 60; refine HHk.out.mono ?_; rintro e w4 ⟨rfl, hK4⟩; have HK4 := Lib.hid hK4; clear hK4)
        go_roundw
        case rel => exact ⟨k + 1, q, by go_num, hlt, by
          have e : badK H B (k + 1) = badK H B k := by show (if _ then _ else _) = _; rw [if_neg (fun z => by rw [hy] at z; cases z.2.1)]
          rw [e]; exact (HBk.out.kp HK3.out (fun h => h)).kp HK4.out (fun h => h), by rw [succK_skip hy]; exact (HIm.out.kp HK3.out (fun h => h)).kp HK4.out (fun h => h), by omega, HK3b.out.trans (HK4.out.mono (fun _ _ h => h.elim)) (fun _ _ h => h)⟩
        case measure => simp [intOf]; omega
      | true =>
        have HHt := Lib.hid hy
        by_cases hbk : badK H B k = -1
        · obtain ⟨yb, hyb⟩ : ∃ y, B k = y := ⟨_, rfl⟩
          cases yb with
          | true =>
            have HBe := Lib.hid (show badK H B (k + 1) = (k : Int) by show (if _ then _ else _) = _; rw [if_pos ⟨hbk, HHt.out, hyb⟩])
            have HYb := Lib.hid hyb
            rw [hbk] at HBk
            clear hbk hyb
            go_upto_region 7 with (go_at_call 53; refine HIk.out.mono ?_; rintro e w3 ⟨v10, rfl, hO, hK3⟩; obtain ⟨ia, ic, e10, -, -, hb10, hr10⟩ := hO.form; rw [bv_length, HIl.out] at e10; subst e10; have HRi := Lib.hid hr10; have HBi := Lib.hid (fun q (hq : ia = some q) => show q.block ≠ hx ∧ q.block ≠ b from (by obtain ⟨g, rfl, h1, -⟩ := hb10 q hq; have h2 := HBk.out.lt; have h3 := HIm.out.lt; exact ⟨fun e => by simp only at e; omega, fun e => by simp only at e; omega⟩)); have HK3 := Lib.hid hK3; have HK3w := Lib.hid (HKp.out.trans hK3 (fun _ _ h => h)); have HK3b := Lib.hid (HK.out.trans (hK3.mono (fun _ _ h => h.elim)) (fun _ _ h => h)); have HBI := Lib.hid (show BS w3 ia ni (inN2 C k) from ⟨hr10, HIl.out k, by omega⟩); clear hO hK3 hb10 hr10)
            have HHk := Lib.hid (HHo.out w3 HK3w.out k sa sc ia ic (HBS.out w3 HK3b.out) HBI.out)
            rw [HHt.out] at HHk
            have hs3 := HK3w.out.cellAt2 hs
            go_upto_region 8 with (go_at_call 60; refine HHk.out.mono ?_; rintro e w4 ⟨rfl, hK4⟩; have HK4 := Lib.hid hK4; clear hK4)
            have HB4 := Lib.hid ((HBk.out.kp HK3.out (fun h => h)).kp HK4.out (fun h => h))
            have HI4 := Lib.hid ((HIm.out.kp HK3.out (fun h => h)).kp HK4.out (fun h => h))
            have HK4b := Lib.hid (HK3b.out.trans (HK4.out.mono (fun _ _ h => h.elim)) (fun _ _ h => h))
            have HK4w := Lib.hid (HK3w.out.trans HK4.out (fun _ _ h => h))
            have HBI4 := Lib.hid (HBI.out.kp HK4.out)
            have hs4 := HK4w.out.cellAt2 hs
            have b1 := HB4.out.cell (i := 1) rfl
            have HBd := Lib.hid (HBa.out w4 HK4w.out k sa sc ia ic (HBS.out w4 HK4b.out) HBI4.out)
            rw [HYb.out] at HBd
            go_upto_region 9 with (go_at_call 61; refine HBd.out.mono ?_; rintro e w5 ⟨rfl, hK5⟩; have HK5 := Lib.hid hK5; clear hK5)
            have HB5 := Lib.hid (HB4.out.kp HK5.out (fun h => h))
            have n1 := HB5.out.cell (i := 1) rfl
            have f1 := HB5.out.free 1
            go_upto_region 10 with fail
            have HKs := Lib.hid (Kp.set w5 ⟨hx, 1, none⟩ (.int .i64 (k : Int)))
            have HBt := Lib.hid (show Blk (w5.setCell ⟨hx, 1, none⟩ (.int .i64 (k : Int))) hx #[.map (some b), .int .i64 (k : Int), .int .i64 (-1), .int .i64 (-1)] 75 from HB5.out.set_same 1 _)
            have HIt := Lib.hid ((HI4.out.kp HK5.out (fun h => h)).kp HKs.out (fun e => by have := HLo.out; have e2 : b = hx := e; omega))
            have HKt := Lib.hid ((HK4b.out.trans (HK5.out.mono (T := fun j => j = hx ∨ j = b) (fun _ _ h => h.elim)) (fun _ _ h => h)).trans (HKs.out.mono (T := fun j => j = hx ∨ j = b) (fun _ _ h => .inl h)) (fun _ _ h => h))
            have HBIt := Lib.hid (show BS (w5.setCell ⟨hx, 1, none⟩ (.int .i64 (k : Int))) ia ni (inN2 C k) from ⟨(HBI4.out.kp HK5.out).row.kp HKs.out (fun p hp e => (HBi.out p hp).1 e), HBI.out.len, HBI.out.most⟩)
            obtain ⟨wt, hwt⟩ : ∃ wt, w5.setCell ⟨hx, 1, none⟩ (.int .i64 (k : Int)) = wt := ⟨_, rfl⟩
            rw [hwt] at HBt HIt HKt HBIt
            rw [hwt]
            clear hwt HKs
            have HKtw := Lib.hid (HKw.out.trans HKt.out (fun j hj h => by have := HLo.out; omega))
            have HNt := Lib.hid (HNx.out wt HKtw.out k sa sc ia ic (HBS.out wt HKt.out) HBIt.out)
            have hst := HKtw.out.cellAt2 hs
            go_upto_region 11 with (first
              | (go_at_call 63; refine HNt.out.mono ?_; rintro e w7 ⟨v60, rfl, hO7, hK7⟩; obtain ⟨na, nc, e60, -, -, -, hr60⟩ := hO7.form; rw [bv_length, HNl.out] at e60; subst e60; have HNk := Lib.hid (HNm.out w7 k na nc hr60); have HK7 := Lib.hid hK7; clear hO7 hr60 hK7)
              | (go_at_call 62; refine HNk.out.mono ?_; rintro e w' ⟨rfl, rfl⟩))
            have HB7 := Lib.hid (HBt.out.kp HK7.out (fun h => h))
            have hI7 := HIt.out.kp HK7.out (fun h => h)
            have hX9 := HXl.out k
            have hlook := hI7.look (x := (X k : Int)) ⟨by omega, by omega⟩
            have m0 := HB7.out.cell (i := 0) rfl
            have HK7b := Lib.hid (HKt.out.trans (HK7.out.mono (fun _ _ h => h.elim)) (fun _ _ h => h))
            cases hfx : succK H X k (X k : Int) with
            | some i0 =>
              have HTh := Lib.hid (succK_there (H := H) (X := X) (k := k) (by rw [hfx]; rfl))
              rw [hfx] at hlook
              have hlook2 : (Instr.lookup 73 (.map (some b)) (.int .i64 (X k : Int)) true).run Tryz.prog w7 = .ok (.tuple #[.int .i64 i0, .bool true]) w7 := hlook
              have HI7 := Lib.hid hI7
              clear hlook hfx hI7
              obtain ⟨x, hxx⟩ : ∃ x : Int, (X k : Int) = x := ⟨_, rfl⟩
              rw [hxx] at hlook2
              rw [hxx]
              clear hxx
              go_wp2_with fail
              go_roundw
              case rel => exact ⟨k + 1, q, by go_num, hlt, by rw [HBe.out]; exact HB7.out, by rw [HTh.out]; exact HI7.out, by omega, HK7b.out⟩
              case measure => simp [intOf]; omega
            | none =>
              have HPt := Lib.hid (succK_put (H := H) (X := X) (k := k) HHt.out (by rw [hfx]; rfl))
              rw [hfx] at hlook
              have hlook2 : (Instr.lookup 73 (.map (some b)) (.int .i64 (X k : Int)) true).run Tryz.prog w7 = .ok (.tuple #[.int .i64 0, .bool false]) w7 := hlook
              obtain ⟨w8, hput, hI8, hK8⟩ := hI7.put (by unfold maxLen; omega) (x := (X k : Int)) ⟨by omega, by omega⟩ (v := (k : Int)) ⟨by omega, by omega⟩
              have HI8 := Lib.hid hI8
              have HK8 := Lib.hid (HK7b.out.trans (hK8.mono (T := fun j => j = hx ∨ j = b) (fun _ _ h => .inr h)) (fun _ _ h => h))
              have HB8 := Lib.hid (HB7.out.kp hK8 (fun e => by have := HLo.out; omega))
              clear hlook hfx hI7 hI8 hK8
              obtain ⟨x, hxx⟩ : ∃ x : Int, (X k : Int) = x := ⟨_, rfl⟩
              rw [hxx] at hlook2 hput HI8 HPt
              rw [hxx]
              clear hxx
              go_wp2_with fail
              go_roundw
              case rel => exact ⟨k + 1, q + 1, by go_num, hlt, by rw [HBe.out]; exact HB8.out, by rw [HPt.out]; exact HI8.out, by omega, HK8.out⟩
              case measure => simp [intOf]; omega
          | false =>
            have HBe := Lib.hid (show badK H B (k + 1) = -1 by show (if _ then _ else _) = _; rw [if_neg (fun z => by rw [hyb] at z; cases z.2.2)]; exact hbk)
            have HYb := Lib.hid hyb
            rw [hbk] at HBk
            clear hbk hyb
            go_upto_region 7 with (go_at_call 53; refine HIk.out.mono ?_; rintro e w3 ⟨v10, rfl, hO, hK3⟩; obtain ⟨ia, ic, e10, -, -, hb10, hr10⟩ := hO.form; rw [bv_length, HIl.out] at e10; subst e10; have HRi := Lib.hid hr10; have HBi := Lib.hid (fun q (hq : ia = some q) => show q.block ≠ hx ∧ q.block ≠ b from (by obtain ⟨g, rfl, h1, -⟩ := hb10 q hq; have h2 := HBk.out.lt; have h3 := HIm.out.lt; exact ⟨fun e => by simp only at e; omega, fun e => by simp only at e; omega⟩)); have HK3 := Lib.hid hK3; have HK3w := Lib.hid (HKp.out.trans hK3 (fun _ _ h => h)); have HK3b := Lib.hid (HK.out.trans (hK3.mono (fun _ _ h => h.elim)) (fun _ _ h => h)); have HBI := Lib.hid (show BS w3 ia ni (inN2 C k) from ⟨hr10, HIl.out k, by omega⟩); clear hO hK3 hb10 hr10)
            have HHk := Lib.hid (HHo.out w3 HK3w.out k sa sc ia ic (HBS.out w3 HK3b.out) HBI.out)
            rw [HHt.out] at HHk
            have hs3 := HK3w.out.cellAt2 hs
            go_upto_region 8 with (go_at_call 60; refine HHk.out.mono ?_; rintro e w4 ⟨rfl, hK4⟩; have HK4 := Lib.hid hK4; clear hK4)
            have HB4 := Lib.hid ((HBk.out.kp HK3.out (fun h => h)).kp HK4.out (fun h => h))
            have HI4 := Lib.hid ((HIm.out.kp HK3.out (fun h => h)).kp HK4.out (fun h => h))
            have HK4b := Lib.hid (HK3b.out.trans (HK4.out.mono (fun _ _ h => h.elim)) (fun _ _ h => h))
            have HK4w := Lib.hid (HK3w.out.trans HK4.out (fun _ _ h => h))
            have HBI4 := Lib.hid (HBI.out.kp HK4.out)
            have hs4 := HK4w.out.cellAt2 hs
            have b1 := HB4.out.cell (i := 1) rfl
            have HBd := Lib.hid (HBa.out w4 HK4w.out k sa sc ia ic (HBS.out w4 HK4b.out) HBI4.out)
            rw [HYb.out] at HBd
            go_upto_region 10 with (go_at_call 61; refine HBd.out.mono ?_; rintro e w5 ⟨rfl, hK5⟩; have HK5 := Lib.hid hK5; clear hK5)
            have HBt := Lib.hid (HB4.out.kp HK5.out (fun h => h))
            have HIt := Lib.hid (HI4.out.kp HK5.out (fun h => h))
            have HKt := Lib.hid (HK4b.out.trans (HK5.out.mono (T := fun j => j = hx ∨ j = b) (fun _ _ h => h.elim)) (fun _ _ h => h))
            have HBIt := Lib.hid (HBI4.out.kp HK5.out)
            have HKtw := Lib.hid (HKw.out.trans HKt.out (fun j hj h => by have := HLo.out; omega))
            have HNt := Lib.hid (HNx.out w5 HKtw.out k sa sc ia ic (HBS.out w5 HKt.out) HBIt.out)
            have hst := HKtw.out.cellAt2 hs
            go_upto_region 11 with (first
              | (go_at_call 63; refine HNt.out.mono ?_; rintro e w7 ⟨v60, rfl, hO7, hK7⟩; obtain ⟨na, nc, e60, -, -, -, hr60⟩ := hO7.form; rw [bv_length, HNl.out] at e60; subst e60; have HNk := Lib.hid (HNm.out w7 k na nc hr60); have HK7 := Lib.hid hK7; clear hO7 hr60 hK7)
              | (go_at_call 62; refine HNk.out.mono ?_; rintro e w' ⟨rfl, rfl⟩))
            have HB7 := Lib.hid (HBt.out.kp HK7.out (fun h => h))
            have hI7 := HIt.out.kp HK7.out (fun h => h)
            have hX9 := HXl.out k
            have hlook := hI7.look (x := (X k : Int)) ⟨by omega, by omega⟩
            have m0 := HB7.out.cell (i := 0) rfl
            have HK7b := Lib.hid (HKt.out.trans (HK7.out.mono (fun _ _ h => h.elim)) (fun _ _ h => h))
            cases hfx : succK H X k (X k : Int) with
            | some i0 =>
              have HTh := Lib.hid (succK_there (H := H) (X := X) (k := k) (by rw [hfx]; rfl))
              rw [hfx] at hlook
              have hlook2 : (Instr.lookup 73 (.map (some b)) (.int .i64 (X k : Int)) true).run Tryz.prog w7 = .ok (.tuple #[.int .i64 i0, .bool true]) w7 := hlook
              have HI7 := Lib.hid hI7
              clear hlook hfx hI7
              obtain ⟨x, hxx⟩ : ∃ x : Int, (X k : Int) = x := ⟨_, rfl⟩
              rw [hxx] at hlook2
              rw [hxx]
              clear hxx
              go_wp2_with fail
              go_roundw
              case rel => exact ⟨k + 1, q, by go_num, hlt, by rw [HBe.out]; exact HB7.out, by rw [HTh.out]; exact HI7.out, by omega, HK7b.out⟩
              case measure => simp [intOf]; omega
            | none =>
              have HPt := Lib.hid (succK_put (H := H) (X := X) (k := k) HHt.out (by rw [hfx]; rfl))
              rw [hfx] at hlook
              have hlook2 : (Instr.lookup 73 (.map (some b)) (.int .i64 (X k : Int)) true).run Tryz.prog w7 = .ok (.tuple #[.int .i64 0, .bool false]) w7 := hlook
              obtain ⟨w8, hput, hI8, hK8⟩ := hI7.put (by unfold maxLen; omega) (x := (X k : Int)) ⟨by omega, by omega⟩ (v := (k : Int)) ⟨by omega, by omega⟩
              have HI8 := Lib.hid hI8
              have HK8 := Lib.hid (HK7b.out.trans (hK8.mono (T := fun j => j = hx ∨ j = b) (fun _ _ h => .inr h)) (fun _ _ h => h))
              have HB8 := Lib.hid (HB7.out.kp hK8 (fun e => by have := HLo.out; omega))
              clear hlook hfx hI7 hI8 hK8
              obtain ⟨x, hxx⟩ : ∃ x : Int, (X k : Int) = x := ⟨_, rfl⟩
              rw [hxx] at hlook2 hput HI8 HPt
              rw [hxx]
              clear hxx
              go_wp2_with fail
              go_roundw
              case rel => exact ⟨k + 1, q + 1, by go_num, hlt, by rw [HBe.out]; exact HB8.out, by rw [HPt.out]; exact HI8.out, by omega, HK8.out⟩
              case measure => simp [intOf]; omega
        · have HBe := Lib.hid (show badK H B (k + 1) = badK H B k by show (if _ then _ else _) = _; rw [if_neg (fun z => hbk z.1)])
          obtain ⟨bv0, hbv⟩ : ∃ x, badK H B k = x := ⟨_, rfl⟩
          rw [hbv] at hbk HBk HBe
          have dbk : (bv0 == -1) = false := by simp [hbk]
          clear hbk hbv
          go_upto_region 7 with (go_at_call 53; refine HIk.out.mono ?_; rintro e w3 ⟨v10, rfl, hO, hK3⟩; obtain ⟨ia, ic, e10, -, -, hb10, hr10⟩ := hO.form; rw [bv_length, HIl.out] at e10; subst e10; have HRi := Lib.hid hr10; have HBi := Lib.hid (fun q (hq : ia = some q) => show q.block ≠ hx ∧ q.block ≠ b from (by obtain ⟨g, rfl, h1, -⟩ := hb10 q hq; have h2 := HBk.out.lt; have h3 := HIm.out.lt; exact ⟨fun e => by simp only at e; omega, fun e => by simp only at e; omega⟩)); have HK3 := Lib.hid hK3; have HK3w := Lib.hid (HKp.out.trans hK3 (fun _ _ h => h)); have HK3b := Lib.hid (HK.out.trans (hK3.mono (fun _ _ h => h.elim)) (fun _ _ h => h)); have HBI := Lib.hid (show BS w3 ia ni (inN2 C k) from ⟨hr10, HIl.out k, by omega⟩); clear hO hK3 hb10 hr10)
          have HHk := Lib.hid (HHo.out w3 HK3w.out k sa sc ia ic (HBS.out w3 HK3b.out) HBI.out)
          rw [HHt.out] at HHk
          have hs3 := HK3w.out.cellAt2 hs
          go_upto_region 8 with (go_at_call 60; refine HHk.out.mono ?_; rintro e w4 ⟨rfl, hK4⟩; have HK4 := Lib.hid hK4; clear hK4)
          have HB4 := Lib.hid ((HBk.out.kp HK3.out (fun h => h)).kp HK4.out (fun h => h))
          have HI4 := Lib.hid ((HIm.out.kp HK3.out (fun h => h)).kp HK4.out (fun h => h))
          have HK4b := Lib.hid (HK3b.out.trans (HK4.out.mono (fun _ _ h => h.elim)) (fun _ _ h => h))
          have HK4w := Lib.hid (HK3w.out.trans HK4.out (fun _ _ h => h))
          have HBI4 := Lib.hid (HBI.out.kp HK4.out)
          have hs4 := HK4w.out.cellAt2 hs
          have b1 := HB4.out.cell (i := 1) rfl
          go_upto_region 10 with fail
          have HBt := HB4
          have HIt := HI4
          have HKt := HK4b
          have HBIt := HBI4
          have HKtw := Lib.hid (HKw.out.trans HKt.out (fun j hj h => by have := HLo.out; omega))
          have HNt := Lib.hid (HNx.out w4 HKtw.out k sa sc ia ic (HBS.out w4 HKt.out) HBIt.out)
          have hst := HKtw.out.cellAt2 hs
          go_upto_region 11 with (first
            | (go_at_call 63; refine HNt.out.mono ?_; rintro e w7 ⟨v60, rfl, hO7, hK7⟩; obtain ⟨na, nc, e60, -, -, -, hr60⟩ := hO7.form; rw [bv_length, HNl.out] at e60; subst e60; have HNk := Lib.hid (HNm.out w7 k na nc hr60); have HK7 := Lib.hid hK7; clear hO7 hr60 hK7)
            | (go_at_call 62; refine HNk.out.mono ?_; rintro e w' ⟨rfl, rfl⟩))
          have HB7 := Lib.hid (HBt.out.kp HK7.out (fun h => h))
          have hI7 := HIt.out.kp HK7.out (fun h => h)
          have hX9 := HXl.out k
          have hlook := hI7.look (x := (X k : Int)) ⟨by omega, by omega⟩
          have m0 := HB7.out.cell (i := 0) rfl
          have HK7b := Lib.hid (HKt.out.trans (HK7.out.mono (fun _ _ h => h.elim)) (fun _ _ h => h))
          cases hfx : succK H X k (X k : Int) with
          | some i0 =>
            have HTh := Lib.hid (succK_there (H := H) (X := X) (k := k) (by rw [hfx]; rfl))
            rw [hfx] at hlook
            have hlook2 : (Instr.lookup 73 (.map (some b)) (.int .i64 (X k : Int)) true).run Tryz.prog w7 = .ok (.tuple #[.int .i64 i0, .bool true]) w7 := hlook
            have HI7 := Lib.hid hI7
            clear hlook hfx hI7
            obtain ⟨x, hxx⟩ : ∃ x : Int, (X k : Int) = x := ⟨_, rfl⟩
            rw [hxx] at hlook2
            rw [hxx]
            clear hxx
            go_wp2_with fail
            go_roundw
            case rel => exact ⟨k + 1, q, by go_num, hlt, by rw [HBe.out]; exact HB7.out, by rw [HTh.out]; exact HI7.out, by omega, HK7b.out⟩
            case measure => simp [intOf]; omega
          | none =>
            have HPt := Lib.hid (succK_put (H := H) (X := X) (k := k) HHt.out (by rw [hfx]; rfl))
            rw [hfx] at hlook
            have hlook2 : (Instr.lookup 73 (.map (some b)) (.int .i64 (X k : Int)) true).run Tryz.prog w7 = .ok (.tuple #[.int .i64 0, .bool false]) w7 := hlook
            obtain ⟨w8, hput, hI8, hK8⟩ := hI7.put (by unfold maxLen; omega) (x := (X k : Int)) ⟨by omega, by omega⟩ (v := (k : Int)) ⟨by omega, by omega⟩
            have HI8 := Lib.hid hI8
            have HK8 := Lib.hid (HK7b.out.trans (hK8.mono (T := fun j => j = hx ∨ j = b) (fun _ _ h => .inr h)) (fun _ _ h => h))
            have HB8 := Lib.hid (HB7.out.kp hK8 (fun e => by have := HLo.out; omega))
            clear hlook hfx hI7 hI8 hK8
            obtain ⟨x, hxx⟩ : ∃ x : Int, (X k : Int) = x := ⟨_, rfl⟩
            rw [hxx] at hlook2 hput HI8 HPt
            rw [hxx]
            clear hxx
            go_wp2_with fail
            go_roundw
            case rel => exact ⟨k + 1, q + 1, by go_num, hlt, by rw [HBe.out]; exact HB8.out, by rw [HPt.out]; exact HI8.out, by omega, HK8.out⟩
            case measure => simp [intOf]; omega
    · have hk' : k = P := by omega
      have HE := Lib.hid (show succK H X k = F2 ∧ badK H B k = B2 by rw [hk']; exact ⟨HRw.out.1.symm, HRw.out.2.symm⟩)
      have hno : decide ((k : Int) < (P : Int)) = false := by simp; omega
      rw [HE.out.2] at HBk
      rw [HE.out.1] at HIm
      have HRf := Lib.hid (HR2.out.kp HK.out (fun e => by have := HLo.out; omega))
      have x0 := HBk.out.cell (i := 0) rfl
      have x1 := HBk.out.cell (i := 1) rfl
      have x2 := HBk.out.cell (i := 2) rfl
      have x3 := HBk.out.cell (i := 3) rfl
      have y0 := HRf.out.cell (i := 0) rfl
      have y1 := HRf.out.cell (i := 1) rfl
      have y2 := HRf.out.cell (i := 2) rfl
      have y3 := HRf.out.cell (i := 3) rfl
      have z0 := HRf.out.free 0
      have z1 := HRf.out.free 1
      have z2 := HRf.out.free 2
      have z3 := HRf.out.free 3
      clear hk'
      go_wp2_with fail
      have hB := (((HRf.out.set_same 0 (.map (some b))).set_same 1 (.int .i64 B2)).set_same 2 (.int .i64 (-1))).set_same 3 (.int .i64 (-1))
      have q1 := (Kp.refl (fun j => j = r0) wp).setCell (p := ⟨r0, 0, none⟩) (fun _ => rfl) (.map (some b))
      have q2 := q1.setCell (p := ⟨r0, 1, none⟩) (fun _ => rfl) (.int .i64 B2)
      have q3 := q2.setCell (p := ⟨r0, 2, none⟩) (fun _ => rfl) (.int .i64 (-1))
      have hKf := q3.setCell (p := ⟨r0, 3, none⟩) (fun _ => rfl) (.int .i64 (-1))
      clear q1 q2 q3
      obtain ⟨wf, hwf⟩ : ∃ wf, ((((wp.setCell ⟨r0, 0, none⟩ (.map (some b))).setCell ⟨r0, 1, none⟩ (.int .i64 B2)).setCell ⟨r0, 2, none⟩ (.int .i64 (-1))).setCell ⟨r0, 3, none⟩ (.int .i64 (-1))) = wf := ⟨_, rfl⟩
      rw [hwf] at hB hKf
      rw [hwf]
      have HKf := Lib.hid hKf
      have v0 := hB.cell (i := 0) (v := .map (some b)) rfl
      have v1 := hB.cell (i := 1) (v := .int .i64 B2) rfl
      have v2 := hB.cell (i := 2) (v := .int .i64 (-1)) rfl
      have v3 := hB.cell (i := 3) (v := .int .i64 (-1)) rfl
      clear hB hKf hwf x0 x1 x2 x3 y0 y1 y2 y3 z0 z1 z2 z3
      refine bodyPost_ret (v := .agg #[.map (some b), .int .i64 B2, .int .i64 (-1), .int .i64 (-1)]) ?_ rfl ⟨⟨b, q, rfl, HIm.out.kp HKf.out (fun e => by have := HLo.out; omega), by have := HLo.out; omega, by omega⟩, HKp.out.trans HKf.out (fun j hj e => by have := HLo.out; omega)⟩
      simp [results, Tryz.results36, go_sem, v0, v1, v2, v3]

end Go.Proofs.YtnoknecfdnjomaaGreat

/-
  explore: the rows of a space in memory.
-/
namespace Go.Proofs.YtnoknecfdnjomaaGreat
open Go.RowKit

/-- the cell j of row t -/
def rowV (mb : Nat → Nat) (BD R D : Nat → Int) (t j : Nat) : Value := if j = 0 then .map (some (mb t)) else if j = 1 then .int .i64 (BD t) else if j = 2 then .int .i64 (R t) else .int .i64 (D t)
def rowC (n : Nat) (h : Nat → Value) : Array Value := ((List.range (n * 4)).map h).toArray
def rowH (mb : Nat → Nat) (BD R D : Nat → Int) (i : Nat) : Value := rowV mb BD R D (i / 4) (i % 4)
theorem rowC_at {n : Nat} {h : Nat → Value} {i : Nat} (hi : i < n * 4) : (rowC n h)[i]? = some (h i) := by simp [rowC, hi]
theorem rowC_set {n : Nat} {h : Nat → Value} {i : Nat} {x : Value} : (rowC n h).setIfInBounds i x = rowC n (fun j => if j = i then x else h j) := by
  unfold rowC
  rw [List.setIfInBounds_toArray]
  congr 1
  apply List.ext_getElem?
  intro j
  rw [List.getElem?_set]
  by_cases hj : j < n * 4
  · by_cases e : i = j
    · subst e; simp [hj]
    · simp [hj, e]; exact fun q => absurd q.symm e
  · by_cases e : i = j
    · subst e; simp [hj]
    · simp [hj, e]
theorem rowC_congr {n : Nat} {h h' : Nat → Value} (e : ∀ i, i < n * 4 → h i = h' i) : rowC n h = rowC n h' := by
  unfold rowC
  congr 1
  exact List.map_congr_left fun i hi => e i (List.mem_range.1 hi)

/-- the rows of a space at block g: maps of what is behind, and three numbers -/
structure RowsS (w : World) (g n : Nat) (mb : Nat → Nat) (F : Nat → Int → Option Int) (BD R D : Nat → Int) : Prop where
  blk : Blk w g (rowC n (rowH mb BD R D)) 75
  map : ∀ t, t < n → ∃ q, IMI w (mb t) q (F t) ∧ q ≤ 256
  ne : ∀ t, t < n → mb t ≠ g

section
variable {w w' : World} {g n : Nat} {mb : Nat → Nat} {F : Nat → Int → Option Int} {BD R D : Nat → Int}
theorem RowsS.kpS {S : Nat → Prop} (h : RowsS w g n mb F BD R D) (k : Kp S w w') (h1 : ¬ S g) (h2 : ∀ t, t < n → ¬ S (mb t)) : RowsS w' g n mb F BD R D :=
  ⟨h.blk.kp k h1, fun t ht => by
    obtain ⟨q, h3, h4⟩ := h.map t ht
    exact ⟨q, h3.kp k (h2 t ht), h4⟩, h.ne⟩
theorem RowsS.kp (h : RowsS w g n mb F BD R D) (k : Kp (fun _ => False) w w') : RowsS w' g n mb F BD R D := h.kpS k (fun h => h) (fun _ _ h => h)
theorem RowsS.cell (h : RowsS w g n mb F BD R D) {t j : Nat} (ht : t < n) (hj : j < 4) : w.cell? ⟨g, t * 4 + j, none⟩ = some (rowV mb BD R D t j) := by
  have := h.blk.cell (i := t * 4 + j) (rowC_at (by omega))
  rw [this]
  unfold rowH
  rw [show (t * 4 + j) / 4 = t by omega, show (t * 4 + j) % 4 = j by omega]
theorem RowsS.cell0 (h : RowsS w g n mb F BD R D) {t : Nat} (ht : t < n) : w.cell? ⟨g, t * 4, none⟩ = some (.map (some (mb t))) := h.cell ht (j := 0) (by decide)
theorem RowsS.cell1 (h : RowsS w g n mb F BD R D) {t : Nat} (ht : t < n) : w.cell? ⟨g, t * 4 + 1, none⟩ = some (.int .i64 (BD t)) := h.cell ht (j := 1) (by decide)
theorem RowsS.cell2 (h : RowsS w g n mb F BD R D) {t : Nat} (ht : t < n) : w.cell? ⟨g, t * 4 + 2, none⟩ = some (.int .i64 (R t)) := h.cell ht (j := 2) (by decide)
theorem RowsS.cell3 (h : RowsS w g n mb F BD R D) {t : Nat} (ht : t < n) : w.cell? ⟨g, t * 4 + 3, none⟩ = some (.int .i64 (D t)) := h.cell ht (j := 3) (by decide)
/-- one number at a place -/
def upI (f : Nat → Int) (t : Nat) (x : Int) : Nat → Int := fun s => if s = t then x else f s
theorem RowsS.setR (h : RowsS w g n mb F BD R D) {t : Nat} (ht : t < n) (x : Int) : RowsS (w.setCell ⟨g, t * 4 + 2, none⟩ (.int .i64 x)) g n mb F BD (upI R t x) D := by
  have k := Kp.set w ⟨g, t * 4 + 2, none⟩ (.int .i64 x)
  refine ⟨?_, fun s hs => ?_, h.ne⟩
  · have := h.blk.set_same (t * 4 + 2) (.int .i64 x)
    rw [rowC_set] at this
    rw [show rowC n (rowH mb BD (upI R t x) D) = rowC n (fun j => if j = t * 4 + 2 then .int .i64 x else rowH mb BD R D j) from rowC_congr fun i hi => by
      unfold rowH rowV upI
      by_cases e : i = t * 4 + 2
      · rw [if_pos e, e, show (t * 4 + 2) / 4 = t by omega, show (t * 4 + 2) % 4 = 2 by omega]
        simp
      · rw [if_neg e]
        by_cases e2 : i % 4 = 2
        · have : i / 4 ≠ t := fun q => e (by omega)
          simp [e2, this]
        · simp [e2]]
    exact this
  · obtain ⟨q, h3, h4⟩ := h.map s hs
    exact ⟨q, h3.kp k (fun e => h.ne s hs e), h4⟩
theorem RowsS.setD (h : RowsS w g n mb F BD R D) {t : Nat} (ht : t < n) (x : Int) : RowsS (w.setCell ⟨g, t * 4 + 3, none⟩ (.int .i64 x)) g n mb F BD R (upI D t x) := by
  have k := Kp.set w ⟨g, t * 4 + 3, none⟩ (.int .i64 x)
  refine ⟨?_, fun s hs => ?_, h.ne⟩
  · have := h.blk.set_same (t * 4 + 3) (.int .i64 x)
    rw [rowC_set] at this
    rw [show rowC n (rowH mb BD R (upI D t x)) = rowC n (fun j => if j = t * 4 + 3 then .int .i64 x else rowH mb BD R D j) from rowC_congr fun i hi => by
      unfold rowH rowV upI
      by_cases e : i = t * 4 + 3
      · rw [if_pos e, e, show (t * 4 + 3) / 4 = t by omega, show (t * 4 + 3) % 4 = 3 by omega]
        simp
      · rw [if_neg e]
        by_cases e2 : i % 4 = 3
        · have : i / 4 ≠ t := fun q => e (by omega)
          simp [e2, this]
        · have : i % 4 = 0 ∨ i % 4 = 1 ∨ i % 4 = 2 := by omega
          rcases this with e3 | e3 | e3 <;> simp [e3]]
    exact this
  · obtain ⟨q, h3, h4⟩ := h.map s hs
    exact ⟨q, h3.kp k (fun e => h.ne s hs e), h4⟩
end

end Go.Proofs.YtnoknecfdnjomaaGreat

/-
  A graph of few states: in how many steps states are reached. No program in sight.
-/
namespace Go.Proofs.YtnoknecfdnjomaaGreat
open Go.RowKit

section
variable {n : Nat} {st : Nat → Bool} {E : Nat → Nat → Bool}

/-- reached in at most k steps -/
def seenG (n : Nat) (st : Nat → Bool) (E : Nat → Nat → Bool) : Nat → Nat → Bool
  | 0, t => st t
  | k + 1, t => seenG n st E k t || (List.range n).any (fun s => seenG n st E k s && E s t)
/-- after how many steps, at most m; -1: never -/
def distG (n : Nat) (st : Nat → Bool) (E : Nat → Nat → Bool) : Nat → Nat → Int
  | 0, t => if st t = true then 0 else -1
  | m + 1, t => if seenG n st E m t = true then distG n st E m t else if seenG n st E (m + 1) t = true then (m : Int) + 1 else -1

theorem seenG_succ {k t : Nat} : seenG n st E (k + 1) t = true ↔ seenG n st E k t = true ∨ ∃ s, s < n ∧ seenG n st E k s = true ∧ E s t = true := by
  show (seenG n st E k t || (List.range n).any (fun s => seenG n st E k s && E s t)) = true ↔ _
  rw [Bool.or_eq_true, List.any_eq_true]
  constructor
  · rintro (h | ⟨s, hs, h⟩)
    · exact .inl h
    · rw [Bool.and_eq_true] at h
      exact .inr ⟨s, List.mem_range.1 hs, h⟩
  · rintro (h | ⟨s, hs, h⟩)
    · exact .inl h
    · exact .inr ⟨s, List.mem_range.2 hs, by rw [Bool.and_eq_true]; exact h⟩
theorem seenG_mono {k t : Nat} (h : seenG n st E k t = true) : ∀ d, seenG n st E (k + d) t = true
  | 0 => h
  | d + 1 => seenG_succ.2 (.inl (seenG_mono h d))
theorem seenG_le {k m t : Nat} (h : seenG n st E k t = true) (hk : k ≤ m) : seenG n st E m t = true := by
  have := seenG_mono h (m - k)
  rw [show k + (m - k) = m by omega] at this
  exact this

theorem distG_cases : ∀ m t, (seenG n st E m t = false ∧ distG n st E m t = -1) ∨ (seenG n st E m t = true ∧ 0 ≤ distG n st E m t ∧ distG n st E m t ≤ m)
  | 0, t => by
    unfold distG seenG
    cases st t with
    | true => exact .inr ⟨rfl, by simp, by simp⟩
    | false => exact .inl ⟨rfl, by simp⟩
  | m + 1, t => by
    unfold distG
    rcases distG_cases m t with ⟨h1, h2⟩ | ⟨h1, h2, h3⟩
    · rw [if_neg (by rw [h1]; decide)]
      cases h : seenG n st E (m + 1) t with
      | true => exact .inr ⟨rfl, by rw [if_pos rfl]; omega, by rw [if_pos rfl]; omega⟩
      | false => exact .inl ⟨rfl, by rw [if_neg (by decide)]⟩
    · rw [if_pos h1]
      exact .inr ⟨seenG_succ.2 (.inl h1), h2, by omega⟩
theorem distG_neg {m t : Nat} : distG n st E m t = -1 ↔ seenG n st E m t = false := by
  rcases distG_cases (n := n) (st := st) (E := E) m t with ⟨h1, h2⟩ | ⟨h1, h2, _⟩
  · exact ⟨fun _ => h1, fun _ => h2⟩
  · exact ⟨fun h => by omega, fun h => by rw [h1] at h; cases h⟩
theorem distG_keep {m t : Nat} (h : distG n st E m t ≠ -1) : distG n st E (m + 1) t = distG n st E m t := by
  have : seenG n st E m t = true := by
    cases e : seenG n st E m t with
    | true => rfl
    | false => exact absurd (distG_neg.2 e) h
  show (if seenG n st E m t = true then distG n st E m t else _) = _
  rw [if_pos this]
/-- one step more -/
theorem distG_step {m t : Nat} (h : distG n st E m t = -1) : distG n st E (m + 1) t = if ∃ s, s < n ∧ distG n st E m s = m ∧ E s t = true then (m : Int) + 1 else -1 := by
  have h0 := distG_neg.1 h
  show (if seenG n st E m t = true then distG n st E m t else if seenG n st E (m + 1) t = true then (m : Int) + 1 else -1) = _
  rw [if_neg (by rw [h0]; decide)]
  have key : seenG n st E (m + 1) t = true ↔ ∃ s, s < n ∧ distG n st E m s = m ∧ E s t = true := by
    constructor
    · intro hs
      rcases seenG_succ.1 hs with q | ⟨s, hs1, hs2, hs3⟩
      · rw [h0] at q; cases q
      · refine ⟨s, hs1, ?_, hs3⟩
        cases m with
        | zero =>
          unfold distG
          rw [if_pos (show st s = true from hs2)]; rfl
        | succ m =>
          unfold distG
          by_cases q : seenG n st E m s = true
          · have : seenG n st E (m + 1) t = true := seenG_succ.2 (.inr ⟨s, hs1, q, hs3⟩)
            rw [h0] at this; cases this
          · rw [if_neg q, if_pos hs2]; omega
    · rintro ⟨s, hs1, hs2, hs3⟩
      refine seenG_succ.2 (.inr ⟨s, hs1, ?_, hs3⟩)
      rcases distG_cases (n := n) (st := st) (E := E) m s with ⟨_, q⟩ | ⟨q, _⟩
      · omega
      · exact q
  by_cases q : seenG n st E (m + 1) t = true
  · rw [if_pos q, if_pos (key.1 q)]
  · rw [if_neg q, if_neg (fun h => q (key.2 h))]
/-- no state is reached in just m steps: none is later -/
theorem distG_still {m : Nat} (h : ∀ t, t < n → distG n st E m t ≠ m) : ∀ d t, distG n st E (m + d) t = distG n st E m t
  | 0, _ => rfl
  | d + 1, t => by
    have ih := distG_still h d
    by_cases e : distG n st E (m + d) t = -1
    · rw [← Nat.add_assoc, distG_step e, if_neg, ← ih, e]
      rintro ⟨s, hs, q, _⟩
      rw [ih] at q
      rcases distG_cases (n := n) (st := st) (E := E) m s with ⟨_, q2⟩ | ⟨_, _, q2⟩
      · omega
      · have := h s hs
        omega
    · rw [← Nat.add_assoc, distG_keep e, ih]
theorem distG_le {m k t : Nat} (h : distG n st E m t ≠ -1) (hk : m ≤ k) : distG n st E k t = distG n st E m t := by
  obtain ⟨d, rfl⟩ : ∃ d, k = m + d := ⟨k - m, by omega⟩
  clear hk
  induction d with
  | zero => rfl
  | succ d ih => rw [← Nat.add_assoc, distG_keep (by rw [ih]; exact h), ih]
/-- what is reached in just k steps was so already then -/
theorem distG_at {m k t : Nat} (h : distG n st E m t = k) (hk : k ≤ m) : distG n st E k t = k := by
  rcases distG_cases (n := n) (st := st) (E := E) k t with ⟨h1, h2⟩ | ⟨h1, h2, h3⟩
  · exfalso
    obtain ⟨d, rfl⟩ : ∃ d, m = k + d := ⟨m - k, by omega⟩
    clear hk
    induction d with
    | zero => rw [Nat.add_zero] at h; omega
    | succ d ih =>
      by_cases e : distG n st E (k + d) t = -1
      · rw [← Nat.add_assoc, distG_step e] at h
        split at h <;> omega
      · rw [← Nat.add_assoc, distG_keep e] at h
        exact ih h
  · have := distG_le (m := k) (k := m) (t := t) (n := n) (st := st) (E := E) (by omega) hk
    rw [← this, h]

/-- the layers up to m are not empty: so many are seen -/
theorem layers_cnt {m : Nat} (h : ∀ k, k ≤ m → ∃ t, t < n ∧ distG n st E m t = k) : m < n := by
  -- a place for each layer, all others
  have hex : ∀ k, ∃ t, k ≤ m → t < n ∧ distG n st E m t = k := fun k => by
    by_cases hk : k ≤ m
    · obtain ⟨t, ht⟩ := h k hk; exact ⟨t, fun _ => ht⟩
    · exact ⟨0, fun q => absurd q hk⟩
  have hf : ∃ f : Nat → Nat, ∀ k, k ≤ m → f k < n ∧ distG n st E m (f k) = k := ⟨fun k => (hex k).choose, fun k => (hex k).choose_spec⟩
  obtain ⟨f, hf⟩ := hf
  have inj : ∀ i j, i ≤ m → j ≤ m → f i = f j → i = j := fun i j hi hj e => by
    have h1 := (hf i hi).2
    have h2 := (hf j hj).2
    rw [e] at h1
    omega
  -- the list of places has no doubles
  have nd : ((List.range (m + 1)).map f).Nodup := by
    rw [List.nodup_iff_pairwise_ne, List.pairwise_map]
    refine List.Pairwise.imp_of_mem (fun {a b} ha hb hab => ?_) List.nodup_range
    intro e
    exact hab (inj a b (by have := List.mem_range.1 ha; omega) (by have := List.mem_range.1 hb; omega) e)
  have sub : (List.range (m + 1)).map f ⊆ List.range n := fun x hx => by
    obtain ⟨i, hi, rfl⟩ := List.mem_map.1 hx
    exact List.mem_range.2 (hf i (by have := List.mem_range.1 hi; omega)).1
  have := nd.length_le_of_subset sub
  simp at this
  omega
end

end Go.Proofs.YtnoknecfdnjomaaGreat
