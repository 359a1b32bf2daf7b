/-
  explore.Run.
-/
import Derived.Test.YtnoknecfdnjomaaGreatM6
import Derived.Test.YtnoknecfdnjomaaGreatM8
import Derived.Test.YtnoknecfdnjomaaGreatM1
import Derived.Deep.QuietTactic
import Derived.BigQuiet
import Derived.Deep.RegionHeld3
import Derived.Test.YtnoknecfdnjomaaGreatM4
import Derived.Test.YtnoknecfdnjomaaGreatM2
import Derived.Test.YtnoknecfdnjomaaGreatM7
set_option linter.unusedVariables false
set_option linter.unusedSimpArgs false
namespace Go.Proofs.YtnoknecfdnjomaaGreat
open Go.RowKit Go.Sort

theorem own_type2 {w : World} {base : Nat} {e : TypeId} {v : Value} {cs : List Value} (h : Own w base e v cs) {j : Nat} (hj : v.ownBlock = some j) : ∃ c, w.heap[j]? = some (.cells c e (0, 0)) := by
  obtain ⟨_, h | ⟨g, cap, cur, rfl, _, hb, _⟩⟩ := h
  · rw [h.1] at hj; cases hj
  · have : g = j := by simpa [Value.ownBlock] using hj
    subst this
    exact ⟨cur, hb⟩
theorem own_ne_own2 {w : World} {b1 b2 : Nat} {e1 e2 : TypeId} {v1 v2 : Value} {c1 c2 : List Value} (h1 : Own w b1 e1 v1 c1) (h2 : Own w b2 e2 v2 c2) (he : e1 ≠ e2) : ∀ j, v1.ownBlock = some j → ¬ v2.ownBlock = some j := fun j hj hj2 => by
  obtain ⟨c, h3⟩ := own_type2 h1 hj
  obtain ⟨c', h4⟩ := own_type2 h2 hj2
  rw [h3] at h4
  cases h4
  exact he rfl

theorem own_ne_blk {w : World} {b g : Nat} {e t : TypeId} {v : Value} {cs : List Value} {c : Array Value} (h : Own w b e v cs) (hB : Blk w g c t) (he : e ≠ t) : ∀ j, v.ownBlock = some j → j ≠ g := fun j hj q => by
  obtain ⟨c', h3⟩ := own_type2 h hj
  subst q
  have h4 : w.heap[j]? = some (.cells c t (0, 0)) := hB
  rw [h3] at h4
  cases h4
  exact he rfl

/-- rows of truths of the call's own -/
def OwnR (w : World) (B : Nat) (v : Value) (L : List (List Bool)) : Prop := ∃ vs : List Value, Own w B 38 v vs ∧ vs.length = L.length ∧ ∀ (j : Nat) (x : List Bool), L[j]? = some x → ∃ y, vs[j]? = some y ∧ Own w B 4 y (bv x)
theorem OwnR.nil (w : World) (B : Nat) : OwnR w B (.slice none 0 0) [] := ⟨[], Own.nil _ _ _, rfl, fun j x h => by cases h⟩
theorem OwnR.kp {w w' : World} {B : Nat} {v : Value} {L : List (List Bool)} {S : Nat → Prop} (h : OwnR w B v L) (k : Kp S w w') (hS : ∀ j, S j → j < B ∨ w.heap.size ≤ j) : OwnR w' B v L := by
  obtain ⟨vs, h1, h2, h3⟩ := h
  refine ⟨vs, h1.kp k (fun j hj q => ?_), h2, fun j x hx => ?_⟩
  · have := h1.lt j hj
    rcases hS j q with e | e <;> omega
  · obtain ⟨y, h4, h5⟩ := h3 j x hx
    refine ⟨y, h4, h5.kp k (fun j hj q => ?_)⟩
    have := h5.lt j hj
    rcases hS j q with e | e <;> omega
theorem OwnR.mono {w : World} {B B' : Nat} {v : Value} {L : List (List Bool)} (h : OwnR w B v L) (hb : B' ≤ B) : OwnR w B' v L := by
  obtain ⟨vs, h1, h2, h3⟩ := h
  exact ⟨vs, h1.mono hb, h2, fun j x hx => by
    obtain ⟨y, h4, h5⟩ := h3 j x hx
    exact ⟨y, h4, h5.mono hb⟩⟩
theorem OwnR.push {w w1 w2 : World} {B : Nat} {v v' y : Value} {L : List (List Bool)} {x : List Bool} {vs : List Value} (h : Own w B 38 v vs) (hl : vs.length = L.length) (hr : ∀ (j : Nat) (x : List Bool), L[j]? = some x → ∃ y, vs[j]? = some y ∧ Own w B 4 y (bv x))
    (hy : Own w B 4 y (bv x)) (k : Kp (fun _ => False) w w1) (hO : Own w2 B 38 v' (vs ++ [y])) (hg : w1.grownBy w2 v.ownBlock) : OwnR w2 B v' (L ++ [x]) := by
  have hK : Kp (fun j => v.ownBlock = some j) w w2 := (k.mono (T := fun j => v.ownBlock = some j) (fun _ _ h => h.elim)).grown hg (fun j hj _ => hj)
  refine ⟨vs ++ [y], hO, by simp [hl], fun j z hz => ?_⟩
  by_cases hj : j < L.length
  · rw [List.getElem?_append_left hj] at hz
    obtain ⟨u, h4, h5⟩ := hr j z hz
    exact ⟨u, by rw [List.getElem?_append_left (by omega)]; exact h4, h5.kp hK (fun i hi q => own_ne_own2 h5 h (by decide) i hi q)⟩
  · rw [List.getElem?_append_right (by omega)] at hz
    have h0 : j - L.length = 0 := by
      refine Classical.byContradiction fun q => ?_
      rw [List.getElem?_eq_none (by simp; omega)] at hz
      cases hz
    rw [h0] at hz
    cases hz
    refine ⟨y, ?_, hy.kp hK (fun i hi q => own_ne_own2 hy h (by decide) i hi q)⟩
    rw [List.getElem?_append_right (by omega), hl, h0]; rfl

theorem IMI.look1 {w : World} {b n : Nat} {F : Int → Option Int} (h : IMI w b n F) {x : Int} (hx : okInt x) :
    (Instr.lookup 73 (.map (some b)) (.int .i64 x) false).run Tryz.prog w = .ok (.int .i64 ((F x).getD 0)) w := by
  obtain ⟨D, h1, _, h2⟩ := h
  obtain ⟨c, hr, hc, _⟩ := h1.lookup_int intk_keyed Tryz.underlying73 Tryz.underlying3 (Tryz.zeroValue3 w) (intk_key hx)
  rw [(h2 x hx).1] at hc
  simp only [DataW.lit.injEq, Lit.int.injEq, true_and] at hc
  rw [← hc] at hr
  exact hr

/-- one row of truths, in memory of its own -/
def One1 (B n : Nat) (cs : List Value) (u : World) (v : Value) : Prop := ∃ gg ya yc, v = .slice (some ⟨gg, 0, none⟩) 1 1 ∧ u.cell? ⟨gg, 0, none⟩ = some (.slice ya n yc) ∧ Own u B 4 (.slice ya n yc) cs
theorem One1.st (B n : Nat) (cs : List Value) : Stable (One1 B n cs) := fun _ _ _ k ⟨gg, ya, yc, h1, h2, h3⟩ => ⟨gg, ya, yc, h1, k.cellAt2 h2, h3.kp k (fun _ _ h => h)⟩

/-- the inputs told so far -/
def insK (C : Circ) (pr : Int) (s d k : Nat) : List (List Bool) := (List.range k).map (fun k => inN2 C (inpG (nS C) (rowF2 C) (rowB C pr) (dstS C pr) s d k).toNat)
theorem insK_succ (C : Circ) (pr : Int) (s d k : Nat) : insK C pr s d (k + 1) = insK C pr s d k ++ [inN2 C (inpG (nS C) (rowF2 C) (rowB C pr) (dstS C pr) s d k).toNat] := by
  unfold insK; rw [List.range_succ, List.map_append]; rfl
theorem insK_len (C : Circ) (pr : Int) (s d k : Nat) : (insK C pr s d k).length = k := by unfold insK; simp

set_option maxRecDepth 100000 in
set_option maxHeartbeats 4000000 in
theorem ex_Run_none {w : World} {C : Circ} {pr : Int} {sp : Nat} (h : SpcAt w C pr sp) (hl : C.lats.length ≤ 10) (hb : beg (nS C) (rchS C) (dstS C pr) = -1) :
    Calls Tryz.prog 26 #[.pointer (some ⟨sp, 0, none⟩)] w fun e w' => e = .returned (.tuple #[.agg #[.slice none 0 0, .slice none 0 0], .bool false]) ∧ Kp (fun _ => False) w w' := by
  obtain ⟨V, p, g, cg, mb, a4, a5, c4, c5, -, -, hs1, hR⟩ := h
  have hn9 : nS C ≤ 1024 := Nat.pow_le_pow_right (n := 2) (by decide) hl
  obtain ⟨wz, hwz⟩ : ∃ wz : World, wz = w.alloc (.cells #[.slice none 0 0, .slice none 0 0] 56) := ⟨_, rfl⟩
  have HK0 := Lib.hid (show Kp (fun _ => False) w wz by rw [hwz]; exact (Kp.refl _ w).alloc _)
  have HB := Lib.hid (ex_begin (HK0.out.cellAt2 hs1) (hR.kp HK0.out) hn9)
  rw [hb] at HB
  have HR0 := Lib.hid (show Blk wz w.heap.size #[.slice none 0 0, .slice none 0 0] 56 by rw [hwz]; exact Blk.new _ _ _)
  have HZ := Lib.hid hwz
  obtain ⟨r0, hr0⟩ : ∃ r0, w.heap.size = r0 := ⟨_, rfl⟩
  have HR1 := Lib.hid hr0
  clear hs1 hR hwz hb hn9
  go_enter Tryz.func26, Tryz.ntmps26
  go_upto_region 1 with fail
  rw [← HZ.out]
  rw [hr0] at HR0
  clear HZ hr0
  go_upto_region 3 with (go_at_call 47; refine Calls.mono HB.out ?_; rintro e w2 ⟨rfl, hK⟩; have HK2 := Lib.hid hK; have HR2 := Lib.hid (HR0.out.kp hK (fun h => h)); clear hK)
  have y0 := HR2.out.cell (i := 0) (v := .slice none 0 0) rfl
  have y1 := HR2.out.cell (i := 1) (v := .slice none 0 0) rfl
  have f0 := HR2.out.free 0
  have f1 := HR2.out.free 1
  go_upto_region 4 with fail
  obtain ⟨w5, hw5⟩ : ∃ w5, (w2.setCell ⟨r0, 0, none⟩ (.slice none 0 0)).setCell ⟨r0, 1, none⟩ (.slice none 0 0) = w5 := ⟨_, rfl⟩
  have q0 := (HR2.out.set_same 0 (.slice none 0 0)).set_same 1 (.slice none 0 0)
  rw [hw5] at q0
  rw [hw5]
  have z0 := q0.cell (i := 0) (v := .slice none 0 0) rfl
  have z1 := q0.cell (i := 1) (v := .slice none 0 0) rfl
  have k5 : Kp (fun _ => False) w w5 := by
    rw [← hw5]
    have := (((HK0.out.trans HK2.out (fun _ _ h => h)).setCell (p := ⟨r0, 0, none⟩) (fun h => by have := HR1.out; have h' : r0 < w.heap.size := h; omega) (.slice none 0 0)))
    exact this.setCell (p := ⟨r0, 1, none⟩) (fun h => by have := HR1.out; have h' : r0 < w.heap.size := h; omega) (.slice none 0 0)
  clear hw5
  exact bodyPost_ret (v := .tuple #[.agg #[.slice none 0 0, .slice none 0 0], .bool false]) (by simp [results, Tryz.results26, go_sem, z0, z1]) rfl ⟨rfl, k5⟩

set_option maxRecDepth 100000 in
set_option maxHeartbeats 8000000 in
theorem ex_Run {w : World} {C : Circ} {pr : Int} {sp : Nat} (h : SpcAt w C pr sp) (hf : CFew C 1000000) (hl : C.lats.length ≤ 10) (hi : C.ins.length ≤ 8) {s d : Nat} (hb : beg (nS C) (rchS C) (dstS C pr) = (s : Int)) (hs : s < nS C) (hd : dstS C pr s = (d : Int)) :
    Calls Tryz.prog 26 #[.pointer (some ⟨sp, 0, none⟩)] w fun e w' => ∃ v1 v2, e = .returned (.tuple #[.agg #[v1, v2], .bool true]) ∧ Own w' w.heap.size 4 v1 (bv (stN C s)) ∧ OwnR w' w.heap.size v2 (rowsG C pr s d) ∧ Kp (fun _ => False) w w' := by
  obtain ⟨V, p, g, cg, mb, a4, a5, c4, c5, hM, hs0, hs1, hR⟩ := h
  have hn9 : nS C ≤ 1024 := Nat.pow_le_pow_right (n := 2) (by decide) hl
  have hd9 : d ≤ 1024 := by
    rcases distG_cases (n := nS C) (st := bdS C pr) (E := revG (edS C)) (nS C) s with ⟨_, q⟩ | ⟨_, _, q⟩
    · have : dstS C pr s = -1 := q
      omega
    · have : dstS C pr s ≤ nS C := q
      omega
  have HI := Lib.hid (show (Tryz.prog.info? 38).map (fun i => (i.zero, i.size, i.bytes)) = some (some (.slice none 0 0), 1, 24) by kernel_rfl)
  have HCh := Lib.hid (fun k (hk : k ≤ d) => (nearS C pr).chain hs hd k hk)
  have HEd := Lib.hid (fun k (hk : k < d) => (nearS C pr).edge hs hd hk)
  have HNxt := Lib.hid (fun k => show chainG (nS C) (rowF2 C) (dstS C pr) s (k + 1) = hopG (nS C) (rowF2 C) (dstS C pr) (chainG (nS C) (rowF2 C) (dstS C pr) s k) from rfl)
  have HIst := Lib.hid (fun k (hk : k < d) => show ∃ j : Nat, inpG (nS C) (rowF2 C) (rowB C pr) (dstS C pr) s d k = (j : Int) ∧ j < 2 ^ C.ins.length ∧ (rowF2 C (chainG (nS C) (rowF2 C) (dstS C pr) s k) ((chainG (nS C) (rowF2 C) (dstS C pr) s (k + 1) : Nat) : Int)).getD 0 = (j : Int) from by
    obtain ⟨j, h1, h2, -⟩ := inp_step hs hd hk
    refine ⟨j, h1, h2, ?_⟩
    unfold inpG at h1
    rw [if_pos hk] at h1
    exact h1)
  have HIla := Lib.hid (show ∃ j : Nat, inpG (nS C) (rowF2 C) (rowB C pr) (dstS C pr) s d d = (j : Int) ∧ j < 2 ^ C.ins.length ∧ rowB C pr (chainG (nS C) (rowF2 C) (dstS C pr) s d) = (j : Int) from by
    obtain ⟨j, h1, h2, -⟩ := inp_last hs hd
    refine ⟨j, h1, h2, ?_⟩
    unfold inpG at h1
    rw [if_neg (Nat.lt_irrefl d)] at h1
    exact h1)
  have HIk := Lib.hid (fun k => insK_succ C pr s d k)
  have HIl := Lib.hid (fun k => insK_len C pr s d k)
  have HIe := Lib.hid (show rowsG C pr s d = insK C pr s d (d + 1) from rfl)
  have HI0 := Lib.hid (show insK C pr s d 0 = [] from rfl)
  have HFt := Lib.hid (fun t (_ : t < nS C) u i (h : rowF2 C t u = some i) => show ∃ v : Nat, u = (v : Int) ∧ v < nS C from rowF2_lt h)
  obtain ⟨c, hc⟩ : ∃ c, chainG (nS C) (rowF2 C) (dstS C pr) s = c := ⟨_, rfl⟩
  have HC0 := Lib.hid (show c 0 = s by rw [← hc]; rfl)
  obtain ⟨ip, hip⟩ : ∃ ip, inpG (nS C) (rowF2 C) (rowB C pr) (dstS C pr) s d = ip := ⟨_, rfl⟩
  rw [hc] at HCh HEd HNxt HIst HIla
  rw [hip] at HIst HIla HIk
  obtain ⟨IK, hIK⟩ : ∃ IK, insK C pr s d = IK := ⟨_, rfl⟩
  rw [hIK] at HIk HIl HIe HI0
  obtain ⟨RG, hRG⟩ : ∃ RG, rowsG C pr s d = RG := ⟨_, rfl⟩
  rw [hRG] at HIe
  rw [hRG]
  have HSp0 := Lib.hid (fun u (hu : Kp (fun _ => False) w u) => hu.cellAt2 hs0)
  have HSp1 := Lib.hid (fun u (hu : Kp (fun _ => False) w u) => hu.cellAt2 hs1)
  have HR := Lib.hid (fun u (hu : Kp (fun _ => False) w u) => hR.kp hu)
  have HB := Lib.hid (fun u (hu : Kp (fun _ => False) w u) => hb ▸ ex_begin (hu.cellAt2 hs1) (hR.kp hu) hn9)
  have HSta := Lib.hid (fun u (hu : Kp (fun _ => False) w u) => ex_state (hM.kp hu) hf (hu.cellAt2 hs0) hl s hs)
  have HInp := Lib.hid (fun u (hu : Kp (fun _ => False) w u) k (hk : k < 2 ^ C.ins.length) => ex_input (hM.kp hu) hf (hu.cellAt2 hs0) hi k hk)
  have HStp := Lib.hid (fun u (hu : Kp (fun _ => False) w u) t (ht : t < nS C) => (ex_Step (hu.cellAt2 hs1) (hR.kp hu) (fun t _ u i h => rowF2_lt h) hn9 ((t : Nat) : Int)).mono (R' := fun e w' => ∃ v, e = .returned v ∧ Own w' u.heap.size 3 v ((stepN (nS C) (rowF2 C t)).map (fun v => Value.int .i64 ((v : Nat) : Int))) ∧ Kp (fun _ => False) u w') (by
    rintro e w' ⟨v, rfl, h1, h2⟩
    refine ⟨v, rfl, ?_, h2⟩
    have e : stepS (nS C) (rowF2 C) ((t : Nat) : Int) = stepL (nS C) (rowF2 C t) := by unfold stepS; rw [if_pos ⟨by omega, by omega⟩]; rfl
    rw [e] at h1
    unfold stepL at h1
    rw [List.map_map] at h1
    exact h1))
  have HNl := Lib.hid (fun t => stepN_len (n := nS C) (F := rowF2 C t))
  have HNm := Lib.hid (fun t v => stepN_mem (n := nS C) (F := rowF2 C t) (v := v))
  have HFd := Lib.hid (fun s i t => hop_found (n := nS C) (F := rowF2 C) (D := dstS C pr) (s := s) (i := i) (t := t))
  obtain ⟨S0, hS0⟩ : ∃ S, stN C s = S := ⟨_, rfl⟩
  rw [hS0] at HSta
  rw [hS0]
  obtain ⟨n, hn⟩ : ∃ n, nS C = n := ⟨_, rfl⟩
  simp only [hn] at HR HB HStp HNl HNm HFd HCh HEd HNxt HSp1 HFt
  rw [hn] at hn9 hs
  obtain ⟨F, hF⟩ : ∃ F, rowF2 C = F := ⟨_, rfl⟩
  simp only [hF] at HR HStp HNl HNm HFd HEd HNxt HIst HFt
  obtain ⟨D, hD⟩ : ∃ D, dstS C pr = D := ⟨_, rfl⟩
  simp only [hD] at HR HFd HCh HNxt
  obtain ⟨BD, hBD⟩ : ∃ BD, rowB C pr = BD := ⟨_, rfl⟩
  simp only [hBD] at HR HIla
  obtain ⟨mx, hmx⟩ : ∃ mx, 2 ^ C.ins.length = mx := ⟨_, rfl⟩
  simp only [hmx] at HInp HIst HIla
  have hmx9 : mx ≤ 256 := by rw [← hmx]; have h2 := Nat.pow_le_pow_right (n := 2) (by decide) hi; exact h2
  clear hM hs0 hs1 hR hb hd hc hip hIK hRG hS0 hn hF hD hBD hmx hf hl hi
  obtain ⟨wz, hwz⟩ : ∃ wz : World, wz = w.alloc (.cells #[.slice none 0 0, .slice none 0 0] 56) := ⟨_, rfl⟩
  have HK0 := Lib.hid (show Kp (fun _ => False) w wz by rw [hwz]; exact (Kp.refl _ w).alloc _)
  have HR0 := Lib.hid (show Blk wz w.heap.size #[.slice none 0 0, .slice none 0 0] 56 by rw [hwz]; exact Blk.new _ _ _)
  have HBz := Lib.hid (HB.out wz HK0.out)
  have HZ := Lib.hid hwz
  obtain ⟨r0, hr0⟩ : ∃ r0, w.heap.size = r0 := ⟨_, rfl⟩
  have HR1 := Lib.hid hr0
  have s0 : ((s : Nat) : Int) ≠ -1 := by omega
  have qs : (((s : Nat) : Int) == -1) = false := by simp [s0]
  clear hwz HB s0
  go_enter Tryz.func26, Tryz.ntmps26
  go_upto_region 1 with fail
  rw [← HZ.out]
  rw [hr0] at HR0
  clear HZ hr0
  go_upto_region 4 with (go_at_call 47; refine Calls.mono HBz.out ?_; rintro e w2 ⟨rfl, hK⟩; have HK2 := Lib.hid (HK0.out.trans hK (fun _ _ h => h)); have HR2 := Lib.hid (HR0.out.kp hK (fun h => h)); have HSt2 := Lib.hid (HSta.out w2 HK2.out); clear hK)
  clear HBz
  go_wp2_with (go_at_call 52; refine Calls.mono HSt2.out ?_; rintro e w3 ⟨v1, rfl, hO, hK⟩; have HK3 := Lib.hid (HK2.out.trans hK (fun _ _ h => h)); have HR3 := Lib.hid (HR2.out.kp hK (fun h => h)); have HO3 := Lib.hid (hO.mono HK2.out.size); obtain ⟨aS, cS, ev1, -⟩ := hO.form; rw [bv_length] at ev1; subst ev1; clear hK hO)
  obtain ⟨rb, hrb⟩ : ∃ rb, w3.heap.size = rb := ⟨_, rfl⟩
  obtain ⟨mS, hmS⟩ : ∃ m, S0.length = m := ⟨_, rfl⟩
  rw [hmS] at HO3 ⊢
  obtain ⟨w4, hw4⟩ : ∃ w4 : World, w4 = w3.alloc (.cells #[.slice aS mS cS, .slice none 0 0] 56) := ⟨_, rfl⟩
  rw [← hw4, hrb]
  have HB4 := Lib.hid (show Blk w4 rb #[.slice aS mS cS, .slice none 0 0] 56 by rw [hw4, ← hrb]; exact Blk.new _ _ _)
  have HK4 := Lib.hid (show Kp (fun _ => False) w w4 by rw [hw4]; exact HK3.out.alloc _)
  have HR4 := Lib.hid (show Blk w4 r0 #[.slice none 0 0, .slice none 0 0] 56 by rw [hw4]; exact HR3.out.alloc _)
  have HO4 := Lib.hid (show Own w4 w.heap.size 4 (.slice aS mS cS) (bv S0) by rw [hw4]; exact HO3.out.alloc _)
  have HSp := Lib.hid (show w.heap.size = r0 ∧ r0 < rb ∧ (∀ j, (Value.slice aS mS cS).ownBlock = some j → j < rb) from ⟨HR1.out, by have := HR3.out.lt; omega, fun j hj => by have := (HO3.out.lt j hj).2; omega⟩)
  clear HK0 HR0 HR1 HK2 HR2 HSt2 HK3 HR3 HO3 hw4 hrb hmS HSta
  go_loopw [4] (fun v4 wr => ∃ (k : Nat) (v2 : Value), v4 = .int .i64 ((c k : Nat) : Int) ∧ k ≤ d ∧ Blk wr rb #[.slice aS mS cS, v2] 56 ∧ OwnR wr (rb + 1) v2 (IK k) ∧ Own wr w.heap.size 4 (.slice aS mS cS) (bv S0) ∧ Blk wr r0 #[.slice none 0 0, .slice none 0 0] 56 ∧ Kp (fun _ => False) w wr) (fun v4 wr => (D (intOf v4).toNat).toNat)
  case atStart => exact ⟨0, _, by rw [HC0.out], Nat.zero_le _, HB4.out, by rw [HI0.out]; exact OwnR.nil _ _, HO4.out, HR4.out, HK4.out⟩
  case round =>
    clear HB4 HO4 HR4 HK4
    obtain ⟨k, v2, rfl, hk, hB, hOr, hO, hB0, hK⟩ := hrel
    have HBk := Lib.hid hB
    have HOr := Lib.hid hOr
    have HO := Lib.hid hO
    have HB0 := Lib.hid hB0
    have HK := Lib.hid hK
    clear hB hOr hO hB0 hK
    obtain ⟨hcn, hcd⟩ := HCh.out k hk
    obtain ⟨cc, hcc⟩ : ∃ cc, c k = cc := ⟨_, rfl⟩
    have HCc := Lib.hid hcc
    rw [hcc] at hcn hcd ⊢
    clear hcc
    have c0 : (0 : Int) ≤ (cc : Int) := by omega
    have c1 : (cc : Int) < (n : Int) := by omega
    obtain ⟨wp, rfl⟩ : ∃ wp : World, wp = wr := ⟨_, rfl⟩
    have d1 := HSp1.out wp HK.out
    have e3 := (HR.out wp HK.out).cell3 hcn
    obtain ⟨y, hy⟩ : ∃ y, D cc = y := ⟨_, rfl⟩
    have HY := Lib.hid hy
    rw [hy] at hcd e3
    clear hy
    by_cases hlt : k < d
    · have y0 : y > 0 := by omega
      have y1 : y ≤ 1024 := by omega
      have HStk := Lib.hid (HStp.out wp HK.out cc hcn)
      have HYd := Lib.hid hcd
      clear hcd
      go_upto_region 6 with fail
      go_wp2_with (go_at_call 20; refine Calls.mono HStk.out ?_; rintro e w6 ⟨v, rfl, hO6, hK6⟩; have HO6 := Lib.hid hO6; have HK6 := Lib.hid hK6; obtain ⟨aT, cT, ev, -⟩ := hO6.form; rw [List.length_map] at ev; subst ev; clear hO6 hK6)
      obtain ⟨T, hT⟩ : ∃ T, stepN n (F cc) = T := ⟨_, rfl⟩
      have hTn := HNl.out cc
      have HTm := Lib.hid (fun v => HNm.out cc v)
      have HTf := Lib.hid (fun i t => HFd.out cc i t)
      rw [hT] at hTn HTm HTf HO6 ⊢
      rw [HY.out] at HTf
      clear hT HStk
      obtain ⟨m, hm⟩ : ∃ m, T.length = m := ⟨_, rfl⟩
      rw [hm] at hTn HO6 ⊢
      have HTl := Lib.hid hm
      clear hm d1 e3
      go_loopw [4, 30] (fun v4 v30 wr => ∃ i : Nat, v4 = .int .i64 (cc : Int) ∧ v30 = .int .i64 (i : Int) ∧ i ≤ m ∧ (∀ j, j < i → ∀ u, T[j]? = some u → D u ≠ y - 1) ∧ Kp (fun _ => False) w6 wr) (fun _ v30 _ => m - (intOf v30).toNat)
      case atStart => exact ⟨0, rfl, rfl, Nat.zero_le _, fun j hj => absurd hj (Nat.not_lt_zero j), Kp.refl _ _⟩
      case round =>
        obtain ⟨i, rfl, rfl, hi, hno, hK7⟩ := hrel
        have HNo := Lib.hid hno
        have HK7 := Lib.hid (HK6.out.trans hK7 (fun _ _ h => h))
        have HO7 := Lib.hid (HO6.out.kp hK7 (fun _ _ h => h))
        have HK7b := Lib.hid hK7
        clear hno hK7
        obtain ⟨w7, rfl⟩ : ∃ w7 : World, w7 = wr := ⟨_, rfl⟩
        have HKw := Lib.hid (HK.out.trans HK7.out (fun _ _ h => h))
        by_cases hil : i < m
        · have i0 : (0 : Int) ≤ (i : Int) := by omega
          have i1 : (i : Int) < (m : Int) := by omega
          obtain ⟨t, ht⟩ : ∃ t, T[i]? = some t := ⟨T[i]'(by rw [HTl.out]; exact hil), List.getElem?_eq_getElem _⟩
          have htn := ((HTm.out t).1 (List.mem_of_getElem? ht)).1
          have t0 : (0 : Int) ≤ (t : Int) := by omega
          have t1 : (t : Int) < (n : Int) := by omega
          have HTi := Lib.hid ht
          obtain ⟨gT, capT, eT, -⟩ := HO7.out.leads (by rw [List.length_map, HTl.out]; omega)
          rw [List.length_map, HTl.out] at eT
          simp only [Value.slice.injEq] at eT
          obtain ⟨rfl, -, rfl⟩ := eT
          have hct : w7.cell? ⟨gT, i, none⟩ = some (.int .i64 (t : Int)) := HO7.out.cell (by rw [List.getElem?_map, ht]; rfl)
          have d1 := HSp1.out w7 HKw.out
          have e3 := (HR.out w7 HKw.out).cell3 hcn
          have g3 := (HR.out w7 HKw.out).cell3 htn
          rw [HY.out] at e3
          obtain ⟨x, hx⟩ : ∃ x, D t = x := ⟨_, rfl⟩
          have HX := Lib.hid hx
          rw [hx] at g3
          clear hx ht
          by_cases hxy : x = y - 1
          · subst hxy
            have hhop : c (k + 1) = t := by rw [HNxt.out k, HCc.out]; exact HTf.out i t HTi.out HX.out HNo.out
            obtain ⟨j, hj1, hj2, hj3⟩ := HIst.out k hlt
            rw [hhop, HCc.out] at hj3
            obtain ⟨q, hMq, -⟩ := (HR.out w7 HKw.out).map cc hcn
            have HMq := Lib.hid (fun u (hu : Kp (fun _ => False) w7 u) => (hMq.kp hu (fun h => h)).look1 (x := ((t : Nat) : Int)) ⟨by omega, by omega⟩)
            rw [hj3] at HMq
            have HHop := Lib.hid hhop
            have HJ := Lib.hid hj1
            clear hj1 hj3 hMq hhop
            go_upto_region 9 with fail
            go_quiet (fail)
            go_upto_region 10 with fail
            obtain ⟨w8, hw8⟩ : ∃ w8 : World, w8 = w7.drewN nq := ⟨_, rfl⟩
            rw [← hw8]
            have HK8 := Lib.hid (show Kp (fun _ => False) w7 w8 by rw [hw8]; exact (Kp.refl _ w7).drewN nq)
            have HKw8 := Lib.hid (HKw.out.trans HK8.out (fun _ _ h => h))
            have hk78 := HK7.out.trans HK8.out (fun _ _ h => h)
            have HBk8 := Lib.hid (HBk.out.kp hk78 (fun h => h))
            have HOr8 := Lib.hid (HOr.out.kp hk78 (fun _ h => h.elim))
            have HO8 := Lib.hid (HO.out.kp hk78 (fun _ _ h => h))
            have HB08 := Lib.hid (HB0.out.kp hk78 (fun h => h))
            clear hw8 hct d1 e3 g3 hk78
            refine wp_region_looseD (p := upTo 15) (V := atV [EqV (.pointer (some ⟨rb, 1, none⟩)), EqV (v2), EqV ((.pointer (some ⟨sp, 0, none⟩))), EqV ((.pointer (some ⟨sp, 0, none⟩))), EqV (.pointer (some ⟨sp, 0, none⟩)), EqV (.pointer (some ⟨sp, 1, none⟩)), EqV (.slice (some ⟨g, 0, none⟩) n cg), EqV ((.int .i64 (cc : Int))), EqV (.pointer (some ⟨g, cc * 4, none⟩)), EqV (.pointer (some ⟨g, cc * 4, none⟩)), EqV (.map (some (mb cc))), EqV ((.int .i64 (t : Int))), EqV (.int .i64 (j : Int)), (fun u v => Own u (rb + 1) 4 v (bv (inN2 C j))), (One1 (rb + 1) (inN2 C j).length (bv (inN2 C j)))]) (LP := #[true, true, true, true, true, true, true, true, true, true, true, true, true, true, true, false, false, false]) (K := 3) (by kernel_rfl) (by kernel_rfl) (atV_st ?hstL10) ?hstepL10 (by kernel_rfl) ?hLPL10 (by kernel_rfl) ?hendL10
            case hstL10 =>
              intro W h
              simp only [List.mem_cons, List.not_mem_nil, or_false] at h
              rcases h with rfl | rfl | rfl | rfl | rfl | rfl | rfl | rfl | rfl | rfl | rfl | rfl | rfl | rfl | rfl <;> first | exact EqV.st _ | exact One1.st _ _ _ | exact fun _ _ _ k h => Own.kp h k (fun _ _ h => h)
            case hLPL10 => exact upTo_spec (by kernel_rfl)
            case hstepL10 =>
              intro i o ho hp a u hk hoff hdep
              have e0 : a.tmps[0]?.getD undef = (.pointer (some ⟨sp, 0, none⟩)) := slot_at (hoff 0 (noDst_spec (by kernel_rfl)))
              have e4 : a.tmps[4]?.getD undef = (.int .i64 (cc : Int)) := slot_at (hoff 4 (noDst_spec (by kernel_rfl)))
              have e5 : a.tmps[5]?.getD undef = (.pointer (some ⟨rb, 0, none⟩)) := slot_at (hoff 5 (noDst_spec (by kernel_rfl)))
              have e7 : a.tmps[7]?.getD undef = (.int .i64 (t : Int)) := slot_at (hoff 7 (noDst_spec (by kernel_rfl)))
              clear hoff
              match i, ho with
              | 0, ho =>
                obtain rfl := Option.some.inj ho
                refine lw_value (v := .pointer (some ⟨rb, 1, none⟩)) (u' := u) ?_ (Kp.refl _ _) rfl
                go_simp
              | 1, ho =>
                obtain rfl := Option.some.inj ho
                have e52 : a.tmps[52]?.getD undef = .pointer (some ⟨rb, 1, none⟩) := slot_at (hdep ⟨0, .data⟩ (by simp) rfl _ 52 rfl rfl)
                have c1 := (HBk8.out.kp hk (fun h => h)).cell (i := 1) (v := v2) rfl
                refine lw_value (v := v2) (u' := u) ?_ (Kp.refl _ _) rfl
                go_simp
              | 2, ho =>
                obtain rfl := Option.some.inj ho
                refine lw_value (v := (.pointer (some ⟨sp, 0, none⟩))) (u' := u) ?_ (Kp.refl _ _) rfl
                go_simp
              | 3, ho =>
                obtain rfl := Option.some.inj ho
                refine lw_value (v := (.pointer (some ⟨sp, 0, none⟩))) (u' := u) ?_ (Kp.refl _ _) rfl
                go_simp
              | 4, ho =>
                obtain rfl := Option.some.inj ho
                have e55 : a.tmps[55]?.getD undef = (.pointer (some ⟨sp, 0, none⟩)) := slot_at (hdep ⟨3, .data⟩ (by simp) rfl _ 55 rfl rfl)
                refine lw_value (v := .pointer (some ⟨sp, 0, none⟩)) (u' := u) ?_ (Kp.refl _ _) rfl
                go_simp
              | 5, ho =>
                obtain rfl := Option.some.inj ho
                have e56 : a.tmps[56]?.getD undef = .pointer (some ⟨sp, 0, none⟩) := slot_at (hdep ⟨4, .data⟩ (by simp) rfl _ 56 rfl rfl)
                refine lw_value (v := .pointer (some ⟨sp, 1, none⟩)) (u' := u) ?_ (Kp.refl _ _) rfl
                go_simp
              | 6, ho =>
                obtain rfl := Option.some.inj ho
                have e57 : a.tmps[57]?.getD undef = .pointer (some ⟨sp, 1, none⟩) := slot_at (hdep ⟨5, .data⟩ (by simp) rfl _ 57 rfl rfl)
                have c1 := HSp1.out u (HKw8.out.trans hk (fun _ _ h => h))
                refine lw_value (v := .slice (some ⟨g, 0, none⟩) n cg) (u' := u) ?_ (Kp.refl _ _) rfl
                go_simp
              | 7, ho =>
                obtain rfl := Option.some.inj ho
                refine lw_value (v := (.int .i64 (cc : Int))) (u' := u) ?_ (Kp.refl _ _) rfl
                go_simp
              | 8, ho =>
                obtain rfl := Option.some.inj ho
                have e58 : a.tmps[58]?.getD undef = .slice (some ⟨g, 0, none⟩) n cg := slot_at (hdep ⟨6, .data⟩ (by simp) rfl _ 58 rfl rfl)
                have e59 : a.tmps[59]?.getD undef = (.int .i64 (cc : Int)) := slot_at (hdep ⟨7, .data⟩ (by simp) rfl _ 59 rfl rfl)
                refine lw_value (v := .pointer (some ⟨g, cc * 4, none⟩)) (u' := u) ?_ (Kp.refl _ _) rfl
                go_simp
              | 9, ho =>
                obtain rfl := Option.some.inj ho
                have e60 : a.tmps[60]?.getD undef = .pointer (some ⟨g, cc * 4, none⟩) := slot_at (hdep ⟨8, .data⟩ (by simp) rfl _ 60 rfl rfl)
                refine lw_value (v := .pointer (some ⟨g, cc * 4, none⟩)) (u' := u) ?_ (Kp.refl _ _) rfl
                go_simp
              | 10, ho =>
                obtain rfl := Option.some.inj ho
                have e61 : a.tmps[61]?.getD undef = .pointer (some ⟨g, cc * 4, none⟩) := slot_at (hdep ⟨9, .data⟩ (by simp) rfl _ 61 rfl rfl)
                have c1 := (HR.out u (HKw8.out.trans hk (fun _ _ h => h))).cell0 hcn
                refine lw_value (v := .map (some (mb cc))) (u' := u) ?_ (Kp.refl _ _) rfl
                go_simp
              | 11, ho =>
                obtain rfl := Option.some.inj ho
                refine lw_value (v := (.int .i64 (t : Int))) (u' := u) ?_ (Kp.refl _ _) rfl
                go_simp
              | 12, ho =>
                obtain rfl := Option.some.inj ho
                have e62 : a.tmps[62]?.getD undef = .map (some (mb cc)) := slot_at (hdep ⟨10, .data⟩ (by simp) rfl _ 62 rfl rfl)
                have e63 : a.tmps[63]?.getD undef = (.int .i64 (t : Int)) := slot_at (hdep ⟨11, .data⟩ (by simp) rfl _ 63 rfl rfl)
                have c1 := HMq.out u (HK8.out.trans hk (fun _ _ h => h))
                refine lw_value (v := .int .i64 (j : Int)) (u' := u) ?_ (Kp.refl _ _) rfl
                go_simp
              | 13, ho =>
                obtain rfl := Option.some.inj ho
                have e54 : a.tmps[54]?.getD undef = (.pointer (some ⟨sp, 0, none⟩)) := slot_at (hdep ⟨2, .data⟩ (by simp) rfl _ 54 rfl rfl)
                have e64 : a.tmps[64]?.getD undef = .int .i64 (j : Int) := slot_at (hdep ⟨12, .data⟩ (by simp) rfl _ 64 rfl rfl)
                refine lw_call (f := 53) (args := #[.pointer (some ⟨sp, 0, none⟩), .int .i64 (j : Int)]) ?_ ?_
                · go_simp
                · exact (HInp.out u (HKw8.out.trans hk (fun _ _ h => h)) j hj2).mono (by
                    rintro e u' ⟨v, rfl, hO, hK⟩
                    exact ⟨v, rfl, hK, hO.mono (by have := (HBk8.out.kp hk (fun h => h)).lt; omega)⟩)
              | 14, ho =>
                obtain rfl := Option.some.inj ho
                have g := hdep ⟨13, .data⟩ (by simp) rfl _ 65 rfl rfl
                obtain ⟨x, hx⟩ : ∃ x, a.tmps.getD 65 undef = x := ⟨_, rfl⟩
                rw [hx] at g
                have g' : Own u (rb + 1) 4 x (bv (inN2 C j)) := g
                clear g
                obtain ⟨ya, yc, eY, -⟩ := g'.form
                rw [bv_length] at eY
                subst eY
                have e65 := slot_at hx
                refine lw_value (v := .slice (some ⟨u.heap.size, 0, none⟩) 1 1) (u' := u.alloc (.cells #[.slice ya (inN2 C j).length yc] 38)) ?_ ((Kp.refl _ _).alloc _) ⟨_, ya, yc, rfl, World.cell?_alloc_at _ _ _ _ rfl, g'.alloc _⟩
                clear g'
                go_simp
              | n + 15, _ => exact absurd hp (by simp [upTo])
            case hendL10 =>
              intro a u hI
              have hsz : a.tmps.size = 87 := hI.size
              have hdf : a.defers = [] := hI.defers
              have f0 : a.tmps.getD 0 undef = _ := hI.off 0 (noDst_spec (p := upTo 15) (by kernel_rfl))
              have f1 : a.tmps.getD 1 undef = _ := hI.off 1 (noDst_spec (p := upTo 15) (by kernel_rfl))
              have f2 : a.tmps.getD 2 undef = _ := hI.off 2 (noDst_spec (p := upTo 15) (by kernel_rfl))
              have f3 : a.tmps.getD 3 undef = _ := hI.off 3 (noDst_spec (p := upTo 15) (by kernel_rfl))
              have f4 : a.tmps.getD 4 undef = _ := hI.off 4 (noDst_spec (p := upTo 15) (by kernel_rfl))
              have f5 : a.tmps.getD 5 undef = _ := hI.off 5 (noDst_spec (p := upTo 15) (by kernel_rfl))
              have f6 : a.tmps.getD 6 undef = _ := hI.off 6 (noDst_spec (p := upTo 15) (by kernel_rfl))
              have f7 : a.tmps.getD 7 undef = _ := hI.off 7 (noDst_spec (p := upTo 15) (by kernel_rfl))
              have f8 : a.tmps.getD 8 undef = _ := hI.off 8 (noDst_spec (p := upTo 15) (by kernel_rfl))
              have f9 : a.tmps.getD 9 undef = _ := hI.off 9 (noDst_spec (p := upTo 15) (by kernel_rfl))
              have f10 : a.tmps.getD 10 undef = _ := hI.off 10 (noDst_spec (p := upTo 15) (by kernel_rfl))
              have f11 : a.tmps.getD 11 undef = _ := hI.off 11 (noDst_spec (p := upTo 15) (by kernel_rfl))
              have f12 : a.tmps.getD 12 undef = _ := hI.off 12 (noDst_spec (p := upTo 15) (by kernel_rfl))
              have f13 : a.tmps.getD 13 undef = _ := hI.off 13 (noDst_spec (p := upTo 15) (by kernel_rfl))
              have f14 : a.tmps.getD 14 undef = _ := hI.off 14 (noDst_spec (p := upTo 15) (by kernel_rfl))
              have f15 : a.tmps.getD 15 undef = _ := hI.off 15 (noDst_spec (p := upTo 15) (by kernel_rfl))
              have f16 : a.tmps.getD 16 undef = _ := hI.off 16 (noDst_spec (p := upTo 15) (by kernel_rfl))
              have f17 : a.tmps.getD 17 undef = _ := hI.off 17 (noDst_spec (p := upTo 15) (by kernel_rfl))
              have f18 : a.tmps.getD 18 undef = _ := hI.off 18 (noDst_spec (p := upTo 15) (by kernel_rfl))
              have f19 : a.tmps.getD 19 undef = _ := hI.off 19 (noDst_spec (p := upTo 15) (by kernel_rfl))
              have f20 : a.tmps.getD 20 undef = _ := hI.off 20 (noDst_spec (p := upTo 15) (by kernel_rfl))
              have f21 : a.tmps.getD 21 undef = _ := hI.off 21 (noDst_spec (p := upTo 15) (by kernel_rfl))
              have f22 : a.tmps.getD 22 undef = _ := hI.off 22 (noDst_spec (p := upTo 15) (by kernel_rfl))
              have f23 : a.tmps.getD 23 undef = _ := hI.off 23 (noDst_spec (p := upTo 15) (by kernel_rfl))
              have f24 : a.tmps.getD 24 undef = _ := hI.off 24 (noDst_spec (p := upTo 15) (by kernel_rfl))
              have f25 : a.tmps.getD 25 undef = _ := hI.off 25 (noDst_spec (p := upTo 15) (by kernel_rfl))
              have f26 : a.tmps.getD 26 undef = _ := hI.off 26 (noDst_spec (p := upTo 15) (by kernel_rfl))
              have f27 : a.tmps.getD 27 undef = _ := hI.off 27 (noDst_spec (p := upTo 15) (by kernel_rfl))
              have f28 : a.tmps.getD 28 undef = _ := hI.off 28 (noDst_spec (p := upTo 15) (by kernel_rfl))
              have f29 : a.tmps.getD 29 undef = _ := hI.off 29 (noDst_spec (p := upTo 15) (by kernel_rfl))
              have f30 : a.tmps.getD 30 undef = _ := hI.off 30 (noDst_spec (p := upTo 15) (by kernel_rfl))
              have f31 : a.tmps.getD 31 undef = _ := hI.off 31 (noDst_spec (p := upTo 15) (by kernel_rfl))
              have f32 : a.tmps.getD 32 undef = _ := hI.off 32 (noDst_spec (p := upTo 15) (by kernel_rfl))
              have f33 : a.tmps.getD 33 undef = _ := hI.off 33 (noDst_spec (p := upTo 15) (by kernel_rfl))
              have f34 : a.tmps.getD 34 undef = _ := hI.off 34 (noDst_spec (p := upTo 15) (by kernel_rfl))
              have f35 : a.tmps.getD 35 undef = _ := hI.off 35 (noDst_spec (p := upTo 15) (by kernel_rfl))
              have f36 : a.tmps.getD 36 undef = _ := hI.off 36 (noDst_spec (p := upTo 15) (by kernel_rfl))
              have f37 : a.tmps.getD 37 undef = _ := hI.off 37 (noDst_spec (p := upTo 15) (by kernel_rfl))
              have f38 : a.tmps.getD 38 undef = _ := hI.off 38 (noDst_spec (p := upTo 15) (by kernel_rfl))
              have f39 : a.tmps.getD 39 undef = _ := hI.off 39 (noDst_spec (p := upTo 15) (by kernel_rfl))
              have f40 : a.tmps.getD 40 undef = _ := hI.off 40 (noDst_spec (p := upTo 15) (by kernel_rfl))
              have f41 : a.tmps.getD 41 undef = _ := hI.off 41 (noDst_spec (p := upTo 15) (by kernel_rfl))
              have f42 : a.tmps.getD 42 undef = _ := hI.off 42 (noDst_spec (p := upTo 15) (by kernel_rfl))
              have f43 : a.tmps.getD 43 undef = _ := hI.off 43 (noDst_spec (p := upTo 15) (by kernel_rfl))
              have f44 : a.tmps.getD 44 undef = _ := hI.off 44 (noDst_spec (p := upTo 15) (by kernel_rfl))
              have f45 : a.tmps.getD 45 undef = _ := hI.off 45 (noDst_spec (p := upTo 15) (by kernel_rfl))
              have f46 : a.tmps.getD 46 undef = _ := hI.off 46 (noDst_spec (p := upTo 15) (by kernel_rfl))
              have f47 : a.tmps.getD 47 undef = _ := hI.off 47 (noDst_spec (p := upTo 15) (by kernel_rfl))
              have f48 : a.tmps.getD 48 undef = _ := hI.off 48 (noDst_spec (p := upTo 15) (by kernel_rfl))
              have f49 : a.tmps.getD 49 undef = _ := hI.off 49 (noDst_spec (p := upTo 15) (by kernel_rfl))
              have f50 : a.tmps.getD 50 undef = _ := hI.off 50 (noDst_spec (p := upTo 15) (by kernel_rfl))
              have f51 : a.tmps.getD 51 undef = _ := hI.off 51 (noDst_spec (p := upTo 15) (by kernel_rfl))
              have f67 : a.tmps.getD 67 undef = _ := hI.off 67 (noDst_spec (p := upTo 15) (by kernel_rfl))
              have f68 : a.tmps.getD 68 undef = _ := hI.off 68 (noDst_spec (p := upTo 15) (by kernel_rfl))
              have f69 : a.tmps.getD 69 undef = _ := hI.off 69 (noDst_spec (p := upTo 15) (by kernel_rfl))
              have f70 : a.tmps.getD 70 undef = _ := hI.off 70 (noDst_spec (p := upTo 15) (by kernel_rfl))
              have f71 : a.tmps.getD 71 undef = _ := hI.off 71 (noDst_spec (p := upTo 15) (by kernel_rfl))
              have f72 : a.tmps.getD 72 undef = _ := hI.off 72 (noDst_spec (p := upTo 15) (by kernel_rfl))
              have f73 : a.tmps.getD 73 undef = _ := hI.off 73 (noDst_spec (p := upTo 15) (by kernel_rfl))
              have f74 : a.tmps.getD 74 undef = _ := hI.off 74 (noDst_spec (p := upTo 15) (by kernel_rfl))
              have f75 : a.tmps.getD 75 undef = _ := hI.off 75 (noDst_spec (p := upTo 15) (by kernel_rfl))
              have f76 : a.tmps.getD 76 undef = _ := hI.off 76 (noDst_spec (p := upTo 15) (by kernel_rfl))
              have f77 : a.tmps.getD 77 undef = _ := hI.off 77 (noDst_spec (p := upTo 15) (by kernel_rfl))
              have f78 : a.tmps.getD 78 undef = _ := hI.off 78 (noDst_spec (p := upTo 15) (by kernel_rfl))
              have f79 : a.tmps.getD 79 undef = _ := hI.off 79 (noDst_spec (p := upTo 15) (by kernel_rfl))
              have f80 : a.tmps.getD 80 undef = _ := hI.off 80 (noDst_spec (p := upTo 15) (by kernel_rfl))
              have f81 : a.tmps.getD 81 undef = _ := hI.off 81 (noDst_spec (p := upTo 15) (by kernel_rfl))
              have f82 : a.tmps.getD 82 undef = _ := hI.off 82 (noDst_spec (p := upTo 15) (by kernel_rfl))
              have f83 : a.tmps.getD 83 undef = _ := hI.off 83 (noDst_spec (p := upTo 15) (by kernel_rfl))
              have f84 : a.tmps.getD 84 undef = _ := hI.off 84 (noDst_spec (p := upTo 15) (by kernel_rfl))
              have f85 : a.tmps.getD 85 undef = _ := hI.off 85 (noDst_spec (p := upTo 15) (by kernel_rfl))
              have f86 : a.tmps.getD 86 undef = _ := hI.off 86 (noDst_spec (p := upTo 15) (by kernel_rfl))
              have f52 : a.tmps.getD 52 undef = .pointer (some ⟨rb, 1, none⟩) := hI.val 0 _ 52 rfl rfl rfl
              have f53 : a.tmps.getD 53 undef = v2 := hI.val 1 _ 53 rfl rfl rfl
              have f54 : a.tmps.getD 54 undef = (.pointer (some ⟨sp, 0, none⟩)) := hI.val 2 _ 54 rfl rfl rfl
              have f55 : a.tmps.getD 55 undef = (.pointer (some ⟨sp, 0, none⟩)) := hI.val 3 _ 55 rfl rfl rfl
              have f56 : a.tmps.getD 56 undef = .pointer (some ⟨sp, 0, none⟩) := hI.val 4 _ 56 rfl rfl rfl
              have f57 : a.tmps.getD 57 undef = .pointer (some ⟨sp, 1, none⟩) := hI.val 5 _ 57 rfl rfl rfl
              have f58 : a.tmps.getD 58 undef = .slice (some ⟨g, 0, none⟩) n cg := hI.val 6 _ 58 rfl rfl rfl
              have f59 : a.tmps.getD 59 undef = (.int .i64 (cc : Int)) := hI.val 7 _ 59 rfl rfl rfl
              have f60 : a.tmps.getD 60 undef = .pointer (some ⟨g, cc * 4, none⟩) := hI.val 8 _ 60 rfl rfl rfl
              have f61 : a.tmps.getD 61 undef = .pointer (some ⟨g, cc * 4, none⟩) := hI.val 9 _ 61 rfl rfl rfl
              have f62 : a.tmps.getD 62 undef = .map (some (mb cc)) := hI.val 10 _ 62 rfl rfl rfl
              have f63 : a.tmps.getD 63 undef = (.int .i64 (t : Int)) := hI.val 11 _ 63 rfl rfl rfl
              have f64 : a.tmps.getD 64 undef = .int .i64 (j : Int) := hI.val 12 _ 64 rfl rfl rfl
              have g65 : ((fun u v => Own u (rb + 1) 4 v (bv (inN2 C j)))) u (a.tmps.getD 65 undef) := hI.val 13 _ 65 rfl rfl rfl
              have g66 : ((One1 (rb + 1) (inN2 C j).length (bv (inN2 C j)))) u (a.tmps.getD 66 undef) := hI.val 14 _ 66 rfl rfl rfl
              have ha : a = ⟨#[a.tmps.getD 0 undef, a.tmps.getD 1 undef, a.tmps.getD 2 undef, a.tmps.getD 3 undef, a.tmps.getD 4 undef, a.tmps.getD 5 undef, a.tmps.getD 6 undef, a.tmps.getD 7 undef, a.tmps.getD 8 undef, a.tmps.getD 9 undef, a.tmps.getD 10 undef, a.tmps.getD 11 undef, a.tmps.getD 12 undef, a.tmps.getD 13 undef, a.tmps.getD 14 undef, a.tmps.getD 15 undef, a.tmps.getD 16 undef, a.tmps.getD 17 undef, a.tmps.getD 18 undef, a.tmps.getD 19 undef, a.tmps.getD 20 undef, a.tmps.getD 21 undef, a.tmps.getD 22 undef, a.tmps.getD 23 undef, a.tmps.getD 24 undef, a.tmps.getD 25 undef, a.tmps.getD 26 undef, a.tmps.getD 27 undef, a.tmps.getD 28 undef, a.tmps.getD 29 undef, a.tmps.getD 30 undef, a.tmps.getD 31 undef, a.tmps.getD 32 undef, a.tmps.getD 33 undef, a.tmps.getD 34 undef, a.tmps.getD 35 undef, a.tmps.getD 36 undef, a.tmps.getD 37 undef, a.tmps.getD 38 undef, a.tmps.getD 39 undef, a.tmps.getD 40 undef, a.tmps.getD 41 undef, a.tmps.getD 42 undef, a.tmps.getD 43 undef, a.tmps.getD 44 undef, a.tmps.getD 45 undef, a.tmps.getD 46 undef, a.tmps.getD 47 undef, a.tmps.getD 48 undef, a.tmps.getD 49 undef, a.tmps.getD 50 undef, a.tmps.getD 51 undef, a.tmps.getD 52 undef, a.tmps.getD 53 undef, a.tmps.getD 54 undef, a.tmps.getD 55 undef, a.tmps.getD 56 undef, a.tmps.getD 57 undef, a.tmps.getD 58 undef, a.tmps.getD 59 undef, a.tmps.getD 60 undef, a.tmps.getD 61 undef, a.tmps.getD 62 undef, a.tmps.getD 63 undef, a.tmps.getD 64 undef, a.tmps.getD 65 undef, a.tmps.getD 66 undef, a.tmps.getD 67 undef, a.tmps.getD 68 undef, a.tmps.getD 69 undef, a.tmps.getD 70 undef, a.tmps.getD 71 undef, a.tmps.getD 72 undef, a.tmps.getD 73 undef, a.tmps.getD 74 undef, a.tmps.getD 75 undef, a.tmps.getD 76 undef, a.tmps.getD 77 undef, a.tmps.getD 78 undef, a.tmps.getD 79 undef, a.tmps.getD 80 undef, a.tmps.getD 81 undef, a.tmps.getD 82 undef, a.tmps.getD 83 undef, a.tmps.getD 84 undef, a.tmps.getD 85 undef, a.tmps.getD 86 undef], a.defers⟩ := act_list a 87 hsz
              rw [hdf, f0, f1, f2, f3, f4, f5, f6, f7, f8, f9, f10, f11, f12, f13, f14, f15, f16, f17, f18, f19, f20, f21, f22, f23, f24, f25, f26, f27, f28, f29, f30, f31, f32, f33, f34, f35, f36, f37, f38, f39, f40, f41, f42, f43, f44, f45, f46, f47, f48, f49, f50, f51, f52, f53, f54, f55, f56, f57, f58, f59, f60, f61, f62, f63, f64, f67, f68, f69, f70, f71, f72, f73, f74, f75, f76, f77, f78, f79, f80, f81, f82, f83, f84, f85, f86] at ha
              obtain ⟨x65, hx65⟩ : ∃ x, a.tmps.getD 65 undef = x := ⟨_, rfl⟩
              obtain ⟨x66, hx66⟩ : ∃ x, a.tmps.getD 66 undef = x := ⟨_, rfl⟩
              rw [hx65, hx66] at ha
              rw [hx65] at g65
              rw [hx66] at g66
              have hku := hI.kp
              clear hI hsz hdf f0 f1 f2 f3 f4 f5 f6 f7 f8 f9 f10 f11 f12 f13 f14 f15 f16 f17 f18 f19 f20 f21 f22 f23 f24 f25 f26 f27 f28 f29 f30 f31 f32 f33 f34 f35 f36 f37 f38 f39 f40 f41 f42 f43 f44 f45 f46 f47 f48 f49 f50 f51 f52 f53 f54 f55 f56 f57 f58 f59 f60 f61 f62 f63 f64 f67 f68 f69 f70 f71 f72 f73 f74 f75 f76 f77 f78 f79 f80 f81 f82 f83 f84 f85 f86 hx65 hx66
              subst ha
              refine wpAny_tail 15 rfl (by kernel_rfl) ?_
              simp only [List.drop_succ_cons, List.drop_zero]
              simp only [Array.getD_eq_getD_getElem?, List.getElem?_toArray, List.getElem?_cons_zero, List.getElem?_cons_succ, Option.getD_some]
              obtain ⟨gg, ya, yc, rfl, hcy, hgy⟩ := g66
              obtain ⟨vs, hv, hvl, hvr⟩ := HOr8.out.kp hku (fun _ h => h.elim)
              have HV := Lib.hid hv
              have HVr := Lib.hid hvr
              have hvl9 : vs.length ≤ 1024 := by rw [hvl, HIl.out]; omega
              have HVl := Lib.hid hvl
              have HG := Lib.hid hgy
              have HBu := Lib.hid (HBk8.out.kp hku (fun h => h))
              have HKu := Lib.hid (HKw8.out.trans hku (fun _ _ h => h))
              have HOu := Lib.hid (HO8.out.kp hku (fun _ _ h => h))
              have HB0u := Lib.hid (HB08.out.kp hku (fun h => h))
              have hbu := HBu.out.lt
              clear hv hvl hvr g65 hgy hku
              go_wp2_with (at_builtin; refine wpList_append1_at rfl _ _ 54 38 rfl Tryz.underlying54 HI.out rfl HV.out rfl ⟨gg, 0, none⟩ _ rfl hcy rfl ?c2 ?c3 ?c4 ?_)
              case c2 => omega
              case c3 => unfold maxLen; omega
              case c4 => omega
              intro v' w9 hO9 hg9 _
              obtain ⟨aN, cN, eN, -⟩ := hO9.form
              rw [List.length_append, List.length_singleton] at eN
              have hp := OwnR.push HV.out HVl.out HVr.out HG.out (Kp.refl (fun _ => False) u) hO9 hg9
              subst eN
              have hK9 : Kp (fun j => v2.ownBlock = some j) u w9 := (Kp.refl (fun j => v2.ownBlock = some j) u).grown hg9 (fun j hj _ => hj)
              have hv2 : ∀ j, v2.ownBlock = some j → rb + 1 ≤ j := fun j hj => (HV.out.lt j hj).1
              have HB9 := Lib.hid (HBu.out.kp hK9 (fun e => by have := hv2 _ e; omega))
              have HB09 := Lib.hid (HB0u.out.kp hK9 (fun e => by have := hv2 _ e; have := HSp.out.2.1; omega))
              have HO9 := Lib.hid (HOu.out.kp hK9 (fun j hj e => by have := hv2 _ e; have := HSp.out.2.2 j hj; omega))
              have HK9 := Lib.hid (HKu.out.trans hK9 (fun j h1 e => by have := hv2 _ e; have := HSp.out.1; have := HSp.out.2.1; omega))
              have HP9 := Lib.hid hp
              have y1 := HB9.out.cell (i := 1) (v := v2) rfl
              have z1 := HB9.out.free 1
              clear hO9 hg9 hp hK9 hv2
              go_wp2_with fail
              have HBe := HB9.out.set_same 1 (.slice aN (vs.length + 1) cN)
              have hKs : Kp (fun j => j = rb) w9 (w9.setCell ⟨rb, 1, none⟩ (.slice aN (vs.length + 1) cN)) := Kp.set w9 ⟨rb, 1, none⟩ (.slice aN (vs.length + 1) cN)
              go_roundw
              case rel =>
                refine ⟨k + 1, _, by rw [HHop.out], by omega, HBe, ?_, HO9.out.kp hKs (fun j hj e => by have := HSp.out.2.2 j hj; omega), HB09.out.kp hKs (fun e => by have := HSp.out.2.1; omega), HK9.out.trans hKs (fun j h1 e => by have := HSp.out.1; have := HSp.out.2.1; omega)⟩
                rw [HIk.out k, HJ.out]
                exact HP9.out.kp hKs (fun j e => .inl (by omega))
              case measure => simp only [intOf, Int.toNat_natCast]; rw [HX.out, HY.out]; omega
          · go_upto_region 9 with fail
            go_quiet (fail)
            go_wp2_with fail
            go_roundw
            case rel =>
              refine ⟨i + 1, rfl, by go_num, by omega, fun j hj u hu => ?_, by first | exact HK7b.out | exact HK7b.out.drewN _⟩
              by_cases e : j = i
              · subst e
                rw [HTi.out] at hu
                cases hu
                rw [HX.out]; exact hxy
              · exact HNo.out j (by omega) u hu
            case measure => simp [intOf]; omega
        · exfalso
          have h1 := HCh.out (k + 1) (by omega)
          have h2 := (HTm.out (c (k + 1))).2 ⟨h1.1, by rw [← HCc.out]; exact HEd.out k hlt⟩
          obtain ⟨j, hj⟩ := List.mem_iff_getElem?.1 h2
          have hjl : j < m := by rw [← HTl.out]; exact (List.getElem?_eq_some_iff.1 hj).1
          exact HNo.out j (by omega) _ hj (by rw [h1.2, HYd.out]; omega)
    · obtain rfl : k = d := by omega
      have hy0 : y = 0 := by omega
      subst hy0
      obtain ⟨j, hj1, hj2, hj3⟩ := HIla.out
      rw [HCc.out] at hj3
      have HJ := Lib.hid hj1
      have e1 := (HR.out wp HK.out).cell1 hcn
      rw [hj3] at e1
      have HE1 := Lib.hid (fun u (hu : Kp (fun _ => False) wp u) => hu.cellAt2 e1)
      have HKw8 := Lib.hid HK.out
      have HBk8 := Lib.hid HBk.out
      have HOr8 := Lib.hid HOr.out
      have HO8 := Lib.hid HO.out
      have HB08 := Lib.hid HB0.out
      clear hj1 hj3 hcd e1
      go_upto_region 13 with fail
      clear d1 e3
      refine wp_region_looseD (p := upTo 13) (V := atV [EqV (.pointer (some ⟨rb, 1, none⟩)), EqV (v2), EqV ((.pointer (some ⟨sp, 0, none⟩))), EqV ((.pointer (some ⟨sp, 0, none⟩))), EqV (.pointer (some ⟨sp, 0, none⟩)), EqV (.pointer (some ⟨sp, 1, none⟩)), EqV (.slice (some ⟨g, 0, none⟩) n cg), EqV ((.int .i64 (cc : Int))), EqV (.pointer (some ⟨g, cc * 4, none⟩)), EqV (.pointer (some ⟨g, cc * 4 + 1, none⟩)), EqV (.int .i64 (j : Int)), (fun u v => Own u (rb + 1) 4 v (bv (inN2 C j))), (One1 (rb + 1) (inN2 C j).length (bv (inN2 C j)))]) (LP := #[true, true, true, true, true, true, true, true, true, true, true, true, true, false, false, false]) (K := 3) (by kernel_rfl) (by kernel_rfl) (atV_st ?hstL13) ?hstepL13 (by kernel_rfl) ?hLPL13 (by kernel_rfl) ?hendL13
      case hstL13 =>
        intro W h
        simp only [List.mem_cons, List.not_mem_nil, or_false] at h
        rcases h with rfl | rfl | rfl | rfl | rfl | rfl | rfl | rfl | rfl | rfl | rfl | rfl | rfl <;> first | exact EqV.st _ | exact One1.st _ _ _ | exact fun _ _ _ k h => Own.kp h k (fun _ _ h => h)
      case hLPL13 => exact upTo_spec (by kernel_rfl)
      case hstepL13 =>
        intro i o ho hp a u hk hoff hdep
        have e0 : a.tmps[0]?.getD undef = (.pointer (some ⟨sp, 0, none⟩)) := slot_at (hoff 0 (noDst_spec (by kernel_rfl)))
        have e4 : a.tmps[4]?.getD undef = (.int .i64 (cc : Int)) := slot_at (hoff 4 (noDst_spec (by kernel_rfl)))
        have e5 : a.tmps[5]?.getD undef = (.pointer (some ⟨rb, 0, none⟩)) := slot_at (hoff 5 (noDst_spec (by kernel_rfl)))
        clear hoff
        match i, ho with
        | 0, ho =>
          obtain rfl := Option.some.inj ho
          refine lw_value (v := .pointer (some ⟨rb, 1, none⟩)) (u' := u) ?_ (Kp.refl _ _) rfl
          go_simp
        | 1, ho =>
          obtain rfl := Option.some.inj ho
          have e71 : a.tmps[71]?.getD undef = .pointer (some ⟨rb, 1, none⟩) := slot_at (hdep ⟨0, .data⟩ (by simp) rfl _ 71 rfl rfl)
          have c1 := (HBk8.out.kp hk (fun h => h)).cell (i := 1) (v := v2) rfl
          refine lw_value (v := v2) (u' := u) ?_ (Kp.refl _ _) rfl
          go_simp
        | 2, ho =>
          obtain rfl := Option.some.inj ho
          refine lw_value (v := (.pointer (some ⟨sp, 0, none⟩))) (u' := u) ?_ (Kp.refl _ _) rfl
          go_simp
        | 3, ho =>
          obtain rfl := Option.some.inj ho
          refine lw_value (v := (.pointer (some ⟨sp, 0, none⟩))) (u' := u) ?_ (Kp.refl _ _) rfl
          go_simp
        | 4, ho =>
          obtain rfl := Option.some.inj ho
          have e74 : a.tmps[74]?.getD undef = (.pointer (some ⟨sp, 0, none⟩)) := slot_at (hdep ⟨3, .data⟩ (by simp) rfl _ 74 rfl rfl)
          refine lw_value (v := .pointer (some ⟨sp, 0, none⟩)) (u' := u) ?_ (Kp.refl _ _) rfl
          go_simp
        | 5, ho =>
          obtain rfl := Option.some.inj ho
          have e75 : a.tmps[75]?.getD undef = .pointer (some ⟨sp, 0, none⟩) := slot_at (hdep ⟨4, .data⟩ (by simp) rfl _ 75 rfl rfl)
          refine lw_value (v := .pointer (some ⟨sp, 1, none⟩)) (u' := u) ?_ (Kp.refl _ _) rfl
          go_simp
        | 6, ho =>
          obtain rfl := Option.some.inj ho
          have e76 : a.tmps[76]?.getD undef = .pointer (some ⟨sp, 1, none⟩) := slot_at (hdep ⟨5, .data⟩ (by simp) rfl _ 76 rfl rfl)
          have c1 := HSp1.out u (HKw8.out.trans hk (fun _ _ h => h))
          refine lw_value (v := .slice (some ⟨g, 0, none⟩) n cg) (u' := u) ?_ (Kp.refl _ _) rfl
          go_simp
        | 7, ho =>
          obtain rfl := Option.some.inj ho
          refine lw_value (v := (.int .i64 (cc : Int))) (u' := u) ?_ (Kp.refl _ _) rfl
          go_simp
        | 8, ho =>
          obtain rfl := Option.some.inj ho
          have e77 : a.tmps[77]?.getD undef = .slice (some ⟨g, 0, none⟩) n cg := slot_at (hdep ⟨6, .data⟩ (by simp) rfl _ 77 rfl rfl)
          have e78 : a.tmps[78]?.getD undef = (.int .i64 (cc : Int)) := slot_at (hdep ⟨7, .data⟩ (by simp) rfl _ 78 rfl rfl)
          refine lw_value (v := .pointer (some ⟨g, cc * 4, none⟩)) (u' := u) ?_ (Kp.refl _ _) rfl
          go_simp
        | 9, ho =>
          obtain rfl := Option.some.inj ho
          have e79 : a.tmps[79]?.getD undef = .pointer (some ⟨g, cc * 4, none⟩) := slot_at (hdep ⟨8, .data⟩ (by simp) rfl _ 79 rfl rfl)
          refine lw_value (v := .pointer (some ⟨g, cc * 4 + 1, none⟩)) (u' := u) ?_ (Kp.refl _ _) rfl
          go_simp
        | 10, ho =>
          obtain rfl := Option.some.inj ho
          have e80 : a.tmps[80]?.getD undef = .pointer (some ⟨g, cc * 4 + 1, none⟩) := slot_at (hdep ⟨9, .data⟩ (by simp) rfl _ 80 rfl rfl)
          have c1 := HE1.out u hk
          refine lw_value (v := .int .i64 (j : Int)) (u' := u) ?_ (Kp.refl _ _) rfl
          go_simp
        | 11, ho =>
          obtain rfl := Option.some.inj ho
          have e73 : a.tmps[73]?.getD undef = (.pointer (some ⟨sp, 0, none⟩)) := slot_at (hdep ⟨2, .data⟩ (by simp) rfl _ 73 rfl rfl)
          have e81 : a.tmps[81]?.getD undef = .int .i64 (j : Int) := slot_at (hdep ⟨10, .data⟩ (by simp) rfl _ 81 rfl rfl)
          refine lw_call (f := 53) (args := #[.pointer (some ⟨sp, 0, none⟩), .int .i64 (j : Int)]) ?_ ?_
          · go_simp
          · exact (HInp.out u (HKw8.out.trans hk (fun _ _ h => h)) j hj2).mono (by
              rintro e u' ⟨v, rfl, hO, hK⟩
              exact ⟨v, rfl, hK, hO.mono (by have := (HBk8.out.kp hk (fun h => h)).lt; omega)⟩)
        | 12, ho =>
          obtain rfl := Option.some.inj ho
          have g := hdep ⟨11, .data⟩ (by simp) rfl _ 82 rfl rfl
          obtain ⟨x, hx⟩ : ∃ x, a.tmps.getD 82 undef = x := ⟨_, rfl⟩
          rw [hx] at g
          have g' : Own u (rb + 1) 4 x (bv (inN2 C j)) := g
          clear g
          obtain ⟨ya, yc, eY, -⟩ := g'.form
          rw [bv_length] at eY
          subst eY
          have e82 := slot_at hx
          refine lw_value (v := .slice (some ⟨u.heap.size, 0, none⟩) 1 1) (u' := u.alloc (.cells #[.slice ya (inN2 C j).length yc] 38)) ?_ ((Kp.refl _ _).alloc _) ⟨_, ya, yc, rfl, World.cell?_alloc_at _ _ _ _ rfl, g'.alloc _⟩
          clear g'
          go_simp
        | n + 13, _ => exact absurd hp (by simp [upTo])
      case hendL13 =>
        intro a u hI
        have hsz : a.tmps.size = 87 := hI.size
        have hdf : a.defers = [] := hI.defers
        have f0 : a.tmps.getD 0 undef = _ := hI.off 0 (noDst_spec (p := upTo 13) (by kernel_rfl))
        have f1 : a.tmps.getD 1 undef = _ := hI.off 1 (noDst_spec (p := upTo 13) (by kernel_rfl))
        have f2 : a.tmps.getD 2 undef = _ := hI.off 2 (noDst_spec (p := upTo 13) (by kernel_rfl))
        have f3 : a.tmps.getD 3 undef = _ := hI.off 3 (noDst_spec (p := upTo 13) (by kernel_rfl))
        have f4 : a.tmps.getD 4 undef = _ := hI.off 4 (noDst_spec (p := upTo 13) (by kernel_rfl))
        have f5 : a.tmps.getD 5 undef = _ := hI.off 5 (noDst_spec (p := upTo 13) (by kernel_rfl))
        have f6 : a.tmps.getD 6 undef = _ := hI.off 6 (noDst_spec (p := upTo 13) (by kernel_rfl))
        have f7 : a.tmps.getD 7 undef = _ := hI.off 7 (noDst_spec (p := upTo 13) (by kernel_rfl))
        have f8 : a.tmps.getD 8 undef = _ := hI.off 8 (noDst_spec (p := upTo 13) (by kernel_rfl))
        have f9 : a.tmps.getD 9 undef = _ := hI.off 9 (noDst_spec (p := upTo 13) (by kernel_rfl))
        have f10 : a.tmps.getD 10 undef = _ := hI.off 10 (noDst_spec (p := upTo 13) (by kernel_rfl))
        have f11 : a.tmps.getD 11 undef = _ := hI.off 11 (noDst_spec (p := upTo 13) (by kernel_rfl))
        have f12 : a.tmps.getD 12 undef = _ := hI.off 12 (noDst_spec (p := upTo 13) (by kernel_rfl))
        have f13 : a.tmps.getD 13 undef = _ := hI.off 13 (noDst_spec (p := upTo 13) (by kernel_rfl))
        have f14 : a.tmps.getD 14 undef = _ := hI.off 14 (noDst_spec (p := upTo 13) (by kernel_rfl))
        have f15 : a.tmps.getD 15 undef = _ := hI.off 15 (noDst_spec (p := upTo 13) (by kernel_rfl))
        have f16 : a.tmps.getD 16 undef = _ := hI.off 16 (noDst_spec (p := upTo 13) (by kernel_rfl))
        have f17 : a.tmps.getD 17 undef = _ := hI.off 17 (noDst_spec (p := upTo 13) (by kernel_rfl))
        have f18 : a.tmps.getD 18 undef = _ := hI.off 18 (noDst_spec (p := upTo 13) (by kernel_rfl))
        have f19 : a.tmps.getD 19 undef = _ := hI.off 19 (noDst_spec (p := upTo 13) (by kernel_rfl))
        have f20 : a.tmps.getD 20 undef = _ := hI.off 20 (noDst_spec (p := upTo 13) (by kernel_rfl))
        have f21 : a.tmps.getD 21 undef = _ := hI.off 21 (noDst_spec (p := upTo 13) (by kernel_rfl))
        have f22 : a.tmps.getD 22 undef = _ := hI.off 22 (noDst_spec (p := upTo 13) (by kernel_rfl))
        have f23 : a.tmps.getD 23 undef = _ := hI.off 23 (noDst_spec (p := upTo 13) (by kernel_rfl))
        have f24 : a.tmps.getD 24 undef = _ := hI.off 24 (noDst_spec (p := upTo 13) (by kernel_rfl))
        have f25 : a.tmps.getD 25 undef = _ := hI.off 25 (noDst_spec (p := upTo 13) (by kernel_rfl))
        have f26 : a.tmps.getD 26 undef = _ := hI.off 26 (noDst_spec (p := upTo 13) (by kernel_rfl))
        have f27 : a.tmps.getD 27 undef = _ := hI.off 27 (noDst_spec (p := upTo 13) (by kernel_rfl))
        have f28 : a.tmps.getD 28 undef = _ := hI.off 28 (noDst_spec (p := upTo 13) (by kernel_rfl))
        have f29 : a.tmps.getD 29 undef = _ := hI.off 29 (noDst_spec (p := upTo 13) (by kernel_rfl))
        have f30 : a.tmps.getD 30 undef = _ := hI.off 30 (noDst_spec (p := upTo 13) (by kernel_rfl))
        have f31 : a.tmps.getD 31 undef = _ := hI.off 31 (noDst_spec (p := upTo 13) (by kernel_rfl))
        have f32 : a.tmps.getD 32 undef = _ := hI.off 32 (noDst_spec (p := upTo 13) (by kernel_rfl))
        have f33 : a.tmps.getD 33 undef = _ := hI.off 33 (noDst_spec (p := upTo 13) (by kernel_rfl))
        have f34 : a.tmps.getD 34 undef = _ := hI.off 34 (noDst_spec (p := upTo 13) (by kernel_rfl))
        have f35 : a.tmps.getD 35 undef = _ := hI.off 35 (noDst_spec (p := upTo 13) (by kernel_rfl))
        have f36 : a.tmps.getD 36 undef = _ := hI.off 36 (noDst_spec (p := upTo 13) (by kernel_rfl))
        have f37 : a.tmps.getD 37 undef = _ := hI.off 37 (noDst_spec (p := upTo 13) (by kernel_rfl))
        have f38 : a.tmps.getD 38 undef = _ := hI.off 38 (noDst_spec (p := upTo 13) (by kernel_rfl))
        have f39 : a.tmps.getD 39 undef = _ := hI.off 39 (noDst_spec (p := upTo 13) (by kernel_rfl))
        have f40 : a.tmps.getD 40 undef = _ := hI.off 40 (noDst_spec (p := upTo 13) (by kernel_rfl))
        have f41 : a.tmps.getD 41 undef = _ := hI.off 41 (noDst_spec (p := upTo 13) (by kernel_rfl))
        have f42 : a.tmps.getD 42 undef = _ := hI.off 42 (noDst_spec (p := upTo 13) (by kernel_rfl))
        have f43 : a.tmps.getD 43 undef = _ := hI.off 43 (noDst_spec (p := upTo 13) (by kernel_rfl))
        have f44 : a.tmps.getD 44 undef = _ := hI.off 44 (noDst_spec (p := upTo 13) (by kernel_rfl))
        have f45 : a.tmps.getD 45 undef = _ := hI.off 45 (noDst_spec (p := upTo 13) (by kernel_rfl))
        have f46 : a.tmps.getD 46 undef = _ := hI.off 46 (noDst_spec (p := upTo 13) (by kernel_rfl))
        have f47 : a.tmps.getD 47 undef = _ := hI.off 47 (noDst_spec (p := upTo 13) (by kernel_rfl))
        have f48 : a.tmps.getD 48 undef = _ := hI.off 48 (noDst_spec (p := upTo 13) (by kernel_rfl))
        have f49 : a.tmps.getD 49 undef = _ := hI.off 49 (noDst_spec (p := upTo 13) (by kernel_rfl))
        have f50 : a.tmps.getD 50 undef = _ := hI.off 50 (noDst_spec (p := upTo 13) (by kernel_rfl))
        have f51 : a.tmps.getD 51 undef = _ := hI.off 51 (noDst_spec (p := upTo 13) (by kernel_rfl))
        have f52 : a.tmps.getD 52 undef = _ := hI.off 52 (noDst_spec (p := upTo 13) (by kernel_rfl))
        have f53 : a.tmps.getD 53 undef = _ := hI.off 53 (noDst_spec (p := upTo 13) (by kernel_rfl))
        have f54 : a.tmps.getD 54 undef = _ := hI.off 54 (noDst_spec (p := upTo 13) (by kernel_rfl))
        have f55 : a.tmps.getD 55 undef = _ := hI.off 55 (noDst_spec (p := upTo 13) (by kernel_rfl))
        have f56 : a.tmps.getD 56 undef = _ := hI.off 56 (noDst_spec (p := upTo 13) (by kernel_rfl))
        have f57 : a.tmps.getD 57 undef = _ := hI.off 57 (noDst_spec (p := upTo 13) (by kernel_rfl))
        have f58 : a.tmps.getD 58 undef = _ := hI.off 58 (noDst_spec (p := upTo 13) (by kernel_rfl))
        have f59 : a.tmps.getD 59 undef = _ := hI.off 59 (noDst_spec (p := upTo 13) (by kernel_rfl))
        have f60 : a.tmps.getD 60 undef = _ := hI.off 60 (noDst_spec (p := upTo 13) (by kernel_rfl))
        have f61 : a.tmps.getD 61 undef = _ := hI.off 61 (noDst_spec (p := upTo 13) (by kernel_rfl))
        have f62 : a.tmps.getD 62 undef = _ := hI.off 62 (noDst_spec (p := upTo 13) (by kernel_rfl))
        have f63 : a.tmps.getD 63 undef = _ := hI.off 63 (noDst_spec (p := upTo 13) (by kernel_rfl))
        have f64 : a.tmps.getD 64 undef = _ := hI.off 64 (noDst_spec (p := upTo 13) (by kernel_rfl))
        have f65 : a.tmps.getD 65 undef = _ := hI.off 65 (noDst_spec (p := upTo 13) (by kernel_rfl))
        have f66 : a.tmps.getD 66 undef = _ := hI.off 66 (noDst_spec (p := upTo 13) (by kernel_rfl))
        have f67 : a.tmps.getD 67 undef = _ := hI.off 67 (noDst_spec (p := upTo 13) (by kernel_rfl))
        have f68 : a.tmps.getD 68 undef = _ := hI.off 68 (noDst_spec (p := upTo 13) (by kernel_rfl))
        have f69 : a.tmps.getD 69 undef = _ := hI.off 69 (noDst_spec (p := upTo 13) (by kernel_rfl))
        have f70 : a.tmps.getD 70 undef = _ := hI.off 70 (noDst_spec (p := upTo 13) (by kernel_rfl))
        have f84 : a.tmps.getD 84 undef = _ := hI.off 84 (noDst_spec (p := upTo 13) (by kernel_rfl))
        have f85 : a.tmps.getD 85 undef = _ := hI.off 85 (noDst_spec (p := upTo 13) (by kernel_rfl))
        have f86 : a.tmps.getD 86 undef = _ := hI.off 86 (noDst_spec (p := upTo 13) (by kernel_rfl))
        have f71 : a.tmps.getD 71 undef = .pointer (some ⟨rb, 1, none⟩) := hI.val 0 _ 71 rfl rfl rfl
        have f72 : a.tmps.getD 72 undef = v2 := hI.val 1 _ 72 rfl rfl rfl
        have f73 : a.tmps.getD 73 undef = (.pointer (some ⟨sp, 0, none⟩)) := hI.val 2 _ 73 rfl rfl rfl
        have f74 : a.tmps.getD 74 undef = (.pointer (some ⟨sp, 0, none⟩)) := hI.val 3 _ 74 rfl rfl rfl
        have f75 : a.tmps.getD 75 undef = .pointer (some ⟨sp, 0, none⟩) := hI.val 4 _ 75 rfl rfl rfl
        have f76 : a.tmps.getD 76 undef = .pointer (some ⟨sp, 1, none⟩) := hI.val 5 _ 76 rfl rfl rfl
        have f77 : a.tmps.getD 77 undef = .slice (some ⟨g, 0, none⟩) n cg := hI.val 6 _ 77 rfl rfl rfl
        have f78 : a.tmps.getD 78 undef = (.int .i64 (cc : Int)) := hI.val 7 _ 78 rfl rfl rfl
        have f79 : a.tmps.getD 79 undef = .pointer (some ⟨g, cc * 4, none⟩) := hI.val 8 _ 79 rfl rfl rfl
        have f80 : a.tmps.getD 80 undef = .pointer (some ⟨g, cc * 4 + 1, none⟩) := hI.val 9 _ 80 rfl rfl rfl
        have f81 : a.tmps.getD 81 undef = .int .i64 (j : Int) := hI.val 10 _ 81 rfl rfl rfl
        have g82 : ((fun u v => Own u (rb + 1) 4 v (bv (inN2 C j)))) u (a.tmps.getD 82 undef) := hI.val 11 _ 82 rfl rfl rfl
        have g83 : ((One1 (rb + 1) (inN2 C j).length (bv (inN2 C j)))) u (a.tmps.getD 83 undef) := hI.val 12 _ 83 rfl rfl rfl
        have ha : a = ⟨#[a.tmps.getD 0 undef, a.tmps.getD 1 undef, a.tmps.getD 2 undef, a.tmps.getD 3 undef, a.tmps.getD 4 undef, a.tmps.getD 5 undef, a.tmps.getD 6 undef, a.tmps.getD 7 undef, a.tmps.getD 8 undef, a.tmps.getD 9 undef, a.tmps.getD 10 undef, a.tmps.getD 11 undef, a.tmps.getD 12 undef, a.tmps.getD 13 undef, a.tmps.getD 14 undef, a.tmps.getD 15 undef, a.tmps.getD 16 undef, a.tmps.getD 17 undef, a.tmps.getD 18 undef, a.tmps.getD 19 undef, a.tmps.getD 20 undef, a.tmps.getD 21 undef, a.tmps.getD 22 undef, a.tmps.getD 23 undef, a.tmps.getD 24 undef, a.tmps.getD 25 undef, a.tmps.getD 26 undef, a.tmps.getD 27 undef, a.tmps.getD 28 undef, a.tmps.getD 29 undef, a.tmps.getD 30 undef, a.tmps.getD 31 undef, a.tmps.getD 32 undef, a.tmps.getD 33 undef, a.tmps.getD 34 undef, a.tmps.getD 35 undef, a.tmps.getD 36 undef, a.tmps.getD 37 undef, a.tmps.getD 38 undef, a.tmps.getD 39 undef, a.tmps.getD 40 undef, a.tmps.getD 41 undef, a.tmps.getD 42 undef, a.tmps.getD 43 undef, a.tmps.getD 44 undef, a.tmps.getD 45 undef, a.tmps.getD 46 undef, a.tmps.getD 47 undef, a.tmps.getD 48 undef, a.tmps.getD 49 undef, a.tmps.getD 50 undef, a.tmps.getD 51 undef, a.tmps.getD 52 undef, a.tmps.getD 53 undef, a.tmps.getD 54 undef, a.tmps.getD 55 undef, a.tmps.getD 56 undef, a.tmps.getD 57 undef, a.tmps.getD 58 undef, a.tmps.getD 59 undef, a.tmps.getD 60 undef, a.tmps.getD 61 undef, a.tmps.getD 62 undef, a.tmps.getD 63 undef, a.tmps.getD 64 undef, a.tmps.getD 65 undef, a.tmps.getD 66 undef, a.tmps.getD 67 undef, a.tmps.getD 68 undef, a.tmps.getD 69 undef, a.tmps.getD 70 undef, a.tmps.getD 71 undef, a.tmps.getD 72 undef, a.tmps.getD 73 undef, a.tmps.getD 74 undef, a.tmps.getD 75 undef, a.tmps.getD 76 undef, a.tmps.getD 77 undef, a.tmps.getD 78 undef, a.tmps.getD 79 undef, a.tmps.getD 80 undef, a.tmps.getD 81 undef, a.tmps.getD 82 undef, a.tmps.getD 83 undef, a.tmps.getD 84 undef, a.tmps.getD 85 undef, a.tmps.getD 86 undef], a.defers⟩ := act_list a 87 hsz
        rw [hdf, f0, f1, f2, f3, f4, f5, f6, f7, f8, f9, f10, f11, f12, f13, f14, f15, f16, f17, f18, f19, f20, f21, f22, f23, f24, f25, f26, f27, f28, f29, f30, f31, f32, f33, f34, f35, f36, f37, f38, f39, f40, f41, f42, f43, f44, f45, f46, f47, f48, f49, f50, f51, f52, f53, f54, f55, f56, f57, f58, f59, f60, f61, f62, f63, f64, f65, f66, f67, f68, f69, f70, f71, f72, f73, f74, f75, f76, f77, f78, f79, f80, f81, f84, f85, f86] at ha
        obtain ⟨x82, hx82⟩ : ∃ x, a.tmps.getD 82 undef = x := ⟨_, rfl⟩
        obtain ⟨x83, hx83⟩ : ∃ x, a.tmps.getD 83 undef = x := ⟨_, rfl⟩
        rw [hx82, hx83] at ha
        rw [hx82] at g82
        rw [hx83] at g83
        have hku := hI.kp
        clear hI hsz hdf f0 f1 f2 f3 f4 f5 f6 f7 f8 f9 f10 f11 f12 f13 f14 f15 f16 f17 f18 f19 f20 f21 f22 f23 f24 f25 f26 f27 f28 f29 f30 f31 f32 f33 f34 f35 f36 f37 f38 f39 f40 f41 f42 f43 f44 f45 f46 f47 f48 f49 f50 f51 f52 f53 f54 f55 f56 f57 f58 f59 f60 f61 f62 f63 f64 f65 f66 f67 f68 f69 f70 f71 f72 f73 f74 f75 f76 f77 f78 f79 f80 f81 f84 f85 f86 hx82 hx83
        subst ha
        refine wpAny_tail 13 rfl (by kernel_rfl) ?_
        simp only [List.drop_succ_cons, List.drop_zero]
        simp only [Array.getD_eq_getD_getElem?, List.getElem?_toArray, List.getElem?_cons_zero, List.getElem?_cons_succ, Option.getD_some]
        obtain ⟨gg, ya, yc, rfl, hcy, hgy⟩ := g83
        obtain ⟨vs, hv, hvl, hvr⟩ := HOr8.out.kp hku (fun _ h => h.elim)
        have HV := Lib.hid hv
        have HVr := Lib.hid hvr
        have hvl9 : vs.length ≤ 1024 := by rw [hvl, HIl.out]; omega
        have HVl := Lib.hid hvl
        have HG := Lib.hid hgy
        have HBu := Lib.hid (HBk8.out.kp hku (fun h => h))
        have HKu := Lib.hid (HKw8.out.trans hku (fun _ _ h => h))
        have HOu := Lib.hid (HO8.out.kp hku (fun _ _ h => h))
        have HB0u := Lib.hid (HB08.out.kp hku (fun h => h))
        have hbu := HBu.out.lt
        clear hv hvl hvr g82 hgy hku
        go_wp2_with (at_builtin; refine wpList_append1_at rfl _ _ 54 38 rfl Tryz.underlying54 HI.out rfl HV.out rfl ⟨gg, 0, none⟩ _ rfl hcy rfl ?c2 ?c3 ?c4 ?_)
        case c2 => omega
        case c3 => unfold maxLen; omega
        case c4 => omega
        intro v' w9 hO9 hg9 _
        obtain ⟨aN, cN, eN, -⟩ := hO9.form
        rw [List.length_append, List.length_singleton] at eN
        have hp := OwnR.push HV.out HVl.out HVr.out HG.out (Kp.refl (fun _ => False) u) hO9 hg9
        subst eN
        have hK9 : Kp (fun j => v2.ownBlock = some j) u w9 := (Kp.refl (fun j => v2.ownBlock = some j) u).grown hg9 (fun j hj _ => hj)
        have hv2 : ∀ j, v2.ownBlock = some j → rb + 1 ≤ j := fun j hj => (HV.out.lt j hj).1
        have HB9 := Lib.hid (HBu.out.kp hK9 (fun e => by have := hv2 _ e; omega))
        have HB09 := Lib.hid (HB0u.out.kp hK9 (fun e => by have := hv2 _ e; have := HSp.out.2.1; omega))
        have HO9 := Lib.hid (HOu.out.kp hK9 (fun j hj e => by have := hv2 _ e; have := HSp.out.2.2 j hj; omega))
        have HK9 := Lib.hid (HKu.out.trans hK9 (fun j h1 e => by have := hv2 _ e; have := HSp.out.1; have := HSp.out.2.1; omega))
        have HP9 := Lib.hid hp
        have y1 := HB9.out.cell (i := 1) (v := v2) rfl
        have z1 := HB9.out.free 1
        clear hO9 hg9 hp hK9 hv2
        go_upto_region 14 with fail
        have HBe := HB9.out.set_same 1 (.slice aN (vs.length + 1) cN)
        have hKs : Kp (fun j => j = rb) w9 (w9.setCell ⟨rb, 1, none⟩ (.slice aN (vs.length + 1) cN)) := Kp.set w9 ⟨rb, 1, none⟩ (.slice aN (vs.length + 1) cN)
        obtain ⟨w10, hw10⟩ : ∃ w10, w9.setCell ⟨rb, 1, none⟩ (.slice aN (vs.length + 1) cN) = w10 := ⟨_, rfl⟩
        rw [hw10] at HBe hKs ⊢
        have HO10 := Lib.hid (HO9.out.kp hKs (fun j hj e => by have := HSp.out.2.2 j hj; omega))
        have HB010 := Lib.hid (HB09.out.kp hKs (fun e => by have := HSp.out.2.1; omega))
        have HK10 := Lib.hid (HK9.out.trans hKs (fun j h1 e => by have := HSp.out.1; have := HSp.out.2.1; omega))
        have HP10 := Lib.hid (HP9.out.kp hKs (fun j e => .inl (by omega)))
        have p0 := HBe.cell (i := 0) (v := .slice aS mS cS) rfl
        have p1 := HBe.cell (i := 1) (v := .slice aN (vs.length + 1) cN) rfl
        have q0 := HB010.out.cell (i := 0) (v := .slice none 0 0) rfl
        have q1 := HB010.out.cell (i := 1) (v := .slice none 0 0) rfl
        have fr0 := HB010.out.free 0
        have fr1 := HB010.out.free 1
        clear hw10 hKs HBe y1 z1
        go_wp2_with fail
        obtain ⟨w11, hw11⟩ : ∃ w11, (w10.setCell ⟨r0, 0, none⟩ (.slice aS mS cS)).setCell ⟨r0, 1, none⟩ (.slice aN (vs.length + 1) cN) = w11 := ⟨_, rfl⟩
        have q2 := (HB010.out.set_same 0 (.slice aS mS cS)).set_same 1 (.slice aN (vs.length + 1) cN)
        rw [hw11] at q2 ⊢
        have z0 := q2.cell (i := 0) (v := .slice aS mS cS) rfl
        have z1 := q2.cell (i := 1) (v := .slice aN (vs.length + 1) cN) rfl
        have k11 : Kp (fun j => j = r0) w10 w11 := by
          rw [← hw11]
          exact ((Kp.refl (fun j => j = r0) w10).setCell (p := ⟨r0, 0, none⟩) (fun _ => rfl) _).setCell (p := ⟨r0, 1, none⟩) (fun _ => rfl) _
        have hne : ∀ j, (Value.slice aS mS cS).ownBlock = some j → ¬ j = r0 := fun j hj e => own_ne_blk HO10.out HB010.out (by decide) j hj e
        have HO11 := HO10.out.kp k11 hne
        have HP11 := (HP10.out.kp k11 (fun j e => .inl (by have := HSp.out.2.1; omega))).mono (B' := w.heap.size) (by have := HSp.out.1; have := HSp.out.2.1; omega)
        have HK11 := HK10.out.trans k11 (fun j h1 e => by have := HSp.out.1; omega)
        have hRg : RG = IK k ++ [inN2 C j] := by rw [HIe.out, HIk.out k, HJ.out]; rfl
        rw [← hRg] at HP11
        exact bodyPost_ret (v := .tuple #[.agg #[.slice aS mS cS, .slice aN (vs.length + 1) cN], .bool true]) (by simp [results, Tryz.results26, go_sem, z0, z1]) rfl ⟨_, _, rfl, HO11, HP11, HK11⟩

end Go.Proofs.YtnoknecfdnjomaaGreat

/-
  latchetref18.Same of equal witnesses (no text in sight).
-/
namespace Go.Proofs.YtnoknecfdnjomaaGreat
open Go.RowKit

def tb (l : List Bool) (k : Nat) : Bool := l[k]?.getD false
theorem tb_at {l : List Bool} {k : Nat} (h : k < l.length) : (l.map Value.bool)[k]? = some (.bool (tb l k)) := by
  simp [tb, List.getElem?_eq_getElem h]
theorem bools_ext {l l' : List Bool} (hl : l.length = l'.length) (h : ∀ j, j < l.length → tb l j = tb l' j) : l = l' := by
  apply List.ext_getElem?
  intro j
  by_cases hj : j < l.length
  · have := h j hj
    unfold tb at this
    rw [List.getElem?_eq_getElem hj, List.getElem?_eq_getElem (by omega)] at this ⊢
    simpa using this
  · rw [List.getElem?_eq_none (by omega), List.getElem?_eq_none (by omega)]

set_option maxHeartbeats 400000 in
theorem ref_Same (a a' : Option Addr) (n n' cap cap' : Nat) (l l' : List Bool) (w : World) (ha : RowAt w a (l.map Value.bool)) (ha' : RowAt w a' (l'.map Value.bool)) (hl : l.length = n) (hl' : l'.length = n') (hn : n ≤ 9223372036854775807) :
    Calls Tryz.prog 54 #[.slice a n cap, .slice a' n' cap'] w fun e w' => e = .returned (.bool (l == l')) ∧ ∃ n, w' = w.drewN n := by
  have HL := Lib.hid hl; clear hl
  have HL' := Lib.hid hl'; clear hl'
  by_cases hne : n = n'
  · subst hne
    have b1 : ((n : Int) != (n : Int)) = false := by simp
    go_enter Tryz.func54, Tryz.ntmps54
    go_wp2
    go_loopw [5] (fun i wr => ∃ k m : Nat, k ≤ n ∧ i = .int .i64 k ∧ (∀ j, j < k → tb l j = tb l' j) ∧ wr = w.drewN m) (fun i _ => n - (intOf i).toNat)
    case atStart => exact ⟨0, 0, Nat.zero_le _, rfl, fun j hj => by omega, rfl⟩
    case round =>
      obtain ⟨k, m, hk, rfl, he, rfl⟩ := hrel
      have HE := Lib.hid he
      clear he
      by_cases hlt : k < n
      · obtain ⟨b, off, rfl, hc⟩ := ha k _ (tb_at (by rw [HL.out]; exact hlt))
        obtain ⟨b', off', rfl, hc'⟩ := ha' k _ (tb_at (by rw [HL'.out]; exact hlt))
        have i1 : (0 : Int) ≤ (k : Int) := by omega
        have i2 : (k : Int) < (n : Int) := by omega
        by_cases hq : tb l k = tb l' k
        · have q1 : (!(tb l k == tb l' k)) = false := by simp [hq]
          have HQ := Lib.hid hq
          clear hq
          go_wp2
          go_quiet (fail)
          go_wp2
          go_roundw
          case rel =>
            refine ⟨k + 1, _, by omega, by go_num, fun j hj => ?_, rfl⟩
            by_cases e : j = k
            · subst e; exact HQ.out
            · exact HE.out j (by omega)
          case measure => simp [intOf]; omega
        · have q1 : (!(tb l k == tb l' k)) = true := by simp [hq]
          have HQ := Lib.hid hq
          clear hq
          go_wp2
          go_quiet (fail)
          go_wp2
          go_ret
          have e : (l == l') = false := by
            rw [beq_eq_false_iff_ne]
            intro e
            exact HQ.out (by rw [e])
          rw [e]
          exact ⟨rfl, _, World.drewN_drewN ..⟩
      · go_wp2
        go_ret
        have e : (l == l') = true := by
          rw [beq_iff_eq]
          exact bools_ext (by rw [HL.out, HL'.out]) (fun j hj => HE.out j (by rw [HL.out] at hj; omega))
        rw [e]
        exact ⟨rfl, _, rfl⟩
  · have b1 : ((n : Int) != (n' : Int)) = true := by simp; omega
    have e : Hid ((l == l') = false) := by
      show _ = _
      rw [beq_eq_false_iff_ne]
      intro e
      exact hne (by rw [← HL.out, ← HL'.out, e])
    clear hne
    go_enter Tryz.func54, Tryz.ntmps54
    go_wp2
    go_ret
    rw [e.out]
    exact ⟨rfl, 0, rfl⟩

/-- a slice of truths that reads l -/
def BoolsSl (w : World) (v : Value) (l : List Bool) : Prop := ∃ a cap, v = .slice a l.length cap ∧ l.length ≤ cap ∧ cap ≤ maxLen ∧ (a = none → cap = 0) ∧ RowAt w a (l.map Value.bool)

theorem BoolsSl.kp {w w' : World} {v : Value} {l : List Bool} (h : BoolsSl w v l) (k : Kp (fun _ => False) w w') : BoolsSl w' v l := by
  obtain ⟨a, cap, e, h1, h2, h3, h4⟩ := h
  exact ⟨a, cap, e, h1, h2, h3, h4.kp k (fun _ _ h => h)⟩

/-- rows of truths at a place -/
def GridAt (w : World) (a : Option Addr) (L : List (List Bool)) : Prop := ∃ rs : List Value, RowAt w a rs ∧ rs.length = L.length ∧ ∀ (k : Nat) (r : Value) (x : List Bool), rs[k]? = some r → L[k]? = some x → BoolsSl w r x
def GridSl (w : World) (v : Value) (L : List (List Bool)) : Prop := ∃ a cap, v = .slice a L.length cap ∧ L.length ≤ cap ∧ cap ≤ maxLen ∧ (a = none → cap = 0) ∧ GridAt w a L

theorem GridAt.kp {w w' : World} {a : Option Addr} {L : List (List Bool)} (h : GridAt w a L) (k : Kp (fun _ => False) w w') : GridAt w' a L := by
  obtain ⟨rs, h1, h2, h3⟩ := h
  exact ⟨rs, h1.kp k (fun _ _ h => h), h2, fun i r x hr hx => (h3 i r x hr hx).kp k⟩
theorem GridSl.kp {w w' : World} {v : Value} {L : List (List Bool)} (h : GridSl w v L) (k : Kp (fun _ => False) w w') : GridSl w' v L := by
  obtain ⟨a, cap, e, h1, h2, h3, h4⟩ := h
  exact ⟨a, cap, e, h1, h2, h3, h4.kp k⟩

def gb (L : List (List Bool)) (k : Nat) : List Bool := L[k]?.getD []
theorem gb_at {L : List (List Bool)} {k : Nat} (h : k < L.length) : L[k]? = some (gb L k) := by unfold gb; rw [List.getElem?_eq_getElem h]; rfl

theorem GridAt.row {w : World} {a : Option Addr} {L : List (List Bool)} (h : GridAt w a L) {k : Nat} (hk : k < L.length) : ∃ b off v, a = some ⟨b, off, none⟩ ∧ w.cell? ⟨b, off + k, none⟩ = some v ∧ BoolsSl w v (gb L k) := by
  obtain ⟨rs, h1, h2, h3⟩ := h
  have hk' : k < rs.length := by rw [h2]; exact hk
  have hr : rs[k]? = some rs[k] := List.getElem?_eq_getElem hk'
  obtain ⟨b, off, rfl, c⟩ := h1 k _ hr
  exact ⟨b, off, _, rfl, c, h3 k _ _ hr (gb_at hk)⟩

set_option maxRecDepth 100000 in
set_option maxHeartbeats 4000000 in
theorem ref18_SameI (kind prop : Int) (u2 u3 x2 x3 : Value) (start : List Bool) (ins : List (List Bool)) (w : World) (h2 : BoolsSl w u2 start) (h3 : GridSl w u3 ins) (h2' : BoolsSl w x2 start) (h3' : GridSl w x3 ins) (hn : ins.length ≤ 1000000) :
    Calls Tryz.prog 27 #[.agg #[.int .i64 kind, .int .i64 prop, u2, u3], .agg #[.int .i64 kind, .int .i64 prop, x2, x3]] w fun e w' => e = .returned (.bool true) ∧ Kp (fun _ => False) w w' := by
  obtain ⟨a2, c2, rfl, p1, p2, p3, p4⟩ := h2
  obtain ⟨a2', c2', rfl, p1', p2', p3', p4'⟩ := h2'
  obtain ⟨a3, c3, rfl, r1, r2, r3, r4⟩ := h3
  obtain ⟨a3', c3', rfl, r1', r2', r3', r4'⟩ := h3'
  have q := ((Kp.refl (fun _ => False) w).alloc (.cells #[.int .i64 kind, .int .i64 prop, .slice a2 start.length c2, .slice a3 ins.length c3] 61)).alloc (.cells #[.int .i64 kind, .int .i64 prop, .slice a2' start.length c2', .slice a3' ins.length c3'] 61)
  have hB1 := (Blk.new w #[.int .i64 kind, .int .i64 prop, .slice a2 start.length c2, .slice a3 ins.length c3] 61).alloc (.cells #[.int .i64 kind, .int .i64 prop, .slice a2' start.length c2', .slice a3' ins.length c3'] 61)
  have hB2 := Blk.new (w.alloc (.cells #[.int .i64 kind, .int .i64 prop, .slice a2 start.length c2, .slice a3 ins.length c3] 61)) #[.int .i64 kind, .int .i64 prop, .slice a2' start.length c2', .slice a3' ins.length c3'] 61
  have hst := ref_Same a2 a2' start.length start.length c2 c2' start start _ (p4.kp q (fun _ _ h => h)) (p4'.kp q (fun _ _ h => h)) rfl rfl (by unfold maxLen at p2; omega)
  rw [show (start == start) = true by simp] at hst
  have hg := r4.kp q
  have hg' := r4'.kp q
  rw [World.size_alloc] at hB2
  obtain ⟨W1, hW1⟩ : ∃ W1, (w.alloc (.cells #[.int .i64 kind, .int .i64 prop, .slice a2 start.length c2, .slice a3 ins.length c3] 61)).alloc (.cells #[.int .i64 kind, .int .i64 prop, .slice a2' start.length c2', .slice a3' ins.length c3'] 61) = W1 := ⟨_, rfl⟩
  rw [hW1] at hst hB1 hB2 q hg hg'
  have HSt := Lib.hid hst
  have HG := Lib.hid hg
  have HG' := Lib.hid hg'
  have HQ := Lib.hid q
  have k0 := hB1.cell (i := 0) rfl
  have k1 := hB1.cell (i := 1) rfl
  have k2 := hB1.cell (i := 2) rfl
  have k3 := hB1.cell (i := 3) rfl
  have m0 := hB2.cell (i := 0) rfl
  have m1 := hB2.cell (i := 1) rfl
  have m2 := hB2.cell (i := 2) rfl
  have m3 := hB2.cell (i := 3) rfl
  have HB1 := Lib.hid hB1
  have HB2 := Lib.hid hB2
  clear hg hg'
  have e1 : (kind != kind) = false := by simp
  have e2 : (prop != prop) = false := by simp
  have e3 : ((ins.length : Int) != (ins.length : Int)) = false := by simp
  clear hst hB1 hB2 q p1 p2 p3 p4 p1' p2' p3' p4' r1 r2 r3 r4 r1' r2' r3' r4'
  go_enter Tryz.func27, Tryz.ntmps27
  go_wp2_with fail
  refine HSt.out.mono ?_
  rintro e w' ⟨rfl, q, hq⟩
  have hb1 := HB1.out.drewN q
  have hb2 := HB2.out.drewN q
  rw [← hq] at hb1 hb2
  have k1' := hb1.cell (i := 1) rfl
  have k3' := hb1.cell (i := 3) rfl
  have m1' := hb2.cell (i := 1) rfl
  have m3' := hb2.cell (i := 3) rfl
  have HQ2 := Lib.hid hq
  clear hq hb1 hb2 k0 k1 k2 k3 m0 m1 m2 m3 hW1
  go_wp2_with fail
  go_loopw [5] (fun v5 wr => ∃ k q : Nat, k ≤ ins.length ∧ v5 = .int .i64 k ∧ wr = W1.drewN q) (fun v5 _ => ins.length - (intOf v5).toNat)
  case atStart => exact ⟨0, q, Nat.zero_le _, rfl, HQ2.out⟩
  case round =>
    obtain ⟨k, q, hk, rfl, hw⟩ := hrel
    have hb1 := HB1.out.drewN q
    have hb2 := HB2.out.drewN q
    have hg := HG.out.kp ((Kp.refl (fun _ => False) W1).drewN q)
    have hg' := HG'.out.kp ((Kp.refl (fun _ => False) W1).drewN q)
    rw [← hw] at hb1 hb2 hg hg'
    have k3 := hb1.cell (i := 3) rfl
    have m3 := hb2.cell (i := 3) rfl
    clear hb1 hb2 k1' k3' m1' m3' HQ2
    have HW := Lib.hid hw
    clear hw
    by_cases hlt : k < ins.length
    · obtain ⟨b, off, v, rfl, c0, hv⟩ := hg.row hlt
      obtain ⟨b', off', v', rfl, c0', hv'⟩ := hg'.row hlt
      obtain ⟨av, cv, rfl, _, _, _, hv4⟩ := hv
      obtain ⟨av', cv', rfl, _, hcm2, _, hv4'⟩ := hv'
      have HI := Lib.hid (fun (j : Nat) => ref_Same av av' (gb ins k).length (gb ins k).length cv cv' (gb ins k) (gb ins k) (wr.drewN j) (hv4.drewN j) (hv4'.drewN j) rfl rfl (by unfold maxLen at hcm2; omega))
      rw [show (gb ins k == gb ins k) = true by simp] at HI
      obtain ⟨m, hm⟩ : ∃ m, (gb ins k).length = m := ⟨_, rfl⟩
      rw [hm] at HI c0 c0'
      clear hv4 hv4' hcm2 hm hg hg'
      have i0 : (0 : Int) ≤ (k : Int) := by omega
      have i1 : (k : Int) < (ins.length : Int) := by omega
      have dd : decide ((k : Int) < (ins.length : Int)) = true := by simp; omega
      go_wp2_with fail
      go_quiet ((go_at_call 54; exact Calls.quiet_of (HI.out _)))
      go_wp2_with fail
      go_roundw
      case rel => exact ⟨k + 1, _, by omega, by go_num, by rw [HW.out, World.drewN_drewN]⟩
      case measure => simp [intOf]; omega
    · have dd : decide ((k : Int) < (ins.length : Int)) = false := by simp; omega
      go_wp2_with fail
      go_ret
      exact ⟨rfl, by rw [HW.out]; exact HQ.out.drewN q⟩


end Go.Proofs.YtnoknecfdnjomaaGreat

/-
  (*latchet/latchetref17.M).Breaks.
-/
namespace Go.Proofs.YtnoknecfdnjomaaGreat
open Go.RowKit

def okM (C : Circ) (st : List Bool) (rows : List (List Bool)) (k : Nat) : Bool := decide ((rows[k]?.getD []).length = C.ins.length) && holdsM C (stateM C st rows k) (rows[k]?.getD [])

theorem breaksM_start {C : Circ} {st : List Bool} {rows : List (List Bool)} {pr : Int} (h : startsM C st = false) : breaksM C st rows pr = false := by unfold breaksM; rw [h]; rfl
theorem breaksM_none {C : Circ} {st : List Bool} {rows : List (List Bool)} {pr : Int} (h : rows.length = 0) : breaksM C st rows pr = false := by unfold breaksM; rw [decide_eq_false (by omega : ¬ rows.length ≠ 0), Bool.and_false]; rfl
theorem breaksM_not {C : Circ} {st : List Bool} {rows : List (List Bool)} {pr : Int} {k : Nat} (hk : k < rows.length) (h : okM C st rows k = false) : breaksM C st rows pr = false := by
  unfold breaksM
  rw [all_range_lt (f := fun k => decide ((rows[k]?.getD []).length = C.ins.length) && holdsM C (stateM C st rows k) (rows[k]?.getD [])) hk h, Bool.and_false]
  rfl
theorem breaksM_end {C : Circ} {st : List Bool} {rows : List (List Bool)} {pr : Int} {g : Nat} (h0 : startsM C st = true) (hg : rows.length = g + 1) (h : ∀ k, k < g + 1 → okM C st rows k = true) : breaksM C st rows pr = badM C (stateM C st rows g) (rows[g]?.getD []) pr := by
  unfold breaksM
  have h1 : (List.range rows.length).all (fun k => decide ((rows[k]?.getD []).length = C.ins.length) && holdsM C (stateM C st rows k) (rows[k]?.getD [])) = true := by
    rw [List.all_eq_true]
    intro k hk
    exact h k (by rw [← hg]; exact List.mem_range.1 hk)
  rw [h0, h1, decide_eq_true (by omega : rows.length ≠ 0), hg]
  rfl

theorem SL.low {C : Circ} {st : List Bool} {rows : List (List Bool)} {B B' k : Nat} {v5 v6 : Value} {wr : World} (h : SL C st rows B k v5 v6 wr) (hb : B' ≤ B) : SL C st rows B' k v5 v6 wr := by
  obtain ⟨⟨vs, h1, h2, h3⟩, h4⟩ := h
  exact ⟨⟨vs, h1.mono hb, h2, fun j hj => by obtain ⟨x, e, hx⟩ := h3 j hj; exact ⟨x, e, hx.mono hb⟩⟩, h4.mono hb⟩

theorem SL.grid {C : Circ} {st : List Bool} {rows : List (List Bool)} {B k : Nat} {v5 v6 : Value} {wr : World} (h : SL C st rows B k v5 v6 wr) (hl : C.lats.length ≤ 1000000) (hk : k ≤ 1000000) : ∃ a c, v5 = .slice a k c ∧ GS wr a k c ((List.range k).map (stateM C st rows)) := by
  obtain ⟨⟨vs, h1, h2, h3⟩, h4⟩ := h
  obtain ⟨a, c, e, -, -, -, hr⟩ := h1.form
  rw [h2] at e
  refine ⟨a, c, e, ⟨vs, hr, h2, fun j hj => ?_⟩, by simp, hk⟩
  obtain ⟨x, ex, hx⟩ := h3 j hj
  obtain ⟨a2, c2, e2, -, -, -, hr2⟩ := hx.form
  rw [bv_length, stateM_len] at e2
  subst e2
  have e3 : ((List.range k).map (stateM C st rows))[j]?.getD [] = stateM C st rows j := by
    rw [List.getElem?_map, List.getElem?_range hj]; rfl
  rw [e3]
  exact ⟨a2, _, c2, ex, hr2, stateM_len C st rows j, by omega⟩

theorem GS.kp {w w' : World} {a : Option Addr} {n c : Nat} {L : List (List Bool)} (h : GS w a n c L) (k : Kp (fun _ => False) w w') : GS w' a n c L := by
  obtain ⟨⟨vs, h1, h2, h3⟩, h4, h5⟩ := h
  exact ⟨⟨vs, h1.kp k (fun _ _ h => h), h2, fun j hj => by obtain ⟨b, m, d, e, hb⟩ := h3 j hj; exact ⟨b, m, d, e, hb.kp k⟩⟩, h4, h5⟩

theorem GS.at {w : World} {a : Option Addr} {n c : Nat} {L : List (List Bool)} (h : GS w a n c L) {k : Nat} (hk : k < n) : ∃ bg og b m d, a = some ⟨bg, og, none⟩ ∧ w.cell? ⟨bg, og + k, none⟩ = some (.slice b m d) ∧ BS w b m (L[k]?.getD []) := by
  obtain ⟨⟨vs, h1, h2, h3⟩, h4, h5⟩ := h
  obtain ⟨b, m, d, e, hb⟩ := h3 k hk
  obtain ⟨bg, og, ea, ec⟩ := h1 k _ e
  exact ⟨bg, og, b, m, d, ea, ec, hb⟩

theorem GS.states {w : World} {a : Option Addr} {n c : Nat} {C : Circ} {st : List Bool} {rows : List (List Bool)} (h : GS w a n c ((List.range n).map (stateM C st rows))) {k : Nat} (hk : k < n) : ∃ bg og b m d, a = some ⟨bg, og, none⟩ ∧ w.cell? ⟨bg, og + k, none⟩ = some (.slice b m d) ∧ BS w b m (stateM C st rows k) := by
  obtain ⟨bg, og, b, m, d, h1, h2, h3⟩ := h.at hk
  rw [List.getElem?_map, List.getElem?_range hk] at h3
  exact ⟨bg, og, b, m, d, h1, h2, h3⟩

set_option maxRecDepth 100000 in
set_option maxHeartbeats 8000000 in
theorem ref17_Breaks (V : CV) (C : Circ) (p : Nat) (a4 a5 : Option Addr) (c4 c5 : Nat) (sa : Option Addr) (sn sc : Nat) (ga : Option Addr) (gn_ gc : Nat) (st : List Bool) (rows : List (List Bool)) (pr : Int) (w : World) (hM : MAt w 81 V C p a4 c4 a5 c5) (hf : CFew C 1000000) (hg : GoodC C) (hs : BS w sa sn st) (hi : GS w ga gn_ gc rows) :
    Calls Tryz.prog 28 #[.pointer (some ⟨p, 0, none⟩), .agg #[.slice sa sn sc, .slice ga gn_ gc], .int .i64 pr] w fun e w' => e = .returned (.bool (breaksM C st rows pr)) ∧ Kp (fun _ => False) w w' := by
  obtain ⟨wz, hwz⟩ : ∃ wz : World, wz = w.alloc (.cells #[.slice sa sn sc, .slice ga gn_ gc] 56) := ⟨_, rfl⟩
  have HK0 := Lib.hid (show Kp (fun _ => False) w wz by rw [hwz]; exact (Kp.refl _ w).alloc _)
  have HRb0 := Lib.hid (show Blk wz w.heap.size #[.slice sa sn sc, .slice ga gn_ gc] 56 by rw [hwz]; exact Blk.new _ _ _)
  have HSz0 := Lib.hid (show w.heap.size ≤ wz.heap.size by rw [hwz]; simp)
  have HZ := Lib.hid hwz
  have hgn := hi.most
  have HSt := Lib.hid (ref17_Starts V C p a4 a5 c4 c5 sa sn sc st wz (hM.kp HK0.out) hf (hs.kp HK0.out))
  have HSts0 := Lib.hid (fun u (hu : Kp (fun _ => False) w u) => ref17_States V C p a4 a5 c4 c5 sa sn sc ga gn_ gc st rows u (hM.kp hu) hf hg (hs.kp hu) (hi.kp hu))
  have HHo := Lib.hid (fun u (hu : Kp (fun _ => False) w u) b1 m1 d1 s1 b2 m2 d2 s2 (h1 : BS u b1 m1 s1) (h2 : BS u b2 m2 s2) => ref17_Holds V C p a4 a5 c4 c5 b1 m1 d1 b2 m2 d2 s1 s2 u (hM.kp hu) hf hg h1 h2)
  have HBa := Lib.hid (fun u (hu : Kp (fun _ => False) w u) b1 m1 d1 s1 b2 m2 d2 s2 (h1 : BS u b1 m1 s1) (h2 : BS u b2 m2 s2) => ref17_Bad V C p a4 a5 c4 c5 b1 m1 d1 b2 m2 d2 s1 s2 pr u (hM.kp hu) hf hg h1 h2)
  obtain ⟨ni, hni⟩ : ∃ n, C.ins.length = n := ⟨_, rfl⟩
  have hni1 : ni ≤ 1000000 := by have := hf.i; omega
  have HNi := Lib.hid hni
  have hfl := Lib.hid hf.l
  have HMb := Lib.hid (show ∀ u, Kp (fun _ => False) w u → u.cell? ⟨p, 1, none⟩ = some (.slice V.ai ni V.ci) from fun u hu => (hM.blk.kp hu (fun h => h)).cell (i := 1) (by rw [← hni]; rfl))
  obtain ⟨r, hr⟩ : ∃ r, breaksM C st rows pr = r := ⟨_, rfl⟩
  have HGs := Lib.hid hi
  have hlen := hi.len
  have R1 := Lib.hid (fun h => hr ▸ breaksM_start (C := C) (st := st) (rows := rows) (pr := pr) h)
  have R2 := Lib.hid (fun h => hr ▸ breaksM_none (C := C) (st := st) (rows := rows) (pr := pr) h)
  have R3 := Lib.hid (fun k hk h => hr ▸ breaksM_not (C := C) (st := st) (rows := rows) (pr := pr) (k := k) hk h)
  have R4 := Lib.hid (fun g h0 h1 h2 => hr ▸ (breaksM_end (C := C) (st := st) (rows := rows) (pr := pr) (g := g) h0 h1 h2).symm)
  have HLen := Lib.hid hlen
  rw [hr]
  obtain ⟨b0, hb0⟩ : ∃ b, startsM C st = b := ⟨_, rfl⟩
  rw [hb0] at HSt
  have HB0 := Lib.hid hb0
  clear hM hf hg hs hi hni hr hlen hwz hb0
  go_enter Tryz.func28, Tryz.ntmps28
  go_upto_region 1 with fail
  rw [← HZ.out]
  clear HZ
  have z0 := HRb0.out.cell (i := 0) (v := .slice sa sn sc) rfl
  have z1 := HRb0.out.cell (i := 1) (v := .slice ga gn_ gc) rfl
  cases b0 with
  | false =>
    have hrf := R1.out HB0.out
    subst hrf
    go_wp2_with (go_at_call 42; with_reducible refine Calls.mono HSt.out ?_; rintro e w1 ⟨rfl, rfl⟩)
    go_ret
    exact ⟨rfl, HK0.out⟩
  | true =>
  by_cases hz : gn_ = 0
  · have hrf := R2.out (by rw [HLen.out]; exact hz)
    subst hrf
    have hq : ((gn_ : Int) == 0) = true := by simp [hz]
    have HZz := Lib.hid hz
    clear hz
    go_wp2_with (go_at_call 42; with_reducible refine Calls.mono HSt.out ?_; rintro e w1 ⟨rfl, rfl⟩)
    go_ret
    exact ⟨rfl, HK0.out⟩
  obtain ⟨gl, hgl⟩ : ∃ gl, gn_ = gl + 1 := ⟨gn_ - 1, by omega⟩
  have hq : ((gn_ : Int) == 0) = false := by simp [hz]
  have HGl := Lib.hid (show (gn_ : Int) - 1 = (gl : Int) by omega)
  have HGl2 := Lib.hid hgl
  clear hz hgl
  go_upto_region 3 with (go_at_call 42; with_reducible refine Calls.mono HSt.out ?_; rintro e w1 ⟨rfl, rfl⟩)
  have HKs := HK0
  have HRb := HRb0
  have HSts := Lib.hid (fun u (hu : Kp (fun _ => False) wz u) => HSts0.out u (HK0.out.trans hu (fun _ _ h => h)))
  have HSz := HSz0
  clear HSt HSts0
  clear hq
  refine wp_region_loose (p := upTo 8) (V := atV [EqV ((.pointer (some ⟨p, 0, none⟩))), EqV (.agg #[.slice sa sn sc, .slice ga gn_ gc]), (fun u v => ∃ v6, SL C st rows w.heap.size gn_ v v6 u), EqV (.pointer (some ⟨w.heap.size, 1, none⟩)), EqV (.slice ga gn_ gc), EqV (.int .i64 (gn_ : Int)), EqV (.int .i64 (gl : Int)), (fun u v => ∃ v6, SL C st rows w.heap.size gn_ v v6 u)]) (LP := #[true, true, true, true, true, true, true, true, false]) (K := 1) (by kernel_rfl) (by kernel_rfl) (atV_st ?hstL1) ?hstepL1 (by kernel_rfl) ?hLPL1 (by kernel_rfl) ?hendL1
  case hstL1 =>
    intro W h
    simp only [List.mem_cons, List.not_mem_nil, or_false] at h
    rcases h with rfl | rfl | rfl | rfl | rfl | rfl | rfl | rfl <;> first | exact EqV.st _ | exact fun _ _ _ k ⟨v6, h⟩ => ⟨v6, h.kp k⟩
  case hLPL1 => exact upTo_spec (by kernel_rfl)
  case hstepL1 =>
    intro i o ho hp a u hk hoff hdep
    have e0 : a.tmps[0]?.getD undef = (.pointer (some ⟨p, 0, none⟩)) := slot_at (hoff 0 (noDst_spec (by kernel_rfl)))
    have e4 : a.tmps[4]?.getD undef = (.pointer (some ⟨w.heap.size, 0, none⟩)) := slot_at (hoff 4 (noDst_spec (by kernel_rfl)))
    clear hoff
    match i, ho with
    | 0, ho =>
      obtain rfl := Option.some.inj ho
      refine lw_value (v := (.pointer (some ⟨p, 0, none⟩))) (u' := u) ?_ (Kp.refl _ _) rfl
      go_simp
    | 1, ho =>
      obtain rfl := Option.some.inj ho
      have c0 := (HRb.out.kp hk (fun h => h)).cell (i := 0) (v := .slice sa sn sc) rfl
      have c1 := (HRb.out.kp hk (fun h => h)).cell (i := 1) (v := .slice ga gn_ gc) rfl
      refine lw_value (v := .agg #[.slice sa sn sc, .slice ga gn_ gc]) (u' := u) ?_ (Kp.refl _ _) rfl
      go_simp
    | 2, ho =>
      obtain rfl := Option.some.inj ho
      have e21 : a.tmps[21]?.getD undef = (.pointer (some ⟨p, 0, none⟩)) := slot_at (hdep ⟨0, .data⟩ (by simp) rfl _ 21 rfl rfl)
      have e22 : a.tmps[22]?.getD undef = .agg #[.slice sa sn sc, .slice ga gn_ gc] := slot_at (hdep ⟨1, .data⟩ (by simp) rfl _ 22 rfl rfl)
      refine lw_call (f := 55) (args := #[.pointer (some ⟨p, 0, none⟩), .agg #[.slice sa sn sc, .slice ga gn_ gc]]) ?_ ?_
      · go_simp
      · exact (HSts.out u hk).mono (by
          rintro e u' ⟨v, rfl, ⟨v6, hs⟩, hK⟩
          exact ⟨v, rfl, hK, v6, hs.low (by have := hk.size; have := HSz.out; omega)⟩)
    | 3, ho =>
      obtain rfl := Option.some.inj ho
      refine lw_value (v := .pointer (some ⟨w.heap.size, 1, none⟩)) (u' := u) ?_ (Kp.refl _ _) rfl
      go_simp
    | 4, ho =>
      obtain rfl := Option.some.inj ho
      have e24 : a.tmps[24]?.getD undef = .pointer (some ⟨w.heap.size, 1, none⟩) := slot_at (hdep ⟨3, .data⟩ (by simp) rfl _ 24 rfl rfl)
      have c1 := (HRb.out.kp hk (fun h => h)).cell (i := 1) (v := .slice ga gn_ gc) rfl
      refine lw_value (v := .slice ga gn_ gc) (u' := u) ?_ (Kp.refl _ _) rfl
      go_simp
    | 5, ho =>
      obtain rfl := Option.some.inj ho
      have e25 : a.tmps[25]?.getD undef = .slice ga gn_ gc := slot_at (hdep ⟨4, .data⟩ (by simp) rfl _ 25 rfl rfl)
      refine lw_value (v := .int .i64 (gn_ : Int)) (u' := u) ?_ (Kp.refl _ _) rfl
      go_simp
    | 6, ho =>
      obtain rfl := Option.some.inj ho
      have e26 : a.tmps[26]?.getD undef = .int .i64 (gn_ : Int) := slot_at (hdep ⟨5, .data⟩ (by simp) rfl _ 26 rfl rfl)
      have hgl := HGl.out
      have hg2 : gl ≤ 1000000 := by omega
      refine lw_value (v := .int .i64 (gl : Int)) (u' := u) ?_ (Kp.refl _ _) rfl
      go_simp
      unfold IntKind.wrap
      simp [IntKind.signed, IntKind.bits]
      omega
    | 7, ho =>
      obtain rfl := Option.some.inj ho
      have hV := hdep ⟨2, .data⟩ (by simp) rfl _ 23 rfl rfl
      obtain ⟨x, hx⟩ : ∃ x, a.tmps.getD 23 undef = x := ⟨_, rfl⟩
      have e23 := slot_at hx
      rw [hx] at hV
      refine lw_value (v := x) (u' := u) ?_ (Kp.refl _ _) hV
      go_simp
    | n + 8, _ => exact absurd hp (by simp [upTo])
  intro a u hI
  have hsz : a.tmps.size = 74 := hI.size
  have hdf : a.defers = [] := hI.defers
  have f0 : a.tmps.getD 0 undef = _ := hI.off 0 (noDst_spec (p := upTo 8) (by kernel_rfl))
  have f1 : a.tmps.getD 1 undef = _ := hI.off 1 (noDst_spec (p := upTo 8) (by kernel_rfl))
  have f2 : a.tmps.getD 2 undef = _ := hI.off 2 (noDst_spec (p := upTo 8) (by kernel_rfl))
  have f3 : a.tmps.getD 3 undef = _ := hI.off 3 (noDst_spec (p := upTo 8) (by kernel_rfl))
  have f4 : a.tmps.getD 4 undef = _ := hI.off 4 (noDst_spec (p := upTo 8) (by kernel_rfl))
  have f5 : a.tmps.getD 5 undef = _ := hI.off 5 (noDst_spec (p := upTo 8) (by kernel_rfl))
  have f6 : a.tmps.getD 6 undef = _ := hI.off 6 (noDst_spec (p := upTo 8) (by kernel_rfl))
  have f8 : a.tmps.getD 8 undef = _ := hI.off 8 (noDst_spec (p := upTo 8) (by kernel_rfl))
  have f9 : a.tmps.getD 9 undef = _ := hI.off 9 (noDst_spec (p := upTo 8) (by kernel_rfl))
  have f10 : a.tmps.getD 10 undef = _ := hI.off 10 (noDst_spec (p := upTo 8) (by kernel_rfl))
  have f11 : a.tmps.getD 11 undef = _ := hI.off 11 (noDst_spec (p := upTo 8) (by kernel_rfl))
  have f12 : a.tmps.getD 12 undef = _ := hI.off 12 (noDst_spec (p := upTo 8) (by kernel_rfl))
  have f13 : a.tmps.getD 13 undef = _ := hI.off 13 (noDst_spec (p := upTo 8) (by kernel_rfl))
  have f14 : a.tmps.getD 14 undef = _ := hI.off 14 (noDst_spec (p := upTo 8) (by kernel_rfl))
  have f15 : a.tmps.getD 15 undef = _ := hI.off 15 (noDst_spec (p := upTo 8) (by kernel_rfl))
  have f16 : a.tmps.getD 16 undef = _ := hI.off 16 (noDst_spec (p := upTo 8) (by kernel_rfl))
  have f17 : a.tmps.getD 17 undef = _ := hI.off 17 (noDst_spec (p := upTo 8) (by kernel_rfl))
  have f18 : a.tmps.getD 18 undef = _ := hI.off 18 (noDst_spec (p := upTo 8) (by kernel_rfl))
  have f19 : a.tmps.getD 19 undef = _ := hI.off 19 (noDst_spec (p := upTo 8) (by kernel_rfl))
  have f20 : a.tmps.getD 20 undef = _ := hI.off 20 (noDst_spec (p := upTo 8) (by kernel_rfl))
  have f28 : a.tmps.getD 28 undef = _ := hI.off 28 (noDst_spec (p := upTo 8) (by kernel_rfl))
  have f29 : a.tmps.getD 29 undef = _ := hI.off 29 (noDst_spec (p := upTo 8) (by kernel_rfl))
  have f30 : a.tmps.getD 30 undef = _ := hI.off 30 (noDst_spec (p := upTo 8) (by kernel_rfl))
  have f31 : a.tmps.getD 31 undef = _ := hI.off 31 (noDst_spec (p := upTo 8) (by kernel_rfl))
  have f32 : a.tmps.getD 32 undef = _ := hI.off 32 (noDst_spec (p := upTo 8) (by kernel_rfl))
  have f33 : a.tmps.getD 33 undef = _ := hI.off 33 (noDst_spec (p := upTo 8) (by kernel_rfl))
  have f34 : a.tmps.getD 34 undef = _ := hI.off 34 (noDst_spec (p := upTo 8) (by kernel_rfl))
  have f35 : a.tmps.getD 35 undef = _ := hI.off 35 (noDst_spec (p := upTo 8) (by kernel_rfl))
  have f36 : a.tmps.getD 36 undef = _ := hI.off 36 (noDst_spec (p := upTo 8) (by kernel_rfl))
  have f37 : a.tmps.getD 37 undef = _ := hI.off 37 (noDst_spec (p := upTo 8) (by kernel_rfl))
  have f38 : a.tmps.getD 38 undef = _ := hI.off 38 (noDst_spec (p := upTo 8) (by kernel_rfl))
  have f39 : a.tmps.getD 39 undef = _ := hI.off 39 (noDst_spec (p := upTo 8) (by kernel_rfl))
  have f40 : a.tmps.getD 40 undef = _ := hI.off 40 (noDst_spec (p := upTo 8) (by kernel_rfl))
  have f41 : a.tmps.getD 41 undef = _ := hI.off 41 (noDst_spec (p := upTo 8) (by kernel_rfl))
  have f42 : a.tmps.getD 42 undef = _ := hI.off 42 (noDst_spec (p := upTo 8) (by kernel_rfl))
  have f43 : a.tmps.getD 43 undef = _ := hI.off 43 (noDst_spec (p := upTo 8) (by kernel_rfl))
  have f44 : a.tmps.getD 44 undef = _ := hI.off 44 (noDst_spec (p := upTo 8) (by kernel_rfl))
  have f45 : a.tmps.getD 45 undef = _ := hI.off 45 (noDst_spec (p := upTo 8) (by kernel_rfl))
  have f46 : a.tmps.getD 46 undef = _ := hI.off 46 (noDst_spec (p := upTo 8) (by kernel_rfl))
  have f47 : a.tmps.getD 47 undef = _ := hI.off 47 (noDst_spec (p := upTo 8) (by kernel_rfl))
  have f48 : a.tmps.getD 48 undef = _ := hI.off 48 (noDst_spec (p := upTo 8) (by kernel_rfl))
  have f49 : a.tmps.getD 49 undef = _ := hI.off 49 (noDst_spec (p := upTo 8) (by kernel_rfl))
  have f50 : a.tmps.getD 50 undef = _ := hI.off 50 (noDst_spec (p := upTo 8) (by kernel_rfl))
  have f51 : a.tmps.getD 51 undef = _ := hI.off 51 (noDst_spec (p := upTo 8) (by kernel_rfl))
  have f52 : a.tmps.getD 52 undef = _ := hI.off 52 (noDst_spec (p := upTo 8) (by kernel_rfl))
  have f53 : a.tmps.getD 53 undef = _ := hI.off 53 (noDst_spec (p := upTo 8) (by kernel_rfl))
  have f54 : a.tmps.getD 54 undef = _ := hI.off 54 (noDst_spec (p := upTo 8) (by kernel_rfl))
  have f55 : a.tmps.getD 55 undef = _ := hI.off 55 (noDst_spec (p := upTo 8) (by kernel_rfl))
  have f56 : a.tmps.getD 56 undef = _ := hI.off 56 (noDst_spec (p := upTo 8) (by kernel_rfl))
  have f57 : a.tmps.getD 57 undef = _ := hI.off 57 (noDst_spec (p := upTo 8) (by kernel_rfl))
  have f58 : a.tmps.getD 58 undef = _ := hI.off 58 (noDst_spec (p := upTo 8) (by kernel_rfl))
  have f59 : a.tmps.getD 59 undef = _ := hI.off 59 (noDst_spec (p := upTo 8) (by kernel_rfl))
  have f60 : a.tmps.getD 60 undef = _ := hI.off 60 (noDst_spec (p := upTo 8) (by kernel_rfl))
  have f61 : a.tmps.getD 61 undef = _ := hI.off 61 (noDst_spec (p := upTo 8) (by kernel_rfl))
  have f62 : a.tmps.getD 62 undef = _ := hI.off 62 (noDst_spec (p := upTo 8) (by kernel_rfl))
  have f63 : a.tmps.getD 63 undef = _ := hI.off 63 (noDst_spec (p := upTo 8) (by kernel_rfl))
  have f64 : a.tmps.getD 64 undef = _ := hI.off 64 (noDst_spec (p := upTo 8) (by kernel_rfl))
  have f65 : a.tmps.getD 65 undef = _ := hI.off 65 (noDst_spec (p := upTo 8) (by kernel_rfl))
  have f66 : a.tmps.getD 66 undef = _ := hI.off 66 (noDst_spec (p := upTo 8) (by kernel_rfl))
  have f67 : a.tmps.getD 67 undef = _ := hI.off 67 (noDst_spec (p := upTo 8) (by kernel_rfl))
  have f68 : a.tmps.getD 68 undef = _ := hI.off 68 (noDst_spec (p := upTo 8) (by kernel_rfl))
  have f69 : a.tmps.getD 69 undef = _ := hI.off 69 (noDst_spec (p := upTo 8) (by kernel_rfl))
  have f70 : a.tmps.getD 70 undef = _ := hI.off 70 (noDst_spec (p := upTo 8) (by kernel_rfl))
  have f71 : a.tmps.getD 71 undef = _ := hI.off 71 (noDst_spec (p := upTo 8) (by kernel_rfl))
  have f72 : a.tmps.getD 72 undef = _ := hI.off 72 (noDst_spec (p := upTo 8) (by kernel_rfl))
  have f73 : a.tmps.getD 73 undef = _ := hI.off 73 (noDst_spec (p := upTo 8) (by kernel_rfl))
  have g7 : ((fun u v => ∃ v6, SL C st rows w.heap.size gn_ v v6 u)) u (a.tmps.getD 7 undef) := hI.val 7 _ 7 rfl rfl rfl
  have f21 : a.tmps.getD 21 undef = (.pointer (some ⟨p, 0, none⟩)) := hI.val 0 _ 21 rfl rfl rfl
  have f22 : a.tmps.getD 22 undef = .agg #[.slice sa sn sc, .slice ga gn_ gc] := hI.val 1 _ 22 rfl rfl rfl
  have g23 : ((fun u v => ∃ v6, SL C st rows w.heap.size gn_ v v6 u)) u (a.tmps.getD 23 undef) := hI.val 2 _ 23 rfl rfl rfl
  have f24 : a.tmps.getD 24 undef = .pointer (some ⟨w.heap.size, 1, none⟩) := hI.val 3 _ 24 rfl rfl rfl
  have f25 : a.tmps.getD 25 undef = .slice ga gn_ gc := hI.val 4 _ 25 rfl rfl rfl
  have f26 : a.tmps.getD 26 undef = .int .i64 (gn_ : Int) := hI.val 5 _ 26 rfl rfl rfl
  have f27 : a.tmps.getD 27 undef = .int .i64 (gl : Int) := hI.val 6 _ 27 rfl rfl rfl
  have ha : a = ⟨#[a.tmps.getD 0 undef, a.tmps.getD 1 undef, a.tmps.getD 2 undef, a.tmps.getD 3 undef, a.tmps.getD 4 undef, a.tmps.getD 5 undef, a.tmps.getD 6 undef, a.tmps.getD 7 undef, a.tmps.getD 8 undef, a.tmps.getD 9 undef, a.tmps.getD 10 undef, a.tmps.getD 11 undef, a.tmps.getD 12 undef, a.tmps.getD 13 undef, a.tmps.getD 14 undef, a.tmps.getD 15 undef, a.tmps.getD 16 undef, a.tmps.getD 17 undef, a.tmps.getD 18 undef, a.tmps.getD 19 undef, a.tmps.getD 20 undef, a.tmps.getD 21 undef, a.tmps.getD 22 undef, a.tmps.getD 23 undef, a.tmps.getD 24 undef, a.tmps.getD 25 undef, a.tmps.getD 26 undef, a.tmps.getD 27 undef, a.tmps.getD 28 undef, a.tmps.getD 29 undef, a.tmps.getD 30 undef, a.tmps.getD 31 undef, a.tmps.getD 32 undef, a.tmps.getD 33 undef, a.tmps.getD 34 undef, a.tmps.getD 35 undef, a.tmps.getD 36 undef, a.tmps.getD 37 undef, a.tmps.getD 38 undef, a.tmps.getD 39 undef, a.tmps.getD 40 undef, a.tmps.getD 41 undef, a.tmps.getD 42 undef, a.tmps.getD 43 undef, a.tmps.getD 44 undef, a.tmps.getD 45 undef, a.tmps.getD 46 undef, a.tmps.getD 47 undef, a.tmps.getD 48 undef, a.tmps.getD 49 undef, a.tmps.getD 50 undef, a.tmps.getD 51 undef, a.tmps.getD 52 undef, a.tmps.getD 53 undef, a.tmps.getD 54 undef, a.tmps.getD 55 undef, a.tmps.getD 56 undef, a.tmps.getD 57 undef, a.tmps.getD 58 undef, a.tmps.getD 59 undef, a.tmps.getD 60 undef, a.tmps.getD 61 undef, a.tmps.getD 62 undef, a.tmps.getD 63 undef, a.tmps.getD 64 undef, a.tmps.getD 65 undef, a.tmps.getD 66 undef, a.tmps.getD 67 undef, a.tmps.getD 68 undef, a.tmps.getD 69 undef, a.tmps.getD 70 undef, a.tmps.getD 71 undef, a.tmps.getD 72 undef, a.tmps.getD 73 undef], a.defers⟩ := act_list a 74 hsz
  rw [hdf, f0, f1, f2, f3, f4, f5, f6, f8, f9, f10, f11, f12, f13, f14, f15, f16, f17, f18, f19, f20, f21, f22, f24, f25, f26, f27, f28, f29, f30, f31, f32, f33, f34, f35, f36, f37, f38, f39, f40, f41, f42, f43, f44, f45, f46, f47, f48, f49, f50, f51, f52, f53, f54, f55, f56, f57, f58, f59, f60, f61, f62, f63, f64, f65, f66, f67, f68, f69, f70, f71, f72, f73] at ha
  obtain ⟨x7, hx7⟩ : ∃ x, a.tmps.getD 7 undef = x := ⟨_, rfl⟩
  obtain ⟨x23, hx23⟩ : ∃ x, a.tmps.getD 23 undef = x := ⟨_, rfl⟩
  rw [hx7, hx23] at ha
  rw [hx7] at g7
  rw [hx23] at g23
  have hku := hI.kp
  clear hI hsz hdf f0 f1 f2 f3 f4 f5 f6 f8 f9 f10 f11 f12 f13 f14 f15 f16 f17 f18 f19 f20 f21 f22 f24 f25 f26 f27 f28 f29 f30 f31 f32 f33 f34 f35 f36 f37 f38 f39 f40 f41 f42 f43 f44 f45 f46 f47 f48 f49 f50 f51 f52 f53 f54 f55 f56 f57 f58 f59 f60 f61 f62 f63 f64 f65 f66 f67 f68 f69 f70 f71 f72 f73 hx7 hx23
  subst ha
  refine wpAny_tail 8 rfl (by kernel_rfl) ?_
  simp only [List.drop_succ_cons, List.drop_zero]
  simp only [Array.getD_eq_getD_getElem?, List.getElem?_toArray, List.getElem?_cons_zero, List.getElem?_cons_succ, Option.getD_some]
  obtain ⟨v6, hSL⟩ := g7
  obtain ⟨ta, tc, rfl, hTS⟩ := hSL.grid hfl.out hgn
  have HTS := Lib.hid hTS
  have HKu := Lib.hid (HKs.out.trans hku (fun _ _ h => h))
  have HRu := Lib.hid (HRb.out.kp hku (fun h => h))
  have z1 := HRu.out.cell (i := 1) (v := .slice ga gn_ gc) rfl
  clear hku hSL hTS g23 z0 HRb HSz0 HSts HSz HKs HRb0 HK0
  go_wp2_with fail
  go_loopw [9] (fun v9 wr => ∃ k : Nat, v9 = .int .i64 k ∧ k ≤ gn_ ∧ (∀ j, j < k → okM C st rows j = true) ∧ Kp (fun _ => False) u wr) (fun v9 _ => gn_ - (intOf v9).toNat)
  case atStart => exact ⟨0, rfl, by omega, fun j hj => by omega, Kp.refl _ _⟩
  case round =>
    obtain ⟨k, rfl, hk, hall, hK⟩ := hrel
    obtain ⟨wp, rfl⟩ : ∃ wp : World, wp = wr := ⟨_, rfl⟩
    clear z1
    have z1 := (HRu.out.kp hK (fun h => h)).cell (i := 1) (v := .slice ga gn_ gc) rfl
    have HK := Lib.hid hK
    have HAll := Lib.hid hall
    clear hK hall
    by_cases hlt : k < gn_
    · obtain ⟨bg, og, b, m, d, ega, eg2, hbs⟩ := (HGs.out.kp (HKu.out.trans HK.out (fun _ _ h => h))).at hlt
      obtain ⟨bt, ot, b2, m2, d2, eta, et2, hts⟩ := (HTS.out.kp HK.out).states hlt
      have hlm := hbs.len
      have hmm := hbs.most
      obtain ⟨F, hF1, hF2⟩ := still_class wp
      have HF1 := Lib.hid hF1
      have HF2 := Lib.hid hF2
      have m0 : ∀ y, (F y).cell? ⟨w.heap.size, 1, none⟩ = some (.slice ga gn_ gc) := fun y => ((HRu.out.kp HK.out (fun h => h)).kp (HF1.out y) (fun h => h)).cell rfl
      have m1 : ∀ y, (F y).cell? ⟨bg, og + k, none⟩ = some (.slice b m d) := fun y => (HF1.out y).cellK eg2
      have m2' : ∀ y, (F y).cell? ⟨bt, ot + k, none⟩ = some (.slice b2 m2 d2) := fun y => (HF1.out y).cellK et2
      have m3 : ∀ y, (F y).cell? ⟨p, 1, none⟩ = some (.slice V.ai ni V.ci) := fun y => HMb.out _ ((HKu.out.trans HK.out (fun _ _ h => h)).trans (HF1.out y) (fun _ _ h => h))
      subst ega eta
      have i0 : (0 : Int) ≤ (k : Int) := by omega
      have i2 : (k : Int) < (gn_ : Int) := by omega
      obtain ⟨bh, hbh⟩ : ∃ x, holdsM C (stateM C st rows k) (rows[k]?.getD []) = x := ⟨_, rfl⟩
      have HW := Lib.hid (fun y => HHo.out (F y) ((HKu.out.trans HK.out (fun _ _ h => h)).trans (HF1.out y) (fun _ _ h => h)) b2 m2 d2 _ b m d _ (hts.kp (HF1.out y)) (hbs.kp (HF1.out y)))
      rw [hbh] at HW
      have HBh := Lib.hid hbh
      have HLm := Lib.hid hlm
      have HK1 := Lib.hid (fun y => HK.out.trans (HF1.out y) (fun _ _ h => h))
      clear hF1 hF2 hbs hts eg2 et2 hbh hlm
      by_cases hq : m = ni
      · subst hq
        cases bh with
        | false =>
          have hrf := R3.out k (by rw [HLen.out]; exact hlt) (by unfold okM; rw [HBh.out, Bool.and_false])
          subst hrf
          go_upto_region 7 with fail
          refine wp_region_kept (by kernel_rfl) (by kernel_rfl) HF2.out ?_
          repeat (go_big_quiet_step (with_reducible first | exact Calls.still_of HF1.out HF2.out (HW.out _)))
          refine wpQuiet_nil ?_
          rintro wB ⟨y, rfl⟩
          have HE := Lib.hid (HKu.out.trans (HK1.out y) (fun _ _ h => h))
          clear m0 m1 m2' m3 z1
          go_wp2_with fail
          go_ret
          exact ⟨rfl, HE.out⟩
        | true =>
          go_upto_region 7 with fail
          refine wp_region_kept (by kernel_rfl) (by kernel_rfl) HF2.out ?_
          repeat (go_big_quiet_step (with_reducible first | exact Calls.still_of HF1.out HF2.out (HW.out _)))
          refine wpQuiet_nil ?_
          rintro wB ⟨y, rfl⟩
          have HE := Lib.hid (show (∀ j, j < k + 1 → okM C st rows j = true) ∧ Kp (fun _ => False) u (F y) from ⟨fun j hj => by
            by_cases e : j < k
            · exact HAll.out j e
            · obtain rfl : j = k := by omega
              unfold okM
              rw [HBh.out, HLm.out, HNi.out]
              simp, HK1.out y⟩)
          clear m0 m1 m2' m3 z1
          go_wp2_with fail
          go_roundw
          case rel => exact ⟨k + 1, by go_num, by omega, HE.out⟩
          case measure => simp [intOf]; omega
      · have hrf := R3.out k (by rw [HLen.out]; exact hlt) (by unfold okM; rw [HLm.out, HNi.out, decide_eq_false hq, Bool.false_and])
        subst hrf
        have hq2 : ((m : Int) != (ni : Int)) = true := by simp; omega
        have HQ := Lib.hid hq
        clear hq
        go_upto_region 7 with fail
        refine wp_region_kept (by kernel_rfl) (by kernel_rfl) HF2.out ?_
        repeat (go_big_quiet_step (fail))
        refine wpQuiet_nil ?_
        rintro wB ⟨y, rfl⟩
        have HE := Lib.hid (HKu.out.trans (HK1.out y) (fun _ _ h => h))
        clear m0 m1 m2' m3 z1
        go_wp2_with fail
        go_ret
        exact ⟨rfl, HE.out⟩
    · obtain rfl : k = gn_ := by omega
      have hrf := R4.out gl HB0.out (by rw [HLen.out]; exact HGl2.out) (fun j hj => HAll.out j (by rw [HGl2.out]; exact hj))
      have hltl : gl < k := by rw [HGl2.out]; omega
      obtain ⟨bg, og, b, m, d, ega, eg2, hbs⟩ := (HGs.out.kp (HKu.out.trans HK.out (fun _ _ h => h))).at hltl
      obtain ⟨bt, ot, b2, m2, d2, eta, et2, hts⟩ := (HTS.out.kp HK.out).states hltl
      obtain ⟨F, hF1, hF2⟩ := still_class wp
      have HF1 := Lib.hid hF1
      have HF2 := Lib.hid hF2
      have m0 : ∀ y, (F y).cell? ⟨w.heap.size, 1, none⟩ = some (.slice ga k gc) := fun y => ((HRu.out.kp HK.out (fun h => h)).kp (HF1.out y) (fun h => h)).cell rfl
      have m1 : ∀ y, (F y).cell? ⟨bg, og + gl, none⟩ = some (.slice b m d) := fun y => (HF1.out y).cellK eg2
      have m2' : ∀ y, (F y).cell? ⟨bt, ot + gl, none⟩ = some (.slice b2 m2 d2) := fun y => (HF1.out y).cellK et2
      subst ega eta
      have i0 : (0 : Int) ≤ (gl : Int) := by omega
      have i2 : (gl : Int) < (k : Int) := by omega
      have HW := Lib.hid (fun y => HBa.out (F y) ((HKu.out.trans HK.out (fun _ _ h => h)).trans (HF1.out y) (fun _ _ h => h)) b2 m2 d2 _ b m d _ (hts.kp (HF1.out y)) (hbs.kp (HF1.out y)))
      rw [hrf] at HW
      have HK1 := Lib.hid (fun y => HK.out.trans (HF1.out y) (fun _ _ h => h))
      clear hF1 hF2 hbs hts eg2 et2 hrf
      go_upto_region 9 with fail
      clear z1
      refine wp_region_kept (by kernel_rfl) (by kernel_rfl) HF2.out ?_
      repeat (go_big_quiet_step (with_reducible first | exact Calls.still_of HF1.out HF2.out (HW.out _)))
      refine wpQuiet_nil ?_
      rintro wB ⟨y, rfl⟩
      have HE := Lib.hid (HKu.out.trans (HK1.out y) (fun _ _ h => h))
      clear m0 m1 m2'
      go_wp2_with fail
      go_ret
      exact ⟨rfl, HE.out⟩

end Go.Proofs.YtnoknecfdnjomaaGreat

/-
  latchetlaw11.Few. (Printed by mkfew.py.)
-/
namespace Go.Proofs.YtnoknecfdnjomaaGreat
open Go Go.RowKit

structure FewP (V : CV) (C : Circ) (m : Nat) : Prop where
  i : C.ins.length ≤ m
  l : C.lats.length ≤ m
  g : C.gates.length ≤ m
  o : C.outs.length ≤ m
  b : C.bads.length ≤ m
  c : C.cons.length ≤ m
  y : V.ny ≤ m
  t : V.cm.size ≤ 300

theorem FewP.few {V : CV} {C : Circ} {m k : Nat} (h : FewP V C m) (hk : m ≤ k) : CFew C k := ⟨Nat.le_trans h.i hk, Nat.le_trans h.l hk, Nat.le_trans h.o hk, Nat.le_trans h.b hk, Nat.le_trans h.c hk, Nat.le_trans h.g hk⟩

set_option maxRecDepth 100000 in
set_option maxHeartbeats 4000000 in
theorem law11_Few (V : CV) (C : Circ) (m : Nat) (w : World) :
    Calls Tryz.prog 5 #[.agg (cvals V C), .int .i64 m] w fun e w' => ∃ r : Bool, e = .returned (.bool r) ∧ (r = true ↔ FewP V C m) ∧ Kp (fun _ => False) w w' := by
  obtain ⟨wz, hwz⟩ : ∃ wz : World, wz = w.alloc (.cells (cvals V C) 27) := ⟨_, rfl⟩
  have HK0 := Lib.hid (show Kp (fun _ => False) w wz by rw [hwz]; exact (Kp.refl _ w).alloc _)
  obtain ⟨ni, hni⟩ : ∃ n, C.ins.length = n := ⟨_, rfl⟩
  obtain ⟨nl, hnl⟩ : ∃ n, C.lats.length = n := ⟨_, rfl⟩
  obtain ⟨no, hno⟩ : ∃ n, C.outs.length = n := ⟨_, rfl⟩
  obtain ⟨nb, hnb⟩ : ∃ n, C.bads.length = n := ⟨_, rfl⟩
  obtain ⟨nc, hnc⟩ : ∃ n, C.cons.length = n := ⟨_, rfl⟩
  obtain ⟨ng, hng⟩ : ∃ n, C.gates.length = n := ⟨_, rfl⟩
  obtain ⟨ny, hny⟩ : ∃ n, V.ny = n := ⟨_, rfl⟩
  obtain ⟨cm, hcm⟩ : ∃ s, V.cm = s := ⟨_, rfl⟩
  have HF := Lib.hid (show FewP V C m ↔ ni ≤ m ∧ nl ≤ m ∧ ng ≤ m ∧ no ≤ m ∧ nb ≤ m ∧ nc ≤ m ∧ ny ≤ m ∧ cm.size ≤ 300 from ⟨fun ⟨h1, h2, h3, h4, h5, h6, h7, h8⟩ => ⟨hni ▸ h1, hnl ▸ h2, hng ▸ h3, hno ▸ h4, hnb ▸ h5, hnc ▸ h6, hny ▸ h7, hcm ▸ h8⟩, fun ⟨h1, h2, h3, h4, h5, h6, h7, h8⟩ => ⟨hni ▸ h1, hnl ▸ h2, hng ▸ h3, hno ▸ h4, hnb ▸ h5, hnc ▸ h6, hny ▸ h7, hcm ▸ h8⟩⟩)
  have HC0 : Hid (Blk wz w.heap.size #[.int .i64 C.max, .slice V.ai ni V.ci, .slice V.al nl V.cl, .slice V.ao no V.co, .slice V.ab nb V.cb, .slice V.ac nc V.cc, .slice V.ag ng V.cg, .slice V.ay ny V.cy, .string cm] 27) := Lib.hid (by
    have h := Blk.new w (cvals V C) 27
    rw [← hwz] at h
    unfold cvals at h
    rw [hni, hnl, hno, hnb, hnc, hng, hny, hcm] at h
    exact h)
  obtain ⟨d0, d1, d2, d3, d4, d5, d6, d7, d8⟩ := Blk.cells9 HC0.out
  have HZ := Lib.hid hwz
  clear hni hnl hno hnb hnc hng hny hcm hwz
  by_cases h0 : ni ≤ m
  case neg =>
    have HNo := Lib.hid (show ¬ (ni ≤ m ∧ nl ≤ m ∧ ng ≤ m ∧ no ≤ m ∧ nb ≤ m ∧ nc ≤ m ∧ ny ≤ m ∧ cm.size ≤ 300) from fun h => h0 h.1)
    go_enter Tryz.func5, Tryz.ntmps5
    go_upto_region 1 with fail
    rw [← HZ.out]
    clear HZ
    go_wp2_with fail
    go_ret
    exact ⟨false, rfl, ⟨fun h => (by cases h), fun h => absurd (HF.out.1 h) HNo.out⟩, HK0.out⟩
  by_cases h1 : nl ≤ m
  case neg =>
    have HNo := Lib.hid (show ¬ (ni ≤ m ∧ nl ≤ m ∧ ng ≤ m ∧ no ≤ m ∧ nb ≤ m ∧ nc ≤ m ∧ ny ≤ m ∧ cm.size ≤ 300) from fun h => h1 h.2.1)
    go_enter Tryz.func5, Tryz.ntmps5
    go_upto_region 1 with fail
    rw [← HZ.out]
    clear HZ
    go_wp2_with fail
    go_ret
    exact ⟨false, rfl, ⟨fun h => (by cases h), fun h => absurd (HF.out.1 h) HNo.out⟩, HK0.out⟩
  by_cases h2 : ng ≤ m
  case neg =>
    have HNo := Lib.hid (show ¬ (ni ≤ m ∧ nl ≤ m ∧ ng ≤ m ∧ no ≤ m ∧ nb ≤ m ∧ nc ≤ m ∧ ny ≤ m ∧ cm.size ≤ 300) from fun h => h2 h.2.2.1)
    go_enter Tryz.func5, Tryz.ntmps5
    go_upto_region 1 with fail
    rw [← HZ.out]
    clear HZ
    go_wp2_with fail
    go_ret
    exact ⟨false, rfl, ⟨fun h => (by cases h), fun h => absurd (HF.out.1 h) HNo.out⟩, HK0.out⟩
  by_cases h3 : no ≤ m
  case neg =>
    have HNo := Lib.hid (show ¬ (ni ≤ m ∧ nl ≤ m ∧ ng ≤ m ∧ no ≤ m ∧ nb ≤ m ∧ nc ≤ m ∧ ny ≤ m ∧ cm.size ≤ 300) from fun h => h3 h.2.2.2.1)
    go_enter Tryz.func5, Tryz.ntmps5
    go_upto_region 1 with fail
    rw [← HZ.out]
    clear HZ
    go_wp2_with fail
    go_ret
    exact ⟨false, rfl, ⟨fun h => (by cases h), fun h => absurd (HF.out.1 h) HNo.out⟩, HK0.out⟩
  by_cases h4 : nb ≤ m
  case neg =>
    have HNo := Lib.hid (show ¬ (ni ≤ m ∧ nl ≤ m ∧ ng ≤ m ∧ no ≤ m ∧ nb ≤ m ∧ nc ≤ m ∧ ny ≤ m ∧ cm.size ≤ 300) from fun h => h4 h.2.2.2.2.1)
    go_enter Tryz.func5, Tryz.ntmps5
    go_upto_region 1 with fail
    rw [← HZ.out]
    clear HZ
    go_wp2_with fail
    go_ret
    exact ⟨false, rfl, ⟨fun h => (by cases h), fun h => absurd (HF.out.1 h) HNo.out⟩, HK0.out⟩
  by_cases h5 : nc ≤ m
  case neg =>
    have HNo := Lib.hid (show ¬ (ni ≤ m ∧ nl ≤ m ∧ ng ≤ m ∧ no ≤ m ∧ nb ≤ m ∧ nc ≤ m ∧ ny ≤ m ∧ cm.size ≤ 300) from fun h => h5 h.2.2.2.2.2.1)
    go_enter Tryz.func5, Tryz.ntmps5
    go_upto_region 1 with fail
    rw [← HZ.out]
    clear HZ
    go_wp2_with fail
    go_ret
    exact ⟨false, rfl, ⟨fun h => (by cases h), fun h => absurd (HF.out.1 h) HNo.out⟩, HK0.out⟩
  by_cases h6 : ny ≤ m
  case neg =>
    have HNo := Lib.hid (show ¬ (ni ≤ m ∧ nl ≤ m ∧ ng ≤ m ∧ no ≤ m ∧ nb ≤ m ∧ nc ≤ m ∧ ny ≤ m ∧ cm.size ≤ 300) from fun h => h6 h.2.2.2.2.2.2.1)
    go_enter Tryz.func5, Tryz.ntmps5
    go_upto_region 1 with fail
    rw [← HZ.out]
    clear HZ
    go_wp2_with fail
    go_ret
    exact ⟨false, rfl, ⟨fun h => (by cases h), fun h => absurd (HF.out.1 h) HNo.out⟩, HK0.out⟩
  by_cases h7 : cm.size ≤ 300
  case neg =>
    have HNo := Lib.hid (show ¬ (ni ≤ m ∧ nl ≤ m ∧ ng ≤ m ∧ no ≤ m ∧ nb ≤ m ∧ nc ≤ m ∧ ny ≤ m ∧ cm.size ≤ 300) from fun h => h7 h.2.2.2.2.2.2.2)
    have hd : decide ((cm.size : Int) ≤ 300) = false := decide_eq_false (by omega)
    go_enter Tryz.func5, Tryz.ntmps5
    go_upto_region 1 with fail
    rw [← HZ.out]
    clear HZ
    go_wp2_with fail
    go_ret
    exact ⟨false, rfl, ⟨fun h => (by cases h), fun h => absurd (HF.out.1 h) HNo.out⟩, HK0.out⟩
  have HY := Lib.hid (show ni ≤ m ∧ nl ≤ m ∧ ng ≤ m ∧ no ≤ m ∧ nb ≤ m ∧ nc ≤ m ∧ ny ≤ m ∧ cm.size ≤ 300 from ⟨h0, h1, h2, h3, h4, h5, h6, h7⟩)
  have hd : decide ((cm.size : Int) ≤ 300) = true := decide_eq_true (by omega)
  go_enter Tryz.func5, Tryz.ntmps5
  go_upto_region 1 with fail
  rw [← HZ.out]
  clear HZ
  go_wp2_with fail
  go_ret
  exact ⟨true, rfl, ⟨fun _ => HF.out.2 HY.out, fun _ => rfl⟩, HK0.out⟩

end Go.Proofs.YtnoknecfdnjomaaGreat

/-
  latchetref11.Check: what is wrong with any circuit. (Printed by mkrefcheck.py.)
-/
namespace Go.Proofs.YtnoknecfdnjomaaGreat
open Go.RowKit

theorem ref02_HasQ (a : Option Addr) (n c q : Nat) (L : List Int) (x : Int) (w : World) (hr : IntsAt w a L) (hn : L.length = n) (hm : n ≤ 9000000000) :
    Calls Tryz.prog 31 #[.slice a n c, .int .i64 x] (w.drewN q) fun e w' => e = .returned (.bool (decide (x ∈ L))) ∧ w' = w.drewN q :=
  (ref02_Has a n c L x (w.drewN q) hr hn hm).mono fun _ _ ⟨h1, h2⟩ => ⟨h1, h2.symm⟩

theorem range_bad1 {C : Circ} {k : Nat} (hk : k < C.owned.length) (h : ownB C.max (gi C.owned k) = false) : rangeB C = false := by
  unfold rangeB
  have : C.owned.all (ownB C.max) = false := by
    rw [List.all_eq_false]
    refine ⟨gi C.owned k, ?_, by simp [h]⟩
    unfold gi; rw [List.getElem?_eq_getElem hk]; exact List.getElem_mem hk
  rw [this]; rfl
theorem range_bad2 {C : Circ} {k : Nat} (hk : k < C.used.length) (h : useB C.max (gi C.used k) = false) : rangeB C = false := by
  unfold rangeB
  have : C.used.all (useB C.max) = false := by
    rw [List.all_eq_false]
    refine ⟨gi C.used k, ?_, by simp [h]⟩
    unfold gi; rw [List.getElem?_eq_getElem hk]; exact List.getElem_mem hk
  rw [this, Bool.and_false]
theorem range_bad3 {C : Circ} {k : Nat} (hk : k < C.lats.length) (h : resB (g3 C.lats k) = false) : rangeB C = false := by
  unfold rangeB
  have : C.lats.all resB = false := by
    rw [List.all_eq_false]
    exact ⟨_, g3_mem hk, by simp [h]⟩
  rw [this, Bool.and_false, Bool.false_and]
theorem range_all {C : Circ} (h1 : C.owned.all (ownB C.max) = true) (h2 : C.used.all (useB C.max) = true) (h3 : C.lats.all resB = true) : rangeB C = true := by
  unfold rangeB; rw [h1, h2, h3]; rfl

theorem knownB_iff {C : Circ} (hR : InRange C) {x : Int} (hx : x ∈ C.used) : knownB C.owned x = (!(decide (1 < x)) || decide (x - x % 2 ∈ C.owned)) := by
  have h0 := hR.use x hx
  unfold knownB
  rw [Bool.eq_iff_iff]
  simp only [Bool.or_eq_true, decide_eq_true_eq, List.any_eq_true, Bool.not_eq_true', decide_eq_false_iff_not]
  constructor
  · rintro (h | ⟨y, hy, e⟩)
    · left; omega
    · right
      have h1 := hR.own y hy
      have : y = x - x % 2 := by omega
      rw [← this]; exact hy
  · rintro (h | h)
    · left; omega
    · by_cases h1 : x / 2 = 0
      · exact .inl h1
      · exact .inr ⟨_, h, by omega⟩

set_option maxRecDepth 100000 in
set_option maxHeartbeats 8000000 in
theorem ref11_Chk (V : CV) (C : Circ) (w : World) (h : CAt w V C) (hf : CFew C 1000000) :
    Calls Tryz.prog 7 #[.agg (cvals V C)] w fun e w' => e = .returned (.int .i64 (ckCode C)) ∧ Kp (fun _ => False) w w' := by
  obtain ⟨code, hcode⟩ : ∃ code, ckCode C = code := ⟨_, rfl⟩
  rw [hcode]
  have HCode := Lib.hid hcode
  clear hcode
  have HC0 := Lib.hid (Blk.new w (cvals V C) 27)
  have HK0 := Lib.hid ((Kp.refl (fun _ => False) w).alloc (.cells (cvals V C) 27))
  by_cases m0 : 0 ≤ C.max
  case neg =>
    have d1 : decide (C.max < 0) = true := decide_eq_true (by omega)
    obtain rfl : code = 5 := by rw [← HCode.out]; exact ck5 (.inl (by omega))
    have c0 := HC0.out.cell (i := 0) (v := .int .i64 C.max) rfl
    clear m0 h hf
    go_enter Tryz.func7, Tryz.ntmps7
    go_wp2_with fail
    go_ret
    exact ⟨rfl, HK0.out⟩
  have e1 : decide (C.max < 0) = false := decide_eq_false (by omega)
  by_cases m1 : C.max ≤ 16777216
  case neg =>
    have d1 : decide ((16777216 : Int) < C.max) = true := decide_eq_true (by omega)
    obtain rfl : code = 5 := by rw [← HCode.out]; exact ck5 (.inr (.inl (by omega)))
    have c0 := HC0.out.cell (i := 0) (v := .int .i64 C.max) rfl
    clear m1 h hf
    go_enter Tryz.func7, Tryz.ntmps7
    go_wp2_with fail
    go_ret
    exact ⟨rfl, HK0.out⟩
  have e2 : decide ((16777216 : Int) < C.max) = false := decide_eq_false (by omega)
  have HM := Lib.hid (And.intro m0 m1)
  have hl := (h.fl.le63).1
  have HA := Lib.hid h
  have HF := Lib.hid hf
  obtain ⟨n3, hn3⟩ : ∃ n, C.owned.length = n := ⟨_, rfl⟩
  obtain ⟨n4, hn4⟩ : ∃ n, C.used.length = n := ⟨_, rfl⟩
  obtain ⟨gn_, hgn⟩ : ∃ g, C.gates.length = g := ⟨_, rfl⟩
  have h3 : n3 ≤ 3000000 := by rw [← hn3]; have := hf.i; have := hf.l; have := hf.g; unfold Circ.owned; simp; omega
  have h4 : n4 ≤ 6000000 := by
    rw [← hn4]
    have := hf.o; have := hf.b; have := hf.c; have := hf.l; have := hf.g
    have e : (C.gates.flatMap (fun g => [g.2.1, g.2.2])).length = 2 * C.gates.length := by
      generalize C.gates = L
      induction L with
      | nil => rfl
      | cons a r ih => rw [List.flatMap_cons, List.length_append, ih]; simp; omega
    unfold Circ.used
    rw [List.length_append, e]
    simp
    omega
  have HN3 := Lib.hid hn3
  have HN4 := Lib.hid hn4
  have HGN := Lib.hid hgn
  have HU : Hid (cvals V C = #[.int .i64 C.max, .slice V.ai C.ins.length V.ci, .slice V.al C.lats.length V.cl, .slice V.ao C.outs.length V.co, .slice V.ab C.bads.length V.cb, .slice V.ac C.cons.length V.cc, .slice V.ag gn_ V.cg, .slice V.ay V.ny V.cy, .string V.cm]) := Lib.hid (by unfold cvals; rw [hgn])
  have HOw := Lib.hid (show ∀ u, Kp (fun _ => False) w u → Calls Tryz.prog 29 #[.agg #[.int .i64 C.max, .slice V.ai C.ins.length V.ci, .slice V.al C.lats.length V.cl, .slice V.ao C.outs.length V.co, .slice V.ab C.bads.length V.cb, .slice V.ac C.cons.length V.cc, .slice V.ag gn_ V.cg, .slice V.ay V.ny V.cy, .string V.cm]] u fun e u' => (∃ a c, e = .returned (.slice a n3 c) ∧ (n3 ≤ c ∧ c ≤ 9223372036854775807) ∧ IntsAt u' a C.owned) ∧ Kp (fun _ => False) u u' from fun u hu => by
    have := (ref11_Owned V C u (h.kp hu) hf).mono (R' := fun e u' => (∃ a c, e = .returned (.slice a n3 c) ∧ (n3 ≤ c ∧ c ≤ 9223372036854775807) ∧ IntsAt u' a C.owned) ∧ Kp (fun _ => False) u u') (by
      rintro e u' ⟨v, rfl, hO, hK⟩
      obtain ⟨a, c, e, hc1, hc2, -, hr⟩ := hO.form
      rw [iv_length, hn3] at e hc1
      unfold maxLen at hc2
      exact ⟨⟨a, c, by rw [e], ⟨hc1, hc2⟩, hr⟩, hK⟩)
    rw [HU.out] at this
    exact this)
  have HUs := Lib.hid (show ∀ u, Kp (fun _ => False) w u → Calls Tryz.prog 30 #[.agg #[.int .i64 C.max, .slice V.ai C.ins.length V.ci, .slice V.al C.lats.length V.cl, .slice V.ao C.outs.length V.co, .slice V.ab C.bads.length V.cb, .slice V.ac C.cons.length V.cc, .slice V.ag gn_ V.cg, .slice V.ay V.ny V.cy, .string V.cm]] u fun e u' => (∃ a c, e = .returned (.slice a n4 c) ∧ IntsAt u' a C.used) ∧ Kp (fun _ => False) u u' from fun u hu => by
    have := (ref11_Used V C u (h.kp hu) hf).mono (R' := fun e u' => (∃ a c, e = .returned (.slice a n4 c) ∧ IntsAt u' a C.used) ∧ Kp (fun _ => False) u u') (by
      rintro e u' ⟨v, rfl, hO, hK⟩
      obtain ⟨a, c, e, -, -, -, hr⟩ := hO.form
      rw [iv_length, hn4] at e
      exact ⟨⟨a, c, by rw [e], hr⟩, hK⟩)
    rw [HU.out] at this
    exact this)
  have HC1 : Hid (Blk (w.alloc (.cells (cvals V C) 27)) w.heap.size #[.int .i64 C.max, .slice V.ai C.ins.length V.ci, .slice V.al C.lats.length V.cl, .slice V.ao C.outs.length V.co, .slice V.ab C.bads.length V.cb, .slice V.ac C.cons.length V.cc, .slice V.ag gn_ V.cg, .slice V.ay V.ny V.cy, .string V.cm] 27) := Lib.hid (by have := HC0.out; rw [← HU.out]; exact this)
  clear h hf hn3 hn4 hgn
  have c0 := HC0.out.cell (i := 0) (v := .int .i64 C.max) rfl
  go_enter Tryz.func7, Tryz.ntmps7
  go_upto_region 3 with fail
  obtain ⟨wz, hwz⟩ : ∃ wz : World, wz = w.alloc (.cells (cvals V C) 27) := ⟨_, rfl⟩
  rw [← hwz] at HC1 HK0 c0 ⊢
  clear hwz HC0 e1 e2 c0
  go_cut [3, 4] from 19 to 22 (fun s3 s4 wx => ∃ a3 c3 a4 c4, s3 = .slice a3 n3 c3 ∧ s4 = .slice a4 n4 c4 ∧ (n3 ≤ c3 ∧ c3 ≤ 9223372036854775807) ∧ IntsAt wx a3 C.owned ∧ IntsAt wx a4 C.used ∧ Blk wx w.heap.size #[.int .i64 C.max, .slice V.ai C.ins.length V.ci, .slice V.al C.lats.length V.cl, .slice V.ao C.outs.length V.co, .slice V.ab C.bads.length V.cb, .slice V.ac C.cons.length V.cc, .slice V.ag gn_ V.cg, .slice V.ay V.ny V.cy, .string V.cm] 27 ∧ Kp (fun _ => False) w wx)
  case first =>
    go_region_held3 (fun u => u.cell? ⟨w.heap.size, 0, none⟩ = some (.int .i64 C.max) ∧ u.cell? ⟨w.heap.size, 1, none⟩ = some (.slice V.ai C.ins.length V.ci) ∧ u.cell? ⟨w.heap.size, 2, none⟩ = some (.slice V.al C.lats.length V.cl) ∧ u.cell? ⟨w.heap.size, 3, none⟩ = some (.slice V.ao C.outs.length V.co) ∧ u.cell? ⟨w.heap.size, 4, none⟩ = some (.slice V.ab C.bads.length V.cb) ∧ u.cell? ⟨w.heap.size, 5, none⟩ = some (.slice V.ac C.cons.length V.cc) ∧ u.cell? ⟨w.heap.size, 6, none⟩ = some (.slice V.ag gn_ V.cg) ∧ u.cell? ⟨w.heap.size, 7, none⟩ = some (.slice V.ay V.ny V.cy) ∧ u.cell? ⟨w.heap.size, 8, none⟩ = some (.string V.cm)) (with_reducible first | exact HC1.out.cells9 | exact HC1.out.drew.cells9 | exact HXa.out.cells9 | exact HXa.out.drew.cells9 | exact HXb.out.cells9 | exact HXb.out.drew.cells9) ((first
      | ((with_reducible refine Calls.mono (HOw.out _ (by first | exact HK0.out | exact HK0.out.drew | exact HKb.out | exact HKb.out.drew)) ?_); rintro o u1 ⟨⟨a1, c1, rfl, hcp, hi1⟩, hK1⟩; have HCP := Lib.hid hcp; clear hcp; have HI1 := Lib.hid hi1; have HKK1 := Lib.hid hK1; have HXa := Lib.hid (by with_reducible first | exact HC1.out.kp hK1 (fun h => h) | exact HC1.out.drew.kp hK1 (fun h => h) | exact HXb.out.kp hK1 (fun h => h) | exact HXb.out.drew.kp hK1 (fun h => h)); have HKa := Lib.hid (by with_reducible first | exact HK0.out.trans hK1 (fun _ _ h => h) | exact HK0.out.drew.trans hK1 (fun _ _ h => h) | exact HKb.out.trans hK1 (fun _ _ h => h) | exact HKb.out.drew.trans hK1 (fun _ _ h => h)); clear hK1 hi1)
      | ((with_reducible refine Calls.mono (HUs.out _ (by first | exact HK0.out | exact HK0.out.drew | exact HKa.out | exact HKa.out.drew)) ?_); rintro o u2 ⟨⟨a2, c2, rfl, hi2⟩, hK2⟩; have HI2 := Lib.hid hi2; have HKK2 := Lib.hid hK2; have HXb := Lib.hid (by with_reducible first | exact HC1.out.kp hK2 (fun h => h) | exact HC1.out.drew.kp hK2 (fun h => h) | exact HXa.out.kp hK2 (fun h => h) | exact HXa.out.drew.kp hK2 (fun h => h)); have HKb := Lib.hid (by with_reducible first | exact HK0.out.trans hK2 (fun _ _ h => h) | exact HK0.out.drew.trans hK2 (fun _ _ h => h) | exact HKa.out.trans hK2 (fun _ _ h => h) | exact HKa.out.drew.trans hK2 (fun _ _ h => h)); clear hK2 hi2)))
    all_goals go_wp2_with fail
    all_goals go_meet
    all_goals first
      | exact ⟨a1, c1, a2, c2, rfl, rfl, HCP.out, RowAt.kp HI1.out HKK2.out (fun _ _ h => h), HI2.out, HXb.out, HKb.out⟩
      | exact ⟨a1, c1, a2, c2, rfl, rfl, HCP.out, HI1.out, RowAt.kp HI2.out HKK1.out (fun _ _ h => h), HXa.out, HKa.out⟩
      | exact ⟨a1, c1, a2, c2, rfl, rfl, HCP.out, RowAt.kp HI1.out HKK2.out (fun _ _ h => h), HI2.out, HXb.out.drew, HKb.out.drew⟩
      | exact ⟨a1, c1, a2, c2, rfl, rfl, HCP.out, HI1.out, RowAt.kp HI2.out HKK1.out (fun _ _ h => h), HXa.out.drew, HKa.out.drew⟩
  case rest =>
  obtain ⟨a3, cp3, a4, cp4, rfl, rfl, ⟨hcp1, hcp2⟩, hi3, hi4, hC, hK⟩ := hcut
  obtain ⟨wa, rfl⟩ : ∃ wa : World, wa = wc := ⟨_, rfl⟩
  have HI3 := Lib.hid hi3
  have HI4 := Lib.hid hi4
  have HC := Lib.hid hC
  have HKa := Lib.hid hK
  clear HC1 HK0 HOw HUs hi3 hi4 hC hK
  have mm1 : IntKind.i64.wrap (2 * C.max) = 2 * C.max := IntWalk.i64_in _ (by omega)
  have mm2 : IntKind.i64.wrap (2 * C.max + 1) = 2 * C.max + 1 := IntWalk.i64_in _ (by omega)
  have HMM := Lib.hid (And.intro mm1 mm2)
  clear mm1 mm2
  go_wp2_with fail
  go_loopw [5] (fun v5 wr => ∃ k : Nat, v5 = .int .i64 k ∧ k ≤ n3 ∧ (C.owned.take k).all (ownB C.max) = true ∧ Kp (fun _ => False) wa wr) (fun v5 _ => n3 - (intOf v5).toNat)
  case atStart => exact ⟨0, rfl, by omega, by simp, Kp.refl _ _⟩
  case round =>
    obtain ⟨k, rfl, hk, hall, hK⟩ := hrel
    obtain ⟨wp, rfl⟩ : ∃ wp : World, wp = wr := ⟨_, rfl⟩
    have HK := Lib.hid hK
    by_cases hlt : k < n3
    · have hkl : k < C.owned.length := by rw [HN3.out]; exact hlt
      obtain ⟨b, off, rfl, hcell⟩ := IntsAt.get (RowAt.kp HI3.out hK (fun _ _ h => h)) hkl
      have hat := all_take (take_gi hkl) (ownB C.max)
      rw [hall, Bool.true_and] at hat
      have HBad := Lib.hid (fun h => (range_bad1 (C := C) hkl h))
      obtain ⟨x, hx⟩ : ∃ x, gi C.owned k = x := ⟨_, rfl⟩
      rw [hx] at hcell hat HBad
      have HAt := Lib.hid hat
      have c0 := (HC.out.kp hK (fun h => h)).cell (i := 0) (v := .int .i64 C.max) rfl
      have i0 : (0 : Int) ≤ (k : Int) := by omega
      have i1 : (k : Int) < (n3 : Int) := by omega
      clear hall hat hx hK hkl
      by_cases g1 : x < 2
      · obtain rfl : code = 5 := by rw [← HCode.out]; exact ck5 (.inr (.inr (HBad.out (by unfold ownB; rw [decide_eq_false (by omega)]; rfl))))
        have d1 : decide (x < 2) = true := decide_eq_true g1
        clear g1
        go_wp2_with fail
        go_quiet (fail)
        go_wp2_with fail
        go_ret
        exact ⟨rfl, HKa.out.trans (HK.out.drewN _) (fun _ _ h => h)⟩
      · have d1 : decide (x < 2) = false := decide_eq_false g1
        have htm : x.tmod 2 = x % 2 := Int.tmod_eq_emod_of_nonneg (by omega)
        obtain ⟨r, hr⟩ : ∃ r, x % 2 = r := ⟨_, rfl⟩
        rw [hr] at htm
        by_cases g2 : r = 1
        · obtain rfl : code = 5 := by rw [← HCode.out]; exact ck5 (.inr (.inr (HBad.out (by unfold ownB; rw [decide_eq_false (p := x % 2 = 0) (by omega)]; simp))))
          have d2 : ((r : Int) == 1) = true := by simp [g2]
          clear g1 g2 hr
          go_wp2_with fail
          go_quiet (fail)
          go_wp2_with fail
          go_ret
          exact ⟨rfl, HKa.out.trans (HK.out.drewN _) (fun _ _ h => h)⟩
        · have d2 : ((r : Int) == 1) = false := by simp [g2]
          have mm1 := HMM.out.1
          by_cases g3 : 2 * C.max < x
          · obtain rfl : code = 5 := by rw [← HCode.out]; exact ck5 (.inr (.inr (HBad.out (by unfold ownB; rw [decide_eq_false (p := x ≤ 2 * C.max) (by omega)]; simp))))
            have d3 : decide (2 * C.max < x) = true := decide_eq_true g3
            clear g1 g2 g3 hr
            go_wp2_with fail
            go_quiet (fail)
            go_wp2_with fail
            go_ret
            exact ⟨rfl, HKa.out.trans (HK.out.drewN _) (fun _ _ h => h)⟩
          · have d3 : decide (2 * C.max < x) = false := decide_eq_false g3
            have HNx := Lib.hid (show (C.owned.take (k + 1)).all (ownB C.max) = true by rw [HAt.out]; unfold ownB; rw [decide_eq_true (by omega), decide_eq_true (p := x % 2 = 0) (by omega), decide_eq_true (by omega)]; rfl)
            clear g1 g2 g3 hr
            go_wp2_with fail
            go_quiet (fail)
            clear mm1
            go_wp2_with fail
            go_roundw
            case rel => exact ⟨k + 1, by go_num, by omega, HNx.out, HK.out.drewN _⟩
            case measure => simp [intOf]; omega
    · have HAll1 := Lib.hid (show C.owned.all (ownB C.max) = true by rwa [List.take_of_length_le (by rw [HN3.out]; omega)] at hall)
      clear hall hK
      go_wp2_with fail
      go_loopw [6] (fun v6 wr => ∃ k : Nat, v6 = .int .i64 k ∧ k ≤ n4 ∧ (C.used.take k).all (useB C.max) = true ∧ Kp (fun _ => False) wa wr) (fun v6 _ => n4 - (intOf v6).toNat)
      case atStart => exact ⟨0, rfl, by omega, by simp, HK.out⟩
      case round =>
        obtain ⟨k, rfl, hk, hall, hK⟩ := hrel
        clear HK hlt
        obtain ⟨wp, rfl⟩ : ∃ wp : World, wp = wr := ⟨_, rfl⟩
        have HK := Lib.hid hK
        by_cases hlt : k < n4
        · have hkl : k < C.used.length := by rw [HN4.out]; exact hlt
          obtain ⟨b, off, rfl, hcell⟩ := IntsAt.get (RowAt.kp HI4.out hK (fun _ _ h => h)) hkl
          have hat := all_take (take_gi hkl) (useB C.max)
          rw [hall, Bool.true_and] at hat
          have HBad := Lib.hid (fun h => (range_bad2 (C := C) hkl h))
          obtain ⟨x, hx⟩ : ∃ x, gi C.used k = x := ⟨_, rfl⟩
          rw [hx] at hcell hat HBad
          have HAt := Lib.hid hat
          have c0 := (HC.out.kp hK (fun h => h)).cell (i := 0) (v := .int .i64 C.max) rfl
          have i0 : (0 : Int) ≤ (k : Int) := by omega
          have i1 : (k : Int) < (n4 : Int) := by omega
          clear hall hat hx hK hkl
          by_cases g1 : x < 0
          · obtain rfl : code = 5 := by rw [← HCode.out]; exact ck5 (.inr (.inr (HBad.out (by unfold useB; rw [decide_eq_false (by omega)]; rfl))))
            have d1 : decide (x < 0) = true := decide_eq_true g1
            clear g1
            go_wp2_with fail
            go_quiet (fail)
            go_wp2_with fail
            go_ret
            exact ⟨rfl, HKa.out.trans (HK.out.drewN _) (fun _ _ h => h)⟩
          · have d1 : decide (x < 0) = false := decide_eq_false g1
            have mm1 := HMM.out.1
            have mm2 := HMM.out.2
            by_cases g3 : 2 * C.max + 1 < x
            · obtain rfl : code = 5 := by rw [← HCode.out]; exact ck5 (.inr (.inr (HBad.out (by unfold useB; rw [decide_eq_false (p := x ≤ 2 * C.max + 1) (by omega)]; simp))))
              have d3 : decide (2 * C.max + 1 < x) = true := decide_eq_true g3
              clear g1 g3
              go_wp2_with fail
              go_quiet (fail)
              go_wp2_with fail
              go_ret
              exact ⟨rfl, HKa.out.trans (HK.out.drewN _) (fun _ _ h => h)⟩
            · have d3 : decide (2 * C.max + 1 < x) = false := decide_eq_false g3
              have HNx := Lib.hid (show (C.used.take (k + 1)).all (useB C.max) = true by rw [HAt.out]; unfold useB; rw [decide_eq_true (by omega), decide_eq_true (by omega)]; rfl)
              clear g1 g3
              go_wp2_with fail
              go_quiet (fail)
              clear mm1 mm2
              go_wp2_with fail
              go_roundw
              case rel => exact ⟨k + 1, by go_num, by omega, HNx.out, HK.out.drewN _⟩
              case measure => simp [intOf]; omega
        · have HAll2 := Lib.hid (show C.used.all (useB C.max) = true by rwa [List.take_of_length_le (by rw [HN4.out]; omega)] at hall)
          clear hall hK
          go_wp2_with fail
          go_loopw [7] (fun v7 wr => ∃ k : Nat, v7 = .int .i64 k ∧ k ≤ C.lats.length ∧ (C.lats.take k).all resB = true ∧ Kp (fun _ => False) wa wr) (fun v7 _ => C.lats.length - (intOf v7).toNat)
          case atStart => exact ⟨0, rfl, by omega, by simp, HK.out⟩
          case round =>
            obtain ⟨k, rfl, hk, hall, hK⟩ := hrel
            clear HK hlt
            obtain ⟨wp, rfl⟩ : ∃ wp : World, wp = wr := ⟨_, rfl⟩
            have HK := Lib.hid hK
            have c2 := (HC.out.kp hK (fun h => h)).cell (i := 2) (v := .slice V.al C.lats.length V.cl) rfl
            by_cases hlt : k < C.lats.length
            · obtain ⟨b, off, ea, l0, l1, l2⟩ := tri_cells (HA.out.kp (HKa.out.trans hK (fun _ _ h => h))).l hlt
              have hat := all_take (take_g3 hlt) resB
              rw [hall, Bool.true_and] at hat
              have HBad := Lib.hid (fun h => (range_bad3 (C := C) hlt h))
              obtain ⟨x0, hx0⟩ : ∃ x, (g3 C.lats k).1 = x := ⟨_, rfl⟩
              obtain ⟨x2, hx2⟩ : ∃ x, (g3 C.lats k).2.2 = x := ⟨_, rfl⟩
              have hres : resB (g3 C.lats k) = (decide (x2 = 0) || (decide (x2 = 1) || decide (x2 = x0))) := by unfold resB; rw [hx0, hx2]
              rw [hres] at hat HBad
              rw [hx0] at l0
              rw [hx2] at l2
              rw [ea] at c2
              have HAt := Lib.hid hat
              have i0 : (0 : Int) ≤ (k : Int) := by omega
              have i1 : (k : Int) < (C.lats.length : Int) := by omega
              clear hall hat hx0 hx2 hres hK l1 ea
              by_cases g1 : x2 = 0
              · have d1 : ((x2 : Int) != 0) = false := by simp [g1]
                have HNx := Lib.hid (show (C.lats.take (k + 1)).all resB = true by rw [HAt.out]; simp [g1])
                clear g1
                go_wp2_with fail
                go_roundw
                case rel => exact ⟨k + 1, by go_num, by omega, HNx.out, HK.out⟩
                case measure => simp [intOf]; omega
              · have d1 : ((x2 : Int) != 0) = true := by simp [g1]
                by_cases g2 : x2 = 1
                · have d2 : ((x2 : Int) != 1) = false := by simp [g2]
                  have HNx := Lib.hid (show (C.lats.take (k + 1)).all resB = true by rw [HAt.out]; simp [g2])
                  clear g1 g2
                  go_wp2_with fail
                  go_roundw
                  case rel => exact ⟨k + 1, by go_num, by omega, HNx.out, HK.out⟩
                  case measure => simp [intOf]; omega
                · have d2 : ((x2 : Int) != 1) = true := by simp [g2]
                  by_cases g3 : x2 = x0
                  · have d3 : ((x2 : Int) != x0) = false := by simp [g3]
                    have HNx := Lib.hid (show (C.lats.take (k + 1)).all resB = true by rw [HAt.out]; simp [g3])
                    clear g1 g2 g3
                    go_wp2_with fail
                    go_roundw
                    case rel => exact ⟨k + 1, by go_num, by omega, HNx.out, HK.out⟩
                    case measure => simp [intOf]; omega
                  · have d3 : ((x2 : Int) != x0) = true := by simp [g3]
                    obtain rfl : code = 5 := by rw [← HCode.out]; exact ck5 (.inr (.inr (HBad.out (by simp [g1, g2, g3]))))
                    clear g1 g2 g3
                    go_wp2_with fail
                    go_ret
                    exact ⟨rfl, HKa.out.trans HK.out (fun _ _ h => h)⟩
            · have HAll3 := Lib.hid (show C.lats.all resB = true by rwa [List.take_of_length_le (by omega)] at hall)
              have hrg := range_all HAll1.out HAll2.out HAll3.out
              have HIR := Lib.hid (InRange.of HM.out.1 HM.out.2 hrg)
              have HCk := Lib.hid (ckR HM.out.1 HM.out.2 hrg)
              rw [HCode.out] at HCk
              clear hall hK hrg HAll1 HAll2 HAll3 HCode
              go_wp2_with fail
              go_loopw [9] (fun v9 wr => ∃ k : Nat, v9 = .int .i64 k ∧ k ≤ n3 ∧ (C.owned.take k).Nodup ∧ Kp (fun _ => False) wa wr) (fun v9 _ => n3 - (intOf v9).toNat)
              case atStart => exact ⟨0, rfl, by omega, by simp, HK.out⟩
              case round =>
                obtain ⟨k, rfl, hk, hnd, hK⟩ := hrel
                clear HK hlt c2
                obtain ⟨wp, rfl⟩ : ∃ wp : World, wp = wr := ⟨_, rfl⟩
                have HK := Lib.hid hK
                by_cases hlt : k < n3
                · have hkl : k < C.owned.length := by rw [HN3.out]; exact hlt
                  have hi := RowAt.kp HI3.out hK (fun _ _ h => h)
                  have hit : IntsAt wp a3 (C.owned.take k) := by
                    have := RowAt.take hi k
                    unfold IntsAt
                    rw [List.map_take]
                    exact this
                  obtain ⟨b, off, rfl, hcell⟩ := IntsAt.get hi hkl
                  have HND := Lib.hid (fun h => nodup_take hkl hnd h)
                  have HNN := Lib.hid (fun h => not_nodup (l := C.owned) hkl h)
                  obtain ⟨x, hx⟩ : ∃ x, gi C.owned k = x := ⟨_, rfl⟩
                  rw [hx] at hcell HND HNN
                  have HHas := Lib.hid (fun q => ref02_HasQ (some ⟨b, off, none⟩) k cp3 q (C.owned.take k) x wp hit (by simp; omega) (by omega))
                  have i0 : (0 : Int) ≤ (k : Int) := by omega
                  have i1 : (k : Int) < (n3 : Int) := by omega
                  have i2 : (k : Int) ≤ (cp3 : Int) := by omega
                  clear hx hi hit hnd hK hkl
                  by_cases hin : x ∈ C.owned.take k
                  · obtain rfl : code = 7 := by have := HCk.out; rw [if_pos (HNN.out hin)] at this; exact this
                    rw [decide_eq_true hin] at HHas
                    clear hin
                    go_wp2_with fail
                    go_quiet ((go_at_call 31; exact Calls.quiet_of_same (HHas.out _)))
                    go_wp2_with fail
                    go_ret
                    exact ⟨rfl, HKa.out.trans (HK.out.drewN _) (fun _ _ h => h)⟩
                  · have HNx := Lib.hid (HND.out hin)
                    rw [decide_eq_false hin] at HHas
                    clear hin
                    go_wp2_with fail
                    go_quiet ((go_at_call 31; exact Calls.quiet_of_same (HHas.out _)))
                    go_wp2_with fail
                    go_roundw
                    case rel => exact ⟨k + 1, by go_num, by omega, HNx.out, HK.out.drewN _⟩
                    case measure => simp [intOf]; omega
                · have HNod := Lib.hid (show C.owned.Nodup by rwa [List.take_of_length_le (by rw [HN3.out]; omega)] at hnd)
                  have HCk2 := Lib.hid (show code = if C.used.all (knownB C.owned) = false then 9 else if (ordO C.gates).length < C.gates.length then 8 else 0 by have := HCk.out; rw [if_neg (by simp; exact HNod.out)] at this; exact this)
                  clear hnd hK HCk
                  go_wp2_with fail
                  go_loopw [10] (fun v10 wr => ∃ k : Nat, v10 = .int .i64 k ∧ k ≤ n4 ∧ (C.used.take k).all (knownB C.owned) = true ∧ Kp (fun _ => False) wa wr) (fun v10 _ => n4 - (intOf v10).toNat)
                  case atStart => exact ⟨0, rfl, by omega, by simp, HK.out⟩
                  case round =>
                    obtain ⟨k, rfl, hk, hall, hK⟩ := hrel
                    clear HK hlt
                    obtain ⟨wp, rfl⟩ : ∃ wp : World, wp = wr := ⟨_, rfl⟩
                    have HK := Lib.hid hK
                    by_cases hlt : k < n4
                    · have hkl : k < C.used.length := by rw [HN4.out]; exact hlt
                      have hi := RowAt.kp HI3.out hK (fun _ _ h => h)
                      obtain ⟨b, off, rfl, hcell⟩ := IntsAt.get (RowAt.kp HI4.out hK (fun _ _ h => h)) hkl
                      have hat := all_take (take_gi hkl) (knownB C.owned)
                      rw [hall, Bool.true_and] at hat
                      have hxu : gi C.used k ∈ C.used := by unfold gi; rw [List.getElem?_eq_getElem hkl]; exact List.getElem_mem hkl
                      have hxr := HIR.out.use _ hxu
                      have hkn := knownB_iff HIR.out hxu
                      have HBad := Lib.hid (fun (h : knownB C.owned (gi C.used k) = false) => show C.used.all (knownB C.owned) = false by rw [List.all_eq_false]; exact ⟨_, hxu, by simp [h]⟩)
                      obtain ⟨x, hx⟩ : ∃ x, gi C.used k = x := ⟨_, rfl⟩
                      rw [hx] at hcell hat hkn hxr HBad
                      rw [hkn] at hat HBad
                      have HAt := Lib.hid hat
                      have x0 : 0 ≤ x := hxr.1
                      have x1 : x ≤ 100000000 := by have := hxr.2; have := HM.out; omega
                      have i0 : (0 : Int) ≤ (k : Int) := by omega
                      have i1 : (k : Int) < (n4 : Int) := by omega
                      clear hall hat hx hK hkl hkn hxr hxu
                      by_cases g1 : 1 < x
                      · have htm : x.tmod 2 = x % 2 := Int.tmod_eq_emod_of_nonneg x0
                        obtain ⟨r, hr⟩ : ∃ r, x % 2 = r := ⟨_, rfl⟩
                        have hr2 : 0 ≤ r ∧ r ≤ 1 := by omega
                        rw [hr] at htm HAt HBad
                        have hw : IntKind.i64.wrap (x - r) = x - r := IntWalk.i64_in _ (by omega)
                        have HHas := Lib.hid (fun q => ref02_HasQ a3 n3 cp3 q C.owned (x - r) wp hi HN3.out (by omega))
                        have d1 : decide (1 < x) = true := decide_eq_true g1
                        rw [d1] at HAt HBad
                        clear hi hr hr2
                        by_cases hin : x - r ∈ C.owned
                        · rw [decide_eq_true hin] at HHas HAt
                          clear hin g1
                          go_wp2_with fail
                          go_quiet ((go_at_call 31; exact Calls.quiet_of_same (HHas.out _)))
                          clear hw htm
                          go_wp2_with fail
                          go_roundw
                          case rel => exact ⟨k + 1, by go_num, by omega, HAt.out, HK.out.drewN _⟩
                          case measure => simp [intOf]; omega
                        · rw [decide_eq_false hin] at HHas HBad
                          obtain rfl : code = 9 := by have := HCk2.out; rw [if_pos (HBad.out rfl)] at this; exact this
                          clear hin g1
                          go_wp2_with fail
                          go_quiet ((go_at_call 31; exact Calls.quiet_of_same (HHas.out _)))
                          go_wp2_with fail
                          go_ret
                          exact ⟨rfl, HKa.out.trans (HK.out.drewN _) (fun _ _ h => h)⟩
                      · have d1 : decide (1 < x) = false := decide_eq_false g1
                        rw [d1] at HAt
                        clear hi g1
                        go_wp2_with fail
                        go_quiet (fail)
                        go_wp2_with fail
                        go_roundw
                        case rel => exact ⟨k + 1, by go_num, by omega, HAt.out, HK.out.drewN _⟩
                        case measure => simp [intOf]; omega
                    · have HAll := Lib.hid (show C.used.all (knownB C.owned) = true by rwa [List.take_of_length_le (by rw [HN4.out]; omega)] at hall)
                      have HCk3 := Lib.hid (show code = if (ordO C.gates).length < C.gates.length then 8 else 0 by have := HCk2.out; rw [if_neg (by rw [HAll.out]; simp)] at this; exact this)
                      obtain ⟨on_, hon⟩ : ∃ g, (ordO C.gates).length = g := ⟨_, rfl⟩
                      have hle : on_ ≤ gn_ := by rw [← HGN.out, ← hon]; exact (ordO_at C.gates).len
                      rw [HGN.out, hon] at HCk3
                      have hgm : gn_ ≤ 1000000 := by rw [← HGN.out]; exact HF.out.g
                      have HO := Lib.hid (show ∀ u, Kp (fun _ => False) w u → Calls Tryz.prog 32 #[.agg #[.int .i64 C.max, .slice V.ai C.ins.length V.ci, .slice V.al C.lats.length V.cl, .slice V.ao C.outs.length V.co, .slice V.ab C.bads.length V.cb, .slice V.ac C.cons.length V.cc, .slice V.ag gn_ V.cg, .slice V.ay V.ny V.cy, .string V.cm]] u fun e u' => (∃ a c, e = .returned (.slice a on_ c)) ∧ Kp (fun _ => False) u u' from fun u hu => by
                        have hor := (ref11_Order V C u (HA.out.kp hu) HF.out.g (fun i hi => by
                          have h1 := HIR.out.own _ (gate_own hi)
                          have h2 := HIR.out.use _ (gate_useA hi)
                          have h3 := HIR.out.use _ (gate_useB hi)
                          have := HM.out
                          omega)).mono (R' := fun e u' => (∃ a c, e = .returned (.slice a on_ c)) ∧ Kp (fun _ => False) u u') (by
                            rintro e u' ⟨v, rfl, hO, hK⟩
                            obtain ⟨a, c, e, -⟩ := hO.form
                            rw [nv_length, hon] at e
                            exact ⟨⟨a, c, by rw [e]⟩, hK⟩)
                        rw [HU.out] at hor
                        exact hor)
                      have HXu := Lib.hid (HC.out.kp hK (fun h => h))
                      have HK5 := Lib.hid (HKa.out.trans hK (fun _ _ h => h))
                      clear hon hall hK HCk2 HK
                      go_upto_region 30 with fail
                      obtain ⟨wy, rfl⟩ : ∃ wy : World, wy = wp := ⟨_, rfl⟩
                      go_region_held3 (fun u => u.cell? ⟨w.heap.size, 0, none⟩ = some (.int .i64 C.max) ∧ u.cell? ⟨w.heap.size, 1, none⟩ = some (.slice V.ai C.ins.length V.ci) ∧ u.cell? ⟨w.heap.size, 2, none⟩ = some (.slice V.al C.lats.length V.cl) ∧ u.cell? ⟨w.heap.size, 3, none⟩ = some (.slice V.ao C.outs.length V.co) ∧ u.cell? ⟨w.heap.size, 4, none⟩ = some (.slice V.ab C.bads.length V.cb) ∧ u.cell? ⟨w.heap.size, 5, none⟩ = some (.slice V.ac C.cons.length V.cc) ∧ u.cell? ⟨w.heap.size, 6, none⟩ = some (.slice V.ag gn_ V.cg) ∧ u.cell? ⟨w.heap.size, 7, none⟩ = some (.slice V.ay V.ny V.cy) ∧ u.cell? ⟨w.heap.size, 8, none⟩ = some (.string V.cm)) (with_reducible first | exact HXu.out.cells9 | exact HXu.out.drew.cells9 | exact HXb.out.cells9 | exact HXb.out.drew.cells9) (((with_reducible refine Calls.mono (HO.out _ (by first | exact HK5.out | exact HK5.out.drew)) ?_); rintro o u2 ⟨⟨a2, c2, rfl⟩, hK6⟩; have HXb := Lib.hid (by first | exact HXu.out.kp hK6 (fun h => h) | exact HXu.out.drew.kp hK6 (fun h => h)); have HKb := Lib.hid (by first | exact HK5.out.trans hK6 (fun _ _ h => h) | exact HK5.out.drew.trans hK6 (fun _ _ h => h)); clear hK6))
                      all_goals
                        by_cases hlt2 : on_ < gn_
                        · obtain rfl : code = 8 := by have := HCk3.out; rw [if_pos hlt2] at this; exact this
                          have dd : decide ((on_ : Int) < (gn_ : Int)) = true := decide_eq_true (by omega)
                          go_wp2_with fail
                          go_ret
                          exact ⟨rfl, by first | exact HKb.out | exact HKb.out.drew⟩
                        · obtain rfl : code = 0 := by have := HCk3.out; rw [if_neg hlt2] at this; exact this
                          have dd : decide ((on_ : Int) < (gn_ : Int)) = false := decide_eq_false (by omega)
                          go_wp2_with fail
                          go_ret
                          exact ⟨rfl, by first | exact HKb.out | exact HKb.out.drew⟩

end Go.Proofs.YtnoknecfdnjomaaGreat
