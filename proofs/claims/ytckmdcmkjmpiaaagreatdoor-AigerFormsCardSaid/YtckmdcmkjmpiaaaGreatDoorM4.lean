/-
  circ.uses: all literals that are used are handed over, up to the first that is refused. (Printed by mkuses.py.)
-/
import Derived.Test.YtckmdcmkjmpiaaaGreatDoorM1
import Derived.Test.YtckmdcmkjmpiaaaGreatDoorM3
import Derived.Shelf.Strings.Builder1
import Derived.Shelf.Strings.Builder2
import Derived.Shelf.Strings.OnBuilder
import Derived.Shelf.Small.Strs
import Derived.Shelf.Small.Wraps
import Derived.Shelf.Strconv.Atoi
import Derived.Shelf.Strconv.Itoa0
import Derived.Shelf.Strconv.Itoa1
import Derived.Shelf.LaysM
import Derived.Shelf.Strconv.Itoa2
import Derived.Shelf.Strconv.Itoa3
import Derived.Shelf.Strings.Search1
import Derived.Shelf.Strings.Prefix
import Derived.Ground.Names2Prog
import Derived.Shelf.Slices.Clone
import Derived.Test.YtckmdcmkjmpiaaaGreatDoorProg
import Derived.Lib.Builder
import Derived.Lib.AppendStr
import Derived.WalkKit
import Derived.WalkSmall
import Derived.Deep.RegionWith
import Derived.Test.YtckmdcmkjmpiaaaGreatDoorRows
import Derived.Deep.QuietTactic
import Derived.BigQuiet
import Derived.Lib.Join
import Derived.Recover
set_option linter.unusedVariables false
set_option linter.unusedSimpArgs false
namespace Go.Proofs.YtckmdcmkjmpiaaaGreatDoor
open Go.RowKit

theorem IntsAt.lt {w : World} {a : Option Addr} {l : List Int} (h : IntsAt w a l) (hl : l ≠ []) : ∀ p, a = some p → p.block < w.heap.size := by
  intro p hp
  obtain ⟨b, off, e, hc⟩ := h.get (j := 0) (by cases l with | nil => exact absurd rfl hl | cons x r => simp)
  rw [hp] at e
  simp only [Option.some.injEq] at e
  subst e
  exact World.block_lt_of_cell? w _ hc

/-- the values rs are slices that read the lists Ls, none of them in a block of X -/
def RowsAt (X : Nat → Prop) (u : World) (rs : List Value) (Ls : List (List Int)) : Prop :=
  rs.length = Ls.length ∧ ∀ (k : Nat) (r : Value) (l : List Int), rs[k]? = some r → Ls[k]? = some l → ∃ a c, r = .slice a l.length c ∧ l.length ≤ c ∧ c ≤ maxLen ∧ IntsAt u a l ∧ (l ≠ [] → ∀ p, a = some p → ¬ X p.block)

theorem RowsAt.kp {X S : Nat → Prop} {u u' : World} {rs : List Value} {Ls : List (List Int)} (h : RowsAt X u rs Ls) (k : Kp S u u') (hS : ∀ j, S j → X j) : RowsAt X u' rs Ls := by
  refine ⟨h.1, fun i r l hr hl => ?_⟩
  obtain ⟨a, c, e, h1, h2, h3, h4⟩ := h.2 i r l hr hl
  refine ⟨a, c, e, h1, h2, ?_, h4⟩
  by_cases hn : l = []
  · subst hn; exact RowAt.nil _ _
  · exact h3.kp k (fun p hp hs => h4 hn p hp (hS _ hs))

theorem RowsAt.mono {X X' : Nat → Prop} {u : World} {rs : List Value} {Ls : List (List Int)} (h : RowsAt X u rs Ls) (hX : ∀ j, j < u.heap.size → X' j → X j) : RowsAt X' u rs Ls := by
  refine ⟨h.1, fun i r l hr hl => ?_⟩
  obtain ⟨a, c, e, h1, h2, h3, h4⟩ := h.2 i r l hr hl
  exact ⟨a, c, e, h1, h2, h3, fun hn p hp hx => h4 hn p hp (hX _ (h3.lt hn p hp) hx)⟩

theorem RowsAt.snoc {X : Nat → Prop} {u : World} {rs : List Value} {Ls : List (List Int)} (h : RowsAt X u rs Ls) {a : Option Addr} {c : Nat} {l : List Int} (h1 : l.length ≤ c) (h2 : c ≤ maxLen) (h3 : IntsAt u a l) (h4 : ∀ p, a = some p → ¬ X p.block) : RowsAt X u (rs ++ [.slice a l.length c]) (Ls ++ [l]) := by
  refine ⟨by simp [h.1], fun k r x hr hx => ?_⟩
  by_cases hk : k < rs.length
  · rw [List.getElem?_append_left hk] at hr
    rw [List.getElem?_append_left (by rw [← h.1]; exact hk)] at hx
    exact h.2 k r x hr hx
  · rw [List.getElem?_append_right (by omega)] at hr
    rw [List.getElem?_append_right (by rw [← h.1]; omega)] at hx
    have e : k - rs.length = 0 := by
      have := (List.getElem?_eq_some_iff.1 hr).1
      simp at this; omega
    rw [e] at hr
    rw [← h.1, e] at hx
    simp at hr hx
    subst hr hx
    exact ⟨a, c, rfl, h1, h2, h3, fun _ => h4⟩

/-- the rows of used literals -/
def usedRows (C : Circ) : List (List Int) := [C.outs, C.bads, C.cons] ++ C.lats.map (fun x => [x.2.1]) ++ C.gates.map (fun g => [g.2.1, g.2.2])
theorem usedRows_flat (C : Circ) : (usedRows C).flatten = C.used := by
  unfold usedRows Circ.used
  rw [List.flatten_append, List.flatten_append]
  have h1 : ∀ L : List (Int × Int × Int), (L.map (fun x => [x.2.1])).flatten = L.map (fun x => x.2.1) := by
    intro L; induction L with
    | nil => rfl
    | cons a r ih => simp [ih]
  have h2 : ∀ L : List (Int × Int × Int), (L.map (fun g => [g.2.1, g.2.2])).flatten = L.flatMap (fun g => [g.2.1, g.2.2]) := fun L => rfl
  rw [h1, h2]
  simp
theorem usedRows_length (C : Circ) : (usedRows C).length = 3 + C.lats.length + C.gates.length := by
  unfold usedRows; simp; omega

def grow (L : List (List Int)) (k : Nat) : List Int := L[k]?.getD []
theorem grow_at {L : List (List Int)} {k : Nat} (h : k < L.length) : L[k]? = some (grow L k) := by unfold grow; rw [List.getElem?_eq_getElem h]; rfl
theorem take_grow {L : List (List Int)} {k : Nat} (h : k < L.length) : (L.take (k + 1)).flatten = (L.take k).flatten ++ grow L k := by
  rw [List.take_succ_eq_append_getElem h, List.flatten_append]
  unfold grow
  rw [List.getElem?_eq_getElem h]
  simp

theorem all_take_gi {l : List Int} {k : Nat} (h : k < l.length) (P : List Int) (f : Int → Bool) : (P ++ l.take (k + 1)).all f = ((P ++ l.take k).all f && f (gi l k)) := by
  rw [take_gi h, ← List.append_assoc, List.all_append]
  simp

theorem used_false {L : List (List Int)} {i k : Nat} (hi : i < L.length) {f : Int → Bool} {b : Bool} (h : (b && ((L.take i).flatten ++ (grow L i).take (k + 1)).all f) = false) : (b && L.flatten.all f) = false := by
  cases b with
  | false => rfl
  | true =>
    rw [Bool.true_and] at h ⊢
    rw [List.all_eq_false] at h ⊢
    obtain ⟨x, hx, hf⟩ := h
    refine ⟨x, ?_, hf⟩
    have hL := List.take_append_drop (i + 1) L
    rw [← hL, List.flatten_append]
    refine List.mem_append.2 (.inl ?_)
    rw [take_grow hi]
    rcases List.mem_append.1 hx with h | h
    · exact List.mem_append.2 (.inl h)
    · exact List.mem_append.2 (.inr (List.mem_of_mem_take h))

theorem mem_used {L : List (List Int)} {i k : Nat} (hi : i < L.length) (hk : k < (grow L i).length) : gi (grow L i) k ∈ L.flatten := by
  refine List.mem_flatten.2 ⟨grow L i, List.mem_of_getElem? (grow_at hi), ?_⟩
  refine List.mem_of_getElem? (i := k) ?_
  unfold gi
  rw [List.getElem?_eq_getElem hk]; rfl

theorem three_blk (w : World) (c0 c1 c2 : Array Value) (t0 t1 t2 : TypeId) : Blk (((w.alloc (.cells c0 t0)).alloc (.cells c1 t1)).alloc (.cells c2 t2)) (w.heap.size + 1) c1 t1 ∧ Blk (((w.alloc (.cells c0 t0)).alloc (.cells c1 t1)).alloc (.cells c2 t2)) (w.heap.size + 2) c2 t2 := by
  refine ⟨(two_blk w c0 c1 t0 t1).alloc _, ?_⟩
  have := Blk.new ((w.alloc (.cells c0 t0)).alloc (.cells c1 t1)) c2 t2
  simpa using this

theorem ints_blk {w : World} {b : Nat} {l : List Int} {t : TypeId} (h : Blk w b (l.map (Value.int .i64)).toArray t) : IntsAt w (some ⟨b, 0, none⟩) l :=
  h.rowAt (off := 0) (n := l.length) (by simp; exact List.take_of_length_le (by simp))

/-- the literals that are used are gathered -/
def Gather (V : CV) (C : Circ) (bo : Nat) (w : World) (Ls : List (List Int)) (v4 : Value) (wr : World) : Prop :=
  ∃ rs, Own wr w.heap.size 22 v4 rs ∧ RowsAt (fun j => j = bo ∨ v4.ownBlock = some j) wr rs Ls ∧ (∀ j, v4.ownBlock = some j → w.heap.size < j) ∧ Blk wr w.heap.size (cvals V C) 27 ∧ Kp (fun _ => False) w wr

theorem Gather.start (V : CV) (C : Circ) (bo : Nat) (w0 w wz : World) (hz : wz = (w.alloc (.cells (cvals V C) 27)).alloc (.cells #[.slice V.ao C.outs.length V.co, .slice V.ab C.bads.length V.cb, .slice V.ac C.cons.length V.cc] 22))
    (h0 : CAt w0 V C) (hk0 : Kp (fun _ => False) w0 w) (hbo : w0.heap.size ≤ bo) (hbw : bo < w.heap.size) :
    Gather V C bo w [C.outs, C.bads, C.cons] (.slice (some ⟨w.heap.size + 1, 0, none⟩) 3 3) wz := by
  have hK : Kp (fun _ => False) w wz := by rw [hz]; exact ((Kp.refl _ w).alloc _).alloc _
  have hB : Blk wz (w.heap.size + 1) #[.slice V.ao C.outs.length V.co, .slice V.ab C.bads.length V.cb, .slice V.ac C.cons.length V.cc] 22 := by rw [hz]; exact two_blk _ _ _ _ _
  have hC : Blk wz w.heap.size (cvals V C) 27 := by rw [hz]; exact (Blk.new w _ _).alloc _
  have hz := h0.kp (hk0.trans hK (fun _ _ h => h))
  have hs := hk0.size
  have far : ∀ {a : Option Addr} {l : List Int}, IntsAt w0 a l → l ≠ [] → ∀ p, a = some p → ¬ (p.block = bo ∨ (Value.slice (some ⟨w.heap.size + 1, 0, none⟩) 3 3).ownBlock = some p.block) := by
    intro a l hi hl p hp
    have := hi.lt hl p hp
    simp [Value.ownBlock]
    omega
  refine ⟨[.slice V.ao C.outs.length V.co, .slice V.ab C.bads.length V.cb, .slice V.ac C.cons.length V.cc], Own.lit (cs := [.slice V.ao C.outs.length V.co, .slice V.ab C.bads.length V.cb, .slice V.ac C.cons.length V.cc]) hB (by omega) (by simp [maxLen]), ⟨rfl, fun k r l hr hl => ?_⟩, fun j hj => by simp [Value.ownBlock] at hj; omega, hC, hK⟩
  match k, hr, hl with
  | 0, hr, hl => simp at hr hl; subst hr hl; exact ⟨_, _, rfl, h0.fo.le, h0.fo.most, hz.o, far h0.o⟩
  | 1, hr, hl => simp at hr hl; subst hr hl; exact ⟨_, _, rfl, h0.fb.le, h0.fb.most, hz.b, far h0.b⟩
  | 2, hr, hl => simp at hr hl; subst hr hl; exact ⟨_, _, rfl, h0.fc.le, h0.fc.most, hz.c, far h0.c⟩
  | n + 3, hr, hl => simp at hr

theorem Gather.kp {V : CV} {C : Circ} {bo : Nat} {w wr wr' : World} {Ls : List (List Int)} {v4 : Value} (h : Gather V C bo w Ls v4 wr) (k : Kp (fun _ => False) wr wr') : Gather V C bo w Ls v4 wr' := by
  obtain ⟨rs, h1, h2, h3, h4, h5⟩ := h
  exact ⟨rs, h1.kp k (fun _ _ h => h), h2.kp k (fun _ h => h.elim), h3, h4.kp k (fun h => h), h5.trans k (fun _ _ h => h)⟩

/-- one more row of literals -/
theorem Gather.more {V : CV} {C : Circ} {bo : Nat} {w wr wr' w2 : World} {Ls : List (List Int)} {v4 v' : Value} {rs : List Value} (hbo : bo < w.heap.size) (h1 : Own wr w.heap.size 22 v4 rs) (h2 : RowsAt (fun j => j = bo ∨ v4.ownBlock = some j) wr rs Ls) (h3 : ∀ j, v4.ownBlock = some j → w.heap.size < j) (h4 : Blk wr w.heap.size (cvals V C) 27) (h5 : Kp (fun _ => False) w wr)
    (hK : Kp (fun _ => False) wr wr') {g n : Nat} {l : List Int} (hg : wr.heap.size ≤ g) (hB : Blk wr' g (l.map (Value.int .i64)).toArray 3) (hn : l.length = n) (hl : n ≤ maxLen)
    (hO : Own w2 w.heap.size 22 v' (rs ++ [.slice (some ⟨g, 0, none⟩) n n])) (hgr : wr'.grownBy w2 v4.ownBlock) (hat : v'.ownBlock = v4.ownBlock ∨ v'.ownBlock = some wr'.heap.size) : Gather V C bo w (Ls ++ [l]) v' w2 := by
  subst hn
  have hKg : Kp (fun j => v4.ownBlock = some j) wr' w2 := (Kp.refl _ _).grown hgr (fun j hj _ => hj)
  have hKw : Kp (fun _ => False) w w2 := (h5.trans hK (fun _ _ h => h)).grown hgr (fun j hj hlt => by have := h3 j hj; omega)
  have hsz := h5.size
  have hsz' := hK.size
  have hlt := hB.lt
  have hb' : Blk w2 g (l.map (Value.int .i64)).toArray 3 := hB.kp hKg (fun e => by have := (h1.lt g e).2; omega)
  have h2' : RowsAt (fun j => j = bo ∨ v4.ownBlock = some j) wr' rs Ls := h2.kp hK (fun _ h => h.elim)
  have h2'' : RowsAt (fun j => j = bo ∨ v4.ownBlock = some j ∨ v'.ownBlock = some j) wr' rs Ls := h2'.mono (fun j hj hx => by
    rcases hx with e | e | e
    · exact .inl e
    · exact .inr e
    · rcases hat with e2 | e2
      · exact .inr (e2 ▸ e)
      · rw [e2] at e; simp at e; omega)
  have h2w : RowsAt (fun j => j = bo ∨ v4.ownBlock = some j ∨ v'.ownBlock = some j) w2 rs Ls := h2''.kp hKg (fun j h => .inr (.inl h))
  have h2z : RowsAt (fun j => j = bo ∨ v'.ownBlock = some j) w2 rs Ls := h2w.mono (fun j _ h => by rcases h with e | e; exact .inl e; exact .inr (.inr e))
  refine ⟨_, hO, ?_, ?_, (h4.kp hK (fun h => h)).kp hKg (fun e => by have := h3 _ e; omega), hKw⟩
  · refine h2z.snoc (Nat.le_refl _) hl (ints_blk hb') (fun p hp => ?_)
    simp at hp
    subst hp
    intro h
    rcases h with e | e
    · have : g = bo := e
      omega
    · rcases hat with e2 | e2
      · rw [e2] at e
        have : g < wr.heap.size := (h1.lt g e).2
        omega
      · rw [e2] at e
        have : wr'.heap.size = g := by simpa using e
        omega
  · intro j hj
    rcases hat with e | e
    · exact h3 j (e ▸ hj)
    · rw [e] at hj; simp at hj; omega

set_option maxRecDepth 100000 in
set_option maxHeartbeats 4000000 in
theorem circ_uses1 (p q : Value) (V : CV) (C : Circ) (bo : Nat) (f : Int → Bool) (I : World → Bool → Prop) (b0 : Bool) (w0 w : World) (h0 : CAt w0 V C) (hf : CFewI C) (hk0 : Kp (fun _ => False) w0 w) (hbo : w0.heap.size ≤ bo) (hbw : bo < w.heap.size)
    (hI : I w b0) (hIk : ∀ u u' b, Kp (fun _ => False) u u' → I u b → I u' b)
    (hY : ∀ u x b, x ∈ C.used → I u b → Calls Tryz.prog 40 #[.int .i64 x, p, q] u fun e u' => e = .returned (.bool (b && f x)) ∧ I u' (b && f x) ∧ Kp (fun j => j = bo) u u') :
    Calls Tryz.prog 39 #[.agg (cvals V C), .func (Fn.func 40) #[] #[p, q]] w fun e w' => e = .returned (.tuple #[]) ∧ I w' (b0 && C.used.all f) ∧ Kp (fun j => j = bo) w w' := by
  obtain ⟨wz, hwz⟩ : ∃ wz : World, wz = (w.alloc (.cells (cvals V C) 27)).alloc (.cells #[.slice V.ao C.outs.length V.co, .slice V.ab C.bads.length V.cb, .slice V.ac C.cons.length V.cc] 22) := ⟨_, rfl⟩
  have HG := Lib.hid (Gather.start V C bo w0 w wz hwz h0 hk0 hbo hbw)
  have HC1 := Lib.hid (Blk.new w (cvals V C) 27)
  have HS := Lib.hid (show wz.heap.size = w.heap.size + 2 by rw [hwz]; simp)
  have HZ := Lib.hid hwz
  have HA := Lib.hid h0
  have HF := Lib.hid hf
  have HK0 := Lib.hid hk0
  have HBO := Lib.hid (And.intro hbo hbw)
  have HII := Lib.hid (And.intro hI (And.intro hIk hY))
  have HI := Lib.hid (show (Tryz.prog.info? 22).map (fun i => (i.zero, i.size, i.bytes)) = some (some (.slice none 0 0), 1, 24) by kernel_rfl)
  have hl := (h0.fl.le63).1
  have hg := (h0.fg.le63).1
  clear hwz h0 hf hk0 hbo hbw hI hIk hY
  go_enter Tryz.func39, Tryz.ntmps39
  go_upto_region 1 with fail
  obtain ⟨d0, d1, d2, d3, d4, d5, d6, d7, d8⟩ := HC1.out.cells9
  go_upto_region 2 with fail
  rw [← HZ.out]
  clear d0 d1 d2 d3 d4 d5 d6 d7 d8 HC1
  have hG := HG.out
  obtain ⟨rs0, -, -, -, hB0, -⟩ := hG
  have c2 := hB0.cell (i := 2) (v := .slice V.al C.lats.length V.cl) rfl
  clear hB0
  go_wp2_with fail
  go_loopw [4, 23] (fun v4 v23 wr => ∃ k : Nat, v23 = .int .i64 k ∧ k ≤ C.lats.length ∧ Gather V C bo w ([C.outs, C.bads, C.cons] ++ (C.lats.take k).map (fun x => [x.2.1])) v4 wr) (fun _ v23 _ => C.lats.length - (intOf v23).toNat)
  case atStart => exact ⟨0, rfl, by omega, by simpa using HG.out⟩
  case round =>
    obtain ⟨k, rfl, hk, hG⟩ := hrel
    clear c2 HG
    obtain ⟨wp, rfl⟩ : ∃ wp : World, wp = wr := ⟨_, rfl⟩
    have HG := Lib.hid hG
    by_cases hlt : k < C.lats.length
    · obtain ⟨rs, hO, hR, hB, hC, hK⟩ := hG
      have HSw := Lib.hid (show w.heap.size ≤ wp.heap.size from hK.size)
      have HRL := Lib.hid (show rs.length ≤ 3000000 by have := hR.1; have := HF.out.l; simp at this ⊢; rw [hR.1]; simp; omega)
      obtain ⟨b, off, ea, e0, e1, e2⟩ := tri_cells (HA.out.kp (HK0.out.trans hK (fun _ _ h => h))).l hlt
      have i0 : (0 : Int) ≤ (k : Int) := by omega
      have i1 : decide ((k : Int) < (C.lats.length : Int)) = true := decide_eq_true (by omega)
      obtain ⟨x0, hx0⟩ : ∃ x, (g3 C.lats k).1 = x := ⟨_, rfl⟩
      obtain ⟨x1, hx1⟩ : ∃ x, (g3 C.lats k).2.1 = x := ⟨_, rfl⟩
      obtain ⟨x2, hx2⟩ : ∃ x, (g3 C.lats k).2.2 = x := ⟨_, rfl⟩
      have HT := Lib.hid (take_g3 hlt)
      rw [hx0] at e0
      rw [hx1] at e1
      rw [hx2] at e2
      have HX := Lib.hid hx1
      have HEA := Lib.hid ea
      have i2 : (k : Int) < (C.lats.length : Int) := by omega
      clear hx0 hx1 hx2 ea
      have HNew := Lib.hid (three_blk wp #[.int .i64 x0, .int .i64 x1, .int .i64 x2] #[.int .i64 x1] #[.slice (some ⟨wp.heap.size + 1, 0, none⟩) 1 1] 59 3 22)
      have HOw := Lib.hid (((hO.alloc (.cells #[.int .i64 x0, .int .i64 x1, .int .i64 x2] 59)).alloc (.cells #[.int .i64 x1] 3)).alloc (.cells #[.slice (some ⟨wp.heap.size + 1, 0, none⟩) 1 1] 22))
      have HMore := Lib.hid (fun v' w2 hO2 hgr hat => Gather.more (v' := v') (w2 := w2) (g := wp.heap.size + 1) (n := 1) (l := [x1]) HBO.out.2 hO hR hB hC hK ((((Kp.refl _ wp).alloc (.cells #[.int .i64 x0, .int .i64 x1, .int .i64 x2] 59)).alloc (.cells #[.int .i64 x1] 3)).alloc (.cells #[.slice (some ⟨wp.heap.size + 1, 0, none⟩) 1 1] 22)) (by omega) HNew.out.1 rfl (by simp [maxLen]) hO2 hgr hat)
      clear hO hR hB hC hK
      rw [HEA.out]
      go_wp2_with (at_builtin; refine wpList_append1_at rfl _ _ 115 22 rfl Tryz.underlying115 HI.out rfl HOw.out rfl ⟨wp.heap.size + 2, 0, none⟩ (.slice (some ⟨wp.heap.size + 1, 0, none⟩) 1 1) rfl (HNew.out.2.cell rfl) rfl ?c1 ?c2 ?c3 ?_)
      case c1 => have := HRL.out; omega
      case c2 => have := HRL.out; unfold maxLen; omega
      case c3 => have := HSw.out; simp; omega
      intro v' w2 hO2 hg2 hat2
      have hrel : ∃ k' : Nat, Value.int .i64 ((k : Int) + 1) = .int .i64 k' ∧ k' ≤ C.lats.length ∧ Gather V C bo w ([C.outs, C.bads, C.cons] ++ (C.lats.take k').map (fun x => [x.2.1])) v' w2 := by
        refine ⟨k + 1, by go_num, by omega, ?_⟩
        rw [HT.out, List.map_append, ← List.append_assoc]
        have : [g3 C.lats k].map (fun x => [x.2.1]) = [[x1]] := by simp [HX.out]
        rw [this]
        exact HMore.out v' w2 hO2 hg2 (by simpa using hat2)
      have HR := Lib.hid hrel
      clear hrel hO2 hg2 hat2 HOw HNew HT HMore HG
      go_wp2_with fail
      go_roundw
      case rel => exact HR.out
      case measure => simp [intOf]; omega
    · have hk' : k = C.lats.length := by omega
      have HG1 : Hid (Gather V C bo w ([C.outs, C.bads, C.cons] ++ C.lats.map (fun x => [x.2.1])) u4 wp) := Lib.hid (by rwa [hk', List.take_length] at hG)
      obtain ⟨rs0, -, -, -, hB0, -⟩ := hG
      have c6 := hB0.cell (i := 6) (v := .slice V.ag C.gates.length V.cg) rfl
      clear HG hk hk' hB0
      go_wp2_with fail
      go_loopw [4, 37] (fun v4 v37 wr => ∃ k : Nat, v37 = .int .i64 k ∧ k ≤ C.gates.length ∧ Gather V C bo w ([C.outs, C.bads, C.cons] ++ C.lats.map (fun x => [x.2.1]) ++ (C.gates.take k).map (fun x => [x.2.1, x.2.2])) v4 wr) (fun _ v37 _ => C.gates.length - (intOf v37).toNat)
      case atStart => exact ⟨0, rfl, by omega, by simpa using HG1.out⟩
      case round =>
        obtain ⟨k, rfl, hk, hG⟩ := hrel
        clear c6 HG1 hlt
        obtain ⟨wq, rfl⟩ : ∃ wp : World, wp = wr := ⟨_, rfl⟩
        have HG := Lib.hid hG
        by_cases hlt : k < C.gates.length
        · obtain ⟨rs, hO, hR, hB, hC, hK⟩ := hG
          have HSw := Lib.hid (show w.heap.size ≤ wq.heap.size from hK.size)
          have HRL := Lib.hid (show rs.length ≤ 3000000 by have := hR.1; have := HF.out.l; have := HF.out.g; rw [hR.1]; simp; omega)
          obtain ⟨b, off, ea, e0, e1, e2⟩ := tri_cells (HA.out.kp (HK0.out.trans hK (fun _ _ h => h))).g hlt
          have i0 : (0 : Int) ≤ (k : Int) := by omega
          have i1 : decide ((k : Int) < (C.gates.length : Int)) = true := decide_eq_true (by omega)
          obtain ⟨x0, hx0⟩ : ∃ x, (g3 C.gates k).1 = x := ⟨_, rfl⟩
          obtain ⟨x1, hx1⟩ : ∃ x, (g3 C.gates k).2.1 = x := ⟨_, rfl⟩
          obtain ⟨x2, hx2⟩ : ∃ x, (g3 C.gates k).2.2 = x := ⟨_, rfl⟩
          have HT := Lib.hid (take_g3 hlt)
          rw [hx0] at e0
          rw [hx1] at e1
          rw [hx2] at e2
          have HX := Lib.hid (And.intro hx1 hx2)
          have HEA := Lib.hid ea
          have i2 : (k : Int) < (C.gates.length : Int) := by omega
          clear hx0 hx1 hx2 ea
          have HNew := Lib.hid (three_blk wq #[.int .i64 x0, .int .i64 x1, .int .i64 x2] #[.int .i64 x1, .int .i64 x2] #[.slice (some ⟨wq.heap.size + 1, 0, none⟩) 2 2] 61 3 22)
          have HOw := Lib.hid (((hO.alloc (.cells #[.int .i64 x0, .int .i64 x1, .int .i64 x2] 61)).alloc (.cells #[.int .i64 x1, .int .i64 x2] 3)).alloc (.cells #[.slice (some ⟨wq.heap.size + 1, 0, none⟩) 2 2] 22))
          have HMore := Lib.hid (fun v' w2 hO2 hgr hat => Gather.more (v' := v') (w2 := w2) (g := wq.heap.size + 1) (n := 2) (l := [x1, x2]) HBO.out.2 hO hR hB hC hK ((((Kp.refl _ wq).alloc (.cells #[.int .i64 x0, .int .i64 x1, .int .i64 x2] 61)).alloc (.cells #[.int .i64 x1, .int .i64 x2] 3)).alloc (.cells #[.slice (some ⟨wq.heap.size + 1, 0, none⟩) 2 2] 22)) (by omega) HNew.out.1 rfl (by simp [maxLen]) hO2 hgr hat)
          clear hO hR hB hC hK
          rw [HEA.out]
          go_wp2_with (at_builtin; refine wpList_append1_at rfl _ _ 115 22 rfl Tryz.underlying115 HI.out rfl HOw.out rfl ⟨wq.heap.size + 2, 0, none⟩ (.slice (some ⟨wq.heap.size + 1, 0, none⟩) 2 2) rfl (HNew.out.2.cell rfl) rfl ?d1 ?d2 ?d3 ?_)
          case d1 => have := HRL.out; omega
          case d2 => have := HRL.out; unfold maxLen; omega
          case d3 => have := HSw.out; simp; omega
          intro v' w2 hO2 hg2 hat2
          have hrel : ∃ k' : Nat, Value.int .i64 ((k : Int) + 1) = .int .i64 k' ∧ k' ≤ C.gates.length ∧ Gather V C bo w ([C.outs, C.bads, C.cons] ++ C.lats.map (fun x => [x.2.1]) ++ (C.gates.take k').map (fun x => [x.2.1, x.2.2])) v' w2 := by
            refine ⟨k + 1, by go_num, by omega, ?_⟩
            rw [HT.out, List.map_append, ← List.append_assoc]
            have : [g3 C.gates k].map (fun x => [x.2.1, x.2.2]) = [[x1, x2]] := by simp [HX.out.1, HX.out.2]
            rw [this]
            exact HMore.out v' w2 hO2 hg2 (by simpa using hat2)
          have HR := Lib.hid hrel
          clear hrel hO2 hg2 hat2 HOw HNew HT HMore HG
          go_wp2_with fail
          go_roundw
          case rel => exact HR.out
          case measure => simp [intOf]; omega
        · have hk' : k = C.gates.length := by omega
          have hG1 : Gather V C bo w (usedRows C) u4 wq := by rw [hk', List.take_length] at hG; exact hG
          obtain ⟨rs, hO, hR, hB, hC, hK⟩ := hG1
          obtain ⟨a4, c4, e4, hc4, hm4, hp4, -⟩ := hO.form
          have HO := Lib.hid hO
          have HR := Lib.hid hR
          have hln : rs.length = (usedRows C).length := hR.1
          rw [hln] at e4 hc4
          subst e4
          obtain ⟨n4, hn4⟩ : ∃ n, (usedRows C).length = n := ⟨_, rfl⟩
          have HN4 := Lib.hid hn4
          have HIw := Lib.hid (HII.out.2.1 _ _ _ hK HII.out.1)
          have HKw := Lib.hid hK
          have hn63 : n4 ≤ 9223372036854775807 := by rw [← hn4, usedRows_length]; have := HF.out.l; have := HF.out.g; omega
          have hB4 : ∀ j, (Value.slice a4 n4 c4).ownBlock = some j → j ≠ bo := fun j hj => by
            have := hB j (by rw [hn4]; exact hj)
            have := HBO.out.2
            omega
          have HB4 := Lib.hid hB4
          rw [hn4] at HO HR ⊢
          have HRW := Lib.hid (show ∀ u, Kp (fun j => j = bo) wq u → RowAt u a4 rs from fun u hu => by
            obtain ⟨a, c, e, -, -, hp, hr⟩ := HO.out.form
            simp only [Value.slice.injEq] at e
            obtain ⟨rfl, -, -⟩ := e
            refine hr.kp hu (fun p hp' hb => ?_)
            obtain ⟨g, rfl, -, -⟩ := hp p hp'
            subst hp'
            exact hB4 g rfl hb)
          have HRR := Lib.hid (show ∀ u, Kp (fun j => j = bo) wq u → RowsAt (fun j => j = bo) u rs (usedRows C) from fun u hu => (HR.out.mono (fun j _ h => .inl h)).kp hu (fun _ h => h))
          clear hG hk' hO hR hB hC hK hln hk hp4 hm4 hB4 hn4 hc4 HO HR HB4 HG HA
          go_wp2_with fail
          go_loopw [52] (fun v52 wr => ∃ i : Nat, v52 = .int .i64 i ∧ i ≤ n4 ∧ I wr (b0 && ((usedRows C).take i).flatten.all f) ∧ Kp (fun j => j = bo) wq wr) (fun v52 _ => n4 - (intOf v52).toNat)
          case atStart => exact ⟨0, rfl, by omega, by simpa using HIw.out, Kp.refl _ _⟩
          case round =>
            obtain ⟨i, rfl, hi, hI3, hK3⟩ := hrel
            obtain ⟨w3, rfl⟩ : ∃ w3 : World, w3 = wr := ⟨_, rfl⟩
            have HI3 := Lib.hid hI3
            have HK3 := Lib.hid hK3
            clear hI3 hK3 HIw
            by_cases hi4 : i < n4
            · have hiU : i < (usedRows C).length := by rw [HN4.out]; exact hi4
              obtain ⟨r, hr⟩ : ∃ r, rs[i]? = some r := ⟨_, List.getElem?_eq_getElem (by rw [(HRR.out _ HK3.out).1]; exact hiU)⟩
              obtain ⟨ai, ci, rfl, hci, hcm, hri, -⟩ := (HRR.out _ HK3.out).2 i r _ hr (grow_at hiU)
              obtain ⟨b, off, ea, hcell⟩ := HRW.out _ HK3.out i _ hr
              have HRI := Lib.hid (show ∀ u, Kp (fun j => j = bo) w3 u → IntsAt u ai (grow (usedRows C) i) from fun u hu => by
                obtain ⟨a2, c2, e2, -, -, h2, -⟩ := (HRR.out u (HK3.out.trans hu (fun _ _ h => h))).2 i _ _ hr (grow_at hiU)
                simp only [Value.slice.injEq] at e2
                rw [e2.1]; exact h2)
              have HIU := Lib.hid hiU
              obtain ⟨ni, hni⟩ : ∃ ni, (grow (usedRows C) i).length = ni := ⟨_, rfl⟩
              rw [hni] at hcell hci
              have HNI := Lib.hid hni
              have hn63i : ni ≤ 9223372036854775807 := by unfold maxLen at hcm; omega
              subst ea
              clear hr hri hci hcm hni hiU
              have i0 : (0 : Int) ≤ (i : Int) := by omega
              have i1 : (i : Int) < (n4 : Int) := by omega
              go_wp2_with fail
              go_loopw [58] (fun v58 w4 => ∃ k : Nat, v58 = .int .i64 k ∧ k ≤ ni ∧ I w4 (b0 && (((usedRows C).take i).flatten ++ (grow (usedRows C) i).take k).all f) ∧ Kp (fun j => j = bo) w3 w4) (fun v58 _ => ni - (intOf v58).toNat)
              case atStart => exact ⟨0, rfl, by omega, by simpa using HI3.out, Kp.refl _ _⟩
              case round =>
                obtain ⟨k, rfl, hk, hI4, hK4⟩ := hrel
                obtain ⟨w4, rfl⟩ : ∃ w4 : World, w4 = wr := ⟨_, rfl⟩
                have HI4 := Lib.hid hI4
                have HK4 := Lib.hid hK4
                clear hI4 hK4 hcell
                by_cases hkl : k < ni
                · obtain ⟨b, off, e, hcell⟩ := (HRI.out _ HK4.out).get (j := k) (by rw [HNI.out]; exact hkl)
                  have HMem := Lib.hid (show gi (grow (usedRows C) i) k ∈ C.used by rw [← usedRows_flat]; exact mem_used HIU.out (by rw [HNI.out]; exact hkl))
                  have HAll := Lib.hid (all_take_gi (l := grow (usedRows C) i) (k := k) (by rw [HNI.out]; exact hkl) (((usedRows C).take i).flatten) f)
                  have HUF := Lib.hid (used_false (L := usedRows C) (i := i) (k := k) HIU.out (f := f) (b := b0))
                  obtain ⟨x, hx⟩ : ∃ x, gi (grow (usedRows C) i) k = x := ⟨_, rfl⟩
                  rw [hx] at hcell HMem HAll
                  obtain ⟨bb, hbb⟩ : ∃ bb, (b0 && (((usedRows C).take i).flatten ++ (grow (usedRows C) i).take k).all f) = bb := ⟨_, rfl⟩
                  have HBB := Lib.hid hbb
                  rw [hbb] at HI4
                  obtain ⟨b5, hb5⟩ : ∃ b5, (bb && f x) = b5 := ⟨_, rfl⟩
                  have HYx := Lib.hid (HII.out.2.2 _ _ _ HMem.out HI4.out)
                  rw [hb5] at HYx
                  have HB5 := Lib.hid (show (b0 && (((usedRows C).take i).flatten ++ (grow (usedRows C) i).take (k + 1)).all f) = b5 by rw [HAll.out, ← Bool.and_assoc, hbb]; exact hb5)
                  have k0 : (0 : Int) ≤ (k : Int) := by omega
                  have k1 : (k : Int) < (ni : Int) := by omega
                  subst e
                  clear hx hbb hb5
                  go_wp2_with fail
                  refine HYx.out.mono ?_
                  rintro o w5 ⟨rfl, hI5, hK5⟩
                  have HI5 := Lib.hid hI5
                  have HK5 := Lib.hid (HK4.out.trans hK5 (fun _ _ h => h))
                  clear hI5 hK5 HYx
                  cases b5 with
                  | false =>
                    go_wp2_with fail
                    refine bodyPost_ret (results_none rfl _ _ _) rfl ?_
                    exact ⟨rfl, by rw [← usedRows_flat, HUF.out HB5.out]; exact HI5.out, (HKw.out.mono (fun _ _ h => h.elim)).trans (HK3.out.trans HK5.out (fun _ _ h => h)) (fun _ _ h => h)⟩
                  | true =>
                    go_wp2_with fail
                    go_roundw
                    case rel => exact ⟨k + 1, by go_num, by omega, by rw [HB5.out]; exact HI5.out, HK5.out⟩
                    case measure => simp [intOf]; omega
                · have HI4' := Lib.hid (show I w4 (b0 && ((usedRows C).take (i + 1)).flatten.all f) by
                    have h := HI4.out
                    rw [List.take_of_length_le (l := grow (usedRows C) i) (by rw [HNI.out]; omega)] at h
                    rwa [take_grow HIU.out])
                  go_wp2_with fail
                  go_roundw
                  case rel => exact ⟨i + 1, by go_num, by omega, HI4'.out, HK3.out.trans HK4.out (fun _ _ h => h)⟩
                  case measure => simp [intOf]; omega
            · have HI3' := Lib.hid (show I w3 (b0 && C.used.all f) by
                have h := HI3.out
                rw [List.take_of_length_le (by rw [HN4.out]; omega), usedRows_flat] at h
                exact h)
              go_wp2_with fail
              go_end0
              exact ⟨rfl, HI3'.out, (HKw.out.mono (fun _ _ h => h.elim)).trans HK3.out (fun _ _ h => h)⟩

set_option maxRecDepth 100000 in
set_option maxHeartbeats 4000000 in
theorem circ_uses2 (p q : Value) (V : CV) (C : Circ) (bo : Nat) (f : Int → Bool) (I : World → Bool → Prop) (b0 : Bool) (w0 w : World) (h0 : CAt w0 V C) (hf : CFewI C) (hk0 : Kp (fun _ => False) w0 w) (hbo : w0.heap.size ≤ bo) (hbw : bo < w.heap.size)
    (hI : I w b0) (hIk : ∀ u u' b, Kp (fun _ => False) u u' → I u b → I u' b)
    (hY : ∀ u x b, x ∈ C.used → I u b → Calls Tryz.prog 41 #[.int .i64 x, p, q] u fun e u' => e = .returned (.bool (b && f x)) ∧ I u' (b && f x) ∧ Kp (fun j => j = bo) u u') :
    Calls Tryz.prog 39 #[.agg (cvals V C), .func (Fn.func 41) #[] #[p, q]] w fun e w' => e = .returned (.tuple #[]) ∧ I w' (b0 && C.used.all f) ∧ Kp (fun j => j = bo) w w' := by
  obtain ⟨wz, hwz⟩ : ∃ wz : World, wz = (w.alloc (.cells (cvals V C) 27)).alloc (.cells #[.slice V.ao C.outs.length V.co, .slice V.ab C.bads.length V.cb, .slice V.ac C.cons.length V.cc] 22) := ⟨_, rfl⟩
  have HG := Lib.hid (Gather.start V C bo w0 w wz hwz h0 hk0 hbo hbw)
  have HC1 := Lib.hid (Blk.new w (cvals V C) 27)
  have HS := Lib.hid (show wz.heap.size = w.heap.size + 2 by rw [hwz]; simp)
  have HZ := Lib.hid hwz
  have HA := Lib.hid h0
  have HF := Lib.hid hf
  have HK0 := Lib.hid hk0
  have HBO := Lib.hid (And.intro hbo hbw)
  have HII := Lib.hid (And.intro hI (And.intro hIk hY))
  have HI := Lib.hid (show (Tryz.prog.info? 22).map (fun i => (i.zero, i.size, i.bytes)) = some (some (.slice none 0 0), 1, 24) by kernel_rfl)
  have hl := (h0.fl.le63).1
  have hg := (h0.fg.le63).1
  clear hwz h0 hf hk0 hbo hbw hI hIk hY
  go_enter Tryz.func39, Tryz.ntmps39
  go_upto_region 1 with fail
  obtain ⟨d0, d1, d2, d3, d4, d5, d6, d7, d8⟩ := HC1.out.cells9
  go_upto_region 2 with fail
  rw [← HZ.out]
  clear d0 d1 d2 d3 d4 d5 d6 d7 d8 HC1
  have hG := HG.out
  obtain ⟨rs0, -, -, -, hB0, -⟩ := hG
  have c2 := hB0.cell (i := 2) (v := .slice V.al C.lats.length V.cl) rfl
  clear hB0
  go_wp2_with fail
  go_loopw [4, 23] (fun v4 v23 wr => ∃ k : Nat, v23 = .int .i64 k ∧ k ≤ C.lats.length ∧ Gather V C bo w ([C.outs, C.bads, C.cons] ++ (C.lats.take k).map (fun x => [x.2.1])) v4 wr) (fun _ v23 _ => C.lats.length - (intOf v23).toNat)
  case atStart => exact ⟨0, rfl, by omega, by simpa using HG.out⟩
  case round =>
    obtain ⟨k, rfl, hk, hG⟩ := hrel
    clear c2 HG
    obtain ⟨wp, rfl⟩ : ∃ wp : World, wp = wr := ⟨_, rfl⟩
    have HG := Lib.hid hG
    by_cases hlt : k < C.lats.length
    · obtain ⟨rs, hO, hR, hB, hC, hK⟩ := hG
      have HSw := Lib.hid (show w.heap.size ≤ wp.heap.size from hK.size)
      have HRL := Lib.hid (show rs.length ≤ 3000000 by have := hR.1; have := HF.out.l; simp at this ⊢; rw [hR.1]; simp; omega)
      obtain ⟨b, off, ea, e0, e1, e2⟩ := tri_cells (HA.out.kp (HK0.out.trans hK (fun _ _ h => h))).l hlt
      have i0 : (0 : Int) ≤ (k : Int) := by omega
      have i1 : decide ((k : Int) < (C.lats.length : Int)) = true := decide_eq_true (by omega)
      obtain ⟨x0, hx0⟩ : ∃ x, (g3 C.lats k).1 = x := ⟨_, rfl⟩
      obtain ⟨x1, hx1⟩ : ∃ x, (g3 C.lats k).2.1 = x := ⟨_, rfl⟩
      obtain ⟨x2, hx2⟩ : ∃ x, (g3 C.lats k).2.2 = x := ⟨_, rfl⟩
      have HT := Lib.hid (take_g3 hlt)
      rw [hx0] at e0
      rw [hx1] at e1
      rw [hx2] at e2
      have HX := Lib.hid hx1
      have HEA := Lib.hid ea
      have i2 : (k : Int) < (C.lats.length : Int) := by omega
      clear hx0 hx1 hx2 ea
      have HNew := Lib.hid (three_blk wp #[.int .i64 x0, .int .i64 x1, .int .i64 x2] #[.int .i64 x1] #[.slice (some ⟨wp.heap.size + 1, 0, none⟩) 1 1] 59 3 22)
      have HOw := Lib.hid (((hO.alloc (.cells #[.int .i64 x0, .int .i64 x1, .int .i64 x2] 59)).alloc (.cells #[.int .i64 x1] 3)).alloc (.cells #[.slice (some ⟨wp.heap.size + 1, 0, none⟩) 1 1] 22))
      have HMore := Lib.hid (fun v' w2 hO2 hgr hat => Gather.more (v' := v') (w2 := w2) (g := wp.heap.size + 1) (n := 1) (l := [x1]) HBO.out.2 hO hR hB hC hK ((((Kp.refl _ wp).alloc (.cells #[.int .i64 x0, .int .i64 x1, .int .i64 x2] 59)).alloc (.cells #[.int .i64 x1] 3)).alloc (.cells #[.slice (some ⟨wp.heap.size + 1, 0, none⟩) 1 1] 22)) (by omega) HNew.out.1 rfl (by simp [maxLen]) hO2 hgr hat)
      clear hO hR hB hC hK
      rw [HEA.out]
      go_wp2_with (at_builtin; refine wpList_append1_at rfl _ _ 115 22 rfl Tryz.underlying115 HI.out rfl HOw.out rfl ⟨wp.heap.size + 2, 0, none⟩ (.slice (some ⟨wp.heap.size + 1, 0, none⟩) 1 1) rfl (HNew.out.2.cell rfl) rfl ?c1 ?c2 ?c3 ?_)
      case c1 => have := HRL.out; omega
      case c2 => have := HRL.out; unfold maxLen; omega
      case c3 => have := HSw.out; simp; omega
      intro v' w2 hO2 hg2 hat2
      have hrel : ∃ k' : Nat, Value.int .i64 ((k : Int) + 1) = .int .i64 k' ∧ k' ≤ C.lats.length ∧ Gather V C bo w ([C.outs, C.bads, C.cons] ++ (C.lats.take k').map (fun x => [x.2.1])) v' w2 := by
        refine ⟨k + 1, by go_num, by omega, ?_⟩
        rw [HT.out, List.map_append, ← List.append_assoc]
        have : [g3 C.lats k].map (fun x => [x.2.1]) = [[x1]] := by simp [HX.out]
        rw [this]
        exact HMore.out v' w2 hO2 hg2 (by simpa using hat2)
      have HR := Lib.hid hrel
      clear hrel hO2 hg2 hat2 HOw HNew HT HMore HG
      go_wp2_with fail
      go_roundw
      case rel => exact HR.out
      case measure => simp [intOf]; omega
    · have hk' : k = C.lats.length := by omega
      have HG1 : Hid (Gather V C bo w ([C.outs, C.bads, C.cons] ++ C.lats.map (fun x => [x.2.1])) u4 wp) := Lib.hid (by rwa [hk', List.take_length] at hG)
      obtain ⟨rs0, -, -, -, hB0, -⟩ := hG
      have c6 := hB0.cell (i := 6) (v := .slice V.ag C.gates.length V.cg) rfl
      clear HG hk hk' hB0
      go_wp2_with fail
      go_loopw [4, 37] (fun v4 v37 wr => ∃ k : Nat, v37 = .int .i64 k ∧ k ≤ C.gates.length ∧ Gather V C bo w ([C.outs, C.bads, C.cons] ++ C.lats.map (fun x => [x.2.1]) ++ (C.gates.take k).map (fun x => [x.2.1, x.2.2])) v4 wr) (fun _ v37 _ => C.gates.length - (intOf v37).toNat)
      case atStart => exact ⟨0, rfl, by omega, by simpa using HG1.out⟩
      case round =>
        obtain ⟨k, rfl, hk, hG⟩ := hrel
        clear c6 HG1 hlt
        obtain ⟨wq, rfl⟩ : ∃ wp : World, wp = wr := ⟨_, rfl⟩
        have HG := Lib.hid hG
        by_cases hlt : k < C.gates.length
        · obtain ⟨rs, hO, hR, hB, hC, hK⟩ := hG
          have HSw := Lib.hid (show w.heap.size ≤ wq.heap.size from hK.size)
          have HRL := Lib.hid (show rs.length ≤ 3000000 by have := hR.1; have := HF.out.l; have := HF.out.g; rw [hR.1]; simp; omega)
          obtain ⟨b, off, ea, e0, e1, e2⟩ := tri_cells (HA.out.kp (HK0.out.trans hK (fun _ _ h => h))).g hlt
          have i0 : (0 : Int) ≤ (k : Int) := by omega
          have i1 : decide ((k : Int) < (C.gates.length : Int)) = true := decide_eq_true (by omega)
          obtain ⟨x0, hx0⟩ : ∃ x, (g3 C.gates k).1 = x := ⟨_, rfl⟩
          obtain ⟨x1, hx1⟩ : ∃ x, (g3 C.gates k).2.1 = x := ⟨_, rfl⟩
          obtain ⟨x2, hx2⟩ : ∃ x, (g3 C.gates k).2.2 = x := ⟨_, rfl⟩
          have HT := Lib.hid (take_g3 hlt)
          rw [hx0] at e0
          rw [hx1] at e1
          rw [hx2] at e2
          have HX := Lib.hid (And.intro hx1 hx2)
          have HEA := Lib.hid ea
          have i2 : (k : Int) < (C.gates.length : Int) := by omega
          clear hx0 hx1 hx2 ea
          have HNew := Lib.hid (three_blk wq #[.int .i64 x0, .int .i64 x1, .int .i64 x2] #[.int .i64 x1, .int .i64 x2] #[.slice (some ⟨wq.heap.size + 1, 0, none⟩) 2 2] 61 3 22)
          have HOw := Lib.hid (((hO.alloc (.cells #[.int .i64 x0, .int .i64 x1, .int .i64 x2] 61)).alloc (.cells #[.int .i64 x1, .int .i64 x2] 3)).alloc (.cells #[.slice (some ⟨wq.heap.size + 1, 0, none⟩) 2 2] 22))
          have HMore := Lib.hid (fun v' w2 hO2 hgr hat => Gather.more (v' := v') (w2 := w2) (g := wq.heap.size + 1) (n := 2) (l := [x1, x2]) HBO.out.2 hO hR hB hC hK ((((Kp.refl _ wq).alloc (.cells #[.int .i64 x0, .int .i64 x1, .int .i64 x2] 61)).alloc (.cells #[.int .i64 x1, .int .i64 x2] 3)).alloc (.cells #[.slice (some ⟨wq.heap.size + 1, 0, none⟩) 2 2] 22)) (by omega) HNew.out.1 rfl (by simp [maxLen]) hO2 hgr hat)
          clear hO hR hB hC hK
          rw [HEA.out]
          go_wp2_with (at_builtin; refine wpList_append1_at rfl _ _ 115 22 rfl Tryz.underlying115 HI.out rfl HOw.out rfl ⟨wq.heap.size + 2, 0, none⟩ (.slice (some ⟨wq.heap.size + 1, 0, none⟩) 2 2) rfl (HNew.out.2.cell rfl) rfl ?d1 ?d2 ?d3 ?_)
          case d1 => have := HRL.out; omega
          case d2 => have := HRL.out; unfold maxLen; omega
          case d3 => have := HSw.out; simp; omega
          intro v' w2 hO2 hg2 hat2
          have hrel : ∃ k' : Nat, Value.int .i64 ((k : Int) + 1) = .int .i64 k' ∧ k' ≤ C.gates.length ∧ Gather V C bo w ([C.outs, C.bads, C.cons] ++ C.lats.map (fun x => [x.2.1]) ++ (C.gates.take k').map (fun x => [x.2.1, x.2.2])) v' w2 := by
            refine ⟨k + 1, by go_num, by omega, ?_⟩
            rw [HT.out, List.map_append, ← List.append_assoc]
            have : [g3 C.gates k].map (fun x => [x.2.1, x.2.2]) = [[x1, x2]] := by simp [HX.out.1, HX.out.2]
            rw [this]
            exact HMore.out v' w2 hO2 hg2 (by simpa using hat2)
          have HR := Lib.hid hrel
          clear hrel hO2 hg2 hat2 HOw HNew HT HMore HG
          go_wp2_with fail
          go_roundw
          case rel => exact HR.out
          case measure => simp [intOf]; omega
        · have hk' : k = C.gates.length := by omega
          have hG1 : Gather V C bo w (usedRows C) u4 wq := by rw [hk', List.take_length] at hG; exact hG
          obtain ⟨rs, hO, hR, hB, hC, hK⟩ := hG1
          obtain ⟨a4, c4, e4, hc4, hm4, hp4, -⟩ := hO.form
          have HO := Lib.hid hO
          have HR := Lib.hid hR
          have hln : rs.length = (usedRows C).length := hR.1
          rw [hln] at e4 hc4
          subst e4
          obtain ⟨n4, hn4⟩ : ∃ n, (usedRows C).length = n := ⟨_, rfl⟩
          have HN4 := Lib.hid hn4
          have HIw := Lib.hid (HII.out.2.1 _ _ _ hK HII.out.1)
          have HKw := Lib.hid hK
          have hn63 : n4 ≤ 9223372036854775807 := by rw [← hn4, usedRows_length]; have := HF.out.l; have := HF.out.g; omega
          have hB4 : ∀ j, (Value.slice a4 n4 c4).ownBlock = some j → j ≠ bo := fun j hj => by
            have := hB j (by rw [hn4]; exact hj)
            have := HBO.out.2
            omega
          have HB4 := Lib.hid hB4
          rw [hn4] at HO HR ⊢
          have HRW := Lib.hid (show ∀ u, Kp (fun j => j = bo) wq u → RowAt u a4 rs from fun u hu => by
            obtain ⟨a, c, e, -, -, hp, hr⟩ := HO.out.form
            simp only [Value.slice.injEq] at e
            obtain ⟨rfl, -, -⟩ := e
            refine hr.kp hu (fun p hp' hb => ?_)
            obtain ⟨g, rfl, -, -⟩ := hp p hp'
            subst hp'
            exact hB4 g rfl hb)
          have HRR := Lib.hid (show ∀ u, Kp (fun j => j = bo) wq u → RowsAt (fun j => j = bo) u rs (usedRows C) from fun u hu => (HR.out.mono (fun j _ h => .inl h)).kp hu (fun _ h => h))
          clear hG hk' hO hR hB hC hK hln hk hp4 hm4 hB4 hn4 hc4 HO HR HB4 HG HA
          go_wp2_with fail
          go_loopw [52] (fun v52 wr => ∃ i : Nat, v52 = .int .i64 i ∧ i ≤ n4 ∧ I wr (b0 && ((usedRows C).take i).flatten.all f) ∧ Kp (fun j => j = bo) wq wr) (fun v52 _ => n4 - (intOf v52).toNat)
          case atStart => exact ⟨0, rfl, by omega, by simpa using HIw.out, Kp.refl _ _⟩
          case round =>
            obtain ⟨i, rfl, hi, hI3, hK3⟩ := hrel
            obtain ⟨w3, rfl⟩ : ∃ w3 : World, w3 = wr := ⟨_, rfl⟩
            have HI3 := Lib.hid hI3
            have HK3 := Lib.hid hK3
            clear hI3 hK3 HIw
            by_cases hi4 : i < n4
            · have hiU : i < (usedRows C).length := by rw [HN4.out]; exact hi4
              obtain ⟨r, hr⟩ : ∃ r, rs[i]? = some r := ⟨_, List.getElem?_eq_getElem (by rw [(HRR.out _ HK3.out).1]; exact hiU)⟩
              obtain ⟨ai, ci, rfl, hci, hcm, hri, -⟩ := (HRR.out _ HK3.out).2 i r _ hr (grow_at hiU)
              obtain ⟨b, off, ea, hcell⟩ := HRW.out _ HK3.out i _ hr
              have HRI := Lib.hid (show ∀ u, Kp (fun j => j = bo) w3 u → IntsAt u ai (grow (usedRows C) i) from fun u hu => by
                obtain ⟨a2, c2, e2, -, -, h2, -⟩ := (HRR.out u (HK3.out.trans hu (fun _ _ h => h))).2 i _ _ hr (grow_at hiU)
                simp only [Value.slice.injEq] at e2
                rw [e2.1]; exact h2)
              have HIU := Lib.hid hiU
              obtain ⟨ni, hni⟩ : ∃ ni, (grow (usedRows C) i).length = ni := ⟨_, rfl⟩
              rw [hni] at hcell hci
              have HNI := Lib.hid hni
              have hn63i : ni ≤ 9223372036854775807 := by unfold maxLen at hcm; omega
              subst ea
              clear hr hri hci hcm hni hiU
              have i0 : (0 : Int) ≤ (i : Int) := by omega
              have i1 : (i : Int) < (n4 : Int) := by omega
              go_wp2_with fail
              go_loopw [58] (fun v58 w4 => ∃ k : Nat, v58 = .int .i64 k ∧ k ≤ ni ∧ I w4 (b0 && (((usedRows C).take i).flatten ++ (grow (usedRows C) i).take k).all f) ∧ Kp (fun j => j = bo) w3 w4) (fun v58 _ => ni - (intOf v58).toNat)
              case atStart => exact ⟨0, rfl, by omega, by simpa using HI3.out, Kp.refl _ _⟩
              case round =>
                obtain ⟨k, rfl, hk, hI4, hK4⟩ := hrel
                obtain ⟨w4, rfl⟩ : ∃ w4 : World, w4 = wr := ⟨_, rfl⟩
                have HI4 := Lib.hid hI4
                have HK4 := Lib.hid hK4
                clear hI4 hK4 hcell
                by_cases hkl : k < ni
                · obtain ⟨b, off, e, hcell⟩ := (HRI.out _ HK4.out).get (j := k) (by rw [HNI.out]; exact hkl)
                  have HMem := Lib.hid (show gi (grow (usedRows C) i) k ∈ C.used by rw [← usedRows_flat]; exact mem_used HIU.out (by rw [HNI.out]; exact hkl))
                  have HAll := Lib.hid (all_take_gi (l := grow (usedRows C) i) (k := k) (by rw [HNI.out]; exact hkl) (((usedRows C).take i).flatten) f)
                  have HUF := Lib.hid (used_false (L := usedRows C) (i := i) (k := k) HIU.out (f := f) (b := b0))
                  obtain ⟨x, hx⟩ : ∃ x, gi (grow (usedRows C) i) k = x := ⟨_, rfl⟩
                  rw [hx] at hcell HMem HAll
                  obtain ⟨bb, hbb⟩ : ∃ bb, (b0 && (((usedRows C).take i).flatten ++ (grow (usedRows C) i).take k).all f) = bb := ⟨_, rfl⟩
                  have HBB := Lib.hid hbb
                  rw [hbb] at HI4
                  obtain ⟨b5, hb5⟩ : ∃ b5, (bb && f x) = b5 := ⟨_, rfl⟩
                  have HYx := Lib.hid (HII.out.2.2 _ _ _ HMem.out HI4.out)
                  rw [hb5] at HYx
                  have HB5 := Lib.hid (show (b0 && (((usedRows C).take i).flatten ++ (grow (usedRows C) i).take (k + 1)).all f) = b5 by rw [HAll.out, ← Bool.and_assoc, hbb]; exact hb5)
                  have k0 : (0 : Int) ≤ (k : Int) := by omega
                  have k1 : (k : Int) < (ni : Int) := by omega
                  subst e
                  clear hx hbb hb5
                  go_wp2_with fail
                  refine HYx.out.mono ?_
                  rintro o w5 ⟨rfl, hI5, hK5⟩
                  have HI5 := Lib.hid hI5
                  have HK5 := Lib.hid (HK4.out.trans hK5 (fun _ _ h => h))
                  clear hI5 hK5 HYx
                  cases b5 with
                  | false =>
                    go_wp2_with fail
                    refine bodyPost_ret (results_none rfl _ _ _) rfl ?_
                    exact ⟨rfl, by rw [← usedRows_flat, HUF.out HB5.out]; exact HI5.out, (HKw.out.mono (fun _ _ h => h.elim)).trans (HK3.out.trans HK5.out (fun _ _ h => h)) (fun _ _ h => h)⟩
                  | true =>
                    go_wp2_with fail
                    go_roundw
                    case rel => exact ⟨k + 1, by go_num, by omega, by rw [HB5.out]; exact HI5.out, HK5.out⟩
                    case measure => simp [intOf]; omega
                · have HI4' := Lib.hid (show I w4 (b0 && ((usedRows C).take (i + 1)).flatten.all f) by
                    have h := HI4.out
                    rw [List.take_of_length_le (l := grow (usedRows C) i) (by rw [HNI.out]; omega)] at h
                    rwa [take_grow HIU.out])
                  go_wp2_with fail
                  go_roundw
                  case rel => exact ⟨i + 1, by go_num, by omega, HI4'.out, HK3.out.trans HK4.out (fun _ _ h => h)⟩
                  case measure => simp [intOf]; omega
            · have HI3' := Lib.hid (show I w3 (b0 && C.used.all f) by
                have h := HI3.out
                rw [List.take_of_length_le (by rw [HN4.out]; omega), usedRows_flat] at h
                exact h)
              go_wp2_with fail
              go_end0
              exact ⟨rfl, HI3'.out, (HKw.out.mono (fun _ _ h => h.elim)).trans HK3.out (fun _ _ h => h)⟩

end Go.Proofs.YtckmdcmkjmpiaaaGreatDoor

/-
  The closures of circ.Check.
-/
namespace Go.Proofs.YtckmdcmkjmpiaaaGreatDoor
open Go.RowKit

theorem check_f1 (bo bc : Nat) (V : CV) (C : Circ) (u : World) (x : Int) (b : Bool) (hO : Blk u bo #[.bool b] 4) (hC : Blk u bc (cvals V C) 27) (m0 : 0 ≤ C.max) (m1 : C.max ≤ 16777216) :
    Calls Tryz.prog 40 #[.int .i64 x, .pointer (some ⟨bo, 0, none⟩), .pointer (some ⟨bc, 0, none⟩)] u fun e u' => e = .returned (.bool (b && useB C.max x)) ∧ u' = u.setCell ⟨bo, 0, none⟩ (.bool (b && useB C.max x)) := by
  have o0 : u.cell? ⟨bo, 0, none⟩ = some (.bool b) := hO.cell rfl
  have fo := hO.free 0
  have c0 : u.cell? ⟨bc, 0, none⟩ = some (.int .i64 C.max) := hC.cell rfl
  clear hO hC
  obtain ⟨r, hr⟩ : ∃ r, (b && useB C.max x) = r := ⟨_, rfl⟩
  rw [hr]
  have HR := Lib.hid hr
  clear hr
  cases b with
  | false =>
    obtain rfl : r = false := by have := HR.out; simpa using this.symm
    go_enter Tryz.func40, Tryz.ntmps40
    go_wp2_with fail
    go_ret
    exact ⟨rfl, rfl⟩
  | true =>
    by_cases h1 : 0 ≤ x
    · by_cases h2 : x ≤ 2 * C.max + 1
      · obtain rfl : r = true := by have := HR.out; rw [← this]; simp [useB, h1, h2]
        go_enter Tryz.func40, Tryz.ntmps40
        go_wp2_with fail
        go_ret
        exact ⟨rfl, rfl⟩
      · obtain rfl : r = false := by have := HR.out; rw [← this]; simp [useB, h2]
        have d2 : decide (x ≤ 2 * C.max + 1) = false := decide_eq_false h2
        go_enter Tryz.func40, Tryz.ntmps40
        go_wp2_with fail
        go_ret
        exact ⟨rfl, rfl⟩
    · obtain rfl : r = false := by have := HR.out; rw [← this]; simp [useB, h1]
      have d1 : decide (0 ≤ x) = false := decide_eq_false h1
      go_enter Tryz.func40, Tryz.ntmps40
      go_wp2_with fail
      go_ret
      exact ⟨rfl, rfl⟩

theorem check_f2 (bo bh bm n : Nat) (F : Int → Bool) (u : World) (x : Int) (b : Bool) (hO : Blk u bo #[.bool b] 4) (hH : Blk u bh #[.map (some bm)] 89) (hM : IMB u bm n F) (x0 : 0 ≤ x) (x1 : x ≤ 100000000) :
    Calls Tryz.prog 41 #[.int .i64 x, .pointer (some ⟨bo, 0, none⟩), .pointer (some ⟨bh, 0, none⟩)] u fun e u' => e = .returned (.bool (b && F (x / 2))) ∧ u' = u.setCell ⟨bo, 0, none⟩ (.bool (b && F (x / 2))) := by
  have o0 : u.cell? ⟨bo, 0, none⟩ = some (.bool b) := hO.cell rfl
  have fo := hO.free 0
  have c0 : u.cell? ⟨bh, 0, none⟩ = some (.map (some bm)) := hH.cell rfl
  have hl := hM.look (x := x / 2) ⟨by omega, by omega⟩
  clear hO hH hM
  obtain ⟨f, hf⟩ : ∃ f, F (x / 2) = f := ⟨_, rfl⟩
  rw [hf] at hl ⊢
  clear hf
  cases b with
  | false =>
    go_enter Tryz.func41, Tryz.ntmps41
    go_wp2_with fail
    go_ret
    exact ⟨rfl, rfl⟩
  | true =>
    go_enter Tryz.func41, Tryz.ntmps41
    go_wp2_with fail
    go_ret
    exact ⟨rfl, rfl⟩

end Go.Proofs.YtckmdcmkjmpiaaaGreatDoor

/-
  circ.Check: what is wrong with any circuit. (Printed by mkcheck.py.)
-/
namespace Go.Proofs.YtckmdcmkjmpiaaaGreatDoor
open Go.RowKit

theorem and1 (n : Int) : bits .and .i64 n 1 = n % 2 := by
  have h1 : (BitVec.ofInt 64 1).toNat = 2 ^ 1 - 1 := by decide
  have key : (BitVec.ofInt 64 n &&& BitVec.ofInt 64 1).toNat = (n % ((2 ^ 64 : Nat) : Int)).toNat % 2 ^ 1 := by
    rw [BitVec.toNat_and, BitVec.toNat_ofInt, h1, Nat.and_two_pow_sub_one_eq_mod]
  show IntKind.i64.wrap ((BitVec.ofInt 64 n &&& BitVec.ofInt 64 1).toNat : Nat) = n % 2
  rw [key, IntKind.wrap_i64]
  omega

theorem Blk.bool {w : World} {b : Nat} {x : Bool} {t : TypeId} (h : Blk w b #[.bool x] t) (y : Bool) : Blk (w.setCell ⟨b, 0, none⟩ (.bool y)) b #[.bool y] t := by
  have := h.set_same 0 (.bool y)
  simpa using this

theorem all_take {α : Type} {l : List α} {k : Nat} {x : α} (h : l.take (k + 1) = l.take k ++ [x]) (f : α → Bool) : (l.take (k + 1)).all f = ((l.take k).all f && f x) := by
  rw [h, List.all_append]; simp

def hasF (own : List Int) (y : Int) : Bool := decide (y = 0) || own.any (fun z => decide (z / 2 = y))

theorem hasF_snoc (P : List Int) (x : Int) : (fun y => if y = x / 2 then true else hasF P y) = hasF (P ++ [x]) := by
  funext y
  unfold hasF
  rw [List.any_append]
  by_cases h : y = x / 2
  · subst h; simp
  · have : ¬ x / 2 = y := fun e => h e.symm
    simp [h, this]

theorem hasF_new {C : Circ} (hR : InRange C) {k : Nat} (hk : k < C.owned.length) : hasF (C.owned.take k) (gi C.owned k / 2) = decide (gi C.owned k ∈ C.owned.take k) := by
  have hx : gi C.owned k ∈ C.owned := by
    unfold gi; rw [List.getElem?_eq_getElem hk]; exact List.getElem_mem hk
  have h1 := hR.own _ hx
  unfold hasF
  rw [decide_eq_false (by omega), Bool.false_or, Bool.eq_iff_iff]
  simp only [List.any_eq_true, decide_eq_true_eq]
  constructor
  · rintro ⟨z, hz, e⟩
    have h2 := hR.own _ (List.mem_of_mem_take hz)
    have : z = gi C.owned k := by omega
    rw [← this]; exact hz
  · intro h; exact ⟨_, h, rfl⟩

theorem nodup_take {l : List Int} {k : Nat} (hk : k < l.length) (h : (l.take k).Nodup) (hm : gi l k ∉ l.take k) : (l.take (k + 1)).Nodup := by
  rw [take_gi hk, List.nodup_append]
  refine ⟨h, by simp, fun a ha b hb => ?_⟩
  simp at hb
  subst hb
  intro e
  subst e
  exact hm ha

theorem not_nodup {l : List Int} {k : Nat} (hk : k < l.length) (hm : gi l k ∈ l.take k) : ¬ l.Nodup := by
  intro h
  obtain ⟨j, hj⟩ := List.mem_iff_getElem?.1 hm
  have hjk : j < k := by
    have := (List.getElem?_eq_some_iff.1 hj).1
    simp at this; omega
  rw [List.getElem?_take, if_pos hjk] at hj
  have h2 : l[k]? = some (gi l k) := by unfold gi; rw [List.getElem?_eq_getElem hk]; rfl
  have := nodup_getElem h hj h2
  omega

theorem hasF_zero : (fun y => if y = 0 then true else false) = hasF [] := by
  funext y
  unfold hasF
  by_cases h : y = 0 <;> simp [h]

/-- how circ.Check's answer is laid open -/
theorem ck5 {C : Circ} (h : C.max < 0 ∨ 16777216 < C.max ∨ rangeB C = false) : ckCode C = 5 := by
  unfold ckCode
  by_cases h1 : C.max < 0 ∨ 16777216 < C.max
  · rw [if_pos h1]
  · rw [if_neg h1, if_pos]
    rcases h with h | h | h
    · exact absurd (.inl h) h1
    · exact absurd (.inr h) h1
    · exact h
theorem ckR {C : Circ} (h0 : 0 ≤ C.max) (h1 : C.max ≤ 16777216) (h : rangeB C = true) : ckCode C = if ¬ C.owned.Nodup then 7 else if C.used.all (knownB C.owned) = false then 9 else if (ordO C.gates).length < C.gates.length then 8 else 0 := by
  unfold ckCode
  rw [if_neg (by omega), if_neg (by simp [h])]

set_option maxRecDepth 100000 in
set_option maxHeartbeats 8000000 in
theorem circ_Chk (V : CV) (C : Circ) (w : World) (h : CAt w V C) (hf : CFewI C) :
    Calls Tryz.prog 16 #[.agg (cvals V C)] w fun e w' => e = .returned (.int .i64 (ckCode C)) ∧ Kp (fun _ => False) w w' := by
  obtain ⟨code, hcode⟩ : ∃ code, ckCode C = code := ⟨_, rfl⟩
  rw [hcode]
  have HCode := Lib.hid hcode
  clear hcode
  have HC0 := Lib.hid (Blk.new w (cvals V C) 27)
  have HK0 := Lib.hid ((Kp.refl (fun _ => False) w).alloc (.cells (cvals V C) 27))
  by_cases m0 : 0 ≤ C.max
  case neg =>
    have d1 : decide (C.max < 0) = true := decide_eq_true (by omega)
    obtain rfl : code = 5 := by rw [← HCode.out]; exact ck5 (.inl (by omega))
    have c0 := HC0.out.cell (i := 0) (v := .int .i64 C.max) rfl
    clear m0 h hf
    go_enter Tryz.func16, Tryz.ntmps16
    go_wp2_with fail
    go_ret
    exact ⟨rfl, HK0.out⟩
  have e1 : decide (C.max < 0) = false := decide_eq_false (by omega)
  by_cases m1 : C.max ≤ 16777216
  case neg =>
    have d1 : decide ((16777216 : Int) < C.max) = true := decide_eq_true (by omega)
    obtain rfl : code = 5 := by rw [← HCode.out]; exact ck5 (.inr (.inl (by omega)))
    have c0 := HC0.out.cell (i := 0) (v := .int .i64 C.max) rfl
    clear m1 h hf
    go_enter Tryz.func16, Tryz.ntmps16
    go_wp2_with fail
    go_ret
    exact ⟨rfl, HK0.out⟩
  have e2 : decide ((16777216 : Int) < C.max) = false := decide_eq_false (by omega)
  have HM := Lib.hid (And.intro m0 m1)
  have hl := (h.fl.le63).1
  have HA := Lib.hid h
  have HF := Lib.hid hf
  have HOl := Lib.hid (show C.owned.length ≤ 30000000 by have := hf.i; have := hf.l; have := hf.g; unfold Circ.owned; simp; omega)
  have HD := Lib.hid (fun u (hu : Kp (fun _ => False) w u) => circ_defined V C u (h.kp hu) hf)
  clear h hf
  obtain ⟨bc, hbc⟩ : ∃ bc, bc = w.heap.size := ⟨_, rfl⟩
  have HBc := Lib.hid hbc
  obtain ⟨d0, d1, d2, d3, d4, d5, d6, d7, d8⟩ := HC0.out.cells9
  go_enter Tryz.func16, Tryz.ntmps16
  go_wp2_with fail
  refine (HD.out _ HK0.out).mono ?_
  rintro e w1 ⟨v1, rfl, hO1, hK1⟩
  clear d0 d1 d2 d3 d4 d5 d6 d7 d8
  have hB1 := HC0.out.kp hK1 (fun h => h)
  have hK1' := HK0.out.trans hK1 (fun _ _ h => h)
  obtain ⟨a1, cp1, e1', hc1, hm1, -, -⟩ := hO1.form
  obtain ⟨n1, hn1⟩ : ∃ n, C.owned.length = n := ⟨_, rfl⟩
  rw [iv_length, hn1] at e1' hc1
  have hn63 : n1 ≤ 9223372036854775807 := by unfold maxLen at hm1; omega
  have HN1 := Lib.hid hn1
  obtain ⟨bo, hbo⟩ : ∃ bo, bo = w1.heap.size := ⟨_, rfl⟩
  obtain ⟨wo, hwo⟩ : ∃ wo : World, wo = w1.alloc (.cells #[.bool true] 4) := ⟨_, rfl⟩
  have HBo : Hid (Blk wo bo #[.bool true] 4) := Lib.hid (by rw [hwo, hbo]; exact Blk.new _ _ _)
  have HKo : Hid (Kp (fun _ => False) w wo) := Lib.hid (by rw [hwo]; exact hK1'.alloc _)
  have HBC : Hid (Blk wo bc (cvals V C) 27) := Lib.hid (by rw [hwo, hbc]; exact hB1.alloc _)
  have HNe : Hid (w.heap.size ≤ bc ∧ bc < bo ∧ bo < wo.heap.size) := Lib.hid ⟨by omega, by rw [hbc, hbo]; exact hB1.lt, HBo.out.lt⟩
  have HRW := Lib.hid (show ∀ u, Kp (fun j => j = bo) wo u → IntsAt u a1 C.owned from fun u hu => by
    have hO2 : Own wo (w.alloc (.cells (cvals V C) 27)).heap.size 3 v1 (iv C.owned) := by rw [hwo]; exact hO1.alloc _
    have hne : ∀ j, v1.ownBlock = some j → ¬ j = bo := fun j hj e => by have := (hO1.lt j hj).2; omega
    obtain ⟨a, c, e, -, -, -, hr⟩ := (hO2.kp hu hne).form
    rw [e1'] at e
    simp only [Value.slice.injEq] at e
    rw [e.1]; exact hr)
  subst e1'
  have hwo' := hwo.symm
  have hbo' := hbo.symm
  have hbc' := hbc.symm
  clear hbo hwo hbc hO1 hK1 hB1 hK1' hc1 hm1 hn1 HC0 HK0 e1 e2 HD
  go_upto_region 4 with fail
  try rw [hwo']
  try rw [hbo']
  try rw [hbc']
  clear hwo' hbo' hbc'
  have c0 := HBC.out.cell (i := 0) (v := .int .i64 C.max) rfl
  go_wp2_with fail
  go_loopw [24] (fun v24 wr => ∃ k : Nat, v24 = .int .i64 k ∧ k ≤ n1 ∧ Blk wr bo #[.bool ((C.owned.take k).all (ownB C.max))] 4 ∧ Kp (fun j => j = bo) wo wr) (fun v24 _ => n1 - (intOf v24).toNat)
  case atStart => exact ⟨0, rfl, by omega, by simpa using HBo.out, Kp.refl _ _⟩
  case round =>
    obtain ⟨k, rfl, hk, hB, hK⟩ := hrel
    clear c0 HBo
    obtain ⟨wp, rfl⟩ : ∃ wp : World, wp = wr := ⟨_, rfl⟩
    have HK := Lib.hid hK
    obtain ⟨b, hb⟩ : ∃ b, (C.owned.take k).all (ownB C.max) = b := ⟨_, rfl⟩
    rw [hb] at hB
    by_cases hlt : k < n1
    · obtain ⟨bl, off, rfl, hcell⟩ := (HRW.out _ hK).get (j := k) (by rw [HN1.out]; exact hlt)
      obtain ⟨x, hx⟩ : ∃ x, gi C.owned k = x := ⟨_, rfl⟩
      rw [hx] at hcell
      have hall := all_take (take_gi (L := C.owned) (k := k) (by rw [HN1.out]; exact hlt)) (ownB C.max)
      rw [hb, hx] at hall
      have c0 := (HBC.out.kp hK (fun e => by have := HNe.out; omega)).cell (i := 0) (v := .int .i64 C.max) rfl
      have o0 : wp.cell? ⟨bo, 0, none⟩ = some (.bool b) := hB.cell rfl
      have fo := hB.free 0
      have i0 : (0 : Int) ≤ (k : Int) := by omega
      have i1 : (k : Int) < (n1 : Int) := by omega
      have ha := and1 x
      have HNext := Lib.hid (fun y (hy : (b && ownB C.max x) = y) => show ∃ k' : Nat, Value.int .i64 ((k : Int) + 1) = .int .i64 k' ∧ k' ≤ n1 ∧ Blk (wp.setCell ⟨bo, 0, none⟩ (.bool y)) bo #[.bool ((C.owned.take k').all (ownB C.max))] 4 ∧ Kp (fun j => j = bo) wo (wp.setCell ⟨bo, 0, none⟩ (.bool y)) from
        ⟨k + 1, by go_num, by omega, by rw [hall, hy]; exact hB.bool y, hK.setCell (p := ⟨bo, 0, none⟩) (fun _ => rfl) _⟩)
      clear hb hx hall hB hK
      cases b with
      | false =>
        go_wp2_with fail
        go_roundw
        case rel => exact HNext.out false (by simp)
        case measure => simp [intOf]; omega
      | true =>
        by_cases h1 : 1 < x
        · by_cases h2 : x % 2 = 0
          · by_cases h3 : x ≤ 2 * C.max
            · have HPrf := Lib.hid (show (true && ownB C.max x) = true by simp [ownB, h1, h2, h3])
              have g2 : ((x % 2 : Int) == 0) = true := by simp [h2]
              clear h2
              go_wp2_with fail
              go_roundw
              case rel => exact HNext.out true (HPrf.out)
              case measure => simp [intOf]; omega
            · have HPrf := Lib.hid (show (true && ownB C.max x) = false by simp [ownB, h3])
              have g2 : ((x % 2 : Int) == 0) = true := by simp [h2]
              have g3 : decide (x ≤ 2 * C.max) = false := decide_eq_false h3
              clear h2
              go_wp2_with fail
              go_roundw
              case rel => exact HNext.out false (HPrf.out)
              case measure => simp [intOf]; omega
          · have HPrf := Lib.hid (show (true && ownB C.max x) = false by simp [ownB, h2])
            have g2 : ((x % 2 : Int) == 0) = false := by simp [h2]
            clear h2
            go_wp2_with fail
            go_roundw
            case rel => exact HNext.out false (HPrf.out)
            case measure => simp [intOf]; omega
        · have HPrf := Lib.hid (show (true && ownB C.max x) = false by simp [ownB, h1])
          have g1 : decide (1 < x) = false := decide_eq_false h1
          go_wp2_with fail
          go_roundw
          case rel => exact HNext.out false (HPrf.out)
          case measure => simp [intOf]; omega
    · have HB := Lib.hid (show Blk wp bo #[.bool (C.owned.all (ownB C.max))] 4 by
        rw [List.take_of_length_le (by rw [HN1.out]; omega)] at hb
        rw [hb]; exact hB)
      have c2 := (HBC.out.kp hK (fun e => by have := HNe.out; omega)).cell (i := 2) (v := .slice V.al C.lats.length V.cl) rfl
      clear hB hK hb hk
      obtain ⟨r1, hr1⟩ : ∃ r, C.owned.all (ownB C.max) = r := ⟨_, rfl⟩
      rw [hr1] at HB
      have HR1 := Lib.hid hr1
      clear hr1
      go_wp2_with fail
      go_loopw [49] (fun v49 wr => ∃ k : Nat, v49 = .int .i64 k ∧ k ≤ C.lats.length ∧ Blk wr bo #[.bool (r1 && (C.lats.take k).all resB)] 4 ∧ Kp (fun j => j = bo) wo wr) (fun v49 _ => C.lats.length - (intOf v49).toNat)
      case atStart => exact ⟨0, rfl, by omega, by simpa using HB.out, HK.out⟩
      case round =>
        obtain ⟨k, rfl, hk, hB, hK⟩ := hrel
        clear c2 HB HK hlt
        obtain ⟨wq, rfl⟩ : ∃ wp : World, wp = wr := ⟨_, rfl⟩
        obtain ⟨b, hb⟩ : ∃ b, (r1 && (C.lats.take k).all resB) = b := ⟨_, rfl⟩
        rw [hb] at hB
        have HK := Lib.hid hK
        by_cases hlt : k < C.lats.length
        · have hKw : Kp (fun _ => False) w wq := HKo.out.trans hK (fun j hj e => by have := HNe.out; omega)
          obtain ⟨bl, off, ea, l0, l1, l2⟩ := tri_cells (HA.out.kp hKw).l hlt
          have hall := all_take (take_g3 hlt) resB
          obtain ⟨x0, hx0⟩ : ∃ x, (g3 C.lats k).1 = x := ⟨_, rfl⟩
          obtain ⟨x1, hx1⟩ : ∃ x, (g3 C.lats k).2.1 = x := ⟨_, rfl⟩
          obtain ⟨x2, hx2⟩ : ∃ x, (g3 C.lats k).2.2 = x := ⟨_, rfl⟩
          have hres : resB (g3 C.lats k) = (decide (x2 = 0) || (decide (x2 = 1) || decide (x2 = x0))) := by unfold resB; rw [hx0, hx2]
          rw [hres] at hall
          rw [hx0] at l0
          rw [hx1] at l1
          rw [hx2] at l2
          have hBa := hB.alloc (.cells #[.int .i64 x0, .int .i64 x1, .int .i64 x2] 59)
          have o0 : (wq.alloc (.cells #[.int .i64 x0, .int .i64 x1, .int .i64 x2] 59)).cell? ⟨bo, 0, none⟩ = some (.bool b) := hBa.cell rfl
          have fo := hBa.free 0
          have i0 : (0 : Int) ≤ (k : Int) := by omega
          have i1 : (k : Int) < (C.lats.length : Int) := by omega
          have HNext := Lib.hid (fun y (hy : (b && (decide (x2 = 0) || (decide (x2 = 1) || decide (x2 = x0)))) = y) => show ∃ k' : Nat, Value.int .i64 ((k : Int) + 1) = .int .i64 k' ∧ k' ≤ C.lats.length ∧ Blk ((wq.alloc (.cells #[.int .i64 x0, .int .i64 x1, .int .i64 x2] 59)).setCell ⟨bo, 0, none⟩ (.bool y)) bo #[.bool (r1 && (C.lats.take k').all resB)] 4 ∧ Kp (fun j => j = bo) wo ((wq.alloc (.cells #[.int .i64 x0, .int .i64 x1, .int .i64 x2] 59)).setCell ⟨bo, 0, none⟩ (.bool y)) from
            ⟨k + 1, by go_num, by omega, by rw [hall, ← Bool.and_assoc, hb, hy]; exact hBa.bool y, (hK.alloc _).setCell (p := ⟨bo, 0, none⟩) (fun _ => rfl) _⟩)
          have HEA := Lib.hid ea
          clear hx0 hx1 hx2 ea hb hall hres hB hBa hK hKw
          rw [HEA.out]
          cases b with
          | false =>
            go_wp2_with fail
            go_roundw
            case rel => exact HNext.out false (by simp)
            case measure => simp [intOf]; omega
          | true =>
            by_cases h1 : x2 = 0
            · have HPrf := Lib.hid (show (true && (decide (x2 = 0) || (decide (x2 = 1) || decide (x2 = x0)))) = true by simp [h1])
              have g1 : ((x2 : Int) == 0) = true := by simp [h1]
              clear h1
              go_wp2_with fail
              go_roundw
              case rel => exact HNext.out true (HPrf.out)
              case measure => simp [intOf]; omega
            · have g1 : ((x2 : Int) == 0) = false := by simp [h1]
              by_cases h2 : x2 = 1
              · have HPrf := Lib.hid (show (true && (decide (x2 = 0) || (decide (x2 = 1) || decide (x2 = x0)))) = true by simp [h2])
                have g2 : ((x2 : Int) == 1) = true := by simp [h2]
                clear h1 h2
                go_wp2_with fail
                go_roundw
                case rel => exact HNext.out true (HPrf.out)
                case measure => simp [intOf]; omega
              · have g2 : ((x2 : Int) == 1) = false := by simp [h2]
                by_cases h3 : x2 = x0
                · have HPrf := Lib.hid (show (true && (decide (x2 = 0) || (decide (x2 = 1) || decide (x2 = x0)))) = true by simp [h3])
                  have g3 : ((x2 : Int) == x0) = true := by simp [h3]
                  clear h1 h2 h3
                  go_wp2_with fail
                  go_roundw
                  case rel => exact HNext.out true (HPrf.out)
                  case measure => simp [intOf]; omega
                · have HPrf := Lib.hid (show (true && (decide (x2 = 0) || (decide (x2 = 1) || decide (x2 = x0)))) = false by simp [h1, h2, h3])
                  have g3 : ((x2 : Int) == x0) = false := by simp [h3]
                  clear h1 h2 h3
                  go_wp2_with fail
                  go_roundw
                  case rel => exact HNext.out false (HPrf.out)
                  case measure => simp [intOf]; omega
        · have HB := Lib.hid (show Blk wq bo #[.bool (r1 && C.lats.all resB)] 4 by
            rw [List.take_of_length_le (by omega)] at hb
            rw [hb]; exact hB)
          clear hB hK hb hk
          obtain ⟨r2, hr2⟩ : ∃ r, (r1 && C.lats.all resB) = r := ⟨_, rfl⟩
          rw [hr2] at HB
          have HR2 := Lib.hid hr2
          clear hr2
          have hbcq := HBC.out.kp HK.out (fun e => by have := HNe.out; omega)
          have HBCq := Lib.hid hbcq
          obtain ⟨d0, d1, d2, d3, d4, d5, d6, d7, d8⟩ := hbcq.cells9
          have HKq := Lib.hid (HKo.out.trans HK.out (fun j hj e => by have := HNe.out; omega))
          have HU := Lib.hid (circ_uses1 (.pointer (some ⟨bo, 0, none⟩)) (.pointer (some ⟨bc, 0, none⟩)) V C bo (useB C.max) (fun u b => Blk u bo #[.bool b] 4 ∧ Blk u bc (cvals V C) 27) r2 w wq HA.out HF.out HKq.out (by have := HNe.out; omega) (by have := HNe.out; have := HK.out.size; omega)
            ⟨HB.out, hbcq⟩ (fun u u' b hK hI => ⟨hI.1.kp hK (fun h => h), hI.2.kp hK (fun h => h)⟩)
            (fun u x b hx hI => (check_f1 bo bc V C u x b hI.1 hI.2 HM.out.1 HM.out.2).mono (by
              rintro e u' ⟨he, rfl⟩
              exact ⟨he, ⟨hI.1.bool _, hI.2.set_other (p := ⟨bo, 0, none⟩) (show bc ≠ bo by have := HNe.out; omega) _⟩, Kp.set u ⟨bo, 0, none⟩ _⟩)))
          clear hbcq
          go_wp2_with fail
          refine HU.out.mono ?_
          rintro e w2 ⟨rfl, ⟨hO2, hC2⟩, hK2⟩
          have HK2 := Lib.hid (HKq.out.trans hK2 (fun j hj h => by have := HNe.out; omega))
          obtain ⟨r3, hr3⟩ : ∃ r, (r2 && C.used.all (useB C.max)) = r := ⟨_, rfl⟩
          rw [hr3] at hO2
          have HR3 := Lib.hid (show rangeB C = r3 by unfold rangeB; rw [HR1.out, HR2.out]; exact hr3)
          have o2 : w2.cell? ⟨bo, 0, none⟩ = some (.bool r3) := hO2.cell rfl
          have HO2 := Lib.hid hO2
          have HC2 := Lib.hid hC2
          have HKo2 := Lib.hid (HK.out.trans hK2 (fun _ _ h => h))
          clear hr3 hO2 hC2 hK2 HU d0 d1 d2 d3 d4 d5 d6 d7 d8 HBCq HB HK HKq
          cases r3 with
          | false =>
            obtain rfl : code = 5 := by rw [← HCode.out]; exact ck5 (.inr (.inr HR3.out))
            go_wp2_with fail
            go_ret
            exact ⟨rfl, HK2.out⟩
          | true =>
            have HIR := Lib.hid (InRange.of HM.out.1 HM.out.2 HR3.out)
            have HCk := Lib.hid (ckR HM.out.1 HM.out.2 HR3.out)
            rw [HCode.out] at HCk
            clear HR1 HR2 HR3 HCode
            obtain ⟨w3, hput, hM3, hK3⟩ := (IMB.made w2).put (by unfold maxLen; omega) (x := 0) ⟨by omega, by omega⟩ true
            rw [hasF_zero] at hM3
            have hmm := @run_makeMap Tryz.prog
            have hs3 : w2.heap.size < w3.heap.size := by have := hK3.size; rw [World.size_alloc] at this; omega
            have hbo2 := HO2.out.lt
            have hbc2 := HC2.out.lt
            have HO3 := Lib.hid ((HO2.out.alloc (.map #[] 0)).kp hK3 (by omega))
            have HC3 := Lib.hid ((HC2.out.alloc (.map #[] 0)).kp hK3 (by omega))
            have HK3 := Lib.hid ((HK2.out.alloc (.map #[] 0)).trans hK3 (fun j hj h => by have := HK2.out.size; omega))
            have HKo3 := Lib.hid ((HKo2.out.alloc (.map #[] 0)).trans hK3 (fun j hj h => by have := HKo2.out.size; omega))
            obtain ⟨bm, hbm⟩ : ∃ bm, bm = w2.heap.size := ⟨_, rfl⟩
            obtain ⟨bh, hbh⟩ : ∃ bh, bh = w3.heap.size := ⟨_, rfl⟩
            obtain ⟨wh, hwh⟩ : ∃ wh : World, wh = w3.alloc (.cells #[.map (some w2.heap.size)] 89) := ⟨_, rfl⟩
            have HBh : Hid (Blk wh bh #[.map (some bm)] 89) := Lib.hid (by rw [hwh, hbh, hbm]; exact Blk.new _ _ _)
            have HBo : Hid (Blk wh bo #[.bool true] 4) := Lib.hid (by rw [hwh]; exact HO3.out.alloc _)
            have HBCh : Hid (Blk wh bc (cvals V C) 27) := Lib.hid (by rw [hwh]; exact HC3.out.alloc _)
            have HKh : Hid (Kp (fun _ => False) w wh) := Lib.hid (by rw [hwh]; exact HK3.out.alloc _)
            have HKoh : Hid (Kp (fun j => j = bo) wo wh) := Lib.hid (by rw [hwh]; exact HKo3.out.alloc _)
            have HMh : Hid (IMB wh bm (0 + 1) (hasF (C.owned.take 0))) := Lib.hid (by rw [hwh, hbm]; exact hM3.kp ((Kp.refl (fun _ => False) _).alloc _) (fun h => h))
            have HNh : Hid (bo < bm ∧ bc < bm ∧ bm < bh ∧ w.heap.size ≤ bm ∧ wo.heap.size ≤ bm) := Lib.hid ⟨by omega, by omega, by omega, by have := HK2.out.size; omega, by have := HKo2.out.size; omega⟩
            have HEq := Lib.hid (And.intro hwh.symm (And.intro hbh.symm hbm.symm))
            clear hwh hbh hbm hM3 hK3 HO3 HC3 HK3 HKo3 HO2 HC2 HK2 HKo2 hs3 hbo2 hbc2
            go_upto_region 18 with fail
            rw [HEq.out.1, HEq.out.2.1, HEq.out.2.2]
            clear HEq hput hmm o2
            go_wp2_with fail
            go_loopw [81] (fun v81 wr => ∃ k : Nat, v81 = .int .i64 k ∧ k ≤ n1 ∧ (C.owned.take k).Nodup ∧ IMB wr bm (k + 1) (hasF (C.owned.take k)) ∧ Kp (fun j => j = bm) wh wr) (fun v81 _ => n1 - (intOf v81).toNat)
            case atStart => exact ⟨0, rfl, by omega, by simp, HMh.out, Kp.refl _ _⟩
            case round =>
              obtain ⟨k, rfl, hk, hnd, hM, hK⟩ := hrel
              clear HMh
              obtain ⟨wv, rfl⟩ : ∃ wp : World, wp = wr := ⟨_, rfl⟩
              have hbhv := HBh.out.kp hK (fun e => by have := HNh.out; omega)
              have HKv := Lib.hid hK
              by_cases hkn : k < n1
              · have hkl : k < C.owned.length := by rw [HN1.out]; exact hkn
                have hIw : IntsAt wv a1 C.owned := RowAt.kp (S := fun j => j = bm) (HRW.out _ HKoh.out) hK (fun p hp e => by
                  obtain ⟨b, o, e2, hc⟩ := (HRW.out _ (Kp.refl _ wo)).get (j := k) hkl
                  rw [hp] at e2
                  simp only [Option.some.injEq] at e2
                  subst e2
                  have h1 := World.block_lt_of_cell? wo _ hc
                  have h2 : b = bm := e
                  have := HNh.out
                  simp at h1
                  omega)
                obtain ⟨bl, off, rfl, hcell⟩ := hIw.get (j := k) hkl
                clear hIw
                have hnew := hasF_new HIR.out hkl
                have hxo : gi C.owned k ∈ C.owned := by unfold gi; rw [List.getElem?_eq_getElem hkl]; exact List.getElem_mem hkl
                have hxr := HIR.out.own _ hxo
                have HND := Lib.hid (fun h => nodup_take hkl hnd h)
                have HNN := Lib.hid (fun h => not_nodup (l := C.owned) hkl h)
                have HTk := Lib.hid (take_gi hkl)
                obtain ⟨x, hx⟩ : ∃ x, gi C.owned k = x := ⟨_, rfl⟩
                rw [hx] at hcell hnew hxr HND HNN HTk
                have hxm : x ≤ 100000000 := by have := HM.out; omega
                have x0 : 0 ≤ x := by omega
                have hlook := hM.look (x := x / 2) ⟨by omega, by omega⟩
                have ch : wv.cell? ⟨bh, 0, none⟩ = some (.map (some bm)) := hbhv.cell rfl
                have i0 : (0 : Int) ≤ (k : Int) := by omega
                have i1 : (k : Int) < (n1 : Int) := by omega
                by_cases hin : x ∈ C.owned.take k
                · rw [hnew, decide_eq_true hin] at hlook
                  obtain rfl : code = 7 := by have := HCk.out; rw [if_pos (HNN.out hin)] at this; exact this
                  have HE := Lib.hid (HKh.out.trans hK (fun j hj e => by have := HNh.out; omega))
                  clear hx hnew hxr hin hM hK hnd hxo hbhv
                  go_wp2_with fail
                  go_ret
                  exact ⟨rfl, HE.out⟩
                · rw [hnew, decide_eq_false hin] at hlook
                  obtain ⟨w9, hput9, hM9, hK9⟩ := hM.put (by have := HOl.out; have := HN1.out; unfold maxLen; omega) (x := x / 2) ⟨by omega, by omega⟩ true
                  rw [hasF_snoc, ← HTk.out] at hM9
                  have HR := Lib.hid (show ∃ k' : Nat, Value.int .i64 ((k : Int) + 1) = .int .i64 k' ∧ k' ≤ n1 ∧ (C.owned.take k').Nodup ∧ IMB w9 bm (k' + 1) (hasF (C.owned.take k')) ∧ Kp (fun j => j = bm) wh w9 from
                    ⟨k + 1, by go_num, by omega, HND.out hin, hM9, hK.trans hK9 (fun _ _ h => h)⟩)
                  clear hx hnew hxr hin hM hK hnd hM9 hK9 hxo hbhv
                  go_wp2_with fail
                  go_roundw
                  case rel => exact HR.out
                  case measure => simp [intOf]; omega
              · obtain rfl : k = n1 := by omega
                have HNod := Lib.hid (show C.owned.Nodup by rwa [List.take_of_length_le (by rw [HN1.out]; exact Nat.le_refl _)] at hnd)
                have hM' : IMB wv bm (k + 1) (hasF C.owned) := by rwa [List.take_of_length_le (by rw [HN1.out]; exact Nat.le_refl _)] at hM
                have HKw := Lib.hid (HKh.out.trans hK (fun j hj e => by have := HNh.out; omega))
                have hbov := HBo.out.kp hK (fun e => by have := HNh.out; omega)
                have hbcv := HBCh.out.kp hK (fun e => by have := HNh.out; omega)
                have HBCv := Lib.hid hbcv
                have HCk2 := Lib.hid (show code = if C.used.all (knownB C.owned) = false then 9 else if (ordO C.gates).length < C.gates.length then 8 else 0 by have := HCk.out; rw [if_neg (by simp; exact HNod.out)] at this; exact this)
                have HU := Lib.hid (circ_uses2 (.pointer (some ⟨bo, 0, none⟩)) (.pointer (some ⟨bh, 0, none⟩)) V C bo (fun x => hasF C.owned (x / 2)) (fun u b => Blk u bo #[.bool b] 4 ∧ Blk u bh #[.map (some bm)] 89 ∧ IMB u bm (k + 1) (hasF C.owned)) true w wv HA.out HF.out HKw.out (by have := HNe.out; omega) hbov.lt
                  ⟨hbov, hbhv, hM'⟩ (fun u u' b hK hI => ⟨hI.1.kp hK (fun h => h), hI.2.1.kp hK (fun h => h), hI.2.2.kp hK (fun h => h)⟩)
                  (fun u x b hx hI => (check_f2 bo bh bm (k + 1) (hasF C.owned) u x b hI.1 hI.2.1 hI.2.2 (HIR.out.use x hx).1 (by have := (HIR.out.use x hx).2; have := HM.out; omega)).mono (by
                    rintro e u' ⟨he, rfl⟩
                    have hK := Kp.set u ⟨bo, 0, none⟩ (.bool (b && hasF C.owned (x / 2)))
                    exact ⟨he, ⟨hI.1.bool _, hI.2.1.kp hK (fun e => by have := HNh.out; have e2 : bh = bo := e; omega), hI.2.2.kp hK (fun e => by have := HNh.out; have e2 : bm = bo := e; omega)⟩, hK⟩)))
                obtain ⟨d0, d1, d2, d3, d4, d5, d6, d7, d8⟩ := hbcv.cells9
                clear hM hM' hbov hbcv hbhv hnd hK HCk
                go_wp2_with fail
                refine HU.out.mono ?_
                rintro e w5 ⟨rfl, ⟨hO5, -, -⟩, hK5⟩
                have HX := Lib.hid (HBCv.out.kp hK5 (fun e => by have := HNe.out; have e2 : bc = bo := e; omega))
                have HK5 := Lib.hid (HKw.out.trans hK5 (fun j hj h => by have := HNe.out; omega))
                obtain ⟨r5, hr5⟩ : ∃ r, (true && C.used.all (fun x => hasF C.owned (x / 2))) = r := ⟨_, rfl⟩
                rw [hr5] at hO5
                have HR5 := Lib.hid (show C.used.all (knownB C.owned) = r5 from by rw [← hr5, Bool.true_and]; rfl)
                have o5 : w5.cell? ⟨bo, 0, none⟩ = some (.bool r5) := hO5.cell rfl
                clear hO5 hK5 hr5 HU d0 d1 d2 d3 d4 d5 d6 d7 d8
                cases r5 with
                | false =>
                  obtain rfl : code = 9 := by have := HCk2.out; rw [if_pos HR5.out] at this; exact this
                  go_wp2_with fail
                  go_ret
                  exact ⟨rfl, HK5.out⟩
                | true =>
                  have HCk3 := Lib.hid (show code = if (ordO C.gates).length < C.gates.length then 8 else 0 by have := HCk2.out; rw [if_neg (by rw [HR5.out]; simp)] at this; exact this)
                  obtain ⟨gn_, hgn⟩ : ∃ g, C.gates.length = g := ⟨_, rfl⟩
                  obtain ⟨on_, hon⟩ : ∃ g, (ordO C.gates).length = g := ⟨_, rfl⟩
                  have hle : on_ ≤ gn_ := by rw [← hgn, ← hon]; exact (ordO_at C.gates).len
                  rw [hgn, hon] at HCk3
                  have HGn := Lib.hid hgn
                  have HO := Lib.hid (show ∀ u, Kp (fun _ => False) w u → Calls Tryz.prog 42 #[.agg #[.int .i64 C.max, .slice V.ai C.ins.length V.ci, .slice V.al C.lats.length V.cl, .slice V.ao C.outs.length V.co, .slice V.ab C.bads.length V.cb, .slice V.ac C.cons.length V.cc, .slice V.ag gn_ V.cg, .slice V.ay V.ny V.cy, .string V.cm]] u fun e u' => (∃ a c, e = .returned (.slice a on_ c)) ∧ Kp (fun _ => False) u u' from fun u hu => by
                    have hor := (circ_Order V C u (HA.out.kp hu) HF.out.g (HIR.out.good HNod.out) (fun i hi => by
                      have h1 := HIR.out.own _ (gate_own hi)
                      have h2 := HIR.out.use _ (gate_useA hi)
                      have h3 := HIR.out.use _ (gate_useB hi)
                      have := HM.out
                      omega)).mono (R' := fun e u' => (∃ a c, e = .returned (.slice a on_ c)) ∧ Kp (fun _ => False) u u') (by
                        rintro e u' ⟨v, rfl, hO, hK⟩
                        obtain ⟨a, c, e, -⟩ := hO.form
                        rw [nv_length, hon] at e
                        exact ⟨⟨a, c, by rw [e]⟩, hK⟩)
                    unfold cvals at hor
                    rw [hgn] at hor
                    exact hor)
                  have HXu : Hid (Blk w5 bc #[.int .i64 C.max, .slice V.ai C.ins.length V.ci, .slice V.al C.lats.length V.cl, .slice V.ao C.outs.length V.co, .slice V.ab C.bads.length V.cb, .slice V.ac C.cons.length V.cc, .slice V.ag gn_ V.cg, .slice V.ay V.ny V.cy, .string V.cm] 27) := Lib.hid (by have := HX.out; unfold cvals at this; rw [hgn] at this; exact this)
                  clear hgn hon HX
                  go_upto_region 28 with fail
                  obtain ⟨wy, rfl⟩ : ∃ wy : World, wy = w5 := ⟨_, rfl⟩
                  clear o5
                  go_cut [99] from 100 to 107 (fun s99 wx => s99 = .bool (decide ((on_ : Int) < (gn_ : Int))) ∧ Kp (fun _ => False) w wx)
                  case first =>
                    go_region_held3 (fun u => u.cell? ⟨bc, 0, none⟩ = some (.int .i64 C.max) ∧ u.cell? ⟨bc, 1, none⟩ = some (.slice V.ai C.ins.length V.ci) ∧ u.cell? ⟨bc, 2, none⟩ = some (.slice V.al C.lats.length V.cl) ∧ u.cell? ⟨bc, 3, none⟩ = some (.slice V.ao C.outs.length V.co) ∧ u.cell? ⟨bc, 4, none⟩ = some (.slice V.ab C.bads.length V.cb) ∧ u.cell? ⟨bc, 5, none⟩ = some (.slice V.ac C.cons.length V.cc) ∧ u.cell? ⟨bc, 6, none⟩ = some (.slice V.ag gn_ V.cg) ∧ u.cell? ⟨bc, 7, none⟩ = some (.slice V.ay V.ny V.cy) ∧ u.cell? ⟨bc, 8, none⟩ = some (.string V.cm)) (with_reducible first | exact HXu.out.cells9 | exact HXu.out.drew.cells9 | exact HXb.out.cells9 | exact HXb.out.drew.cells9) (((with_reducible refine Calls.mono (HO.out _ (by first | exact HK5.out | exact HK5.out.drew)) ?_); rintro o u2 ⟨⟨a2, c2, rfl⟩, hK6⟩; have HXb := Lib.hid (by first | exact HXu.out.kp hK6 (fun h => h) | exact HXu.out.drew.kp hK6 (fun h => h)); have HKb := Lib.hid (by first | exact HK5.out.trans hK6 (fun _ _ h => h) | exact HK5.out.drew.trans hK6 (fun _ _ h => h)); clear hK6))
                    all_goals go_wp2_with fail
                    all_goals go_meet
                    all_goals exact ⟨by simp, by first | exact HKb.out | exact HKb.out.drew⟩
                  case rest =>
                  obtain ⟨rfl, hKc⟩ := hcut
                  have HKc := Lib.hid hKc
                  clear hKc
                  by_cases hlt2 : on_ < gn_
                  · obtain rfl : code = 8 := by have := HCk3.out; rw [if_pos hlt2] at this; exact this
                    have dd : decide ((on_ : Int) < (gn_ : Int)) = true := decide_eq_true (by omega)
                    rw [dd]
                    go_wp2_with fail
                    go_ret
                    exact ⟨rfl, HKc.out⟩
                  · obtain rfl : code = 0 := by have := HCk3.out; rw [if_neg hlt2] at this; exact this
                    have dd : decide ((on_ : Int) < (gn_ : Int)) = false := decide_eq_false (by omega)
                    rw [dd]
                    go_wp2_with fail
                    go_ret
                    exact ⟨rfl, HKc.out⟩

end Go.Proofs.YtckmdcmkjmpiaaaGreatDoor

/-
  binary.Normal.
-/
namespace Go.Proofs.YtckmdcmkjmpiaaaGreatDoor
open Go.RowKit

/-- numbered so, as far as k of those that are owned and j gates -/
def OkP (C : Circ) (k j : Nat) : Prop := (∀ i, i < k → gi C.owned i = 2 * (i : Int) + 2) ∧ ∀ i, i < j → (g3 C.gates i).2.2 ≤ (g3 C.gates i).2.1 ∧ (g3 C.gates i).2.1 < (g3 C.gates i).1

theorem OkP.zero (C : Circ) : OkP C 0 0 := ⟨fun i h => by omega, fun i h => by omega⟩
theorem okP_succ {C : Circ} {k j : Nat} {o : Bool} {l : Int} (h : o = true ↔ OkP C k j) (hl : gi C.owned k = l) : (o && decide (l = 2 * (k : Int) + 2)) = true ↔ OkP C (k + 1) j := by
  rw [Bool.and_eq_true, decide_eq_true_eq, h]
  constructor
  · rintro ⟨⟨h1, h2⟩, h3⟩
    exact ⟨fun i hi => by
      by_cases e : i < k
      · exact h1 i e
      · obtain rfl : i = k := by omega
        rw [hl, h3], h2⟩
  · rintro ⟨h1, h2⟩
    exact ⟨⟨fun i hi => h1 i (by omega), h2⟩, by rw [← hl, h1 k (by omega)]⟩
theorem okP_gate {C : Circ} {k j : Nat} {o : Bool} {a b c : Int} (h : o = true ↔ OkP C k j) (hg : g3 C.gates j = (a, b, c)) : (o && decide (c ≤ b) && decide (b < a)) = true ↔ OkP C k (j + 1) := by
  rw [Bool.and_eq_true, Bool.and_eq_true, decide_eq_true_eq, decide_eq_true_eq, h]
  constructor
  · rintro ⟨⟨⟨h1, h2⟩, h3⟩, h4⟩
    refine ⟨h1, fun i hi => ?_⟩
    by_cases e : i < j
    · exact h2 i e
    · obtain rfl : i = j := by omega
      rw [hg]
      exact ⟨h3, h4⟩
  · rintro ⟨h1, h2⟩
    have := h2 j (by omega)
    rw [hg] at this
    exact ⟨⟨⟨h1, fun i hi => h2 i (by omega)⟩, this.1⟩, this.2⟩
theorem normC_iff {C : Circ} : NormC C ↔ ckCode C = 0 ∧ C.max = (C.owned.length : Int) ∧ OkP C C.owned.length C.gates.length := by
  constructor
  · intro h
    exact ⟨h.good.code, h.max, h.own, fun i hi => h.gate _ (g3_mem hi)⟩
  · rintro ⟨h1, h2, h3, h4⟩
    refine ⟨GoodC.of h1, h2, h3, fun g hg => ?_⟩
    obtain ⟨i, hi⟩ := List.mem_iff_getElem?.1 hg
    have hil : i < C.gates.length := (List.getElem?_eq_some_iff.1 hi).1
    have := h4 i hil
    rw [g3_some hil] at hi
    rwa [Option.some.inj hi] at this

set_option maxRecDepth 100000 in
set_option maxHeartbeats 1000000 in
theorem bin_take (l n : Int) (o : Bool) (ob nb : Nat) (w : World) (h0 : 0 ≤ n) (h1 : n ≤ 1000000000) (hne : ob ≠ nb) (hO : Blk w ob #[.bool o] 4) (hN : Blk w nb #[.int .i64 n] 3) :
    Calls Tryz.prog 82 #[.int .i64 l, .pointer (some ⟨ob, 0, none⟩), .pointer (some ⟨nb, 0, none⟩)] w fun e w' => (∃ v, e = .returned v) ∧ Blk w' ob #[.bool (o && decide (l = n))] 4 ∧ Blk w' nb #[.int .i64 (n + 2)] 3 ∧ Kp (fun j => j = ob ∨ j = nb) w w' := by
  have o0 := hO.cell (i := 0) (v := .bool o) rfl
  have n0 := hN.cell (i := 0) (v := .int .i64 n) rfl
  have fo := Blk.free hO 0
  have fn := Blk.free hN 0
  have hne2 : nb ≠ ob := fun e => hne e.symm
  have HO := Lib.hid hO
  have HN := Lib.hid hN
  clear hO hN
  have fin : ∀ r : Bool, (o && decide (l = n)) = r → Blk ((w.setCell ⟨ob, 0, none⟩ (.bool r)).setCell ⟨nb, 0, none⟩ (.int .i64 (n + 2))) ob #[.bool (o && decide (l = n))] 4 ∧ Blk ((w.setCell ⟨ob, 0, none⟩ (.bool r)).setCell ⟨nb, 0, none⟩ (.int .i64 (n + 2))) nb #[.int .i64 (n + 2)] 3 ∧ Kp (fun j => j = ob ∨ j = nb) w ((w.setCell ⟨ob, 0, none⟩ (.bool r)).setCell ⟨nb, 0, none⟩ (.int .i64 (n + 2))) := fun r hr => by
    rw [hr]
    exact ⟨(HO.out.set_same 0 (.bool r)).set_other (by simpa using hne) _, (HN.out.set_other (by simpa using hne2) _).set_same 0 _, ((Kp.refl (fun j => j = ob ∨ j = nb) w).setCell (p := ⟨ob, 0, none⟩) (fun _ => .inl rfl) _).setCell (p := ⟨nb, 0, none⟩) (fun _ => .inr rfl) _⟩
  have HFin := Lib.hid fin
  clear fin
  cases o with
  | false =>
    go_enter Tryz.func82, Tryz.ntmps82
    go_wp2_with fail
    go_end0
    exact ⟨⟨_, rfl⟩, HFin.out false rfl⟩
  | true =>
    obtain ⟨r, hr⟩ : ∃ r, decide (l = n) = r := ⟨_, rfl⟩
    have q : ((l : Int) == n) = r := hr
    have HR := Lib.hid hr
    clear hr
    go_enter Tryz.func82, Tryz.ntmps82
    go_wp2_with fail
    go_end0
    exact ⟨⟨_, rfl⟩, HFin.out r (by rw [HR.out]; rfl)⟩

/-- what Normal keeps -/
structure NB (w wr : World) (C : Circ) (V : CV) (o : Bool) (n : Int) (k j : Nat) : Prop where
  c : Blk wr w.heap.size (cvals V C) 27
  x : Blk wr (w.heap.size + 1) #[.int .i64 n] 3
  bo : Blk wr (w.heap.size + 1 + 1) #[.bool o] 4
  ok : o = true ↔ OkP C k j
  nk : n = 2 * (k : Int) + 2
  kp : Kp (fun _ => False) w wr
theorem NB.kp0 {w wr w' : World} {C : Circ} {V : CV} {o : Bool} {n : Int} {k j : Nat} (h : NB w wr C V o n k j) (kk : Kp (fun _ => False) wr w') : NB w w' C V o n k j :=
  ⟨h.c.kp kk (fun h => h), h.x.kp kk (fun h => h), h.bo.kp kk (fun h => h), h.ok, h.nk, h.kp.trans kk (fun _ _ h => h)⟩
theorem NB.take {w wr w' : World} {C : Circ} {V : CV} {o : Bool} {n l : Int} {k j : Nat} (h : NB w wr C V o n k j) (hl : gi C.owned k = l) (ho : Blk w' (w.heap.size + 1 + 1) #[.bool (o && decide (l = n))] 4) (hx : Blk w' (w.heap.size + 1) #[.int .i64 (n + 2)] 3) (kk : Kp (fun j => j = w.heap.size + 1 + 1 ∨ j = w.heap.size + 1) wr w') : NB w w' C V (o && decide (l = n)) (n + 2) (k + 1) j :=
  ⟨h.c.kp kk (by omega), hx, ho, by rw [h.nk]; exact okP_succ h.ok hl, by rw [h.nk]; omega, h.kp.trans kk (fun j hj e => by omega)⟩

theorem owned_i {C : Circ} {k : Nat} (h : k < C.ins.length) : gi C.owned k = gi C.ins k := by
  unfold Circ.owned gi
  rw [List.append_assoc, List.getElem?_append_left h]
theorem owned_l {C : Circ} {k : Nat} (h : k < C.lats.length) : gi C.owned (C.ins.length + k) = (g3 C.lats k).1 := by
  unfold Circ.owned gi
  rw [List.append_assoc, List.getElem?_append_right (by omega), Nat.add_sub_cancel_left, List.getElem?_append_left (by simpa using h), List.getElem?_map, g3_some h]
  rfl
theorem owned_g {C : Circ} {k : Nat} (h : k < C.gates.length) : gi C.owned (C.ins.length + C.lats.length + k) = (g3 C.gates k).1 := by
  unfold Circ.owned gi
  rw [List.getElem?_append_right (by simp)]
  simp only [List.length_append, List.length_map, Nat.add_sub_cancel_left, List.getElem?_map, g3_some h]
  rfl
theorem owned_len (C : Circ) : C.owned.length = C.ins.length + C.lats.length + C.gates.length := by unfold Circ.owned; simp; omega

set_option maxRecDepth 100000 in
set_option maxHeartbeats 8000000 in
theorem bin_Normal (V : CV) (C : Circ) (w : World) (h : CAt w V C) (hf : CFew C 1000000) (hM : -9223372036854775808 ≤ C.max ∧ C.max ≤ 9223372036854775807) :
    Calls Tryz.prog 60 #[.agg (cvals V C)] w fun e w' => ∃ r : Bool, e = .returned (.bool r) ∧ (r = true ↔ NormC C) ∧ Kp (fun _ => False) w w' := by
  have HA := Lib.hid h
  have HF := Lib.hid hf
  have HM := Lib.hid hM
  obtain ⟨wz, hwz⟩ : ∃ wz : World, wz = ((w.alloc (.cells (cvals V C) 27)).alloc (.cells #[.int .i64 2] 3)).alloc (.cells #[.bool true] 4) := ⟨_, rfl⟩
  have n1 := Blk.new (w.alloc (.cells (cvals V C) 27)) #[.int .i64 2] 3
  rw [World.size_alloc] at n1
  have n2 := Blk.new ((w.alloc (.cells (cvals V C) 27)).alloc (.cells #[.int .i64 2] 3)) #[.bool true] 4
  rw [World.size_alloc, World.size_alloc] at n2
  have HB0 := Lib.hid (show NB w wz C V true 2 0 0 from ⟨by rw [hwz]; exact ((Blk.new w _ _).alloc _).alloc _, by rw [hwz]; exact n1.alloc _, by rw [hwz]; exact n2, ⟨fun _ => OkP.zero C, fun _ => rfl⟩, rfl, by rw [hwz]; exact (((Kp.refl _ w).alloc _).alloc _).alloc _⟩)
  obtain ⟨d0, d1, d2, d3, d4, d5, d6, d7, d8⟩ := Blk.cells9 (show Blk wz w.heap.size #[.int .i64 C.max, .slice V.ai C.ins.length V.ci, .slice V.al C.lats.length V.cl, .slice V.ao C.outs.length V.co, .slice V.ab C.bads.length V.cb, .slice V.ac C.cons.length V.cc, .slice V.ag C.gates.length V.cg, .slice V.ay V.ny V.cy, .string V.cm] 27 from HB0.out.c)
  have HZ := Lib.hid hwz
  have hni := hf.i
  have hnl := hf.l
  have hng := hf.g
  clear h hf hwz n1 n2 hM
  go_enter Tryz.func60, Tryz.ntmps60
  go_upto_region 3 with fail
  rw [← HZ.out]
  clear HZ
  go_wp2_with fail
  go_loopw [7, 16] (fun v7 v16 wr => ∃ (k : Nat) (o : Bool) (n : Int), v16 = .int .i64 k ∧ k ≤ C.ins.length ∧ NB w wr C V o n k 0) (fun _ v16 _ => C.ins.length - (intOf v16).toNat)
  case atStart => exact ⟨0, true, 2, rfl, by omega, HB0.out⟩
  case round =>
    obtain ⟨k, o, n, rfl, hk, hnb⟩ := hrel
    obtain ⟨wp, rfl⟩ : ∃ wp : World, wp = wr := ⟨_, rfl⟩
    clear d0 d1 d2 d3 d4 d5 d6 d7 d8
    have HBk := Lib.hid hnb
    clear hnb HB0
    by_cases hlt : k < C.ins.length
    · obtain ⟨b, off, ea, e0⟩ := HA.out.i.get hlt
      have e1 := HBk.out.kp.cellK e0
      obtain ⟨x, hx⟩ : ∃ x, gi C.ins k = x := ⟨_, rfl⟩
      have HOw := Lib.hid ((owned_i hlt).trans hx)
      rw [hx] at e1
      rw [ea]
      have i0 : (0 : Int) ≤ (k : Int) := by omega
      have i2 : (k : Int) < (C.ins.length : Int) := by omega
      have hn0 : 0 ≤ n := by have := HBk.out.nk; omega
      have hn1 : n ≤ 1000000000 := by have := HBk.out.nk; omega
      clear e0 ea hx
      go_wp2_with (go_at_call 82; (refine Calls.mono (bin_take _ n o (w.heap.size + 1 + 1) (w.heap.size + 1) _ hn0 hn1 (by omega) HBk.out.bo HBk.out.x) ?_; rintro e w2 ⟨⟨v, rfl⟩, ho2, hx2, hK2⟩; have HB2 := Lib.hid (NB.take HBk.out HOw.out ho2 hx2 hK2); clear ho2 hx2 hK2))
      go_roundw
      case rel => exact ⟨k + 1, _, n + 2, by go_num, by omega, HB2.out⟩
      case measure => simp [intOf]; omega
    · obtain rfl : k = C.ins.length := by omega
      have c2 := (show Blk wp w.heap.size #[.int .i64 C.max, .slice V.ai C.ins.length V.ci, .slice V.al C.lats.length V.cl, .slice V.ao C.outs.length V.co, .slice V.ab C.bads.length V.cb, .slice V.ac C.cons.length V.cc, .slice V.ag C.gates.length V.cg, .slice V.ay V.ny V.cy, .string V.cm] 27 from HBk.out.c).cell (i := 2) (v := .slice V.al C.lats.length V.cl) rfl
      go_wp2_with fail
      go_loopw [9, 27] (fun v9 v27 wr => ∃ (q : Nat) (o : Bool) (n : Int), v27 = .int .i64 q ∧ q ≤ C.lats.length ∧ NB w wr C V o n (C.ins.length + q) 0) (fun _ v27 _ => C.lats.length - (intOf v27).toNat)
      case atStart => exact ⟨0, o, n, rfl, by omega, HBk.out⟩
      case round =>
        obtain ⟨q, o, n, rfl, hq, hnb⟩ := hrel
        obtain ⟨wp, rfl⟩ : ∃ wp : World, wp = wr := ⟨_, rfl⟩
        clear c2 HBk
        have HBk := Lib.hid hnb
        clear hnb
        by_cases hlt : q < C.lats.length
        · obtain ⟨b, off, ea, hE⟩ := HA.out.latCell hlt
          obtain ⟨e0, e1, e2⟩ := hE _ HBk.out.kp
          obtain ⟨x0, hx0⟩ : ∃ x, (g3 C.lats q).1 = x := ⟨_, rfl⟩
          obtain ⟨x1, hx1⟩ : ∃ x, (g3 C.lats q).2.1 = x := ⟨_, rfl⟩
          obtain ⟨x2, hx2⟩ : ∃ x, (g3 C.lats q).2.2 = x := ⟨_, rfl⟩
          have HOw := Lib.hid ((owned_l hlt).trans hx0)
          rw [hx0] at e0
          rw [hx1] at e1
          rw [hx2] at e2
          have HG3 := Lib.hid (show g3 C.lats q = (x0, x1, x2) from by rw [← hx0, ← hx1, ← hx2])
          rw [ea]
          have i0 : (0 : Int) ≤ (q : Int) := by omega
          have i2 : (q : Int) < (C.lats.length : Int) := by omega
          obtain ⟨wv, hwv⟩ : ∃ wv : World, wv = wp.alloc (.cells #[.int .i64 x0, .int .i64 x1, .int .i64 x2] 59) := ⟨_, rfl⟩
          have HBv := Lib.hid (HBk.out.kp0 (by rw [hwv]; exact (Kp.refl _ wp).alloc _ : Kp (fun _ => False) wp wv))
          have hX : Blk wv wp.heap.size #[.int .i64 x0, .int .i64 x1, .int .i64 x2] 59 := by rw [hwv]; exact Blk.new _ _ _
          have nb0 := hX.cell (i := 0) (v := .int .i64 x0) rfl
          have HX := Lib.hid hX
          have HXa := Lib.hid (show w.heap.size + 1 + 1 < wp.heap.size from HBk.out.bo.lt)
          have HZv := Lib.hid hwv
          have hn0 : 0 ≤ n := by have := HBk.out.nk; omega
          have hn1 : n ≤ 1000000000 := by have := HBk.out.nk; omega
          clear hx0 hx1 hx2 hE ea hX hwv
          go_upto_region 11 with fail
          rw [← HZv.out]
          clear HZv e0 e1 e2
          go_wp2_with (go_at_call 82; (refine Calls.mono (bin_take _ n o (w.heap.size + 1 + 1) (w.heap.size + 1) _ hn0 hn1 (by omega) HBv.out.bo HBv.out.x) ?_; rintro e w2 ⟨⟨v, rfl⟩, ho2, hx2, hK2⟩; have HB2 := Lib.hid (NB.take HBv.out HOw.out ho2 hx2 hK2); clear ho2 hx2 hK2))
          go_roundw
          case rel => exact ⟨q + 1, _, n + 2, by go_num, by omega, HB2.out⟩
          case measure => simp [intOf]; omega
        · obtain rfl : q = C.lats.length := by omega
          have c6 := (show Blk wp w.heap.size #[.int .i64 C.max, .slice V.ai C.ins.length V.ci, .slice V.al C.lats.length V.cl, .slice V.ao C.outs.length V.co, .slice V.ab C.bads.length V.cb, .slice V.ac C.cons.length V.cc, .slice V.ag C.gates.length V.cg, .slice V.ay V.ny V.cy, .string V.cm] 27 from HBk.out.c).cell (i := 6) (v := .slice V.ag C.gates.length V.cg) rfl
          go_wp2_with fail
          go_loopw [11, 39] (fun v11 v39 wr => ∃ (q : Nat) (o : Bool) (n : Int), v39 = .int .i64 q ∧ q ≤ C.gates.length ∧ NB w wr C V o n (C.ins.length + C.lats.length + q) q) (fun _ v39 _ => C.gates.length - (intOf v39).toNat)
          case atStart => exact ⟨0, o, n, rfl, by omega, HBk.out⟩
          case round =>
            obtain ⟨q, o, n, rfl, hq, hnb⟩ := hrel
            obtain ⟨wp, rfl⟩ : ∃ wp : World, wp = wr := ⟨_, rfl⟩
            clear c6 HBk
            have HBk := Lib.hid hnb
            clear hnb
            by_cases hlt : q < C.gates.length
            · obtain ⟨b, off, ea, hE⟩ := HA.out.gateCell hlt
              obtain ⟨e0, e1, e2⟩ := hE _ HBk.out.kp
              obtain ⟨x0, hx0⟩ : ∃ x, (g3 C.gates q).1 = x := ⟨_, rfl⟩
              obtain ⟨x1, hx1⟩ : ∃ x, (g3 C.gates q).2.1 = x := ⟨_, rfl⟩
              obtain ⟨x2, hx2⟩ : ∃ x, (g3 C.gates q).2.2 = x := ⟨_, rfl⟩
              have HOw := Lib.hid ((owned_g hlt).trans hx0)
              rw [hx0] at e0
              rw [hx1] at e1
              rw [hx2] at e2
              have HG3 := Lib.hid (show g3 C.gates q = (x0, x1, x2) from by rw [← hx0, ← hx1, ← hx2])
              rw [ea]
              have i0 : (0 : Int) ≤ (q : Int) := by omega
              have i2 : (q : Int) < (C.gates.length : Int) := by omega
              obtain ⟨wv, hwv⟩ : ∃ wv : World, wv = wp.alloc (.cells #[.int .i64 x0, .int .i64 x1, .int .i64 x2] 61) := ⟨_, rfl⟩
              have HBv := Lib.hid (HBk.out.kp0 (by rw [hwv]; exact (Kp.refl _ wp).alloc _ : Kp (fun _ => False) wp wv))
              have hX : Blk wv wp.heap.size #[.int .i64 x0, .int .i64 x1, .int .i64 x2] 61 := by rw [hwv]; exact Blk.new _ _ _
              have nb0 := hX.cell (i := 0) (v := .int .i64 x0) rfl
              have HX := Lib.hid hX
              have HXa := Lib.hid (show w.heap.size + 1 + 1 < wp.heap.size from HBk.out.bo.lt)
              have HZv := Lib.hid hwv
              have hn0 : 0 ≤ n := by have := HBk.out.nk; omega
              have hn1 : n ≤ 1000000000 := by have := HBk.out.nk; omega
              clear hx0 hx1 hx2 hE ea hX hwv
              go_upto_region 16 with fail
              rw [← HZv.out]
              clear HZv e0 e1 e2
              go_upto_region 17 with (go_at_call 82; (refine Calls.mono (bin_take _ n o (w.heap.size + 1 + 1) (w.heap.size + 1) _ hn0 hn1 (by omega) HBv.out.bo HBv.out.x) ?_; rintro e w2 ⟨⟨v, rfl⟩, ho2, hx2, hK2⟩; have HB2 := Lib.hid (NB.take HBv.out HOw.out ho2 hx2 hK2); have HX2 := Lib.hid (HX.out.kp hK2 (by have := HXa.out; omega)); clear ho2 hx2 hK2))
              obtain ⟨o2, ho2⟩ : ∃ o2, (o && decide (x0 = n)) = o2 := ⟨_, rfl⟩
              rw [ho2] at HB2
              have HFin := Lib.hid (fun (r : Bool) (hr : (o2 && decide (x2 ≤ x1) && decide (x1 < x0)) = r) => show NB w (w2.setCell ⟨w.heap.size + 1 + 1, 0, none⟩ (.bool r)) C V r (n + 2) (C.ins.length + C.lats.length + (q + 1)) (q + 1) from by
                have k2 := Kp.set w2 ⟨w.heap.size + 1 + 1, 0, none⟩ (.bool r)
                exact ⟨HB2.out.c.kp k2 (by simp; omega), HB2.out.x.kp k2 (by simp), HB2.out.bo.set_same 0 _, by rw [← hr]; exact okP_gate HB2.out.ok HG3.out, HB2.out.nk, HB2.out.kp.trans k2 (fun j hj e => by have e2 : j = w.heap.size + 1 + 1 := e; omega)⟩)
              have c0 := HB2.out.bo.cell (i := 0) (v := .bool o2) rfl
              have f0 := Blk.free HB2.out.bo 0
              have x0' := HX2.out.cell (i := 0) (v := .int .i64 x0) rfl
              have x1' := HX2.out.cell (i := 1) (v := .int .i64 x1) rfl
              have x2' := HX2.out.cell (i := 2) (v := .int .i64 x2) rfl
              have HXs := HX2
              clear ho2 nb0
              cases o2 with
              | false =>
                have HF3 := Lib.hid (HFin.out false rfl)
                clear HFin HXs
                go_wp2_with fail
                go_roundw
                case rel => exact ⟨q + 1, false, n + 2, by go_num, by omega, HF3.out⟩
                case measure => simp [intOf]; omega
              | true =>
                cases g1 : decide (x2 ≤ x1) with
                | false =>
                  have HF3 := Lib.hid (HFin.out false (by rw [g1]; rfl))
                  clear HFin HXs
                  go_wp2_with fail
                  go_roundw
                  case rel => exact ⟨q + 1, false, n + 2, by go_num, by omega, HF3.out⟩
                  case measure => simp [intOf]; omega
                | true =>
                  obtain ⟨r3, g2⟩ : ∃ r, decide (x1 < x0) = r := ⟨_, rfl⟩
                  have HF3 := Lib.hid (HFin.out r3 (by rw [g1, g2]; rfl))
                  clear HFin HXs
                  go_wp2_with fail
                  go_roundw
                  case rel => exact ⟨q + 1, r3, n + 2, by go_num, by omega, HF3.out⟩
                  case measure => simp [intOf]; omega
            · obtain rfl : q = C.gates.length := by omega
              obtain ⟨a0, a1, a2, a3, a4, a5, a6, a7, a8⟩ := Blk.cells9 (show Blk wp w.heap.size #[.int .i64 C.max, .slice V.ai C.ins.length V.ci, .slice V.al C.lats.length V.cl, .slice V.ao C.outs.length V.co, .slice V.ab C.bads.length V.cb, .slice V.ac C.cons.length V.cc, .slice V.ag C.gates.length V.cg, .slice V.ay V.ny V.cy, .string V.cm] 27 from HBk.out.c)
              have b0 := HBk.out.bo.cell (i := 0) (v := .bool o) rfl
              have b1 := HBk.out.x.cell (i := 0) (v := .int .i64 n) rfl
              cases o with
              | false =>
                have HNo := Lib.hid (show ¬ NormC C from fun h => by
                  have h2 := (normC_iff.1 h).2.2
                  rw [owned_len] at h2
                  have := HBk.out.ok.2 h2
                  cases this)
                go_wp2_with fail
                go_ret
                exact ⟨false, rfl, ⟨fun h => (by cases h), fun h => absurd h HNo.out⟩, HBk.out.kp⟩
              | true =>
                have HCk := Lib.hid (circ_Chk V C wp (HA.out.kp HBk.out.kp) HF.out)
                unfold cvals at HCk
                have HOk := Lib.hid (HBk.out.ok.1 rfl)
                have HNk := Lib.hid (show n = 2 * ((C.owned.length : Nat) : Int) + 2 from by rw [owned_len]; exact HBk.out.nk)
                by_cases hq : n = wrap64 (wrap64 (2 * C.max) + 2)
                · have hq1 : (n == wrap64 (wrap64 (2 * C.max) + 2)) = true := by simpa using hq
                  obtain ⟨k, hk⟩ : ∃ k, ckCode C = k := ⟨_, rfl⟩
                  rw [hk] at HCk
                  obtain ⟨r, hr⟩ : ∃ r, ((k : Int) == 0) = r := ⟨_, rfl⟩
                  have HR := Lib.hid (show r = true ↔ NormC C from by
                    rw [← hr, beq_iff_eq, ← hk, normC_iff]
                    constructor
                    · intro h0
                      have hg := GoodC.of h0
                      have m0 := hg.rng.max0
                      have m1 := hg.rng.max1
                      have h2 := HNk.out
                      have h3 := hq
                      unfold wrap64 at h3
                      have h4 := HOk.out
                      rw [← owned_len] at h4
                      exact ⟨h0, by omega, h4⟩
                    · exact fun h => h.1)
                  have HQ := Lib.hid hq
                  clear hq hk
                  go_wp2_with (go_at_call 16; with_reducible refine Calls.mono HCk.out ?_; rintro e w2 ⟨rfl, hK2⟩)
                  go_ret
                  exact ⟨r, rfl, HR.out, HBk.out.kp.trans hK2 (fun _ _ h => h)⟩
                · have hq1 : (n == wrap64 (wrap64 (2 * C.max) + 2)) = false := by simpa using hq
                  have HNo := Lib.hid (show ¬ NormC C from fun h => hq (by
                    have m0 := h.good.rng.max0
                    have m1 := h.good.rng.max1
                    have h2 := HNk.out
                    have h3 := h.max
                    unfold wrap64
                    omega))
                  clear hq
                  go_wp2_with fail
                  go_ret
                  exact ⟨false, rfl, ⟨fun h => (by cases h), fun h => absurd h HNo.out⟩, HBk.out.kp⟩

end Go.Proofs.YtckmdcmkjmpiaaaGreatDoor

/-
  latchetref11.Check: what is wrong with any circuit. (Printed by mkrefcheck.py.)
-/
namespace Go.Proofs.YtckmdcmkjmpiaaaGreatDoor
open Go.RowKit

end Go.Proofs.YtckmdcmkjmpiaaaGreatDoor

/-
  latchetref14.Normal.
-/
namespace Go.Proofs.YtckmdcmkjmpiaaaGreatDoor
open Go.RowKit

/-- what tells whether a circuit is numbered so -/
def NormP (C : Circ) (w : World) (e : Ending) (w' : World) : Prop := ∃ r : Bool, e = .returned (.bool r) ∧ (r = true ↔ NormC C) ∧ Kp (fun _ => False) w w'
theorem NormP.mk {C : Circ} {w w' : World} {e : Ending} (r : Bool) (h1 : e = .returned (.bool r)) (h2 : r = true ↔ NormC C) (h3 : Kp (fun _ => False) w w') : NormP C w e w' := ⟨r, h1, h2, h3⟩

end Go.Proofs.YtckmdcmkjmpiaaaGreatDoor

/-
  The library's contracts at this dump, as the kit's own tool lays them.
-/
namespace Go.Proofs
open Go.Shelf
def Tryz.lays169_ren : Go.Shelf.Ren := ⟨fun | 169 => 59 | n => n, fun | 70 => 106 | 9 => 9 | 0 => 0 | 72 => 109 | 37 => 107 | 127 => 149 | 3 => 3 | 5 => 5 | n => n, fun | n => n⟩
theorem Tryz.lays169 : Go.Proofs.Lays.n169 Tryz.prog Tryz.lays169_ren := {
  mixed := by kernel_rfl
  f169 := Tryz.func59.trans (congrArg some (by kernel_rfl))
  t0 := Tryz.underlying0
  a0 := Tryz.isAgg0
  z0 := Tryz.sizeOf0
  v0 := Tryz.zeroValue0
  t3 := Tryz.underlying3
  a3 := Tryz.isAgg3
  z3 := Tryz.sizeOf3
  v3 := Tryz.zeroValue3
  t9 := Tryz.underlying9
  a9 := Tryz.isAgg9
  z9 := Tryz.sizeOf9
  v9 := Tryz.zeroValue9
  t37 := Tryz.underlying107
  a37 := Tryz.isAgg107
  z37 := Tryz.sizeOf107
  v37 := Tryz.zeroValue107
  t70 := Tryz.underlying106
  a70 := Tryz.isAgg106
  z70 := Tryz.sizeOf106
  v70 := Tryz.zeroValue106
  t72 := Tryz.underlying109
  a72 := Tryz.isAgg109
  z72 := Tryz.sizeOf109
  v72 := Tryz.zeroValue109
  t127 := Tryz.underlying149
  a127 := Tryz.isAgg149
  z127 := Tryz.sizeOf149
  v127 := Tryz.zeroValue149 }
theorem Tryz.Builder_Extra_169 : Builder.Extra Tryz.prog Tryz.lays169_ren := {
  sizeBuilder := by kernel_rfl
  liesBuilder := by kernel_rfl
  t5 := Tryz.underlying5
  a5 := Tryz.isAgg5
  z5 := Tryz.sizeOf5
  v5 := Tryz.zeroValue5
  infoByte := by kernel_rfl
  cellsByte := by kernel_rfl
  sizeByte := by kernel_rfl
  neB5 := by decide }
open Go.RowKit in
theorem Tryz.Builder_String_any (B b : Nat) (l : List UInt8) (w : World) (h : Lib.IsBuilder 109 5 B b (Lib.byteCells l) w) (hBw : B ≤ w.heap.size) :
    Calls Tryz.prog 59 #[.pointer (some ⟨b, 0, none⟩)] w fun e w' => e = .returned (.string ⟨l.toArray⟩) ∧ Below B w w' := Any.Builder_String_any Tryz.lays169 Tryz.Builder_Extra_169 B b l w h hBw
end Go.Proofs

/-
  strings.Builder: copyCheck, WriteByte, WriteString at this dump, over the kit's own predicate (Lib.IsBuilder).
-/
namespace Go.Proofs.YtckmdcmkjmpiaaaGreatDoor
open Go.RowKit

theorem bldSize : (Tryz.prog.info? 109).map (·.size) = some 2 := by kernel_rfl
theorem bldLies : liesAt Tryz.prog Tryz.prog.depth 109 (2 / Tryz.prog.cellsOf 109) 0 109 1 = true := by kernel_rfl

set_option maxHeartbeats 1000000 in
set_option maxRecDepth 100000 in
theorem bld_used (b : Nat) (w : World) (h0 : w.cell? ⟨b, 0, none⟩ = some (.pointer (some ⟨b, 0, none⟩))) :
    Calls Tryz.prog 80 #[.pointer (some ⟨b, 0, none⟩)] w fun e w' => e = .returned (.tuple #[]) ∧ w' = w := by
  obtain ⟨j, hj, _⟩ := Option.map_eq_some_iff.1 bldSize
  go_enter Tryz.func80, Tryz.ntmps80
  go_wp2
  rw [Lib.run_neq_ptr_same w _ Tryz.underlying106 hj]
  go_wp2
  go_end0
  exact ⟨rfl, rfl⟩

set_option maxHeartbeats 1000000 in
set_option maxRecDepth 100000 in
theorem bld_fresh (b : Nat) (w : World) (h0 : w.cell? ⟨b, 0, none⟩ = some (.pointer none)) (hsh : w.shape? b = some (109, 2)) (hfz : w.frozen? ⟨b, 0, none⟩ = false) :
    Calls Tryz.prog 80 #[.pointer (some ⟨b, 0, none⟩)] w fun e w' => e = .returned (.tuple #[]) ∧ w' = w.setCell ⟨b, 0, none⟩ (.pointer (some ⟨b, 0, none⟩)) := by
  obtain ⟨j, hj, hjs⟩ := Option.map_eq_some_iff.1 bldSize
  go_enter Tryz.func80, Tryz.ntmps80
  go_wp2
  rw [Lib.run_to_unsafe w ⟨b, 0, none⟩ Tryz.underlying106 Tryz.underlying164 hj (by rw [hjs]; decide) hsh (Nat.zero_lt_succ 1)]
  simp only [Result.andThen]
  rw [Oper.upon_value]
  go_wp2
  rw [run_callFunc_extern Tryz.func95 (by kernel_rfl) (by kernel_rfl) (by kernel_rfl) (e := Extern.AbiNoEscape.same) (by kernel_rfl)]
  rw [Lib.run_noEscape]
  simp only [Result.andThen]
  rw [Oper.upon_value]
  go_wp2
  rw [Lib.run_from_unsafe w ⟨b, 0, none⟩ Tryz.underlying164 Tryz.underlying106 hj hsh bldLies]
  simp only [Result.andThen]
  rw [Oper.upon_value]
  go_wp2
  go_end0
  exact ⟨rfl, rfl⟩

theorem bldByte : (Tryz.prog.info? 5).map (fun i => (i.zero, i.size, i.bytes)) = some (some (.int .u8 0), 1, 1) := by kernel_rfl

end Go.Proofs.YtckmdcmkjmpiaaaGreatDoor

/-
  strings.Builder: WriteByte, WriteString, with a sharper word on what is written.
-/
namespace Go.Proofs.YtckmdcmkjmpiaaaGreatDoor
open Go.RowKit

/-- what writing into the builder at block b may turn: that block, and blocks of bytes -/
def BFr (b : Nat) (w : World) (j : Nat) : Prop := j = b ∨ ∃ c, Blk w j c 5

theorem BFr.not {b j : Nat} {w : World} {c : Array Value} {t : TypeId} (h : Blk w j c t) (hj : j ≠ b) (ht : t ≠ 5) : ¬ BFr b w j := by
  rintro (e | ⟨c', h'⟩)
  · exact hj e
  · unfold Blk at h h'
    rw [h] at h'
    simp at h'
    exact ht h'.2

theorem bld_checkK (B b : Nat) (bs : List Value) (w : World) (h : Lib.IsBuilder 109 5 B b bs w) :
    Calls Tryz.prog 80 #[.pointer (some ⟨b, 0, none⟩)] w fun e w' => e = .returned (.tuple #[]) ∧ Lib.BuilderAt 109 5 B b (.pointer (some ⟨b, 0, none⟩)) bs w' ∧ Kp (· = b) w w' := by
  rcases h with h | h
  · refine (bld_fresh b w h.cell0 h.shape h.frozen0).mono ?_
    rintro e w' ⟨rfl, rfl⟩
    exact ⟨rfl, h.used _, Kp.set w ⟨b, 0, none⟩ _⟩
  · refine (bld_used b w h.cell0).mono ?_
    rintro e w' ⟨rfl, rfl⟩
    exact ⟨rfl, h, Kp.refl _ _⟩

set_option maxHeartbeats 1000000 in
set_option maxRecDepth 100000 in
theorem bld_byteK (B b : Nat) (bs : List Value) (c : Int) (w : World) (h : Lib.IsBuilder 109 5 B b bs w) (hlen : bs.length + 1 ≤ 140737488355328) (hBw : B ≤ w.heap.size) :
    Calls Tryz.prog 62 #[.pointer (some ⟨b, 0, none⟩), .int .u8 c] w fun e w' => e = .returned .nilIface ∧ Lib.BuilderAt 109 5 B b (.pointer (some ⟨b, 0, none⟩)) (bs ++ [.int .u8 c]) w' ∧ Below B w w' ∧ Kp (BFr b w) w w' := by
  obtain ⟨i0, hi, hz0, hz1, hz2⟩ := info_parts bldByte
  go_enter Tryz.func62, Tryz.ntmps62
  go_wp2_with (go_at_call 80; refine (bld_checkK B b bs _ h).mono ?_)
  rintro e w1 ⟨rfl, h1, hk1⟩
  have hb1 : Below B w w1 := hk1.below hBw (fun k hk e => by have := h1.1; omega)
  obtain ⟨hB, v, hbk, hown, hne⟩ := h1
  have c0 : w1.cell? ⟨b, 0, none⟩ = some (.pointer (some ⟨b, 0, none⟩)) := by rw [Lib.cell_of_heap hbk]; rfl
  have c1 : w1.cell? ⟨b, 1, none⟩ = some v := by rw [Lib.cell_of_heap hbk]; rfl
  go_wp2_with (at_builtin; refine wpList_append_own _ rfl _ _ 107 rfl B 5 i0 (.int .u8 0) 1 1 Tryz.underlying107 hi hz0 hz1 hz2 rfl (by decide) _ _ _ rfl (hown.alloc _) ⟨w1.heap.size, 0, none⟩ 1 1 [.int .u8 c] rfl rfl ?c1 ?c2 ?c3 ?c4 ?c5 ?_)
  case c1 =>
    intro j u hj
    match j, hj with
    | 0, hj => simp at hj; subst hj; simp [Addr.add]
  case c2 => intro u hu; simp at hu; subst hu; rfl
  case c3 => unfold maxLen; omega
  case c4 => omega
  case c5 => have := hb1.size; simp; omega
  intro v' w2 hown' hgrow _
  have hlt : b < w1.heap.size := (Array.getElem?_eq_some_iff.1 hbk).1
  have hb2 : w2.heap[b]? = some (.cells #[.pointer (some ⟨b, 0, none⟩), v] 109 (0, 0)) := by
    rw [hgrow.block b (by simp; omega) (fun e => hne e.symm), Lib.alloc_old w1 _ b hlt]
    exact hbk
  have d0 : w2.cell? ⟨b, 0, none⟩ = some (.pointer (some ⟨b, 0, none⟩)) := by rw [Lib.cell_of_heap hb2]; rfl
  have d1 : w2.cell? ⟨b, 1, none⟩ = some v := by rw [Lib.cell_of_heap hb2]; rfl
  have f1 : w2.frozen? ⟨b, 1, none⟩ = false := Lib.frozen_of_heap hb2 1
  obtain ⟨g, cap, rfl⟩ : ∃ g cap, v' = .slice (some ⟨g, 0, none⟩) (bs.length + 1) cap := by
    rcases hown'.2 with ⟨_, h0⟩ | ⟨g, cap, cur, hv, _⟩
    · omega
    · exact ⟨g, cap, hv⟩
  go_wp2
  go_ret
  have hsz1 := hk1.size
  have hBF : ∀ k, v.ownBlock = some k → k < w.heap.size → BFr b w k := fun k hk hlw => by
    rcases hown.2 with ⟨rfl, _⟩ | ⟨g, cap, cur, rfl, _, hg, _⟩
    · cases hk
    · have e : g = k := by simpa [Value.ownBlock] using hk
      subst e
      have hgb : g ≠ b := fun e => hne (by rw [e]; rfl)
      exact .inr ⟨cur, (hk1.block g hlw hgb).symm.trans hg⟩
  refine ⟨rfl, ?_, ?_, ?_⟩
  · exact Lib.BuilderAt.put (T := 109) (e := 5) hB hb2 (bs' := bs ++ [.int .u8 c]) (by simpa using hown') (by decide)
  · exact ((hb1.alloc (by have := hb1.size; omega) _).grown hgrow (by have := hb1.size; simp; omega) (fun k hk => (hown.lt k hk).1)).setCell (p := ⟨b, 1, none⟩) hB _
  · exact (((hk1.mono (fun i _ e => .inl e)).alloc _).grown hgrow (fun k hk hl => hBF k hk hl)).setCell (p := ⟨b, 1, none⟩) (fun _ => .inl rfl) _

set_option maxHeartbeats 1000000 in
set_option maxRecDepth 100000 in
theorem bld_stringK (B b : Nat) (bs : List Value) (s : ByteArray) (w : World) (h : Lib.IsBuilder 109 5 B b bs w) (hlen : bs.length + s.size ≤ 140737488355328) (hBw : B ≤ w.heap.size) :
    Calls Tryz.prog 57 #[.pointer (some ⟨b, 0, none⟩), .string s] w fun e w' => e = .returned (.tuple #[.int .i64 s.size, .nilIface]) ∧ Lib.BuilderAt 109 5 B b (.pointer (some ⟨b, 0, none⟩)) (bs ++ Lib.strCells s) w' ∧ Below B w w' ∧ Kp (BFr b w) w w' := by
  obtain ⟨i0, hi, hz0, hz1, hz2⟩ := info_parts bldByte
  go_enter Tryz.func57, Tryz.ntmps57
  go_wp2_with (go_at_call 80; refine (bld_checkK B b bs _ h).mono ?_)
  rintro e w1 ⟨rfl, h1, hk1⟩
  have hb1 : Below B w w1 := hk1.below hBw (fun k hk e => by have := h1.1; omega)
  obtain ⟨hB, v, hbk, hown, hne⟩ := h1
  have c0 : w1.cell? ⟨b, 0, none⟩ = some (.pointer (some ⟨b, 0, none⟩)) := by rw [Lib.cell_of_heap hbk]; rfl
  have c1 : w1.cell? ⟨b, 1, none⟩ = some v := by rw [Lib.cell_of_heap hbk]; rfl
  go_wp2_with (at_builtin; refine Lib.wpList_append_own_string _ rfl _ _ 107 9 rfl B 5 i0 Tryz.underlying107 Tryz.underlying9 hi hz0 hz1 hz2 _ _ _ rfl hown s rfl ?c3 ?c4 ?c5 ?_)
  case c3 => unfold maxLen; omega
  case c4 => omega
  case c5 => have := hb1.size; omega
  intro v' w2 hown' hgrow _
  have hlt : b < w1.heap.size := (Array.getElem?_eq_some_iff.1 hbk).1
  have hb2 : w2.heap[b]? = some (.cells #[.pointer (some ⟨b, 0, none⟩), v] 109 (0, 0)) := by
    rw [hgrow.block b hlt (fun e => hne e.symm)]
    exact hbk
  have d0 : w2.cell? ⟨b, 0, none⟩ = some (.pointer (some ⟨b, 0, none⟩)) := by rw [Lib.cell_of_heap hb2]; rfl
  have d1 : w2.cell? ⟨b, 1, none⟩ = some v := by rw [Lib.cell_of_heap hb2]; rfl
  have f1 : w2.frozen? ⟨b, 1, none⟩ = false := Lib.frozen_of_heap hb2 1
  obtain ⟨ao, n', cap, rfl⟩ : ∃ ao n' cap, v' = .slice ao n' cap := by
    rcases hown'.2 with ⟨hv, _⟩ | ⟨g, cap, cur, hv, _⟩
    · exact ⟨_, _, _, hv⟩
    · exact ⟨_, _, _, hv⟩
  go_wp2
  go_ret2
  have hsz1 := hk1.size
  have hBF : ∀ k, v.ownBlock = some k → k < w.heap.size → BFr b w k := fun k hk hlw => by
    rcases hown.2 with ⟨rfl, _⟩ | ⟨g, cap, cur, rfl, _, hg, _⟩
    · cases hk
    · have e : g = k := by simpa [Value.ownBlock] using hk
      subst e
      have hgb : g ≠ b := fun e => hne (by rw [e]; rfl)
      exact .inr ⟨cur, (hk1.block g hlw hgb).symm.trans hg⟩
  refine ⟨rfl, ?_, ?_, ?_⟩
  · exact Lib.BuilderAt.put (T := 109) (e := 5) hB hb2 (bs' := bs ++ Lib.strCells s) (by simpa [Lib.strCells_length] using hown') (by decide)
  · exact (hb1.grown hgrow (by have := hb1.size; omega) (fun k hk => (hown.lt k hk).1)).setCell (p := ⟨b, 1, none⟩) hB _
  · exact ((hk1.mono (fun i _ e => .inl e)).grown hgrow (fun k hk hl => hBF k hk hl)).setCell (p := ⟨b, 1, none⟩) (fun _ => .inl rfl) _

end Go.Proofs.YtckmdcmkjmpiaaaGreatDoor

/-
  latchetlaw01: lives; the table that strconv.Itoa reads.
-/
namespace Go.Proofs.YtckmdcmkjmpiaaaGreatDoor
open Go.RowKit

/-- the table of powers of ten lies as its text lays it -/
def Tab (w : World) : Prop := Lib.TabIs Tryz.prog w "internal/strconv.uint64pow10" .u64 Lib.pow10Tab

theorem gPow : Tryz.prog.globalNamed "internal/strconv.uint64pow10" = some 3 := by kernel_rfl

theorem Tab.lt {w : World} (h : Tab w) : 3 < w.heap.size :=
  World.block_lt_of_cell? w _ (Lib.TabIs.cell h gPow 0 (by decide))

theorem Tab.kp {w w' : World} (h : Tab w) (k : Kp (fun _ => False) w w') : Tab w' :=
  var?_below (k.below (Nat.le_refl _) (fun _ _ h => h)) gPow h.lt h

theorem kp_grow (w : World) (k : Nat) (os : Array Obj) : Kp (fun _ => False) w (Sort.grow (w.drewN k) os) := by
  refine ⟨rfl, rfl, rfl, ?_, fun i hi _ => ?_⟩
  · show w.heap.size ≤ (w.heap ++ os).size
    simp
  · show (w.heap ++ os)[i]? = _
    rw [Array.getElem?_append_left hi]

theorem octet_Dec (n : Int) (w : World) (h0 : -9223372036854775808 ≤ n) (h1 : n ≤ 9223372036854775807) (ht : Tab w) :
    Calls Tryz.prog 61 #[.int .i64 n] w fun e w' => e = .returned (.string ⟨(Lib.itoa n).toArray⟩) ∧ Kp (fun _ => False) w w' := by
  have HT := Lib.hid ht; clear ht
  go_enter Tryz.func61, Tryz.ntmps61
  go_wp2_with fail
  refine (Tryz.strconv_Itoa n h0 h1 _ HT.out).mono ?_
  rintro e w' ⟨rfl, k, os, rfl⟩
  go_wp2_with fail
  go_ret
  exact ⟨rfl, kp_grow _ _ _⟩

end Go.Proofs.YtckmdcmkjmpiaaaGreatDoor

/-
  latchetref01.Num and Dec: what they compute.
-/
namespace Go.Proofs.YtckmdcmkjmpiaaaGreatDoor
open Go.RowKit

theorem cat_bytes (a b : List UInt8) : (⟨a.toArray⟩ : ByteArray) ++ ⟨b.toArray⟩ = ⟨(a ++ b).toArray⟩ := by
  apply ByteArray.ext; simp

end Go.Proofs.YtckmdcmkjmpiaaaGreatDoor

/-
  latchetref01.Dec: what it computes: strconv.Itoa's numeral.
-/
namespace Go.Proofs.YtckmdcmkjmpiaaaGreatDoor
open Go.RowKit

theorem decLen : ∀ (k u : Nat), u < 10 ^ (k + 1) → (Lib.decDigits u).length ≤ k + 1
  | 0, u, h => by rw [Lib.decDigits, dif_pos (by simpa using h)]; simp
  | k + 1, u, h => by
    by_cases hu : u < 10
    · rw [Lib.decDigits, dif_pos hu]; simp
    · rw [Lib.decDigits, dif_neg hu]
      have := decLen k (u / 10) (by rw [Nat.pow_succ] at h; omega)
      simp; omega

theorem itoaLen {n : Int} (h1 : -9223372036854775808 ≤ n) (h2 : n ≤ 9223372036854775807) : (Lib.itoa n).length ≤ 21 := by
  have h := decLen 19 n.natAbs (by omega)
  unfold Lib.itoa
  split
  · simp; omega
  · have e : n.toNat = n.natAbs := by omega
    rw [e]; omega

end Go.Proofs.YtckmdcmkjmpiaaaGreatDoor

/-
  latchetref02.Ints: whether two lists of ints are one.
-/
namespace Go.Proofs.YtckmdcmkjmpiaaaGreatDoor
open Go.RowKit

theorem ints_ext {l l' : List Int} (hl : l.length = l'.length) (h : ∀ j, j < l.length → gi l j = gi l' j) : l = l' := by
  apply List.ext_getElem?
  intro j
  by_cases hj : j < l.length
  · have := h j hj
    unfold gi at this
    rw [List.getElem?_eq_getElem hj, List.getElem?_eq_getElem (by omega)] at this ⊢
    simpa using this
  · rw [List.getElem?_eq_none (by omega), List.getElem?_eq_none (by omega)]

set_option maxHeartbeats 400000 in
theorem ref_Ints (a a' : Option Addr) (n n' cap cap' : Nat) (l l' : List Int) (w : World) (ha : IntsAt w a l) (ha' : IntsAt w a' l') (hl : l.length = n) (hl' : l'.length = n') (hn : n ≤ 9223372036854775807) :
    Calls Tryz.prog 22 #[.slice a n cap, .slice a' n' cap'] w fun e w' => e = .returned (.bool (l == l')) ∧ ∃ n, w' = w.drewN n := by
  have HL := Lib.hid hl; clear hl
  have HL' := Lib.hid hl'; clear hl'
  by_cases hne : n = n'
  · subst hne
    have b1 : ((n : Int) != (n : Int)) = false := by simp
    go_enter Tryz.func22, Tryz.ntmps22
    go_wp2
    go_loopw [5] (fun i wr => ∃ k m : Nat, k ≤ n ∧ i = .int .i64 k ∧ (∀ j, j < k → gi l j = gi l' j) ∧ wr = w.drewN m) (fun i _ => n - (intOf i).toNat)
    case atStart => exact ⟨0, 0, Nat.zero_le _, rfl, fun j hj => by omega, rfl⟩
    case round =>
      obtain ⟨k, m, hk, rfl, he, rfl⟩ := hrel
      have HE := Lib.hid he
      clear he
      by_cases hlt : k < n
      · obtain ⟨b, off, rfl, hc⟩ := ha.get (j := k) (by rw [HL.out]; exact hlt)
        obtain ⟨b', off', rfl, hc'⟩ := ha'.get (j := k) (by rw [HL'.out]; exact hlt)
        have i1 : (0 : Int) ≤ (k : Int) := by omega
        have i2 : (k : Int) < (n : Int) := by omega
        by_cases hq : gi l k = gi l' k
        · have q1 : (gi l k != gi l' k) = false := by simp [hq]
          have HQ := Lib.hid hq
          clear hq
          go_wp2
          go_quiet (fail)
          go_wp2
          go_roundw
          case rel =>
            refine ⟨k + 1, _, by omega, by go_num, fun j hj => ?_, rfl⟩
            by_cases e : j = k
            · subst e; exact HQ.out
            · exact HE.out j (by omega)
          case measure => simp [intOf]; omega
        · have q1 : (gi l k != gi l' k) = true := by simp [hq]
          have HQ := Lib.hid hq
          clear hq
          go_wp2
          go_quiet (fail)
          go_wp2
          go_ret
          have e : (l == l') = false := by
            rw [beq_eq_false_iff_ne]
            intro e
            exact HQ.out (by rw [e])
          rw [e]
          exact ⟨rfl, _, World.drewN_drewN ..⟩
      · go_wp2
        go_ret
        have e : (l == l') = true := by
          rw [beq_iff_eq]
          exact ints_ext (by rw [HL.out, HL'.out]) (fun j hj => HE.out j (by rw [HL.out] at hj; omega))
        rw [e]
        exact ⟨rfl, _, rfl⟩
  · have b1 : ((n : Int) != (n' : Int)) = true := by simp; omega
    have e : Hid ((l == l') = false) := by
      show _ = _
      rw [beq_eq_false_iff_ne]
      intro e
      exact hne (by rw [← HL.out, ← HL'.out, e])
    clear hne
    go_enter Tryz.func22, Tryz.ntmps22
    go_wp2
    go_ret
    rw [e.out]
    exact ⟨rfl, 0, rfl⟩

end Go.Proofs.YtckmdcmkjmpiaaaGreatDoor

/-
  What binary.Write keeps: the builder and the text so far.
-/
namespace Go.Proofs.YtckmdcmkjmpiaaaGreatDoor
open Go.RowKit

theorem wsb_kp {T e : TypeId} {B b : Nat} {bs : List Value} {w w' : World} (h : Lib.IsBuilder T e B b bs w) (k : Kp (fun _ => False) w w') : Lib.IsBuilder T e B b bs w' := by
  have go : ∀ p, Lib.BuilderAt T e B b p bs w → Lib.BuilderAt T e B b p bs w' := by
    rintro p ⟨hB, v, hb, hown, hne⟩
    exact ⟨hB, v, (k.block b (Array.getElem?_eq_some_iff.1 hb).1 (fun h => h)).trans hb, Own.kp (cs := bs) hown k (fun _ _ h => h), hne⟩
  rcases h with h | h
  · exact .inl (go _ h)
  · exact .inr (go _ h)

/-- the circuit's own copy, the builder at B, the text l in it -/
structure WS (w wr : World) (B : Nat) (V : CV) (C : Circ) (l : List UInt8) : Prop where
  c : Blk wr w.heap.size (cvals V C) 27
  b : Lib.IsBuilder 109 5 B B (Lib.byteCells l) wr
  lt : w.heap.size < B
  bw : B < wr.heap.size
  kp : Kp (fun _ => False) w wr

section
variable {w wr w' : World} {B : Nat} {V : CV} {C : Circ} {l : List UInt8}
theorem WS.kp' (h : WS w wr B V C l) (k : Kp (fun _ => False) wr w') : WS w w' B V C l :=
  ⟨h.c.kp k (fun h => h), wsb_kp h.b k, h.lt, by have := h.bw; have := k.size; omega, h.kp.trans k (fun _ _ h => h)⟩
theorem WS.start {w1 : World} (hc : Blk w1 w.heap.size (cvals V C) 27) (hk : Kp (fun _ => False) w w1) : WS w (w1.alloc (.cells #[.pointer none, .slice none 0 0] 109)) w1.heap.size V C [] :=
  ⟨hc.alloc _, Lib.fresh_isBuilder _ _ _, hc.lt, by simp, hk.alloc _⟩
theorem WS.wrote (h : WS w wr B V C l) {m : List UInt8} (hb : Lib.BuilderAt 109 5 B B (.pointer (some ⟨B, 0, none⟩)) (Lib.byteCells m) w') (hw : Below B wr w') (hk : Kp (BFr B wr) wr w') : WS w w' B V C m :=
  ⟨h.c.kp hk (BFr.not h.c (by have := h.lt; omega) (by decide)), .inr hb, h.lt, by have := h.bw; have := hk.size; omega,
    h.kp.trans (show Kp (fun j => B ≤ j) wr w' from ⟨hw.os, hw.tape, hw.output, hw.size, fun k hk hS => hw.block k (by omega)⟩) (fun j hj e => by have := h.lt; have e2 : B ≤ j := e; omega)⟩
/-- a block of the walk's own that no write to the builder turns -/
theorem WS.other (h : WS w wr B V C l) {b : Nat} {c : Array Value} {t : TypeId} (hb : Blk wr b c t) (hB : B ≠ b) (ht : t ≠ 5) (hk : Kp (BFr B wr) wr w') : Blk w' b c t := hb.kp hk (BFr.not hb (fun e => hB e.symm) ht)
theorem ws_str (h : WS w wr B V C l) (T : List UInt8) (s : ByteArray) (hs : s = ⟨T.toArray⟩) (hl : l.length + T.length ≤ 1000000000) :
    Calls Tryz.prog 57 #[.pointer (some ⟨B, 0, none⟩), .string s] wr fun e w' => (∃ v, e = .returned v) ∧ WS w w' B V C (l ++ T) ∧ Kp (BFr B wr) wr w' := by
  subst hs
  refine (bld_stringK B B (Lib.byteCells l) ⟨T.toArray⟩ wr h.b (by rw [Lib.byteCells_length, show (⟨T.toArray⟩ : ByteArray).size = T.length by show T.toArray.size = _; simp]; omega) (by have := h.bw; omega)).mono ?_
  rintro e w' ⟨rfl, hb, hw, hk⟩
  refine ⟨⟨_, rfl⟩, h.wrote ?_ hw hk, hk⟩
  rw [Lib.byteCells_append]
  exact hb
theorem ws_byte (h : WS w wr B V C l) (hl : l.length ≤ 1000000000) :
    Calls Tryz.prog 62 #[.pointer (some ⟨B, 0, none⟩), .int .u8 10] wr fun e w' => (∃ v, e = .returned v) ∧ WS w w' B V C (l ++ [10]) ∧ Kp (BFr B wr) wr w' := by
  refine (bld_byteK B B (Lib.byteCells l) 10 wr h.b (by rw [Lib.byteCells_length]; omega) (by have := h.bw; omega)).mono ?_
  rintro e w' ⟨rfl, hb, hw, hk⟩
  refine ⟨⟨_, rfl⟩, h.wrote ?_ hw hk, hk⟩
  rw [Lib.byteCells_append]
  exact hb
theorem ws_end (h : WS w wr B V C l) : Calls Tryz.prog 59 #[.pointer (some ⟨B, 0, none⟩)] wr fun e w' => e = .returned (.string ⟨l.toArray⟩) ∧ Kp (fun _ => False) w w' := by
  refine (Tryz.Builder_String_any _ _ _ _ h.b (by have := h.bw; omega)).mono ?_
  rintro e w' ⟨rfl, hw⟩
  exact ⟨rfl, h.kp.trans (show Kp (fun j => B ≤ j) wr w' from ⟨hw.os, hw.tape, hw.output, hw.size, fun k hk hS => hw.block k (by omega)⟩) (fun j hj e => by have := h.lt; have e2 : B ≤ j := e; omega)⟩
end

def wl (C : Circ) : Nat → List Int
  | 0 => C.outs
  | 1 => C.bads
  | _ => C.cons
def wtx (C : Circ) (k : Nat) : List UInt8 := C.lats.flatMap latB ++ (List.range k).flatMap (fun i => (wl C i).flatMap oneB)
theorem wtx_zero (C : Circ) : wtx C 0 = C.lats.flatMap latB := by simp [wtx]
theorem wtx_succ (C : Circ) (k : Nat) : wtx C (k + 1) = wtx C k ++ (wl C k).flatMap oneB := by
  unfold wtx; rw [List.range_succ, List.flatMap_append]; simp
theorem wtx_all (C : Circ) : binB C = wtx C 3 ++ C.gates.flatMap gateB := by
  rw [wtx_succ, wtx_succ, wtx_succ, wtx_zero]; unfold binB; rfl

theorem flat_len {α : Type} {f : α → List UInt8} {m : Nat} : ∀ {L : List α}, (∀ x ∈ L, (f x).length ≤ m) → (L.flatMap f).length ≤ L.length * m
  | [], _ => by simp
  | x :: L, h => by
    rw [List.flatMap_cons, List.length_append, List.length_cons, Nat.succ_mul]
    have h1 := h x (by simp)
    have h2 := flat_len (L := L) (fun y hy => h y (by simp [hy]))
    omega

section
variable {C : Circ} (h : NormC C) (hf : CFew C 1000000)
include h hf
theorem norm_max : C.max ≤ 3000000 := by
  have h1 := h.max
  rw [owned_len] at h1
  have := hf.i
  have := hf.l
  have := hf.g
  omega
theorem norm_use {x : Int} (hx : x ∈ C.used) : 0 ≤ x ∧ x ≤ 6000001 := by
  have h1 := h.good.rng.use x hx
  have h2 := norm_max h hf
  omega
theorem norm_wl {k : Nat} {x : Int} (hx : x ∈ wl C k) : 0 ≤ x ∧ x ≤ 6000001 := by
  refine norm_use h hf ?_
  unfold Circ.used
  match k, hx with
  | 0, hx => have : x ∈ C.outs := hx; simp [this]
  | 1, hx => have : x ∈ C.bads := hx; simp [this]
  | k + 2, hx => have : x ∈ C.cons := hx; simp [this]
theorem norm_lat {k : Nat} (hk : k < C.lats.length) : (0 ≤ (g3 C.lats k).2.1 ∧ (g3 C.lats k).2.1 ≤ 6000001) ∧ 0 ≤ (g3 C.lats k).2.2 ∧ (g3 C.lats k).2.2 ≤ 6000001 := by
  have hm := g3_mem hk
  have h1 := norm_use h hf (x := (g3 C.lats k).2.1) (by unfold Circ.used; simp only [List.mem_append, List.mem_map]; exact .inl (.inr ⟨_, hm, rfl⟩))
  have h2 := h.good.rng.res _ hm
  have h3 := h.good.rng.own (g3 C.lats k).1 (by unfold Circ.owned; simp only [List.mem_append, List.mem_map]; exact .inl (.inr ⟨_, hm, rfl⟩))
  have h4 := norm_max h hf
  refine ⟨h1, ?_⟩
  omega
theorem norm_gate {k : Nat} (hk : k < C.gates.length) : 0 ≤ (g3 C.gates k).2.2 ∧ (g3 C.gates k).2.2 ≤ (g3 C.gates k).2.1 ∧ (g3 C.gates k).2.1 < (g3 C.gates k).1 ∧ (g3 C.gates k).1 ≤ 6000001 := by
  have hm := g3_mem hk
  have h1 := norm_use h hf (x := (g3 C.gates k).2.2) (by unfold Circ.used; simp only [List.mem_append, List.mem_flatMap]; exact .inr ⟨_, hm, by simp⟩)
  have h2 := h.gate _ hm
  have h3 := h.good.rng.own (g3 C.gates k).1 (by unfold Circ.owned; simp only [List.mem_append, List.mem_map]; exact .inr ⟨_, hm, rfl⟩)
  have h4 := norm_max h hf
  omega
end

theorem latB_len {x : Int × Int × Int} (h : (0 ≤ x.2.1 ∧ x.2.1 ≤ 6000001) ∧ 0 ≤ x.2.2 ∧ x.2.2 ≤ 6000001) : (latB x).length ≤ 44 := by
  have h1 := itoaLen (n := x.2.1) (by omega) (by omega)
  have h2 := itoaLen (n := x.2.2) (by omega) (by omega)
  unfold latB lineB
  split <;> simp <;> omega
theorem oneB_len {x : Int} (h : 0 ≤ x ∧ x ≤ 6000001) : (oneB x).length ≤ 22 := by
  have h1 := itoaLen (n := x) (by omega) (by omega)
  unfold oneB
  simp; omega
theorem gateB_len (x : Int × Int × Int) : (gateB x).length ≤ 12 := by
  have h1 := numL_length 5 (x.1 - x.2.1).toNat
  have h2 := numL_length 5 (x.2.1 - x.2.2).toNat
  unfold gateB
  rw [List.length_append]; omega

section
variable {C : Circ} (h : NormC C) (hf : CFew C 1000000)
include h hf
theorem lats_len (k : Nat) : ((C.lats.take k).flatMap latB).length ≤ 44000000 := by
  have := flat_len (f := latB) (m := 44) (L := C.lats.take k) (fun x hx => by
    obtain ⟨i, hi⟩ := List.mem_iff_getElem?.1 (List.mem_of_mem_take hx)
    have hl : i < C.lats.length := (List.getElem?_eq_some_iff.1 hi).1
    have h1 := norm_lat h hf hl
    rw [g3_some hl] at hi
    rw [Option.some.inj hi] at h1
    exact latB_len h1)
  have h2 := hf.l
  rw [List.length_take] at this
  omega
theorem wl_len (k j : Nat) : (((wl C k).take j).flatMap oneB).length ≤ 22000000 := by
  have := flat_len (f := oneB) (m := 22) (L := (wl C k).take j) (fun x hx => oneB_len (norm_wl h hf (List.mem_of_mem_take hx)))
  have h2 : (wl C k).length ≤ 1000000 := by
    match k with
    | 0 => exact hf.o
    | 1 => exact hf.b
    | k + 2 => exact hf.c
  rw [List.length_take] at this
  omega
theorem wtx_len (k : Nat) : (wtx C k).length ≤ 44000000 + k * 22000000 := by
  induction k with
  | zero =>
    rw [wtx_zero]
    have := lats_len h hf C.lats.length
    rw [List.take_length] at this
    omega
  | succ k ih =>
    rw [wtx_succ, List.length_append]
    have := wl_len h hf k (wl C k).length
    rw [List.take_length] at this
    omega
omit h in
theorem gates_len (k : Nat) : ((C.gates.take k).flatMap gateB).length ≤ 12000000 := by
  have := flat_len (f := gateB) (m := 12) (L := C.gates.take k) (fun x _ => gateB_len x)
  have h2 := hf.g
  rw [List.length_take] at this
  omega
end

/-- the three lists that are written alike -/
theorem wcell {w : World} {V : CV} {C : Circ} (h : CAt w V C) {k : Nat} (hk : k < 3) :
    ∃ a n c, (#[.slice V.ao C.outs.length V.co, .slice V.ab C.bads.length V.cb, .slice V.ac C.cons.length V.cc] : Array Value)[k]? = some (.slice a n c) ∧ (wl C k).length = n ∧ IntsAt w a (wl C k) := by
  match k, hk with
  | 0, _ => exact ⟨_, _, _, rfl, rfl, h.o⟩
  | 1, _ => exact ⟨_, _, _, rfl, rfl, h.b⟩
  | 2, _ => exact ⟨_, _, _, rfl, rfl, h.c⟩

end Go.Proofs.YtckmdcmkjmpiaaaGreatDoor

/-
  The head of a circuit's file in plain words: which head a text begins with, or what is wrong and where; and a head's line. No program in sight.
-/
namespace Go.Proofs.YtckmdcmkjmpiaaaGreatDoor
open Go.RowKit

/-- the next number and the sign behind it: the number, the place behind both, the error, whether the line ends -/
def stepH (s : ByteArray) (k p : Nat) : Nat × Nat × Nat × Bool :=
  if (natN s p).2.2 ≠ 0 then (0, p, (natN s p).2.2, false)
  else if (if 7 ≤ k then 0 else 16777216) < (natN s p).1 then (0, p, 5, false)
  else if (natN s p).2.1 = s.size then (0, (natN s p).2.1, 3, false)
  else if bt s (natN s p).2.1 = 10 ∧ 4 ≤ k then ((natN s p).1, (natN s p).2.1 + 1, 0, true)
  else if bt s (natN s p).2.1 = 32 ∧ k < 8 then ((natN s p).1, (natN s p).2.1 + 1, 0, false)
  else (0, (natN s p).2.1, 2, false)

/-- the numbers of the line -/
def headL (s : ByteArray) : Nat → Nat → List Nat → List Nat × Nat × Nat
  | 0, p, l => (l, p, 0)
  | f + 1, p, l =>
    if (stepH s l.length p).2.2.1 ≠ 0 then ([], (stepH s l.length p).2.1, (stepH s l.length p).2.2.1)
    else if (stepH s l.length p).2.2.2 = true then (l ++ [(stepH s l.length p).1], (stepH s l.length p).2.1, 0)
    else headL s f (stepH s l.length p).2.1 (l ++ [(stepH s l.length p).1])

def nth (l : List Nat) (k : Nat) : Nat := l[k]?.getD 0

theorem nth_ge {l : List Nat} {k : Nat} (h : l.length ≤ k) : nth l k = 0 := by unfold nth; rw [List.getElem?_eq_none h]; rfl
theorem nth_snoc_lt {l : List Nat} {k x : Nat} (h : k < l.length) : nth (l ++ [x]) k = nth l k := by unfold nth; rw [List.getElem?_append_left h]
theorem nth_snoc {l : List Nat} {x : Nat} : nth (l ++ [x]) l.length = x := by unfold nth; simp

/-- whether a text begins as a head does -/
def isHead (s : ByteArray) : Prop := 4 ≤ s.size ∧ bt s 0 = 97 ∧ (bt s 1 = 97 ∨ bt s 1 = 105) ∧ bt s 2 = 103 ∧ bt s 3 = 32

instance (s : ByteArray) : Decidable (isHead s) := by unfold isHead; infer_instance

/-- whether the gates, latches and inputs are more than the head's variables, or, in the short form, fewer -/
def badSum (bin : Bool) (l : List Nat) : Prop := nth l 0 < nth l 1 + nth l 2 + nth l 4 ∨ bin = true ∧ nth l 1 + nth l 2 + nth l 4 < nth l 0

instance (b : Bool) (l : List Nat) : Decidable (badSum b l) := by unfold badSum; infer_instance

/-- the head with which a text begins, the place and the error -/
def headT (s : ByteArray) : Bool × List Nat × Nat × Nat :=
  if ¬ isHead s then (false, [], 0, 2)
  else if (headL s 9 4 []).2.2 ≠ 0 then (false, [], (headL s 9 4 []).2.1, (headL s 9 4 []).2.2)
  else if badSum (decide (bt s 1 = 105)) (headL s 9 4 []).1 then (false, [], 4, 5)
  else (decide (bt s 1 = 105), (headL s 9 4 []).1, (headL s 9 4 []).2.1, 0)

theorem stepH_ok {s : ByteArray} {k p : Nat} (hp : p ≤ s.size) (h : (stepH s k p).2.2.1 = 0) :
    p < (stepH s k p).2.1 ∧ (stepH s k p).2.1 ≤ s.size ∧ (stepH s k p).1 ≤ 16777216 ∧ (7 ≤ k → (stepH s k p).1 = 0) := by
  have hE := natN_end (s := s) (p := p) hp
  unfold stepH at h ⊢
  by_cases c1 : (natN s p).2.2 ≠ 0
  · rw [if_pos c1] at h; exact absurd h c1
  have hE := hE (by omega)
  rw [if_neg c1] at h ⊢
  by_cases c2 : (if 7 ≤ k then 0 else 16777216) < (natN s p).1
  · rw [if_pos c2] at h; simp at h
  rw [if_neg c2] at h ⊢
  have c2' : (natN s p).1 ≤ 16777216 ∧ (7 ≤ k → (natN s p).1 = 0) := by
    split at c2 <;> exact ⟨by omega, fun _ => by omega⟩
  by_cases c3 : (natN s p).2.1 = s.size
  · rw [if_pos c3] at h; simp at h
  rw [if_neg c3] at h ⊢
  by_cases c4 : bt s (natN s p).2.1 = 10 ∧ 4 ≤ k
  · rw [if_pos c4]
    refine ⟨?_, ?_, c2'⟩ <;> simp only <;> omega
  rw [if_neg c4] at h ⊢
  by_cases c5 : bt s (natN s p).2.1 = 32 ∧ k < 8
  · rw [if_pos c5]
    refine ⟨?_, ?_, c2'⟩ <;> simp only <;> omega
  rw [if_neg c5] at h; simp at h

/-- the numbers of a head's line -/
def wrow (h : List Int) : List Int := if gi h 6 ≠ 0 then h.take 7 else if gi h 5 ≠ 0 then h.take 6 else h.take 5

/-- a head's line -/
def headW (b : Bool) (h : List Int) : List UInt8 := (if b = true then [97, 105, 103, 32] else [97, 97, 103, 32]) ++ (Lib.join ((wrow h).map Lib.itoa) [32] ++ [10])

theorem wrow_length {h : List Int} (hl : h.length = 7) : 5 ≤ (wrow h).length ∧ (wrow h).length ≤ 7 := by
  unfold wrow
  split
  · simp [hl]
  · split <;> simp [hl]

theorem wrow_gi {h : List Int} (hl : h.length = 7) (k : Nat) : gi (wrow h) k = gi h k := by
  have key : ∀ m, (∀ j, m ≤ j → j < 7 → gi h j = 0) → gi (h.take m) k = gi h k := by
    intro m hz
    unfold gi
    rw [List.getElem?_take]
    split
    · rfl
    · by_cases h7 : k < 7
      · have := hz k (by omega) h7
        unfold gi at this
        rw [this]; rfl
      · rw [List.getElem?_eq_none (by omega)]
  unfold wrow
  split
  · exact key 7 (fun j h1 h2 => by omega)
  · split
    · refine key 6 (fun j h1 h2 => ?_)
      obtain rfl : j = 6 := by omega
      omega
    · refine key 5 (fun j h1 h2 => ?_)
      rcases (show j = 5 ∨ j = 6 by omega) with rfl | rfl <;> omega

end Go.Proofs.YtckmdcmkjmpiaaaGreatDoor

/-
  A line of numbers, as the program and as the reference writes it.
-/
namespace Go.Proofs.YtckmdcmkjmpiaaaGreatDoor
open Go.RowKit

def astrs (L : List ByteArray) : List Value := L.map Value.string
theorem astrInfo : (Tryz.prog.info? 9).map (fun i => (i.zero, i.size, i.bytes)) = some (some (.string .empty), 1, 16) := by kernel_rfl
theorem amade_strs (n : Nat) : madeCells #[.string .empty] n = (astrs (List.replicate n .empty)).toArray := by
  apply Array.ext
  · simp [madeCells, astrs]
  · intro i h1 h2
    simp [madeCells, astrs, Nat.mod_one]
theorem astrs_set (L : List ByteArray) (k : Nat) (x : ByteArray) : (astrs L).toArray.setIfInBounds k (.string x) = (astrs (L.set k x)).toArray := by simp [astrs, List.map_set]
theorem astrs_at {L : List ByteArray} {k : Nat} {x : ByteArray} (h : L[k]? = some x) : (astrs L).toArray[k]? = some (.string x) := by simp [astrs, h]

/-- the numbers with blanks between -/
def jrow (l : List Int) : List UInt8 := Lib.join (l.map Lib.itoa) [32]

theorem jrow_nil : jrow [] = [] := rfl
theorem jrow_snoc (l : List Int) (x : Int) : jrow (l ++ [x]) = (if l.length = 0 then [] else jrow l ++ [32]) ++ Lib.itoa x := by
  cases l with
  | nil => simp [jrow, Lib.join_one]
  | cons a r =>
    rw [if_neg (by simp)]
    unfold jrow
    rw [List.cons_append, List.map_cons, List.map_cons, Lib.join_cons, Lib.join_cons, List.map_append]
    simp [Lib.joinTail]

/-- a number of Go's int -/
def okI (x : Int) : Prop := -9223372036854775808 ≤ x ∧ x ≤ 9223372036854775807

theorem jrow_take_len {l : List Int} (h : ∀ x ∈ l, okI x) : ∀ k, k ≤ l.length → (jrow (l.take k)).length ≤ 22 * k
  | 0, _ => by simp [jrow_nil]
  | k + 1, hk => by
    have ih := jrow_take_len h k (by omega)
    have hx := h _ (List.getElem_mem (show k < l.length by omega))
    have hi := itoaLen hx.1 hx.2
    rw [List.take_succ_eq_append_getElem (by omega), jrow_snoc]
    split <;> simp <;> omega

theorem gi_ok {l : List Int} {k : Nat} (h : ∀ x ∈ l, okI x) (hk : k < l.length) : okI (gi l k) := by
  have : gi l k = l[k] := by simp [gi, List.getElem?_eq_getElem hk]
  rw [this]; exact h _ (List.getElem_mem hk)

def itx (x : Int) : ByteArray := ⟨(Lib.itoa x).toArray⟩

set_option maxRecDepth 100000 in
set_option maxHeartbeats 2000000 in
theorem ascii_row (a : Option Addr) (cap : Nat) (l : List Int) (n : Nat) (w : World) (hr : IntsAt w a l) (hln : l.length = n) (hn : n ≤ 100000) (hok : ∀ x ∈ l, okI x) (ht : Tab w) :
    Calls Tryz.prog 58 #[.slice a n cap] w fun e w' => e = .returned (.string ⟨(jrow l ++ [10]).toArray⟩) ∧ Kp (fun _ => False) w w' := by
  obtain ⟨i0, hi, hz0, hz1, hz2⟩ := info_parts astrInfo
  have hmk : ∀ u : World, (Instr.makeSlice 147 (.int .i64 (n : Int)) (.int .i64 (n : Int))).run Tryz.prog u =
      .ok (.slice (some ⟨u.heap.size, 0, none⟩) n n) (u.alloc (.cells (madeCells #[.string .empty] n) 9)) := fun u => by
    have h := run_make (P := Tryz.prog) u 147 9 i0 (.string .empty) Tryz.underlying147 hi hz0 .i64 .i64 (n : Int) (n : Int) (by omega) (Int.le_refl _) (by rw [hz2]; omega) (by omega)
    simpa [hz1, Value.cells] using h
  clear hi hz0 hz1 hz2 i0
  have hmade := Lib.hid (amade_strs n)
  have HT := Lib.hid ht; clear ht
  have HR := Lib.hid hr; clear hr
  have HLN := Lib.hid hln; clear hln
  have HOk := Lib.hid hok; clear hok
  go_enter Tryz.func58, Tryz.ntmps58
  go_wp2_with fail
  go_loopw [11] (fun i wr => ∃ (k : Nat) (L : List ByteArray), k ≤ n ∧ i = .int .i64 k ∧ L.length = n ∧ (∀ j, j < k → L[j]? = some (itx (gi l j))) ∧ Blk wr w.heap.size (astrs L).toArray 9 ∧ Kp (fun _ => False) w wr) (fun i _ => n - (intOf i).toNat)
  case atStart => exact ⟨0, List.replicate n .empty, Nat.zero_le _, rfl, by simp, fun j hj => by omega, by rw [← hmade.out]; exact Blk.new _ _ _, (Kp.refl _ _).alloc _⟩
  case round =>
    obtain ⟨k, L, hk, rfl, hL, hJ, hB, hK⟩ := hrel
    have HL := Lib.hid hL; clear hL
    have HJ := Lib.hid hJ; clear hJ
    have HB := Lib.hid hB; clear hB
    by_cases hlt : k < n
    · have hd : decide ((k : Int) < (n : Int)) = true := by simp; omega
      obtain ⟨b, off, rfl, hc⟩ := (show IntsAt wr a l from HR.out.kp hK (fun _ _ h => h)).get (j := k) (by rw [HLN.out]; exact hlt)
      have hxo := gi_ok HOk.out (k := k) (by rw [HLN.out]; exact hlt)
      obtain ⟨x, hx⟩ : ∃ x, gi l k = x := ⟨_, rfl⟩
      rw [hx] at hc hxo
      have HX := Lib.hid hx; clear hx
      have HTx := Lib.hid (octet_Dec x wr hxo.1 hxo.2 (HT.out.kp hK))
      obtain ⟨x0, hx0⟩ : ∃ x0, L[k]? = some x0 := ⟨_, List.getElem?_eq_getElem (by rw [HL.out]; exact hlt)⟩
      have HX0 := Lib.hid hx0; clear hx0
      clear hxo
      go_wp2_with fail
      refine HTx.out.mono ?_
      rintro e w2 ⟨rfl, hK2⟩
      have hB2 := HB.out.kp hK2 (fun h => h)
      have hK3 := hK.trans hK2 (fun _ _ h => h)
      have c0 := hB2.cell (i := k) (astrs_at HX0.out)
      have f0 := hB2.free k
      have HRel := Lib.hid (show ∃ (k' : Nat) (L : List ByteArray), k' ≤ n ∧ Value.int .i64 ((k : Int) + 1) = .int .i64 k' ∧ L.length = n ∧ (∀ j, j < k' → L[j]? = some (itx (gi l j))) ∧ Blk (w2.setCell ⟨w.heap.size, k, none⟩ (.string ⟨(Lib.itoa x).toArray⟩)) w.heap.size (astrs L).toArray 9 ∧ Kp (fun _ => False) w (w2.setCell ⟨w.heap.size, k, none⟩ (.string ⟨(Lib.itoa x).toArray⟩)) from
        ⟨k + 1, L.set k (itx x), by omega, by go_num, by rw [List.length_set, HL.out], fun j hj => by
            by_cases e : j = k
            · subst e; rw [List.getElem?_set_self (by rw [HL.out]; exact hlt), HX.out]
            · rw [List.getElem?_set_ne (fun h => e h.symm)]; exact HJ.out j (by omega),
          by rw [← astrs_set]; exact hB2.set_same k _, hK3.setCell (p := ⟨w.heap.size, k, none⟩) (by simp) _⟩)
      clear hB2 hK2 hK3
      go_wp2_with fail
      go_roundw
      case rel => exact HRel.out
      case measure => simp [intOf]; omega
    · have hd : decide ((k : Int) < (n : Int)) = false := by simp; omega
      have e : L = l.map itx := by
        apply List.ext_getElem?
        intro j
        by_cases hj : j < n
        · rw [HJ.out j (by omega), List.getElem?_map]
          have hj2 : j < l.length := by rw [HLN.out]; exact hj
          rw [List.getElem?_eq_getElem hj2]
          simp [gi, List.getElem?_eq_getElem hj2]
        · rw [List.getElem?_eq_none (by rw [HL.out]; omega), List.getElem?_eq_none (by rw [List.length_map, HLN.out]; omega)]
      subst e
      have ej : (l.map itx).map (·.data.toList) = l.map Lib.itoa := by rw [List.map_map]; apply List.map_congr_left; intro z _; simp [itx]
      have hlt2 : w.heap.size < wr.heap.size := HB.out.lt
      have hjl : (jrow l).length ≤ 22 * n := by
        have := jrow_take_len HOk.out l.length (Nat.le_refl _)
        rw [List.take_length, HLN.out] at this
        exact this
      have HJn := Lib.hid (Tryz.strings_Join w.heap.size 0 n (l.map itx) ⟨#[32]⟩ wr (fun j x hx => by rw [Nat.zero_add]; exact HB.out.cell (astrs_at hx)) hlt2 (by rw [List.length_map, HLN.out]; omega) (by rw [List.length_map, HLN.out]; exact Nat.le_refl _)
        (by rw [ej, show (⟨#[32]⟩ : ByteArray).data.toList = [32] from rfl]; show (jrow l).length ≤ _; omega))
      rw [ej, show (⟨#[32]⟩ : ByteArray).data.toList = [32] from rfl, show Lib.join (l.map Lib.itoa) [32] = jrow l from rfl, List.length_map, HLN.out] at HJn
      have hcat : ¬ 9223372036854775807 < (jrow l).length + 1 := by omega
      obtain ⟨J, hJ⟩ : ∃ J, jrow l = J := ⟨_, rfl⟩
      have HCat : Hid ((⟨J.toArray⟩ : ByteArray) ++ ⟨([10] : List UInt8).toArray⟩ = ⟨(jrow l ++ [10]).toArray⟩) := Lib.hid (by rw [hJ]; exact cat_bytes J [10])
      rw [hJ] at HJn hcat
      clear hJ
      clear hjl
      go_wp2_with fail
      refine HJn.out.mono ?_
      rintro e w2 ⟨rfl, hb⟩
      have hend := hK.trans (Kp.of_below hb (fun _ => False)) (fun _ _ h => h)
      go_wp2_with fail
      go_ret
      exact ⟨congrArg (fun x => Ending.returned (Value.string x)) HCat.out, hend⟩

end Go.Proofs.YtckmdcmkjmpiaaaGreatDoor

/-
  ascii's reader: numbers and signs, one behind the other; the stop with which it panics, and what recovers it.
-/
namespace Go.Proofs.YtckmdcmkjmpiaaaGreatDoor
open Go.RowKit

theorem Blk.cells1 {w : World} {b : Nat} {x0 : Value} {t : TypeId} (h : Blk w b #[x0] t) : w.cell? ⟨b, 0, none⟩ = some x0 ∧ w.frozen? ⟨b, 0, none⟩ = false := ⟨h.cell rfl, h.free 0⟩
theorem Blk.cells2 {w : World} {b : Nat} {x0 x1 : Value} {t : TypeId} (h : Blk w b #[x0, x1] t) :
    w.cell? ⟨b, 0, none⟩ = some x0 ∧ w.cell? ⟨b, 1, none⟩ = some x1 ∧ w.frozen? ⟨b, 0, none⟩ = false ∧ w.frozen? ⟨b, 1, none⟩ = false := ⟨h.cell rfl, h.cell rfl, h.free 0, h.free 1⟩

/-- what a reader stops with: an error at a place -/
def stopV (p e : Int) : Value := .iface 122 (.agg #[.int .i64 p, .int .i64 e])

theorem ascii_fail (r : Value) (p e : Int) (w : World) :
    Calls Tryz.prog 66 #[r, .int .i64 p, .int .i64 e] w fun o w' => o = .panicked [{ v := stopV p e, recovered := false }] ∧ w = w' := by
  go_enter Tryz.func66, Tryz.ntmps66
  go_wp2
  exact ⟨rfl, rfl, rfl⟩

theorem stop_is (v : Value) (u : World) : (Instr.typeAssert (.iface 122 v) 20 122 true).run Tryz.prog u = .ok (.tuple #[v, .bool true]) u := by kernel_rfl

set_option maxRecDepth 100000 in
set_option maxHeartbeats 1000000 in
/-- a deferred stopped behind a stop: the place and the error are laid -/
theorem stopped_panicking (ba be : Nat) (p e : Int) (x y : Value) (older : List PanicEntry) (w : World) (hne : ba ≠ be) (hA : Blk w ba #[x] 3) (hE : Blk w be #[y] 28) :
    CallsD Tryz.prog 30 #[.pointer (some ⟨ba, 0, none⟩), .pointer (some ⟨be, 0, none⟩)] (.panicking ({ v := stopV p e, recovered := false } :: older)) w fun o u' w' =>
      o = .returned (.tuple #[]) ∧ u' = .panicking ({ v := stopV p e, recovered := true } :: older) ∧ Blk w' ba #[.int .i64 p] 3 ∧ Blk w' be #[.int .i64 e] 28 ∧ Kp (fun j => j = ba ∨ j = be) w w' := by
  obtain ⟨a0, fa⟩ := hA.cells1
  obtain ⟨e0, fe⟩ := hE.cells1
  have la := hA.lt
  have le := hE.lt
  have HA := Lib.hid hA
  have HE := Lib.hid hE
  clear hA hE
  refine callsD_of_wpS Tryz.func30 rfl fun c₀ cs hu => ?_
  simp only [Tryz.ntmps30, List.size_toArray, List.length_cons, List.length_nil, Nat.reduceAdd, Nat.reduceSub, Array.replicate_succ,
     Array.replicate_zero, List.push_toArray, List.append_toArray, List.nil_append, List.cons_append]
  apply wpS_seq
  apply wpS_region
  simp [wpOpsS, go_sem, recoverD, hu, Exit.thenS, stopV]
  refine wpS_of_wp ?_
  have hst := fun v u => stop_is v u
  go_wp2
  go_region
  all_goals go_wp2
  refine ⟨rfl, _, rfl, _, by simp [results, Tryz.results30], rfl, rfl, ?_, ?_, ?_⟩
  · exact (((HA.out.set_same 0 _).set_other (p := ⟨be, 0, none⟩) hne _).alloc _).drew
  · exact (((HE.out.set_other (p := ⟨ba, 0, none⟩) (fun h => hne h.symm) _).set_same 0 _).alloc _).drew
  · exact ((((Kp.refl _ w).setCell (p := ⟨ba, 0, none⟩) (fun _ => .inl rfl) _).setCell (p := ⟨be, 0, none⟩) (fun _ => .inr rfl) _).alloc _).drew

/-- a deferred stopped behind a return: nothing is turned -/
theorem stopped_idle (p q : Value) (w : World) :
    CallsD Tryz.prog 30 #[p, q] .returning w fun o u' w' => o = .returned (.tuple #[]) ∧ u' = .returning ∧ w = w' := by
  refine callsD_of_wpS Tryz.func30 rfl fun c₀ cs hu => ?_
  simp only [Tryz.ntmps30, List.size_toArray, List.length_cons, List.length_nil, Nat.reduceAdd, Nat.reduceSub, Array.replicate_succ,
     Array.replicate_zero, List.push_toArray, List.append_toArray, List.nil_append, List.cons_append]
  apply wpS_seq
  apply wpS_region
  simp [wpOpsS, go_sem, recoverD, hu, Exit.thenS]
  refine wpS_of_wp ?_
  go_wp2
  cases c₀
  simp_all [bodyPostS, results, Tryz.results30]

end Go.Proofs.YtckmdcmkjmpiaaaGreatDoor
