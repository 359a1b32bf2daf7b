/-
  circ.uses: all literals that are used are handed over, up to the first that is refused. (Printed by mkuses.py.)
-/
import Derived.Test.YtnoknecfdnjomaaGreatM1
import Derived.Test.YtnoknecfdnjomaaGreatM2
import Derived.Test.YtnoknecfdnjomaaGreatM3
set_option linter.unusedVariables false
set_option linter.unusedSimpArgs false
namespace Go.Proofs.YtnoknecfdnjomaaGreat
open Go.RowKit

theorem IntsAt.lt {w : World} {a : Option Addr} {l : List Int} (h : IntsAt w a l) (hl : l ≠ []) : ∀ p, a = some p → p.block < w.heap.size := by
  intro p hp
  obtain ⟨b, off, e, hc⟩ := h.get (j := 0) (by cases l with | nil => exact absurd rfl hl | cons x r => simp)
  rw [hp] at e
  simp only [Option.some.injEq] at e
  subst e
  exact World.block_lt_of_cell? w _ hc

/-- the values rs are slices that read the lists Ls, none of them in a block of X -/
def RowsAt (X : Nat → Prop) (u : World) (rs : List Value) (Ls : List (List Int)) : Prop :=
  rs.length = Ls.length ∧ ∀ (k : Nat) (r : Value) (l : List Int), rs[k]? = some r → Ls[k]? = some l → ∃ a c, r = .slice a l.length c ∧ l.length ≤ c ∧ c ≤ maxLen ∧ IntsAt u a l ∧ (l ≠ [] → ∀ p, a = some p → ¬ X p.block)

theorem RowsAt.kp {X S : Nat → Prop} {u u' : World} {rs : List Value} {Ls : List (List Int)} (h : RowsAt X u rs Ls) (k : Kp S u u') (hS : ∀ j, S j → X j) : RowsAt X u' rs Ls := by
  refine ⟨h.1, fun i r l hr hl => ?_⟩
  obtain ⟨a, c, e, h1, h2, h3, h4⟩ := h.2 i r l hr hl
  refine ⟨a, c, e, h1, h2, ?_, h4⟩
  by_cases hn : l = []
  · subst hn; exact RowAt.nil _ _
  · exact h3.kp k (fun p hp hs => h4 hn p hp (hS _ hs))

theorem RowsAt.mono {X X' : Nat → Prop} {u : World} {rs : List Value} {Ls : List (List Int)} (h : RowsAt X u rs Ls) (hX : ∀ j, j < u.heap.size → X' j → X j) : RowsAt X' u rs Ls := by
  refine ⟨h.1, fun i r l hr hl => ?_⟩
  obtain ⟨a, c, e, h1, h2, h3, h4⟩ := h.2 i r l hr hl
  exact ⟨a, c, e, h1, h2, h3, fun hn p hp hx => h4 hn p hp (hX _ (h3.lt hn p hp) hx)⟩

theorem RowsAt.snoc {X : Nat → Prop} {u : World} {rs : List Value} {Ls : List (List Int)} (h : RowsAt X u rs Ls) {a : Option Addr} {c : Nat} {l : List Int} (h1 : l.length ≤ c) (h2 : c ≤ maxLen) (h3 : IntsAt u a l) (h4 : ∀ p, a = some p → ¬ X p.block) : RowsAt X u (rs ++ [.slice a l.length c]) (Ls ++ [l]) := by
  refine ⟨by simp [h.1], fun k r x hr hx => ?_⟩
  by_cases hk : k < rs.length
  · rw [List.getElem?_append_left hk] at hr
    rw [List.getElem?_append_left (by rw [← h.1]; exact hk)] at hx
    exact h.2 k r x hr hx
  · rw [List.getElem?_append_right (by omega)] at hr
    rw [List.getElem?_append_right (by rw [← h.1]; omega)] at hx
    have e : k - rs.length = 0 := by
      have := (List.getElem?_eq_some_iff.1 hr).1
      simp at this; omega
    rw [e] at hr
    rw [← h.1, e] at hx
    simp at hr hx
    subst hr hx
    exact ⟨a, c, rfl, h1, h2, h3, fun _ => h4⟩

/-- the rows of used literals -/
def usedRows (C : Circ) : List (List Int) := [C.outs, C.bads, C.cons] ++ C.lats.map (fun x => [x.2.1]) ++ C.gates.map (fun g => [g.2.1, g.2.2])
theorem usedRows_flat (C : Circ) : (usedRows C).flatten = C.used := by
  unfold usedRows Circ.used
  rw [List.flatten_append, List.flatten_append]
  have h1 : ∀ L : List (Int × Int × Int), (L.map (fun x => [x.2.1])).flatten = L.map (fun x => x.2.1) := by
    intro L; induction L with
    | nil => rfl
    | cons a r ih => simp [ih]
  have h2 : ∀ L : List (Int × Int × Int), (L.map (fun g => [g.2.1, g.2.2])).flatten = L.flatMap (fun g => [g.2.1, g.2.2]) := fun L => rfl
  rw [h1, h2]
  simp
theorem usedRows_length (C : Circ) : (usedRows C).length = 3 + C.lats.length + C.gates.length := by
  unfold usedRows; simp; omega

def grow (L : List (List Int)) (k : Nat) : List Int := L[k]?.getD []
theorem grow_at {L : List (List Int)} {k : Nat} (h : k < L.length) : L[k]? = some (grow L k) := by unfold grow; rw [List.getElem?_eq_getElem h]; rfl
theorem take_grow {L : List (List Int)} {k : Nat} (h : k < L.length) : (L.take (k + 1)).flatten = (L.take k).flatten ++ grow L k := by
  rw [List.take_succ_eq_append_getElem h, List.flatten_append]
  unfold grow
  rw [List.getElem?_eq_getElem h]
  simp

theorem all_take_gi {l : List Int} {k : Nat} (h : k < l.length) (P : List Int) (f : Int → Bool) : (P ++ l.take (k + 1)).all f = ((P ++ l.take k).all f && f (gi l k)) := by
  rw [take_gi h, ← List.append_assoc, List.all_append]
  simp

theorem used_false {L : List (List Int)} {i k : Nat} (hi : i < L.length) {f : Int → Bool} {b : Bool} (h : (b && ((L.take i).flatten ++ (grow L i).take (k + 1)).all f) = false) : (b && L.flatten.all f) = false := by
  cases b with
  | false => rfl
  | true =>
    rw [Bool.true_and] at h ⊢
    rw [List.all_eq_false] at h ⊢
    obtain ⟨x, hx, hf⟩ := h
    refine ⟨x, ?_, hf⟩
    have hL := List.take_append_drop (i + 1) L
    rw [← hL, List.flatten_append]
    refine List.mem_append.2 (.inl ?_)
    rw [take_grow hi]
    rcases List.mem_append.1 hx with h | h
    · exact List.mem_append.2 (.inl h)
    · exact List.mem_append.2 (.inr (List.mem_of_mem_take h))

theorem mem_used {L : List (List Int)} {i k : Nat} (hi : i < L.length) (hk : k < (grow L i).length) : gi (grow L i) k ∈ L.flatten := by
  refine List.mem_flatten.2 ⟨grow L i, List.mem_of_getElem? (grow_at hi), ?_⟩
  refine List.mem_of_getElem? (i := k) ?_
  unfold gi
  rw [List.getElem?_eq_getElem hk]; rfl

theorem three_blk (w : World) (c0 c1 c2 : Array Value) (t0 t1 t2 : TypeId) : Blk (((w.alloc (.cells c0 t0)).alloc (.cells c1 t1)).alloc (.cells c2 t2)) (w.heap.size + 1) c1 t1 ∧ Blk (((w.alloc (.cells c0 t0)).alloc (.cells c1 t1)).alloc (.cells c2 t2)) (w.heap.size + 2) c2 t2 := by
  refine ⟨(two_blk w c0 c1 t0 t1).alloc _, ?_⟩
  have := Blk.new ((w.alloc (.cells c0 t0)).alloc (.cells c1 t1)) c2 t2
  simpa using this

theorem ints_blk {w : World} {b : Nat} {l : List Int} {t : TypeId} (h : Blk w b (l.map (Value.int .i64)).toArray t) : IntsAt w (some ⟨b, 0, none⟩) l :=
  h.rowAt (off := 0) (n := l.length) (by simp; exact List.take_of_length_le (by simp))

/-- the literals that are used are gathered -/
def Gather (V : CV) (C : Circ) (bo : Nat) (w : World) (Ls : List (List Int)) (v4 : Value) (wr : World) : Prop :=
  ∃ rs, Own wr w.heap.size 22 v4 rs ∧ RowsAt (fun j => j = bo ∨ v4.ownBlock = some j) wr rs Ls ∧ (∀ j, v4.ownBlock = some j → w.heap.size < j) ∧ Blk wr w.heap.size (cvals V C) 27 ∧ Kp (fun _ => False) w wr

theorem Gather.start (V : CV) (C : Circ) (bo : Nat) (w0 w wz : World) (hz : wz = (w.alloc (.cells (cvals V C) 27)).alloc (.cells #[.slice V.ao C.outs.length V.co, .slice V.ab C.bads.length V.cb, .slice V.ac C.cons.length V.cc] 22))
    (h0 : CAt w0 V C) (hk0 : Kp (fun _ => False) w0 w) (hbo : w0.heap.size ≤ bo) (hbw : bo < w.heap.size) :
    Gather V C bo w [C.outs, C.bads, C.cons] (.slice (some ⟨w.heap.size + 1, 0, none⟩) 3 3) wz := by
  have hK : Kp (fun _ => False) w wz := by rw [hz]; exact ((Kp.refl _ w).alloc _).alloc _
  have hB : Blk wz (w.heap.size + 1) #[.slice V.ao C.outs.length V.co, .slice V.ab C.bads.length V.cb, .slice V.ac C.cons.length V.cc] 22 := by rw [hz]; exact two_blk _ _ _ _ _
  have hC : Blk wz w.heap.size (cvals V C) 27 := by rw [hz]; exact (Blk.new w _ _).alloc _
  have hz := h0.kp (hk0.trans hK (fun _ _ h => h))
  have hs := hk0.size
  have far : ∀ {a : Option Addr} {l : List Int}, IntsAt w0 a l → l ≠ [] → ∀ p, a = some p → ¬ (p.block = bo ∨ (Value.slice (some ⟨w.heap.size + 1, 0, none⟩) 3 3).ownBlock = some p.block) := by
    intro a l hi hl p hp
    have := hi.lt hl p hp
    simp [Value.ownBlock]
    omega
  refine ⟨[.slice V.ao C.outs.length V.co, .slice V.ab C.bads.length V.cb, .slice V.ac C.cons.length V.cc], Own.lit (cs := [.slice V.ao C.outs.length V.co, .slice V.ab C.bads.length V.cb, .slice V.ac C.cons.length V.cc]) hB (by omega) (by simp [maxLen]), ⟨rfl, fun k r l hr hl => ?_⟩, fun j hj => by simp [Value.ownBlock] at hj; omega, hC, hK⟩
  match k, hr, hl with
  | 0, hr, hl => simp at hr hl; subst hr hl; exact ⟨_, _, rfl, h0.fo.le, h0.fo.most, hz.o, far h0.o⟩
  | 1, hr, hl => simp at hr hl; subst hr hl; exact ⟨_, _, rfl, h0.fb.le, h0.fb.most, hz.b, far h0.b⟩
  | 2, hr, hl => simp at hr hl; subst hr hl; exact ⟨_, _, rfl, h0.fc.le, h0.fc.most, hz.c, far h0.c⟩
  | n + 3, hr, hl => simp at hr

theorem Gather.kp {V : CV} {C : Circ} {bo : Nat} {w wr wr' : World} {Ls : List (List Int)} {v4 : Value} (h : Gather V C bo w Ls v4 wr) (k : Kp (fun _ => False) wr wr') : Gather V C bo w Ls v4 wr' := by
  obtain ⟨rs, h1, h2, h3, h4, h5⟩ := h
  exact ⟨rs, h1.kp k (fun _ _ h => h), h2.kp k (fun _ h => h.elim), h3, h4.kp k (fun h => h), h5.trans k (fun _ _ h => h)⟩

/-- one more row of literals -/
theorem Gather.more {V : CV} {C : Circ} {bo : Nat} {w wr wr' w2 : World} {Ls : List (List Int)} {v4 v' : Value} {rs : List Value} (hbo : bo < w.heap.size) (h1 : Own wr w.heap.size 22 v4 rs) (h2 : RowsAt (fun j => j = bo ∨ v4.ownBlock = some j) wr rs Ls) (h3 : ∀ j, v4.ownBlock = some j → w.heap.size < j) (h4 : Blk wr w.heap.size (cvals V C) 27) (h5 : Kp (fun _ => False) w wr)
    (hK : Kp (fun _ => False) wr wr') {g n : Nat} {l : List Int} (hg : wr.heap.size ≤ g) (hB : Blk wr' g (l.map (Value.int .i64)).toArray 3) (hn : l.length = n) (hl : n ≤ maxLen)
    (hO : Own w2 w.heap.size 22 v' (rs ++ [.slice (some ⟨g, 0, none⟩) n n])) (hgr : wr'.grownBy w2 v4.ownBlock) (hat : v'.ownBlock = v4.ownBlock ∨ v'.ownBlock = some wr'.heap.size) : Gather V C bo w (Ls ++ [l]) v' w2 := by
  subst hn
  have hKg : Kp (fun j => v4.ownBlock = some j) wr' w2 := (Kp.refl _ _).grown hgr (fun j hj _ => hj)
  have hKw : Kp (fun _ => False) w w2 := (h5.trans hK (fun _ _ h => h)).grown hgr (fun j hj hlt => by have := h3 j hj; omega)
  have hsz := h5.size
  have hsz' := hK.size
  have hlt := hB.lt
  have hb' : Blk w2 g (l.map (Value.int .i64)).toArray 3 := hB.kp hKg (fun e => by have := (h1.lt g e).2; omega)
  have h2' : RowsAt (fun j => j = bo ∨ v4.ownBlock = some j) wr' rs Ls := h2.kp hK (fun _ h => h.elim)
  have h2'' : RowsAt (fun j => j = bo ∨ v4.ownBlock = some j ∨ v'.ownBlock = some j) wr' rs Ls := h2'.mono (fun j hj hx => by
    rcases hx with e | e | e
    · exact .inl e
    · exact .inr e
    · rcases hat with e2 | e2
      · exact .inr (e2 ▸ e)
      · rw [e2] at e; simp at e; omega)
  have h2w : RowsAt (fun j => j = bo ∨ v4.ownBlock = some j ∨ v'.ownBlock = some j) w2 rs Ls := h2''.kp hKg (fun j h => .inr (.inl h))
  have h2z : RowsAt (fun j => j = bo ∨ v'.ownBlock = some j) w2 rs Ls := h2w.mono (fun j _ h => by rcases h with e | e; exact .inl e; exact .inr (.inr e))
  refine ⟨_, hO, ?_, ?_, (h4.kp hK (fun h => h)).kp hKg (fun e => by have := h3 _ e; omega), hKw⟩
  · refine h2z.snoc (Nat.le_refl _) hl (ints_blk hb') (fun p hp => ?_)
    simp at hp
    subst hp
    intro h
    rcases h with e | e
    · have : g = bo := e
      omega
    · rcases hat with e2 | e2
      · rw [e2] at e
        have : g < wr.heap.size := (h1.lt g e).2
        omega
      · rw [e2] at e
        have : wr'.heap.size = g := by simpa using e
        omega
  · intro j hj
    rcases hat with e | e
    · exact h3 j (e ▸ hj)
    · rw [e] at hj; simp at hj; omega

set_option maxRecDepth 100000 in
set_option maxHeartbeats 4000000 in
theorem circ_uses1 (p q : Value) (V : CV) (C : Circ) (bo : Nat) (f : Int → Bool) (I : World → Bool → Prop) (b0 : Bool) (w0 w : World) (h0 : CAt w0 V C) (hf : CFew C 1000000) (hk0 : Kp (fun _ => False) w0 w) (hbo : w0.heap.size ≤ bo) (hbw : bo < w.heap.size)
    (hI : I w b0) (hIk : ∀ u u' b, Kp (fun _ => False) u u' → I u b → I u' b)
    (hY : ∀ u x b, x ∈ C.used → I u b → Calls Tryz.prog 74 #[.int .i64 x, p, q] u fun e u' => e = .returned (.bool (b && f x)) ∧ I u' (b && f x) ∧ Kp (fun j => j = bo) u u') :
    Calls Tryz.prog 73 #[.agg (cvals V C), .func (Fn.func 74) #[] #[p, q]] w fun e w' => e = .returned (.tuple #[]) ∧ I w' (b0 && C.used.all f) ∧ Kp (fun j => j = bo) w w' := by
  obtain ⟨wz, hwz⟩ : ∃ wz : World, wz = (w.alloc (.cells (cvals V C) 27)).alloc (.cells #[.slice V.ao C.outs.length V.co, .slice V.ab C.bads.length V.cb, .slice V.ac C.cons.length V.cc] 22) := ⟨_, rfl⟩
  have HG := Lib.hid (Gather.start V C bo w0 w wz hwz h0 hk0 hbo hbw)
  have HC1 := Lib.hid (Blk.new w (cvals V C) 27)
  have HS := Lib.hid (show wz.heap.size = w.heap.size + 2 by rw [hwz]; simp)
  have HZ := Lib.hid hwz
  have HA := Lib.hid h0
  have HF := Lib.hid hf
  have HK0 := Lib.hid hk0
  have HBO := Lib.hid (And.intro hbo hbw)
  have HII := Lib.hid (And.intro hI (And.intro hIk hY))
  have HI := Lib.hid (show (Tryz.prog.info? 22).map (fun i => (i.zero, i.size, i.bytes)) = some (some (.slice none 0 0), 1, 24) by kernel_rfl)
  have hl := (h0.fl.le63).1
  have hg := (h0.fg.le63).1
  clear hwz h0 hf hk0 hbo hbw hI hIk hY
  go_enter Tryz.func73, Tryz.ntmps73
  go_upto_region 1 with fail
  obtain ⟨d0, d1, d2, d3, d4, d5, d6, d7, d8⟩ := HC1.out.cells9
  go_upto_region 2 with fail
  rw [← HZ.out]
  clear d0 d1 d2 d3 d4 d5 d6 d7 d8 HC1
  have hG := HG.out
  obtain ⟨rs0, -, -, -, hB0, -⟩ := hG
  have c2 := hB0.cell (i := 2) (v := .slice V.al C.lats.length V.cl) rfl
  clear hB0
  go_wp2_with fail
  go_loopw [4, 23] (fun v4 v23 wr => ∃ k : Nat, v23 = .int .i64 k ∧ k ≤ C.lats.length ∧ Gather V C bo w ([C.outs, C.bads, C.cons] ++ (C.lats.take k).map (fun x => [x.2.1])) v4 wr) (fun _ v23 _ => C.lats.length - (intOf v23).toNat)
  case atStart => exact ⟨0, rfl, by omega, by simpa using HG.out⟩
  case round =>
    obtain ⟨k, rfl, hk, hG⟩ := hrel
    clear c2 HG
    obtain ⟨wp, rfl⟩ : ∃ wp : World, wp = wr := ⟨_, rfl⟩
    have HG := Lib.hid hG
    by_cases hlt : k < C.lats.length
    · obtain ⟨rs, hO, hR, hB, hC, hK⟩ := hG
      have HSw := Lib.hid (show w.heap.size ≤ wp.heap.size from hK.size)
      have HRL := Lib.hid (show rs.length ≤ 3000000 by have := hR.1; have := HF.out.l; simp at this ⊢; rw [hR.1]; simp; omega)
      obtain ⟨b, off, ea, e0, e1, e2⟩ := tri_cells (HA.out.kp (HK0.out.trans hK (fun _ _ h => h))).l hlt
      have i0 : (0 : Int) ≤ (k : Int) := by omega
      have i1 : decide ((k : Int) < (C.lats.length : Int)) = true := decide_eq_true (by omega)
      obtain ⟨x0, hx0⟩ : ∃ x, (g3 C.lats k).1 = x := ⟨_, rfl⟩
      obtain ⟨x1, hx1⟩ : ∃ x, (g3 C.lats k).2.1 = x := ⟨_, rfl⟩
      obtain ⟨x2, hx2⟩ : ∃ x, (g3 C.lats k).2.2 = x := ⟨_, rfl⟩
      have HT := Lib.hid (take_g3 hlt)
      rw [hx0] at e0
      rw [hx1] at e1
      rw [hx2] at e2
      have HX := Lib.hid hx1
      have HEA := Lib.hid ea
      have i2 : (k : Int) < (C.lats.length : Int) := by omega
      clear hx0 hx1 hx2 ea
      have HNew := Lib.hid (three_blk wp #[.int .i64 x0, .int .i64 x1, .int .i64 x2] #[.int .i64 x1] #[.slice (some ⟨wp.heap.size + 1, 0, none⟩) 1 1] 64 3 22)
      have HOw := Lib.hid (((hO.alloc (.cells #[.int .i64 x0, .int .i64 x1, .int .i64 x2] 64)).alloc (.cells #[.int .i64 x1] 3)).alloc (.cells #[.slice (some ⟨wp.heap.size + 1, 0, none⟩) 1 1] 22))
      have HMore := Lib.hid (fun v' w2 hO2 hgr hat => Gather.more (v' := v') (w2 := w2) (g := wp.heap.size + 1) (n := 1) (l := [x1]) HBO.out.2 hO hR hB hC hK ((((Kp.refl _ wp).alloc (.cells #[.int .i64 x0, .int .i64 x1, .int .i64 x2] 64)).alloc (.cells #[.int .i64 x1] 3)).alloc (.cells #[.slice (some ⟨wp.heap.size + 1, 0, none⟩) 1 1] 22)) (by omega) HNew.out.1 rfl (by simp [maxLen]) hO2 hgr hat)
      clear hO hR hB hC hK
      rw [HEA.out]
      go_wp2_with (at_builtin; refine wpList_append1_at rfl _ _ 39 22 rfl Tryz.underlying39 HI.out rfl HOw.out rfl ⟨wp.heap.size + 2, 0, none⟩ (.slice (some ⟨wp.heap.size + 1, 0, none⟩) 1 1) rfl (HNew.out.2.cell rfl) rfl ?c1 ?c2 ?c3 ?_)
      case c1 => have := HRL.out; omega
      case c2 => have := HRL.out; unfold maxLen; omega
      case c3 => have := HSw.out; simp; omega
      intro v' w2 hO2 hg2 hat2
      have hrel : ∃ k' : Nat, Value.int .i64 ((k : Int) + 1) = .int .i64 k' ∧ k' ≤ C.lats.length ∧ Gather V C bo w ([C.outs, C.bads, C.cons] ++ (C.lats.take k').map (fun x => [x.2.1])) v' w2 := by
        refine ⟨k + 1, by go_num, by omega, ?_⟩
        rw [HT.out, List.map_append, ← List.append_assoc]
        have : [g3 C.lats k].map (fun x => [x.2.1]) = [[x1]] := by simp [HX.out]
        rw [this]
        exact HMore.out v' w2 hO2 hg2 (by simpa using hat2)
      have HR := Lib.hid hrel
      clear hrel hO2 hg2 hat2 HOw HNew HT HMore HG
      go_wp2_with fail
      go_roundw
      case rel => exact HR.out
      case measure => simp [intOf]; omega
    · have hk' : k = C.lats.length := by omega
      have HG1 : Hid (Gather V C bo w ([C.outs, C.bads, C.cons] ++ C.lats.map (fun x => [x.2.1])) u4 wp) := Lib.hid (by rwa [hk', List.take_length] at hG)
      obtain ⟨rs0, -, -, -, hB0, -⟩ := hG
      have c6 := hB0.cell (i := 6) (v := .slice V.ag C.gates.length V.cg) rfl
      clear HG hk hk' hB0
      go_wp2_with fail
      go_loopw [4, 37] (fun v4 v37 wr => ∃ k : Nat, v37 = .int .i64 k ∧ k ≤ C.gates.length ∧ Gather V C bo w ([C.outs, C.bads, C.cons] ++ C.lats.map (fun x => [x.2.1]) ++ (C.gates.take k).map (fun x => [x.2.1, x.2.2])) v4 wr) (fun _ v37 _ => C.gates.length - (intOf v37).toNat)
      case atStart => exact ⟨0, rfl, by omega, by simpa using HG1.out⟩
      case round =>
        obtain ⟨k, rfl, hk, hG⟩ := hrel
        clear c6 HG1 hlt
        obtain ⟨wq, rfl⟩ : ∃ wp : World, wp = wr := ⟨_, rfl⟩
        have HG := Lib.hid hG
        by_cases hlt : k < C.gates.length
        · obtain ⟨rs, hO, hR, hB, hC, hK⟩ := hG
          have HSw := Lib.hid (show w.heap.size ≤ wq.heap.size from hK.size)
          have HRL := Lib.hid (show rs.length ≤ 3000000 by have := hR.1; have := HF.out.l; have := HF.out.g; rw [hR.1]; simp; omega)
          obtain ⟨b, off, ea, e0, e1, e2⟩ := tri_cells (HA.out.kp (HK0.out.trans hK (fun _ _ h => h))).g hlt
          have i0 : (0 : Int) ≤ (k : Int) := by omega
          have i1 : decide ((k : Int) < (C.gates.length : Int)) = true := decide_eq_true (by omega)
          obtain ⟨x0, hx0⟩ : ∃ x, (g3 C.gates k).1 = x := ⟨_, rfl⟩
          obtain ⟨x1, hx1⟩ : ∃ x, (g3 C.gates k).2.1 = x := ⟨_, rfl⟩
          obtain ⟨x2, hx2⟩ : ∃ x, (g3 C.gates k).2.2 = x := ⟨_, rfl⟩
          have HT := Lib.hid (take_g3 hlt)
          rw [hx0] at e0
          rw [hx1] at e1
          rw [hx2] at e2
          have HX := Lib.hid (And.intro hx1 hx2)
          have HEA := Lib.hid ea
          have i2 : (k : Int) < (C.gates.length : Int) := by omega
          clear hx0 hx1 hx2 ea
          have HNew := Lib.hid (three_blk wq #[.int .i64 x0, .int .i64 x1, .int .i64 x2] #[.int .i64 x1, .int .i64 x2] #[.slice (some ⟨wq.heap.size + 1, 0, none⟩) 2 2] 95 3 22)
          have HOw := Lib.hid (((hO.alloc (.cells #[.int .i64 x0, .int .i64 x1, .int .i64 x2] 95)).alloc (.cells #[.int .i64 x1, .int .i64 x2] 3)).alloc (.cells #[.slice (some ⟨wq.heap.size + 1, 0, none⟩) 2 2] 22))
          have HMore := Lib.hid (fun v' w2 hO2 hgr hat => Gather.more (v' := v') (w2 := w2) (g := wq.heap.size + 1) (n := 2) (l := [x1, x2]) HBO.out.2 hO hR hB hC hK ((((Kp.refl _ wq).alloc (.cells #[.int .i64 x0, .int .i64 x1, .int .i64 x2] 95)).alloc (.cells #[.int .i64 x1, .int .i64 x2] 3)).alloc (.cells #[.slice (some ⟨wq.heap.size + 1, 0, none⟩) 2 2] 22)) (by omega) HNew.out.1 rfl (by simp [maxLen]) hO2 hgr hat)
          clear hO hR hB hC hK
          rw [HEA.out]
          go_wp2_with (at_builtin; refine wpList_append1_at rfl _ _ 39 22 rfl Tryz.underlying39 HI.out rfl HOw.out rfl ⟨wq.heap.size + 2, 0, none⟩ (.slice (some ⟨wq.heap.size + 1, 0, none⟩) 2 2) rfl (HNew.out.2.cell rfl) rfl ?d1 ?d2 ?d3 ?_)
          case d1 => have := HRL.out; omega
          case d2 => have := HRL.out; unfold maxLen; omega
          case d3 => have := HSw.out; simp; omega
          intro v' w2 hO2 hg2 hat2
          have hrel : ∃ k' : Nat, Value.int .i64 ((k : Int) + 1) = .int .i64 k' ∧ k' ≤ C.gates.length ∧ Gather V C bo w ([C.outs, C.bads, C.cons] ++ C.lats.map (fun x => [x.2.1]) ++ (C.gates.take k').map (fun x => [x.2.1, x.2.2])) v' w2 := by
            refine ⟨k + 1, by go_num, by omega, ?_⟩
            rw [HT.out, List.map_append, ← List.append_assoc]
            have : [g3 C.gates k].map (fun x => [x.2.1, x.2.2]) = [[x1, x2]] := by simp [HX.out.1, HX.out.2]
            rw [this]
            exact HMore.out v' w2 hO2 hg2 (by simpa using hat2)
          have HR := Lib.hid hrel
          clear hrel hO2 hg2 hat2 HOw HNew HT HMore HG
          go_wp2_with fail
          go_roundw
          case rel => exact HR.out
          case measure => simp [intOf]; omega
        · have hk' : k = C.gates.length := by omega
          have hG1 : Gather V C bo w (usedRows C) u4 wq := by rw [hk', List.take_length] at hG; exact hG
          obtain ⟨rs, hO, hR, hB, hC, hK⟩ := hG1
          obtain ⟨a4, c4, e4, hc4, hm4, hp4, -⟩ := hO.form
          have HO := Lib.hid hO
          have HR := Lib.hid hR
          have hln : rs.length = (usedRows C).length := hR.1
          rw [hln] at e4 hc4
          subst e4
          obtain ⟨n4, hn4⟩ : ∃ n, (usedRows C).length = n := ⟨_, rfl⟩
          have HN4 := Lib.hid hn4
          have HIw := Lib.hid (HII.out.2.1 _ _ _ hK HII.out.1)
          have HKw := Lib.hid hK
          have hn63 : n4 ≤ 9223372036854775807 := by rw [← hn4, usedRows_length]; have := HF.out.l; have := HF.out.g; omega
          have hB4 : ∀ j, (Value.slice a4 n4 c4).ownBlock = some j → j ≠ bo := fun j hj => by
            have := hB j (by rw [hn4]; exact hj)
            have := HBO.out.2
            omega
          have HB4 := Lib.hid hB4
          rw [hn4] at HO HR ⊢
          have HRW := Lib.hid (show ∀ u, Kp (fun j => j = bo) wq u → RowAt u a4 rs from fun u hu => by
            obtain ⟨a, c, e, -, -, hp, hr⟩ := HO.out.form
            simp only [Value.slice.injEq] at e
            obtain ⟨rfl, -, -⟩ := e
            refine hr.kp hu (fun p hp' hb => ?_)
            obtain ⟨g, rfl, -, -⟩ := hp p hp'
            subst hp'
            exact hB4 g rfl hb)
          have HRR := Lib.hid (show ∀ u, Kp (fun j => j = bo) wq u → RowsAt (fun j => j = bo) u rs (usedRows C) from fun u hu => (HR.out.mono (fun j _ h => .inl h)).kp hu (fun _ h => h))
          clear hG hk' hO hR hB hC hK hln hk hp4 hm4 hB4 hn4 hc4 HO HR HB4 HG HA
          go_wp2_with fail
          go_loopw [52] (fun v52 wr => ∃ i : Nat, v52 = .int .i64 i ∧ i ≤ n4 ∧ I wr (b0 && ((usedRows C).take i).flatten.all f) ∧ Kp (fun j => j = bo) wq wr) (fun v52 _ => n4 - (intOf v52).toNat)
          case atStart => exact ⟨0, rfl, by omega, by simpa using HIw.out, Kp.refl _ _⟩
          case round =>
            obtain ⟨i, rfl, hi, hI3, hK3⟩ := hrel
            obtain ⟨w3, rfl⟩ : ∃ w3 : World, w3 = wr := ⟨_, rfl⟩
            have HI3 := Lib.hid hI3
            have HK3 := Lib.hid hK3
            clear hI3 hK3 HIw
            by_cases hi4 : i < n4
            · have hiU : i < (usedRows C).length := by rw [HN4.out]; exact hi4
              obtain ⟨r, hr⟩ : ∃ r, rs[i]? = some r := ⟨_, List.getElem?_eq_getElem (by rw [(HRR.out _ HK3.out).1]; exact hiU)⟩
              obtain ⟨ai, ci, rfl, hci, hcm, hri, -⟩ := (HRR.out _ HK3.out).2 i r _ hr (grow_at hiU)
              obtain ⟨b, off, ea, hcell⟩ := HRW.out _ HK3.out i _ hr
              have HRI := Lib.hid (show ∀ u, Kp (fun j => j = bo) w3 u → IntsAt u ai (grow (usedRows C) i) from fun u hu => by
                obtain ⟨a2, c2, e2, -, -, h2, -⟩ := (HRR.out u (HK3.out.trans hu (fun _ _ h => h))).2 i _ _ hr (grow_at hiU)
                simp only [Value.slice.injEq] at e2
                rw [e2.1]; exact h2)
              have HIU := Lib.hid hiU
              obtain ⟨ni, hni⟩ : ∃ ni, (grow (usedRows C) i).length = ni := ⟨_, rfl⟩
              rw [hni] at hcell hci
              have HNI := Lib.hid hni
              have hn63i : ni ≤ 9223372036854775807 := by unfold maxLen at hcm; omega
              subst ea
              clear hr hri hci hcm hni hiU
              have i0 : (0 : Int) ≤ (i : Int) := by omega
              have i1 : (i : Int) < (n4 : Int) := by omega
              go_wp2_with fail
              go_loopw [58] (fun v58 w4 => ∃ k : Nat, v58 = .int .i64 k ∧ k ≤ ni ∧ I w4 (b0 && (((usedRows C).take i).flatten ++ (grow (usedRows C) i).take k).all f) ∧ Kp (fun j => j = bo) w3 w4) (fun v58 _ => ni - (intOf v58).toNat)
              case atStart => exact ⟨0, rfl, by omega, by simpa using HI3.out, Kp.refl _ _⟩
              case round =>
                obtain ⟨k, rfl, hk, hI4, hK4⟩ := hrel
                obtain ⟨w4, rfl⟩ : ∃ w4 : World, w4 = wr := ⟨_, rfl⟩
                have HI4 := Lib.hid hI4
                have HK4 := Lib.hid hK4
                clear hI4 hK4 hcell
                by_cases hkl : k < ni
                · obtain ⟨b, off, e, hcell⟩ := (HRI.out _ HK4.out).get (j := k) (by rw [HNI.out]; exact hkl)
                  have HMem := Lib.hid (show gi (grow (usedRows C) i) k ∈ C.used by rw [← usedRows_flat]; exact mem_used HIU.out (by rw [HNI.out]; exact hkl))
                  have HAll := Lib.hid (all_take_gi (l := grow (usedRows C) i) (k := k) (by rw [HNI.out]; exact hkl) (((usedRows C).take i).flatten) f)
                  have HUF := Lib.hid (used_false (L := usedRows C) (i := i) (k := k) HIU.out (f := f) (b := b0))
                  obtain ⟨x, hx⟩ : ∃ x, gi (grow (usedRows C) i) k = x := ⟨_, rfl⟩
                  rw [hx] at hcell HMem HAll
                  obtain ⟨bb, hbb⟩ : ∃ bb, (b0 && (((usedRows C).take i).flatten ++ (grow (usedRows C) i).take k).all f) = bb := ⟨_, rfl⟩
                  have HBB := Lib.hid hbb
                  rw [hbb] at HI4
                  obtain ⟨b5, hb5⟩ : ∃ b5, (bb && f x) = b5 := ⟨_, rfl⟩
                  have HYx := Lib.hid (HII.out.2.2 _ _ _ HMem.out HI4.out)
                  rw [hb5] at HYx
                  have HB5 := Lib.hid (show (b0 && (((usedRows C).take i).flatten ++ (grow (usedRows C) i).take (k + 1)).all f) = b5 by rw [HAll.out, ← Bool.and_assoc, hbb]; exact hb5)
                  have k0 : (0 : Int) ≤ (k : Int) := by omega
                  have k1 : (k : Int) < (ni : Int) := by omega
                  subst e
                  clear hx hbb hb5
                  go_wp2_with fail
                  refine HYx.out.mono ?_
                  rintro o w5 ⟨rfl, hI5, hK5⟩
                  have HI5 := Lib.hid hI5
                  have HK5 := Lib.hid (HK4.out.trans hK5 (fun _ _ h => h))
                  clear hI5 hK5 HYx
                  cases b5 with
                  | false =>
                    go_wp2_with fail
                    refine bodyPost_ret (results_none rfl _ _ _) rfl ?_
                    exact ⟨rfl, by rw [← usedRows_flat, HUF.out HB5.out]; exact HI5.out, (HKw.out.mono (fun _ _ h => h.elim)).trans (HK3.out.trans HK5.out (fun _ _ h => h)) (fun _ _ h => h)⟩
                  | true =>
                    go_wp2_with fail
                    go_roundw
                    case rel => exact ⟨k + 1, by go_num, by omega, by rw [HB5.out]; exact HI5.out, HK5.out⟩
                    case measure => simp [intOf]; omega
                · have HI4' := Lib.hid (show I w4 (b0 && ((usedRows C).take (i + 1)).flatten.all f) by
                    have h := HI4.out
                    rw [List.take_of_length_le (l := grow (usedRows C) i) (by rw [HNI.out]; omega)] at h
                    rwa [take_grow HIU.out])
                  go_wp2_with fail
                  go_roundw
                  case rel => exact ⟨i + 1, by go_num, by omega, HI4'.out, HK3.out.trans HK4.out (fun _ _ h => h)⟩
                  case measure => simp [intOf]; omega
            · have HI3' := Lib.hid (show I w3 (b0 && C.used.all f) by
                have h := HI3.out
                rw [List.take_of_length_le (by rw [HN4.out]; omega), usedRows_flat] at h
                exact h)
              go_wp2_with fail
              go_end0
              exact ⟨rfl, HI3'.out, (HKw.out.mono (fun _ _ h => h.elim)).trans HK3.out (fun _ _ h => h)⟩

set_option maxRecDepth 100000 in
set_option maxHeartbeats 4000000 in
theorem circ_uses2 (p q : Value) (V : CV) (C : Circ) (bo : Nat) (f : Int → Bool) (I : World → Bool → Prop) (b0 : Bool) (w0 w : World) (h0 : CAt w0 V C) (hf : CFew C 1000000) (hk0 : Kp (fun _ => False) w0 w) (hbo : w0.heap.size ≤ bo) (hbw : bo < w.heap.size)
    (hI : I w b0) (hIk : ∀ u u' b, Kp (fun _ => False) u u' → I u b → I u' b)
    (hY : ∀ u x b, x ∈ C.used → I u b → Calls Tryz.prog 75 #[.int .i64 x, p, q] u fun e u' => e = .returned (.bool (b && f x)) ∧ I u' (b && f x) ∧ Kp (fun j => j = bo) u u') :
    Calls Tryz.prog 73 #[.agg (cvals V C), .func (Fn.func 75) #[] #[p, q]] w fun e w' => e = .returned (.tuple #[]) ∧ I w' (b0 && C.used.all f) ∧ Kp (fun j => j = bo) w w' := by
  obtain ⟨wz, hwz⟩ : ∃ wz : World, wz = (w.alloc (.cells (cvals V C) 27)).alloc (.cells #[.slice V.ao C.outs.length V.co, .slice V.ab C.bads.length V.cb, .slice V.ac C.cons.length V.cc] 22) := ⟨_, rfl⟩
  have HG := Lib.hid (Gather.start V C bo w0 w wz hwz h0 hk0 hbo hbw)
  have HC1 := Lib.hid (Blk.new w (cvals V C) 27)
  have HS := Lib.hid (show wz.heap.size = w.heap.size + 2 by rw [hwz]; simp)
  have HZ := Lib.hid hwz
  have HA := Lib.hid h0
  have HF := Lib.hid hf
  have HK0 := Lib.hid hk0
  have HBO := Lib.hid (And.intro hbo hbw)
  have HII := Lib.hid (And.intro hI (And.intro hIk hY))
  have HI := Lib.hid (show (Tryz.prog.info? 22).map (fun i => (i.zero, i.size, i.bytes)) = some (some (.slice none 0 0), 1, 24) by kernel_rfl)
  have hl := (h0.fl.le63).1
  have hg := (h0.fg.le63).1
  clear hwz h0 hf hk0 hbo hbw hI hIk hY
  go_enter Tryz.func73, Tryz.ntmps73
  go_upto_region 1 with fail
  obtain ⟨d0, d1, d2, d3, d4, d5, d6, d7, d8⟩ := HC1.out.cells9
  go_upto_region 2 with fail
  rw [← HZ.out]
  clear d0 d1 d2 d3 d4 d5 d6 d7 d8 HC1
  have hG := HG.out
  obtain ⟨rs0, -, -, -, hB0, -⟩ := hG
  have c2 := hB0.cell (i := 2) (v := .slice V.al C.lats.length V.cl) rfl
  clear hB0
  go_wp2_with fail
  go_loopw [4, 23] (fun v4 v23 wr => ∃ k : Nat, v23 = .int .i64 k ∧ k ≤ C.lats.length ∧ Gather V C bo w ([C.outs, C.bads, C.cons] ++ (C.lats.take k).map (fun x => [x.2.1])) v4 wr) (fun _ v23 _ => C.lats.length - (intOf v23).toNat)
  case atStart => exact ⟨0, rfl, by omega, by simpa using HG.out⟩
  case round =>
    obtain ⟨k, rfl, hk, hG⟩ := hrel
    clear c2 HG
    obtain ⟨wp, rfl⟩ : ∃ wp : World, wp = wr := ⟨_, rfl⟩
    have HG := Lib.hid hG
    by_cases hlt : k < C.lats.length
    · obtain ⟨rs, hO, hR, hB, hC, hK⟩ := hG
      have HSw := Lib.hid (show w.heap.size ≤ wp.heap.size from hK.size)
      have HRL := Lib.hid (show rs.length ≤ 3000000 by have := hR.1; have := HF.out.l; simp at this ⊢; rw [hR.1]; simp; omega)
      obtain ⟨b, off, ea, e0, e1, e2⟩ := tri_cells (HA.out.kp (HK0.out.trans hK (fun _ _ h => h))).l hlt
      have i0 : (0 : Int) ≤ (k : Int) := by omega
      have i1 : decide ((k : Int) < (C.lats.length : Int)) = true := decide_eq_true (by omega)
      obtain ⟨x0, hx0⟩ : ∃ x, (g3 C.lats k).1 = x := ⟨_, rfl⟩
      obtain ⟨x1, hx1⟩ : ∃ x, (g3 C.lats k).2.1 = x := ⟨_, rfl⟩
      obtain ⟨x2, hx2⟩ : ∃ x, (g3 C.lats k).2.2 = x := ⟨_, rfl⟩
      have HT := Lib.hid (take_g3 hlt)
      rw [hx0] at e0
      rw [hx1] at e1
      rw [hx2] at e2
      have HX := Lib.hid hx1
      have HEA := Lib.hid ea
      have i2 : (k : Int) < (C.lats.length : Int) := by omega
      clear hx0 hx1 hx2 ea
      have HNew := Lib.hid (three_blk wp #[.int .i64 x0, .int .i64 x1, .int .i64 x2] #[.int .i64 x1] #[.slice (some ⟨wp.heap.size + 1, 0, none⟩) 1 1] 64 3 22)
      have HOw := Lib.hid (((hO.alloc (.cells #[.int .i64 x0, .int .i64 x1, .int .i64 x2] 64)).alloc (.cells #[.int .i64 x1] 3)).alloc (.cells #[.slice (some ⟨wp.heap.size + 1, 0, none⟩) 1 1] 22))
      have HMore := Lib.hid (fun v' w2 hO2 hgr hat => Gather.more (v' := v') (w2 := w2) (g := wp.heap.size + 1) (n := 1) (l := [x1]) HBO.out.2 hO hR hB hC hK ((((Kp.refl _ wp).alloc (.cells #[.int .i64 x0, .int .i64 x1, .int .i64 x2] 64)).alloc (.cells #[.int .i64 x1] 3)).alloc (.cells #[.slice (some ⟨wp.heap.size + 1, 0, none⟩) 1 1] 22)) (by omega) HNew.out.1 rfl (by simp [maxLen]) hO2 hgr hat)
      clear hO hR hB hC hK
      rw [HEA.out]
      go_wp2_with (at_builtin; refine wpList_append1_at rfl _ _ 39 22 rfl Tryz.underlying39 HI.out rfl HOw.out rfl ⟨wp.heap.size + 2, 0, none⟩ (.slice (some ⟨wp.heap.size + 1, 0, none⟩) 1 1) rfl (HNew.out.2.cell rfl) rfl ?c1 ?c2 ?c3 ?_)
      case c1 => have := HRL.out; omega
      case c2 => have := HRL.out; unfold maxLen; omega
      case c3 => have := HSw.out; simp; omega
      intro v' w2 hO2 hg2 hat2
      have hrel : ∃ k' : Nat, Value.int .i64 ((k : Int) + 1) = .int .i64 k' ∧ k' ≤ C.lats.length ∧ Gather V C bo w ([C.outs, C.bads, C.cons] ++ (C.lats.take k').map (fun x => [x.2.1])) v' w2 := by
        refine ⟨k + 1, by go_num, by omega, ?_⟩
        rw [HT.out, List.map_append, ← List.append_assoc]
        have : [g3 C.lats k].map (fun x => [x.2.1]) = [[x1]] := by simp [HX.out]
        rw [this]
        exact HMore.out v' w2 hO2 hg2 (by simpa using hat2)
      have HR := Lib.hid hrel
      clear hrel hO2 hg2 hat2 HOw HNew HT HMore HG
      go_wp2_with fail
      go_roundw
      case rel => exact HR.out
      case measure => simp [intOf]; omega
    · have hk' : k = C.lats.length := by omega
      have HG1 : Hid (Gather V C bo w ([C.outs, C.bads, C.cons] ++ C.lats.map (fun x => [x.2.1])) u4 wp) := Lib.hid (by rwa [hk', List.take_length] at hG)
      obtain ⟨rs0, -, -, -, hB0, -⟩ := hG
      have c6 := hB0.cell (i := 6) (v := .slice V.ag C.gates.length V.cg) rfl
      clear HG hk hk' hB0
      go_wp2_with fail
      go_loopw [4, 37] (fun v4 v37 wr => ∃ k : Nat, v37 = .int .i64 k ∧ k ≤ C.gates.length ∧ Gather V C bo w ([C.outs, C.bads, C.cons] ++ C.lats.map (fun x => [x.2.1]) ++ (C.gates.take k).map (fun x => [x.2.1, x.2.2])) v4 wr) (fun _ v37 _ => C.gates.length - (intOf v37).toNat)
      case atStart => exact ⟨0, rfl, by omega, by simpa using HG1.out⟩
      case round =>
        obtain ⟨k, rfl, hk, hG⟩ := hrel
        clear c6 HG1 hlt
        obtain ⟨wq, rfl⟩ : ∃ wp : World, wp = wr := ⟨_, rfl⟩
        have HG := Lib.hid hG
        by_cases hlt : k < C.gates.length
        · obtain ⟨rs, hO, hR, hB, hC, hK⟩ := hG
          have HSw := Lib.hid (show w.heap.size ≤ wq.heap.size from hK.size)
          have HRL := Lib.hid (show rs.length ≤ 3000000 by have := hR.1; have := HF.out.l; have := HF.out.g; rw [hR.1]; simp; omega)
          obtain ⟨b, off, ea, e0, e1, e2⟩ := tri_cells (HA.out.kp (HK0.out.trans hK (fun _ _ h => h))).g hlt
          have i0 : (0 : Int) ≤ (k : Int) := by omega
          have i1 : decide ((k : Int) < (C.gates.length : Int)) = true := decide_eq_true (by omega)
          obtain ⟨x0, hx0⟩ : ∃ x, (g3 C.gates k).1 = x := ⟨_, rfl⟩
          obtain ⟨x1, hx1⟩ : ∃ x, (g3 C.gates k).2.1 = x := ⟨_, rfl⟩
          obtain ⟨x2, hx2⟩ : ∃ x, (g3 C.gates k).2.2 = x := ⟨_, rfl⟩
          have HT := Lib.hid (take_g3 hlt)
          rw [hx0] at e0
          rw [hx1] at e1
          rw [hx2] at e2
          have HX := Lib.hid (And.intro hx1 hx2)
          have HEA := Lib.hid ea
          have i2 : (k : Int) < (C.gates.length : Int) := by omega
          clear hx0 hx1 hx2 ea
          have HNew := Lib.hid (three_blk wq #[.int .i64 x0, .int .i64 x1, .int .i64 x2] #[.int .i64 x1, .int .i64 x2] #[.slice (some ⟨wq.heap.size + 1, 0, none⟩) 2 2] 95 3 22)
          have HOw := Lib.hid (((hO.alloc (.cells #[.int .i64 x0, .int .i64 x1, .int .i64 x2] 95)).alloc (.cells #[.int .i64 x1, .int .i64 x2] 3)).alloc (.cells #[.slice (some ⟨wq.heap.size + 1, 0, none⟩) 2 2] 22))
          have HMore := Lib.hid (fun v' w2 hO2 hgr hat => Gather.more (v' := v') (w2 := w2) (g := wq.heap.size + 1) (n := 2) (l := [x1, x2]) HBO.out.2 hO hR hB hC hK ((((Kp.refl _ wq).alloc (.cells #[.int .i64 x0, .int .i64 x1, .int .i64 x2] 95)).alloc (.cells #[.int .i64 x1, .int .i64 x2] 3)).alloc (.cells #[.slice (some ⟨wq.heap.size + 1, 0, none⟩) 2 2] 22)) (by omega) HNew.out.1 rfl (by simp [maxLen]) hO2 hgr hat)
          clear hO hR hB hC hK
          rw [HEA.out]
          go_wp2_with (at_builtin; refine wpList_append1_at rfl _ _ 39 22 rfl Tryz.underlying39 HI.out rfl HOw.out rfl ⟨wq.heap.size + 2, 0, none⟩ (.slice (some ⟨wq.heap.size + 1, 0, none⟩) 2 2) rfl (HNew.out.2.cell rfl) rfl ?d1 ?d2 ?d3 ?_)
          case d1 => have := HRL.out; omega
          case d2 => have := HRL.out; unfold maxLen; omega
          case d3 => have := HSw.out; simp; omega
          intro v' w2 hO2 hg2 hat2
          have hrel : ∃ k' : Nat, Value.int .i64 ((k : Int) + 1) = .int .i64 k' ∧ k' ≤ C.gates.length ∧ Gather V C bo w ([C.outs, C.bads, C.cons] ++ C.lats.map (fun x => [x.2.1]) ++ (C.gates.take k').map (fun x => [x.2.1, x.2.2])) v' w2 := by
            refine ⟨k + 1, by go_num, by omega, ?_⟩
            rw [HT.out, List.map_append, ← List.append_assoc]
            have : [g3 C.gates k].map (fun x => [x.2.1, x.2.2]) = [[x1, x2]] := by simp [HX.out.1, HX.out.2]
            rw [this]
            exact HMore.out v' w2 hO2 hg2 (by simpa using hat2)
          have HR := Lib.hid hrel
          clear hrel hO2 hg2 hat2 HOw HNew HT HMore HG
          go_wp2_with fail
          go_roundw
          case rel => exact HR.out
          case measure => simp [intOf]; omega
        · have hk' : k = C.gates.length := by omega
          have hG1 : Gather V C bo w (usedRows C) u4 wq := by rw [hk', List.take_length] at hG; exact hG
          obtain ⟨rs, hO, hR, hB, hC, hK⟩ := hG1
          obtain ⟨a4, c4, e4, hc4, hm4, hp4, -⟩ := hO.form
          have HO := Lib.hid hO
          have HR := Lib.hid hR
          have hln : rs.length = (usedRows C).length := hR.1
          rw [hln] at e4 hc4
          subst e4
          obtain ⟨n4, hn4⟩ : ∃ n, (usedRows C).length = n := ⟨_, rfl⟩
          have HN4 := Lib.hid hn4
          have HIw := Lib.hid (HII.out.2.1 _ _ _ hK HII.out.1)
          have HKw := Lib.hid hK
          have hn63 : n4 ≤ 9223372036854775807 := by rw [← hn4, usedRows_length]; have := HF.out.l; have := HF.out.g; omega
          have hB4 : ∀ j, (Value.slice a4 n4 c4).ownBlock = some j → j ≠ bo := fun j hj => by
            have := hB j (by rw [hn4]; exact hj)
            have := HBO.out.2
            omega
          have HB4 := Lib.hid hB4
          rw [hn4] at HO HR ⊢
          have HRW := Lib.hid (show ∀ u, Kp (fun j => j = bo) wq u → RowAt u a4 rs from fun u hu => by
            obtain ⟨a, c, e, -, -, hp, hr⟩ := HO.out.form
            simp only [Value.slice.injEq] at e
            obtain ⟨rfl, -, -⟩ := e
            refine hr.kp hu (fun p hp' hb => ?_)
            obtain ⟨g, rfl, -, -⟩ := hp p hp'
            subst hp'
            exact hB4 g rfl hb)
          have HRR := Lib.hid (show ∀ u, Kp (fun j => j = bo) wq u → RowsAt (fun j => j = bo) u rs (usedRows C) from fun u hu => (HR.out.mono (fun j _ h => .inl h)).kp hu (fun _ h => h))
          clear hG hk' hO hR hB hC hK hln hk hp4 hm4 hB4 hn4 hc4 HO HR HB4 HG HA
          go_wp2_with fail
          go_loopw [52] (fun v52 wr => ∃ i : Nat, v52 = .int .i64 i ∧ i ≤ n4 ∧ I wr (b0 && ((usedRows C).take i).flatten.all f) ∧ Kp (fun j => j = bo) wq wr) (fun v52 _ => n4 - (intOf v52).toNat)
          case atStart => exact ⟨0, rfl, by omega, by simpa using HIw.out, Kp.refl _ _⟩
          case round =>
            obtain ⟨i, rfl, hi, hI3, hK3⟩ := hrel
            obtain ⟨w3, rfl⟩ : ∃ w3 : World, w3 = wr := ⟨_, rfl⟩
            have HI3 := Lib.hid hI3
            have HK3 := Lib.hid hK3
            clear hI3 hK3 HIw
            by_cases hi4 : i < n4
            · have hiU : i < (usedRows C).length := by rw [HN4.out]; exact hi4
              obtain ⟨r, hr⟩ : ∃ r, rs[i]? = some r := ⟨_, List.getElem?_eq_getElem (by rw [(HRR.out _ HK3.out).1]; exact hiU)⟩
              obtain ⟨ai, ci, rfl, hci, hcm, hri, -⟩ := (HRR.out _ HK3.out).2 i r _ hr (grow_at hiU)
              obtain ⟨b, off, ea, hcell⟩ := HRW.out _ HK3.out i _ hr
              have HRI := Lib.hid (show ∀ u, Kp (fun j => j = bo) w3 u → IntsAt u ai (grow (usedRows C) i) from fun u hu => by
                obtain ⟨a2, c2, e2, -, -, h2, -⟩ := (HRR.out u (HK3.out.trans hu (fun _ _ h => h))).2 i _ _ hr (grow_at hiU)
                simp only [Value.slice.injEq] at e2
                rw [e2.1]; exact h2)
              have HIU := Lib.hid hiU
              obtain ⟨ni, hni⟩ : ∃ ni, (grow (usedRows C) i).length = ni := ⟨_, rfl⟩
              rw [hni] at hcell hci
              have HNI := Lib.hid hni
              have hn63i : ni ≤ 9223372036854775807 := by unfold maxLen at hcm; omega
              subst ea
              clear hr hri hci hcm hni hiU
              have i0 : (0 : Int) ≤ (i : Int) := by omega
              have i1 : (i : Int) < (n4 : Int) := by omega
              go_wp2_with fail
              go_loopw [58] (fun v58 w4 => ∃ k : Nat, v58 = .int .i64 k ∧ k ≤ ni ∧ I w4 (b0 && (((usedRows C).take i).flatten ++ (grow (usedRows C) i).take k).all f) ∧ Kp (fun j => j = bo) w3 w4) (fun v58 _ => ni - (intOf v58).toNat)
              case atStart => exact ⟨0, rfl, by omega, by simpa using HI3.out, Kp.refl _ _⟩
              case round =>
                obtain ⟨k, rfl, hk, hI4, hK4⟩ := hrel
                obtain ⟨w4, rfl⟩ : ∃ w4 : World, w4 = wr := ⟨_, rfl⟩
                have HI4 := Lib.hid hI4
                have HK4 := Lib.hid hK4
                clear hI4 hK4 hcell
                by_cases hkl : k < ni
                · obtain ⟨b, off, e, hcell⟩ := (HRI.out _ HK4.out).get (j := k) (by rw [HNI.out]; exact hkl)
                  have HMem := Lib.hid (show gi (grow (usedRows C) i) k ∈ C.used by rw [← usedRows_flat]; exact mem_used HIU.out (by rw [HNI.out]; exact hkl))
                  have HAll := Lib.hid (all_take_gi (l := grow (usedRows C) i) (k := k) (by rw [HNI.out]; exact hkl) (((usedRows C).take i).flatten) f)
                  have HUF := Lib.hid (used_false (L := usedRows C) (i := i) (k := k) HIU.out (f := f) (b := b0))
                  obtain ⟨x, hx⟩ : ∃ x, gi (grow (usedRows C) i) k = x := ⟨_, rfl⟩
                  rw [hx] at hcell HMem HAll
                  obtain ⟨bb, hbb⟩ : ∃ bb, (b0 && (((usedRows C).take i).flatten ++ (grow (usedRows C) i).take k).all f) = bb := ⟨_, rfl⟩
                  have HBB := Lib.hid hbb
                  rw [hbb] at HI4
                  obtain ⟨b5, hb5⟩ : ∃ b5, (bb && f x) = b5 := ⟨_, rfl⟩
                  have HYx := Lib.hid (HII.out.2.2 _ _ _ HMem.out HI4.out)
                  rw [hb5] at HYx
                  have HB5 := Lib.hid (show (b0 && (((usedRows C).take i).flatten ++ (grow (usedRows C) i).take (k + 1)).all f) = b5 by rw [HAll.out, ← Bool.and_assoc, hbb]; exact hb5)
                  have k0 : (0 : Int) ≤ (k : Int) := by omega
                  have k1 : (k : Int) < (ni : Int) := by omega
                  subst e
                  clear hx hbb hb5
                  go_wp2_with fail
                  refine HYx.out.mono ?_
                  rintro o w5 ⟨rfl, hI5, hK5⟩
                  have HI5 := Lib.hid hI5
                  have HK5 := Lib.hid (HK4.out.trans hK5 (fun _ _ h => h))
                  clear hI5 hK5 HYx
                  cases b5 with
                  | false =>
                    go_wp2_with fail
                    refine bodyPost_ret (results_none rfl _ _ _) rfl ?_
                    exact ⟨rfl, by rw [← usedRows_flat, HUF.out HB5.out]; exact HI5.out, (HKw.out.mono (fun _ _ h => h.elim)).trans (HK3.out.trans HK5.out (fun _ _ h => h)) (fun _ _ h => h)⟩
                  | true =>
                    go_wp2_with fail
                    go_roundw
                    case rel => exact ⟨k + 1, by go_num, by omega, by rw [HB5.out]; exact HI5.out, HK5.out⟩
                    case measure => simp [intOf]; omega
                · have HI4' := Lib.hid (show I w4 (b0 && ((usedRows C).take (i + 1)).flatten.all f) by
                    have h := HI4.out
                    rw [List.take_of_length_le (l := grow (usedRows C) i) (by rw [HNI.out]; omega)] at h
                    rwa [take_grow HIU.out])
                  go_wp2_with fail
                  go_roundw
                  case rel => exact ⟨i + 1, by go_num, by omega, HI4'.out, HK3.out.trans HK4.out (fun _ _ h => h)⟩
                  case measure => simp [intOf]; omega
            · have HI3' := Lib.hid (show I w3 (b0 && C.used.all f) by
                have h := HI3.out
                rw [List.take_of_length_le (by rw [HN4.out]; omega), usedRows_flat] at h
                exact h)
              go_wp2_with fail
              go_end0
              exact ⟨rfl, HI3'.out, (HKw.out.mono (fun _ _ h => h.elim)).trans HK3.out (fun _ _ h => h)⟩

end Go.Proofs.YtnoknecfdnjomaaGreat

/-
  The closures of circ.Check.
-/
namespace Go.Proofs.YtnoknecfdnjomaaGreat
open Go.RowKit

theorem check_f1 (bo bc : Nat) (V : CV) (C : Circ) (u : World) (x : Int) (b : Bool) (hO : Blk u bo #[.bool b] 4) (hC : Blk u bc (cvals V C) 27) (m0 : 0 ≤ C.max) (m1 : C.max ≤ 16777216) :
    Calls Tryz.prog 74 #[.int .i64 x, .pointer (some ⟨bo, 0, none⟩), .pointer (some ⟨bc, 0, none⟩)] u fun e u' => e = .returned (.bool (b && useB C.max x)) ∧ u' = u.setCell ⟨bo, 0, none⟩ (.bool (b && useB C.max x)) := by
  have o0 : u.cell? ⟨bo, 0, none⟩ = some (.bool b) := hO.cell rfl
  have fo := hO.free 0
  have c0 : u.cell? ⟨bc, 0, none⟩ = some (.int .i64 C.max) := hC.cell rfl
  clear hO hC
  obtain ⟨r, hr⟩ : ∃ r, (b && useB C.max x) = r := ⟨_, rfl⟩
  rw [hr]
  have HR := Lib.hid hr
  clear hr
  cases b with
  | false =>
    obtain rfl : r = false := by have := HR.out; simpa using this.symm
    go_enter Tryz.func74, Tryz.ntmps74
    go_wp2_with fail
    go_ret
    exact ⟨rfl, rfl⟩
  | true =>
    by_cases h1 : 0 ≤ x
    · by_cases h2 : x ≤ 2 * C.max + 1
      · obtain rfl : r = true := by have := HR.out; rw [← this]; simp [useB, h1, h2]
        go_enter Tryz.func74, Tryz.ntmps74
        go_wp2_with fail
        go_ret
        exact ⟨rfl, rfl⟩
      · obtain rfl : r = false := by have := HR.out; rw [← this]; simp [useB, h2]
        have d2 : decide (x ≤ 2 * C.max + 1) = false := decide_eq_false h2
        go_enter Tryz.func74, Tryz.ntmps74
        go_wp2_with fail
        go_ret
        exact ⟨rfl, rfl⟩
    · obtain rfl : r = false := by have := HR.out; rw [← this]; simp [useB, h1]
      have d1 : decide (0 ≤ x) = false := decide_eq_false h1
      go_enter Tryz.func74, Tryz.ntmps74
      go_wp2_with fail
      go_ret
      exact ⟨rfl, rfl⟩

theorem check_f2 (bo bh bm n : Nat) (F : Int → Bool) (u : World) (x : Int) (b : Bool) (hO : Blk u bo #[.bool b] 4) (hH : Blk u bh #[.map (some bm)] 107) (hM : IMB u bm n F) (x0 : 0 ≤ x) (x1 : x ≤ 100000000) :
    Calls Tryz.prog 75 #[.int .i64 x, .pointer (some ⟨bo, 0, none⟩), .pointer (some ⟨bh, 0, none⟩)] u fun e u' => e = .returned (.bool (b && F (x / 2))) ∧ u' = u.setCell ⟨bo, 0, none⟩ (.bool (b && F (x / 2))) := by
  have o0 : u.cell? ⟨bo, 0, none⟩ = some (.bool b) := hO.cell rfl
  have fo := hO.free 0
  have c0 : u.cell? ⟨bh, 0, none⟩ = some (.map (some bm)) := hH.cell rfl
  have hl := hM.look (x := x / 2) ⟨by omega, by omega⟩
  clear hO hH hM
  obtain ⟨f, hf⟩ : ∃ f, F (x / 2) = f := ⟨_, rfl⟩
  rw [hf] at hl ⊢
  clear hf
  cases b with
  | false =>
    go_enter Tryz.func75, Tryz.ntmps75
    go_wp2_with fail
    go_ret
    exact ⟨rfl, rfl⟩
  | true =>
    go_enter Tryz.func75, Tryz.ntmps75
    go_wp2_with fail
    go_ret
    exact ⟨rfl, rfl⟩

end Go.Proofs.YtnoknecfdnjomaaGreat

/-
  circ.Check: what is wrong with any circuit. (Printed by mkcheck.py.)
-/
namespace Go.Proofs.YtnoknecfdnjomaaGreat
open Go.RowKit

theorem and1 (n : Int) : bits .and .i64 n 1 = n % 2 := by
  have h1 : (BitVec.ofInt 64 1).toNat = 2 ^ 1 - 1 := by decide
  have key : (BitVec.ofInt 64 n &&& BitVec.ofInt 64 1).toNat = (n % ((2 ^ 64 : Nat) : Int)).toNat % 2 ^ 1 := by
    rw [BitVec.toNat_and, BitVec.toNat_ofInt, h1, Nat.and_two_pow_sub_one_eq_mod]
  show IntKind.i64.wrap ((BitVec.ofInt 64 n &&& BitVec.ofInt 64 1).toNat : Nat) = n % 2
  rw [key, IntKind.wrap_i64]
  omega

theorem Blk.bool {w : World} {b : Nat} {x : Bool} {t : TypeId} (h : Blk w b #[.bool x] t) (y : Bool) : Blk (w.setCell ⟨b, 0, none⟩ (.bool y)) b #[.bool y] t := by
  have := h.set_same 0 (.bool y)
  simpa using this

theorem all_take {α : Type} {l : List α} {k : Nat} {x : α} (h : l.take (k + 1) = l.take k ++ [x]) (f : α → Bool) : (l.take (k + 1)).all f = ((l.take k).all f && f x) := by
  rw [h, List.all_append]; simp

def hasF (own : List Int) (y : Int) : Bool := decide (y = 0) || own.any (fun z => decide (z / 2 = y))

theorem hasF_snoc (P : List Int) (x : Int) : (fun y => if y = x / 2 then true else hasF P y) = hasF (P ++ [x]) := by
  funext y
  unfold hasF
  rw [List.any_append]
  by_cases h : y = x / 2
  · subst h; simp
  · have : ¬ x / 2 = y := fun e => h e.symm
    simp [h, this]

theorem hasF_new {C : Circ} (hR : InRange C) {k : Nat} (hk : k < C.owned.length) : hasF (C.owned.take k) (gi C.owned k / 2) = decide (gi C.owned k ∈ C.owned.take k) := by
  have hx : gi C.owned k ∈ C.owned := by
    unfold gi; rw [List.getElem?_eq_getElem hk]; exact List.getElem_mem hk
  have h1 := hR.own _ hx
  unfold hasF
  rw [decide_eq_false (by omega), Bool.false_or, Bool.eq_iff_iff]
  simp only [List.any_eq_true, decide_eq_true_eq]
  constructor
  · rintro ⟨z, hz, e⟩
    have h2 := hR.own _ (List.mem_of_mem_take hz)
    have : z = gi C.owned k := by omega
    rw [← this]; exact hz
  · intro h; exact ⟨_, h, rfl⟩

theorem nodup_take {l : List Int} {k : Nat} (hk : k < l.length) (h : (l.take k).Nodup) (hm : gi l k ∉ l.take k) : (l.take (k + 1)).Nodup := by
  rw [take_gi hk, List.nodup_append]
  refine ⟨h, by simp, fun a ha b hb => ?_⟩
  simp at hb
  subst hb
  intro e
  subst e
  exact hm ha

theorem not_nodup {l : List Int} {k : Nat} (hk : k < l.length) (hm : gi l k ∈ l.take k) : ¬ l.Nodup := by
  intro h
  obtain ⟨j, hj⟩ := List.mem_iff_getElem?.1 hm
  have hjk : j < k := by
    have := (List.getElem?_eq_some_iff.1 hj).1
    simp at this; omega
  rw [List.getElem?_take, if_pos hjk] at hj
  have h2 : l[k]? = some (gi l k) := by unfold gi; rw [List.getElem?_eq_getElem hk]; rfl
  have := nodup_getElem h hj h2
  omega

theorem hasF_zero : (fun y => if y = 0 then true else false) = hasF [] := by
  funext y
  unfold hasF
  by_cases h : y = 0 <;> simp [h]

/-- how circ.Check's answer is laid open -/
theorem ck5 {C : Circ} (h : C.max < 0 ∨ 16777216 < C.max ∨ rangeB C = false) : ckCode C = 5 := by
  unfold ckCode
  by_cases h1 : C.max < 0 ∨ 16777216 < C.max
  · rw [if_pos h1]
  · rw [if_neg h1, if_pos]
    rcases h with h | h | h
    · exact absurd (.inl h) h1
    · exact absurd (.inr h) h1
    · exact h
theorem ckR {C : Circ} (h0 : 0 ≤ C.max) (h1 : C.max ≤ 16777216) (h : rangeB C = true) : ckCode C = if ¬ C.owned.Nodup then 7 else if C.used.all (knownB C.owned) = false then 9 else if (ordO C.gates).length < C.gates.length then 8 else 0 := by
  unfold ckCode
  rw [if_neg (by omega), if_neg (by simp [h])]

set_option maxRecDepth 100000 in
set_option maxHeartbeats 8000000 in
theorem circ_Chk (V : CV) (C : Circ) (w : World) (h : CAt w V C) (hf : CFew C 1000000) :
    Calls Tryz.prog 57 #[.agg (cvals V C)] w fun e w' => e = .returned (.int .i64 (ckCode C)) ∧ Kp (fun _ => False) w w' := by
  obtain ⟨code, hcode⟩ : ∃ code, ckCode C = code := ⟨_, rfl⟩
  rw [hcode]
  have HCode := Lib.hid hcode
  clear hcode
  have HC0 := Lib.hid (Blk.new w (cvals V C) 27)
  have HK0 := Lib.hid ((Kp.refl (fun _ => False) w).alloc (.cells (cvals V C) 27))
  by_cases m0 : 0 ≤ C.max
  case neg =>
    have d1 : decide (C.max < 0) = true := decide_eq_true (by omega)
    obtain rfl : code = 5 := by rw [← HCode.out]; exact ck5 (.inl (by omega))
    have c0 := HC0.out.cell (i := 0) (v := .int .i64 C.max) rfl
    clear m0 h hf
    go_enter Tryz.func57, Tryz.ntmps57
    go_wp2_with fail
    go_ret
    exact ⟨rfl, HK0.out⟩
  have e1 : decide (C.max < 0) = false := decide_eq_false (by omega)
  by_cases m1 : C.max ≤ 16777216
  case neg =>
    have d1 : decide ((16777216 : Int) < C.max) = true := decide_eq_true (by omega)
    obtain rfl : code = 5 := by rw [← HCode.out]; exact ck5 (.inr (.inl (by omega)))
    have c0 := HC0.out.cell (i := 0) (v := .int .i64 C.max) rfl
    clear m1 h hf
    go_enter Tryz.func57, Tryz.ntmps57
    go_wp2_with fail
    go_ret
    exact ⟨rfl, HK0.out⟩
  have e2 : decide ((16777216 : Int) < C.max) = false := decide_eq_false (by omega)
  have HM := Lib.hid (And.intro m0 m1)
  have hl := (h.fl.le63).1
  have HA := Lib.hid h
  have HF := Lib.hid hf
  have HOl := Lib.hid (show C.owned.length ≤ 3000000 by have := hf.i; have := hf.l; have := hf.g; unfold Circ.owned; simp; omega)
  have HD := Lib.hid (fun u (hu : Kp (fun _ => False) w u) => circ_defined V C u (h.kp hu) hf)
  clear h hf
  obtain ⟨bc, hbc⟩ : ∃ bc, bc = w.heap.size := ⟨_, rfl⟩
  have HBc := Lib.hid hbc
  obtain ⟨d0, d1, d2, d3, d4, d5, d6, d7, d8⟩ := HC0.out.cells9
  go_enter Tryz.func57, Tryz.ntmps57
  go_wp2_with fail
  refine (HD.out _ HK0.out).mono ?_
  rintro e w1 ⟨v1, rfl, hO1, hK1⟩
  clear d0 d1 d2 d3 d4 d5 d6 d7 d8
  have hB1 := HC0.out.kp hK1 (fun h => h)
  have hK1' := HK0.out.trans hK1 (fun _ _ h => h)
  obtain ⟨a1, cp1, e1', hc1, hm1, -, -⟩ := hO1.form
  obtain ⟨n1, hn1⟩ : ∃ n, C.owned.length = n := ⟨_, rfl⟩
  rw [iv_length, hn1] at e1' hc1
  have hn63 : n1 ≤ 9223372036854775807 := by unfold maxLen at hm1; omega
  have HN1 := Lib.hid hn1
  obtain ⟨bo, hbo⟩ : ∃ bo, bo = w1.heap.size := ⟨_, rfl⟩
  obtain ⟨wo, hwo⟩ : ∃ wo : World, wo = w1.alloc (.cells #[.bool true] 4) := ⟨_, rfl⟩
  have HBo : Hid (Blk wo bo #[.bool true] 4) := Lib.hid (by rw [hwo, hbo]; exact Blk.new _ _ _)
  have HKo : Hid (Kp (fun _ => False) w wo) := Lib.hid (by rw [hwo]; exact hK1'.alloc _)
  have HBC : Hid (Blk wo bc (cvals V C) 27) := Lib.hid (by rw [hwo, hbc]; exact hB1.alloc _)
  have HNe : Hid (w.heap.size ≤ bc ∧ bc < bo ∧ bo < wo.heap.size) := Lib.hid ⟨by omega, by rw [hbc, hbo]; exact hB1.lt, HBo.out.lt⟩
  have HRW := Lib.hid (show ∀ u, Kp (fun j => j = bo) wo u → IntsAt u a1 C.owned from fun u hu => by
    have hO2 : Own wo (w.alloc (.cells (cvals V C) 27)).heap.size 3 v1 (iv C.owned) := by rw [hwo]; exact hO1.alloc _
    have hne : ∀ j, v1.ownBlock = some j → ¬ j = bo := fun j hj e => by have := (hO1.lt j hj).2; omega
    obtain ⟨a, c, e, -, -, -, hr⟩ := (hO2.kp hu hne).form
    rw [e1'] at e
    simp only [Value.slice.injEq] at e
    rw [e.1]; exact hr)
  subst e1'
  have hwo' := hwo.symm
  have hbo' := hbo.symm
  have hbc' := hbc.symm
  clear hbo hwo hbc hO1 hK1 hB1 hK1' hc1 hm1 hn1 HC0 HK0 e1 e2 HD
  go_upto_region 4 with fail
  try rw [hwo']
  try rw [hbo']
  try rw [hbc']
  clear hwo' hbo' hbc'
  have c0 := HBC.out.cell (i := 0) (v := .int .i64 C.max) rfl
  go_wp2_with fail
  go_loopw [24] (fun v24 wr => ∃ k : Nat, v24 = .int .i64 k ∧ k ≤ n1 ∧ Blk wr bo #[.bool ((C.owned.take k).all (ownB C.max))] 4 ∧ Kp (fun j => j = bo) wo wr) (fun v24 _ => n1 - (intOf v24).toNat)
  case atStart => exact ⟨0, rfl, by omega, by simpa using HBo.out, Kp.refl _ _⟩
  case round =>
    obtain ⟨k, rfl, hk, hB, hK⟩ := hrel
    clear c0 HBo
    obtain ⟨wp, rfl⟩ : ∃ wp : World, wp = wr := ⟨_, rfl⟩
    have HK := Lib.hid hK
    obtain ⟨b, hb⟩ : ∃ b, (C.owned.take k).all (ownB C.max) = b := ⟨_, rfl⟩
    rw [hb] at hB
    by_cases hlt : k < n1
    · obtain ⟨bl, off, rfl, hcell⟩ := (HRW.out _ hK).get (j := k) (by rw [HN1.out]; exact hlt)
      obtain ⟨x, hx⟩ : ∃ x, gi C.owned k = x := ⟨_, rfl⟩
      rw [hx] at hcell
      have hall := all_take (take_gi (L := C.owned) (k := k) (by rw [HN1.out]; exact hlt)) (ownB C.max)
      rw [hb, hx] at hall
      have c0 := (HBC.out.kp hK (fun e => by have := HNe.out; omega)).cell (i := 0) (v := .int .i64 C.max) rfl
      have o0 : wp.cell? ⟨bo, 0, none⟩ = some (.bool b) := hB.cell rfl
      have fo := hB.free 0
      have i0 : (0 : Int) ≤ (k : Int) := by omega
      have i1 : (k : Int) < (n1 : Int) := by omega
      have ha := and1 x
      have HNext := Lib.hid (fun y (hy : (b && ownB C.max x) = y) => show ∃ k' : Nat, Value.int .i64 ((k : Int) + 1) = .int .i64 k' ∧ k' ≤ n1 ∧ Blk (wp.setCell ⟨bo, 0, none⟩ (.bool y)) bo #[.bool ((C.owned.take k').all (ownB C.max))] 4 ∧ Kp (fun j => j = bo) wo (wp.setCell ⟨bo, 0, none⟩ (.bool y)) from
        ⟨k + 1, by go_num, by omega, by rw [hall, hy]; exact hB.bool y, hK.setCell (p := ⟨bo, 0, none⟩) (fun _ => rfl) _⟩)
      clear hb hx hall hB hK
      cases b with
      | false =>
        go_wp2_with fail
        go_roundw
        case rel => exact HNext.out false (by simp)
        case measure => simp [intOf]; omega
      | true =>
        by_cases h1 : 1 < x
        · by_cases h2 : x % 2 = 0
          · by_cases h3 : x ≤ 2 * C.max
            · have HPrf := Lib.hid (show (true && ownB C.max x) = true by simp [ownB, h1, h2, h3])
              have g2 : ((x % 2 : Int) == 0) = true := by simp [h2]
              clear h2
              go_wp2_with fail
              go_roundw
              case rel => exact HNext.out true (HPrf.out)
              case measure => simp [intOf]; omega
            · have HPrf := Lib.hid (show (true && ownB C.max x) = false by simp [ownB, h3])
              have g2 : ((x % 2 : Int) == 0) = true := by simp [h2]
              have g3 : decide (x ≤ 2 * C.max) = false := decide_eq_false h3
              clear h2
              go_wp2_with fail
              go_roundw
              case rel => exact HNext.out false (HPrf.out)
              case measure => simp [intOf]; omega
          · have HPrf := Lib.hid (show (true && ownB C.max x) = false by simp [ownB, h2])
            have g2 : ((x % 2 : Int) == 0) = false := by simp [h2]
            clear h2
            go_wp2_with fail
            go_roundw
            case rel => exact HNext.out false (HPrf.out)
            case measure => simp [intOf]; omega
        · have HPrf := Lib.hid (show (true && ownB C.max x) = false by simp [ownB, h1])
          have g1 : decide (1 < x) = false := decide_eq_false h1
          go_wp2_with fail
          go_roundw
          case rel => exact HNext.out false (HPrf.out)
          case measure => simp [intOf]; omega
    · have HB := Lib.hid (show Blk wp bo #[.bool (C.owned.all (ownB C.max))] 4 by
        rw [List.take_of_length_le (by rw [HN1.out]; omega)] at hb
        rw [hb]; exact hB)
      have c2 := (HBC.out.kp hK (fun e => by have := HNe.out; omega)).cell (i := 2) (v := .slice V.al C.lats.length V.cl) rfl
      clear hB hK hb hk
      obtain ⟨r1, hr1⟩ : ∃ r, C.owned.all (ownB C.max) = r := ⟨_, rfl⟩
      rw [hr1] at HB
      have HR1 := Lib.hid hr1
      clear hr1
      go_wp2_with fail
      go_loopw [49] (fun v49 wr => ∃ k : Nat, v49 = .int .i64 k ∧ k ≤ C.lats.length ∧ Blk wr bo #[.bool (r1 && (C.lats.take k).all resB)] 4 ∧ Kp (fun j => j = bo) wo wr) (fun v49 _ => C.lats.length - (intOf v49).toNat)
      case atStart => exact ⟨0, rfl, by omega, by simpa using HB.out, HK.out⟩
      case round =>
        obtain ⟨k, rfl, hk, hB, hK⟩ := hrel
        clear c2 HB HK hlt
        obtain ⟨wq, rfl⟩ : ∃ wp : World, wp = wr := ⟨_, rfl⟩
        obtain ⟨b, hb⟩ : ∃ b, (r1 && (C.lats.take k).all resB) = b := ⟨_, rfl⟩
        rw [hb] at hB
        have HK := Lib.hid hK
        by_cases hlt : k < C.lats.length
        · have hKw : Kp (fun _ => False) w wq := HKo.out.trans hK (fun j hj e => by have := HNe.out; omega)
          obtain ⟨bl, off, ea, l0, l1, l2⟩ := tri_cells (HA.out.kp hKw).l hlt
          have hall := all_take (take_g3 hlt) resB
          obtain ⟨x0, hx0⟩ : ∃ x, (g3 C.lats k).1 = x := ⟨_, rfl⟩
          obtain ⟨x1, hx1⟩ : ∃ x, (g3 C.lats k).2.1 = x := ⟨_, rfl⟩
          obtain ⟨x2, hx2⟩ : ∃ x, (g3 C.lats k).2.2 = x := ⟨_, rfl⟩
          have hres : resB (g3 C.lats k) = (decide (x2 = 0) || (decide (x2 = 1) || decide (x2 = x0))) := by unfold resB; rw [hx0, hx2]
          rw [hres] at hall
          rw [hx0] at l0
          rw [hx1] at l1
          rw [hx2] at l2
          have hBa := hB.alloc (.cells #[.int .i64 x0, .int .i64 x1, .int .i64 x2] 64)
          have o0 : (wq.alloc (.cells #[.int .i64 x0, .int .i64 x1, .int .i64 x2] 64)).cell? ⟨bo, 0, none⟩ = some (.bool b) := hBa.cell rfl
          have fo := hBa.free 0
          have i0 : (0 : Int) ≤ (k : Int) := by omega
          have i1 : (k : Int) < (C.lats.length : Int) := by omega
          have HNext := Lib.hid (fun y (hy : (b && (decide (x2 = 0) || (decide (x2 = 1) || decide (x2 = x0)))) = y) => show ∃ k' : Nat, Value.int .i64 ((k : Int) + 1) = .int .i64 k' ∧ k' ≤ C.lats.length ∧ Blk ((wq.alloc (.cells #[.int .i64 x0, .int .i64 x1, .int .i64 x2] 64)).setCell ⟨bo, 0, none⟩ (.bool y)) bo #[.bool (r1 && (C.lats.take k').all resB)] 4 ∧ Kp (fun j => j = bo) wo ((wq.alloc (.cells #[.int .i64 x0, .int .i64 x1, .int .i64 x2] 64)).setCell ⟨bo, 0, none⟩ (.bool y)) from
            ⟨k + 1, by go_num, by omega, by rw [hall, ← Bool.and_assoc, hb, hy]; exact hBa.bool y, (hK.alloc _).setCell (p := ⟨bo, 0, none⟩) (fun _ => rfl) _⟩)
          have HEA := Lib.hid ea
          clear hx0 hx1 hx2 ea hb hall hres hB hBa hK hKw
          rw [HEA.out]
          cases b with
          | false =>
            go_wp2_with fail
            go_roundw
            case rel => exact HNext.out false (by simp)
            case measure => simp [intOf]; omega
          | true =>
            by_cases h1 : x2 = 0
            · have HPrf := Lib.hid (show (true && (decide (x2 = 0) || (decide (x2 = 1) || decide (x2 = x0)))) = true by simp [h1])
              have g1 : ((x2 : Int) == 0) = true := by simp [h1]
              clear h1
              go_wp2_with fail
              go_roundw
              case rel => exact HNext.out true (HPrf.out)
              case measure => simp [intOf]; omega
            · have g1 : ((x2 : Int) == 0) = false := by simp [h1]
              by_cases h2 : x2 = 1
              · have HPrf := Lib.hid (show (true && (decide (x2 = 0) || (decide (x2 = 1) || decide (x2 = x0)))) = true by simp [h2])
                have g2 : ((x2 : Int) == 1) = true := by simp [h2]
                clear h1 h2
                go_wp2_with fail
                go_roundw
                case rel => exact HNext.out true (HPrf.out)
                case measure => simp [intOf]; omega
              · have g2 : ((x2 : Int) == 1) = false := by simp [h2]
                by_cases h3 : x2 = x0
                · have HPrf := Lib.hid (show (true && (decide (x2 = 0) || (decide (x2 = 1) || decide (x2 = x0)))) = true by simp [h3])
                  have g3 : ((x2 : Int) == x0) = true := by simp [h3]
                  clear h1 h2 h3
                  go_wp2_with fail
                  go_roundw
                  case rel => exact HNext.out true (HPrf.out)
                  case measure => simp [intOf]; omega
                · have HPrf := Lib.hid (show (true && (decide (x2 = 0) || (decide (x2 = 1) || decide (x2 = x0)))) = false by simp [h1, h2, h3])
                  have g3 : ((x2 : Int) == x0) = false := by simp [h3]
                  clear h1 h2 h3
                  go_wp2_with fail
                  go_roundw
                  case rel => exact HNext.out false (HPrf.out)
                  case measure => simp [intOf]; omega
        · have HB := Lib.hid (show Blk wq bo #[.bool (r1 && C.lats.all resB)] 4 by
            rw [List.take_of_length_le (by omega)] at hb
            rw [hb]; exact hB)
          clear hB hK hb hk
          obtain ⟨r2, hr2⟩ : ∃ r, (r1 && C.lats.all resB) = r := ⟨_, rfl⟩
          rw [hr2] at HB
          have HR2 := Lib.hid hr2
          clear hr2
          have hbcq := HBC.out.kp HK.out (fun e => by have := HNe.out; omega)
          have HBCq := Lib.hid hbcq
          obtain ⟨d0, d1, d2, d3, d4, d5, d6, d7, d8⟩ := hbcq.cells9
          have HKq := Lib.hid (HKo.out.trans HK.out (fun j hj e => by have := HNe.out; omega))
          have HU := Lib.hid (circ_uses1 (.pointer (some ⟨bo, 0, none⟩)) (.pointer (some ⟨bc, 0, none⟩)) V C bo (useB C.max) (fun u b => Blk u bo #[.bool b] 4 ∧ Blk u bc (cvals V C) 27) r2 w wq HA.out HF.out HKq.out (by have := HNe.out; omega) (by have := HNe.out; have := HK.out.size; omega)
            ⟨HB.out, hbcq⟩ (fun u u' b hK hI => ⟨hI.1.kp hK (fun h => h), hI.2.kp hK (fun h => h)⟩)
            (fun u x b hx hI => (check_f1 bo bc V C u x b hI.1 hI.2 HM.out.1 HM.out.2).mono (by
              rintro e u' ⟨he, rfl⟩
              exact ⟨he, ⟨hI.1.bool _, hI.2.set_other (p := ⟨bo, 0, none⟩) (show bc ≠ bo by have := HNe.out; omega) _⟩, Kp.set u ⟨bo, 0, none⟩ _⟩)))
          clear hbcq
          go_wp2_with fail
          refine HU.out.mono ?_
          rintro e w2 ⟨rfl, ⟨hO2, hC2⟩, hK2⟩
          have HK2 := Lib.hid (HKq.out.trans hK2 (fun j hj h => by have := HNe.out; omega))
          obtain ⟨r3, hr3⟩ : ∃ r, (r2 && C.used.all (useB C.max)) = r := ⟨_, rfl⟩
          rw [hr3] at hO2
          have HR3 := Lib.hid (show rangeB C = r3 by unfold rangeB; rw [HR1.out, HR2.out]; exact hr3)
          have o2 : w2.cell? ⟨bo, 0, none⟩ = some (.bool r3) := hO2.cell rfl
          have HO2 := Lib.hid hO2
          have HC2 := Lib.hid hC2
          have HKo2 := Lib.hid (HK.out.trans hK2 (fun _ _ h => h))
          clear hr3 hO2 hC2 hK2 HU d0 d1 d2 d3 d4 d5 d6 d7 d8 HBCq HB HK HKq
          cases r3 with
          | false =>
            obtain rfl : code = 5 := by rw [← HCode.out]; exact ck5 (.inr (.inr HR3.out))
            go_wp2_with fail
            go_ret
            exact ⟨rfl, HK2.out⟩
          | true =>
            have HIR := Lib.hid (InRange.of HM.out.1 HM.out.2 HR3.out)
            have HCk := Lib.hid (ckR HM.out.1 HM.out.2 HR3.out)
            rw [HCode.out] at HCk
            clear HR1 HR2 HR3 HCode
            obtain ⟨w3, hput, hM3, hK3⟩ := (IMB.made w2).put (by unfold maxLen; omega) (x := 0) ⟨by omega, by omega⟩ true
            rw [hasF_zero] at hM3
            have hmm := @run_makeMap Tryz.prog
            have hs3 : w2.heap.size < w3.heap.size := by have := hK3.size; rw [World.size_alloc] at this; omega
            have hbo2 := HO2.out.lt
            have hbc2 := HC2.out.lt
            have HO3 := Lib.hid ((HO2.out.alloc (.map #[] 0)).kp hK3 (by omega))
            have HC3 := Lib.hid ((HC2.out.alloc (.map #[] 0)).kp hK3 (by omega))
            have HK3 := Lib.hid ((HK2.out.alloc (.map #[] 0)).trans hK3 (fun j hj h => by have := HK2.out.size; omega))
            have HKo3 := Lib.hid ((HKo2.out.alloc (.map #[] 0)).trans hK3 (fun j hj h => by have := HKo2.out.size; omega))
            obtain ⟨bm, hbm⟩ : ∃ bm, bm = w2.heap.size := ⟨_, rfl⟩
            obtain ⟨bh, hbh⟩ : ∃ bh, bh = w3.heap.size := ⟨_, rfl⟩
            obtain ⟨wh, hwh⟩ : ∃ wh : World, wh = w3.alloc (.cells #[.map (some w2.heap.size)] 107) := ⟨_, rfl⟩
            have HBh : Hid (Blk wh bh #[.map (some bm)] 107) := Lib.hid (by rw [hwh, hbh, hbm]; exact Blk.new _ _ _)
            have HBo : Hid (Blk wh bo #[.bool true] 4) := Lib.hid (by rw [hwh]; exact HO3.out.alloc _)
            have HBCh : Hid (Blk wh bc (cvals V C) 27) := Lib.hid (by rw [hwh]; exact HC3.out.alloc _)
            have HKh : Hid (Kp (fun _ => False) w wh) := Lib.hid (by rw [hwh]; exact HK3.out.alloc _)
            have HKoh : Hid (Kp (fun j => j = bo) wo wh) := Lib.hid (by rw [hwh]; exact HKo3.out.alloc _)
            have HMh : Hid (IMB wh bm (0 + 1) (hasF (C.owned.take 0))) := Lib.hid (by rw [hwh, hbm]; exact hM3.kp ((Kp.refl (fun _ => False) _).alloc _) (fun h => h))
            have HNh : Hid (bo < bm ∧ bc < bm ∧ bm < bh ∧ w.heap.size ≤ bm ∧ wo.heap.size ≤ bm) := Lib.hid ⟨by omega, by omega, by omega, by have := HK2.out.size; omega, by have := HKo2.out.size; omega⟩
            have HEq := Lib.hid (And.intro hwh.symm (And.intro hbh.symm hbm.symm))
            clear hwh hbh hbm hM3 hK3 HO3 HC3 HK3 HKo3 HO2 HC2 HK2 HKo2 hs3 hbo2 hbc2
            go_upto_region 18 with fail
            rw [HEq.out.1, HEq.out.2.1, HEq.out.2.2]
            clear HEq hput hmm o2
            go_wp2_with fail
            go_loopw [81] (fun v81 wr => ∃ k : Nat, v81 = .int .i64 k ∧ k ≤ n1 ∧ (C.owned.take k).Nodup ∧ IMB wr bm (k + 1) (hasF (C.owned.take k)) ∧ Kp (fun j => j = bm) wh wr) (fun v81 _ => n1 - (intOf v81).toNat)
            case atStart => exact ⟨0, rfl, by omega, by simp, HMh.out, Kp.refl _ _⟩
            case round =>
              obtain ⟨k, rfl, hk, hnd, hM, hK⟩ := hrel
              clear HMh
              obtain ⟨wv, rfl⟩ : ∃ wp : World, wp = wr := ⟨_, rfl⟩
              have hbhv := HBh.out.kp hK (fun e => by have := HNh.out; omega)
              have HKv := Lib.hid hK
              by_cases hkn : k < n1
              · have hkl : k < C.owned.length := by rw [HN1.out]; exact hkn
                have hIw : IntsAt wv a1 C.owned := RowAt.kp (S := fun j => j = bm) (HRW.out _ HKoh.out) hK (fun p hp e => by
                  obtain ⟨b, o, e2, hc⟩ := (HRW.out _ (Kp.refl _ wo)).get (j := k) hkl
                  rw [hp] at e2
                  simp only [Option.some.injEq] at e2
                  subst e2
                  have h1 := World.block_lt_of_cell? wo _ hc
                  have h2 : b = bm := e
                  have := HNh.out
                  simp at h1
                  omega)
                obtain ⟨bl, off, rfl, hcell⟩ := hIw.get (j := k) hkl
                clear hIw
                have hnew := hasF_new HIR.out hkl
                have hxo : gi C.owned k ∈ C.owned := by unfold gi; rw [List.getElem?_eq_getElem hkl]; exact List.getElem_mem hkl
                have hxr := HIR.out.own _ hxo
                have HND := Lib.hid (fun h => nodup_take hkl hnd h)
                have HNN := Lib.hid (fun h => not_nodup (l := C.owned) hkl h)
                have HTk := Lib.hid (take_gi hkl)
                obtain ⟨x, hx⟩ : ∃ x, gi C.owned k = x := ⟨_, rfl⟩
                rw [hx] at hcell hnew hxr HND HNN HTk
                have hxm : x ≤ 100000000 := by have := HM.out; omega
                have x0 : 0 ≤ x := by omega
                have hlook := hM.look (x := x / 2) ⟨by omega, by omega⟩
                have ch : wv.cell? ⟨bh, 0, none⟩ = some (.map (some bm)) := hbhv.cell rfl
                have i0 : (0 : Int) ≤ (k : Int) := by omega
                have i1 : (k : Int) < (n1 : Int) := by omega
                by_cases hin : x ∈ C.owned.take k
                · rw [hnew, decide_eq_true hin] at hlook
                  obtain rfl : code = 7 := by have := HCk.out; rw [if_pos (HNN.out hin)] at this; exact this
                  have HE := Lib.hid (HKh.out.trans hK (fun j hj e => by have := HNh.out; omega))
                  clear hx hnew hxr hin hM hK hnd hxo hbhv
                  go_wp2_with fail
                  go_ret
                  exact ⟨rfl, HE.out⟩
                · rw [hnew, decide_eq_false hin] at hlook
                  obtain ⟨w9, hput9, hM9, hK9⟩ := hM.put (by have := HOl.out; have := HN1.out; unfold maxLen; omega) (x := x / 2) ⟨by omega, by omega⟩ true
                  rw [hasF_snoc, ← HTk.out] at hM9
                  have HR := Lib.hid (show ∃ k' : Nat, Value.int .i64 ((k : Int) + 1) = .int .i64 k' ∧ k' ≤ n1 ∧ (C.owned.take k').Nodup ∧ IMB w9 bm (k' + 1) (hasF (C.owned.take k')) ∧ Kp (fun j => j = bm) wh w9 from
                    ⟨k + 1, by go_num, by omega, HND.out hin, hM9, hK.trans hK9 (fun _ _ h => h)⟩)
                  clear hx hnew hxr hin hM hK hnd hM9 hK9 hxo hbhv
                  go_wp2_with fail
                  go_roundw
                  case rel => exact HR.out
                  case measure => simp [intOf]; omega
              · obtain rfl : k = n1 := by omega
                have HNod := Lib.hid (show C.owned.Nodup by rwa [List.take_of_length_le (by rw [HN1.out]; exact Nat.le_refl _)] at hnd)
                have hM' : IMB wv bm (k + 1) (hasF C.owned) := by rwa [List.take_of_length_le (by rw [HN1.out]; exact Nat.le_refl _)] at hM
                have HKw := Lib.hid (HKh.out.trans hK (fun j hj e => by have := HNh.out; omega))
                have hbov := HBo.out.kp hK (fun e => by have := HNh.out; omega)
                have hbcv := HBCh.out.kp hK (fun e => by have := HNh.out; omega)
                have HBCv := Lib.hid hbcv
                have HCk2 := Lib.hid (show code = if C.used.all (knownB C.owned) = false then 9 else if (ordO C.gates).length < C.gates.length then 8 else 0 by have := HCk.out; rw [if_neg (by simp; exact HNod.out)] at this; exact this)
                have HU := Lib.hid (circ_uses2 (.pointer (some ⟨bo, 0, none⟩)) (.pointer (some ⟨bh, 0, none⟩)) V C bo (fun x => hasF C.owned (x / 2)) (fun u b => Blk u bo #[.bool b] 4 ∧ Blk u bh #[.map (some bm)] 107 ∧ IMB u bm (k + 1) (hasF C.owned)) true w wv HA.out HF.out HKw.out (by have := HNe.out; omega) hbov.lt
                  ⟨hbov, hbhv, hM'⟩ (fun u u' b hK hI => ⟨hI.1.kp hK (fun h => h), hI.2.1.kp hK (fun h => h), hI.2.2.kp hK (fun h => h)⟩)
                  (fun u x b hx hI => (check_f2 bo bh bm (k + 1) (hasF C.owned) u x b hI.1 hI.2.1 hI.2.2 (HIR.out.use x hx).1 (by have := (HIR.out.use x hx).2; have := HM.out; omega)).mono (by
                    rintro e u' ⟨he, rfl⟩
                    have hK := Kp.set u ⟨bo, 0, none⟩ (.bool (b && hasF C.owned (x / 2)))
                    exact ⟨he, ⟨hI.1.bool _, hI.2.1.kp hK (fun e => by have := HNh.out; have e2 : bh = bo := e; omega), hI.2.2.kp hK (fun e => by have := HNh.out; have e2 : bm = bo := e; omega)⟩, hK⟩)))
                obtain ⟨d0, d1, d2, d3, d4, d5, d6, d7, d8⟩ := hbcv.cells9
                clear hM hM' hbov hbcv hbhv hnd hK HCk
                go_wp2_with fail
                refine HU.out.mono ?_
                rintro e w5 ⟨rfl, ⟨hO5, -, -⟩, hK5⟩
                have HX := Lib.hid (HBCv.out.kp hK5 (fun e => by have := HNe.out; have e2 : bc = bo := e; omega))
                have HK5 := Lib.hid (HKw.out.trans hK5 (fun j hj h => by have := HNe.out; omega))
                obtain ⟨r5, hr5⟩ : ∃ r, (true && C.used.all (fun x => hasF C.owned (x / 2))) = r := ⟨_, rfl⟩
                rw [hr5] at hO5
                have HR5 := Lib.hid (show C.used.all (knownB C.owned) = r5 from by rw [← hr5, Bool.true_and]; rfl)
                have o5 : w5.cell? ⟨bo, 0, none⟩ = some (.bool r5) := hO5.cell rfl
                clear hO5 hK5 hr5 HU d0 d1 d2 d3 d4 d5 d6 d7 d8
                cases r5 with
                | false =>
                  obtain rfl : code = 9 := by have := HCk2.out; rw [if_pos HR5.out] at this; exact this
                  go_wp2_with fail
                  go_ret
                  exact ⟨rfl, HK5.out⟩
                | true =>
                  have HCk3 := Lib.hid (show code = if (ordO C.gates).length < C.gates.length then 8 else 0 by have := HCk2.out; rw [if_neg (by rw [HR5.out]; simp)] at this; exact this)
                  obtain ⟨gn_, hgn⟩ : ∃ g, C.gates.length = g := ⟨_, rfl⟩
                  obtain ⟨on_, hon⟩ : ∃ g, (ordO C.gates).length = g := ⟨_, rfl⟩
                  have hle : on_ ≤ gn_ := by rw [← hgn, ← hon]; exact (ordO_at C.gates).len
                  rw [hgn, hon] at HCk3
                  have HGn := Lib.hid hgn
                  have HO := Lib.hid (show ∀ u, Kp (fun _ => False) w u → Calls Tryz.prog 76 #[.agg #[.int .i64 C.max, .slice V.ai C.ins.length V.ci, .slice V.al C.lats.length V.cl, .slice V.ao C.outs.length V.co, .slice V.ab C.bads.length V.cb, .slice V.ac C.cons.length V.cc, .slice V.ag gn_ V.cg, .slice V.ay V.ny V.cy, .string V.cm]] u fun e u' => (∃ a c, e = .returned (.slice a on_ c)) ∧ Kp (fun _ => False) u u' from fun u hu => by
                    have hor := (circ_Order V C u (HA.out.kp hu) HF.out.g (HIR.out.good HNod.out) (fun i hi => by
                      have h1 := HIR.out.own _ (gate_own hi)
                      have h2 := HIR.out.use _ (gate_useA hi)
                      have h3 := HIR.out.use _ (gate_useB hi)
                      have := HM.out
                      omega)).mono (R' := fun e u' => (∃ a c, e = .returned (.slice a on_ c)) ∧ Kp (fun _ => False) u u') (by
                        rintro e u' ⟨v, rfl, hO, hK⟩
                        obtain ⟨a, c, e, -⟩ := hO.form
                        rw [nv_length, hon] at e
                        exact ⟨⟨a, c, by rw [e]⟩, hK⟩)
                    unfold cvals at hor
                    rw [hgn] at hor
                    exact hor)
                  have HXu : Hid (Blk w5 bc #[.int .i64 C.max, .slice V.ai C.ins.length V.ci, .slice V.al C.lats.length V.cl, .slice V.ao C.outs.length V.co, .slice V.ab C.bads.length V.cb, .slice V.ac C.cons.length V.cc, .slice V.ag gn_ V.cg, .slice V.ay V.ny V.cy, .string V.cm] 27) := Lib.hid (by have := HX.out; unfold cvals at this; rw [hgn] at this; exact this)
                  clear hgn hon HX
                  go_upto_region 28 with fail
                  obtain ⟨wy, rfl⟩ : ∃ wy : World, wy = w5 := ⟨_, rfl⟩
                  clear o5
                  go_cut [99] from 100 to 107 (fun s99 wx => s99 = .bool (decide ((on_ : Int) < (gn_ : Int))) ∧ Kp (fun _ => False) w wx)
                  case first =>
                    go_region_held3 (fun u => u.cell? ⟨bc, 0, none⟩ = some (.int .i64 C.max) ∧ u.cell? ⟨bc, 1, none⟩ = some (.slice V.ai C.ins.length V.ci) ∧ u.cell? ⟨bc, 2, none⟩ = some (.slice V.al C.lats.length V.cl) ∧ u.cell? ⟨bc, 3, none⟩ = some (.slice V.ao C.outs.length V.co) ∧ u.cell? ⟨bc, 4, none⟩ = some (.slice V.ab C.bads.length V.cb) ∧ u.cell? ⟨bc, 5, none⟩ = some (.slice V.ac C.cons.length V.cc) ∧ u.cell? ⟨bc, 6, none⟩ = some (.slice V.ag gn_ V.cg) ∧ u.cell? ⟨bc, 7, none⟩ = some (.slice V.ay V.ny V.cy) ∧ u.cell? ⟨bc, 8, none⟩ = some (.string V.cm)) (with_reducible first | exact HXu.out.cells9 | exact HXu.out.drew.cells9 | exact HXb.out.cells9 | exact HXb.out.drew.cells9) (((with_reducible refine Calls.mono (HO.out _ (by first | exact HK5.out | exact HK5.out.drew)) ?_); rintro o u2 ⟨⟨a2, c2, rfl⟩, hK6⟩; have HXb := Lib.hid (by first | exact HXu.out.kp hK6 (fun h => h) | exact HXu.out.drew.kp hK6 (fun h => h)); have HKb := Lib.hid (by first | exact HK5.out.trans hK6 (fun _ _ h => h) | exact HK5.out.drew.trans hK6 (fun _ _ h => h)); clear hK6))
                    all_goals go_wp2_with fail
                    all_goals go_meet
                    all_goals exact ⟨by simp, by first | exact HKb.out | exact HKb.out.drew⟩
                  case rest =>
                  obtain ⟨rfl, hKc⟩ := hcut
                  have HKc := Lib.hid hKc
                  clear hKc
                  by_cases hlt2 : on_ < gn_
                  · obtain rfl : code = 8 := by have := HCk3.out; rw [if_pos hlt2] at this; exact this
                    have dd : decide ((on_ : Int) < (gn_ : Int)) = true := decide_eq_true (by omega)
                    rw [dd]
                    go_wp2_with fail
                    go_ret
                    exact ⟨rfl, HKc.out⟩
                  · obtain rfl : code = 0 := by have := HCk3.out; rw [if_neg hlt2] at this; exact this
                    have dd : decide ((on_ : Int) < (gn_ : Int)) = false := decide_eq_false (by omega)
                    rw [dd]
                    go_wp2_with fail
                    go_ret
                    exact ⟨rfl, HKc.out⟩

end Go.Proofs.YtnoknecfdnjomaaGreat

/-
  Nine cells, set one by one. (Out of XAsciiRead.)
-/
namespace Go.Proofs.YtnoknecfdnjomaaGreat
open Go.RowKit

/-- nine cells, set one by one -/
def set9 (w : World) (b : Nat) (y0 y1 y2 y3 y4 y5 y6 y7 y8 : Value) : World :=
  ((((((((w.setCell ⟨b, 0, none⟩ y0).setCell ⟨b, 1, none⟩ y1).setCell ⟨b, 2, none⟩ y2).setCell ⟨b, 3, none⟩ y3).setCell ⟨b, 4, none⟩ y4).setCell ⟨b, 5, none⟩ y5).setCell ⟨b, 6, none⟩ y6).setCell ⟨b, 7, none⟩ y7).setCell ⟨b, 8, none⟩ y8

theorem Blk.set9 {w : World} {b : Nat} {x0 x1 x2 x3 x4 x5 x6 x7 x8 : Value} {t : TypeId} (h : Blk w b #[x0, x1, x2, x3, x4, x5, x6, x7, x8] t) (y0 y1 y2 y3 y4 y5 y6 y7 y8 : Value) :
    Blk (set9 w b y0 y1 y2 y3 y4 y5 y6 y7 y8) b #[y0, y1, y2, y3, y4, y5, y6, y7, y8] t := by
  have h7 := ((((((((h.set_same 0 y0).set_same 1 y1).set_same 2 y2).set_same 3 y3).set_same 4 y4).set_same 5 y5).set_same 6 y6).set_same 7 y7).set_same 8 y8
  unfold Go.Proofs.YtnoknecfdnjomaaGreat.set9
  simpa only [List.setIfInBounds_toArray, List.set_cons_zero, List.set_cons_succ] using h7

theorem Kp.set9 (w : World) (b : Nat) (y0 y1 y2 y3 y4 y5 y6 y7 y8 : Value) : Kp (fun j => j = b) w (set9 w b y0 y1 y2 y3 y4 y5 y6 y7 y8) :=
  (((((((((Kp.refl (fun j => j = b) w).setCell (p := ⟨b, 0, none⟩) (fun _ => rfl) y0).setCell (p := ⟨b, 1, none⟩) (fun _ => rfl) y1).setCell (p := ⟨b, 2, none⟩) (fun _ => rfl) y2).setCell (p := ⟨b, 3, none⟩) (fun _ => rfl) y3).setCell (p := ⟨b, 4, none⟩) (fun _ => rfl) y4).setCell (p := ⟨b, 5, none⟩) (fun _ => rfl) y5).setCell (p := ⟨b, 6, none⟩) (fun _ => rfl) y6).setCell (p := ⟨b, 7, none⟩) (fun _ => rfl) y7).setCell (p := ⟨b, 8, none⟩) (fun _ => rfl) y8


end Go.Proofs.YtnoknecfdnjomaaGreat

/-
  latchetlaw11.Own: a circuit in memory of its own. (Printed by mkown.py.)
-/
namespace Go.Proofs.YtnoknecfdnjomaaGreat
open Go Go.RowKit

def own2V (b1 b3 B : Nat) (V : CV) (C : Circ) (rows : List (List Value)) : List (World → Value → Prop) :=
  [LitV 3, EqV (.pointer (some ⟨b1, 1, none⟩)), SlK (ir C.ins) C.ins.length, SlF B (ir C.ins) C.ins.length, LitV 3, EqV (.pointer (some ⟨b1, 3, none⟩)), SlK (ir C.outs) C.outs.length, SlF B (ir C.outs) C.outs.length, LitV 3, EqV (.pointer (some ⟨b1, 4, none⟩)), SlK (ir C.bads) C.bads.length, SlF B (ir C.bads) C.bads.length, LitV 3, EqV (.pointer (some ⟨b1, 5, none⟩)), SlK (ir C.cons) C.cons.length, SlF B (ir C.cons) C.cons.length, EqV (.pointer (some ⟨b3, 1, none⟩))]

theorem own2V_st (b1 b3 B : Nat) (V : CV) (C : Circ) (rows : List (List Value)) : ∀ W ∈ own2V b1 b3 B V C rows, Stable W := by
  intro W h
  unfold own2V at h
  simp only [List.mem_cons, List.not_mem_nil, or_false] at h
  rcases h with rfl | rfl | rfl | rfl | rfl | rfl | rfl | rfl | rfl | rfl | rfl | rfl | rfl | rfl | rfl | rfl | rfl <;> first | exact LitV.st _ | exact EqV.st _ | exact SlK.st _ _ | exact SlF.st _ _ _

def own3V (b1 b3 B : Nat) (V : CV) (C : Circ) (rows : List (List Value)) : List (World → Value → Prop) :=
  [LitV 64, EqV (.pointer (some ⟨b1, 2, none⟩)), SlK (C.lats.map tri) C.lats.length, SlF B (C.lats.map tri) C.lats.length, LitV 95, EqV (.pointer (some ⟨b1, 6, none⟩)), SlK (C.gates.map tri) C.gates.length, SlF B (C.gates.map tri) C.gates.length, LitV 113, EqV (.pointer (some ⟨b1, 7, none⟩)), SlK rows V.ny, SlF B rows V.ny, EqV (.pointer (some ⟨b3, 2, none⟩))]

theorem own3V_st (b1 b3 B : Nat) (V : CV) (C : Circ) (rows : List (List Value)) : ∀ W ∈ own3V b1 b3 B V C rows, Stable W := by
  intro W h
  unfold own3V at h
  simp only [List.mem_cons, List.not_mem_nil, or_false] at h
  rcases h with rfl | rfl | rfl | rfl | rfl | rfl | rfl | rfl | rfl | rfl | rfl | rfl | rfl <;> first | exact LitV.st _ | exact EqV.st _ | exact SlK.st _ _ | exact SlF.st _ _ _

set_option maxRecDepth 100000 in
set_option maxHeartbeats 8000000 in
theorem law11_OwnY (V : CV) (C : Circ) (w : World) (rows : List (List Value)) (hrows : RowAt w V.ay rows.flatten) (hrl : rows.length = V.ny ∧ (∀ r ∈ rows, r.length = 3) ∧ ∀ r ∈ rows, ∀ u ∈ r, u.oneCell' = true) (h : CAt w V C) (hf : CFew C 1000000) (hy : V.ny ≤ 1000000) :
    Calls Tryz.prog 9 #[.agg (cvals V C)] w fun e w' => ∃ V', e = .returned (.agg (cvals V' C)) ∧ CAt w' V' C ∧ (RowAt w' V'.ay rows.flatten ∧ V'.ny = V.ny ∧ V'.cm = V.cm) ∧ Kp (fun _ => False) w w' := by
  have HA := Lib.hid h
  have HF := Lib.hid hf
  have HY := Lib.hid hy
  have HI := Lib.hid (show (Tryz.prog.info? 3).map (fun i => (i.zero, i.size, i.bytes)) = some (some (.int .i64 0), 1, 8) by kernel_rfl)
  have HIl := Lib.hid (show (Tryz.prog.info? 64).map (fun i => (i.zero, i.size, i.bytes)) = some (some (.agg #[.int .i64 0, .int .i64 0, .int .i64 0]), 3, 24) by kernel_rfl)
  have HIg := Lib.hid (show (Tryz.prog.info? 95).map (fun i => (i.zero, i.size, i.bytes)) = some (some (.agg #[.int .i64 0, .int .i64 0, .int .i64 0]), 3, 24) by kernel_rfl)
  have HIs := Lib.hid (show (Tryz.prog.info? 113).map (fun i => (i.zero, i.size, i.bytes)) = some (some (.agg #[.int .u8 0, .int .i64 0, .string ⟨#[]⟩]), 3, 32) by kernel_rfl)
  have HRows := Lib.hid hrows
  have HRL := Lib.hid hrl
  have HC1 := Lib.hid (Blk.new w (cvals V C) 27)
  obtain ⟨wz, hwz⟩ : ∃ wz : World, wz = (w.alloc (.cells (cvals V C) 27)).alloc (.cells #[.int .i64 0, .slice none 0 0, .slice none 0 0, .slice none 0 0, .slice none 0 0, .slice none 0 0, .slice none 0 0, .slice none 0 0, .string ⟨#[]⟩] 27) := ⟨_, rfl⟩
  have HCz := Lib.hid (show Blk wz w.heap.size (cvals V C) 27 by rw [hwz]; exact HC1.out.alloc _)
  have HBz := Lib.hid (show Blk wz (w.heap.size + 1) #[.int .i64 0, .slice none 0 0, .slice none 0 0, .slice none 0 0, .slice none 0 0, .slice none 0 0, .slice none 0 0, .slice none 0 0, .string ⟨#[]⟩] 27 by rw [hwz]; exact two_blk _ _ _ _ _)
  have HKz := Lib.hid (show Kp (fun _ => False) w wz by rw [hwz]; exact ((Kp.refl _ w).alloc _).alloc _)
  have HSz := Lib.hid (show wz.heap.size = w.heap.size + 2 by rw [hwz]; simp)
  have HZ := Lib.hid hwz
  clear h hf hy hwz hrows hrl
  go_enter Tryz.func9, Tryz.ntmps9
  go_upto_region 1 with fail
  rw [← HZ.out]
  clear HZ
  obtain ⟨d0, d1, d2, d3, d4, d5, d6, d7, d8⟩ := HCz.out.cells9
  go_upto_region 2 with fail
  clear d0 d1 d2 d3 d4 d5 d6 d7 d8
  obtain ⟨w3, hw3⟩ : ∃ w3 : World, w3 = wz.alloc (.cells #[.int .i64 C.max, .slice V.ai C.ins.length V.ci, .slice V.al C.lats.length V.cl, .slice V.ao C.outs.length V.co, .slice V.ab C.bads.length V.cb, .slice V.ac C.cons.length V.cc, .slice V.ag C.gates.length V.cg, .slice V.ay V.ny V.cy, .string V.cm] 27) := ⟨_, rfl⟩
  have HCb := Lib.hid (show Blk w3 w.heap.size (cvals V C) 27 by rw [hw3]; exact HCz.out.alloc _)
  have HBb := Lib.hid (show Blk w3 (w.heap.size + 1) #[.int .i64 0, .slice none 0 0, .slice none 0 0, .slice none 0 0, .slice none 0 0, .slice none 0 0, .slice none 0 0, .slice none 0 0, .string ⟨#[]⟩] 27 by rw [hw3]; exact HBz.out.alloc _)
  have HDown2 := Lib.hid (show Blk w3 wz.heap.size #[.int .i64 C.max, .slice V.ai C.ins.length V.ci, .slice V.al C.lats.length V.cl, .slice V.ao C.outs.length V.co, .slice V.ab C.bads.length V.cb, .slice V.ac C.cons.length V.cc, .slice V.ag C.gates.length V.cg, .slice V.ay V.ny V.cy, .string V.cm] 27 by rw [hw3]; exact Blk.new _ _ _)
  have HKb := Lib.hid (show Kp (fun _ => False) w w3 by rw [hw3]; exact HKz.out.alloc _)
  have HLt := Lib.hid (show wz.heap.size < w3.heap.size by rw [hw3]; simp)
  rw [← hw3]
  clear hw3
  refine wp_region_loose (p := upTo 17) (V := atV (own2V w.heap.size wz.heap.size w3.heap.size V C rows)) (LP := #[true, true, true, true, true, true, true, true, true, true, true, true, true, true, true, true, true, false, false, false, false, false, false, false]) (K := 7) (by kernel_rfl) (by kernel_rfl) (atV_st (own2V_st _ _ _ V C rows)) ?hstepown2 (by kernel_rfl) ?hLPown2 (by kernel_rfl) ?hendown2
  case hLPown2 => exact upTo_spec (by kernel_rfl)
  case hstepown2 =>
    intro i o ho hp a u hk hoff hdep
    have e1 : a.tmps[1]?.getD undef = .pointer (some ⟨w.heap.size, 0, none⟩) := slot_at (hoff 1 (noDst_spec (by kernel_rfl)))
    have e3 : a.tmps[3]?.getD undef = .pointer (some ⟨wz.heap.size, 0, none⟩) := slot_at (hoff 3 (noDst_spec (by kernel_rfl)))
    clear hoff
    match i, ho with
    | 0, ho =>
      obtain rfl := Option.some.inj ho
      refine lw_value (v := .slice (some ⟨u.heap.size, 0, none⟩) 0 0) (u' := u.alloc (.cells #[] 3)) ?_ ((Kp.refl _ _).alloc _) ⟨_, rfl, Blk.new _ _ _⟩
      go_simp
    | 1, ho =>
      obtain rfl := Option.some.inj ho
      refine lw_value (v := .pointer (some ⟨w.heap.size, 1, none⟩)) (u' := u) ?_ (Kp.refl _ _) rfl
      go_simp
    | 2, ho =>
      obtain rfl := Option.some.inj ho
      have e6 : a.tmps[6]?.getD undef = .pointer (some ⟨w.heap.size, 1, none⟩) := slot_at (hdep ⟨1, .data⟩ (by simp) rfl _ 6 rfl rfl)
      have c1 := (HCb.out.kp hk (fun h => h)).cell (i := 1) (v := .slice V.ai C.ins.length V.ci) rfl
      refine lw_value (v := .slice V.ai C.ins.length V.ci) (u' := u) ?_ (Kp.refl _ _) (SlK.of_ints HA.out.fi (HA.out.kp (HKb.out.trans hk (fun _ _ h => h))).i)
      go_simp
    | 3, ho =>
      obtain rfl := Option.some.inj ho
      have e5 : LitV 3 u (a.eval (.tmp 5)) := hdep ⟨0, .data⟩ (by simp) rfl _ 5 rfl rfl
      have e7 : SlK (ir C.ins) C.ins.length u (a.eval (.tmp 7)) := hdep ⟨2, .data⟩ (by simp) rfl _ 7 rfl rfl
      exact lw_append (.tmp 5) (.tmp 7) 22 3 rfl Tryz.underlying22 HI.out rfl (by decide) e5 e7 (ir_length _) (ir_len _) (ir_one _) (by have := HF.out.i; unfold maxLen; omega) (by have := HF.out.i; omega) hk.size
    | 4, ho =>
      obtain rfl := Option.some.inj ho
      refine lw_value (v := .slice (some ⟨u.heap.size, 0, none⟩) 0 0) (u' := u.alloc (.cells #[] 3)) ?_ ((Kp.refl _ _).alloc _) ⟨_, rfl, Blk.new _ _ _⟩
      go_simp
    | 5, ho =>
      obtain rfl := Option.some.inj ho
      refine lw_value (v := .pointer (some ⟨w.heap.size, 3, none⟩)) (u' := u) ?_ (Kp.refl _ _) rfl
      go_simp
    | 6, ho =>
      obtain rfl := Option.some.inj ho
      have e6 : a.tmps[10]?.getD undef = .pointer (some ⟨w.heap.size, 3, none⟩) := slot_at (hdep ⟨5, .data⟩ (by simp) rfl _ 10 rfl rfl)
      have c1 := (HCb.out.kp hk (fun h => h)).cell (i := 3) (v := .slice V.ao C.outs.length V.co) rfl
      refine lw_value (v := .slice V.ao C.outs.length V.co) (u' := u) ?_ (Kp.refl _ _) (SlK.of_ints HA.out.fo (HA.out.kp (HKb.out.trans hk (fun _ _ h => h))).o)
      go_simp
    | 7, ho =>
      obtain rfl := Option.some.inj ho
      have e5 : LitV 3 u (a.eval (.tmp 9)) := hdep ⟨4, .data⟩ (by simp) rfl _ 9 rfl rfl
      have e7 : SlK (ir C.outs) C.outs.length u (a.eval (.tmp 11)) := hdep ⟨6, .data⟩ (by simp) rfl _ 11 rfl rfl
      exact lw_append (.tmp 9) (.tmp 11) 22 3 rfl Tryz.underlying22 HI.out rfl (by decide) e5 e7 (ir_length _) (ir_len _) (ir_one _) (by have := HF.out.o; unfold maxLen; omega) (by have := HF.out.o; omega) hk.size
    | 8, ho =>
      obtain rfl := Option.some.inj ho
      refine lw_value (v := .slice (some ⟨u.heap.size, 0, none⟩) 0 0) (u' := u.alloc (.cells #[] 3)) ?_ ((Kp.refl _ _).alloc _) ⟨_, rfl, Blk.new _ _ _⟩
      go_simp
    | 9, ho =>
      obtain rfl := Option.some.inj ho
      refine lw_value (v := .pointer (some ⟨w.heap.size, 4, none⟩)) (u' := u) ?_ (Kp.refl _ _) rfl
      go_simp
    | 10, ho =>
      obtain rfl := Option.some.inj ho
      have e6 : a.tmps[14]?.getD undef = .pointer (some ⟨w.heap.size, 4, none⟩) := slot_at (hdep ⟨9, .data⟩ (by simp) rfl _ 14 rfl rfl)
      have c1 := (HCb.out.kp hk (fun h => h)).cell (i := 4) (v := .slice V.ab C.bads.length V.cb) rfl
      refine lw_value (v := .slice V.ab C.bads.length V.cb) (u' := u) ?_ (Kp.refl _ _) (SlK.of_ints HA.out.fb (HA.out.kp (HKb.out.trans hk (fun _ _ h => h))).b)
      go_simp
    | 11, ho =>
      obtain rfl := Option.some.inj ho
      have e5 : LitV 3 u (a.eval (.tmp 13)) := hdep ⟨8, .data⟩ (by simp) rfl _ 13 rfl rfl
      have e7 : SlK (ir C.bads) C.bads.length u (a.eval (.tmp 15)) := hdep ⟨10, .data⟩ (by simp) rfl _ 15 rfl rfl
      exact lw_append (.tmp 13) (.tmp 15) 22 3 rfl Tryz.underlying22 HI.out rfl (by decide) e5 e7 (ir_length _) (ir_len _) (ir_one _) (by have := HF.out.b; unfold maxLen; omega) (by have := HF.out.b; omega) hk.size
    | 12, ho =>
      obtain rfl := Option.some.inj ho
      refine lw_value (v := .slice (some ⟨u.heap.size, 0, none⟩) 0 0) (u' := u.alloc (.cells #[] 3)) ?_ ((Kp.refl _ _).alloc _) ⟨_, rfl, Blk.new _ _ _⟩
      go_simp
    | 13, ho =>
      obtain rfl := Option.some.inj ho
      refine lw_value (v := .pointer (some ⟨w.heap.size, 5, none⟩)) (u' := u) ?_ (Kp.refl _ _) rfl
      go_simp
    | 14, ho =>
      obtain rfl := Option.some.inj ho
      have e6 : a.tmps[18]?.getD undef = .pointer (some ⟨w.heap.size, 5, none⟩) := slot_at (hdep ⟨13, .data⟩ (by simp) rfl _ 18 rfl rfl)
      have c1 := (HCb.out.kp hk (fun h => h)).cell (i := 5) (v := .slice V.ac C.cons.length V.cc) rfl
      refine lw_value (v := .slice V.ac C.cons.length V.cc) (u' := u) ?_ (Kp.refl _ _) (SlK.of_ints HA.out.fc (HA.out.kp (HKb.out.trans hk (fun _ _ h => h))).c)
      go_simp
    | 15, ho =>
      obtain rfl := Option.some.inj ho
      have e5 : LitV 3 u (a.eval (.tmp 17)) := hdep ⟨12, .data⟩ (by simp) rfl _ 17 rfl rfl
      have e7 : SlK (ir C.cons) C.cons.length u (a.eval (.tmp 19)) := hdep ⟨14, .data⟩ (by simp) rfl _ 19 rfl rfl
      exact lw_append (.tmp 17) (.tmp 19) 22 3 rfl Tryz.underlying22 HI.out rfl (by decide) e5 e7 (ir_length _) (ir_len _) (ir_one _) (by have := HF.out.c; unfold maxLen; omega) (by have := HF.out.c; omega) hk.size
    | 16, ho =>
      obtain rfl := Option.some.inj ho
      refine lw_value (v := .pointer (some ⟨wz.heap.size, 1, none⟩)) (u' := u) ?_ (Kp.refl _ _) rfl
      go_simp
    | n + 17, _ => exact absurd hp (by simp [upTo])
  case hendown2 =>
    intro a u hI
    have hsz : a.tmps.size = 41 := hI.size
    have hdf : a.defers = [] := hI.defers
    have f0 : a.tmps.getD 0 undef = _ := hI.off 0 (noDst_spec (p := upTo 17) (by kernel_rfl))
    have f1 : a.tmps.getD 1 undef = _ := hI.off 1 (noDst_spec (p := upTo 17) (by kernel_rfl))
    have f2 : a.tmps.getD 2 undef = _ := hI.off 2 (noDst_spec (p := upTo 17) (by kernel_rfl))
    have f3 : a.tmps.getD 3 undef = _ := hI.off 3 (noDst_spec (p := upTo 17) (by kernel_rfl))
    have f4 : a.tmps.getD 4 undef = _ := hI.off 4 (noDst_spec (p := upTo 17) (by kernel_rfl))
    have f22 : a.tmps.getD 22 undef = _ := hI.off 22 (noDst_spec (p := upTo 17) (by kernel_rfl))
    have f23 : a.tmps.getD 23 undef = _ := hI.off 23 (noDst_spec (p := upTo 17) (by kernel_rfl))
    have f24 : a.tmps.getD 24 undef = _ := hI.off 24 (noDst_spec (p := upTo 17) (by kernel_rfl))
    have f25 : a.tmps.getD 25 undef = _ := hI.off 25 (noDst_spec (p := upTo 17) (by kernel_rfl))
    have f26 : a.tmps.getD 26 undef = _ := hI.off 26 (noDst_spec (p := upTo 17) (by kernel_rfl))
    have f27 : a.tmps.getD 27 undef = _ := hI.off 27 (noDst_spec (p := upTo 17) (by kernel_rfl))
    have f28 : a.tmps.getD 28 undef = _ := hI.off 28 (noDst_spec (p := upTo 17) (by kernel_rfl))
    have f29 : a.tmps.getD 29 undef = _ := hI.off 29 (noDst_spec (p := upTo 17) (by kernel_rfl))
    have f30 : a.tmps.getD 30 undef = _ := hI.off 30 (noDst_spec (p := upTo 17) (by kernel_rfl))
    have f31 : a.tmps.getD 31 undef = _ := hI.off 31 (noDst_spec (p := upTo 17) (by kernel_rfl))
    have f32 : a.tmps.getD 32 undef = _ := hI.off 32 (noDst_spec (p := upTo 17) (by kernel_rfl))
    have f33 : a.tmps.getD 33 undef = _ := hI.off 33 (noDst_spec (p := upTo 17) (by kernel_rfl))
    have f34 : a.tmps.getD 34 undef = _ := hI.off 34 (noDst_spec (p := upTo 17) (by kernel_rfl))
    have f35 : a.tmps.getD 35 undef = _ := hI.off 35 (noDst_spec (p := upTo 17) (by kernel_rfl))
    have f36 : a.tmps.getD 36 undef = _ := hI.off 36 (noDst_spec (p := upTo 17) (by kernel_rfl))
    have f37 : a.tmps.getD 37 undef = _ := hI.off 37 (noDst_spec (p := upTo 17) (by kernel_rfl))
    have f38 : a.tmps.getD 38 undef = _ := hI.off 38 (noDst_spec (p := upTo 17) (by kernel_rfl))
    have f39 : a.tmps.getD 39 undef = _ := hI.off 39 (noDst_spec (p := upTo 17) (by kernel_rfl))
    have f40 : a.tmps.getD 40 undef = _ := hI.off 40 (noDst_spec (p := upTo 17) (by kernel_rfl))
    have g1 : SlF w3.heap.size (ir C.ins) C.ins.length u (a.tmps.getD 8 undef) := hI.val 3 _ 8 rfl rfl rfl
    obtain ⟨a1, p1, f8, -, -, -⟩ := id g1
    rw [f8] at g1
    have g3 : SlF w3.heap.size (ir C.outs) C.outs.length u (a.tmps.getD 12 undef) := hI.val 7 _ 12 rfl rfl rfl
    obtain ⟨a3, p3, f12, -, -, -⟩ := id g3
    rw [f12] at g3
    have g4 : SlF w3.heap.size (ir C.bads) C.bads.length u (a.tmps.getD 16 undef) := hI.val 11 _ 16 rfl rfl rfl
    obtain ⟨a4, p4, f16, -, -, -⟩ := id g4
    rw [f16] at g4
    have g5 : SlF w3.heap.size (ir C.cons) C.cons.length u (a.tmps.getD 20 undef) := hI.val 15 _ 20 rfl rfl rfl
    obtain ⟨a5, p5, f20, -, -, -⟩ := id g5
    rw [f20] at g5
    have f21 : a.tmps.getD 21 undef = .pointer (some ⟨wz.heap.size, 1, none⟩) := hI.val 16 _ 21 rfl rfl rfl
    have ha : a = ⟨#[a.tmps.getD 0 undef, a.tmps.getD 1 undef, a.tmps.getD 2 undef, a.tmps.getD 3 undef, a.tmps.getD 4 undef, a.tmps.getD 5 undef, a.tmps.getD 6 undef, a.tmps.getD 7 undef, a.tmps.getD 8 undef, a.tmps.getD 9 undef, a.tmps.getD 10 undef, a.tmps.getD 11 undef, a.tmps.getD 12 undef, a.tmps.getD 13 undef, a.tmps.getD 14 undef, a.tmps.getD 15 undef, a.tmps.getD 16 undef, a.tmps.getD 17 undef, a.tmps.getD 18 undef, a.tmps.getD 19 undef, a.tmps.getD 20 undef, a.tmps.getD 21 undef, a.tmps.getD 22 undef, a.tmps.getD 23 undef, a.tmps.getD 24 undef, a.tmps.getD 25 undef, a.tmps.getD 26 undef, a.tmps.getD 27 undef, a.tmps.getD 28 undef, a.tmps.getD 29 undef, a.tmps.getD 30 undef, a.tmps.getD 31 undef, a.tmps.getD 32 undef, a.tmps.getD 33 undef, a.tmps.getD 34 undef, a.tmps.getD 35 undef, a.tmps.getD 36 undef, a.tmps.getD 37 undef, a.tmps.getD 38 undef, a.tmps.getD 39 undef, a.tmps.getD 40 undef], a.defers⟩ := act_list a 41 hsz
    rw [hdf, f0, f1, f2, f3, f4, f8, f12, f16, f20, f21, f22, f23, f24, f25, f26, f27, f28, f29, f30, f31, f32, f33, f34, f35, f36, f37, f38, f39, f40] at ha
    obtain ⟨x5, hx5⟩ : ∃ x, a.tmps.getD 5 undef = x := ⟨_, rfl⟩
    obtain ⟨x6, hx6⟩ : ∃ x, a.tmps.getD 6 undef = x := ⟨_, rfl⟩
    obtain ⟨x7, hx7⟩ : ∃ x, a.tmps.getD 7 undef = x := ⟨_, rfl⟩
    obtain ⟨x9, hx9⟩ : ∃ x, a.tmps.getD 9 undef = x := ⟨_, rfl⟩
    obtain ⟨x10, hx10⟩ : ∃ x, a.tmps.getD 10 undef = x := ⟨_, rfl⟩
    obtain ⟨x11, hx11⟩ : ∃ x, a.tmps.getD 11 undef = x := ⟨_, rfl⟩
    obtain ⟨x13, hx13⟩ : ∃ x, a.tmps.getD 13 undef = x := ⟨_, rfl⟩
    obtain ⟨x14, hx14⟩ : ∃ x, a.tmps.getD 14 undef = x := ⟨_, rfl⟩
    obtain ⟨x15, hx15⟩ : ∃ x, a.tmps.getD 15 undef = x := ⟨_, rfl⟩
    obtain ⟨x17, hx17⟩ : ∃ x, a.tmps.getD 17 undef = x := ⟨_, rfl⟩
    obtain ⟨x18, hx18⟩ : ∃ x, a.tmps.getD 18 undef = x := ⟨_, rfl⟩
    obtain ⟨x19, hx19⟩ : ∃ x, a.tmps.getD 19 undef = x := ⟨_, rfl⟩
    rw [hx5, hx6, hx7, hx9, hx10, hx11, hx13, hx14, hx15, hx17, hx18, hx19] at ha
    have hku := hI.kp
    have hB := HDown2.out.kp hku (fun h => h)
    clear hI hsz hdf f0 f1 f2 f3 f4 f8 f12 f16 f20 f21 f22 f23 f24 f25 f26 f27 f28 f29 f30 f31 f32 f33 f34 f35 f36 f37 f38 f39 f40 hx5 hx6 hx7 hx9 hx10 hx11 hx13 hx14 hx15 hx17 hx18 hx19
    subst ha
    have cs := hB.cell (i := 1) (v := .slice V.ai C.ins.length V.ci) rfl
    have fs := hB.free 1
    have hB' : Blk (u.setCell ⟨wz.heap.size, 1, none⟩ (.slice a1 C.ins.length p1)) wz.heap.size #[.int .i64 C.max, .slice a1 C.ins.length p1, .slice V.al C.lats.length V.cl, .slice V.ao C.outs.length V.co, .slice V.ab C.bads.length V.cb, .slice V.ac C.cons.length V.cc, .slice V.ag C.gates.length V.cg, .slice V.ay V.ny V.cy, .string V.cm] 27 := hB.set_same 1 (.slice a1 C.ins.length p1)
    have hk' : Kp (fun j => j = wz.heap.size) w3 (u.setCell ⟨wz.heap.size, 1, none⟩ (.slice a1 C.ins.length p1)) := (hku.mono (fun _ _ h => h.elim)).setCell (S := fun j => j = wz.heap.size) (p := ⟨wz.heap.size, 1, none⟩) (fun _ => rfl) _
    have hkk := Kp.set u ⟨wz.heap.size, 1, none⟩ (.slice a1 C.ins.length p1)
    refine wpAny_ready (rs := [17]) (by kernel_rfl) (by simp) ?_
    refine AllReady.cons (o := _) rfl (fun K1 hK1 => ?_) AllReady.nil
    go_simp
    refine hK1 _ _ ?_
    clear hK1 K1 cs fs hB hku
    have g1' := SlF.kp g1 hkk (fun j hj => by have hj2 : j = wz.heap.size := hj; have := HLt.out; omega)
    clear g1
    have g1 := g1'
    clear g1'
    have g3' := SlF.kp g3 hkk (fun j hj => by have hj2 : j = wz.heap.size := hj; have := HLt.out; omega)
    clear g3
    have g3 := g3'
    clear g3'
    have g4' := SlF.kp g4 hkk (fun j hj => by have hj2 : j = wz.heap.size := hj; have := HLt.out; omega)
    clear g4
    have g4 := g4'
    clear g4'
    have g5' := SlF.kp g5 hkk (fun j hj => by have hj2 : j = wz.heap.size := hj; have := HLt.out; omega)
    clear g5
    have g5 := g5'
    clear g5'
    clear hkk
    generalize u.setCell ⟨wz.heap.size, 1, none⟩ (.slice a1 C.ins.length p1) = u2 at hB' hk' g1 g3 g4 g5 ⊢
    obtain ⟨u, rfl⟩ : ∃ u, u = u2 := ⟨_, rfl⟩
    have hB := hB'
    have hku := hk'
    clear hB' hk'
    try simp only [Act.put, List.setIfInBounds_toArray, List.set_cons_zero, List.set_cons_succ]
    refine wpAny_ready (rs := [18]) (by kernel_rfl) (by simp) ?_
    refine AllReady.cons (o := _) rfl (fun K1 hK1 => ?_) AllReady.nil
    go_simp
    refine hK1 _ _ ?_
    clear hK1 K1
    try simp only [Act.put, List.setIfInBounds_toArray, List.set_cons_zero, List.set_cons_succ]
    have cs := hB.cell (i := 3) (v := .slice V.ao C.outs.length V.co) rfl
    have fs := hB.free 3
    have hB' : Blk (u.setCell ⟨wz.heap.size, 3, none⟩ (.slice a3 C.outs.length p3)) wz.heap.size #[.int .i64 C.max, .slice a1 C.ins.length p1, .slice V.al C.lats.length V.cl, .slice a3 C.outs.length p3, .slice V.ab C.bads.length V.cb, .slice V.ac C.cons.length V.cc, .slice V.ag C.gates.length V.cg, .slice V.ay V.ny V.cy, .string V.cm] 27 := hB.set_same 3 (.slice a3 C.outs.length p3)
    have hk' : Kp (fun j => j = wz.heap.size) w3 (u.setCell ⟨wz.heap.size, 3, none⟩ (.slice a3 C.outs.length p3)) := hku.setCell (S := fun j => j = wz.heap.size) (p := ⟨wz.heap.size, 3, none⟩) (fun _ => rfl) _
    have hkk := Kp.set u ⟨wz.heap.size, 3, none⟩ (.slice a3 C.outs.length p3)
    refine wpAny_ready (rs := [19]) (by kernel_rfl) (by simp) ?_
    refine AllReady.cons (o := _) rfl (fun K1 hK1 => ?_) AllReady.nil
    go_simp
    refine hK1 _ _ ?_
    clear hK1 K1 cs fs hB hku
    have g1' := SlF.kp g1 hkk (fun j hj => by have hj2 : j = wz.heap.size := hj; have := HLt.out; omega)
    clear g1
    have g1 := g1'
    clear g1'
    have g3' := SlF.kp g3 hkk (fun j hj => by have hj2 : j = wz.heap.size := hj; have := HLt.out; omega)
    clear g3
    have g3 := g3'
    clear g3'
    have g4' := SlF.kp g4 hkk (fun j hj => by have hj2 : j = wz.heap.size := hj; have := HLt.out; omega)
    clear g4
    have g4 := g4'
    clear g4'
    have g5' := SlF.kp g5 hkk (fun j hj => by have hj2 : j = wz.heap.size := hj; have := HLt.out; omega)
    clear g5
    have g5 := g5'
    clear g5'
    clear hkk
    generalize u.setCell ⟨wz.heap.size, 3, none⟩ (.slice a3 C.outs.length p3) = u2 at hB' hk' g1 g3 g4 g5 ⊢
    obtain ⟨u, rfl⟩ : ∃ u, u = u2 := ⟨_, rfl⟩
    have hB := hB'
    have hku := hk'
    clear hB' hk'
    try simp only [Act.put, List.setIfInBounds_toArray, List.set_cons_zero, List.set_cons_succ]
    refine wpAny_ready (rs := [20]) (by kernel_rfl) (by simp) ?_
    refine AllReady.cons (o := _) rfl (fun K1 hK1 => ?_) AllReady.nil
    go_simp
    refine hK1 _ _ ?_
    clear hK1 K1
    try simp only [Act.put, List.setIfInBounds_toArray, List.set_cons_zero, List.set_cons_succ]
    have cs := hB.cell (i := 4) (v := .slice V.ab C.bads.length V.cb) rfl
    have fs := hB.free 4
    have hB' : Blk (u.setCell ⟨wz.heap.size, 4, none⟩ (.slice a4 C.bads.length p4)) wz.heap.size #[.int .i64 C.max, .slice a1 C.ins.length p1, .slice V.al C.lats.length V.cl, .slice a3 C.outs.length p3, .slice a4 C.bads.length p4, .slice V.ac C.cons.length V.cc, .slice V.ag C.gates.length V.cg, .slice V.ay V.ny V.cy, .string V.cm] 27 := hB.set_same 4 (.slice a4 C.bads.length p4)
    have hk' : Kp (fun j => j = wz.heap.size) w3 (u.setCell ⟨wz.heap.size, 4, none⟩ (.slice a4 C.bads.length p4)) := hku.setCell (S := fun j => j = wz.heap.size) (p := ⟨wz.heap.size, 4, none⟩) (fun _ => rfl) _
    have hkk := Kp.set u ⟨wz.heap.size, 4, none⟩ (.slice a4 C.bads.length p4)
    refine wpAny_ready (rs := [21]) (by kernel_rfl) (by simp) ?_
    refine AllReady.cons (o := _) rfl (fun K1 hK1 => ?_) AllReady.nil
    go_simp
    refine hK1 _ _ ?_
    clear hK1 K1 cs fs hB hku
    have g1' := SlF.kp g1 hkk (fun j hj => by have hj2 : j = wz.heap.size := hj; have := HLt.out; omega)
    clear g1
    have g1 := g1'
    clear g1'
    have g3' := SlF.kp g3 hkk (fun j hj => by have hj2 : j = wz.heap.size := hj; have := HLt.out; omega)
    clear g3
    have g3 := g3'
    clear g3'
    have g4' := SlF.kp g4 hkk (fun j hj => by have hj2 : j = wz.heap.size := hj; have := HLt.out; omega)
    clear g4
    have g4 := g4'
    clear g4'
    have g5' := SlF.kp g5 hkk (fun j hj => by have hj2 : j = wz.heap.size := hj; have := HLt.out; omega)
    clear g5
    have g5 := g5'
    clear g5'
    clear hkk
    generalize u.setCell ⟨wz.heap.size, 4, none⟩ (.slice a4 C.bads.length p4) = u2 at hB' hk' g1 g3 g4 g5 ⊢
    obtain ⟨u, rfl⟩ : ∃ u, u = u2 := ⟨_, rfl⟩
    have hB := hB'
    have hku := hk'
    clear hB' hk'
    try simp only [Act.put, List.setIfInBounds_toArray, List.set_cons_zero, List.set_cons_succ]
    refine wpAny_ready (rs := [22]) (by kernel_rfl) (by simp) ?_
    refine AllReady.cons (o := _) rfl (fun K1 hK1 => ?_) AllReady.nil
    go_simp
    refine hK1 _ _ ?_
    clear hK1 K1
    try simp only [Act.put, List.setIfInBounds_toArray, List.set_cons_zero, List.set_cons_succ]
    have cs := hB.cell (i := 5) (v := .slice V.ac C.cons.length V.cc) rfl
    have fs := hB.free 5
    have hB' : Blk (u.setCell ⟨wz.heap.size, 5, none⟩ (.slice a5 C.cons.length p5)) wz.heap.size #[.int .i64 C.max, .slice a1 C.ins.length p1, .slice V.al C.lats.length V.cl, .slice a3 C.outs.length p3, .slice a4 C.bads.length p4, .slice a5 C.cons.length p5, .slice V.ag C.gates.length V.cg, .slice V.ay V.ny V.cy, .string V.cm] 27 := hB.set_same 5 (.slice a5 C.cons.length p5)
    have hk' : Kp (fun j => j = wz.heap.size) w3 (u.setCell ⟨wz.heap.size, 5, none⟩ (.slice a5 C.cons.length p5)) := hku.setCell (S := fun j => j = wz.heap.size) (p := ⟨wz.heap.size, 5, none⟩) (fun _ => rfl) _
    have hkk := Kp.set u ⟨wz.heap.size, 5, none⟩ (.slice a5 C.cons.length p5)
    refine wpAny_ready (rs := [23]) (by kernel_rfl) (by simp) ?_
    refine AllReady.cons (o := _) rfl (fun K1 hK1 => ?_) AllReady.nil
    go_simp
    refine hK1 _ _ ?_
    clear hK1 K1 cs fs hB hku
    have g1' := SlF.kp g1 hkk (fun j hj => by have hj2 : j = wz.heap.size := hj; have := HLt.out; omega)
    clear g1
    have g1 := g1'
    clear g1'
    have g3' := SlF.kp g3 hkk (fun j hj => by have hj2 : j = wz.heap.size := hj; have := HLt.out; omega)
    clear g3
    have g3 := g3'
    clear g3'
    have g4' := SlF.kp g4 hkk (fun j hj => by have hj2 : j = wz.heap.size := hj; have := HLt.out; omega)
    clear g4
    have g4 := g4'
    clear g4'
    have g5' := SlF.kp g5 hkk (fun j hj => by have hj2 : j = wz.heap.size := hj; have := HLt.out; omega)
    clear g5
    have g5 := g5'
    clear g5'
    clear hkk
    generalize u.setCell ⟨wz.heap.size, 5, none⟩ (.slice a5 C.cons.length p5) = u2 at hB' hk' g1 g3 g4 g5 ⊢
    obtain ⟨u, rfl⟩ : ∃ u, u = u2 := ⟨_, rfl⟩
    have hB := hB'
    have hku := hk'
    clear hB' hk'
    try simp only [Act.put, List.setIfInBounds_toArray, List.set_cons_zero, List.set_cons_succ]
    refine wpAny_done (by kernel_rfl) ?_ _
    obtain ⟨w4, rfl⟩ : ∃ w4 : World, w4 = u := ⟨_, rfl⟩
    have HK34 := Lib.hid hku
    have HKb4 := Lib.hid (HKb.out.trans hku (fun j hj e => by have := HSz.out; have e2 : j = wz.heap.size := e; omega))
    have HCb4 := Lib.hid (HCb.out.kp hku (fun e => by have := HSz.out; have e2 : w.heap.size = wz.heap.size := e; omega))
    have HBb4 := Lib.hid (HBb.out.kp hku (fun e => by have := HSz.out; have e2 : w.heap.size + 1 = wz.heap.size := e; omega))
    have HDown3 := Lib.hid hB
    have HLt4 := Lib.hid (show wz.heap.size < w4.heap.size by have := HLt.out; have := HK34.out.size; omega)
    have HG := Lib.hid (And.intro g1 (And.intro g3 (And.intro g4 g5)))
    have HLe := Lib.hid HK34.out.size
    clear hku hB g1 g3 g4 g5 HKb HCb HBb HK34
    have HKb := HKb4
    have HCb := HCb4
    have HBb := HBb4
    have HLt0 := HLt
    clear HKb4 HCb4 HBb4 HLt
    have HLt := HLt4
    clear HLt4
    go_upto_region 3 with fail
    refine wp_region_loose (p := upTo 13) (V := atV (own3V w.heap.size wz.heap.size w4.heap.size V C rows)) (LP := #[true, true, true, true, true, true, true, true, true, true, true, true, true, false, false, false, false, false]) (K := 5) (by kernel_rfl) (by kernel_rfl) (atV_st (own3V_st _ _ _ V C rows)) ?hstepown3 (by kernel_rfl) ?hLPown3 (by kernel_rfl) ?hendown3
    case hLPown3 => exact upTo_spec (by kernel_rfl)
    case hstepown3 =>
      intro i o ho hp a u hk hoff hdep
      have e1 : a.tmps[1]?.getD undef = .pointer (some ⟨w.heap.size, 0, none⟩) := slot_at (hoff 1 (noDst_spec (by kernel_rfl)))
      have e3 : a.tmps[3]?.getD undef = .pointer (some ⟨wz.heap.size, 0, none⟩) := slot_at (hoff 3 (noDst_spec (by kernel_rfl)))
      clear hoff
      match i, ho with
      | 0, ho =>
        obtain rfl := Option.some.inj ho
        refine lw_value (v := .slice (some ⟨u.heap.size, 0, none⟩) 0 0) (u' := u.alloc (.cells #[] 64)) ?_ ((Kp.refl _ _).alloc _) ⟨_, rfl, Blk.new _ _ _⟩
        go_simp
      | 1, ho =>
        obtain rfl := Option.some.inj ho
        refine lw_value (v := .pointer (some ⟨w.heap.size, 2, none⟩)) (u' := u) ?_ (Kp.refl _ _) rfl
        go_simp
      | 2, ho =>
        obtain rfl := Option.some.inj ho
        have e6 : a.tmps[26]?.getD undef = .pointer (some ⟨w.heap.size, 2, none⟩) := slot_at (hdep ⟨1, .data⟩ (by simp) rfl _ 26 rfl rfl)
        have c1 := (HCb.out.kp hk (fun h => h)).cell (i := 2) (v := .slice V.al C.lats.length V.cl) rfl
        refine lw_value (v := .slice V.al C.lats.length V.cl) (u' := u) ?_ (Kp.refl _ _) ⟨_, _, rfl, HA.out.fl, (HA.out.kp (HKb.out.trans hk (fun _ _ h => h))).l⟩
        go_simp
      | 3, ho =>
        obtain rfl := Option.some.inj ho
        have e5 : LitV 64 u (a.eval (.tmp 25)) := hdep ⟨0, .data⟩ (by simp) rfl _ 25 rfl rfl
        have e7 : SlK (C.lats.map tri) C.lats.length u (a.eval (.tmp 27)) := hdep ⟨2, .data⟩ (by simp) rfl _ 27 rfl rfl
        exact lw_append (.tmp 25) (.tmp 27) 23 64 rfl Tryz.underlying23 HIl.out rfl (by decide) e5 e7 (List.length_map ..) (tri_len _) (tri_one _) (by have := HF.out.l; unfold maxLen; omega) (by have := HF.out.l; omega) hk.size
      | 4, ho =>
        obtain rfl := Option.some.inj ho
        refine lw_value (v := .slice (some ⟨u.heap.size, 0, none⟩) 0 0) (u' := u.alloc (.cells #[] 95)) ?_ ((Kp.refl _ _).alloc _) ⟨_, rfl, Blk.new _ _ _⟩
        go_simp
      | 5, ho =>
        obtain rfl := Option.some.inj ho
        refine lw_value (v := .pointer (some ⟨w.heap.size, 6, none⟩)) (u' := u) ?_ (Kp.refl _ _) rfl
        go_simp
      | 6, ho =>
        obtain rfl := Option.some.inj ho
        have e6 : a.tmps[30]?.getD undef = .pointer (some ⟨w.heap.size, 6, none⟩) := slot_at (hdep ⟨5, .data⟩ (by simp) rfl _ 30 rfl rfl)
        have c1 := (HCb.out.kp hk (fun h => h)).cell (i := 6) (v := .slice V.ag C.gates.length V.cg) rfl
        refine lw_value (v := .slice V.ag C.gates.length V.cg) (u' := u) ?_ (Kp.refl _ _) ⟨_, _, rfl, HA.out.fg, (HA.out.kp (HKb.out.trans hk (fun _ _ h => h))).g⟩
        go_simp
      | 7, ho =>
        obtain rfl := Option.some.inj ho
        have e5 : LitV 95 u (a.eval (.tmp 29)) := hdep ⟨4, .data⟩ (by simp) rfl _ 29 rfl rfl
        have e7 : SlK (C.gates.map tri) C.gates.length u (a.eval (.tmp 31)) := hdep ⟨6, .data⟩ (by simp) rfl _ 31 rfl rfl
        exact lw_append (.tmp 29) (.tmp 31) 24 95 rfl Tryz.underlying24 HIg.out rfl (by decide) e5 e7 (List.length_map ..) (tri_len _) (tri_one _) (by have := HF.out.g; unfold maxLen; omega) (by have := HF.out.g; omega) hk.size
      | 8, ho =>
        obtain rfl := Option.some.inj ho
        refine lw_value (v := .slice (some ⟨u.heap.size, 0, none⟩) 0 0) (u' := u.alloc (.cells #[] 113)) ?_ ((Kp.refl _ _).alloc _) ⟨_, rfl, Blk.new _ _ _⟩
        go_simp
      | 9, ho =>
        obtain rfl := Option.some.inj ho
        refine lw_value (v := .pointer (some ⟨w.heap.size, 7, none⟩)) (u' := u) ?_ (Kp.refl _ _) rfl
        go_simp
      | 10, ho =>
        obtain rfl := Option.some.inj ho
        have e6 : a.tmps[34]?.getD undef = .pointer (some ⟨w.heap.size, 7, none⟩) := slot_at (hdep ⟨9, .data⟩ (by simp) rfl _ 34 rfl rfl)
        have c1 := (HCb.out.kp hk (fun h => h)).cell (i := 7) (v := .slice V.ay V.ny V.cy) rfl
        refine lw_value (v := .slice V.ay V.ny V.cy) (u' := u) ?_ (Kp.refl _ _) ⟨_, _, rfl, HA.out.fy, HRows.out.kp (HKb.out.trans hk (fun _ _ h => h)) (fun _ _ h => h)⟩
        go_simp
      | 11, ho =>
        obtain rfl := Option.some.inj ho
        have e5 : LitV 113 u (a.eval (.tmp 33)) := hdep ⟨8, .data⟩ (by simp) rfl _ 33 rfl rfl
        have e7 : SlK rows V.ny u (a.eval (.tmp 35)) := hdep ⟨10, .data⟩ (by simp) rfl _ 35 rfl rfl
        exact lw_append (.tmp 33) (.tmp 35) 25 113 rfl Tryz.underlying25 HIs.out rfl (by decide) e5 e7 HRL.out.1 HRL.out.2.1 HRL.out.2.2 (by have := HY.out; unfold maxLen; omega) (by have := HY.out; omega) hk.size
      | 12, ho =>
        obtain rfl := Option.some.inj ho
        refine lw_value (v := .pointer (some ⟨wz.heap.size, 2, none⟩)) (u' := u) ?_ (Kp.refl _ _) rfl
        go_simp
      | n + 13, _ => exact absurd hp (by simp [upTo])
    case hendown3 =>
      intro a u hI
      have hsz : a.tmps.size = 41 := hI.size
      have hdf : a.defers = [] := hI.defers
      have f0 : a.tmps.getD 0 undef = _ := hI.off 0 (noDst_spec (p := upTo 13) (by kernel_rfl))
      have f1 : a.tmps.getD 1 undef = _ := hI.off 1 (noDst_spec (p := upTo 13) (by kernel_rfl))
      have f2 : a.tmps.getD 2 undef = _ := hI.off 2 (noDst_spec (p := upTo 13) (by kernel_rfl))
      have f3 : a.tmps.getD 3 undef = _ := hI.off 3 (noDst_spec (p := upTo 13) (by kernel_rfl))
      have f4 : a.tmps.getD 4 undef = _ := hI.off 4 (noDst_spec (p := upTo 13) (by kernel_rfl))
      have f5 : a.tmps.getD 5 undef = _ := hI.off 5 (noDst_spec (p := upTo 13) (by kernel_rfl))
      have f6 : a.tmps.getD 6 undef = _ := hI.off 6 (noDst_spec (p := upTo 13) (by kernel_rfl))
      have f7 : a.tmps.getD 7 undef = _ := hI.off 7 (noDst_spec (p := upTo 13) (by kernel_rfl))
      have f8 : a.tmps.getD 8 undef = _ := hI.off 8 (noDst_spec (p := upTo 13) (by kernel_rfl))
      have f9 : a.tmps.getD 9 undef = _ := hI.off 9 (noDst_spec (p := upTo 13) (by kernel_rfl))
      have f10 : a.tmps.getD 10 undef = _ := hI.off 10 (noDst_spec (p := upTo 13) (by kernel_rfl))
      have f11 : a.tmps.getD 11 undef = _ := hI.off 11 (noDst_spec (p := upTo 13) (by kernel_rfl))
      have f12 : a.tmps.getD 12 undef = _ := hI.off 12 (noDst_spec (p := upTo 13) (by kernel_rfl))
      have f13 : a.tmps.getD 13 undef = _ := hI.off 13 (noDst_spec (p := upTo 13) (by kernel_rfl))
      have f14 : a.tmps.getD 14 undef = _ := hI.off 14 (noDst_spec (p := upTo 13) (by kernel_rfl))
      have f15 : a.tmps.getD 15 undef = _ := hI.off 15 (noDst_spec (p := upTo 13) (by kernel_rfl))
      have f16 : a.tmps.getD 16 undef = _ := hI.off 16 (noDst_spec (p := upTo 13) (by kernel_rfl))
      have f17 : a.tmps.getD 17 undef = _ := hI.off 17 (noDst_spec (p := upTo 13) (by kernel_rfl))
      have f18 : a.tmps.getD 18 undef = _ := hI.off 18 (noDst_spec (p := upTo 13) (by kernel_rfl))
      have f19 : a.tmps.getD 19 undef = _ := hI.off 19 (noDst_spec (p := upTo 13) (by kernel_rfl))
      have f20 : a.tmps.getD 20 undef = _ := hI.off 20 (noDst_spec (p := upTo 13) (by kernel_rfl))
      have f21 : a.tmps.getD 21 undef = _ := hI.off 21 (noDst_spec (p := upTo 13) (by kernel_rfl))
      have f22 : a.tmps.getD 22 undef = _ := hI.off 22 (noDst_spec (p := upTo 13) (by kernel_rfl))
      have f23 : a.tmps.getD 23 undef = _ := hI.off 23 (noDst_spec (p := upTo 13) (by kernel_rfl))
      have f24 : a.tmps.getD 24 undef = _ := hI.off 24 (noDst_spec (p := upTo 13) (by kernel_rfl))
      have f38 : a.tmps.getD 38 undef = _ := hI.off 38 (noDst_spec (p := upTo 13) (by kernel_rfl))
      have f39 : a.tmps.getD 39 undef = _ := hI.off 39 (noDst_spec (p := upTo 13) (by kernel_rfl))
      have f40 : a.tmps.getD 40 undef = _ := hI.off 40 (noDst_spec (p := upTo 13) (by kernel_rfl))
      have g2 : SlF w4.heap.size (C.lats.map tri) C.lats.length u (a.tmps.getD 28 undef) := hI.val 3 _ 28 rfl rfl rfl
      obtain ⟨a2, p2, f28, -, -, -⟩ := id g2
      rw [f28] at g2
      have g6 : SlF w4.heap.size (C.gates.map tri) C.gates.length u (a.tmps.getD 32 undef) := hI.val 7 _ 32 rfl rfl rfl
      obtain ⟨a6, p6, f32, -, -, -⟩ := id g6
      rw [f32] at g6
      have g7 : SlF w4.heap.size rows V.ny u (a.tmps.getD 36 undef) := hI.val 11 _ 36 rfl rfl rfl
      obtain ⟨a7, p7, f36, -, -, -⟩ := id g7
      rw [f36] at g7
      have f37 : a.tmps.getD 37 undef = .pointer (some ⟨wz.heap.size, 2, none⟩) := hI.val 12 _ 37 rfl rfl rfl
      have ha : a = ⟨#[a.tmps.getD 0 undef, a.tmps.getD 1 undef, a.tmps.getD 2 undef, a.tmps.getD 3 undef, a.tmps.getD 4 undef, a.tmps.getD 5 undef, a.tmps.getD 6 undef, a.tmps.getD 7 undef, a.tmps.getD 8 undef, a.tmps.getD 9 undef, a.tmps.getD 10 undef, a.tmps.getD 11 undef, a.tmps.getD 12 undef, a.tmps.getD 13 undef, a.tmps.getD 14 undef, a.tmps.getD 15 undef, a.tmps.getD 16 undef, a.tmps.getD 17 undef, a.tmps.getD 18 undef, a.tmps.getD 19 undef, a.tmps.getD 20 undef, a.tmps.getD 21 undef, a.tmps.getD 22 undef, a.tmps.getD 23 undef, a.tmps.getD 24 undef, a.tmps.getD 25 undef, a.tmps.getD 26 undef, a.tmps.getD 27 undef, a.tmps.getD 28 undef, a.tmps.getD 29 undef, a.tmps.getD 30 undef, a.tmps.getD 31 undef, a.tmps.getD 32 undef, a.tmps.getD 33 undef, a.tmps.getD 34 undef, a.tmps.getD 35 undef, a.tmps.getD 36 undef, a.tmps.getD 37 undef, a.tmps.getD 38 undef, a.tmps.getD 39 undef, a.tmps.getD 40 undef], a.defers⟩ := act_list a 41 hsz
      rw [hdf, f0, f1, f2, f3, f4, f5, f6, f7, f8, f9, f10, f11, f12, f13, f14, f15, f16, f17, f18, f19, f20, f21, f22, f23, f24, f28, f32, f36, f37, f38, f39, f40] at ha
      obtain ⟨x25, hx25⟩ : ∃ x, a.tmps.getD 25 undef = x := ⟨_, rfl⟩
      obtain ⟨x26, hx26⟩ : ∃ x, a.tmps.getD 26 undef = x := ⟨_, rfl⟩
      obtain ⟨x27, hx27⟩ : ∃ x, a.tmps.getD 27 undef = x := ⟨_, rfl⟩
      obtain ⟨x29, hx29⟩ : ∃ x, a.tmps.getD 29 undef = x := ⟨_, rfl⟩
      obtain ⟨x30, hx30⟩ : ∃ x, a.tmps.getD 30 undef = x := ⟨_, rfl⟩
      obtain ⟨x31, hx31⟩ : ∃ x, a.tmps.getD 31 undef = x := ⟨_, rfl⟩
      obtain ⟨x33, hx33⟩ : ∃ x, a.tmps.getD 33 undef = x := ⟨_, rfl⟩
      obtain ⟨x34, hx34⟩ : ∃ x, a.tmps.getD 34 undef = x := ⟨_, rfl⟩
      obtain ⟨x35, hx35⟩ : ∃ x, a.tmps.getD 35 undef = x := ⟨_, rfl⟩
      rw [hx25, hx26, hx27, hx29, hx30, hx31, hx33, hx34, hx35] at ha
      have hku := hI.kp
      have hB := HDown3.out.kp hku (fun h => h)
      clear hI hsz hdf f0 f1 f2 f3 f4 f5 f6 f7 f8 f9 f10 f11 f12 f13 f14 f15 f16 f17 f18 f19 f20 f21 f22 f23 f24 f28 f32 f36 f37 f38 f39 f40 hx25 hx26 hx27 hx29 hx30 hx31 hx33 hx34 hx35
      subst ha
      have cs := hB.cell (i := 2) (v := .slice V.al C.lats.length V.cl) rfl
      have fs := hB.free 2
      have hB' : Blk (u.setCell ⟨wz.heap.size, 2, none⟩ (.slice a2 C.lats.length p2)) wz.heap.size #[.int .i64 C.max, .slice a1 C.ins.length p1, .slice a2 C.lats.length p2, .slice a3 C.outs.length p3, .slice a4 C.bads.length p4, .slice a5 C.cons.length p5, .slice V.ag C.gates.length V.cg, .slice V.ay V.ny V.cy, .string V.cm] 27 := hB.set_same 2 (.slice a2 C.lats.length p2)
      have hk' : Kp (fun j => j = wz.heap.size) w4 (u.setCell ⟨wz.heap.size, 2, none⟩ (.slice a2 C.lats.length p2)) := (hku.mono (fun _ _ h => h.elim)).setCell (S := fun j => j = wz.heap.size) (p := ⟨wz.heap.size, 2, none⟩) (fun _ => rfl) _
      have hkk := Kp.set u ⟨wz.heap.size, 2, none⟩ (.slice a2 C.lats.length p2)
      refine wpAny_ready (rs := [13]) (by kernel_rfl) (by simp) ?_
      refine AllReady.cons (o := _) rfl (fun K1 hK1 => ?_) AllReady.nil
      go_simp
      refine hK1 _ _ ?_
      clear hK1 K1 cs fs hB hku
      have g2' := SlF.kp g2 hkk (fun j hj => by have hj2 : j = wz.heap.size := hj; have := HLt.out; omega)
      clear g2
      have g2 := g2'
      clear g2'
      have g6' := SlF.kp g6 hkk (fun j hj => by have hj2 : j = wz.heap.size := hj; have := HLt.out; omega)
      clear g6
      have g6 := g6'
      clear g6'
      have g7' := SlF.kp g7 hkk (fun j hj => by have hj2 : j = wz.heap.size := hj; have := HLt.out; omega)
      clear g7
      have g7 := g7'
      clear g7'
      clear hkk
      generalize u.setCell ⟨wz.heap.size, 2, none⟩ (.slice a2 C.lats.length p2) = u2 at hB' hk' g2 g6 g7 ⊢
      obtain ⟨u, rfl⟩ : ∃ u, u = u2 := ⟨_, rfl⟩
      have hB := hB'
      have hku := hk'
      clear hB' hk'
      try simp only [Act.put, List.setIfInBounds_toArray, List.set_cons_zero, List.set_cons_succ]
      refine wpAny_ready (rs := [14]) (by kernel_rfl) (by simp) ?_
      refine AllReady.cons (o := _) rfl (fun K1 hK1 => ?_) AllReady.nil
      go_simp
      refine hK1 _ _ ?_
      clear hK1 K1
      try simp only [Act.put, List.setIfInBounds_toArray, List.set_cons_zero, List.set_cons_succ]
      have cs := hB.cell (i := 6) (v := .slice V.ag C.gates.length V.cg) rfl
      have fs := hB.free 6
      have hB' : Blk (u.setCell ⟨wz.heap.size, 6, none⟩ (.slice a6 C.gates.length p6)) wz.heap.size #[.int .i64 C.max, .slice a1 C.ins.length p1, .slice a2 C.lats.length p2, .slice a3 C.outs.length p3, .slice a4 C.bads.length p4, .slice a5 C.cons.length p5, .slice a6 C.gates.length p6, .slice V.ay V.ny V.cy, .string V.cm] 27 := hB.set_same 6 (.slice a6 C.gates.length p6)
      have hk' : Kp (fun j => j = wz.heap.size) w4 (u.setCell ⟨wz.heap.size, 6, none⟩ (.slice a6 C.gates.length p6)) := hku.setCell (S := fun j => j = wz.heap.size) (p := ⟨wz.heap.size, 6, none⟩) (fun _ => rfl) _
      have hkk := Kp.set u ⟨wz.heap.size, 6, none⟩ (.slice a6 C.gates.length p6)
      refine wpAny_ready (rs := [15]) (by kernel_rfl) (by simp) ?_
      refine AllReady.cons (o := _) rfl (fun K1 hK1 => ?_) AllReady.nil
      go_simp
      refine hK1 _ _ ?_
      clear hK1 K1 cs fs hB hku
      have g2' := SlF.kp g2 hkk (fun j hj => by have hj2 : j = wz.heap.size := hj; have := HLt.out; omega)
      clear g2
      have g2 := g2'
      clear g2'
      have g6' := SlF.kp g6 hkk (fun j hj => by have hj2 : j = wz.heap.size := hj; have := HLt.out; omega)
      clear g6
      have g6 := g6'
      clear g6'
      have g7' := SlF.kp g7 hkk (fun j hj => by have hj2 : j = wz.heap.size := hj; have := HLt.out; omega)
      clear g7
      have g7 := g7'
      clear g7'
      clear hkk
      generalize u.setCell ⟨wz.heap.size, 6, none⟩ (.slice a6 C.gates.length p6) = u2 at hB' hk' g2 g6 g7 ⊢
      obtain ⟨u, rfl⟩ : ∃ u, u = u2 := ⟨_, rfl⟩
      have hB := hB'
      have hku := hk'
      clear hB' hk'
      try simp only [Act.put, List.setIfInBounds_toArray, List.set_cons_zero, List.set_cons_succ]
      refine wpAny_ready (rs := [16]) (by kernel_rfl) (by simp) ?_
      refine AllReady.cons (o := _) rfl (fun K1 hK1 => ?_) AllReady.nil
      go_simp
      refine hK1 _ _ ?_
      clear hK1 K1
      try simp only [Act.put, List.setIfInBounds_toArray, List.set_cons_zero, List.set_cons_succ]
      have cs := hB.cell (i := 7) (v := .slice V.ay V.ny V.cy) rfl
      have fs := hB.free 7
      have hB' : Blk (u.setCell ⟨wz.heap.size, 7, none⟩ (.slice a7 V.ny p7)) wz.heap.size #[.int .i64 C.max, .slice a1 C.ins.length p1, .slice a2 C.lats.length p2, .slice a3 C.outs.length p3, .slice a4 C.bads.length p4, .slice a5 C.cons.length p5, .slice a6 C.gates.length p6, .slice a7 V.ny p7, .string V.cm] 27 := hB.set_same 7 (.slice a7 V.ny p7)
      have hk' : Kp (fun j => j = wz.heap.size) w4 (u.setCell ⟨wz.heap.size, 7, none⟩ (.slice a7 V.ny p7)) := hku.setCell (S := fun j => j = wz.heap.size) (p := ⟨wz.heap.size, 7, none⟩) (fun _ => rfl) _
      have hkk := Kp.set u ⟨wz.heap.size, 7, none⟩ (.slice a7 V.ny p7)
      refine wpAny_ready (rs := [17]) (by kernel_rfl) (by simp) ?_
      refine AllReady.cons (o := _) rfl (fun K1 hK1 => ?_) AllReady.nil
      go_simp
      refine hK1 _ _ ?_
      clear hK1 K1 cs fs hB hku
      have g2' := SlF.kp g2 hkk (fun j hj => by have hj2 : j = wz.heap.size := hj; have := HLt.out; omega)
      clear g2
      have g2 := g2'
      clear g2'
      have g6' := SlF.kp g6 hkk (fun j hj => by have hj2 : j = wz.heap.size := hj; have := HLt.out; omega)
      clear g6
      have g6 := g6'
      clear g6'
      have g7' := SlF.kp g7 hkk (fun j hj => by have hj2 : j = wz.heap.size := hj; have := HLt.out; omega)
      clear g7
      have g7 := g7'
      clear g7'
      clear hkk
      generalize u.setCell ⟨wz.heap.size, 7, none⟩ (.slice a7 V.ny p7) = u2 at hB' hk' g2 g6 g7 ⊢
      obtain ⟨u, rfl⟩ : ∃ u, u = u2 := ⟨_, rfl⟩
      have hB := hB'
      have hku := hk'
      clear hB' hk'
      try simp only [Act.put, List.setIfInBounds_toArray, List.set_cons_zero, List.set_cons_succ]
      refine wpAny_done (by kernel_rfl) ?_ _
      have hG := HG.out
      obtain ⟨g1, g3, g4, g5⟩ := hG
      have q : ∀ j, (fun j => j = wz.heap.size) j → j < w3.heap.size := fun j hj => by have hj2 : j = wz.heap.size := hj; have := HLt0.out; omega
      have g1' := SlF.kp g1 hku q
      have g3' := SlF.kp g3 hku q
      have g4' := SlF.kp g4 hku q
      have g5' := SlF.kp g5 hku q
      clear g1 g3 g4 g5 q
      have hB2 := HBb.out.kp hku (fun e => by have := HSz.out; have e2 : w.heap.size + 1 = wz.heap.size := e; omega)
      have HKf := Lib.hid (HKb.out.trans hku (fun j hj e => by have := HSz.out; have e2 : j = wz.heap.size := e; omega))
      have hle : w3.heap.size ≤ w4.heap.size := HLe.out
      have g2 := g2.low hle
      have g6 := g6.low hle
      have g7 := g7.low hle
      have HGf := Lib.hid (And.intro g1' (And.intro g2 (And.intro g3' (And.intro g4' (And.intro g5' (And.intro g6 g7))))))
      have HB3 := Lib.hid hB
      have HB2 := Lib.hid hB2
      clear hB hB2 hku g1' g2 g3' g4' g5' g6 g7 HG
      obtain ⟨d0, d1, d2, d3, d4, d5, d6, d7, d8⟩ := HB3.out.cells9
      obtain ⟨z0, z1, z2, z3, z4, z5, z6, z7, z8⟩ := HB2.out.cells9
      have fr := HB2.out.free
      have fr0 := fr 0
      have fr1 := fr 1
      have fr2 := fr 2
      have fr3 := fr 3
      have fr4 := fr 4
      have fr5 := fr 5
      have fr6 := fr 6
      have fr7 := fr 7
      have fr8 := fr 8
      clear fr
      have HBe := Lib.hid (HB2.out.set9 (.int .i64 C.max) (.slice a1 C.ins.length p1) (.slice a2 C.lats.length p2) (.slice a3 C.outs.length p3) (.slice a4 C.bads.length p4) (.slice a5 C.cons.length p5) (.slice a6 C.gates.length p6) (.slice a7 V.ny p7) (.string V.cm))
      have HKe := Lib.hid (Kp.set9 u (w.heap.size + 1) (.int .i64 C.max) (.slice a1 C.ins.length p1) (.slice a2 C.lats.length p2) (.slice a3 C.outs.length p3) (.slice a4 C.bads.length p4) (.slice a5 C.cons.length p5) (.slice a6 C.gates.length p6) (.slice a7 V.ny p7) (.string V.cm))
      unfold Go.Proofs.YtnoknecfdnjomaaGreat.set9 at HBe HKe
      have HKw := Lib.hid (HKf.out.trans HKe.out (fun j hj e => by have e2 : j = (w.heap.size + 1) := e; omega))
      have q : ∀ j, (fun j => j = (w.heap.size + 1)) j → j < w3.heap.size := fun j hj => by have hj2 : j = w.heap.size + 1 := hj; have := HLt0.out; have := HSz.out; omega
      have HCat := Lib.hid (HGf.out)
      obtain ⟨g1, g2, g3, g4, g5, g6, g7⟩ := HCat.out
      have HG2 := Lib.hid (And.intro (SlF.kp g1 HKe.out q) (And.intro (SlF.kp g2 HKe.out q) (And.intro (SlF.kp g3 HKe.out q) (And.intro (SlF.kp g4 HKe.out q) (And.intro (SlF.kp g5 HKe.out q) (And.intro (SlF.kp g6 HKe.out q) (SlF.kp g7 HKe.out q)))))))
      clear q g1 g2 g3 g4 g5 g6 g7 HCat
      go_wp2_with fail
      obtain ⟨s0, s1, s2, s3, s4, s5, s6, s7, s8⟩ := HBe.out.cells9
      obtain ⟨g1, g2, g3, g4, g5, g6, g7⟩ := HG2.out
      have HRes := Lib.hid (show CAt _ ⟨a1, p1, a2, p2, a3, p3, a4, p4, a5, p5, a6, p6, a7, V.ny, p7, V.cm⟩ C from ⟨(by have h := (SlF.row g1).2; rw [ir_flat] at h; exact h), (SlF.row g2).2, (by have h := (SlF.row g3).2; rw [ir_flat] at h; exact h), (by have h := (SlF.row g4).2; rw [ir_flat] at h; exact h), (by have h := (SlF.row g5).2; rw [ir_flat] at h; exact h), (SlF.row g6).2, ⟨rows, (SlF.row g7).2, HRL.out⟩, (SlF.row g1).1, (SlF.row g2).1, (SlF.row g3).1, (SlF.row g4).1, (SlF.row g5).1, (SlF.row g6).1, (SlF.row g7).1⟩)
      have HSy := Lib.hid (SlF.row g7).2
      clear g1 g2 g3 g4 g5 g6 g7
      exact bodyPost_ret (v := .agg #[.int .i64 C.max, .slice a1 C.ins.length p1, .slice a2 C.lats.length p2, .slice a3 C.outs.length p3, .slice a4 C.bads.length p4, .slice a5 C.cons.length p5, .slice a6 C.gates.length p6, .slice a7 V.ny p7, .string V.cm]) (by simp [results, Tryz.results9, go_sem, s0, s1, s2, s3, s4, s5, s6, s7, s8]) rfl ⟨⟨a1, p1, a2, p2, a3, p3, a4, p4, a5, p5, a6, p6, a7, V.ny, p7, V.cm⟩, rfl, HRes.out, ⟨HSy.out, rfl, rfl⟩, HKw.out⟩

theorem law11_Own (V : CV) (C : Circ) (w : World) (h : CAt w V C) (hf : CFew C 1000000) (hy : V.ny ≤ 1000000) :
    Calls Tryz.prog 9 #[.agg (cvals V C)] w fun e w' => ∃ V', e = .returned (.agg (cvals V' C)) ∧ CAt w' V' C ∧ V'.ny = V.ny ∧ Kp (fun _ => False) w w' := by
  obtain ⟨rows, hrows, hrl⟩ := h.y
  exact (law11_OwnY V C w rows hrows hrl h hf hy).mono (by
    rintro e w' ⟨V', rfl, h1, h2, h3⟩
    exact ⟨V', rfl, h1, h2.2.1, h3⟩)

end Go.Proofs.YtnoknecfdnjomaaGreat
