/-
  ascii.Read of any text. (Printed by mkascread.py.)
-/
import Derived.Test.YtckmdcmkjmpiaaaGreatDoorM7
import Derived.Test.YtckmdcmkjmpiaaaGreatDoorM3
import Derived.Laws.EntriesVeiled
import Derived.Test.YtckmdcmkjmpiaaaGreatDoorM1
import Derived.Test.YtckmdcmkjmpiaaaGreatDoorRows
import Derived.Maps.Views
import Derived.Maps.OwnSet
import Derived.DeepKeys4
import Derived.Deep.QuietTactic
import Derived.BigQuiet
import Derived.Deep.DeepCutAuto
import Derived.Test.YtckmdcmkjmpiaaaGreatDoorM4
set_option linter.unusedVariables false
set_option linter.unusedSimpArgs false
namespace Go.Proofs.YtckmdcmkjmpiaaaGreatDoor
open Go.RowKit

theorem asc_four (w : World) (c c1 : Array Value) (t t1 t2 t3 : TypeId) : Blk ((((w.alloc (.cells c t)).alloc (.cells c1 t1)).alloc (.cells #[.int .i64 0] t2)).alloc (.cells #[.int .i64 0] t3)) w.heap.size c t ∧
    Blk ((((w.alloc (.cells c t)).alloc (.cells c1 t1)).alloc (.cells #[.int .i64 0] t2)).alloc (.cells #[.int .i64 0] t3)) (w.heap.size + 1) c1 t1 ∧
    Blk ((((w.alloc (.cells c t)).alloc (.cells c1 t1)).alloc (.cells #[.int .i64 0] t2)).alloc (.cells #[.int .i64 0] t3)) (w.heap.size + 1 + 1) #[.int .i64 0] t2 ∧
    Blk ((((w.alloc (.cells c t)).alloc (.cells c1 t1)).alloc (.cells #[.int .i64 0] t2)).alloc (.cells #[.int .i64 0] t3)) (w.heap.size + 1 + 1 + 1) #[.int .i64 0] t3 ∧
    Kp (fun _ => False) w ((((w.alloc (.cells c t)).alloc (.cells c1 t1)).alloc (.cells #[.int .i64 0] t2)).alloc (.cells #[.int .i64 0] t3)) := by
  have key : ∀ (u : World) (c : Array Value) (t : TypeId) (n : Nat), u.heap.size = n → Blk (u.alloc (.cells c t)) n c t := fun u c t n h => by subst h; exact Blk.new u c t
  exact ⟨(((Blk.new w _ _).alloc _).alloc _).alloc _, ((key _ _ _ _ (by simp)).alloc _).alloc _, (key _ _ _ _ (by simp)).alloc _, key _ _ _ _ (by simp), ((((Kp.refl _ w).alloc _).alloc _).alloc _).alloc _⟩

theorem asc_three (w : World) (c0 c1 c2 : Array Value) (t0 t1 t2 : TypeId) :
    Blk (((w.alloc (.cells c0 t0)).alloc (.cells c1 t1)).alloc (.cells c2 t2)).drew w.heap.size c0 t0 ∧ Blk (((w.alloc (.cells c0 t0)).alloc (.cells c1 t1)).alloc (.cells c2 t2)).drew (w.heap.size + 1) c1 t1 ∧
    Blk (((w.alloc (.cells c0 t0)).alloc (.cells c1 t1)).alloc (.cells c2 t2)).drew (w.heap.size + 1 + 1) c2 t2 := by
  have key : ∀ (u : World) (c : Array Value) (t : TypeId) (n : Nat), u.heap.size = n → Blk (u.alloc (.cells c t)) n c t := fun u c t n h => by subst h; exact Blk.new u c t
  exact ⟨((Blk.new w _ _).alloc _).alloc _, (key _ _ _ _ (by simp)).alloc _, key _ _ _ _ (by simp)⟩

/-- what a call of ascii.Read holds ahead of its closures -/
structure AR (w u : World) (hd : Array Value) (s : ByteArray) (bv br bo p : Nat) (M : Int) : Prop where
  h : Blk u w.heap.size hd 42
  r : Blk u (w.heap.size + 1) zc9 27
  a : Blk u (w.heap.size + 1 + 1) #[.int .i64 0] 3
  e : Blk u (w.heap.size + 1 + 1 + 1) #[.int .i64 0] 28
  v : Blk u bv #[.pointer (some ⟨br, 0, none⟩)] 75
  rd : Blk u br #[.string s, .int .i64 p] 77
  c : Blk u bo #[.int .i64 M, .slice none 0 0, .slice none 0 0, .slice none 0 0, .slice none 0 0, .slice none 0 0, .slice none 0 0, .slice none 0 0, .string ⟨#[]⟩] 27
  ne : bv ≠ br ∧ bo ≠ br ∧ bo ≠ bv ∧ w.heap.size + 3 < bv ∧ w.heap.size + 3 < br ∧ w.heap.size + 3 < bo
  kp : Kp (fun _ => False) w u
theorem AR.go {w u : World} {hd : Array Value} {s : ByteArray} {bv br bo p : Nat} {M : Int} (h : AR w u hd s bv br bo p M) :
    AS w (u.alloc (.cells #[.func (Fn.func 67) #[] #[.pointer (some ⟨bv, 0, none⟩), .pointer (some ⟨w.heap.size, 0, none⟩)]] 126)) hd s bv br bo u.heap.size (u.heap.size + 1) p M (.slice none 0 0) (.slice none 0 0) (.slice none 0 0) (.slice none 0 0) (.slice none 0 0) (.slice none 0 0) [] [] [] [] [] [] := by
  have := h.ne
  have := h.v.lt
  have := h.rd.lt
  have := h.c.lt
  have := h.h.lt
  exact ⟨⟨h.v.alloc _, h.h.alloc _, h.rd.alloc _, Blk.new _ _ _, by omega⟩, h.r.alloc _, h.a.alloc _, h.e.alloc _, h.c.alloc _, ⟨Own.nil _ _ _, OwnK.nil _ _ _ _, Own.nil _ _ _, Own.nil _ _ _, Own.nil _ _ _, OwnK.nil _ _ _ _⟩, by omega, ⟨by omega, by omega, by omega, by omega, by simp⟩, h.kp.alloc _⟩

section
variable {w u u1 u2 : World} {hd : Array Value} {s : ByteArray} {bv br bo bl B p : Nat} {M : Int} {vI vL vO vB vC vG : Value} {I : List Int} {L : List (Int × Int × Int)} {O D N : List Int} {G : List (Int × Int × Int)}
theorem AS.stop (h : AS w u hd s bv br bo bl B p M vI vL vO vB vC vG I L O D N G) (k0 : Kp (fun _ => False) u u1) (k : Kp (fun j => j = br) u1 u2) :
    Blk u2 (w.heap.size + 1 + 1) #[.int .i64 0] 3 ∧ Blk u2 (w.heap.size + 1 + 1 + 1) #[.int .i64 0] 28 ∧ Blk u2 (w.heap.size + 1) zc9 27 ∧ Kp (fun _ => False) w u2 := by
  have hn := h.ne
  have kk : Kp (fun j => j = br) u u2 := (k0.mono (fun _ _ h => h.elim)).trans k (fun _ _ h => h)
  exact ⟨h.a.kp kk (by omega), h.e.kp kk (by omega), h.r.kp kk (by omega), h.kp.trans kk (fun j hj e => by have e2 : j = br := e; omega)⟩
theorem AS.drew (h : AS w u hd s bv br bo bl B p M vI vL vO vB vC vG I L O D N G) : AS w u.drew hd s bv br bo bl B p M vI vL vO vB vC vG I L O D N G := h.kp0 (Kp.refl _ u).drew
/-- the results are laid -/
theorem AS.fin (h : AS w u hd s bv br bo bl B p M vI vL vO vB vC vG I L O D N G) (y0 y1 y2 y3 y4 y5 y6 y7 y8 q e : Value) :
    Blk (((set9 u (w.heap.size + 1) y0 y1 y2 y3 y4 y5 y6 y7 y8).setCell ⟨w.heap.size + 1 + 1, 0, none⟩ q).setCell ⟨w.heap.size + 1 + 1 + 1, 0, none⟩ e).drew (w.heap.size + 1) #[y0, y1, y2, y3, y4, y5, y6, y7, y8] 27 ∧ Blk (((set9 u (w.heap.size + 1) y0 y1 y2 y3 y4 y5 y6 y7 y8).setCell ⟨w.heap.size + 1 + 1, 0, none⟩ q).setCell ⟨w.heap.size + 1 + 1 + 1, 0, none⟩ e).drew (w.heap.size + 1 + 1) #[q] 3 ∧ Blk (((set9 u (w.heap.size + 1) y0 y1 y2 y3 y4 y5 y6 y7 y8).setCell ⟨w.heap.size + 1 + 1, 0, none⟩ q).setCell ⟨w.heap.size + 1 + 1 + 1, 0, none⟩ e).drew (w.heap.size + 1 + 1 + 1) #[e] 28 ∧ Kp (fun _ => False) w (((set9 u (w.heap.size + 1) y0 y1 y2 y3 y4 y5 y6 y7 y8).setCell ⟨w.heap.size + 1 + 1, 0, none⟩ q).setCell ⟨w.heap.size + 1 + 1 + 1, 0, none⟩ e).drew ∧
    LsO (((set9 u (w.heap.size + 1) y0 y1 y2 y3 y4 y5 y6 y7 y8).setCell ⟨w.heap.size + 1 + 1, 0, none⟩ q).setCell ⟨w.heap.size + 1 + 1 + 1, 0, none⟩ e).drew B vI vL vO vB vC vG I L O D N G := by
  have hn := h.ne
  have hh := h.hi
  have hk := Kp.set9 u (w.heap.size + 1) y0 y1 y2 y3 y4 y5 y6 y7 y8
  have hK : Kp (fun j => w.heap.size ≤ j ∧ j ≤ w.heap.size + 3) u (((set9 u (w.heap.size + 1) y0 y1 y2 y3 y4 y5 y6 y7 y8).setCell ⟨w.heap.size + 1 + 1, 0, none⟩ q).setCell ⟨w.heap.size + 1 + 1 + 1, 0, none⟩ e).drew := (((hk.mono (fun i hi h => by omega)).setCell (p := ⟨w.heap.size + 1 + 1, 0, none⟩) (fun _ => by simp <;> omega) q).setCell (p := ⟨w.heap.size + 1 + 1 + 1, 0, none⟩) (fun _ => by simp <;> omega) e).drew
  refine ⟨(((Blk.set9 h.r y0 y1 y2 y3 y4 y5 y6 y7 y8).set_other (by simp) _).set_other (by simp <;> omega) _).drew, (((h.a.kp hk (by omega)).set_same 0 q).set_other (by simp) _).drew, (((h.e.kp hk (by omega)).set_other (by simp) _).set_same 0 e).drew,
    h.kp.trans hK (fun i hi h => by omega), h.ls.low hK (fun j hj => by omega)⟩
end

/-- region 17: what is so after some of its calls and stores -/
def WR (w : World) (hd : Array Value) (s : ByteArray) (bv br bo bl B q q3 q4 q5 e3 e4 e5 : Nat) (M : Int) (vI vL : Value) (I : List Int) (L : List (Int × Int × Int)) (O D N : List Int) : List Value → World → Prop
  | [], u => AS w u hd s bv br bo bl B q M vI vL (.slice none 0 0) (.slice none 0 0) (.slice none 0 0) (.slice none 0 0) I L [] [] [] []
  | [r0], u => e3 = 0 ∧ Own u B 3 r0 (iv O) ∧ AS w u hd s bv br bo bl B q3 M vI vL (.slice none 0 0) (.slice none 0 0) (.slice none 0 0) (.slice none 0 0) I L [] [] [] []
  | [r0, r1], u => (e3 = 0 ∧ e4 = 0) ∧ Own u B 3 r0 (iv O) ∧ Own u B 3 r1 (iv D) ∧ AS w u hd s bv br bo bl B q4 M vI vL (.slice none 0 0) (.slice none 0 0) (.slice none 0 0) (.slice none 0 0) I L [] [] [] []
  | [r0, r1, r2], u => (e3 = 0 ∧ e4 = 0 ∧ e5 = 0) ∧ Own u B 3 r0 (iv O) ∧ Own u B 3 r1 (iv D) ∧ Own u B 3 r2 (iv N) ∧ AS w u hd s bv br bo bl B q5 M vI vL (.slice none 0 0) (.slice none 0 0) (.slice none 0 0) (.slice none 0 0) I L [] [] [] []
  | [r0, r1, r2, _], u => (e3 = 0 ∧ e4 = 0 ∧ e5 = 0) ∧ Own u B 3 r1 (iv D) ∧ Own u B 3 r2 (iv N) ∧ AS w u hd s bv br bo bl B q5 M vI vL r0 (.slice none 0 0) (.slice none 0 0) (.slice none 0 0) I L O [] [] []
  | [r0, r1, r2, _, _], u => (e3 = 0 ∧ e4 = 0 ∧ e5 = 0) ∧ Own u B 3 r2 (iv N) ∧ AS w u hd s bv br bo bl B q5 M vI vL r0 r1 (.slice none 0 0) (.slice none 0 0) I L O D [] []
  | [r0, r1, r2, _, _, _], u => (e3 = 0 ∧ e4 = 0 ∧ e5 = 0) ∧ AS w u hd s bv br bo bl B q5 M vI vL r0 r1 r2 (.slice none 0 0) I L O D N []
  | _, _ => False
theorem WR_h {w u : World} {hd : Array Value} {s : ByteArray} {bv br bo bl B q q3 q4 q5 e3 e4 e5 : Nat} {M : Int} {vI vL : Value} {I : List Int} {L : List (Int × Int × Int)} {O D N : List Int} : ∀ {vs : List Value}, WR w hd s bv br bo bl B q q3 q4 q5 e3 e4 e5 M vI vL I L O D N vs u → Blk u w.heap.size hd 42
  | [], h => h.l.h
  | [_], h => h.2.2.l.h
  | [_, _], h => h.2.2.2.l.h
  | [_, _, _], h => h.2.2.2.2.l.h
  | [_, _, _, _], h => h.2.2.2.l.h
  | [_, _, _, _, _], h => h.2.2.l.h
  | [_, _, _, _, _, _], h => h.2.l.h
  | _ :: _ :: _ :: _ :: _ :: _ :: _ :: _, h => h.elim
theorem slot_some {a : Act} {i : Nat} {x : Option Addr} (h : a.tmps[i]?.getD undef = .pointer x) : a.tmps[i]? = some (.pointer x) := by
  cases h2 : a.tmps[i]? with
  | none => rw [h2] at h; simp [undef] at h
  | some v => rw [h2] at h; simp at h; rw [h]

set_option maxRecDepth 100000 in
set_option maxHeartbeats 16000000 in
theorem asc_Read (s : ByteArray) (p : Nat) (bin : Bool) (M nI nL nO nA nB nC : Nat) (w : World) (hs : s.size ≤ 1000000) (hp : p ≤ s.size) (hM : M ≤ 16777216) (hI : nI ≤ 16777216) (hL : nL ≤ 16777216) (hO : nO ≤ 16777216) (hA : nA ≤ 16777216) (hBd : nB ≤ 16777216) (hC : nC ≤ 16777216) :
    Calls Tryz.prog 33 #[.string s, .int .i64 (p : Nat), .agg (hdA bin M nI nL nO nA nB nC)] w fun e w' => BinReadP (rdA s (M : Int) nI nL nO nA nB nC (p, 0)) w e w' := by
  have hmf : ∀ (fn : Fn) (first cap : Array Value) (w : World), (Instr.makeFunc fn first cap).run Tryz.prog w = .ok (.func fn first cap) w := fun _ _ _ _ => rfl
  have d1 : (decide ((p : Int) < 0) || decide ((s.size : Int) < (p : Int))) = false := by simp; omega
  have d2 : decide ((p : Int) < 0) = false := by simp
  have d3 : decide (s.size < p) = false := by simp; omega
  have HIl := Lib.hid (show (Tryz.prog.info? 59).map (fun i => (i.zero, i.size, i.bytes)) = some (some (.agg #[.int .i64 0, .int .i64 0, .int .i64 0]), 3, 24) by kernel_rfl)
  have HIg := Lib.hid (show (Tryz.prog.info? 61).map (fun i => (i.zero, i.size, i.bytes)) = some (some (.agg #[.int .i64 0, .int .i64 0, .int .i64 0]), 3, 24) by kernel_rfl)
  obtain ⟨R, hR⟩ : ∃ R, rdA s (M : Int) nI nL nO nA nB nC (p, 0) = R := ⟨_, rfl⟩
  rw [hR]
  have HR := Lib.hid hR
  have HNm := Lib.hid (And.intro hs (And.intro hp (And.intro hM (And.intro hI (And.intro hL (And.intro hO (And.intro hA (And.intro hBd hC))))))))
  obtain ⟨wz, hwz⟩ : ∃ wz : World, wz = (((w.alloc (.cells #[.bool bin, .int .i64 (M : Nat), .int .i64 (nI : Nat), .int .i64 (nL : Nat), .int .i64 (nO : Nat), .int .i64 (nA : Nat), .int .i64 (nB : Nat), .int .i64 (nC : Nat)] 42)).alloc (.cells #[.int .i64 0, .slice none 0 0, .slice none 0 0, .slice none 0 0, .slice none 0 0, .slice none 0 0, .slice none 0 0, .slice none 0 0, .string ⟨#[]⟩] 27)).alloc (.cells #[.int .i64 0] 3)).alloc (.cells #[.int .i64 0] 28) := ⟨_, rfl⟩
  have HB := Lib.hid (asc_four w (hdA bin M nI nL nO nA nB nC) zc9 42 27 3 28)
  rw [show (((w.alloc (.cells (hdA bin M nI nL nO nA nB nC) 42)).alloc (.cells zc9 27)).alloc (.cells #[.int .i64 0] 3)).alloc (.cells #[.int .i64 0] 28) = wz from hwz.symm] at HB
  have HZ := Lib.hid hwz
  clear hwz hR
  have HLit := Lib.hid (fun (some_ : ByteArray) (ok : Nat → Bool) (hidx : ∀ c, c < 256 → decide (Lib.indexByte some_.data.toList c.toUInt8 < 0) = !ok c) (q : Nat) (hq : q ≤ s.size) (bv br bl : Nat) (u : World) (hL : LB (hdA bin M nI nL nO nA nB nC) s bv w.heap.size br bl u q) => asc_lit s some_ ok q bin M nI nL nO nA nB nC bv w.heap.size br bl u hs hq hM hidx hL)
  have HLits := Lib.hid (fun (many q : Nat) (hm : many ≤ 16777216) (hq : q ≤ s.size) (bv br bl : Nat) (u : World) (hL : LB (hdA bin M nI nL nO nA nB nC) s bv w.heap.size br bl u q) => asc_lits s q many bin M nI nL nO nA nB nC bv w.heap.size br bl u hs hq hM (by omega) hL)
  clear hs hp hM hI hL hO hA hBd hC
  unfold hdA
  go_enter_defers Tryz.func33, Tryz.ntmps33
  go_upto_region 4 with fail
  rw [show (((w.alloc (.cells #[.bool bin, .int .i64 (M : Nat), .int .i64 (nI : Nat), .int .i64 (nL : Nat), .int .i64 (nO : Nat), .int .i64 (nA : Nat), .int .i64 (nB : Nat), .int .i64 (nC : Nat)] 42)).alloc (.cells #[.int .i64 0, .slice none 0 0, .slice none 0 0, .slice none 0 0, .slice none 0 0, .slice none 0 0, .slice none 0 0, .slice none 0 0, .string ⟨#[]⟩] 27)).alloc (.cells #[.int .i64 0] 3)).alloc (.cells #[.int .i64 0] 28) = wz from HZ.out.symm]
  go_cut [9, 10] from 25 to 31 (fun s9 s10 wx => ∃ bv br bo, s9 = .pointer (some ⟨bv, 0, none⟩) ∧ s10 = .pointer (some ⟨bo, 0, none⟩) ∧ AR w wx (hdA bin M nI nL nO nA nB nC) s bv br bo p (M : Int))
  case first =>
    have HH := Lib.hid (fun u (hK : Kp (fun j => w.heap.size + 4 ≤ j) wz u) => (HB.out.1.kp hK (by omega)).cell (i := 1) (v := .int .i64 (M : Nat)) rfl)
    have h1 := HH.out _ (Kp.refl _ _)
    have HW := Lib.hid (HB.out.2.2.2.1.lt)
    clear d1 d2 d3 hmf HZ
    go_region_held3 (fun u => u.cell? ⟨w.heap.size, 1, none⟩ = some (.int .i64 (M : Nat))) (exact HH.out _ (by repeat (with_reducible first | exact Kp.refl _ _ | apply Kp.alloc | apply Kp.drew))) (fail)
    all_goals go_wp2_with fail
    all_goals go_meet
    all_goals first
      | (refine ⟨_, wz.heap.size, _, rfl, rfl, ((HB.out.1.alloc _).alloc _).alloc _, ((HB.out.2.1.alloc _).alloc _).alloc _, ((HB.out.2.2.1.alloc _).alloc _).alloc _, ((HB.out.2.2.2.1.alloc _).alloc _).alloc _, ?_, ?_, ?_, ?_, (((HB.out.2.2.2.2.alloc _).alloc _).alloc _).drew⟩ <;> first | exact (asc_three _ _ _ _ _ _ _).1 | exact (asc_three _ _ _ _ _ _ _).2.1 | exact (asc_three _ _ _ _ _ _ _).2.2 | (have := HW.out; omega))
      | (refine ⟨_, wz.heap.size + 1, _, rfl, rfl, ((HB.out.1.alloc _).alloc _).alloc _, ((HB.out.2.1.alloc _).alloc _).alloc _, ((HB.out.2.2.1.alloc _).alloc _).alloc _, ((HB.out.2.2.2.1.alloc _).alloc _).alloc _, ?_, ?_, ?_, ?_, (((HB.out.2.2.2.2.alloc _).alloc _).alloc _).drew⟩ <;> first | exact (asc_three _ _ _ _ _ _ _).1 | exact (asc_three _ _ _ _ _ _ _).2.1 | exact (asc_three _ _ _ _ _ _ _).2.2 | (have := HW.out; omega))
      | (refine ⟨_, wz.heap.size + 1 + 1, _, rfl, rfl, ((HB.out.1.alloc _).alloc _).alloc _, ((HB.out.2.1.alloc _).alloc _).alloc _, ((HB.out.2.2.1.alloc _).alloc _).alloc _, ((HB.out.2.2.2.1.alloc _).alloc _).alloc _, ?_, ?_, ?_, ?_, (((HB.out.2.2.2.2.alloc _).alloc _).alloc _).drew⟩ <;> first | exact (asc_three _ _ _ _ _ _ _).1 | exact (asc_three _ _ _ _ _ _ _).2.1 | exact (asc_three _ _ _ _ _ _ _).2.2 | (have := HW.out; omega))
  case rest =>
  obtain ⟨bv, br, bo, rfl, rfl, hR⟩ := hcut
  have HX := Lib.hid hR.go
  have h2 : wc.cell? ⟨w.heap.size, 2, none⟩ = some (.int .i64 (nI : Nat)) := hR.h.cell rfl
  have l0 := hR.h.lt
  clear hR d1 d2 d3 HB HZ
  obtain ⟨I, tI, hI⟩ : ∃ I t, rdLits s (2 * (M : Int) + 1) nI [] (p, 0) = (I, t) := ⟨_, _, rfl⟩
  obtain ⟨q1, e1⟩ := tI
  have hq1 : q1 ≤ s.size := by have := rdLits_le (s := s) (top := 2 * (M : Int) + 1) (m := nI) (L := []) (st := (p, 0)) HNm.out.2.1; rw [hI] at this; exact this
  have HCall := Lib.hid (HLits.out nI p HNm.out.2.2.2.1 HNm.out.2.1 bv br wc.heap.size _ HX.out.l)
  rw [hI] at HCall
  have HI := Lib.hid hI
  clear hI
  have hws : (wc.alloc (.cells #[.func (Fn.func 67) #[] #[.pointer (some ⟨bv, 0, none⟩), .pointer (some ⟨w.heap.size, 0, none⟩)]] 126)).heap.size = wc.heap.size + 1 := by simp
  rw [hws] at HCall
  clear hws
  go_wp2_with fail
  refine HCall.out.mono ?_
  rintro o w1 ⟨hK1, ⟨he, v1, rfl, hO1, hL1⟩ | ⟨he, rfl⟩⟩
  rotate_left
  · simp only at he
    have HZ9 := Lib.hid (AS.stop HX.out (by first | exact Kp.refl _ _ | exact (Kp.refl _ _).drew) hK1)
    have HSt9 := Lib.hid (show R.2 = (q1, e1) by rw [← HR.out]; exact rdA_sI (t := (q1, e1)) (by rw [HI.out]) he)
    have HE9 := Lib.hid he
    clear hK1 he
    go_wp2_with fail
    refine leaves_cons (f := 30) (args := #[.pointer (some ⟨w.heap.size + 1 + 1, 0, none⟩), .pointer (some ⟨w.heap.size + 1 + 1 + 1, 0, none⟩)]) (by simp) (by simp [go_sem]) ?_
    refine (stopped_panicking (w.heap.size + 1 + 1) (w.heap.size + 1 + 1 + 1) _ _ _ _ [] _ (by omega) HZ9.out.1 HZ9.out.2.1).mono ?_
    rintro e u' w'' ⟨rfl, rfl, hA, hE, hK⟩
    exact asc_stop HSt9.out HE9.out (by rfl) (by rfl) (by rfl) HZ9.out.2.2.1 HZ9.out.2.2.2 hA hE hK _

  have HL := Lib.hid hL1
  simp only at he
  subst he
  have hx := HX.out.rd hK1 HL.out
  have c1 := hx.c.cell (i := 1) (v := .slice none 0 0) rfl
  have f1 := Blk.free hx.c 1
  have hl0 := hx.l.h.cell (i := 3) (v := .int .i64 (nL : Nat)) rfl
  have hne := hx.ne
  have nb : bo ≠ w.heap.size := by omega
  have nb2 : w.heap.size ≠ bo := by omega
  obtain ⟨ia, ic, ev, -⟩ := hO1.form
  rw [iv_length] at ev
  subst ev
  have HX1 := Lib.hid (hx.set 1 _ rfl ⟨hO1, hx.ls.l, hx.ls.o, hx.ls.d, hx.ls.n, hx.ls.g⟩)
  clear hx hK1 hL1 HX HCall h2 l0 hne hO1 HL
  go_upto_region 8 with fail
  obtain ⟨bl, hbl⟩ : ∃ bl, wc.heap.size = bl := ⟨_, rfl⟩
  have HBL := Lib.hid hbl
  rw [hbl] at HX1
  clear hbl
  go_cut [11, 12, 40, 41] from 32 to 41 (fun s11 s12 s40 s41 wx => ∃ vI, s11 = .pointer (some ⟨bl, 0, none⟩) ∧ s12 = .func (Fn.func 68) #[] #[.pointer (some ⟨bl, 0, none⟩)] ∧ s40 = .int .i64 (nL : Nat) ∧ s41 = .int .i64 0 ∧
    AS w wx (hdA bin M nI nL nO nA nB nC) s bv br bo bl (bl + 1) q1 (M : Int) vI (.slice none 0 0) (.slice none 0 0) (.slice none 0 0) (.slice none 0 0) (.slice none 0 0) I [] [] [] [] [])
  case first =>
    go_wp2_with fail
    go_meet
    case rel => exact ⟨_, by rw [← HBL.out], by rw [← HBL.out], rfl, rfl, HX1.out⟩
  case rest =>
  clear c1 f1 hl0 nb nb2 HX1 hmf HBL
  obtain ⟨vI, rfl, rfl, rfl, rfl, hX⟩ := hcut
  have HX := Lib.hid hX
  clear hX
  obtain ⟨wa, rfl⟩ : ∃ wa : World, wa = wc := ⟨_, rfl⟩
  go_wp2_with fail
  go_loopw [41] (fun v41 wr => ∃ (k : Nat) (L : List (Int × Int × Int)) (q : Nat) (vL : Value), v41 = .int .i64 k ∧ k ≤ nL ∧ L.length = k ∧ rdLatsA s (2 * (M : Int) + 1) nL [] (q1, 0) = rdLatsA s (2 * (M : Int) + 1) (nL - k) L (q, 0) ∧ q ≤ s.size ∧ AS w wr (hdA bin M nI nL nO nA nB nC) s bv br bo bl (bl + 1) q (M : Int) vI vL (.slice none 0 0) (.slice none 0 0) (.slice none 0 0) (.slice none 0 0) I L [] [] [] []) (fun v41 _ => nL - (intOf v41).toNat)
  case atStart => exact ⟨0, [], q1, _, rfl, by omega, rfl, rfl, hq1, HX.out⟩
  case round =>
    obtain ⟨k, L, q, vL, rfl, hk, hLn, hE, hq, hA⟩ := hrel
    obtain ⟨wp, rfl⟩ : ∃ wp : World, wp = wr := ⟨_, rfl⟩
    obtain ⟨la, lc, el, -⟩ := hA.ls.l.form
    rw [List.length_map] at el
    subst el
    have HA := Lib.hid hA
    have HLn := Lib.hid hLn
    have HQ := Lib.hid hq
    clear hA hLn hq
    have hbk : nL ≤ 16777216 := HNm.out.2.2.2.2.1
    by_cases hlt : k < nL
    · obtain ⟨j, hj⟩ : ∃ j, nL - k = j + 1 := ⟨nL - k - 1, by omega⟩
      have HJ := Lib.hid (show nL - (k + 1) = j by omega)
      rw [hj] at hE
      have HE := Lib.hid hE
      clear hE hj
      obtain ⟨n1, c1, p1, e1, hr1⟩ : ∃ n c z e, rdL s (2 * (M : Int) + 1) ok32 (q, 0) = (n, c, z, e) := ⟨_, _, _, _, rfl⟩
      have HR1 := Lib.hid hr1
      have HQ1 := Lib.hid (show p1 ≤ s.size by have := rdL_le (s := s) (top := 2 * (M : Int) + 1) (ok := ok32) (st := (q, 0)) HQ.out; rw [hr1] at this; exact this)
      clear hr1
      have l1 := HA.out.l.l.lt
      have l2 := HA.out.l.v.lt
      have l3 := HA.out.l.r.lt
      have l4 := HA.out.c.lt
      have l5 := HA.out.l.h.lt
      have HA0 := Lib.hid (HA.out.kp0 ((Kp.refl _ wp).alloc (.cells #[.int .i64 0, .int .i64 0, .int .i64 0] 59)))
      have HX0 := Lib.hid (Blk.new wp #[.int .i64 0, .int .i64 0, .int .i64 0] 59)
      have HC1 := Lib.hid (HLit.out ⟨#[32]⟩ ok32 idx32 q HQ.out bv br bl _ HA0.out.l)
      rw [HR1.out] at HC1
      have yy := HA0.out.l.l.cells1.1
      go_wp2_with fail
      refine HC1.out.mono ?_
      rintro o w1 ⟨hK1, ⟨he, rfl, hL1⟩ | ⟨he, rfl⟩⟩
      rotate_left
      · simp only at he
        clear yy
        have HZ9 := Lib.hid (AS.stop HA0.out (by first | exact Kp.refl _ _ | exact (Kp.refl _ _).drew) hK1)
        have HSt9 := Lib.hid (show R.2 = (p1, e1) by rw [← HR.out]; exact rdA_sL (t := (p1, e1)) HI.out (by rw [HE.out]; exact rdLatsA_s1 HR1.out he) he)
        have HE9 := Lib.hid he
        clear hK1 he
        go_wp2_with fail
        refine leaves_cons (f := 30) (args := #[.pointer (some ⟨w.heap.size + 1 + 1, 0, none⟩), .pointer (some ⟨w.heap.size + 1 + 1 + 1, 0, none⟩)]) (by simp) (by simp [go_sem]) ?_
        refine (stopped_panicking (w.heap.size + 1 + 1) (w.heap.size + 1 + 1 + 1) _ _ _ _ [] _ (by omega) HZ9.out.1 HZ9.out.2.1).mono ?_
        rintro e u' w'' ⟨rfl, rfl, hA, hE, hK⟩
        exact asc_stop HSt9.out HE9.out (by rfl) (by rfl) (by rfl) HZ9.out.2.2.1 HZ9.out.2.2.2 hA hE hK _
      simp only at he
      subst he
      have HA1 := Lib.hid (HA0.out.rd hK1 hL1)
      have HX1 := Lib.hid (HX0.out.kp hK1 (by have := HA.out.l.r.lt; omega))
      have x0 := HX1.out.cell (i := 0) (v := .int .i64 0) rfl
      have f0 := HX1.out.free 0
      have HA1s := Lib.hid (AS.fresh HA.out HA1.out (Kp.set w1 ⟨wp.heap.size, 0, none⟩ (.int .i64 (n1 : Nat))) (fun j e => Nat.le_of_eq e.symm))
      have HX1s := Lib.hid (show Blk (w1.setCell ⟨wp.heap.size, 0, none⟩ (.int .i64 (n1 : Nat))) wp.heap.size #[.int .i64 (n1 : Nat), .int .i64 0, .int .i64 0] 59 from HX1.out.set_same 0 _)
      clear hK1 hL1 HC1 HA1 HX1 yy
      obtain ⟨n2, c2, p2, e2, hr2⟩ : ∃ n c z e, rdL s (2 * (M : Int) + 1) okB (p1, 0) = (n, c, z, e) := ⟨_, _, _, _, rfl⟩
      have HR2 := Lib.hid hr2
      have HQ2 := Lib.hid (show p2 ≤ s.size by have := rdL_le (s := s) (top := 2 * (M : Int) + 1) (ok := okB) (st := (p1, 0)) HQ1.out; rw [hr2] at this; exact this)
      clear hr2
      have HC2 := Lib.hid (HLit.out ⟨#[32, 10]⟩ okB idx3210 p1 HQ1.out bv br bl _ HA1s.out.l)
      rw [HR2.out] at HC2
      have yy := HA1s.out.l.l.cells1.1
      go_wp2_with fail
      refine HC2.out.mono ?_
      rintro o w2 ⟨hK2, ⟨he, rfl, hL2⟩ | ⟨he, rfl⟩⟩
      rotate_left
      · simp only at he
        clear yy
        have HZ9 := Lib.hid (AS.stop HA1s.out (by first | exact Kp.refl _ _ | exact (Kp.refl _ _).drew) hK2)
        have HSt9 := Lib.hid (show R.2 = (p2, e2) by rw [← HR.out]; exact rdA_sL (t := (p2, e2)) HI.out (by rw [HE.out]; exact rdLatsA_s2 HR1.out HR2.out he) he)
        have HE9 := Lib.hid he
        clear hK2 he
        go_wp2_with fail
        refine leaves_cons (f := 30) (args := #[.pointer (some ⟨w.heap.size + 1 + 1, 0, none⟩), .pointer (some ⟨w.heap.size + 1 + 1 + 1, 0, none⟩)]) (by simp) (by simp [go_sem]) ?_
        refine (stopped_panicking (w.heap.size + 1 + 1) (w.heap.size + 1 + 1 + 1) _ _ _ _ [] _ (by omega) HZ9.out.1 HZ9.out.2.1).mono ?_
        rintro e u' w'' ⟨rfl, rfl, hA, hE, hK⟩
        exact asc_stop HSt9.out HE9.out (by rfl) (by rfl) (by rfl) HZ9.out.2.2.1 HZ9.out.2.2.2 hA hE hK _
      simp only at he
      subst he
      have HA2 := Lib.hid (HA1s.out.rd hK2 hL2)
      have HX2 := Lib.hid (HX1s.out.kp hK2 (by have := HA.out.l.r.lt; omega))
      have x1 := HX2.out.cell (i := 1) (v := .int .i64 0) rfl
      have f1 := HX2.out.free 1
      have HA2s := Lib.hid (AS.fresh HA.out HA2.out (Kp.set w2 ⟨wp.heap.size, 1, none⟩ (.int .i64 (n2 : Nat))) (fun j e => Nat.le_of_eq e.symm))
      have HX2s := Lib.hid (show Blk (w2.setCell ⟨wp.heap.size, 1, none⟩ (.int .i64 (n2 : Nat))) wp.heap.size #[.int .i64 (n1 : Nat), .int .i64 (n2 : Nat), .int .i64 0] 59 from HX2.out.set_same 1 _)
      clear hK2 hL2 HC2 HA2 HX2 yy
      by_cases hc : c2 = 32
      · subst hc
        obtain ⟨n3, c3, p3, e3, hr3⟩ : ∃ n c z e, rdL s (2 * (M : Int) + 1) ok10 (p2, 0) = (n, c, z, e) := ⟨_, _, _, _, rfl⟩
        have HR3 := Lib.hid hr3
        have HQ3 := Lib.hid (show p3 ≤ s.size by have := rdL_le (s := s) (top := 2 * (M : Int) + 1) (ok := ok10) (st := (p2, 0)) HQ2.out; rw [hr3] at this; exact this)
        clear hr3
        have HC3 := Lib.hid (HLit.out ⟨#[10]⟩ ok10 idx10 p2 HQ2.out bv br bl _ HA2s.out.l)
        rw [HR3.out] at HC3
        have yy := HA2s.out.l.l.cells1.1
        go_wp2_with fail
        refine HC3.out.mono ?_
        rintro o w3 ⟨hK3, ⟨he, rfl, hL3⟩ | ⟨he, rfl⟩⟩
        rotate_left
        · simp only at he
          clear yy
          have HZ9 := Lib.hid (AS.stop HA2s.out (by first | exact Kp.refl _ _ | exact (Kp.refl _ _).drew) hK3)
          have HSt9 := Lib.hid (show R.2 = (p3, e3) by rw [← HR.out]; exact rdA_sL (t := (p3, e3)) HI.out (by rw [HE.out]; exact rdLatsA_s3 HR1.out HR2.out rfl rfl HR3.out he) he)
          have HE9 := Lib.hid he
          clear hK3 he
          go_wp2_with fail
          refine leaves_cons (f := 30) (args := #[.pointer (some ⟨w.heap.size + 1 + 1, 0, none⟩), .pointer (some ⟨w.heap.size + 1 + 1 + 1, 0, none⟩)]) (by simp) (by simp [go_sem]) ?_
          refine (stopped_panicking (w.heap.size + 1 + 1) (w.heap.size + 1 + 1 + 1) _ _ _ _ [] _ (by omega) HZ9.out.1 HZ9.out.2.1).mono ?_
          rintro e u' w'' ⟨rfl, rfl, hA, hE, hK⟩
          exact asc_stop HSt9.out HE9.out (by rfl) (by rfl) (by rfl) HZ9.out.2.2.1 HZ9.out.2.2.2 hA hE hK _
        simp only at he
        subst he
        have HA3 := Lib.hid (HA2s.out.rd hK3 hL3)
        have HX3 := Lib.hid (HX2s.out.kp hK3 (by have := HA.out.l.r.lt; omega))
        have x2 := HX3.out.cell (i := 2) (v := .int .i64 0) rfl
        have f2 := HX3.out.free 2
        have HA3s := Lib.hid (AS.fresh HA.out HA3.out (Kp.set w3 ⟨wp.heap.size, 2, none⟩ (.int .i64 (n3 : Nat))) (fun j e => Nat.le_of_eq e.symm))
        have HX3s := Lib.hid (show Blk (w3.setCell ⟨wp.heap.size, 2, none⟩ (.int .i64 (n3 : Nat))) wp.heap.size #[.int .i64 (n1 : Nat), .int .i64 (n2 : Nat), .int .i64 (n3 : Nat)] 59 from HX3.out.set_same 2 _)
        clear hK3 hL3 HC3 HA3 HX3 yy
        obtain ⟨wx, hwx⟩ : ∃ wx, wx = w3.setCell ⟨wp.heap.size, 2, none⟩ (.int .i64 (n3 : Nat)) := ⟨_, rfl⟩
        rw [← hwx] at HA3s HX3s
        have HWx := Lib.hid hwx
        clear hwx
        go_upto_region 15 with fail
        rw [← HWx.out]
        clear HWx
        have z0 := HX3s.out.cell (i := 0) (v := .int .i64 (n1 : Nat)) rfl
        have z1 := HX3s.out.cell (i := 1) (v := .int .i64 (n2 : Nat)) rfl
        have z2 := HX3s.out.cell (i := 2) (v := .int .i64 (n3 : Nat)) rfl
        have o2 := HA3s.out.c.cell (i := 2) (v := .slice la L.length lc) rfl
        have lo := HA3s.out.c.lt
        have HNew := Lib.hid (Blk.new wx #[.int .i64 (n1 : Nat), .int .i64 (n2 : Nat), .int .i64 (n3 : Nat)] 59)
        have HB8 := Lib.hid (HA3s.out.kp0 ((Kp.refl _ wx).alloc (.cells #[.int .i64 (n1 : Nat), .int .i64 (n2 : Nat), .int .i64 (n3 : Nat)] 59)))
        go_wp2_with (at_builtin; refine wpList_appendK rfl _ _ 23 59 rfl Tryz.underlying23 HIl.out rfl (by decide) HB8.out.ls.l rfl wx.heap.size [.int .i64 (n1 : Nat), .int .i64 (n2 : Nat), .int .i64 (n3 : Nat)] rfl rfl ?n0 ?m0 ?n1 ?n2 ?n3 ?_)
        case n0 => exact fun j u hj => HNew.out.cell (i := j) (by simpa using hj)
        case m0 => intro u hu; simp at hu; rcases hu with rfl | rfl | rfl <;> rfl
        case n1 => rw [List.length_map, HLn.out]; have := HNm.out; omega
        case n2 => rw [List.length_map, HLn.out]; have := HNm.out; unfold maxLen; omega
        case n3 => exact HB8.out.hi.2.2.2.2
        intro v' w9 hO9 hg9 hat9
        have hk9 : Kp (fun j => (.slice la L.length lc : Value).ownBlock = some j) _ w9 := (Kp.refl _ _).grown hg9 (fun j hj _ => hj)
        have hput := HB8.out.grown (L' := L ++ [((n1 : Int), (n2 : Int), (n3 : Int))]) hg9 (by rw [List.map_append]; exact hO9)
        have hcb := HB8.out.c.kp hk9 (fun h => by have := (HB8.out.ls.l.lt _ h).1; have := HB8.out.hi.2.2.1; omega)
        obtain ⟨la', lc', ev, -⟩ := hO9.form
        rw [List.length_append, List.length_map, List.length_singleton] at ev
        subst ev
        have o2 := hcb.cell (i := 2) (v := .slice la L.length lc) rfl
        have f2 := hcb.free 2
        have HF := Lib.hid hput
        clear hO9 hg9 hat9 hk9 hput hcb HNew HB8 z0 z1 z2
        go_wp2_with fail
        go_roundw
        case rel => exact ⟨k + 1, L ++ [((n1 : Int), (n2 : Int), (n3 : Int))], p3, _, by go_num, by omega, by rw [List.length_append, HLn.out]; rfl, by rw [HJ.out, HE.out]; exact rdLatsA_g3 HR1.out HR2.out rfl rfl HR3.out rfl, HQ3.out, HF.out⟩
        case measure => simp [intOf]; omega
      · have hcq : ((c2 : Int) == 32) = false := by rw [beq_eq_false_iff_ne]; omega
        have HCn := Lib.hid hc
        clear hc
        obtain ⟨wx, hwx⟩ : ∃ wx, wx = w2.setCell ⟨wp.heap.size, 1, none⟩ (.int .i64 (n2 : Nat)) := ⟨_, rfl⟩
        rw [← hwx] at HA2s HX2s
        have HWx := Lib.hid hwx
        clear hwx
        go_upto_region 15 with fail
        rw [← HWx.out]
        clear HWx
        have z0 := HX2s.out.cell (i := 0) (v := .int .i64 (n1 : Nat)) rfl
        have z1 := HX2s.out.cell (i := 1) (v := .int .i64 (n2 : Nat)) rfl
        have z2 := HX2s.out.cell (i := 2) (v := .int .i64 0) rfl
        have o2 := HA2s.out.c.cell (i := 2) (v := .slice la L.length lc) rfl
        have lo := HA2s.out.c.lt
        have HNew := Lib.hid (Blk.new wx #[.int .i64 (n1 : Nat), .int .i64 (n2 : Nat), .int .i64 0] 59)
        have HB8 := Lib.hid (HA2s.out.kp0 ((Kp.refl _ wx).alloc (.cells #[.int .i64 (n1 : Nat), .int .i64 (n2 : Nat), .int .i64 0] 59)))
        go_wp2_with (at_builtin; refine wpList_appendK rfl _ _ 23 59 rfl Tryz.underlying23 HIl.out rfl (by decide) HB8.out.ls.l rfl wx.heap.size [.int .i64 (n1 : Nat), .int .i64 (n2 : Nat), .int .i64 0] rfl rfl ?n0 ?m0 ?n1 ?n2 ?n3 ?_)
        case n0 => exact fun j u hj => HNew.out.cell (i := j) (by simpa using hj)
        case m0 => intro u hu; simp at hu; rcases hu with rfl | rfl | rfl <;> rfl
        case n1 => rw [List.length_map, HLn.out]; have := HNm.out; omega
        case n2 => rw [List.length_map, HLn.out]; have := HNm.out; unfold maxLen; omega
        case n3 => exact HB8.out.hi.2.2.2.2
        intro v' w9 hO9 hg9 hat9
        have hk9 : Kp (fun j => (.slice la L.length lc : Value).ownBlock = some j) _ w9 := (Kp.refl _ _).grown hg9 (fun j hj _ => hj)
        have hput := HB8.out.grown (L' := L ++ [((n1 : Int), (n2 : Int), 0)]) hg9 (by rw [List.map_append]; exact hO9)
        have hcb := HB8.out.c.kp hk9 (fun h => by have := (HB8.out.ls.l.lt _ h).1; have := HB8.out.hi.2.2.1; omega)
        obtain ⟨la', lc', ev, -⟩ := hO9.form
        rw [List.length_append, List.length_map, List.length_singleton] at ev
        subst ev
        have o2 := hcb.cell (i := 2) (v := .slice la L.length lc) rfl
        have f2 := hcb.free 2
        have HF := Lib.hid hput
        clear hO9 hg9 hat9 hk9 hput hcb HNew HB8 z0 z1 z2
        go_wp2_with fail
        go_roundw
        case rel => exact ⟨k + 1, L ++ [((n1 : Int), (n2 : Int), 0)], p2, _, by go_num, by omega, by rw [List.length_append, HLn.out]; rfl, by rw [HJ.out, HE.out]; exact rdLatsA_g2 HR1.out HR2.out rfl HCn.out, HQ2.out, HF.out⟩
        case measure => simp [intOf]; omega
    · obtain rfl : nL = k := by omega
      rw [Nat.sub_self] at hE
      have HLt := Lib.hid (show rdLatsA s (2 * (M : Int) + 1) nL [] (q1, 0) = (L, (q, 0)) from hE)
      clear hE hlt hk HLn
      obtain ⟨O, tO, hO⟩ : ∃ O t, rdLits s (2 * (M : Int) + 1) nO [] (q, 0) = (O, t) := ⟨_, _, rfl⟩
      obtain ⟨q3, e3⟩ := tO
      obtain ⟨D, tD, hD⟩ : ∃ O t, rdLits s (2 * (M : Int) + 1) nB [] (q3, 0) = (O, t) := ⟨_, _, rfl⟩
      obtain ⟨q4, e4⟩ := tD
      obtain ⟨N, tN, hN⟩ : ∃ O t, rdLits s (2 * (M : Int) + 1) nC [] (q4, 0) = (O, t) := ⟨_, _, rfl⟩
      obtain ⟨q5, e9⟩ := tN
      have hq3 : q3 ≤ s.size := by have := rdLits_le (s := s) (top := 2 * (M : Int) + 1) (m := nO) (L := []) (st := (q, 0)) HQ.out; rw [hO] at this; exact this
      have hq4 : q4 ≤ s.size := by have := rdLits_le (s := s) (top := 2 * (M : Int) + 1) (m := nB) (L := []) (st := (q3, 0)) hq3; rw [hD] at this; exact this
      have hq5 : q5 ≤ s.size := by have := rdLits_le (s := s) (top := 2 * (M : Int) + 1) (m := nC) (L := []) (st := (q4, 0)) hq4; rw [hN] at this; exact this
      have HLitsO := Lib.hid (fun (u : World) (hL : LB (hdA bin M nI nL nO nA nB nC) s bv w.heap.size br bl u q) => HLits.out nO q HNm.out.2.2.2.2.2.1 HQ.out bv br bl u hL)
      have HLitsB := Lib.hid (fun (u : World) (hL : LB (hdA bin M nI nL nO nA nB nC) s bv w.heap.size br bl u q3) => HLits.out nB q3 HNm.out.2.2.2.2.2.2.2.1 hq3 bv br bl u hL)
      have HLitsC := Lib.hid (fun (u : World) (hL : LB (hdA bin M nI nL nO nA nB nC) s bv w.heap.size br bl u q4) => HLits.out nC q4 HNm.out.2.2.2.2.2.2.2.2 hq4 bv br bl u hL)
      rw [hO] at HLitsO
      rw [hD] at HLitsB
      rw [hN] at HLitsC
      have HO := Lib.hid hO
      have HD := Lib.hid hD
      have HN := Lib.hid hN
      have HQ5 := Lib.hid hq5
      clear hO hD hN hq3 hq4 hq5 hq1
      go_upto_region 17 with fail
      go_cut [] from 71 to 85 (fun wx => ∃ oa oc da dc na nc, e3 = 0 ∧ e4 = 0 ∧ e9 = 0 ∧ AS w wx (hdA bin M nI nL nO nA nB nC) s bv br bo bl (bl + 1) q5 (M : Int) vI (.slice la L.length lc) (.slice oa O.length oc) (.slice da D.length dc) (.slice na N.length nc) (.slice none 0 0) I L O D N [])
      case first =>
        refine wp_region_looseP (p := (inL [0, 1, 2, 3, 4, 5, 6, 7, 8, 9, 10, 11, 12, 13, 14, 15, 16, 17])) (V := atV [EqV (.func (Fn.func 68) #[] #[.pointer (some ⟨bl, 0, none⟩)]), EqV (.pointer (some ⟨w.heap.size, 4, none⟩)), EqV (.int .i64 (nO : Nat)), AnyV, EqV (.func (Fn.func 68) #[] #[.pointer (some ⟨bl, 0, none⟩)]), EqV (.pointer (some ⟨w.heap.size, 6, none⟩)), EqV (.int .i64 (nB : Nat)), AnyV, EqV (.func (Fn.func 68) #[] #[.pointer (some ⟨bl, 0, none⟩)]), EqV (.pointer (some ⟨w.heap.size, 7, none⟩)), EqV (.int .i64 (nC : Nat)), AnyV, EqV (.pointer (some ⟨bo, 3, none⟩)), AnyV, EqV (.pointer (some ⟨bo, 4, none⟩)), AnyV, EqV (.pointer (some ⟨bo, 5, none⟩)), AnyV]) (R := (fun _ _ => True)) (W := (WR w (hdA bin M nI nL nO nA nB nC) s bv br bo bl (bl + 1) q q3 q4 q5 e3 e4 e9 (M : Int) vI (.slice la L.length lc) I L O D N)) (c := (inL [3, 7, 11, 13, 15, 17])) (LP := #[true, true, true, true, true, true, true, true, true, true, true, true, true, true, true, true, true, true]) (K := 0) (N := 6) (by kernel_rfl) (by kernel_rfl) (by kernel_rfl) trivial HA.out.drew (fun _ _ _ _ _ => trivial) (atV_stR ?hstR17) ?hstepR17 (by kernel_rfl) ?hLPR17 (by kernel_rfl) (by kernel_rfl) ?hendR17
        case hstR17 =>
          intro V h
          simp only [List.mem_cons, List.not_mem_nil, or_false] at h
          rcases h with rfl | rfl | rfl | rfl | rfl | rfl | rfl | rfl | rfl | rfl | rfl | rfl | rfl | rfl | rfl | rfl | rfl | rfl <;> intro u u' v k h <;> first | exact h | exact trivial | exact EqV.st _
        case hLPR17 => exact pOf_spec (by kernel_rfl)
        case hstepR17 =>
          intro i o ho hp vs a u hk hw hn hub htold hoff hdep hsz hdf
          have e6 : a.tmps[6]?.getD undef = (.pointer (some ⟨w.heap.size + 1, 0, none⟩)) := slot_at (hoff 6 (noDst_spec (by kernel_rfl)))
          have e7 : a.tmps[7]?.getD undef = (.pointer (some ⟨w.heap.size + 1 + 1, 0, none⟩)) := slot_at (hoff 7 (noDst_spec (by kernel_rfl)))
          have e8 : a.tmps[8]?.getD undef = (.pointer (some ⟨w.heap.size + 1 + 1 + 1, 0, none⟩)) := slot_at (hoff 8 (noDst_spec (by kernel_rfl)))
          clear hsz
          have e5 : a.tmps[5]?.getD undef = (.pointer (some ⟨w.heap.size, 0, none⟩)) := slot_at (hoff 5 (noDst_spec (by kernel_rfl)))
          have e10 : a.tmps[10]?.getD undef = (.pointer (some ⟨bo, 0, none⟩)) := slot_at (hoff 10 (noDst_spec (by kernel_rfl)))
          have e12 : a.tmps[12]?.getD undef = (.func (Fn.func 68) #[] #[.pointer (some ⟨bl, 0, none⟩)]) := slot_at (hoff 12 (noDst_spec (by kernel_rfl)))
          clear hoff
          match i, ho with
          | 0, ho =>
            obtain rfl := Option.some.inj ho
            show LS _ _ _ _ _ _ _ false _ _ _ _
            clear hn
            refine lsn_value (v := .func (Fn.func 68) #[] #[.pointer (some ⟨bl, 0, none⟩)]) (u' := u) rfl ?_ trivial hw rfl
            go_simp
          | 1, ho =>
            obtain rfl := Option.some.inj ho
            show LS _ _ _ _ _ _ _ false _ _ _ _
            clear hn
            refine lsn_value (v := .pointer (some ⟨w.heap.size, 4, none⟩)) (u' := u) rfl ?_ trivial hw rfl
            go_simp
          | 2, ho =>
            obtain rfl := Option.some.inj ho
            show LS _ _ _ _ _ _ _ false _ _ _ _
            clear hn
            have e72 : a.tmps[72]?.getD undef = .pointer (some ⟨w.heap.size, 4, none⟩) := slot_at (hdep ⟨1, .data⟩ (by simp) rfl _ 72 rfl rfl)
            have c1 := (WR_h hw).cell (i := 4) (v := .int .i64 (nO : Nat)) rfl
            refine lsn_value (v := .int .i64 (nO : Nat)) (u' := u) rfl ?_ trivial hw rfl
            go_simp
          | 3, ho =>
            obtain rfl := Option.some.inj ho
            have hlen : vs.length = 0 := (hn rfl).trans (by kernel_rfl)
            obtain rfl : vs = [] := List.eq_nil_of_length_eq_zero hlen
            show LS _ _ _ _ _ _ _ true _ _ _ _
            clear hn
            have e71 : a.tmps[71]?.getD undef = .func (Fn.func 68) #[] #[.pointer (some ⟨bl, 0, none⟩)] := slot_at (hdep ⟨0, .data⟩ (by simp) rfl _ 71 rfl rfl)
            have e73 : a.tmps[73]?.getD undef = .int .i64 (nO : Nat) := slot_at (hdep ⟨2, .data⟩ (by simp) rfl _ 73 rfl rfl)
            have hb := hw
            refine lsn_callP (f := 68) (args := #[.int .i64 (nO : Nat), .pointer (some ⟨bl, 0, none⟩)]) rfl ?_ ?_
            · go_simp
            · refine (HLitsO.out u hb.l).mono ?_
              rintro e u' ⟨hK, ⟨he, v, rfl, hO, hL⟩ | ⟨he, rfl⟩⟩
              · have hbB : ∀ j, j = br → j < bl + 1 := fun j e => by have := hb.hi.2.1; omega
                exact .inl ⟨v, rfl, trivial, ⟨he, hO.mono hb.hi.2.2.2.2, hb.rd hK hL⟩, trivial⟩
              · refine .inr ⟨_, rfl, ?_⟩
                have hst : R.2 = (q3, e3) := by rw [← HR.out]; exact rdA_sO (t := (q3, e3)) HI.out HLt.out (by rw [HO.out]) he
                have hz := AS.stop hb (Kp.refl _ _) hK
                show Leaves _ _ a.tmps _ a.defers (.panicking _) u'
                rw [hdf]
                refine leaves_cons (f := 30) (args := #[.pointer (some ⟨w.heap.size + 1 + 1, 0, none⟩), .pointer (some ⟨w.heap.size + 1 + 1 + 1, 0, none⟩)]) (by simp) (by simp [go_sem]) ?_
                refine (stopped_panicking (w.heap.size + 1 + 1) (w.heap.size + 1 + 1 + 1) _ _ _ _ [] _ (by omega) hz.1 hz.2.1).mono ?_
                rintro e u9 w9 ⟨rfl, rfl, hA, hE, hK2⟩
                exact asc_stop hst he (slot_some e6) (slot_some e7) (slot_some e8) hz.2.2.1 hz.2.2.2 hA hE hK2 _
          | 4, ho =>
            obtain rfl := Option.some.inj ho
            show LS _ _ _ _ _ _ _ false _ _ _ _
            clear hn
            refine lsn_value (v := .func (Fn.func 68) #[] #[.pointer (some ⟨bl, 0, none⟩)]) (u' := u) rfl ?_ trivial hw rfl
            go_simp
          | 5, ho =>
            obtain rfl := Option.some.inj ho
            show LS _ _ _ _ _ _ _ false _ _ _ _
            clear hn
            refine lsn_value (v := .pointer (some ⟨w.heap.size, 6, none⟩)) (u' := u) rfl ?_ trivial hw rfl
            go_simp
          | 6, ho =>
            obtain rfl := Option.some.inj ho
            show LS _ _ _ _ _ _ _ false _ _ _ _
            clear hn
            have e76 : a.tmps[76]?.getD undef = .pointer (some ⟨w.heap.size, 6, none⟩) := slot_at (hdep ⟨5, .data⟩ (by simp) rfl _ 76 rfl rfl)
            have c1 := (WR_h hw).cell (i := 6) (v := .int .i64 (nB : Nat)) rfl
            refine lsn_value (v := .int .i64 (nB : Nat)) (u' := u) rfl ?_ trivial hw rfl
            go_simp
          | 7, ho =>
            obtain rfl := Option.some.inj ho
            have hlen : vs.length = 1 := (hn rfl).trans (by kernel_rfl)
            obtain ⟨r0, rfl⟩ := vs_list1 hlen
            show LS _ _ _ _ _ _ _ true _ _ _ _
            clear hn
            have e75 : a.tmps[75]?.getD undef = .func (Fn.func 68) #[] #[.pointer (some ⟨bl, 0, none⟩)] := slot_at (hdep ⟨4, .data⟩ (by simp) rfl _ 75 rfl rfl)
            have e77 : a.tmps[77]?.getD undef = .int .i64 (nB : Nat) := slot_at (hdep ⟨6, .data⟩ (by simp) rfl _ 77 rfl rfl)
            obtain ⟨rfl, h0, hb⟩ := hw
            refine lsn_callP (f := 68) (args := #[.int .i64 (nB : Nat), .pointer (some ⟨bl, 0, none⟩)]) rfl ?_ ?_
            · go_simp
            · refine (HLitsB.out u hb.l).mono ?_
              rintro e u' ⟨hK, ⟨he, v, rfl, hO, hL⟩ | ⟨he, rfl⟩⟩
              · have hbB : ∀ j, j = br → j < bl + 1 := fun j e => by have := hb.hi.2.1; omega
                exact .inl ⟨v, rfl, trivial, ⟨⟨rfl, he⟩, h0.low hK hbB, hO.mono hb.hi.2.2.2.2, hb.rd hK hL⟩, trivial⟩
              · refine .inr ⟨_, rfl, ?_⟩
                have hst : R.2 = (q4, e4) := by rw [← HR.out]; exact rdA_sB (t := (q4, e4)) HI.out HLt.out HO.out (by rw [HD.out]) he
                have hz := AS.stop hb (Kp.refl _ _) hK
                show Leaves _ _ a.tmps _ a.defers (.panicking _) u'
                rw [hdf]
                refine leaves_cons (f := 30) (args := #[.pointer (some ⟨w.heap.size + 1 + 1, 0, none⟩), .pointer (some ⟨w.heap.size + 1 + 1 + 1, 0, none⟩)]) (by simp) (by simp [go_sem]) ?_
                refine (stopped_panicking (w.heap.size + 1 + 1) (w.heap.size + 1 + 1 + 1) _ _ _ _ [] _ (by omega) hz.1 hz.2.1).mono ?_
                rintro e u9 w9 ⟨rfl, rfl, hA, hE, hK2⟩
                exact asc_stop hst he (slot_some e6) (slot_some e7) (slot_some e8) hz.2.2.1 hz.2.2.2 hA hE hK2 _
          | 8, ho =>
            obtain rfl := Option.some.inj ho
            show LS _ _ _ _ _ _ _ false _ _ _ _
            clear hn
            refine lsn_value (v := .func (Fn.func 68) #[] #[.pointer (some ⟨bl, 0, none⟩)]) (u' := u) rfl ?_ trivial hw rfl
            go_simp
          | 9, ho =>
            obtain rfl := Option.some.inj ho
            show LS _ _ _ _ _ _ _ false _ _ _ _
            clear hn
            refine lsn_value (v := .pointer (some ⟨w.heap.size, 7, none⟩)) (u' := u) rfl ?_ trivial hw rfl
            go_simp
          | 10, ho =>
            obtain rfl := Option.some.inj ho
            show LS _ _ _ _ _ _ _ false _ _ _ _
            clear hn
            have e80 : a.tmps[80]?.getD undef = .pointer (some ⟨w.heap.size, 7, none⟩) := slot_at (hdep ⟨9, .data⟩ (by simp) rfl _ 80 rfl rfl)
            have c1 := (WR_h hw).cell (i := 7) (v := .int .i64 (nC : Nat)) rfl
            refine lsn_value (v := .int .i64 (nC : Nat)) (u' := u) rfl ?_ trivial hw rfl
            go_simp
          | 11, ho =>
            obtain rfl := Option.some.inj ho
            have hlen : vs.length = 2 := (hn rfl).trans (by kernel_rfl)
            obtain ⟨r0, r1, rfl⟩ := vs_list2 hlen
            show LS _ _ _ _ _ _ _ true _ _ _ _
            clear hn
            have e79 : a.tmps[79]?.getD undef = .func (Fn.func 68) #[] #[.pointer (some ⟨bl, 0, none⟩)] := slot_at (hdep ⟨8, .data⟩ (by simp) rfl _ 79 rfl rfl)
            have e81 : a.tmps[81]?.getD undef = .int .i64 (nC : Nat) := slot_at (hdep ⟨10, .data⟩ (by simp) rfl _ 81 rfl rfl)
            obtain ⟨⟨rfl, rfl⟩, h0, h1, hb⟩ := hw
            refine lsn_callP (f := 68) (args := #[.int .i64 (nC : Nat), .pointer (some ⟨bl, 0, none⟩)]) rfl ?_ ?_
            · go_simp
            · refine (HLitsC.out u hb.l).mono ?_
              rintro e u' ⟨hK, ⟨he, v, rfl, hO, hL⟩ | ⟨he, rfl⟩⟩
              · have hbB : ∀ j, j = br → j < bl + 1 := fun j e => by have := hb.hi.2.1; omega
                exact .inl ⟨v, rfl, trivial, ⟨⟨rfl, rfl, he⟩, h0.low hK hbB, h1.low hK hbB, hO.mono hb.hi.2.2.2.2, hb.rd hK hL⟩, trivial⟩
              · refine .inr ⟨_, rfl, ?_⟩
                have hst : R.2 = (q5, e9) := by rw [← HR.out]; exact rdA_sC (t := (q5, e9)) HI.out HLt.out HO.out HD.out (by rw [HN.out]) he
                have hz := AS.stop hb (Kp.refl _ _) hK
                show Leaves _ _ a.tmps _ a.defers (.panicking _) u'
                rw [hdf]
                refine leaves_cons (f := 30) (args := #[.pointer (some ⟨w.heap.size + 1 + 1, 0, none⟩), .pointer (some ⟨w.heap.size + 1 + 1 + 1, 0, none⟩)]) (by simp) (by simp [go_sem]) ?_
                refine (stopped_panicking (w.heap.size + 1 + 1) (w.heap.size + 1 + 1 + 1) _ _ _ _ [] _ (by omega) hz.1 hz.2.1).mono ?_
                rintro e u9 w9 ⟨rfl, rfl, hA, hE, hK2⟩
                exact asc_stop hst he (slot_some e6) (slot_some e7) (slot_some e8) hz.2.2.1 hz.2.2.2 hA hE hK2 _
          | 12, ho =>
            obtain rfl := Option.some.inj ho
            show LS _ _ _ _ _ _ _ false _ _ _ _
            clear hn
            refine lsn_value (v := .pointer (some ⟨bo, 3, none⟩)) (u' := u) rfl ?_ trivial hw rfl
            go_simp
          | 13, ho =>
            obtain rfl := Option.some.inj ho
            have hlen : vs.length = 3 := (hn rfl).trans (by kernel_rfl)
            obtain ⟨r0, r1, r2, rfl⟩ := vs_list3 hlen
            show LS _ _ _ _ _ _ _ true _ _ _ _
            clear hn
            have e74 : a.tmps[74]?.getD undef = r0 := slot_at (htold 3 _ 74 ⟨⟨3, .data⟩, by simp, rfl, rfl⟩ rfl rfl rfl)
            have e83 : a.tmps[83]?.getD undef = .pointer (some ⟨bo, 3, none⟩) := slot_at (hdep ⟨12, .data⟩ (by simp) rfl _ 83 rfl rfl)
            obtain ⟨he, h0, h1, h2, hb⟩ := hw
            obtain ⟨ra, rc, rfl, -⟩ := h0.form
            have c1 := hb.c.cell (i := 3) (v := .slice none 0 0) rfl
            have f1 := Blk.free hb.c 3
            have hcB : ∀ j, j = bo → j < bl + 1 := fun j e => by have := hb.hi.2.2.1; omega
            have kc := Kp.set u ⟨bo, 3, none⟩ (.slice ra (iv O).length rc)
            refine lsn_skip (u' := u.setCell ⟨bo, 3, none⟩ (.slice ra (iv O).length rc)) rfl ?_ trivial ⟨he, h1.low kc hcB, h2.low kc hcB, hb.set 3 _ rfl ⟨hb.ls.i, hb.ls.l, h0, hb.ls.d, hb.ls.n, hb.ls.g⟩⟩ trivial
            go_simp
          | 14, ho =>
            obtain rfl := Option.some.inj ho
            show LS _ _ _ _ _ _ _ false _ _ _ _
            clear hn
            refine lsn_value (v := .pointer (some ⟨bo, 4, none⟩)) (u' := u) rfl ?_ trivial hw rfl
            go_simp
          | 15, ho =>
            obtain rfl := Option.some.inj ho
            have hlen : vs.length = 4 := (hn rfl).trans (by kernel_rfl)
            obtain ⟨r0, r1, r2, r3, rfl⟩ := vs_list4 hlen
            show LS _ _ _ _ _ _ _ true _ _ _ _
            clear hn
            have e78 : a.tmps[78]?.getD undef = r1 := slot_at (htold 7 _ 78 ⟨⟨7, .data⟩, by simp, rfl, rfl⟩ rfl rfl rfl)
            have e84 : a.tmps[84]?.getD undef = .pointer (some ⟨bo, 4, none⟩) := slot_at (hdep ⟨14, .data⟩ (by simp) rfl _ 84 rfl rfl)
            obtain ⟨he, h1, h2, hb⟩ := hw
            obtain ⟨ra, rc, rfl, -⟩ := h1.form
            have c1 := hb.c.cell (i := 4) (v := .slice none 0 0) rfl
            have f1 := Blk.free hb.c 4
            have hcB : ∀ j, j = bo → j < bl + 1 := fun j e => by have := hb.hi.2.2.1; omega
            have kc := Kp.set u ⟨bo, 4, none⟩ (.slice ra (iv D).length rc)
            refine lsn_skip (u' := u.setCell ⟨bo, 4, none⟩ (.slice ra (iv D).length rc)) rfl ?_ trivial ⟨he, h2.low kc hcB, hb.set 4 _ rfl ⟨hb.ls.i, hb.ls.l, hb.ls.o, h1, hb.ls.n, hb.ls.g⟩⟩ trivial
            go_simp
          | 16, ho =>
            obtain rfl := Option.some.inj ho
            show LS _ _ _ _ _ _ _ false _ _ _ _
            clear hn
            refine lsn_value (v := .pointer (some ⟨bo, 5, none⟩)) (u' := u) rfl ?_ trivial hw rfl
            go_simp
          | 17, ho =>
            obtain rfl := Option.some.inj ho
            have hlen : vs.length = 5 := (hn rfl).trans (by kernel_rfl)
            obtain ⟨r0, r1, r2, r3, r4, rfl⟩ := vs_list5 hlen
            show LS _ _ _ _ _ _ _ true _ _ _ _
            clear hn
            have e82 : a.tmps[82]?.getD undef = r2 := slot_at (htold 11 _ 82 ⟨⟨11, .data⟩, by simp, rfl, rfl⟩ rfl rfl rfl)
            have e85 : a.tmps[85]?.getD undef = .pointer (some ⟨bo, 5, none⟩) := slot_at (hdep ⟨16, .data⟩ (by simp) rfl _ 85 rfl rfl)
            obtain ⟨he, h2, hb⟩ := hw
            obtain ⟨ra, rc, rfl, -⟩ := h2.form
            have c1 := hb.c.cell (i := 5) (v := .slice none 0 0) rfl
            have f1 := Blk.free hb.c 5
            have hcB : ∀ j, j = bo → j < bl + 1 := fun j e => by have := hb.hi.2.2.1; omega
            have kc := Kp.set u ⟨bo, 5, none⟩ (.slice ra (iv N).length rc)
            refine lsn_skip (u' := u.setCell ⟨bo, 5, none⟩ (.slice ra (iv N).length rc)) rfl ?_ trivial ⟨he, hb.set 5 _ rfl ⟨hb.ls.i, hb.ls.l, hb.ls.o, hb.ls.d, h2, hb.ls.g⟩⟩ trivial
            go_simp
          | n + 18, _ => exact (inL_far (N := 18) (by decide) hp).elim
        intro vs a u hlen hI
        have hsz : a.tmps.size = 121 := hI.size
        have hdf : a.defers = [{ target := .fn (.func 30) #[], args := #[.pointer (some ⟨w.heap.size + 1 + 1, 0, none⟩), .pointer (some ⟨w.heap.size + 1 + 1 + 1, 0, none⟩)] }] := hI.defers
        have f0 : a.tmps.getD 0 undef = _ := hI.off 0 (noDst_spec (p := (inL [0, 1, 2, 3, 4, 5, 6, 7, 8, 9, 10, 11, 12, 13, 14, 15, 16, 17])) (by kernel_rfl))
        have f1 : a.tmps.getD 1 undef = _ := hI.off 1 (noDst_spec (p := (inL [0, 1, 2, 3, 4, 5, 6, 7, 8, 9, 10, 11, 12, 13, 14, 15, 16, 17])) (by kernel_rfl))
        have f2 : a.tmps.getD 2 undef = _ := hI.off 2 (noDst_spec (p := (inL [0, 1, 2, 3, 4, 5, 6, 7, 8, 9, 10, 11, 12, 13, 14, 15, 16, 17])) (by kernel_rfl))
        have f3 : a.tmps.getD 3 undef = _ := hI.off 3 (noDst_spec (p := (inL [0, 1, 2, 3, 4, 5, 6, 7, 8, 9, 10, 11, 12, 13, 14, 15, 16, 17])) (by kernel_rfl))
        have f4 : a.tmps.getD 4 undef = _ := hI.off 4 (noDst_spec (p := (inL [0, 1, 2, 3, 4, 5, 6, 7, 8, 9, 10, 11, 12, 13, 14, 15, 16, 17])) (by kernel_rfl))
        have f5 : a.tmps.getD 5 undef = _ := hI.off 5 (noDst_spec (p := (inL [0, 1, 2, 3, 4, 5, 6, 7, 8, 9, 10, 11, 12, 13, 14, 15, 16, 17])) (by kernel_rfl))
        have f6 : a.tmps.getD 6 undef = _ := hI.off 6 (noDst_spec (p := (inL [0, 1, 2, 3, 4, 5, 6, 7, 8, 9, 10, 11, 12, 13, 14, 15, 16, 17])) (by kernel_rfl))
        have f7 : a.tmps.getD 7 undef = _ := hI.off 7 (noDst_spec (p := (inL [0, 1, 2, 3, 4, 5, 6, 7, 8, 9, 10, 11, 12, 13, 14, 15, 16, 17])) (by kernel_rfl))
        have f8 : a.tmps.getD 8 undef = _ := hI.off 8 (noDst_spec (p := (inL [0, 1, 2, 3, 4, 5, 6, 7, 8, 9, 10, 11, 12, 13, 14, 15, 16, 17])) (by kernel_rfl))
        have f9 : a.tmps.getD 9 undef = _ := hI.off 9 (noDst_spec (p := (inL [0, 1, 2, 3, 4, 5, 6, 7, 8, 9, 10, 11, 12, 13, 14, 15, 16, 17])) (by kernel_rfl))
        have f10 : a.tmps.getD 10 undef = _ := hI.off 10 (noDst_spec (p := (inL [0, 1, 2, 3, 4, 5, 6, 7, 8, 9, 10, 11, 12, 13, 14, 15, 16, 17])) (by kernel_rfl))
        have f11 : a.tmps.getD 11 undef = _ := hI.off 11 (noDst_spec (p := (inL [0, 1, 2, 3, 4, 5, 6, 7, 8, 9, 10, 11, 12, 13, 14, 15, 16, 17])) (by kernel_rfl))
        have f12 : a.tmps.getD 12 undef = _ := hI.off 12 (noDst_spec (p := (inL [0, 1, 2, 3, 4, 5, 6, 7, 8, 9, 10, 11, 12, 13, 14, 15, 16, 17])) (by kernel_rfl))
        have f13 : a.tmps.getD 13 undef = _ := hI.off 13 (noDst_spec (p := (inL [0, 1, 2, 3, 4, 5, 6, 7, 8, 9, 10, 11, 12, 13, 14, 15, 16, 17])) (by kernel_rfl))
        have f14 : a.tmps.getD 14 undef = _ := hI.off 14 (noDst_spec (p := (inL [0, 1, 2, 3, 4, 5, 6, 7, 8, 9, 10, 11, 12, 13, 14, 15, 16, 17])) (by kernel_rfl))
        have f15 : a.tmps.getD 15 undef = _ := hI.off 15 (noDst_spec (p := (inL [0, 1, 2, 3, 4, 5, 6, 7, 8, 9, 10, 11, 12, 13, 14, 15, 16, 17])) (by kernel_rfl))
        have f16 : a.tmps.getD 16 undef = _ := hI.off 16 (noDst_spec (p := (inL [0, 1, 2, 3, 4, 5, 6, 7, 8, 9, 10, 11, 12, 13, 14, 15, 16, 17])) (by kernel_rfl))
        have f17 : a.tmps.getD 17 undef = _ := hI.off 17 (noDst_spec (p := (inL [0, 1, 2, 3, 4, 5, 6, 7, 8, 9, 10, 11, 12, 13, 14, 15, 16, 17])) (by kernel_rfl))
        have f18 : a.tmps.getD 18 undef = _ := hI.off 18 (noDst_spec (p := (inL [0, 1, 2, 3, 4, 5, 6, 7, 8, 9, 10, 11, 12, 13, 14, 15, 16, 17])) (by kernel_rfl))
        have f19 : a.tmps.getD 19 undef = _ := hI.off 19 (noDst_spec (p := (inL [0, 1, 2, 3, 4, 5, 6, 7, 8, 9, 10, 11, 12, 13, 14, 15, 16, 17])) (by kernel_rfl))
        have f20 : a.tmps.getD 20 undef = _ := hI.off 20 (noDst_spec (p := (inL [0, 1, 2, 3, 4, 5, 6, 7, 8, 9, 10, 11, 12, 13, 14, 15, 16, 17])) (by kernel_rfl))
        have f21 : a.tmps.getD 21 undef = _ := hI.off 21 (noDst_spec (p := (inL [0, 1, 2, 3, 4, 5, 6, 7, 8, 9, 10, 11, 12, 13, 14, 15, 16, 17])) (by kernel_rfl))
        have f22 : a.tmps.getD 22 undef = _ := hI.off 22 (noDst_spec (p := (inL [0, 1, 2, 3, 4, 5, 6, 7, 8, 9, 10, 11, 12, 13, 14, 15, 16, 17])) (by kernel_rfl))
        have f23 : a.tmps.getD 23 undef = _ := hI.off 23 (noDst_spec (p := (inL [0, 1, 2, 3, 4, 5, 6, 7, 8, 9, 10, 11, 12, 13, 14, 15, 16, 17])) (by kernel_rfl))
        have f24 : a.tmps.getD 24 undef = _ := hI.off 24 (noDst_spec (p := (inL [0, 1, 2, 3, 4, 5, 6, 7, 8, 9, 10, 11, 12, 13, 14, 15, 16, 17])) (by kernel_rfl))
        have f25 : a.tmps.getD 25 undef = _ := hI.off 25 (noDst_spec (p := (inL [0, 1, 2, 3, 4, 5, 6, 7, 8, 9, 10, 11, 12, 13, 14, 15, 16, 17])) (by kernel_rfl))
        have f26 : a.tmps.getD 26 undef = _ := hI.off 26 (noDst_spec (p := (inL [0, 1, 2, 3, 4, 5, 6, 7, 8, 9, 10, 11, 12, 13, 14, 15, 16, 17])) (by kernel_rfl))
        have f27 : a.tmps.getD 27 undef = _ := hI.off 27 (noDst_spec (p := (inL [0, 1, 2, 3, 4, 5, 6, 7, 8, 9, 10, 11, 12, 13, 14, 15, 16, 17])) (by kernel_rfl))
        have f28 : a.tmps.getD 28 undef = _ := hI.off 28 (noDst_spec (p := (inL [0, 1, 2, 3, 4, 5, 6, 7, 8, 9, 10, 11, 12, 13, 14, 15, 16, 17])) (by kernel_rfl))
        have f29 : a.tmps.getD 29 undef = _ := hI.off 29 (noDst_spec (p := (inL [0, 1, 2, 3, 4, 5, 6, 7, 8, 9, 10, 11, 12, 13, 14, 15, 16, 17])) (by kernel_rfl))
        have f30 : a.tmps.getD 30 undef = _ := hI.off 30 (noDst_spec (p := (inL [0, 1, 2, 3, 4, 5, 6, 7, 8, 9, 10, 11, 12, 13, 14, 15, 16, 17])) (by kernel_rfl))
        have f31 : a.tmps.getD 31 undef = _ := hI.off 31 (noDst_spec (p := (inL [0, 1, 2, 3, 4, 5, 6, 7, 8, 9, 10, 11, 12, 13, 14, 15, 16, 17])) (by kernel_rfl))
        have f32 : a.tmps.getD 32 undef = _ := hI.off 32 (noDst_spec (p := (inL [0, 1, 2, 3, 4, 5, 6, 7, 8, 9, 10, 11, 12, 13, 14, 15, 16, 17])) (by kernel_rfl))
        have f33 : a.tmps.getD 33 undef = _ := hI.off 33 (noDst_spec (p := (inL [0, 1, 2, 3, 4, 5, 6, 7, 8, 9, 10, 11, 12, 13, 14, 15, 16, 17])) (by kernel_rfl))
        have f34 : a.tmps.getD 34 undef = _ := hI.off 34 (noDst_spec (p := (inL [0, 1, 2, 3, 4, 5, 6, 7, 8, 9, 10, 11, 12, 13, 14, 15, 16, 17])) (by kernel_rfl))
        have f35 : a.tmps.getD 35 undef = _ := hI.off 35 (noDst_spec (p := (inL [0, 1, 2, 3, 4, 5, 6, 7, 8, 9, 10, 11, 12, 13, 14, 15, 16, 17])) (by kernel_rfl))
        have f36 : a.tmps.getD 36 undef = _ := hI.off 36 (noDst_spec (p := (inL [0, 1, 2, 3, 4, 5, 6, 7, 8, 9, 10, 11, 12, 13, 14, 15, 16, 17])) (by kernel_rfl))
        have f37 : a.tmps.getD 37 undef = _ := hI.off 37 (noDst_spec (p := (inL [0, 1, 2, 3, 4, 5, 6, 7, 8, 9, 10, 11, 12, 13, 14, 15, 16, 17])) (by kernel_rfl))
        have f38 : a.tmps.getD 38 undef = _ := hI.off 38 (noDst_spec (p := (inL [0, 1, 2, 3, 4, 5, 6, 7, 8, 9, 10, 11, 12, 13, 14, 15, 16, 17])) (by kernel_rfl))
        have f39 : a.tmps.getD 39 undef = _ := hI.off 39 (noDst_spec (p := (inL [0, 1, 2, 3, 4, 5, 6, 7, 8, 9, 10, 11, 12, 13, 14, 15, 16, 17])) (by kernel_rfl))
        have f40 : a.tmps.getD 40 undef = _ := hI.off 40 (noDst_spec (p := (inL [0, 1, 2, 3, 4, 5, 6, 7, 8, 9, 10, 11, 12, 13, 14, 15, 16, 17])) (by kernel_rfl))
        have f41 : a.tmps.getD 41 undef = _ := hI.off 41 (noDst_spec (p := (inL [0, 1, 2, 3, 4, 5, 6, 7, 8, 9, 10, 11, 12, 13, 14, 15, 16, 17])) (by kernel_rfl))
        have f42 : a.tmps.getD 42 undef = _ := hI.off 42 (noDst_spec (p := (inL [0, 1, 2, 3, 4, 5, 6, 7, 8, 9, 10, 11, 12, 13, 14, 15, 16, 17])) (by kernel_rfl))
        have f43 : a.tmps.getD 43 undef = _ := hI.off 43 (noDst_spec (p := (inL [0, 1, 2, 3, 4, 5, 6, 7, 8, 9, 10, 11, 12, 13, 14, 15, 16, 17])) (by kernel_rfl))
        have f44 : a.tmps.getD 44 undef = _ := hI.off 44 (noDst_spec (p := (inL [0, 1, 2, 3, 4, 5, 6, 7, 8, 9, 10, 11, 12, 13, 14, 15, 16, 17])) (by kernel_rfl))
        have f45 : a.tmps.getD 45 undef = _ := hI.off 45 (noDst_spec (p := (inL [0, 1, 2, 3, 4, 5, 6, 7, 8, 9, 10, 11, 12, 13, 14, 15, 16, 17])) (by kernel_rfl))
        have f46 : a.tmps.getD 46 undef = _ := hI.off 46 (noDst_spec (p := (inL [0, 1, 2, 3, 4, 5, 6, 7, 8, 9, 10, 11, 12, 13, 14, 15, 16, 17])) (by kernel_rfl))
        have f47 : a.tmps.getD 47 undef = _ := hI.off 47 (noDst_spec (p := (inL [0, 1, 2, 3, 4, 5, 6, 7, 8, 9, 10, 11, 12, 13, 14, 15, 16, 17])) (by kernel_rfl))
        have f48 : a.tmps.getD 48 undef = _ := hI.off 48 (noDst_spec (p := (inL [0, 1, 2, 3, 4, 5, 6, 7, 8, 9, 10, 11, 12, 13, 14, 15, 16, 17])) (by kernel_rfl))
        have f49 : a.tmps.getD 49 undef = _ := hI.off 49 (noDst_spec (p := (inL [0, 1, 2, 3, 4, 5, 6, 7, 8, 9, 10, 11, 12, 13, 14, 15, 16, 17])) (by kernel_rfl))
        have f50 : a.tmps.getD 50 undef = _ := hI.off 50 (noDst_spec (p := (inL [0, 1, 2, 3, 4, 5, 6, 7, 8, 9, 10, 11, 12, 13, 14, 15, 16, 17])) (by kernel_rfl))
        have f51 : a.tmps.getD 51 undef = _ := hI.off 51 (noDst_spec (p := (inL [0, 1, 2, 3, 4, 5, 6, 7, 8, 9, 10, 11, 12, 13, 14, 15, 16, 17])) (by kernel_rfl))
        have f52 : a.tmps.getD 52 undef = _ := hI.off 52 (noDst_spec (p := (inL [0, 1, 2, 3, 4, 5, 6, 7, 8, 9, 10, 11, 12, 13, 14, 15, 16, 17])) (by kernel_rfl))
        have f53 : a.tmps.getD 53 undef = _ := hI.off 53 (noDst_spec (p := (inL [0, 1, 2, 3, 4, 5, 6, 7, 8, 9, 10, 11, 12, 13, 14, 15, 16, 17])) (by kernel_rfl))
        have f54 : a.tmps.getD 54 undef = _ := hI.off 54 (noDst_spec (p := (inL [0, 1, 2, 3, 4, 5, 6, 7, 8, 9, 10, 11, 12, 13, 14, 15, 16, 17])) (by kernel_rfl))
        have f55 : a.tmps.getD 55 undef = _ := hI.off 55 (noDst_spec (p := (inL [0, 1, 2, 3, 4, 5, 6, 7, 8, 9, 10, 11, 12, 13, 14, 15, 16, 17])) (by kernel_rfl))
        have f56 : a.tmps.getD 56 undef = _ := hI.off 56 (noDst_spec (p := (inL [0, 1, 2, 3, 4, 5, 6, 7, 8, 9, 10, 11, 12, 13, 14, 15, 16, 17])) (by kernel_rfl))
        have f57 : a.tmps.getD 57 undef = _ := hI.off 57 (noDst_spec (p := (inL [0, 1, 2, 3, 4, 5, 6, 7, 8, 9, 10, 11, 12, 13, 14, 15, 16, 17])) (by kernel_rfl))
        have f58 : a.tmps.getD 58 undef = _ := hI.off 58 (noDst_spec (p := (inL [0, 1, 2, 3, 4, 5, 6, 7, 8, 9, 10, 11, 12, 13, 14, 15, 16, 17])) (by kernel_rfl))
        have f59 : a.tmps.getD 59 undef = _ := hI.off 59 (noDst_spec (p := (inL [0, 1, 2, 3, 4, 5, 6, 7, 8, 9, 10, 11, 12, 13, 14, 15, 16, 17])) (by kernel_rfl))
        have f60 : a.tmps.getD 60 undef = _ := hI.off 60 (noDst_spec (p := (inL [0, 1, 2, 3, 4, 5, 6, 7, 8, 9, 10, 11, 12, 13, 14, 15, 16, 17])) (by kernel_rfl))
        have f61 : a.tmps.getD 61 undef = _ := hI.off 61 (noDst_spec (p := (inL [0, 1, 2, 3, 4, 5, 6, 7, 8, 9, 10, 11, 12, 13, 14, 15, 16, 17])) (by kernel_rfl))
        have f62 : a.tmps.getD 62 undef = _ := hI.off 62 (noDst_spec (p := (inL [0, 1, 2, 3, 4, 5, 6, 7, 8, 9, 10, 11, 12, 13, 14, 15, 16, 17])) (by kernel_rfl))
        have f63 : a.tmps.getD 63 undef = _ := hI.off 63 (noDst_spec (p := (inL [0, 1, 2, 3, 4, 5, 6, 7, 8, 9, 10, 11, 12, 13, 14, 15, 16, 17])) (by kernel_rfl))
        have f64 : a.tmps.getD 64 undef = _ := hI.off 64 (noDst_spec (p := (inL [0, 1, 2, 3, 4, 5, 6, 7, 8, 9, 10, 11, 12, 13, 14, 15, 16, 17])) (by kernel_rfl))
        have f65 : a.tmps.getD 65 undef = _ := hI.off 65 (noDst_spec (p := (inL [0, 1, 2, 3, 4, 5, 6, 7, 8, 9, 10, 11, 12, 13, 14, 15, 16, 17])) (by kernel_rfl))
        have f66 : a.tmps.getD 66 undef = _ := hI.off 66 (noDst_spec (p := (inL [0, 1, 2, 3, 4, 5, 6, 7, 8, 9, 10, 11, 12, 13, 14, 15, 16, 17])) (by kernel_rfl))
        have f67 : a.tmps.getD 67 undef = _ := hI.off 67 (noDst_spec (p := (inL [0, 1, 2, 3, 4, 5, 6, 7, 8, 9, 10, 11, 12, 13, 14, 15, 16, 17])) (by kernel_rfl))
        have f68 : a.tmps.getD 68 undef = _ := hI.off 68 (noDst_spec (p := (inL [0, 1, 2, 3, 4, 5, 6, 7, 8, 9, 10, 11, 12, 13, 14, 15, 16, 17])) (by kernel_rfl))
        have f69 : a.tmps.getD 69 undef = _ := hI.off 69 (noDst_spec (p := (inL [0, 1, 2, 3, 4, 5, 6, 7, 8, 9, 10, 11, 12, 13, 14, 15, 16, 17])) (by kernel_rfl))
        have f70 : a.tmps.getD 70 undef = _ := hI.off 70 (noDst_spec (p := (inL [0, 1, 2, 3, 4, 5, 6, 7, 8, 9, 10, 11, 12, 13, 14, 15, 16, 17])) (by kernel_rfl))
        have f86 : a.tmps.getD 86 undef = _ := hI.off 86 (noDst_spec (p := (inL [0, 1, 2, 3, 4, 5, 6, 7, 8, 9, 10, 11, 12, 13, 14, 15, 16, 17])) (by kernel_rfl))
        have f87 : a.tmps.getD 87 undef = _ := hI.off 87 (noDst_spec (p := (inL [0, 1, 2, 3, 4, 5, 6, 7, 8, 9, 10, 11, 12, 13, 14, 15, 16, 17])) (by kernel_rfl))
        have f88 : a.tmps.getD 88 undef = _ := hI.off 88 (noDst_spec (p := (inL [0, 1, 2, 3, 4, 5, 6, 7, 8, 9, 10, 11, 12, 13, 14, 15, 16, 17])) (by kernel_rfl))
        have f89 : a.tmps.getD 89 undef = _ := hI.off 89 (noDst_spec (p := (inL [0, 1, 2, 3, 4, 5, 6, 7, 8, 9, 10, 11, 12, 13, 14, 15, 16, 17])) (by kernel_rfl))
        have f90 : a.tmps.getD 90 undef = _ := hI.off 90 (noDst_spec (p := (inL [0, 1, 2, 3, 4, 5, 6, 7, 8, 9, 10, 11, 12, 13, 14, 15, 16, 17])) (by kernel_rfl))
        have f91 : a.tmps.getD 91 undef = _ := hI.off 91 (noDst_spec (p := (inL [0, 1, 2, 3, 4, 5, 6, 7, 8, 9, 10, 11, 12, 13, 14, 15, 16, 17])) (by kernel_rfl))
        have f92 : a.tmps.getD 92 undef = _ := hI.off 92 (noDst_spec (p := (inL [0, 1, 2, 3, 4, 5, 6, 7, 8, 9, 10, 11, 12, 13, 14, 15, 16, 17])) (by kernel_rfl))
        have f93 : a.tmps.getD 93 undef = _ := hI.off 93 (noDst_spec (p := (inL [0, 1, 2, 3, 4, 5, 6, 7, 8, 9, 10, 11, 12, 13, 14, 15, 16, 17])) (by kernel_rfl))
        have f94 : a.tmps.getD 94 undef = _ := hI.off 94 (noDst_spec (p := (inL [0, 1, 2, 3, 4, 5, 6, 7, 8, 9, 10, 11, 12, 13, 14, 15, 16, 17])) (by kernel_rfl))
        have f95 : a.tmps.getD 95 undef = _ := hI.off 95 (noDst_spec (p := (inL [0, 1, 2, 3, 4, 5, 6, 7, 8, 9, 10, 11, 12, 13, 14, 15, 16, 17])) (by kernel_rfl))
        have f96 : a.tmps.getD 96 undef = _ := hI.off 96 (noDst_spec (p := (inL [0, 1, 2, 3, 4, 5, 6, 7, 8, 9, 10, 11, 12, 13, 14, 15, 16, 17])) (by kernel_rfl))
        have f97 : a.tmps.getD 97 undef = _ := hI.off 97 (noDst_spec (p := (inL [0, 1, 2, 3, 4, 5, 6, 7, 8, 9, 10, 11, 12, 13, 14, 15, 16, 17])) (by kernel_rfl))
        have f98 : a.tmps.getD 98 undef = _ := hI.off 98 (noDst_spec (p := (inL [0, 1, 2, 3, 4, 5, 6, 7, 8, 9, 10, 11, 12, 13, 14, 15, 16, 17])) (by kernel_rfl))
        have f99 : a.tmps.getD 99 undef = _ := hI.off 99 (noDst_spec (p := (inL [0, 1, 2, 3, 4, 5, 6, 7, 8, 9, 10, 11, 12, 13, 14, 15, 16, 17])) (by kernel_rfl))
        have f100 : a.tmps.getD 100 undef = _ := hI.off 100 (noDst_spec (p := (inL [0, 1, 2, 3, 4, 5, 6, 7, 8, 9, 10, 11, 12, 13, 14, 15, 16, 17])) (by kernel_rfl))
        have f101 : a.tmps.getD 101 undef = _ := hI.off 101 (noDst_spec (p := (inL [0, 1, 2, 3, 4, 5, 6, 7, 8, 9, 10, 11, 12, 13, 14, 15, 16, 17])) (by kernel_rfl))
        have f102 : a.tmps.getD 102 undef = _ := hI.off 102 (noDst_spec (p := (inL [0, 1, 2, 3, 4, 5, 6, 7, 8, 9, 10, 11, 12, 13, 14, 15, 16, 17])) (by kernel_rfl))
        have f103 : a.tmps.getD 103 undef = _ := hI.off 103 (noDst_spec (p := (inL [0, 1, 2, 3, 4, 5, 6, 7, 8, 9, 10, 11, 12, 13, 14, 15, 16, 17])) (by kernel_rfl))
        have f104 : a.tmps.getD 104 undef = _ := hI.off 104 (noDst_spec (p := (inL [0, 1, 2, 3, 4, 5, 6, 7, 8, 9, 10, 11, 12, 13, 14, 15, 16, 17])) (by kernel_rfl))
        have f105 : a.tmps.getD 105 undef = _ := hI.off 105 (noDst_spec (p := (inL [0, 1, 2, 3, 4, 5, 6, 7, 8, 9, 10, 11, 12, 13, 14, 15, 16, 17])) (by kernel_rfl))
        have f106 : a.tmps.getD 106 undef = _ := hI.off 106 (noDst_spec (p := (inL [0, 1, 2, 3, 4, 5, 6, 7, 8, 9, 10, 11, 12, 13, 14, 15, 16, 17])) (by kernel_rfl))
        have f107 : a.tmps.getD 107 undef = _ := hI.off 107 (noDst_spec (p := (inL [0, 1, 2, 3, 4, 5, 6, 7, 8, 9, 10, 11, 12, 13, 14, 15, 16, 17])) (by kernel_rfl))
        have f108 : a.tmps.getD 108 undef = _ := hI.off 108 (noDst_spec (p := (inL [0, 1, 2, 3, 4, 5, 6, 7, 8, 9, 10, 11, 12, 13, 14, 15, 16, 17])) (by kernel_rfl))
        have f109 : a.tmps.getD 109 undef = _ := hI.off 109 (noDst_spec (p := (inL [0, 1, 2, 3, 4, 5, 6, 7, 8, 9, 10, 11, 12, 13, 14, 15, 16, 17])) (by kernel_rfl))
        have f110 : a.tmps.getD 110 undef = _ := hI.off 110 (noDst_spec (p := (inL [0, 1, 2, 3, 4, 5, 6, 7, 8, 9, 10, 11, 12, 13, 14, 15, 16, 17])) (by kernel_rfl))
        have f111 : a.tmps.getD 111 undef = _ := hI.off 111 (noDst_spec (p := (inL [0, 1, 2, 3, 4, 5, 6, 7, 8, 9, 10, 11, 12, 13, 14, 15, 16, 17])) (by kernel_rfl))
        have f112 : a.tmps.getD 112 undef = _ := hI.off 112 (noDst_spec (p := (inL [0, 1, 2, 3, 4, 5, 6, 7, 8, 9, 10, 11, 12, 13, 14, 15, 16, 17])) (by kernel_rfl))
        have f113 : a.tmps.getD 113 undef = _ := hI.off 113 (noDst_spec (p := (inL [0, 1, 2, 3, 4, 5, 6, 7, 8, 9, 10, 11, 12, 13, 14, 15, 16, 17])) (by kernel_rfl))
        have f114 : a.tmps.getD 114 undef = _ := hI.off 114 (noDst_spec (p := (inL [0, 1, 2, 3, 4, 5, 6, 7, 8, 9, 10, 11, 12, 13, 14, 15, 16, 17])) (by kernel_rfl))
        have f115 : a.tmps.getD 115 undef = _ := hI.off 115 (noDst_spec (p := (inL [0, 1, 2, 3, 4, 5, 6, 7, 8, 9, 10, 11, 12, 13, 14, 15, 16, 17])) (by kernel_rfl))
        have f116 : a.tmps.getD 116 undef = _ := hI.off 116 (noDst_spec (p := (inL [0, 1, 2, 3, 4, 5, 6, 7, 8, 9, 10, 11, 12, 13, 14, 15, 16, 17])) (by kernel_rfl))
        have f117 : a.tmps.getD 117 undef = _ := hI.off 117 (noDst_spec (p := (inL [0, 1, 2, 3, 4, 5, 6, 7, 8, 9, 10, 11, 12, 13, 14, 15, 16, 17])) (by kernel_rfl))
        have f118 : a.tmps.getD 118 undef = _ := hI.off 118 (noDst_spec (p := (inL [0, 1, 2, 3, 4, 5, 6, 7, 8, 9, 10, 11, 12, 13, 14, 15, 16, 17])) (by kernel_rfl))
        have f119 : a.tmps.getD 119 undef = _ := hI.off 119 (noDst_spec (p := (inL [0, 1, 2, 3, 4, 5, 6, 7, 8, 9, 10, 11, 12, 13, 14, 15, 16, 17])) (by kernel_rfl))
        have f120 : a.tmps.getD 120 undef = _ := hI.off 120 (noDst_spec (p := (inL [0, 1, 2, 3, 4, 5, 6, 7, 8, 9, 10, 11, 12, 13, 14, 15, 16, 17])) (by kernel_rfl))
        obtain ⟨r0, r1, r2, r3, r4, r5, rfl⟩ := vs_list6 hlen
        have f71 : a.tmps.getD 71 undef = .func (Fn.func 68) #[] #[.pointer (some ⟨bl, 0, none⟩)] := hI.val 0 _ 71 rfl rfl rfl
        have f72 : a.tmps.getD 72 undef = .pointer (some ⟨w.heap.size, 4, none⟩) := hI.val 1 _ 72 rfl rfl rfl
        have f73 : a.tmps.getD 73 undef = .int .i64 (nO : Nat) := hI.val 2 _ 73 rfl rfl rfl
        have f74 : a.tmps.getD 74 undef = r0 := hI.told 3 _ 74 rfl rfl rfl rfl
        have f75 : a.tmps.getD 75 undef = .func (Fn.func 68) #[] #[.pointer (some ⟨bl, 0, none⟩)] := hI.val 4 _ 75 rfl rfl rfl
        have f76 : a.tmps.getD 76 undef = .pointer (some ⟨w.heap.size, 6, none⟩) := hI.val 5 _ 76 rfl rfl rfl
        have f77 : a.tmps.getD 77 undef = .int .i64 (nB : Nat) := hI.val 6 _ 77 rfl rfl rfl
        have f78 : a.tmps.getD 78 undef = r1 := hI.told 7 _ 78 rfl rfl rfl rfl
        have f79 : a.tmps.getD 79 undef = .func (Fn.func 68) #[] #[.pointer (some ⟨bl, 0, none⟩)] := hI.val 8 _ 79 rfl rfl rfl
        have f80 : a.tmps.getD 80 undef = .pointer (some ⟨w.heap.size, 7, none⟩) := hI.val 9 _ 80 rfl rfl rfl
        have f81 : a.tmps.getD 81 undef = .int .i64 (nC : Nat) := hI.val 10 _ 81 rfl rfl rfl
        have f82 : a.tmps.getD 82 undef = r2 := hI.told 11 _ 82 rfl rfl rfl rfl
        have f83 : a.tmps.getD 83 undef = .pointer (some ⟨bo, 3, none⟩) := hI.val 12 _ 83 rfl rfl rfl
        have f84 : a.tmps.getD 84 undef = .pointer (some ⟨bo, 4, none⟩) := hI.val 14 _ 84 rfl rfl rfl
        have f85 : a.tmps.getD 85 undef = .pointer (some ⟨bo, 5, none⟩) := hI.val 16 _ 85 rfl rfl rfl
        have ha : a = ⟨#[a.tmps.getD 0 undef, a.tmps.getD 1 undef, a.tmps.getD 2 undef, a.tmps.getD 3 undef, a.tmps.getD 4 undef, a.tmps.getD 5 undef, a.tmps.getD 6 undef, a.tmps.getD 7 undef, a.tmps.getD 8 undef, a.tmps.getD 9 undef, a.tmps.getD 10 undef, a.tmps.getD 11 undef, a.tmps.getD 12 undef, a.tmps.getD 13 undef, a.tmps.getD 14 undef, a.tmps.getD 15 undef, a.tmps.getD 16 undef, a.tmps.getD 17 undef, a.tmps.getD 18 undef, a.tmps.getD 19 undef, a.tmps.getD 20 undef, a.tmps.getD 21 undef, a.tmps.getD 22 undef, a.tmps.getD 23 undef, a.tmps.getD 24 undef, a.tmps.getD 25 undef, a.tmps.getD 26 undef, a.tmps.getD 27 undef, a.tmps.getD 28 undef, a.tmps.getD 29 undef, a.tmps.getD 30 undef, a.tmps.getD 31 undef, a.tmps.getD 32 undef, a.tmps.getD 33 undef, a.tmps.getD 34 undef, a.tmps.getD 35 undef, a.tmps.getD 36 undef, a.tmps.getD 37 undef, a.tmps.getD 38 undef, a.tmps.getD 39 undef, a.tmps.getD 40 undef, a.tmps.getD 41 undef, a.tmps.getD 42 undef, a.tmps.getD 43 undef, a.tmps.getD 44 undef, a.tmps.getD 45 undef, a.tmps.getD 46 undef, a.tmps.getD 47 undef, a.tmps.getD 48 undef, a.tmps.getD 49 undef, a.tmps.getD 50 undef, a.tmps.getD 51 undef, a.tmps.getD 52 undef, a.tmps.getD 53 undef, a.tmps.getD 54 undef, a.tmps.getD 55 undef, a.tmps.getD 56 undef, a.tmps.getD 57 undef, a.tmps.getD 58 undef, a.tmps.getD 59 undef, a.tmps.getD 60 undef, a.tmps.getD 61 undef, a.tmps.getD 62 undef, a.tmps.getD 63 undef, a.tmps.getD 64 undef, a.tmps.getD 65 undef, a.tmps.getD 66 undef, a.tmps.getD 67 undef, a.tmps.getD 68 undef, a.tmps.getD 69 undef, a.tmps.getD 70 undef, a.tmps.getD 71 undef, a.tmps.getD 72 undef, a.tmps.getD 73 undef, a.tmps.getD 74 undef, a.tmps.getD 75 undef, a.tmps.getD 76 undef, a.tmps.getD 77 undef, a.tmps.getD 78 undef, a.tmps.getD 79 undef, a.tmps.getD 80 undef, a.tmps.getD 81 undef, a.tmps.getD 82 undef, a.tmps.getD 83 undef, a.tmps.getD 84 undef, a.tmps.getD 85 undef, a.tmps.getD 86 undef, a.tmps.getD 87 undef, a.tmps.getD 88 undef, a.tmps.getD 89 undef, a.tmps.getD 90 undef, a.tmps.getD 91 undef, a.tmps.getD 92 undef, a.tmps.getD 93 undef, a.tmps.getD 94 undef, a.tmps.getD 95 undef, a.tmps.getD 96 undef, a.tmps.getD 97 undef, a.tmps.getD 98 undef, a.tmps.getD 99 undef, a.tmps.getD 100 undef, a.tmps.getD 101 undef, a.tmps.getD 102 undef, a.tmps.getD 103 undef, a.tmps.getD 104 undef, a.tmps.getD 105 undef, a.tmps.getD 106 undef, a.tmps.getD 107 undef, a.tmps.getD 108 undef, a.tmps.getD 109 undef, a.tmps.getD 110 undef, a.tmps.getD 111 undef, a.tmps.getD 112 undef, a.tmps.getD 113 undef, a.tmps.getD 114 undef, a.tmps.getD 115 undef, a.tmps.getD 116 undef, a.tmps.getD 117 undef, a.tmps.getD 118 undef, a.tmps.getD 119 undef, a.tmps.getD 120 undef], a.defers⟩ := act_list a 121 hsz
        rw [hdf, f0, f1, f2, f3, f4, f5, f6, f7, f8, f9, f10, f11, f12, f13, f14, f15, f16, f17, f18, f19, f20, f21, f22, f23, f24, f25, f26, f27, f28, f29, f30, f31, f32, f33, f34, f35, f36, f37, f38, f39, f40, f41, f42, f43, f44, f45, f46, f47, f48, f49, f50, f51, f52, f53, f54, f55, f56, f57, f58, f59, f60, f61, f62, f63, f64, f65, f66, f67, f68, f69, f70, f71, f72, f73, f74, f75, f76, f77, f78, f79, f80, f81, f82, f83, f84, f85, f86, f87, f88, f89, f90, f91, f92, f93, f94, f95, f96, f97, f98, f99, f100, f101, f102, f103, f104, f105, f106, f107, f108, f109, f110, f111, f112, f113, f114, f115, f116, f117, f118, f119, f120] at ha
        clear hlen
        have hru := hI.rel
        have hwu := hI.st
        clear hI hsz hdf f0 f1 f2 f3 f4 f5 f6 f7 f8 f9 f10 f11 f12 f13 f14 f15 f16 f17 f18 f19 f20 f21 f22 f23 f24 f25 f26 f27 f28 f29 f30 f31 f32 f33 f34 f35 f36 f37 f38 f39 f40 f41 f42 f43 f44 f45 f46 f47 f48 f49 f50 f51 f52 f53 f54 f55 f56 f57 f58 f59 f60 f61 f62 f63 f64 f65 f66 f67 f68 f69 f70 f71 f72 f73 f74 f75 f76 f77 f78 f79 f80 f81 f82 f83 f84 f85 f86 f87 f88 f89 f90 f91 f92 f93 f94 f95 f96 f97 f98 f99 f100 f101 f102 f103 f104 f105 f106 f107 f108 f109 f110 f111 f112 f113 f114 f115 f116 f117 f118 f119 f120 
        subst ha
        refine wpAny_done (by kernel_rfl) ?_ _
        simp only [Array.getD_eq_getD_getElem?, List.getElem?_toArray, List.getElem?_cons_zero, List.getElem?_cons_succ, Option.getD_some]
        obtain ⟨⟨h3, h4, h5⟩, hb⟩ : (e3 = 0 ∧ e4 = 0 ∧ e9 = 0) ∧ AS w u (hdA bin M nI nL nO nA nB nC) s bv br bo bl (bl + 1) q5 (M : Int) vI (.slice la L.length lc) r0 r1 r2 (.slice none 0 0) I L O D N [] := hwu
        obtain ⟨oa, oc, ev, -⟩ := hb.ls.o.form
        obtain ⟨da, dc, ew, -⟩ := hb.ls.d.form
        obtain ⟨na, nc, ex, -⟩ := hb.ls.n.form
        rw [iv_length] at ev ew ex
        subst ev ew ex
        have HB := Lib.hid hb
        clear hb hru
        go_wp2_with fail
        go_meet
        exact ⟨oa, oc, da, dc, na, nc, h3, h4, h5, HB.out⟩
      case rest =>
      obtain ⟨oa, oc, da, dc, na, nc, rfl, rfl, rfl, hX⟩ := hcut
      clear HA HX HLitsO HLitsB HLitsC
      have HX := Lib.hid hX
      clear hX
      obtain ⟨wa, rfl⟩ : ∃ wa : World, wa = wc := ⟨_, rfl⟩
      have h5 : wa.cell? ⟨w.heap.size, 5, none⟩ = some (.int .i64 (nA : Nat)) := HX.out.l.h.cell rfl
      go_wp2_with fail
      go_loopw [88] (fun v88 wr => ∃ (k : Nat) (G : List (Int × Int × Int)) (qq : Nat) (vG : Value), v88 = .int .i64 k ∧ k ≤ nA ∧ G.length = k ∧ rdGatesA s (2 * (M : Int) + 1) nA [] (q5, 0) = rdGatesA s (2 * (M : Int) + 1) (nA - k) G (qq, 0) ∧ qq ≤ s.size ∧ AS w wr (hdA bin M nI nL nO nA nB nC) s bv br bo bl (bl + 1) qq (M : Int) vI (.slice la L.length lc) (.slice oa O.length oc) (.slice da D.length dc) (.slice na N.length nc) vG I L O D N G) (fun v88 _ => nA - (intOf v88).toNat)
      case atStart => exact ⟨0, [], q5, _, rfl, by omega, rfl, rfl, HQ5.out, HX.out⟩
      case round =>
        obtain ⟨k, G, qq, vG, rfl, hk, hGn, hE, hqq, hA⟩ := hrel
        obtain ⟨wp, rfl⟩ : ∃ wp : World, wp = wr := ⟨_, rfl⟩
        obtain ⟨ga, gc, el, -⟩ := hA.ls.g.form
        rw [List.length_map] at el
        subst el
        have HA := Lib.hid hA
        have HGn := Lib.hid hGn
        have HQQ := Lib.hid hqq
        clear hA hGn hqq HX h5
        have hbk : nA ≤ 16777216 := HNm.out.2.2.2.2.2.2.1
        have h5 : wp.cell? ⟨w.heap.size, 5, none⟩ = some (.int .i64 (nA : Nat)) := HA.out.l.h.cell rfl
        by_cases hlt : k < nA
        · obtain ⟨j, hj⟩ : ∃ j, nA - k = j + 1 := ⟨nA - k - 1, by omega⟩
          have HJ := Lib.hid (show nA - (k + 1) = j by omega)
          rw [hj] at hE
          have HE := Lib.hid hE
          clear hE hj
          obtain ⟨n1, c1, p1, e1, hr1⟩ : ∃ n c z e, rdL s (2 * (M : Int) + 1) ok32 (qq, 0) = (n, c, z, e) := ⟨_, _, _, _, rfl⟩
          have HR1 := Lib.hid hr1
          have HQ1 := Lib.hid (show p1 ≤ s.size by have := rdL_le (s := s) (top := 2 * (M : Int) + 1) (ok := ok32) (st := (qq, 0)) HQQ.out; rw [hr1] at this; exact this)
          clear hr1
          have l1 := HA.out.l.l.lt
          have l2 := HA.out.l.v.lt
          have l3 := HA.out.l.r.lt
          have l4 := HA.out.c.lt
          have l5 := HA.out.l.h.lt
          have HA0 := Lib.hid (HA.out.kp0 ((Kp.refl _ wp).alloc (.cells #[.int .i64 0, .int .i64 0, .int .i64 0] 61)))
          have HX0 := Lib.hid (Blk.new wp #[.int .i64 0, .int .i64 0, .int .i64 0] 61)
          have HC1 := Lib.hid (HLit.out ⟨#[32]⟩ ok32 idx32 qq HQQ.out bv br bl _ HA0.out.l)
          rw [HR1.out] at HC1
          have yy := HA0.out.l.l.cells1.1
          go_wp2_with fail
          refine HC1.out.mono ?_
          rintro o w1 ⟨hK1, ⟨he, rfl, hL1⟩ | ⟨he, rfl⟩⟩
          rotate_left
          · simp only at he
            clear yy
            have HZ9 := Lib.hid (AS.stop HA0.out (by first | exact Kp.refl _ _ | exact (Kp.refl _ _).drew) hK1)
            have HSt9 := Lib.hid (show R.2 = (p1, e1) by rw [← HR.out]; exact rdA_sG (t := (p1, e1)) HI.out HLt.out HO.out HD.out HN.out (by rw [HE.out]; exact rdGatesA_s1 HR1.out he))
            have HE9 := Lib.hid he
            clear hK1 he
            go_wp2_with fail
            refine leaves_cons (f := 30) (args := #[.pointer (some ⟨w.heap.size + 1 + 1, 0, none⟩), .pointer (some ⟨w.heap.size + 1 + 1 + 1, 0, none⟩)]) (by simp) (by simp [go_sem]) ?_
            refine (stopped_panicking (w.heap.size + 1 + 1) (w.heap.size + 1 + 1 + 1) _ _ _ _ [] _ (by omega) HZ9.out.1 HZ9.out.2.1).mono ?_
            rintro e u' w'' ⟨rfl, rfl, hA, hE, hK⟩
            exact asc_stop HSt9.out HE9.out (by rfl) (by rfl) (by rfl) HZ9.out.2.2.1 HZ9.out.2.2.2 hA hE hK _
          simp only at he
          subst he
          have HA1 := Lib.hid (HA0.out.rd hK1 hL1)
          have HX1 := Lib.hid (HX0.out.kp hK1 (by have := HA.out.l.r.lt; omega))
          have x0 := HX1.out.cell (i := 0) (v := .int .i64 0) rfl
          have f0 := HX1.out.free 0
          have HA1s := Lib.hid (AS.fresh HA.out HA1.out (Kp.set w1 ⟨wp.heap.size, 0, none⟩ (.int .i64 (n1 : Nat))) (fun j e => Nat.le_of_eq e.symm))
          have HX1s := Lib.hid (show Blk (w1.setCell ⟨wp.heap.size, 0, none⟩ (.int .i64 (n1 : Nat))) wp.heap.size #[.int .i64 (n1 : Nat), .int .i64 0, .int .i64 0] 61 from HX1.out.set_same 0 _)
          clear hK1 hL1 HC1 HA1 HX1 yy
          obtain ⟨n2, c2, p2, e2, hr2⟩ : ∃ n c z e, rdL s (2 * (M : Int) + 1) ok32 (p1, 0) = (n, c, z, e) := ⟨_, _, _, _, rfl⟩
          have HR2 := Lib.hid hr2
          have HQ2 := Lib.hid (show p2 ≤ s.size by have := rdL_le (s := s) (top := 2 * (M : Int) + 1) (ok := ok32) (st := (p1, 0)) HQ1.out; rw [hr2] at this; exact this)
          clear hr2
          have HC2 := Lib.hid (HLit.out ⟨#[32]⟩ ok32 idx32 p1 HQ1.out bv br bl _ HA1s.out.l)
          rw [HR2.out] at HC2
          have yy := HA1s.out.l.l.cells1.1
          go_wp2_with fail
          refine HC2.out.mono ?_
          rintro o w2 ⟨hK2, ⟨he, rfl, hL2⟩ | ⟨he, rfl⟩⟩
          rotate_left
          · simp only at he
            clear yy
            have HZ9 := Lib.hid (AS.stop HA1s.out (by first | exact Kp.refl _ _ | exact (Kp.refl _ _).drew) hK2)
            have HSt9 := Lib.hid (show R.2 = (p2, e2) by rw [← HR.out]; exact rdA_sG (t := (p2, e2)) HI.out HLt.out HO.out HD.out HN.out (by rw [HE.out]; exact rdGatesA_s2 HR1.out HR2.out he))
            have HE9 := Lib.hid he
            clear hK2 he
            go_wp2_with fail
            refine leaves_cons (f := 30) (args := #[.pointer (some ⟨w.heap.size + 1 + 1, 0, none⟩), .pointer (some ⟨w.heap.size + 1 + 1 + 1, 0, none⟩)]) (by simp) (by simp [go_sem]) ?_
            refine (stopped_panicking (w.heap.size + 1 + 1) (w.heap.size + 1 + 1 + 1) _ _ _ _ [] _ (by omega) HZ9.out.1 HZ9.out.2.1).mono ?_
            rintro e u' w'' ⟨rfl, rfl, hA, hE, hK⟩
            exact asc_stop HSt9.out HE9.out (by rfl) (by rfl) (by rfl) HZ9.out.2.2.1 HZ9.out.2.2.2 hA hE hK _
          simp only at he
          subst he
          have HA2 := Lib.hid (HA1s.out.rd hK2 hL2)
          have HX2 := Lib.hid (HX1s.out.kp hK2 (by have := HA.out.l.r.lt; omega))
          have x1 := HX2.out.cell (i := 1) (v := .int .i64 0) rfl
          have f1 := HX2.out.free 1
          have HA2s := Lib.hid (AS.fresh HA.out HA2.out (Kp.set w2 ⟨wp.heap.size, 1, none⟩ (.int .i64 (n2 : Nat))) (fun j e => Nat.le_of_eq e.symm))
          have HX2s := Lib.hid (show Blk (w2.setCell ⟨wp.heap.size, 1, none⟩ (.int .i64 (n2 : Nat))) wp.heap.size #[.int .i64 (n1 : Nat), .int .i64 (n2 : Nat), .int .i64 0] 61 from HX2.out.set_same 1 _)
          clear hK2 hL2 HC2 HA2 HX2 yy
          obtain ⟨n3, c3, p3, e3, hr3⟩ : ∃ n c z e, rdL s (2 * (M : Int) + 1) ok10 (p2, 0) = (n, c, z, e) := ⟨_, _, _, _, rfl⟩
          have HR3 := Lib.hid hr3
          have HQ3 := Lib.hid (show p3 ≤ s.size by have := rdL_le (s := s) (top := 2 * (M : Int) + 1) (ok := ok10) (st := (p2, 0)) HQ2.out; rw [hr3] at this; exact this)
          clear hr3
          have HC3 := Lib.hid (HLit.out ⟨#[10]⟩ ok10 idx10 p2 HQ2.out bv br bl _ HA2s.out.l)
          rw [HR3.out] at HC3
          have yy := HA2s.out.l.l.cells1.1
          go_wp2_with fail
          refine HC3.out.mono ?_
          rintro o w3 ⟨hK3, ⟨he, rfl, hL3⟩ | ⟨he, rfl⟩⟩
          rotate_left
          · simp only at he
            clear yy
            have HZ9 := Lib.hid (AS.stop HA2s.out (by first | exact Kp.refl _ _ | exact (Kp.refl _ _).drew) hK3)
            have HSt9 := Lib.hid (show R.2 = (p3, e3) by rw [← HR.out]; exact rdA_sG (t := (p3, e3)) HI.out HLt.out HO.out HD.out HN.out (by rw [HE.out]; exact rdGatesA_s3 HR1.out HR2.out HR3.out he))
            have HE9 := Lib.hid he
            clear hK3 he
            go_wp2_with fail
            refine leaves_cons (f := 30) (args := #[.pointer (some ⟨w.heap.size + 1 + 1, 0, none⟩), .pointer (some ⟨w.heap.size + 1 + 1 + 1, 0, none⟩)]) (by simp) (by simp [go_sem]) ?_
            refine (stopped_panicking (w.heap.size + 1 + 1) (w.heap.size + 1 + 1 + 1) _ _ _ _ [] _ (by omega) HZ9.out.1 HZ9.out.2.1).mono ?_
            rintro e u' w'' ⟨rfl, rfl, hA, hE, hK⟩
            exact asc_stop HSt9.out HE9.out (by rfl) (by rfl) (by rfl) HZ9.out.2.2.1 HZ9.out.2.2.2 hA hE hK _
          simp only at he
          subst he
          have HA3 := Lib.hid (HA2s.out.rd hK3 hL3)
          have HX3 := Lib.hid (HX2s.out.kp hK3 (by have := HA.out.l.r.lt; omega))
          have x2 := HX3.out.cell (i := 2) (v := .int .i64 0) rfl
          have f2 := HX3.out.free 2
          have HA3s := Lib.hid (AS.fresh HA.out HA3.out (Kp.set w3 ⟨wp.heap.size, 2, none⟩ (.int .i64 (n3 : Nat))) (fun j e => Nat.le_of_eq e.symm))
          have HX3s := Lib.hid (show Blk (w3.setCell ⟨wp.heap.size, 2, none⟩ (.int .i64 (n3 : Nat))) wp.heap.size #[.int .i64 (n1 : Nat), .int .i64 (n2 : Nat), .int .i64 (n3 : Nat)] 61 from HX3.out.set_same 2 _)
          clear hK3 hL3 HC3 HA3 HX3 yy
          obtain ⟨wx, hwx⟩ : ∃ wx, wx = w3.setCell ⟨wp.heap.size, 2, none⟩ (.int .i64 (n3 : Nat)) := ⟨_, rfl⟩
          rw [← hwx] at HA3s HX3s
          have HWx := Lib.hid hwx
          clear hwx
          go_upto_region 24 with fail
          rw [← HWx.out]
          clear HWx
          have z0 := HX3s.out.cell (i := 0) (v := .int .i64 (n1 : Nat)) rfl
          have z1 := HX3s.out.cell (i := 1) (v := .int .i64 (n2 : Nat)) rfl
          have z2 := HX3s.out.cell (i := 2) (v := .int .i64 (n3 : Nat)) rfl
          have o2 := HA3s.out.c.cell (i := 6) (v := .slice ga G.length gc) rfl
          have lo := HA3s.out.c.lt
          have HNew := Lib.hid (Blk.new wx #[.int .i64 (n1 : Nat), .int .i64 (n2 : Nat), .int .i64 (n3 : Nat)] 61)
          have HB8 := Lib.hid (HA3s.out.kp0 ((Kp.refl _ wx).alloc (.cells #[.int .i64 (n1 : Nat), .int .i64 (n2 : Nat), .int .i64 (n3 : Nat)] 61)))
          go_wp2_with (at_builtin; refine wpList_appendK rfl _ _ 24 61 rfl Tryz.underlying24 HIg.out rfl (by decide) HB8.out.ls.g rfl wx.heap.size [.int .i64 (n1 : Nat), .int .i64 (n2 : Nat), .int .i64 (n3 : Nat)] rfl rfl ?n0 ?m0 ?n1 ?n2 ?n3 ?_)
          case n0 => exact fun j u hj => HNew.out.cell (i := j) (by simpa using hj)
          case m0 => intro u hu; simp at hu; rcases hu with rfl | rfl | rfl <;> rfl
          case n1 => rw [List.length_map, HGn.out]; have := HNm.out; omega
          case n2 => rw [List.length_map, HGn.out]; have := HNm.out; unfold maxLen; omega
          case n3 => exact HB8.out.hi.2.2.2.2
          intro v' w9 hO9 hg9 hat9
          have hk9 : Kp (fun j => (.slice ga G.length gc : Value).ownBlock = some j) _ w9 := (Kp.refl _ _).grown hg9 (fun j hj _ => hj)
          have hput := HB8.out.grownG (G' := G ++ [((n1 : Int), (n2 : Int), (n3 : Int))]) hg9 (by rw [List.map_append]; exact hO9)
          have hcb := HB8.out.c.kp hk9 (fun h => by have := (HB8.out.ls.g.lt _ h).1; have := HB8.out.hi.2.2.1; omega)
          obtain ⟨la', lc', ev, -⟩ := hO9.form
          rw [List.length_append, List.length_map, List.length_singleton] at ev
          subst ev
          have o2 := hcb.cell (i := 6) (v := .slice ga G.length gc) rfl
          have f2 := hcb.free 6
          have HF := Lib.hid hput
          clear hO9 hg9 hat9 hk9 hput hcb HNew HB8 z0 z1 z2
          go_wp2_with fail
          go_roundw
          case rel => exact ⟨k + 1, G ++ [((n1 : Int), (n2 : Int), (n3 : Int))], p3, _, by go_num, by omega, by rw [List.length_append, HGn.out]; rfl, by rw [HJ.out, HE.out]; exact rdGatesA_g HR1.out HR2.out HR3.out rfl, HQ3.out, HF.out⟩
          case measure => simp [intOf]; omega
        · obtain rfl : nA = k := by omega
          rw [Nat.sub_self] at hE
          have HFi := Lib.hid (show R = (⟨(M : Int), I, L, O, D, N, G⟩, qq, 0) by rw [← HR.out]; exact rdA_fin HI.out HLt.out HO.out HD.out HN.out (show _ = (G, (qq, 0)) from hE))
          clear hE hlt hk HGn
          obtain ⟨ia, ic, ev, -⟩ := HA.out.ls.i.form
          rw [iv_length] at ev
          subst ev
          obtain ⟨-, o0, o1, o2, o3, o4, o5, o6, -⟩ := HA.out.cells
          have o7 := HA.out.c.cell (i := 7) (v := .slice none 0 0) rfl
          have o8 := HA.out.c.cell (i := 8) (v := .string ⟨#[]⟩) rfl
          have v0 := HA.out.l.v.cells1.1
          have r1 := HA.out.l.r.cells2.2.1
          have hzr : Blk wp (w.heap.size + 1) #[.int .i64 0, .slice none 0 0, .slice none 0 0, .slice none 0 0, .slice none 0 0, .slice none 0 0, .slice none 0 0, .slice none 0 0, .string ⟨#[]⟩] 27 := HA.out.r
          obtain ⟨c0, c1, c2, c3, c4, c5, c6, c7, c8⟩ := hzr.cells9
          have fc := hzr.free
          clear hzr
          obtain ⟨a0, fa⟩ := HA.out.a.cells1
          obtain ⟨e0, fe⟩ := HA.out.e.cells1
          have fc0 := fc 0
          have fc1 := fc 1
          have fc2 := fc 2
          have fc3 := fc 3
          have fc4 := fc 4
          have fc5 := fc 5
          have fc6 := fc 6
          have fc7 := fc 7
          have fc8 := fc 8
          clear fc h5
          have nrbr : br ≠ w.heap.size + 1 := by have := HA.out.ne; omega
          have mrbr : w.heap.size + 1 ≠ br := by have := HA.out.ne; omega
          have nrbv : bv ≠ w.heap.size + 1 := by have := HA.out.ne; omega
          have mrbv : w.heap.size + 1 ≠ bv := by have := HA.out.ne; omega
          have nrbo : bo ≠ w.heap.size + 1 := by have := HA.out.ne; omega
          have mrbo : w.heap.size + 1 ≠ bo := by have := HA.out.ne; omega
          have nabr : br ≠ w.heap.size + 1 + 1 := by have := HA.out.ne; omega
          have mabr : w.heap.size + 1 + 1 ≠ br := by have := HA.out.ne; omega
          have nabv : bv ≠ w.heap.size + 1 + 1 := by have := HA.out.ne; omega
          have mabv : w.heap.size + 1 + 1 ≠ bv := by have := HA.out.ne; omega
          have nabo : bo ≠ w.heap.size + 1 + 1 := by have := HA.out.ne; omega
          have mabo : w.heap.size + 1 + 1 ≠ bo := by have := HA.out.ne; omega
          have nebr : br ≠ w.heap.size + 1 + 1 + 1 := by have := HA.out.ne; omega
          have mebr : w.heap.size + 1 + 1 + 1 ≠ br := by have := HA.out.ne; omega
          have nebv : bv ≠ w.heap.size + 1 + 1 + 1 := by have := HA.out.ne; omega
          have mebv : w.heap.size + 1 + 1 + 1 ≠ bv := by have := HA.out.ne; omega
          have nebo : bo ≠ w.heap.size + 1 + 1 + 1 := by have := HA.out.ne; omega
          have mebo : w.heap.size + 1 + 1 + 1 ≠ bo := by have := HA.out.ne; omega
          go_wp2_with fail
          go_region
          all_goals go_wp2_with fail
          all_goals
            have hF := HA.out.fin (.int .i64 (M : Int)) (.slice ia I.length ic) (.slice la L.length lc) (.slice oa O.length oc) (.slice da D.length dc) (.slice na N.length nc) (.slice ga G.length gc) (.slice none 0 0) (.string ⟨#[]⟩) (.int .i64 (qq : Nat)) (.int .i64 0)
            unfold Go.Proofs.YtckmdcmkjmpiaaaGreatDoor.set9 at hF
            obtain ⟨hB, hA, hE, hK, hO⟩ := hF
            obtain ⟨s0, s1, s2, s3, s4, s5, s6, s7, s8⟩ := hB.cells9
            have sa := hA.cells1.1
            have se := hE.cells1.1
            refine leaves_cons (f := 30) (args := #[.pointer (some ⟨w.heap.size + 1 + 1, 0, none⟩), .pointer (some ⟨w.heap.size + 1 + 1 + 1, 0, none⟩)]) (by simp) (by simp [go_sem]) ?_
            refine (stopped_idle _ _ _).mono ?_
            rintro e u' w'' ⟨rfl, rfl, rfl⟩
            rw [HFi.out]
            refine ⟨.tuple #[.agg #[.int .i64 (M : Int), .slice ia I.length ic, .slice la L.length lc, .slice oa O.length oc, .slice da D.length dc, .slice na N.length nc, .slice ga G.length gc, .slice none 0 0, .string ⟨#[]⟩], .int .i64 (qq : Nat), .int .i64 0], ?_, .inr ⟨rfl, ⟨ia, ic, la, lc, oa, oc, da, dc, na, nc, ga, gc, none, 0, 0, ⟨#[]⟩⟩, rfl, ?_, rfl, rfl, rfl, rfl⟩, hK⟩
            · simp [results, Tryz.results33, go_sem, s0, s1, s2, s3, s4, s5, s6, s7, s8, sa, se]
            · exact BKeep.mono (rdC_keep (B := bl + 1) ⟨ownForm hO.i, hO.l.form, ownForm hO.o, ownForm hO.d, ownForm hO.n, hO.g.form⟩) (by have := HA.out.ne; omega)

end Go.Proofs.YtckmdcmkjmpiaaaGreatDoor

/-
  octet.Line and the reference's Line.
-/
namespace Go.Proofs.YtckmdcmkjmpiaaaGreatDoor
open Go.RowKit

def lineV (t : ByteArray × Nat × Nat) : Value := .tuple #[.string t.1, .int .i64 t.2.1, .int .i64 t.2.2]

theorem lineT_in {s : ByteArray} {at_ : Nat} (h : at_ ≤ s.size) : lineT s at_ = match feedAt s at_ with | some i => (s.extract at_ i, i + 1, 0) | none => (⟨#[]⟩, 0, 3) := by
  unfold lineT; rw [if_neg (by omega), Int.toNat_natCast] <;> rfl

set_option maxRecDepth 100000 in
set_option maxHeartbeats 1000000 in
theorem octet_Line_in (s : ByteArray) (at_ : Nat) (w : World) (hs : s.size ≤ 9223372036854775000) (ha : at_ ≤ s.size) :
    Calls Tryz.prog 72 #[.string s, .int .i64 at_] w fun e w' => e = .returned (lineV (lineT s at_)) ∧ w = w' := by
  have o1 : (decide ((at_ : Int) < 0) || decide ((s.size : Int) < (at_ : Int))) = false := by simp; omega
  have HI := Lib.hid (feed_index s at_)
  have HT := Lib.hid (lineT_in ha)
  rcases feed_cases s at_ with ⟨i, hf, h1, h2, h3, h4⟩ | ⟨hf, h4⟩
  · rw [hf] at HI HT
    clear hf h3 h4
    obtain ⟨n, rfl⟩ : ∃ n, i = at_ + n := ⟨i - at_, by omega⟩
    simp only [show at_ + n - at_ = n by omega] at HI
    go_enter Tryz.func72, Tryz.ntmps72
    go_wp2_with fail
    refine (octet_out _ _ _).mono ?_
    rintro e w' ⟨rfl, rfl⟩
    rw [o1]
    go_wp2_with fail
    refine (Tryz.strings_IndexByte _ _ _).mono ?_
    rintro e w' ⟨rfl, hw⟩
    have hw' := hw.symm; clear hw; subst hw'
    rw [show ((10 : Int).toNat.toUInt8) = 10 from rfl, HI.out]
    simp only
    go_wp2_with fail
    go_ret3
    rw [HT.out]
    exact ⟨rfl, rfl⟩
  · rw [hf] at HI HT
    clear hf h4
    go_enter Tryz.func72, Tryz.ntmps72
    go_wp2_with fail
    refine (octet_out _ _ _).mono ?_
    rintro e w' ⟨rfl, rfl⟩
    rw [o1]
    go_wp2_with fail
    refine (Tryz.strings_IndexByte _ _ _).mono ?_
    rintro e w' ⟨rfl, hw⟩
    have hw' := hw.symm; clear hw; subst hw'
    rw [show ((10 : Int).toNat.toUInt8) = 10 from rfl, HI.out]
    simp only
    go_wp2_with fail
    go_ret3
    rw [HT.out]
    exact ⟨rfl, rfl⟩

end Go.Proofs.YtckmdcmkjmpiaaaGreatDoor

/-
  tail.Count, thing, symbol; latchetref12.Count.
-/
namespace Go.Proofs.YtckmdcmkjmpiaaaGreatDoor
open Go.RowKit

def hdV (h : Hd) : Value := .agg #[.bool h.bin, .int .i64 h.m, .int .i64 h.i, .int .i64 h.l, .int .i64 h.o, .int .i64 h.a, .int .i64 h.b, .int .i64 h.c]
def hdCells (h : Hd) : Array Value := #[.bool h.bin, .int .i64 h.m, .int .i64 h.i, .int .i64 h.l, .int .i64 h.o, .int .i64 h.a, .int .i64 h.b, .int .i64 h.c]

theorem cnt_none {h : Hd} {k : Nat} (hk : ¬ isKind k) : cnt h k = 0 := by
  unfold isKind at hk
  unfold cnt
  rw [if_neg (by omega), if_neg (by omega), if_neg (by omega), if_neg (by omega), if_neg (by omega)]

set_option maxHeartbeats 1000000 in
theorem tail_Count (h : Hd) (k : Nat) (w : World) :
    Calls Tryz.prog 55 #[hdV h, .int .u8 k] w fun e w' => e = .returned (.int .i64 (cnt h k)) ∧ Kp (fun _ => False) w w' := by
  obtain ⟨bin, m, i, l, o, a, b, c⟩ := h
  unfold hdV
  by_cases hk : isKind k
  · rcases hk with rfl | rfl | rfl | rfl | rfl
    all_goals
      go_enter Tryz.func55, Tryz.ntmps55
      go_wp2
      go_ret
      exact ⟨by simp [cnt], (Kp.refl _ w).alloc _⟩
  · have HC := Lib.hid (cnt_none (h := ⟨bin, m, i, l, o, a, b, c⟩) hk)
    unfold isKind at hk
    have b1 : ((k : Int) == 105) = false := by simp; omega
    have b2 : ((k : Int) == 108) = false := by simp; omega
    have b3 : ((k : Int) == 111) = false := by simp; omega
    have b4 : ((k : Int) == 98) = false := by simp; omega
    have b5 : ((k : Int) == 99) = false := by simp; omega
    clear hk
    go_enter Tryz.func55, Tryz.ntmps55
    go_wp2
    go_ret
    rw [HC.out]
    exact ⟨rfl, (Kp.refl _ w).alloc _⟩

set_option maxHeartbeats 1000000 in
theorem tail_thing (k n : Int) (nm : ByteArray) (w : World) :
    Calls Tryz.prog 37 #[.agg #[.int .u8 k, .int .i64 n, .string nm]] w fun e w' => e = .returned (.agg #[.int .u8 k, .int .i64 n, .string ⟨#[]⟩]) ∧ Kp (fun _ => False) w w' := by
  go_enter Tryz.func37, Tryz.ntmps37
  go_wp2
  exact bodyPost_ret (v := .agg #[.int .u8 k, .int .i64 n, .string ⟨#[]⟩]) (by simp [results, Tryz.results37, go_sem]) rfl ⟨rfl, ((Kp.refl _ w).alloc _).alloc _⟩

end Go.Proofs.YtckmdcmkjmpiaaaGreatDoor

/-
  tail.symbol.
-/
namespace Go.Proofs.YtckmdcmkjmpiaaaGreatDoor
open Go.RowKit

def symOut (k : Nat) : SymR → Value
  | .bad p e => .tuple #[.agg #[.int .u8 (k : Int), .int .i64 0, .string ⟨#[]⟩], .int .i64 (p : Int), .int .i64 (e : Int)]
  | .ok x next => .tuple #[.agg #[.int .u8 (x.kind : Int), .int .i64 (x.idx : Int), .string x.name], .int .i64 (next : Int), .int .i64 0]

theorem kind_index {k : Nat} (hk : k < 256) : decide (Lib.indexByte [105, 108, 111, 98, 99] (UInt8.ofNat k) < 0) = !decide (isKind k) := by
  have : ∀ k : Nat, k < 256 → decide (Lib.indexByte [105, 108, 111, 98, 99] (UInt8.ofNat k) < 0) = !decide (isKind k) := by decide +kernel
  exact this k hk

theorem newS3 (w : World) (c0 c1 c2 : Array Value) (t0 t1 t2 : TypeId) :
    Blk (((w.alloc (.cells c0 t0)).alloc (.cells c1 t1)).alloc (.cells c2 t2)) w.heap.size c0 t0 ∧ Blk (((w.alloc (.cells c0 t0)).alloc (.cells c1 t1)).alloc (.cells c2 t2)) (w.heap.size + 1) c1 t1 ∧ Blk (((w.alloc (.cells c0 t0)).alloc (.cells c1 t1)).alloc (.cells c2 t2)) (w.heap.size + 1 + 1) c2 t2 := by
  refine ⟨((Blk.new w c0 t0).alloc _).alloc _, ?_, ?_⟩
  · have := (Blk.new (w.alloc (.cells c0 t0)) c1 t1).alloc (.cells c2 t2)
    simpa using this
  · have := Blk.new ((w.alloc (.cells c0 t0)).alloc (.cells c1 t1)) c2 t2
    simpa using this

theorem bytes_empty {b : ByteArray} (h : b.size = 0) : b = ⟨#[]⟩ := by
  apply ByteArray.ext
  exact Array.eq_empty_of_size_eq_zero h

theorem bytes_some {b : ByteArray} (h : ¬ b.size = 0) : b.toList.isEmpty = false := by
  rw [Lib.toList_data]
  cases hb : b.data.toList with
  | nil => exact absurd (by rw [Lib.size_eq, hb]; rfl) h
  | cons x l => rfl

theorem symT_kind {h : Hd} {s : ByteArray} {p : Nat} (c : ¬ isKind (bt s p)) : symT h s p = .bad p 2 := by unfold symT; rw [if_pos c]

/-- what symbol leaves -/
def SymPost (h : Hd) (s : ByteArray) (p : Nat) (w : World) (e : Ending) (w' : World) : Prop := e = .returned (symOut (bt s p) (symT h s p)) ∧ Kp (fun _ => False) w w'

set_option maxRecDepth 100000 in
set_option maxHeartbeats 4000000 in
theorem tail_symbol (h : Hd) (s : ByteArray) (p : Nat) (w : World) (hs : s.size ≤ 9223372036854775000) (hp : p < s.size) :
    Calls Tryz.prog 36 #[.string s, .int .i64 p, hdV h] w (SymPost h s p w) := by
  have hb := bt_eq hp
  have hb2 := bt_lt s p
  have HX := Lib.hid (kind_index hb2)
  by_cases c1 : isKind (bt s p)
  · have q1 : decide (Lib.indexByte [105, 108, 111, 98, 99] (UInt8.ofNat (bt s p)) < 0) = false := by rw [HX.out]; simp [c1]
    have C1 := Lib.hid c1; clear c1 HX
    obtain ⟨n, en, er, hN⟩ : ∃ n en er, natN s (p + 1) = (n, en, er) := ⟨_, _, _, rfl⟩
    have HNE := Lib.hid (natN_end (s := s) (p := p + 1) (by omega))
    have HN := Lib.hid (fun u => octet_Nat_in s (p + 1) u hs (by omega))
    have HL0 := Lib.hid (fun (q : Nat) (hq : q ≤ s.size) u => octet_Line_in s q u hs hq)
    rw [hN] at HN HNE
    unfold tripI at HN
    unfold lineV at HL0
    have HNN := Lib.hid hN; clear hN
    have HP : Hid (∀ (r : SymR) (w' : World), symT h s p = r → Kp (fun _ => False) w w' → SymPost h s p w (.returned (symOut (bt s p) r)) w') := fun r w' h1 h2 => ⟨by rw [h1], h2⟩
    obtain ⟨k, hk⟩ : ∃ k, bt s p = k := ⟨_, rfl⟩
    have HKK := Lib.hid hk
    rw [hk] at hb hb2 q1 C1 HP
    clear hk
    obtain ⟨C, hC⟩ : ∃ C, cnt h k = C := ⟨_, rfl⟩
    have HCT := Lib.hid (fun u => tail_Count h k u)
    rw [hC] at HCT
    have HCC := Lib.hid hC; clear hC
    obtain ⟨b0, b1, b2⟩ := newS3 w (hdCells h) #[.int .u8 0, .int .i64 0, .string ⟨#[]⟩] #[.int .u8 (k : Int), .int .i64 0, .string ⟨#[]⟩] 42 63 63
    obtain ⟨hd, hhd⟩ : ∃ hd, hd = h := ⟨_, rfl⟩
    have HS1 := Lib.hid (fun c2 => sym1 (h := h) (by rw [HKK.out]; exact C1.out) HNN.out c2)
    have HS2 := Lib.hid (fun c2 c3 => sym2 (h := h) (by rw [HKK.out]; exact C1.out) HNN.out c2 (by rw [HKK.out, HCC.out]; exact c3))
    have HS3 := Lib.hid (fun c2 c3 c4 => sym3 (h := h) (by rw [HKK.out]; exact C1.out) HNN.out c2 (by rw [HKK.out, HCC.out]; exact c3) c4)
    have HS4 := Lib.hid (fun c2 c3 c4 c5 => sym4 (h := h) (by rw [HKK.out]; exact C1.out) HNN.out c2 (by rw [HKK.out, HCC.out]; exact c3) c4 c5)
    have HS5 := Lib.hid (fun c2 c3 c4 c5 nm nx f hL c6 => sym5 (nm := nm) (nx := nx) (f := f) (h := h) (by rw [HKK.out]; exact C1.out) HNN.out c2 (by rw [HKK.out, HCC.out]; exact c3) c4 c5 hL c6)
    have HS6 := Lib.hid (fun c2 c3 c4 c5 nm nx f hL c6 c7 => sym6 (nm := nm) (nx := nx) (f := f) (h := h) (by rw [HKK.out]; exact C1.out) HNN.out c2 (by rw [HKK.out, HCC.out]; exact c3) c4 c5 hL c6 c7)
    have HS7 := Lib.hid (fun c2 c3 c4 c5 nm nx f hL c6 c7 c8 => sym7 (nm := nm) (nx := nx) (f := f) (h := h) (by rw [HKK.out]; exact C1.out) HNN.out c2 (by rw [HKK.out, HCC.out]; exact c3) c4 c5 hL c6 c7 c8)
    have HS8 := Lib.hid (fun c2 c3 c4 c5 nm nx f hL c6 c7 c8 => sym8 (nm := nm) (nx := nx) (f := f) (h := h) (by rw [HKK.out]; exact C1.out) HNN.out c2 (by rw [HKK.out, HCC.out]; exact c3) c4 c5 hL c6 c7 c8)
    rw [← hhd] at HP HS1 HS2 HS3 HS4 HS5 HS6 HS7 HS8 ⊢
    have HHD := Lib.hid hhd; clear hhd
    rw [HHD.out]
    obtain ⟨bin, m, i, l, o, a, b, c⟩ := h
    unfold hdV at HCT ⊢
    unfold hdCells at b0 b1 b2
    have HB := Lib.hid (And.intro b0 (And.intro b1 b2)); clear b0 b1 b2
    simp only at HB HCT ⊢
    rw [← HHD.out]
    clear HHD HCC HNN C1
    go_enter Tryz.func36, Tryz.ntmps36
    go_wp2_with fail
    refine (Tryz.strings_IndexByte _ _ _).mono ?_
    rintro e w' ⟨rfl, hw⟩
    have hw' := hw.symm; clear hw; subst hw'
    go_wp2_with fail
    refine (HN.out _).mono ?_
    rintro e w2 ⟨rfl, hK2⟩
    have hKw : Kp (fun _ => False) w w2 := ((((Kp.refl _ w).alloc _).alloc _).alloc _).trans hK2 (fun _ _ h => h)
    have b0 := HB.out.1.kp hK2 (fun h => h)
    have b1 := HB.out.2.1.kp hK2 (fun h => h)
    have b2 := HB.out.2.2.kp hK2 (fun h => h)
    clear HB hK2 q1
    have HKE : Hid (∀ k n m, Kp (fun _ => False) w (((w2.setCell ⟨w.heap.size + 1, 0, none⟩ k).setCell ⟨w.heap.size + 1, 1, none⟩ n).setCell ⟨w.heap.size + 1, 2, none⟩ m)) := fun k n m => ((hKw.setCell (p := ⟨w.heap.size + 1, 0, none⟩) (by simp) k).setCell (p := ⟨w.heap.size + 1, 1, none⟩) (by simp) n).setCell (p := ⟨w.heap.size + 1, 2, none⟩) (by simp) m
    have x0 := b2.cell (i := 0) rfl
    have r0 := b1.cell (i := 0) rfl
    have f0 := b1.free 0
    have g0 := b2.free 0
    have x1 := b2.cell (i := 1) rfl
    have r1 := b1.cell (i := 1) rfl
    have f1 := b1.free 1
    have g1 := b2.free 1
    have x2 := b2.cell (i := 2) rfl
    have r2 := b1.cell (i := 2) rfl
    have f2 := b1.free 2
    have g2 := b2.free 2
    have h0 := b0.cell (i := 0) rfl
    have h1 := b0.cell (i := 1) rfl
    have h2 := b0.cell (i := 2) rfl
    have h3 := b0.cell (i := 3) rfl
    have h4 := b0.cell (i := 4) rfl
    have h5 := b0.cell (i := 5) rfl
    have h6 := b0.cell (i := 6) rfl
    have h7 := b0.cell (i := 7) rfl
    have HB2 := Lib.hid (And.intro b0 (And.intro b1 b2)); clear b0 b1 b2
    by_cases c2 : er = 0
    · have d2 : ((er : Int) != 0) = false := by simp; omega
      obtain ⟨hne1, hne2, hne3⟩ := HNE.out c2
      have C2 := Lib.hid c2; clear c2
      go_wp2_with fail
      refine (HCT.out _).mono ?_
      rintro e w3 ⟨rfl, hK3⟩
      have hKw3 := hKw.trans hK3 (fun _ _ h => h)
      clear x0 r0 f0 g0 x1 r1 f1 g1 x2 r2 f2 g2 h0 h1 h2 h3 h4 h5 h6 h7 HKE
      have b0 := HB2.out.1.kp hK3 (fun h => h)
      have b1 := HB2.out.2.1.kp hK3 (fun h => h)
      have b2 := HB2.out.2.2.kp hK3 (fun h => h)
      have HKE : Hid (∀ k n m, Kp (fun _ => False) w (((w3.setCell ⟨w.heap.size + 1, 0, none⟩ k).setCell ⟨w.heap.size + 1, 1, none⟩ n).setCell ⟨w.heap.size + 1, 2, none⟩ m)) := fun k n m => ((hKw3.setCell (p := ⟨w.heap.size + 1, 0, none⟩) (by simp) k).setCell (p := ⟨w.heap.size + 1, 1, none⟩) (by simp) n).setCell (p := ⟨w.heap.size + 1, 2, none⟩) (by simp) m
      have HKE2 : Hid (∀ k n m n2 m2, Kp (fun _ => False) w (((((w3.setCell ⟨w.heap.size + 1 + 1, 1, none⟩ n2).setCell ⟨w.heap.size + 1 + 1, 2, none⟩ m2).setCell ⟨w.heap.size + 1, 0, none⟩ k).setCell ⟨w.heap.size + 1, 1, none⟩ n).setCell ⟨w.heap.size + 1, 2, none⟩ m)) := fun k n m n2 m2 => ((((hKw3.setCell (p := ⟨w.heap.size + 1 + 1, 1, none⟩) (by simp; omega) n2).setCell (p := ⟨w.heap.size + 1 + 1, 2, none⟩) (by simp; omega) m2).setCell (p := ⟨w.heap.size + 1, 0, none⟩) (by simp) k).setCell (p := ⟨w.heap.size + 1, 1, none⟩) (by simp) n).setCell (p := ⟨w.heap.size + 1, 2, none⟩) (by simp) m
      have x0 := b2.cell (i := 0) rfl
      have r0 := b1.cell (i := 0) rfl
      have f0 := b1.free 0
      have g0 := b2.free 0
      have x1 := b2.cell (i := 1) rfl
      have r1 := b1.cell (i := 1) rfl
      have f1 := b1.free 1
      have g1 := b2.free 1
      have x2 := b2.cell (i := 2) rfl
      have r2 := b1.cell (i := 2) rfl
      have f2 := b1.free 2
      have g2 := b2.free 2
      clear b0 b1 b2 hK3 HB2
      by_cases c3 : C ≤ (n : Int)
      · have HT := Lib.hid (HS2.out C2.out c3)
        have d3 : decide (C ≤ (n : Int)) = true := by simp [c3]
        clear c3
        go_wp2_with fail
        refine bodyPost_ret (v := symOut k (.bad (p + 1) 5)) (by simp [results, Tryz.results36, go_sem, symOut, r0, r1, r2]) rfl (HP.out _ _ ?_ ?_)
        · exact HT.out
        · exact HKE.out _ _ _
      · have d3 : decide (C ≤ (n : Int)) = false := by simp [c3]
        have C3 := Lib.hid c3; clear c3
        by_cases c4 : en = s.size
        · have HT := Lib.hid (HS3.out C2.out (by have := C3.out; omega) c4)
          have d4 : ((en : Int) == (s.size : Int)) = true := by simp [c4]
          clear c4
          go_wp2_with fail
          refine bodyPost_ret (v := symOut k (.bad en 3)) (by simp [results, Tryz.results36, go_sem, symOut, r0, r1, r2]) rfl (HP.out _ _ ?_ ?_)
          · exact HT.out
          · exact HKE.out _ _ _
        · have d4 : ((en : Int) == (s.size : Int)) = false := by simp; omega
          have hlt : en < s.size := by omega
          have hbe := bt_eq hlt
          have e0 : (0 : Int) ≤ (en : Int) := by omega
          have e1 : (en : Int) < (s.size : Int) := by omega
          have C4 := Lib.hid c4; clear c4
          obtain ⟨B, hB⟩ : ∃ B, bt s en = B := ⟨_, rfl⟩
          rw [hB] at hbe
          have HBE := Lib.hid hB; clear hB
          by_cases c5 : B = 32
          · have d5 : ((B : Int) != 32) = false := by simp; omega
            obtain ⟨nm, nx, f, hL⟩ : ∃ nm nx f, lineT s (en + 1 : Nat) = (nm, nx, f) := ⟨_, _, _, rfl⟩
            have HL := Lib.hid (HL0.out (en + 1) (by omega))
            rw [hL] at HL
            have HLL := Lib.hid hL; clear hL
            have C5 : Hid (bt s en = 32) := by show _ = _; rw [HBE.out]; exact c5
            clear c5
            by_cases c6 : f = 0
            · have d6 : ((f : Int) != 0) = false := by simp; omega
              have C6 := Lib.hid c6; clear c6
              by_cases c7 : nm.size = 0
              · have HT := Lib.hid (HS6.out C2.out (by have := C3.out; omega) C4.out C5.out nm nx f HLL.out C6.out c7)
                have d7 := bytes_empty c7
                subst d7
                clear c7
                go_wp2_with fail
                refine (HL.out _).mono ?_
                rintro e w' ⟨rfl, rfl⟩
                go_wp2_with fail
                refine bodyPost_ret (v := symOut k (.bad (en + 1) 2)) (by simp [results, Tryz.results36, go_sem, symOut, r0, r1, r2]) rfl (HP.out _ _ ?_ ?_)
                · exact HT.out
                · exact HKE.out _ _ _
              · have d7 := bytes_some c7
                have C7 := Lib.hid c7; clear c7
                by_cases c8 : 64 < nm.size
                · have HT := Lib.hid (HS7.out C2.out (by have := C3.out; omega) C4.out C5.out nm nx f HLL.out C6.out C7.out c8)
                  have d8 : decide ((64 : Int) < (nm.size : Int)) = true := by simp; omega
                  clear c8
                  go_wp2_with fail
                  refine (HL.out _).mono ?_
                  rintro e w' ⟨rfl, rfl⟩
                  go_wp2_with fail
                  refine bodyPost_ret (v := symOut k (.bad (en + 1) 4)) (by simp [results, Tryz.results36, go_sem, symOut, r0, r1, r2]) rfl (HP.out _ _ ?_ ?_)
                  · exact HT.out
                  · exact HKE.out _ _ _
                · have HT := Lib.hid (HS8.out C2.out (by have := C3.out; omega) C4.out C5.out nm nx f HLL.out C6.out C7.out c8)
                  rw [HKK.out] at HT
                  have d8 : decide ((64 : Int) < (nm.size : Int)) = false := by simp; omega
                  clear c8
                  go_wp2_with fail
                  refine (HL.out _).mono ?_
                  rintro e w' ⟨rfl, rfl⟩
                  go_wp2_with fail
                  refine bodyPost_ret (v := symOut k (.ok ⟨k, n, nm⟩ nx)) (by simp [results, Tryz.results36, go_sem, symOut, r0, r1, r2]) rfl (HP.out _ _ ?_ ?_)
                  · exact HT.out
                  · exact HKE2.out _ _ _ _ _
            · have d6 : ((f : Int) != 0) = true := by simp; omega
              have HT := Lib.hid (HS5.out C2.out (by have := C3.out; omega) C4.out C5.out nm nx f HLL.out c6)
              clear c6
              go_wp2_with fail
              refine (HL.out _).mono ?_
              rintro e w' ⟨rfl, rfl⟩
              go_wp2_with fail
              refine bodyPost_ret (v := symOut k (.bad (en + 1) f)) (by simp [results, Tryz.results36, go_sem, symOut, r0, r1, r2]) rfl (HP.out _ _ ?_ ?_)
              · exact HT.out
              · exact HKE.out _ _ _
          · have HT := Lib.hid (HS4.out C2.out (by have := C3.out; omega) C4.out (by rw [HBE.out]; exact c5))
            have d5 : ((B : Int) != 32) = true := by simp; omega
            clear c5
            go_wp2_with fail
            refine bodyPost_ret (v := symOut k (.bad en 2)) (by simp [results, Tryz.results36, go_sem, symOut, r0, r1, r2]) rfl (HP.out _ _ ?_ ?_)
            · exact HT.out
            · exact HKE.out _ _ _
    · have HT := Lib.hid (HS1.out c2)
      have d2 : ((er : Int) != 0) = true := by simp; omega
      clear c2
      go_wp2_with fail
      refine bodyPost_ret (v := symOut k (.bad (p + 1) er)) (by simp [results, Tryz.results36, go_sem, symOut, r0, r1, r2]) rfl (HP.out _ _ ?_ ?_)
      · exact HT.out
      · exact HKE.out _ _ _
  · have HT := Lib.hid (symT_kind (h := h) c1)
    have q1 : decide (Lib.indexByte [105, 108, 111, 98, 99] (UInt8.ofNat (bt s p)) < 0) = true := by rw [HX.out]; simp [c1]
    have HP : Hid (∀ w', Kp (fun _ => False) w w' → SymPost h s p w (.returned (symOut (bt s p) (.bad p 2))) w') := fun w' h2 => ⟨by rw [HT.out], h2⟩
    obtain ⟨hd, hhd⟩ : ∃ hd, hd = h := ⟨_, rfl⟩
    rw [← hhd] at HT HP ⊢
    have HHD := Lib.hid hhd; clear hhd
    rw [HHD.out]
    obtain ⟨bin, m, i, l, o, a, b, c⟩ := h
    unfold hdV
    simp only
    rw [← HHD.out]
    clear HHD
    go_enter Tryz.func36, Tryz.ntmps36
    go_wp2_with fail
    refine (Tryz.strings_IndexByte _ _ _).mono ?_
    rintro e w' ⟨rfl, hw⟩
    have hw' := hw.symm; clear hw; subst hw'
    go_wp2_with fail
    exact bodyPost_ret (v := symOut (bt s p) (.bad p 2)) (by simp [results, Tryz.results36, go_sem, symOut]) rfl (HP.out _ ((((Kp.refl _ w).alloc _).alloc _).alloc _))

end Go.Proofs.YtckmdcmkjmpiaaaGreatDoor

/-
  A map of the call's own, keyed by symbols' kinds and places, that holds truths: which are there.
-/
namespace Go.Proofs.YtckmdcmkjmpiaaaGreatDoor
open Go.RowKit
open Go.Maps (Keyed)

def symKey (k n : Nat) : Value := .agg #[.int .u8 (k : Int), .int .i64 (n : Int), .string ⟨#[]⟩]

theorem sym_keyed : Keyed Tryz.prog 63 :=
  Keyed.of_law (deep_law_laid (m := 8) (by kernel_rfl) (by decide) (of_decide_eq_true (by kernel_rfl)) (by kernel_rfl) (by kernel_rfl))

theorem sym_cells : Tryz.prog.cellsOf 63 = 3 := by kernel_rfl
theorem sym_cells0 : Tryz.prog.cellsOf 5 = 1 := by kernel_rfl
theorem sym_cells1 : Tryz.prog.cellsOf 3 = 1 := by kernel_rfl
theorem sym_cells2 : Tryz.prog.cellsOf 9 = 1 := by kernel_rfl
theorem sym_isKey : Tryz.prog.keyType 63 = true := by kernel_rfl

theorem sym_key {k n : Nat} (hk : k < 256) (hn : n < 1000000000) : ∃ l, keyOf Tryz.prog 63 (symKey k n) = some l := by
  have hpos : 0 < Tryz.prog.types.size := of_decide_eq_true (by kernel_rfl)
  obtain ⟨d, hd⟩ : ∃ d, Tryz.prog.types.size = d + 1 := ⟨Tryz.prog.types.size - 1, by omega⟩
  have w1 : (Lit.int .u8 (k : Int)).wf = true := by simp [Lit.wf, IntKind.min, IntKind.max, IntKind.signed, IntKind.bits]; omega
  have w2 : (Lit.int .i64 (n : Int)).wf = true := by simp [Lit.wf, IntKind.min, IntKind.max, IntKind.signed, IntKind.bits]; omega
  have hz : (⟨#[]⟩ : ByteArray).size ≤ maxLen := Nat.zero_le _
  have hl : Tryz.prog.keyLits (d + 1 + 1) 63 [.int .u8 (k : Int), .int .i64 (n : Int), .string ⟨#[]⟩] = some [.int .u8 (k : Int), .int .i64 (n : Int), .string []] := by
    simp [Program.keyLits, Tryz.underlying63, sym_cells, sym_cells0, sym_cells1, sym_cells2, Tryz.underlying5, Tryz.underlying3, Tryz.underlying9, w1, w2, hz]
  have hk : keyOf Tryz.prog 63 (symKey k n) = some (.string (keyBytes [.int .u8 (k : Int), .int .i64 (n : Int), .string []])) := by
    unfold keyOf
    rw [Tryz.underlying63]
    simp only
    rw [sym_isKey, hd]
    rw [show Value.formed Tryz.prog 63 (symKey k n) = true by simp [Value.formed, symKey, Tryz.underlying63, sym_cells]]
    simp only [Bool.and_self, if_true]
    rw [show (symKey k n).cells.toList = [.int .u8 (k : Int), .int .i64 (n : Int), .string ⟨#[]⟩] from rfl, hl]
    rfl
  exact ⟨_, hk⟩

theorem bool_elem {H : Type} {P : Program} {e : TypeId} (he : P.underlying e = some .bool) {v : Value} {x : Bool} {ps : List MemPlace} (h : plainElem (H := H) P e v = some (.lit (.bool x), ps)) : v = .bool x := by
  unfold plainElem at h
  rw [he] at h
  cases v <;> simp at h
  rw [h.1]

theorem zero_bool (w : World) : (zeroValue 4).run Tryz.prog w = .ok (.bool false) w := Tryz.zeroValue4 w

/-- block b is a map in which just those of L are so -/
def Seen (w : World) (b n : Nat) (L : List (Nat × Nat)) : Prop :=
  ∃ D : DataW Unit, w.ownsMap Tryz.prog 63 (plainElem Tryz.prog 4) b n D ∧ Maps.IsMap D ∧
    ∀ k i l, keyOf Tryz.prog 63 (symKey k i) = some l → D.atKey l (.lit (.bool false)) = .lit (.bool (L.contains (k, i)))

theorem Seen.made (w : World) : Seen (w.alloc (.map #[] 0)) w.heap.size 0 [] :=
  ⟨.map [], World.ownsMap_made _ _ _ _, Maps.isMap_empty, fun k i l _ => by simp [DataW.atKey]⟩

theorem Seen.lt {w : World} {b n : Nat} {L : List (Nat × Nat)} (h : Seen w b n L) : b < w.heap.size := by
  obtain ⟨D, h, _⟩ := h
  exact h.lt

theorem Seen.kp {S : Nat → Prop} {w w' : World} {b n : Nat} {L : List (Nat × Nat)} (h : Seen w b n L) (k : Kp S w w') (hS : ¬ S b) : Seen w' b n L := by
  have hb := h.lt
  obtain ⟨D, ⟨es, clock, h1, h2⟩, h3⟩ := h
  exact ⟨D, ⟨es, clock, (k.block b hb hS).trans h1, h2⟩, h3⟩

theorem Seen.look {w : World} {b n : Nat} {L : List (Nat × Nat)} (h : Seen w b n L) {k i : Nat} (hk : k < 256) (hi : i < 1000000000) :
    (Instr.lookup 81 (.map (some b)) (symKey k i) false).run Tryz.prog w = .ok (.bool (L.contains (k, i))) w := by
  obtain ⟨D, h1, _, h2⟩ := h
  obtain ⟨l, hl⟩ := sym_key hk hi
  obtain ⟨v, ps, hr, hv⟩ := h1.lookup sym_keyed Tryz.underlying81 (zero_bool w) (plainElem_bool Tryz.underlying4 false) hl
  rw [h2 k i l hl] at hv
  rw [bool_elem Tryz.underlying4 hv] at hr
  exact hr

theorem Seen.put {w : World} {b n : Nat} {L : List (Nat × Nat)} (h : Seen w b n L) (hn : n < maxLen) {k i : Nat} (hk : k < 256) (hi : i < 1000000000) :
    ∃ w', (Instr.mapUpdate 81 (.map (some b)) (symKey k i) (.bool true)).run Tryz.prog w = .ok () w' ∧ Seen w' b (n + 1) (L ++ [(k, i)]) ∧ Kp (· = b) w w' := by
  obtain ⟨D, h1, hD, h2⟩ := h
  obtain ⟨l, hl⟩ := sym_key hk hi
  obtain ⟨w', hr, h3, hg⟩ := h1.update sym_keyed Tryz.underlying81 hn hl (plainElem_bool Tryz.underlying4 true)
  refine ⟨w', hr, ⟨_, h3, hD.put _ _, fun k' i' l' hl' => ?_⟩, (Kp.refl _ w).grown hg (fun j hj _ => by simpa using hj.symm)⟩
  by_cases e : (k', i') = (k, i)
  · obtain ⟨rfl, rfl⟩ := Prod.mk.inj e
    obtain rfl : l = l' := Option.some.inj (hl.symm.trans hl')
    rw [Maps.atKey_put_same hD (sym_keyed.key hl)]
    simp
  · have hne : l' ≠ l := by
      intro e2
      subst e2
      have := sym_keyed.inj hl' hl
      unfold symKey at this
      simp at this
      exact e (by rw [Prod.mk.injEq]; omega)
    rw [Maps.atKey_put_other hne, h2 k' i' l' hl']
    have : (L ++ [(k, i)]).contains (k', i') = L.contains (k', i') := by
      simp only [List.contains_eq_mem, List.mem_append, List.mem_singleton]
      simp [e]
    rw [this]

end Go.Proofs.YtckmdcmkjmpiaaaGreatDoor

/-
  tail.Read.
-/
namespace Go.Proofs.YtckmdcmkjmpiaaaGreatDoor
open Go.RowKit

def symCells (x : Sym) : List Value := [.int .u8 (x.kind : Int), .int .i64 (x.idx : Int), .string x.name]
def symAt (x : Sym) : Nat × Nat := (x.kind, x.idx)

theorem any_contains (L : List Sym) (x : Sym) : (L.map symAt).contains (x.kind, x.idx) = L.any (fun y => alike y x) := by
  induction L with
  | nil => rfl
  | cons y L ih =>
    rw [List.map_cons, List.contains_cons, List.any_cons, ih]
    congr 1
    unfold alike symAt
    rw [Bool.eq_iff_iff]
    simp
    constructor
    · rintro ⟨h1, h2⟩; exact ⟨h1.symm, h2.symm⟩
    · rintro ⟨h1, h2⟩; exact ⟨h1.symm, h2.symm⟩

theorem mark_prefix {s : ByteArray} {p : Nat} (hp : p < s.size) : Lib.hasPrefix (s.extract p s.size).data.toList [99, 10] = decide (markAt s p) := by
  rw [Lib.extract_to_end]
  rw [Bool.eq_iff_iff, decide_eq_true_iff]
  unfold Lib.hasPrefix markAt
  have h0 : p < s.data.toList.length := by simpa using hp
  rw [List.drop_eq_getElem_cons h0]
  obtain ⟨b, hb, hb2⟩ := byte_at hp
  rw [List.getElem?_eq_getElem h0] at hb
  have e0 : s.data.toList[p] = b := Option.some.inj hb
  rw [e0]
  by_cases h1 : p + 1 < s.size
  · have h1' : p + 1 < s.data.toList.length := by simpa using h1
    rw [List.drop_eq_getElem_cons h1']
    obtain ⟨c, hc, hc2⟩ := byte_at h1
    rw [List.getElem?_eq_getElem h1'] at hc
    have e1 : s.data.toList[p + 1] = c := Option.some.inj hc
    rw [e1, ← hb2, ← hc2]
    simp only [List.isPrefixOf_cons_cons, List.isPrefixOf_nil_left, Bool.and_true, Bool.and_eq_true, beq_iff_eq]
    constructor
    · rintro ⟨r1, r2⟩; subst r1 r2; exact ⟨rfl, h1, rfl⟩
    · rintro ⟨r1, _, r2⟩; exact ⟨UInt8.toNat_inj.1 r1.symm, UInt8.toNat_inj.1 r2.symm⟩
  · rw [List.drop_eq_nil_of_le (by simp; omega)]
    constructor
    · intro h; simp [List.isPrefixOf] at h
    · intro h; exact absurd h.2.1 h1

theorem mark_rest {s : ByteArray} {p : Nat} (hp : p < s.size) (h : markAt s p) : (⟨(Lib.trimPrefix (s.extract p s.size).data.toList [99, 10]).toArray⟩ : ByteArray) = s.extract (p + 2) s.size := by
  unfold Lib.trimPrefix
  rw [mark_prefix hp]
  rw [if_pos (by simpa using h), Lib.extract_to_end]
  apply ByteArray.ext
  apply Array.ext'
  rw [Lib.extract_to_end]
  simp

theorem symT_err {h : Hd} {s : ByteArray} {p p' e : Nat} (hs : symT h s p = .bad p' e) : e ≠ 0 := by
  unfold symT at hs
  by_cases c1 : ¬ isKind (bt s p)
  · rw [if_pos c1] at hs; injection hs; omega
  rw [if_neg c1] at hs
  by_cases c2 : (natN s (p + 1)).2.2 ≠ 0
  · rw [if_pos c2] at hs; injection hs; omega
  rw [if_neg c2] at hs
  by_cases c3 : cnt h (bt s p) ≤ (natN s (p + 1)).1
  · rw [if_pos c3] at hs; injection hs; omega
  rw [if_neg c3] at hs
  by_cases c4 : (natN s (p + 1)).2.1 = s.size
  · rw [if_pos c4] at hs; injection hs; omega
  rw [if_neg c4] at hs
  by_cases c5 : bt s (natN s (p + 1)).2.1 ≠ 32
  · rw [if_pos c5] at hs; injection hs; omega
  rw [if_neg c5] at hs
  by_cases c6 : (lineT s ((natN s (p + 1)).2.1 + 1 : Nat)).2.2 ≠ 0
  · rw [if_pos c6] at hs; injection hs; omega
  rw [if_neg c6] at hs
  by_cases c7 : (lineT s ((natN s (p + 1)).2.1 + 1 : Nat)).1.size = 0
  · rw [if_pos c7] at hs; injection hs; omega
  rw [if_neg c7] at hs
  by_cases c8 : 64 < (lineT s ((natN s (p + 1)).2.1 + 1 : Nat)).1.size
  · rw [if_pos c8] at hs; injection hs; omega
  rw [if_neg c8] at hs
  cases hs

theorem symInfo : (Tryz.prog.info? 63).map (fun i => (i.zero, i.size, i.bytes)) = some (some (.agg #[.int .u8 0, .int .i64 0, .string .empty]), 3, 32) := by kernel_rfl

/-- what Read leaves -/
def ReadPost (R : TailR) (w : World) (e : Ending) (w' : World) : Prop :=
  ∃ v, e = .returned (.tuple #[v, .string R.c, .int .i64 (R.to : Int), .int .i64 (R.e : Int)]) ∧ OwnK w' w.heap.size 63 3 v (R.l.map symCells) ∧ Kp (fun _ => False) w w'

theorem readR_end {h : Hd} {s : ByteArray} {f p : Nat} {L : List Sym} (hp : ¬ p < s.size) (hf : 0 < f) : readR h s f L p = ⟨L, ⟨#[]⟩, s.size, 0⟩ := by
  obtain ⟨f, rfl⟩ : ∃ g, f = g + 1 := ⟨f - 1, by omega⟩
  simp [readR, show s.size ≤ p by omega]
theorem readR_mark {h : Hd} {s : ByteArray} {f p : Nat} {L : List Sym} (hp : p < s.size) (hf : 0 < f) (hm : markAt s p) : readR h s f L p = ⟨L, s.extract (p + 2) s.size, s.size, 0⟩ := by
  obtain ⟨f, rfl⟩ : ∃ g, f = g + 1 := ⟨f - 1, by omega⟩
  simp [readR, show ¬ s.size ≤ p by omega, hm]
theorem readR_bad {h : Hd} {s : ByteArray} {f p p' e : Nat} {L : List Sym} (hp : p < s.size) (hf : 0 < f) (hm : ¬ markAt s p) (hs : symT h s p = .bad p' e) : readR h s f L p = ⟨[], ⟨#[]⟩, p', e⟩ := by
  obtain ⟨f, rfl⟩ : ∃ g, f = g + 1 := ⟨f - 1, by omega⟩
  simp [readR, show ¬ s.size ≤ p by omega, hm, hs]
theorem readR_twice {h : Hd} {s : ByteArray} {f p next : Nat} {L : List Sym} {x : Sym} (hp : p < s.size) (hf : 0 < f) (hm : ¬ markAt s p) (hs : symT h s p = .ok x next) (ht : L.any (fun y => alike y x) = true) : readR h s f L p = ⟨[], ⟨#[]⟩, p, 7⟩ := by
  obtain ⟨f, rfl⟩ : ∃ g, f = g + 1 := ⟨f - 1, by omega⟩
  unfold readR
  rw [if_neg (by omega), if_neg hm, hs]
  simp only
  rw [if_pos ht]
theorem readR_more {h : Hd} {s : ByteArray} {f p next : Nat} {L : List Sym} {x : Sym} (hp : p < s.size) (hm : ¬ markAt s p) (hs : symT h s p = .ok x next) (ht : ¬ L.any (fun y => alike y x) = true) : readR h s (f + 1) L p = readR h s f (L ++ [x]) next := by
  conv => lhs; unfold readR
  rw [if_neg (by omega), if_neg hm, hs]
  simp only
  rw [if_neg ht]

set_option maxRecDepth 100000 in
set_option maxHeartbeats 4000000 in
theorem tail_Read_in (h : Hd) (s : ByteArray) (q : Nat) (w : World) (hs : s.size ≤ 100000) (hq : q ≤ s.size) :
    Calls Tryz.prog 15 #[.string s, .int .i64 q, hdV h] w (ReadPost (readR h s (s.size + 1) [] q) w) := by
  obtain ⟨R, hR⟩ : ∃ R, readR h s (s.size + 1) [] q = R := ⟨_, rfl⟩
  rw [hR]
  have HR := Lib.hid hR; clear hR
  have hmm := @run_makeMap Tryz.prog
  have g0 : decide ((q : Int) < 0) = false := by simp
  have g1 : decide (s.size < q) = false := by simp; omega
  have HSY := Lib.hid (fun p (hp : p < s.size) u => tail_symbol h s p u (by omega) hp)
  obtain ⟨hd, hhd⟩ : ∃ hd, hd = h := ⟨_, rfl⟩
  have HB0 := Lib.hid (Blk.new w (hdCells h) 42)
  rw [← hhd] at HR
  have HHD := Lib.hid hhd; clear hhd
  obtain ⟨bin, m, i, l, o, a, b, c⟩ := h
  unfold hdV at HSY ⊢
  unfold hdCells at HB0
  simp only at HB0 HSY ⊢
  rw [← HHD.out] at HSY
  clear HHD
  go_enter Tryz.func15, Tryz.ntmps15
  go_wp2_with fail
  go_loopw [1, 10] (fun v1 v10 wr => ∃ (p f : Nat) (L : List Sym), v1 = .int .i64 p ∧ p ≤ s.size ∧ s.size < p + f ∧ L.length ≤ p ∧ readR hd s f L p = R ∧ OwnK wr (w.heap.size + 2) 63 3 v10 (L.map symCells) ∧ Seen wr (w.heap.size + 1) L.length (L.map symAt) ∧ Blk wr w.heap.size #[.bool bin, .int .i64 m, .int .i64 i, .int .i64 l, .int .i64 o, .int .i64 a, .int .i64 b, .int .i64 c] 42 ∧ Kp (fun _ => False) w wr) (fun v1 _ _ => s.size - (intOf v1).toNat)
  case atStart => exact ⟨q, s.size + 1, [], rfl, hq, by omega, by simp, HR.out, OwnK.nil _ _ _ _, by have := Seen.made (w.alloc (.cells #[.bool bin, .int .i64 m, .int .i64 i, .int .i64 l, .int .i64 o, .int .i64 a, .int .i64 b, .int .i64 c] 42)); simpa using this, HB0.out.alloc _, ((Kp.refl _ w).alloc _).alloc _⟩
  case round =>
    obtain ⟨p, f, L, rfl, hp, hf, hLp, hRR, hO, hS, hB, hK⟩ := hrel
    have HRR := Lib.hid hRR; clear hRR
    have HS := Lib.hid hS
    have hb1 := hS.lt
    clear hS
    have HLP := Lib.hid hLp; clear hLp
    by_cases hlt : p < s.size
    · have p0 : (0 : Int) ≤ (p : Int) := by omega
      have p1 : (p : Int) ≤ (s.size : Int) := by omega
      have HM := Lib.hid (mark_prefix hlt)
      by_cases cm : markAt s p
      · have HRm := Lib.hid (readR_mark (h := hd) (L := L) (f := f) hlt (by omega) cm)
        have HRest := Lib.hid (mark_rest hlt cm)
        have CM := Lib.hid cm; clear cm
        go_wp2_with fail
        refine (Tryz.strings_CutPrefix _ _ _).mono ?_
        rintro e w' ⟨rfl, hw⟩
        have hw' := hw.symm; clear hw; subst hw'
        rw [show (({ data := #[99, 10] } : ByteArray).data.toList) = [99, 10] from rfl, HM.out, HRest.out, show decide (markAt s p) = true from decide_eq_true CM.out]
        have HEnd : Hid (ReadPost R w (.returned (.tuple #[u10, .string (s.extract (p + 2) s.size), .int .i64 (s.size : Int), .int .i64 0])) wr) := by
          show ReadPost _ _ _ _
          rw [← HRR.out, HRm.out]
          exact ⟨u10, rfl, hO.mono (by omega), hK⟩
        go_wp2_with fail
        exact bodyPost_ret (v := .tuple #[u10, .string (s.extract (p + 2) s.size), .int .i64 (s.size : Int), .int .i64 0]) (by simp [results, Tryz.results15, go_sem]) rfl HEnd.out
      · have HM0 := Lib.hid (show decide (markAt s p) = false from decide_eq_false cm)
        have CM := Lib.hid cm; clear cm
        have h0 := hB.cell (i := 0) rfl
        have h1 := hB.cell (i := 1) rfl
        have h2 := hB.cell (i := 2) rfl
        have h3 := hB.cell (i := 3) rfl
        have h4 := hB.cell (i := 4) rfl
        have h5 := hB.cell (i := 5) rfl
        have h6 := hB.cell (i := 6) rfl
        have h7 := hB.cell (i := 7) rfl
        have HBl := Lib.hid hB; clear hB
        have HOw := Lib.hid hO; clear hO
        go_wp2_with fail
        refine (Tryz.strings_CutPrefix _ _ _).mono ?_
        rintro e w' ⟨rfl, hw⟩
        have hw' := hw.symm; clear hw; subst hw'
        rw [show (({ data := #[99, 10] } : ByteArray).data.toList) = [99, 10] from rfl, HM.out, HM0.out]
        go_wp2_with fail
        refine (HSY.out p hlt _).mono ?_
        rintro e w2 ⟨he, hK2⟩
        have hKw2 := hK.trans hK2 (fun _ _ h => h)
        clear h0 h1 h2 h3 h4 h5 h6 h7 HM HM0
        obtain ⟨k, hk⟩ : ∃ k, bt s p = k := ⟨_, rfl⟩
        rw [hk] at he
        clear hk
        cases hsy : symT hd s p with
        | bad p' er =>
          have HEnd : Hid (ReadPost R w (.returned (.tuple #[.slice none 0 0, .string ⟨#[]⟩, .int .i64 (p' : Int), .int .i64 (er : Int)])) (w2.alloc (.cells #[.int .u8 (k : Int), .int .i64 0, .string ⟨#[]⟩] 63))) := by
            show ReadPost _ _ _ _
            rw [← HRR.out, readR_bad hlt (by omega) CM.out hsy]
            exact ⟨_, rfl, OwnK.nil _ _ _ _, hKw2.alloc _⟩
          have her : Hid (er ≠ 0) := symT_err hsy
          rw [hsy] at he
          clear hsy
          simp only [symOut] at he
          subst he
          have d1 : ((er : Int) != 0) = true := by have := her.out; simp; omega
          clear her
          go_wp2_with fail
          exact bodyPost_ret (v := .tuple #[.slice none 0 0, .string ⟨#[]⟩, .int .i64 (p' : Int), .int .i64 (er : Int)]) (by simp [results, Tryz.results15, go_sem]) rfl HEnd.out
        | ok x next =>
          obtain ⟨hx1, hx2, hx3, hx4, hx5⟩ := symT_ok hlt hsy
          have HSYM := Lib.hid hsy
          rw [hsy] at he
          clear hsy
          simp only [symOut] at he
          subst he
          have hsz2 := hK2.size
          have HS2 := Lib.hid ((HS.out.kp hK2 (fun h => h)).kp ((Kp.refl (fun _ => False) w2).alloc (.cells #[.int .u8 (x.kind : Int), .int .i64 (x.idx : Int), .string x.name] 63)) (fun h => h))
          have HB2 := Lib.hid ((HBl.out.kp hK2 (fun h => h)).alloc (.cells #[.int .u8 (x.kind : Int), .int .i64 (x.idx : Int), .string x.name] 63))
          have HO2 := Lib.hid ((HOw.out.kp hK2 (fun _ _ h => h)).alloc (.cells #[.int .u8 (x.kind : Int), .int .i64 (x.idx : Int), .string x.name] 63))
          have HX2 := Lib.hid (Blk.new w2 #[.int .u8 (x.kind : Int), .int .i64 (x.idx : Int), .string x.name] 63)
          have hKw2a := hKw2.alloc (.cells #[.int .u8 (x.kind : Int), .int .i64 (x.idx : Int), .string x.name] 63)
          clear HS HBl HOw hK2
          go_wp2_with fail
          refine (tail_thing _ _ _ _).mono ?_
          rintro e w3 ⟨rfl, hK3⟩
          have hKw3 := hKw2a.trans hK3 (fun _ _ h => h)
          have HS3 := Lib.hid (HS2.out.kp hK3 (fun h => h))
          have HB3 := Lib.hid (HB2.out.kp hK3 (fun h => h))
          have HO3 := Lib.hid (HO2.out.kp hK3 (fun _ _ h => h))
          have HX3 := Lib.hid (HX2.out.kp hK3 (fun h => h))
          have hlook := HS3.out.look hx3 hx4
          unfold symKey at hlook
          rw [any_contains] at hlook
          have hsz3 := hK3.size
          rw [World.size_alloc] at hsz3
          clear HS2 HB2 HO2 HX2 hK3
          by_cases ct : L.any (fun y => alike y x) = true
          · rw [ct] at hlook
            have HEnd : Hid (ReadPost R w (.returned (.tuple #[.slice none 0 0, .string ⟨#[]⟩, .int .i64 (p : Int), .int .i64 7])) w3) := by
              show ReadPost _ _ _ _
              rw [← HRR.out, readR_twice hlt (by omega) CM.out HSYM.out ct]
              exact ⟨_, rfl, OwnK.nil _ _ _ _, hKw3⟩
            clear ct
            go_wp2_with fail
            exact bodyPost_ret (v := .tuple #[.slice none 0 0, .string ⟨#[]⟩, .int .i64 (p : Int), .int .i64 7]) (by simp [results, Tryz.results15, go_sem]) rfl HEnd.out
          · have HRM : Hid (readR hd s (f - 1) (L ++ [x]) next = R) := by
              show _ = _
              rw [← HRR.out]
              obtain ⟨g, hg⟩ : ∃ g, f = g + 1 := ⟨f - 1, by omega⟩
              rw [hg, readR_more hlt CM.out HSYM.out ct]
              rfl
            have ct' : L.any (fun y => alike y x) = false := by simpa using ct
            rw [ct'] at hlook
            clear ct ct'
            have x0 := HX3.out.cell (i := 0) rfl
            have x1 := HX3.out.cell (i := 1) rfl
            have x2 := HX3.out.cell (i := 2) rfl
            go_wp2_with fail
            refine (tail_thing _ _ _ _).mono ?_
            rintro e w4 ⟨rfl, hK4⟩
            have hKw4 := hKw3.trans hK4 (fun _ _ h => h)
            have hlen := HLP.out
            obtain ⟨w5, hr5, hS5, hK5⟩ := (HS3.out.kp hK4 (fun h => h)).put (by unfold maxLen; omega) hx3 hx4
            unfold symKey at hr5
            have hKw5 := hKw4.trans hK5 (fun i hi e => by omega)
            have HB5 := Lib.hid ((HB3.out.kp hK4 (fun h => h)).kp hK5 (by omega))
            have HO5 := Lib.hid ((HO3.out.kp hK4 (fun _ _ h => h)).kp hK5 (fun j hj e => by have := (HO3.out.lt j hj).1; omega))
            have hX5 := (HX3.out.kp hK4 (fun h => h)).kp hK5 (by omega)
            clear x0 x1 x2 hlook
            have x0 := hX5.cell (i := 0) rfl
            have x1 := hX5.cell (i := 1) rfl
            have x2 := hX5.cell (i := 2) rfl
            have hsz4 := hK4.size
            have hsz5 := hK5.size
            have HS5 := Lib.hid hS5
            clear hX5 hK4 hK5 HS3 HB3 HO3 HX3 hS5
            go_wp2_with (at_builtin; refine wpList_appendK rfl _ _ 25 63 rfl Tryz.underlying25 symInfo rfl (by decide) (HO5.out.alloc _) rfl w5.heap.size (symCells x) rfl rfl ?c1 ?c2 ?c3 ?c4 ?c5 ?_)
            case c1 => intro j u hj; exact (Blk.new w5 (symCells x).toArray 63).cell (by simpa using hj)
            case c2 => intro u hu; simp [symCells] at hu; rcases hu with rfl | rfl | rfl <;> rfl
            case c3 => rw [List.length_map]; omega
            case c4 => rw [List.length_map]; unfold maxLen; omega
            case c5 => simp; omega
            intro v' w6 hO6 hg6 hat6
            have hK6 : Kp (fun j => u10.ownBlock = some j) w5 w6 := ((Kp.refl _ w5).alloc _).grown hg6 (fun j hj _ => hj)
            have hKw6 := hKw5.trans hK6 (fun j hj h => by have := (HO5.out.lt j h).1; omega)
            have hB6 := HB5.out.kp hK6 (fun h => by have := (HO5.out.lt _ h).1; omega)
            have hS6 := HS5.out.kp hK6 (fun h => by have := (HO5.out.lt _ h).1; omega)
            have HRel := Lib.hid (show ∃ (p f : Nat) (L : List Sym), Value.int .i64 (next : Int) = .int .i64 p ∧ p ≤ s.size ∧ s.size < p + f ∧ L.length ≤ p ∧ readR hd s f L p = R ∧ OwnK w6 (w.heap.size + 2) 63 3 v' (L.map symCells) ∧ Seen w6 (w.heap.size + 1) L.length (L.map symAt) ∧ Blk w6 w.heap.size #[.bool bin, .int .i64 m, .int .i64 i, .int .i64 l, .int .i64 o, .int .i64 a, .int .i64 b, .int .i64 c] 42 ∧ Kp (fun _ => False) w w6 from
              ⟨next, f - 1, L ++ [x], rfl, hx2, by omega, by rw [List.length_append]; simp; omega, HRM.out, by rw [List.map_append]; exact hO6, by rw [List.length_append, List.map_append]; exact hS6, hB6, hKw6⟩)
            clear hO6 hg6 hat6 hK6 hB6 hS6 hKw6 x0 x1 x2 hr5
            go_wp2_with fail
            go_roundw
            case rel => exact HRel.out
            case measure => simp [intOf]; omega
    · have HEnd : Hid (ReadPost R w (.returned (.tuple #[u10, .string ⟨#[]⟩, .int .i64 (s.size : Int), .int .i64 0])) wr) := by
        show ReadPost _ _ _ _
        rw [← HRR.out, readR_end hlt (by omega)]
        exact ⟨u10, rfl, hO.mono (by omega), hK⟩
      go_wp2_with fail
      exact bodyPost_ret (v := .tuple #[u10, .string ⟨#[]⟩, .int .i64 (s.size : Int), .int .i64 0]) (by simp [results, Tryz.results15, go_sem]) rfl HEnd.out

theorem readT_out {h : Hd} {s : ByteArray} {x : Int} (hx : x < 0 ∨ (s.size : Int) < x) : readT h s x = ⟨[], ⟨#[]⟩, 0, 1⟩ := by unfold readT; rw [if_pos hx]
theorem readT_in {h : Hd} {s : ByteArray} {q : Nat} (hq : q ≤ s.size) : readT h s q = readR h s (s.size + 1) [] q := by unfold readT; rw [if_neg (by omega), Int.toNat_natCast]

theorem tail_Read (h : Hd) (s : ByteArray) (x : Int) (w : World) (hs : s.size ≤ 100000) :
    Calls Tryz.prog 15 #[.string s, .int .i64 x, hdV h] w (ReadPost (readT h s x) w) := by
  by_cases hx : x < 0 ∨ (s.size : Int) < x
  · rw [readT_out hx]
    have HEnd : Hid (∀ w', Kp (fun _ => False) w w' → ReadPost ⟨[], ⟨#[]⟩, 0, 1⟩ w (.returned (.tuple #[.slice none 0 0, .string ⟨#[]⟩, .int .i64 0, .int .i64 1])) w') := fun w' hk => ⟨_, rfl, OwnK.nil _ _ _ _, hk⟩
    obtain ⟨bin, m, i, l, o, a, b, c⟩ := h
    unfold hdV
    simp only
    by_cases h0 : x < 0
    · have g0 : decide (x < 0) = true := by simp [h0]
      clear hx h0
      go_enter Tryz.func15, Tryz.ntmps15
      go_wp2_with fail
      exact bodyPost_ret (v := .tuple #[.slice none 0 0, .string ⟨#[]⟩, .int .i64 0, .int .i64 1]) (by simp [results, Tryz.results15, go_sem]) rfl (HEnd.out _ ((Kp.refl _ w).alloc _))
    · have g0 : decide (x < 0) = false := by simp [h0]
      have g1 : decide ((s.size : Int) < x) = true := by simp; omega
      clear hx h0
      go_enter Tryz.func15, Tryz.ntmps15
      go_wp2_with fail
      exact bodyPost_ret (v := .tuple #[.slice none 0 0, .string ⟨#[]⟩, .int .i64 0, .int .i64 1]) (by simp [results, Tryz.results15, go_sem]) rfl (HEnd.out _ ((Kp.refl _ w).alloc _))
  · obtain ⟨q, rfl⟩ := Int.eq_ofNat_of_zero_le (show 0 ≤ x by omega)
    rw [readT_in (by omega)]
    exact tail_Read_in h s q w hs (by omega)

end Go.Proofs.YtckmdcmkjmpiaaaGreatDoor

/-
  latchetref12: twice, Same, Read.
-/
namespace Go.Proofs.YtckmdcmkjmpiaaaGreatDoor
open Go.RowKit

end Go.Proofs.YtckmdcmkjmpiaaaGreatDoor

/-
  latchetref12.Read.
-/
namespace Go.Proofs.YtckmdcmkjmpiaaaGreatDoor
open Go.RowKit

theorem OwnK.empty {w : World} {base g : Nat} {e : TypeId} {k : Nat} (h : Blk w g #[] e) (hg : base ≤ g) : OwnK w base e k (.slice (some ⟨g, 0, none⟩) 0 0) [] :=
  ⟨⟨by simp, .inr ⟨g, 0, #[], rfl, hg, h, Nat.le_refl _, by simp [maxLen], by simp, by simp⟩⟩, fun r h => by cases h⟩

end Go.Proofs.YtckmdcmkjmpiaaaGreatDoor

/-
  The circuit whose file a text is, or what is wrong first, and where: plainly.
-/
namespace Go.Proofs.YtckmdcmkjmpiaaaGreatDoor
open Go.RowKit

/-- what a file is: no circuit (the place, the error), or one, its symbols, its comment, its end -/
inductive PRes where
  | bad (at_ e : Int)
  | ok (C : Circ) (l : List Sym) (c : ByteArray) (at_ : Nat)

/-- the head as tail.Read has it -/
def hdP (h : Bool × List Nat × Nat × Nat) : Hd := ⟨h.1, (nth h.2.1 0 : Nat), (nth h.2.1 1 : Nat), (nth h.2.1 2 : Nat), (nth h.2.1 3 : Nat), (nth h.2.1 4 : Nat), (nth h.2.1 5 : Nat), (nth h.2.1 6 : Nat)⟩
/-- the circuit behind a head -/
def rdP (s : ByteArray) (h : Bool × List Nat × Nat × Nat) : Circ × Nat × Nat :=
  if h.1 = true then rdC s ((nth h.2.1 0 : Nat) : Int) (nth h.2.1 1) (nth h.2.1 2) (nth h.2.1 3) (nth h.2.1 4) (nth h.2.1 5) (nth h.2.1 6) (h.2.2.1, 0)
  else rdA s ((nth h.2.1 0 : Nat) : Int) (nth h.2.1 1) (nth h.2.1 2) (nth h.2.1 3) (nth h.2.1 4) (nth h.2.1 5) (nth h.2.1 6) (h.2.2.1, 0)
def prsT (s : ByteArray) : PRes :=
  if 1048576 < s.size then .bad 0 4
  else if (headT s).2.2.2 ≠ 0 then .bad ((headT s).2.2.1 : Nat) ((headT s).2.2.2 : Nat)
  else if (rdP s (headT s)).2.2 ≠ 0 then .bad ((rdP s (headT s)).2.1 : Nat) ((rdP s (headT s)).2.2 : Nat)
  else if (readT (hdP (headT s)) s ((rdP s (headT s)).2.1 : Nat)).e ≠ 0 then .bad ((readT (hdP (headT s)) s ((rdP s (headT s)).2.1 : Nat)).to : Nat) ((readT (hdP (headT s)) s ((rdP s (headT s)).2.1 : Nat)).e : Nat)
  else if ckCode (rdP s (headT s)).1 ≠ 0 then .bad 0 (ckCode (rdP s (headT s)).1)
  else .ok (rdP s (headT s)).1 (readT (hdP (headT s)) s ((rdP s (headT s)).2.1 : Nat)).l (readT (hdP (headT s)) s ((rdP s (headT s)).2.1 : Nat)).c (readT (hdP (headT s)) s ((rdP s (headT s)).2.1 : Nat)).to

/-- how large the numbers of a head are, and where it ends -/
theorem nth_push {l : List Nat} {x B : Nat} (h : ∀ j, nth l j ≤ B) (hx : x ≤ B) : ∀ j, nth (l ++ [x]) j ≤ B := by
  intro j
  rcases Nat.lt_trichotomy j l.length with h1 | h1 | h1
  · rw [nth_snoc_lt h1]; exact h j
  · subst h1; rw [nth_snoc]; exact hx
  · rw [nth_ge (by simp; omega)]; exact Nat.zero_le _
theorem headL_small {s : ByteArray} : ∀ (f p : Nat) (l : List Nat), p ≤ s.size → (∀ j, nth l j ≤ 16777216) → (headL s f p l).2.2 = 0 → (∀ j, nth (headL s f p l).1 j ≤ 16777216) ∧ (headL s f p l).2.1 ≤ s.size
  | 0, p, l, hp, hl, _ => ⟨hl, hp⟩
  | f + 1, p, l, hp, hl, h => by
    unfold headL at h ⊢
    by_cases c1 : (stepH s l.length p).2.2.1 ≠ 0
    · rw [if_pos c1] at h; exact absurd h c1
    obtain ⟨h1, h2, h3, -⟩ := stepH_ok hp (by simpa using c1)
    rw [if_neg c1] at h ⊢
    by_cases c2 : (stepH s l.length p).2.2.2 = true
    · rw [if_pos c2]
      exact ⟨nth_push hl h3, h2⟩
    · rw [if_neg c2] at h ⊢
      exact headL_small f _ _ h2 (nth_push hl h3) h
theorem headT_small {s : ByteArray} (h : (headT s).2.2.2 = 0) : (∀ j, nth (headT s).2.1 j ≤ 16777216) ∧ (headT s).2.2.1 ≤ s.size := by
  unfold headT at h ⊢
  by_cases c1 : ¬ isHead s
  · rw [if_pos c1] at h; simp at h
  rw [if_neg c1] at h ⊢
  have hI : isHead s := Classical.not_not.1 c1
  by_cases c2 : (headL s 9 4 []).2.2 ≠ 0
  · rw [if_pos c2] at h; exact absurd h c2
  rw [if_neg c2] at h ⊢
  by_cases c3 : badSum (decide (bt s 1 = 105)) (headL s 9 4 []).1
  · rw [if_pos c3] at h; simp at h
  rw [if_neg c3]
  exact headL_small 9 4 [] hI.1 (fun j => by rw [nth_ge (by simp)]; omega) (by simpa using c2)

section
variable {s : ByteArray} {top least : Int} {ok : Nat → Bool}
theorem rdD_from {st : Nat × Nat} (hp : st.1 ≤ s.size) (h : (rdD s top st).2.2 = 0) : st.1 ≤ (rdD s top st).2.1 ∧ (rdD s top st).2.1 ≤ s.size := by
  refine ⟨?_, rdD_le hp⟩
  unfold rdD at h ⊢
  by_cases c1 : st.2 ≠ 0
  · rw [if_pos c1] at h; exact absurd h c1
  rw [if_neg c1] at h ⊢
  by_cases c2 : (natN s st.1).2.2 ≠ 0
  · rw [if_pos c2] at h; exact absurd h c2
  rw [if_neg c2] at h ⊢
  split
  · exact Nat.le_refl _
  · exact Nat.le_of_lt (natN_end hp (by simpa using c2)).1
theorem rdS_from {st : Nat × Nat} (h : (rdS s ok st).2.2 = 0) : (rdS s ok st).2.1 = st.1 + 1 ∧ st.2 = 0 := by
  unfold rdS at h ⊢
  by_cases c1 : st.2 ≠ 0
  · rw [if_pos c1] at h; exact absurd h c1
  rw [if_neg c1] at h ⊢
  by_cases c2 : st.1 = s.size
  · rw [if_pos c2] at h; simp at h
  rw [if_neg c2] at h ⊢
  by_cases c3 : ok (bt s st.1) = false
  · rw [if_pos c3] at h; simp at h
  rw [if_neg c3]
  exact ⟨rfl, by simpa using c1⟩
theorem rdL_from {st : Nat × Nat} (hp : st.1 ≤ s.size) (h : (rdL s top ok st).2.2.2 = 0) : st.1 + 1 ≤ (rdL s top ok st).2.2.1 ∧ (rdL s top ok st).2.2.1 ≤ s.size := by
  refine ⟨?_, rdL_le hp⟩
  obtain ⟨h1, h2⟩ := rdS_from (st := (rdD s top st).2) h
  have h3 := (rdD_from (top := top) hp h2).1
  have e : (rdL s top ok st).2.2.1 = (rdS s ok (rdD s top st).2).2.1 := rfl
  omega
theorem rdG_from {st : Nat × Nat} (hp : st.1 ≤ s.size) (ht : 0 ≤ top) (h : (rdG s least top st).2.2 = 0) : st.2 = 0 ∧ (rdG s least top st).2.1 ≤ s.size := by
  refine ⟨?_, (rdG_le hp ht).1⟩
  by_cases c1 : st.2 ≠ 0
  · rw [rdG_stay c1] at h; exact h
  · simpa using c1
theorem rdLits_room : ∀ (m : Nat) (L : List Int) (st : Nat × Nat), st.1 ≤ s.size → (rdLits s top m L st).2.2 = 0 → st.1 + m ≤ (rdLits s top m L st).2.1
  | 0, L, st, hp, _ => Nat.le_refl _
  | m + 1, L, st, hp, h => by
    obtain ⟨n, c, t, hr⟩ : ∃ n c t, rdL s top ok10 st = (n, c, t) := ⟨_, _, _, rfl⟩
    by_cases ht : t.2 = 0
    · have hf := rdL_from (top := top) (ok := ok10) hp (by rw [hr]; exact ht)
      rw [hr] at hf
      rw [rdLits_go hr ht] at h ⊢
      have := rdLits_room m _ t hf.2 h
      have := hf.1
      simp only at *
      omega
    · have := rdLits_st (j := m) (L := L) hr ht
      rw [this] at h
      exact absurd h ht
theorem rdLatsA_room : ∀ (m : Nat) (L : List (Int × Int × Int)) (st : Nat × Nat), st.1 ≤ s.size → (rdLatsA s top m L st).2.2 = 0 → st.1 + m ≤ (rdLatsA s top m L st).2.1
  | 0, L, st, hp, _ => Nat.le_refl _
  | m + 1, L, st, hp, h => by
    obtain ⟨n, c, t, hr⟩ : ∃ n c t, rdL s top ok32 st = (n, c, t) := ⟨_, _, _, rfl⟩
    obtain ⟨n2, c2, t2, hr2⟩ : ∃ n c t2, rdL s top okB t = (n, c, t2) := ⟨_, _, _, rfl⟩
    by_cases ht2 : t2.2 = 0
    · have ht : t.2 = 0 := by have := rdL_ok (s := s) (top := top) (ok := okB) (st := t) (by rw [hr2]; exact ht2); exact this
      have hf := rdL_from (top := top) (ok := ok32) hp (by rw [hr]; exact ht)
      rw [hr] at hf
      have hf2 := rdL_from (top := top) (ok := okB) hf.2 (by rw [hr2]; exact ht2)
      rw [hr2] at hf2
      by_cases hc : c2 = 32
      · obtain ⟨n3, c3, t3, hr3⟩ : ∃ n c t3, rdL s top ok10 t2 = (n, c, t3) := ⟨_, _, _, rfl⟩
        by_cases ht3 : t3.2 = 0
        · have hf3 := rdL_from (top := top) (ok := ok10) hf2.2 (by rw [hr3]; exact ht3)
          rw [hr3] at hf3
          rw [rdLatsA_g3 hr hr2 ht2 hc hr3 ht3] at h ⊢
          have := rdLatsA_room m _ t3 hf3.2 h
          have := hf.1
          have := hf2.1
          have := hf3.1
          simp only at *
          omega
        · rw [rdLatsA_s3 hr hr2 ht2 hc hr3 ht3] at h
          exact absurd h ht3
      · rw [rdLatsA_g2 hr hr2 ht2 hc] at h ⊢
        have := rdLatsA_room m _ t2 hf2.2 h
        have := hf.1
        have := hf2.1
        simp only at *
        omega
    · rw [rdLatsA_s2 hr hr2 ht2] at h
      exact absurd h ht2
theorem rdGatesA_room (m : Nat) : ∀ (L : List (Int × Int × Int)) (st : Nat × Nat), st.1 ≤ s.size → (rdGatesA s top m L st).2.2 = 0 → st.1 + m ≤ (rdGatesA s top m L st).2.1 := by
  induction m with
  | zero => intro L st hp _; unfold rdGatesA; exact Nat.le_refl _
  | succ m ih =>
    intro L st hp h
    obtain ⟨n, c, t, hr⟩ : ∃ n c t, rdL s top ok32 st = (n, c, t) := ⟨_, _, _, rfl⟩
    obtain ⟨n2, c2, t2, hr2⟩ : ∃ n c t2, rdL s top ok32 t = (n, c, t2) := ⟨_, _, _, rfl⟩
    obtain ⟨n3, c3, t3, hr3⟩ : ∃ n c t3, rdL s top ok10 t2 = (n, c, t3) := ⟨_, _, _, rfl⟩
    by_cases ht3 : t3.2 = 0
    · have ht2 : t2.2 = 0 := by have := rdL_ok (s := s) (top := top) (ok := ok10) (st := t2) (by rw [hr3]; exact ht3); exact this
      have ht : t.2 = 0 := by have := rdL_ok (s := s) (top := top) (ok := ok32) (st := t) (by rw [hr2]; exact ht2); exact this
      have hf := rdL_from (top := top) (ok := ok32) hp (by rw [hr]; exact ht)
      rw [hr] at hf
      have hf2 := rdL_from (top := top) (ok := ok32) hf.2 (by rw [hr2]; exact ht2)
      rw [hr2] at hf2
      have hf3 := rdL_from (top := top) (ok := ok10) hf2.2 (by rw [hr3]; exact ht3)
      rw [hr3] at hf3
      rw [rdGatesA_g hr hr2 hr3 ht3] at h ⊢
      have := ih _ t3 hf3.2 h
      have := hf.1
      have := hf2.1
      have := hf3.1
      simp only at *
      omega
    · rw [rdGatesA_s3 hr hr2 hr3 ht3] at h
      exact absurd h ht3
theorem rdLatsP_room {I : Nat} : ∀ (m k : Nat) (L : List (Int × Int × Int)) (st : Nat × Nat), st.1 ≤ s.size → (rdLatsP s top I m k L st).2.2 = 0 → st.1 + m ≤ (rdLatsP s top I m k L st).2.1 ∧ (rdLatsP s top I m k L st).2.1 ≤ s.size ∧ (rdLatsP s top I m k L st).1.length = L.length + m
  | 0, k, L, st, hp, _ => ⟨Nat.le_refl _, hp, rfl⟩
  | m + 1, k, L, st, hp, h => by
    obtain ⟨n, c, t, hr⟩ : ∃ n c t, rdL s top okB st = (n, c, t) := ⟨_, _, _, rfl⟩
    by_cases ht : t.2 = 0
    · have hf := rdL_from (top := top) (ok := okB) hp (by rw [hr]; exact ht)
      rw [hr] at hf
      by_cases hc : c = 32
      · obtain ⟨n3, c3, t3, hr3⟩ : ∃ n c t3, rdL s top ok10 t = (n, c, t3) := ⟨_, _, _, rfl⟩
        rw [rdLatsP_g3 hr hc hr3] at h ⊢
        by_cases ht3 : t3.2 = 0
        · have hf3 := rdL_from (top := top) (ok := ok10) hf.2 (by rw [hr3]; exact ht3)
          rw [hr3] at hf3
          obtain ⟨h1, h2, h3⟩ := rdLatsP_room m _ _ t3 hf3.2 h
          refine ⟨?_, h2, by rw [h3]; simp; omega⟩
          have := hf.1
          have := hf3.1
          simp only at *
          omega
        · rw [rdLatsP_stay ht3] at h
          exact absurd h ht3
      · rw [rdLatsP_g2 hr ht hc] at h ⊢
        obtain ⟨h1, h2, h3⟩ := rdLatsP_room m _ _ t hf.2 h
        refine ⟨?_, h2, by rw [h3]; simp; omega⟩
        have := hf.1
        simp only at *
        omega
    · rw [rdLatsP_st hr ht] at h
      exact absurd h ht
theorem rdG_go {st : Nat × Nat} (hp : st.1 ≤ s.size) (ht : 0 ≤ top) (h : (rdG s least top st).2.2 = 0) : st.1 < (rdG s least top st).2.1 := by
  unfold rdG at h ⊢
  by_cases c1 : st.2 ≠ 0
  · rw [if_pos c1] at h; exact absurd h c1
  rw [if_neg c1] at h ⊢
  by_cases c2 : (getN s st.1).2.2 ≠ 0
  · rw [if_pos c2] at h; exact absurd h c2
  rw [if_neg c2] at h ⊢
  by_cases c3 : ((getN s st.1).1 : Int) < least ∨ top < ((getN s st.1).1 : Int)
  · rw [if_pos c3] at h; simp at h
  rw [if_neg c3]
  have key : ∀ (r k a : Nat), (getR s st.1 r k a).2.2 = 0 → st.1 < (getR s st.1 r k a).2.1 := by
    intro r
    induction r with
    | zero => intro k a h; simp [getR] at h
    | succ r ih =>
      intro k a h
      unfold getR at h ⊢
      by_cases d1 : st.1 + k = s.size
      · rw [if_pos d1] at h; simp at h
      rw [if_neg d1] at h ⊢
      by_cases d2 : k = 4 ∧ 15 < bt s (st.1 + k)
      · rw [if_pos d2] at h; simp at h
      rw [if_neg d2] at h ⊢
      by_cases d3 : 0 < k ∧ bt s (st.1 + k) = 0
      · rw [if_pos d3] at h; simp at h
      rw [if_neg d3] at h ⊢
      split at h
      · rename_i d4
        rw [if_pos d4]
        simp only
        omega
      · rename_i d4
        rw [if_neg d4]
        exact ih _ _ h
  exact key 5 0 0 (by simpa [getN] using c2)
theorem rdGatesP_room {I : Nat} : ∀ (m k : Nat) (L : List (Int × Int × Int)) (st : Nat × Nat), st.1 ≤ s.size → (rdGatesP s I m k L st).2.2 = 0 → st.1 + m ≤ (rdGatesP s I m k L st).2.1 ∧ (rdGatesP s I m k L st).2.1 ≤ s.size ∧ (rdGatesP s I m k L st).1.length = L.length + m
  | 0, k, L, st, hp, _ => ⟨Nat.le_refl _, hp, rfl⟩
  | m + 1, k, L, st, hp, h => by
    obtain ⟨n, t, hr⟩ : ∃ (n : Nat) (t : Nat × Nat), rdG s 1 (2 * ((I + k : Nat) : Int) + 2) st = (n, t) := ⟨_, _, rfl⟩
    obtain ⟨n2, t2, hr2⟩ : ∃ (z : Nat) (t2 : Nat × Nat), rdG s 0 (2 * ((I + k : Nat) : Int) + 2 - (n : Int)) t = (z, t2) := ⟨_, _, rfl⟩
    have hb := rdG_le (s := s) (least := 1) (top := 2 * ((I + k : Nat) : Int) + 2) hp (by omega)
    rw [hr] at hb
    have ht0 : 0 ≤ 2 * ((I + k : Nat) : Int) + 2 - (n : Int) := by have := hb.2; simp only at this; omega
    by_cases ht2 : t2.2 = 0
    · have hf2 := rdG_from (least := 0) hb.1 ht0 (by rw [hr2]; exact ht2)
      rw [hr2] at hf2
      have hg := rdG_go (least := 1) (top := 2 * ((I + k : Nat) : Int) + 2) hp (by omega) (by rw [hr]; exact hf2.1)
      have hg2 := rdG_go (least := 0) hb.1 ht0 (by rw [hr2]; exact ht2)
      rw [hr] at hg
      rw [hr2] at hg2
      rw [rdGatesP_go hr hr2 ht2] at h ⊢
      obtain ⟨h1, h2, h3⟩ := rdGatesP_room m _ _ t2 hf2.2 h
      refine ⟨?_, h2, by rw [h3]; simp; omega⟩
      simp only at *
      omega
    · rw [rdGatesP_st hr hr2 ht2] at h
      exact absurd h ht2
end

end Go.Proofs.YtckmdcmkjmpiaaaGreatDoor
