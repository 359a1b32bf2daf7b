/-
  A circuit that is printed, in either form, is read back. No program in sight.
-/
import Derived.Test.YtckmdcmkjmpiaaaGreatDoorM9
import Derived.Test.YtckmdcmkjmpiaaaGreatDoorM1
import Derived.MapKept
import Derived.Laws.EntriesVeiled
import Derived.Test.YtckmdcmkjmpiaaaGreatDoorM4
import Derived.Test.YtckmdcmkjmpiaaaGreatDoorM2
import Derived.Test.YtckmdcmkjmpiaaaGreatDoorM3
import Derived.Test.YtckmdcmkjmpiaaaGreatDoorRows
import Derived.ProofKit
import Derived.OpenShut
import Derived.Deep.Slices
import Derived.Lib.SmallJoins
set_option linter.unusedVariables false
set_option linter.unusedSimpArgs false
namespace Go.Proofs.YtckmdcmkjmpiaaaGreatDoor
open Go.RowKit

theorem prtB_len {C : Circ} {Y : List (Int × Int × ByteArray)} {cm : ByteArray} {bin : Bool} (hp : prtOk C Y bin) (hf : CFew C 30) (hy : Y.length ≤ 30) (hc : cm.size ≤ 300) : (prtB C Y cm bin).length ≤ 40000 := by
  obtain ⟨h1, h2, h3⟩ := hp
  obtain ⟨ho, hr⟩ := okC_of h1
  have hw := goodY_all (cnt_few (b := bin) (hf.up (n := 1000) (by omega))) Y [] h2
  have l1 := head_len30 (b := bin) (hd_ok hf hr)
  have l2 := tail_len30 hy hw hc
  unfold prtB
  rw [List.length_append, List.length_append]
  cases bin with
  | true =>
    have l3 := bin_len30 hf (h3 rfl)
    simp only [if_true]
    omega
  | false =>
    have l3 := asc_len30 hf ho
    simp only [Bool.false_eq_true, if_false]
    omega

theorem sym_some : ∀ Y : List (Int × Int × ByteArray), Y.length ≤ (Y.flatMap symY).length
  | [] => by simp
  | x :: r => by
    have ih := sym_some r
    rw [List.flatMap_cons, List.length_append, List.length_cons]
    have : 1 ≤ (symY x).length := by unfold symY; simp
    omega

theorem prs_back {C : Circ} {Y : List (Int × Int × ByteArray)} {cm : ByteArray} {bin : Bool} (hp : prtOk C Y bin) (hf : CFew C 30) (hy : Y.length ≤ 30) (hc : cm.size ≤ 300) {s : ByteArray} (hs : s = ⟨(prtB C Y cm bin).toArray⟩) :
    prsT s = .ok C (Y.map symOf) cm s.size := by
  have hlen := prtB_len hp hf hy hc
  obtain ⟨h1, h2, h3⟩ := hp
  obtain ⟨ho, hr⟩ := okC_of h1
  have hd : s.data.toList = prtB C Y cm bin := by rw [hs]
  have hsz : s.size = (prtB C Y cm bin).length := by rw [← hd]; simp
  have hall : Here s 0 (prtB C Y cm bin) := ⟨[], by rw [List.drop_zero, hd, List.append_nil]⟩
  unfold prtB at hall
  have hH := hall.left.left
  have hB := hall.left.right
  have hT := hall.right
  rw [Nat.zero_add] at hB hT
  have hown := owned_le h1
  have hol : C.owned.length = C.ins.length + C.lats.length + C.gates.length := by unfold Circ.owned; simp; omega
  have hm0 := hr.max0
  have hm1 := hr.max1
  have g0 : gi (hdL C) 0 = C.max := rfl
  have g1 : gi (hdL C) 1 = (C.ins.length : Nat) := rfl
  have g2 : gi (hdL C) 2 = (C.lats.length : Nat) := rfl
  have g3 : gi (hdL C) 3 = (C.outs.length : Nat) := rfl
  have g4 : gi (hdL C) 4 = (C.gates.length : Nat) := rfl
  have g5 : gi (hdL C) 5 = (C.bads.length : Nat) := rfl
  have g6 : gi (hdL C) 6 = (C.cons.length : Nat) := rfl
  have f1 := hf.i
  have f2 := hf.l
  have f3 := hf.o
  have f4 := hf.b
  have f5 := hf.c
  have f6 := hf.g
  obtain ⟨L, hL, hLk⟩ := headT_front (h := hdL C) rfl hH (fun x hx => by
      unfold hdL at hx
      simp only [List.mem_cons, List.not_mem_nil, or_false] at hx
      rcases hx with rfl | rfl | rfl | rfl | rfl | rfl | rfl <;> omega)
    (by rw [g0, g1, g2, g4]; omega) (fun hb => by have := (h3 hb).max; rw [g0, g1, g2, g4]; omega)
  have n0 : ((nth L 0 : Nat) : Int) = C.max := by rw [hLk, g0]
  have n1 : nth L 1 = C.ins.length := by have := hLk 1; rw [g1] at this; omega
  have n2 : nth L 2 = C.lats.length := by have := hLk 2; rw [g2] at this; omega
  have n3 : nth L 3 = C.outs.length := by have := hLk 3; rw [g3] at this; omega
  have n4 : nth L 4 = C.gates.length := by have := hLk 4; rw [g4] at this; omega
  have n5 : nth L 5 = C.bads.length := by have := hLk 5; rw [g5] at this; omega
  have n6 : nth L 6 = C.cons.length := by have := hLk 6; rw [g6] at this; omega
  have hhd : hdP (bin, L, (headW bin (hdL C)).length, 0) = hdOf C bin := by
    unfold hdP hdOf
    simp only
    rw [n0, n1, n2, n3, n4, n5, n6]
  have hrd : rdP s (bin, L, (headW bin (hdL C)).length, 0) = (C, (headW bin (hdL C)).length + (if bin = true then binB C else ascB C).length, 0) := by
    unfold rdP
    simp only
    rw [n0, n1, n2, n3, n4, n5, n6]
    cases bin with
    | true =>
      simp only [if_true] at hB ⊢
      exact rdC_at (h3 rfl) hB
    | false =>
      simp only [Bool.false_eq_true, if_false] at hB ⊢
      exact rdA_at hr hB
  have hq : (headW bin (hdL C)).length + (if bin = true then binB C else ascB C).length ≤ s.size := by
    rw [hsz]
    unfold prtB
    rw [List.length_append, List.length_append]
    omega
  refine prsT_fine (by omega) hL hrd (q := _) ?_ h1
  rw [readT_in hq, hhd]
  rw [List.length_append] at hT
  refine readR_back (cnt_few (hf.up (by omega))) Y [] (s.size + 1) _ h2 hT ?_ ?_
  · rw [hsz]
    unfold prtB
    rw [List.length_append, List.length_append]
  · have := sym_some Y
    rw [hsz]
    unfold prtB tailB
    simp only [List.length_append]
    omega

end Go.Proofs.YtckmdcmkjmpiaaaGreatDoor

/-
  A map with few entries of one-word keys: what it holds, how it is put and looked up. No program in sight.
-/
namespace Go.Proofs.YtckmdcmkjmpiaaaGreatDoor
open Go.RowKit

/-- block b of w is a map with just these entries -/
def MapB (w : World) (b : Nat) (es : Array MapEntry) (c : Nat) : Prop := w.heap[b]? = some (.map es c)

theorem MapB.new (w : World) : MapB (w.alloc (.map #[] 0)) w.heap.size #[] 0 := heap_alloc_new w _

theorem MapB.lt {w : World} {b c : Nat} {es : Array MapEntry} (h : MapB w b es c) : b < w.heap.size := (Array.getElem?_eq_some_iff.1 h).1

theorem MapB.kp {S : Nat → Prop} {w w' : World} {b c : Nat} {es : Array MapEntry} (h : MapB w b es c) (k : Kp S w w') (hS : ¬ S b) : MapB w' b es c := (k.block b h.lt hS).trans h

theorem MapB.put {P : Program} {w : World} {b c : Nat} {es : Array MapEntry} (h : MapB w b es c) {mt kt et : TypeId} {d : TypeDesc} {key : Value} (val : Value) (hm : P.underlying mt = some (.map kt et)) (hk : P.underlying kt = some d)
    (hi : MapKept.IsKey d key) (hf : Instr.findNow d key es.toList 0 = some none) :
    ∃ w', (Instr.mapUpdate mt (.map (some b)) key val).run P w = .ok () w' ∧ MapB w' b (es.push { key := key, val := val, born := c }) (c + 1) ∧ Kp (· = b) w w' ∧ w'.heap.size = w.heap.size := by
  have hc : (Instr.checkKey false 10000 kt key).run P w = .ok () w := MapKept.run_checkKey hk hi false 9999
  refine ⟨{ w with heap := w.heap.setIfInBounds b (.map (es.push { key := key, val := val, born := c }) (c + 1)) }, ?_, ?_, ⟨rfl, rfl, rfl, by simp, fun k hk hS => ?_⟩, by simp⟩
  · simp [Instr.mapUpdate, run_underlying hm, MapKept.run_getObj_map h, hc, MapKept.run_findKey hk hf, MapKept.run_setObj_map _ h, Result.andThen]
  · exact (MapKept.heap_set h).1
  · exact (MapKept.heap_set h).2 k hS

theorem MapB.look {P : Program} {w : World} {b c : Nat} {es : Array MapEntry} (h : MapB w b es c) {mt kt et : TypeId} {d : TypeDesc} {key v : Value} {i : Nat} (hm : P.underlying mt = some (.map kt et)) (hk : P.underlying kt = some d)
    (hi : MapKept.IsKey d key) (hf : Instr.findNow d key es.toList 0 = some (some (i, v))) : (Instr.lookup mt (.map (some b)) key false).run P w = .ok v w := by
  have hc : ∀ em, (Instr.checkKey em 10000 kt key).run P w = .ok () w := fun em => MapKept.run_checkKey hk hi em 9999
  simp [Instr.lookup, run_underlying hm, MapKept.run_getObj_map h, hc, MapKept.run_findKey hk hf, Result.andThen]

end Go.Proofs.YtckmdcmkjmpiaaaGreatDoor

/-
  aiger.Parse of any text. (Printed by mkaprs.py.)
-/
namespace Go.Proofs.YtckmdcmkjmpiaaaGreatDoor
open Go.RowKit

def readersMap : Array MapEntry := #[{ key := .bool false, val := .func (Fn.func 33) #[] #[], born := 0 }, { key := .bool true, val := .func (Fn.func 34) #[] #[], born := 1 }]

theorem aiger_readers (w : World) :
    Calls Tryz.prog 14 #[] w fun e w' => ∃ b, e = .returned (.map (some b)) ∧ MapB w' b readersMap 2 ∧ Kp (fun _ => False) w w' := by
  have hmm := @run_makeMap Tryz.prog
  obtain ⟨w1, hp1, hM1, hK1, hs1⟩ := (MapB.new w).put (P := Tryz.prog) (key := .bool false) (.func (Fn.func 33) #[] #[]) Tryz.underlying46 Tryz.underlying4 trivial rfl
  obtain ⟨w2, hp2, hM2, hK2, hs2⟩ := hM1.put (P := Tryz.prog) (key := .bool true) (.func (Fn.func 34) #[] #[]) Tryz.underlying46 Tryz.underlying4 trivial rfl
  have HM := Lib.hid hM2
  have HK := Lib.hid (show Kp (fun _ => False) w w2 from (((Kp.refl (fun _ => False) w).alloc (.map #[] 0)).trans hK1 (fun i hi h => by omega)).trans hK2 (fun i hi h => by omega))
  clear hM1 hM2 hK1 hK2 hs1 hs2
  go_enter Tryz.func14, Tryz.ntmps14
  go_wp2_with fail
  go_ret
  exact ⟨_, rfl, HM.out, HK.out⟩

theorem readers_false {u : World} {b : Nat} (h : MapB u b readersMap 2) : (Instr.lookup 46 (.map (some b)) (.bool false) false).run Tryz.prog u = .ok (.func (Fn.func 33) #[] #[]) u :=
  h.look (i := 0) (d := .bool) Tryz.underlying46 Tryz.underlying4 trivial rfl
theorem readers_true {u : World} {b : Nat} (h : MapB u b readersMap 2) : (Instr.lookup 46 (.map (some b)) (.bool true) false).run Tryz.prog u = .ok (.func (Fn.func 34) #[] #[]) u :=
  h.look (i := 1) (d := .bool) Tryz.underlying46 Tryz.underlying4 trivial rfl

section
variable {w u wx : World} {bh bc B : Nat} {b : Bool} {M nI nL nO nA nB nC e2 : Nat} {V' : CV} {C' C2 : Circ}
theorem prs_drew (h : Blk wx bc (cvals V' C') 27 ∧ Blk wx bh #[.bool b, .int .i64 (M : Nat), .int .i64 (nI : Nat), .int .i64 (nL : Nat), .int .i64 (nO : Nat), .int .i64 (nA : Nat), .int .i64 (nB : Nat), .int .i64 (nC : Nat)] 42 ∧ Blk wx w.heap.size zc9 27 ∧ Blk wx (w.heap.size + 1) zc9 27 ∧ Kp (fun _ => False) w wx ∧ w.heap.size + 1 < bc ∧ (e2 = 0 → C' = C2 ∧ Keep2 bc w.heap.size wx V' C2)) : Blk wx.drew bc (cvals V' C') 27 ∧ Blk wx.drew bh #[.bool b, .int .i64 (M : Nat), .int .i64 (nI : Nat), .int .i64 (nL : Nat), .int .i64 (nO : Nat), .int .i64 (nA : Nat), .int .i64 (nB : Nat), .int .i64 (nC : Nat)] 42 ∧ Blk wx.drew w.heap.size zc9 27 ∧ Blk wx.drew (w.heap.size + 1) zc9 27 ∧ Kp (fun _ => False) w wx.drew ∧ w.heap.size + 1 < bc ∧ (e2 = 0 → C' = C2 ∧ Keep2 bc w.heap.size wx.drew V' C2) := by
  obtain ⟨h1, h2, h3, h4, h5, h6, h7⟩ := h
  exact ⟨h1.drew, h2.drew, h3.drew, h4.drew, h5.drew, h6, fun h0 => ⟨(h7 h0).1, fun S w' hS k => (h7 h0).2 S w' hS (((Kp.refl (fun _ => False) wx).drew.mono (fun _ _ h => h.elim)).trans k (fun _ _ h => h))⟩⟩
theorem prs_new (hH : Blk u bh #[.bool b, .int .i64 (M : Nat), .int .i64 (nI : Nat), .int .i64 (nL : Nat), .int .i64 (nO : Nat), .int .i64 (nA : Nat), .int .i64 (nB : Nat), .int .i64 (nC : Nat)] 42) (hR : Blk u w.heap.size zc9 27) (hN : Blk u (w.heap.size + 1) zc9 27) (hK : Kp (fun _ => False) w u) (hb : e2 = 0 → C' = C2 ∧ BKeep B u V' C2) (hB : w.heap.size < B) (hl : w.heap.size + 1 < u.heap.size) :
    Blk (u.alloc (.cells #[.int .i64 C'.max, .slice V'.ai C'.ins.length V'.ci, .slice V'.al C'.lats.length V'.cl, .slice V'.ao C'.outs.length V'.co, .slice V'.ab C'.bads.length V'.cb, .slice V'.ac C'.cons.length V'.cc, .slice V'.ag C'.gates.length V'.cg, .slice V'.ay V'.ny V'.cy, .string V'.cm] 27)) u.heap.size (cvals V' C') 27 ∧ Blk (u.alloc (.cells #[.int .i64 C'.max, .slice V'.ai C'.ins.length V'.ci, .slice V'.al C'.lats.length V'.cl, .slice V'.ao C'.outs.length V'.co, .slice V'.ab C'.bads.length V'.cb, .slice V'.ac C'.cons.length V'.cc, .slice V'.ag C'.gates.length V'.cg, .slice V'.ay V'.ny V'.cy, .string V'.cm] 27)) bh #[.bool b, .int .i64 (M : Nat), .int .i64 (nI : Nat), .int .i64 (nL : Nat), .int .i64 (nO : Nat), .int .i64 (nA : Nat), .int .i64 (nB : Nat), .int .i64 (nC : Nat)] 42 ∧ Blk (u.alloc (.cells #[.int .i64 C'.max, .slice V'.ai C'.ins.length V'.ci, .slice V'.al C'.lats.length V'.cl, .slice V'.ao C'.outs.length V'.co, .slice V'.ab C'.bads.length V'.cb, .slice V'.ac C'.cons.length V'.cc, .slice V'.ag C'.gates.length V'.cg, .slice V'.ay V'.ny V'.cy, .string V'.cm] 27)) w.heap.size zc9 27 ∧ Blk (u.alloc (.cells #[.int .i64 C'.max, .slice V'.ai C'.ins.length V'.ci, .slice V'.al C'.lats.length V'.cl, .slice V'.ao C'.outs.length V'.co, .slice V'.ab C'.bads.length V'.cb, .slice V'.ac C'.cons.length V'.cc, .slice V'.ag C'.gates.length V'.cg, .slice V'.ay V'.ny V'.cy, .string V'.cm] 27)) (w.heap.size + 1) zc9 27 ∧ Kp (fun _ => False) w (u.alloc (.cells #[.int .i64 C'.max, .slice V'.ai C'.ins.length V'.ci, .slice V'.al C'.lats.length V'.cl, .slice V'.ao C'.outs.length V'.co, .slice V'.ab C'.bads.length V'.cb, .slice V'.ac C'.cons.length V'.cc, .slice V'.ag C'.gates.length V'.cg, .slice V'.ay V'.ny V'.cy, .string V'.cm] 27)) ∧ w.heap.size + 1 < u.heap.size ∧ (e2 = 0 → C' = C2 ∧ Keep2 u.heap.size w.heap.size (u.alloc (.cells #[.int .i64 C'.max, .slice V'.ai C'.ins.length V'.ci, .slice V'.al C'.lats.length V'.cl, .slice V'.ao C'.outs.length V'.co, .slice V'.ab C'.bads.length V'.cb, .slice V'.ac C'.cons.length V'.cc, .slice V'.ag C'.gates.length V'.cg, .slice V'.ay V'.ny V'.cy, .string V'.cm] 27)) V' C2) :=
  ⟨Blk.new u _ _, hH.alloc _, hR.alloc _, hN.alloc _, hK.alloc _, hl, fun h0 => ⟨(hb h0).1, (hb h0).2.two (T := fun _ => False) ((Kp.refl _ u).alloc _) (fun _ h => h.elim) (.inr (Nat.le_refl _)) hB⟩⟩
theorem prs_set (hC : Blk u bc #[.int .i64 0, .slice none 0 0, .slice none 0 0, .slice none 0 0, .slice none 0 0, .slice none 0 0, .slice none 0 0, .slice none 0 0, .string ⟨#[]⟩] 27) (hH : Blk u bh #[.bool b, .int .i64 (M : Nat), .int .i64 (nI : Nat), .int .i64 (nL : Nat), .int .i64 (nO : Nat), .int .i64 (nA : Nat), .int .i64 (nB : Nat), .int .i64 (nC : Nat)] 42) (hR : Blk u w.heap.size zc9 27) (hN : Blk u (w.heap.size + 1) zc9 27) (hK : Kp (fun _ => False) w u) (hb : e2 = 0 → C' = C2 ∧ BKeep B u V' C2) (hB : w.heap.size < B) (hl : w.heap.size + 1 < bc) (hbh : bh ≠ bc) (hbB : bc < B) :
    Blk (Go.Proofs.YtckmdcmkjmpiaaaGreatDoor.set9 u bc (.int .i64 C'.max) (.slice V'.ai C'.ins.length V'.ci) (.slice V'.al C'.lats.length V'.cl) (.slice V'.ao C'.outs.length V'.co) (.slice V'.ab C'.bads.length V'.cb) (.slice V'.ac C'.cons.length V'.cc) (.slice V'.ag C'.gates.length V'.cg) (.slice V'.ay V'.ny V'.cy) (.string V'.cm)) bc (cvals V' C') 27 ∧ Blk (Go.Proofs.YtckmdcmkjmpiaaaGreatDoor.set9 u bc (.int .i64 C'.max) (.slice V'.ai C'.ins.length V'.ci) (.slice V'.al C'.lats.length V'.cl) (.slice V'.ao C'.outs.length V'.co) (.slice V'.ab C'.bads.length V'.cb) (.slice V'.ac C'.cons.length V'.cc) (.slice V'.ag C'.gates.length V'.cg) (.slice V'.ay V'.ny V'.cy) (.string V'.cm)) bh #[.bool b, .int .i64 (M : Nat), .int .i64 (nI : Nat), .int .i64 (nL : Nat), .int .i64 (nO : Nat), .int .i64 (nA : Nat), .int .i64 (nB : Nat), .int .i64 (nC : Nat)] 42 ∧ Blk (Go.Proofs.YtckmdcmkjmpiaaaGreatDoor.set9 u bc (.int .i64 C'.max) (.slice V'.ai C'.ins.length V'.ci) (.slice V'.al C'.lats.length V'.cl) (.slice V'.ao C'.outs.length V'.co) (.slice V'.ab C'.bads.length V'.cb) (.slice V'.ac C'.cons.length V'.cc) (.slice V'.ag C'.gates.length V'.cg) (.slice V'.ay V'.ny V'.cy) (.string V'.cm)) w.heap.size zc9 27 ∧ Blk (Go.Proofs.YtckmdcmkjmpiaaaGreatDoor.set9 u bc (.int .i64 C'.max) (.slice V'.ai C'.ins.length V'.ci) (.slice V'.al C'.lats.length V'.cl) (.slice V'.ao C'.outs.length V'.co) (.slice V'.ab C'.bads.length V'.cb) (.slice V'.ac C'.cons.length V'.cc) (.slice V'.ag C'.gates.length V'.cg) (.slice V'.ay V'.ny V'.cy) (.string V'.cm)) (w.heap.size + 1) zc9 27 ∧ Kp (fun _ => False) w (Go.Proofs.YtckmdcmkjmpiaaaGreatDoor.set9 u bc (.int .i64 C'.max) (.slice V'.ai C'.ins.length V'.ci) (.slice V'.al C'.lats.length V'.cl) (.slice V'.ao C'.outs.length V'.co) (.slice V'.ab C'.bads.length V'.cb) (.slice V'.ac C'.cons.length V'.cc) (.slice V'.ag C'.gates.length V'.cg) (.slice V'.ay V'.ny V'.cy) (.string V'.cm)) ∧ w.heap.size + 1 < bc ∧ (e2 = 0 → C' = C2 ∧ Keep2 bc w.heap.size (Go.Proofs.YtckmdcmkjmpiaaaGreatDoor.set9 u bc (.int .i64 C'.max) (.slice V'.ai C'.ins.length V'.ci) (.slice V'.al C'.lats.length V'.cl) (.slice V'.ao C'.outs.length V'.co) (.slice V'.ab C'.bads.length V'.cb) (.slice V'.ac C'.cons.length V'.cc) (.slice V'.ag C'.gates.length V'.cg) (.slice V'.ay V'.ny V'.cy) (.string V'.cm)) V' C2) := by
  have k := Kp.set9 u bc (.int .i64 C'.max) (.slice V'.ai C'.ins.length V'.ci) (.slice V'.al C'.lats.length V'.cl) (.slice V'.ao C'.outs.length V'.co) (.slice V'.ab C'.bads.length V'.cb) (.slice V'.ac C'.cons.length V'.cc) (.slice V'.ag C'.gates.length V'.cg) (.slice V'.ay V'.ny V'.cy) (.string V'.cm)
  exact ⟨hC.set9 (.int .i64 C'.max) (.slice V'.ai C'.ins.length V'.ci) (.slice V'.al C'.lats.length V'.cl) (.slice V'.ao C'.outs.length V'.co) (.slice V'.ab C'.bads.length V'.cb) (.slice V'.ac C'.cons.length V'.cc) (.slice V'.ag C'.gates.length V'.cg) (.slice V'.ay V'.ny V'.cy) (.string V'.cm), hH.kp k hbh, hR.kp k (by omega), hN.kp k (by omega), hK.trans k (fun j hj e => by omega), hl, fun h0 => ⟨(hb h0).1, (hb h0).2.two k (fun j e => .inl (by omega)) (.inl hbB) hB⟩⟩
end

set_option maxRecDepth 100000 in
set_option maxHeartbeats 16000000 in
theorem aiger_Prs (s : ByteArray) (w : World) (hs : s.size ≤ 100000 ∨ 1048576 < s.size) :
    Calls Tryz.prog 5 #[.string s] w (PrsP s w) := by
  obtain ⟨wz, hwz⟩ : ∃ wz : World, wz = (w.alloc (.cells #[.int .i64 0, .slice none 0 0, .slice none 0 0, .slice none 0 0, .slice none 0 0, .slice none 0 0, .slice none 0 0, .slice none 0 0, .string ⟨#[]⟩] 27)).alloc (.cells #[.int .i64 0, .slice none 0 0, .slice none 0 0, .slice none 0 0, .slice none 0 0, .slice none 0 0, .slice none 0 0, .slice none 0 0, .string ⟨#[]⟩] 27) := ⟨_, rfl⟩
  have HB := Lib.hid (ref_four w zc9 zc9 27 27)
  rw [show (w.alloc (.cells zc9 27)).alloc (.cells zc9 27) = wz from hwz.symm] at HB
  have HZ := Lib.hid hwz
  have HR1 := Lib.hid HB.out.1
  have HN1 := Lib.hid HB.out.2.1
  have HK1 := Lib.hid HB.out.2.2.1
  have HW := Lib.hid HB.out.2.2.2
  clear hwz HB
  by_cases hbig : 1048576 < s.size
  · have HP := Lib.hid (prsT_big hbig)
    have d1 : decide ((1048576 : Int) < (s.size : Int)) = true := by simp; omega
    clear hbig hs
    go_enter Tryz.func5, Tryz.ntmps5
    go_upto_region 2 with fail
    rw [show (w.alloc (.cells #[.int .i64 0, .slice none 0 0, .slice none 0 0, .slice none 0 0, .slice none 0 0, .slice none 0 0, .slice none 0 0, .slice none 0 0, .string ⟨#[]⟩] 27)).alloc (.cells #[.int .i64 0, .slice none 0 0, .slice none 0 0, .slice none 0 0, .slice none 0 0, .slice none 0 0, .slice none 0 0, .slice none 0 0, .string ⟨#[]⟩] 27) = wz from HZ.out.symm]
    have hz : Blk wz w.heap.size #[.int .i64 0, .slice none 0 0, .slice none 0 0, .slice none 0 0, .slice none 0 0, .slice none 0 0, .slice none 0 0, .slice none 0 0, .string ⟨#[]⟩] 27 := HR1.out
    have hn : Blk wz (w.heap.size + 1) #[.int .i64 0, .slice none 0 0, .slice none 0 0, .slice none 0 0, .slice none 0 0, .slice none 0 0, .slice none 0 0, .slice none 0 0, .string ⟨#[]⟩] 27 := HN1.out
    obtain ⟨z0, z1, z2, z3, z4, z5, z6, z7, z8⟩ := hz.cells9
    obtain ⟨x0, x1, x2, x3, x4, x5, x6, x7, x8⟩ := hn.cells9
    have fr := hz.free
    have fr0 := fr 0
    have fr1 := fr 1
    have fr2 := fr 2
    have fr3 := fr 3
    have fr4 := fr 4
    have fr5 := fr 5
    have fr6 := fr 6
    have fr7 := fr 7
    have fr8 := fr 8
    have HBe := Lib.hid (hz.set9 (.int .i64 0) (.slice none 0 0) (.slice none 0 0) (.slice none 0 0) (.slice none 0 0) (.slice none 0 0) (.slice none 0 0) (.slice none 0 0) (.string ⟨#[]⟩))
    have HKe := Lib.hid (Kp.set9 wz w.heap.size (.int .i64 0) (.slice none 0 0) (.slice none 0 0) (.slice none 0 0) (.slice none 0 0) (.slice none 0 0) (.slice none 0 0) (.slice none 0 0) (.string ⟨#[]⟩))
    unfold Go.Proofs.YtckmdcmkjmpiaaaGreatDoor.set9 at HBe HKe
    clear fr hz hn
    go_wp2_with fail
    obtain ⟨s0, s1, s2, s3, s4, s5, s6, s7, s8⟩ := HBe.out.cells9
    exact bodyPost_ret (v := .tuple #[.agg zc9, .int .i64 0, .int .i64 4]) (by simp [results, Tryz.results5, go_sem, s0, s1, s2, s3, s4, s5, s6, s7, s8, zc9]) rfl ⟨HK1.out.trans HKe.out (fun j hj e => by omega), by simp only [HP.out]⟩
  have hsz : s.size ≤ 100000 := by omega
  have d1 : decide ((1048576 : Int) < (s.size : Int)) = false := by simp; omega
  obtain ⟨b, Lh, p0, e0, hh⟩ : ∃ b L p e, headT s = (b, L, p, e) := ⟨_, _, _, _, rfl⟩
  obtain ⟨M, hM⟩ : ∃ x, nth Lh 0 = x := ⟨_, rfl⟩
  obtain ⟨nI, hI⟩ : ∃ x, nth Lh 1 = x := ⟨_, rfl⟩
  obtain ⟨nL, hL⟩ : ∃ x, nth Lh 2 = x := ⟨_, rfl⟩
  obtain ⟨nO, hO⟩ : ∃ x, nth Lh 3 = x := ⟨_, rfl⟩
  obtain ⟨nA, hA⟩ : ∃ x, nth Lh 4 = x := ⟨_, rfl⟩
  obtain ⟨nB, hBd⟩ : ∃ x, nth Lh 5 = x := ⟨_, rfl⟩
  obtain ⟨nC, hC⟩ : ∃ x, nth Lh 6 = x := ⟨_, rfl⟩
  have HRH := Lib.hid (fun u : World => show Calls Tryz.prog 13 #[.string s] u (fun o u' => o = .returned (.tuple #[.agg (hdA b M nI nL nO nA nB nC), .int .i64 (p0 : Nat), .int .i64 (e0 : Nat)]) ∧ Kp (fun _ => False) u u') from by
    refine (ascii_ReadHead rdKA s u (by omega)).mono ?_
    rintro o u' ⟨rfl, hk⟩
    refine ⟨?_, hk⟩
    rw [hh, ← hM, ← hI, ← hL, ← hO, ← hA, ← hBd, ← hC]
    rfl)
  have HBig := Lib.hid hbig
  have HS := Lib.hid hsz
  have HH := Lib.hid hh
  have HNt := Lib.hid (And.intro hM (And.intro hI (And.intro hL (And.intro hO (And.intro hA (And.intro hBd hC))))))
  clear hbig hs hsz hh hM hI hL hO hA hBd hC
  unfold hdA at HRH
  go_enter Tryz.func5, Tryz.ntmps5
  go_upto_region 2 with fail
  rw [show (w.alloc (.cells #[.int .i64 0, .slice none 0 0, .slice none 0 0, .slice none 0 0, .slice none 0 0, .slice none 0 0, .slice none 0 0, .slice none 0 0, .string ⟨#[]⟩] 27)).alloc (.cells #[.int .i64 0, .slice none 0 0, .slice none 0 0, .slice none 0 0, .slice none 0 0, .slice none 0 0, .slice none 0 0, .slice none 0 0, .string ⟨#[]⟩] 27) = wz from HZ.out.symm]
  clear HZ
  go_wp2_with fail
  refine (HRH.out _).mono ?_
  rintro o w1 ⟨rfl, hK1⟩
  obtain ⟨wh, hwh⟩ : ∃ wh : World, wh = w1.alloc (.cells #[.bool b, .int .i64 (M : Nat), .int .i64 (nI : Nat), .int .i64 (nL : Nat), .int .i64 (nO : Nat), .int .i64 (nA : Nat), .int .i64 (nB : Nat), .int .i64 (nC : Nat)] 42) := ⟨_, rfl⟩
  have hka : Kp (fun _ => False) wz wh := by rw [hwh]; exact hK1.alloc _
  have HKh := Lib.hid (HK1.out.trans hka (fun _ _ h => h))
  have HRh := Lib.hid (HR1.out.kp hka (fun h => h))
  have HNh := Lib.hid (HN1.out.kp hka (fun h => h))
  obtain ⟨bh, hbh⟩ : ∃ bh, w1.heap.size = bh := ⟨_, rfl⟩
  have HHh := Lib.hid (show Blk wh bh #[.bool b, .int .i64 (M : Nat), .int .i64 (nI : Nat), .int .i64 (nL : Nat), .int .i64 (nO : Nat), .int .i64 (nA : Nat), .int .i64 (nB : Nat), .int .i64 (nC : Nat)] 42 by rw [hwh, ← hbh]; exact Blk.new w1 _ _)
  have HLw := Lib.hid (show w.heap.size + 1 < bh by rw [← hbh]; have := hK1.size; have := HW.out; omega)
  clear hka hK1 HR1 HN1 HK1 HRH d1
  go_upto_region 5 with fail
  rw [← hwh]
  clear hwh hbh
  by_cases he0 : e0 = 0
  rotate_left
  · have q0 : ((e0 : Int) != 0) = true := by simp; omega
    have HP := Lib.hid (prsT_head HBig.out HH.out he0)
    clear he0
    have hz : Blk wh w.heap.size #[.int .i64 0, .slice none 0 0, .slice none 0 0, .slice none 0 0, .slice none 0 0, .slice none 0 0, .slice none 0 0, .slice none 0 0, .string ⟨#[]⟩] 27 := HRh.out
    have hn : Blk wh (w.heap.size + 1) #[.int .i64 0, .slice none 0 0, .slice none 0 0, .slice none 0 0, .slice none 0 0, .slice none 0 0, .slice none 0 0, .slice none 0 0, .string ⟨#[]⟩] 27 := HNh.out
    obtain ⟨z0, z1, z2, z3, z4, z5, z6, z7, z8⟩ := hz.cells9
    obtain ⟨x0, x1, x2, x3, x4, x5, x6, x7, x8⟩ := hn.cells9
    have fr := hz.free
    have fr0 := fr 0
    have fr1 := fr 1
    have fr2 := fr 2
    have fr3 := fr 3
    have fr4 := fr 4
    have fr5 := fr 5
    have fr6 := fr 6
    have fr7 := fr 7
    have fr8 := fr 8
    have HBe := Lib.hid (hz.set9 (.int .i64 0) (.slice none 0 0) (.slice none 0 0) (.slice none 0 0) (.slice none 0 0) (.slice none 0 0) (.slice none 0 0) (.slice none 0 0) (.string ⟨#[]⟩))
    have HKe := Lib.hid (Kp.set9 wh w.heap.size (.int .i64 0) (.slice none 0 0) (.slice none 0 0) (.slice none 0 0) (.slice none 0 0) (.slice none 0 0) (.slice none 0 0) (.slice none 0 0) (.string ⟨#[]⟩))
    unfold Go.Proofs.YtckmdcmkjmpiaaaGreatDoor.set9 at HBe HKe
    clear fr hz hn
    go_wp2_with fail
    obtain ⟨s0, s1, s2, s3, s4, s5, s6, s7, s8⟩ := HBe.out.cells9
    exact bodyPost_ret (v := .tuple #[.agg zc9, .int .i64 (p0 : Nat), .int .i64 (e0 : Nat)]) (by simp [results, Tryz.results5, go_sem, s0, s1, s2, s3, s4, s5, s6, s7, s8, zc9]) rfl ⟨HKh.out.trans HKe.out (fun j hj e => by omega), by simp only [HP.out]⟩
  subst he0
  have hsm := headT_small (s := s) (by rw [HH.out])
  rw [HH.out] at hsm
  obtain ⟨hbnd, hp0⟩ := hsm
  simp only at hbnd hp0
  have HBn := Lib.hid (show M ≤ 16777216 ∧ nI ≤ 16777216 ∧ nL ≤ 16777216 ∧ nO ≤ 16777216 ∧ nA ≤ 16777216 ∧ nB ≤ 16777216 ∧ nC ≤ 16777216 from ⟨HNt.out.1 ▸ hbnd 0, HNt.out.2.1 ▸ hbnd 1, HNt.out.2.2.1 ▸ hbnd 2, HNt.out.2.2.2.1 ▸ hbnd 3, HNt.out.2.2.2.2.1 ▸ hbnd 4, HNt.out.2.2.2.2.2.1 ▸ hbnd 5, HNt.out.2.2.2.2.2.2 ▸ hbnd 6⟩)
  have HP0 := Lib.hid hp0
  clear hbnd hp0
  obtain ⟨C2, p2, e2, h2⟩ : ∃ C q e, rdP s (b, Lh, p0, 0) = (C, q, e) := ⟨_, _, _, rfl⟩
  have hrd : (if b = true then rdC s (M : Int) nI nL nO nA nB nC (p0, 0) else rdA s (M : Int) nI nL nO nA nB nC (p0, 0)) = (C2, p2, e2) := by
    rw [← h2, ← HNt.out.1, ← HNt.out.2.1, ← HNt.out.2.2.1, ← HNt.out.2.2.2.1, ← HNt.out.2.2.2.2.1, ← HNt.out.2.2.2.2.2.1, ← HNt.out.2.2.2.2.2.2]
    rfl
  have H2 := Lib.hid h2
  have HRd := Lib.hid hrd
  clear h2 hrd
  go_upto_region 7 with fail
  go_cut [7, 8, 9] from 26 to 37 (fun s7 s8 s9 wx => ∃ V2 C9 bc, s7 = .int .i64 (p2 : Nat) ∧ s8 = .int .i64 (e2 : Nat) ∧ s9 = .pointer (some ⟨bc, 0, none⟩) ∧ Blk wx bc (cvals V2 C9) 27 ∧ Blk wx bh #[.bool b, .int .i64 (M : Nat), .int .i64 (nI : Nat), .int .i64 (nL : Nat), .int .i64 (nO : Nat), .int .i64 (nA : Nat), .int .i64 (nB : Nat), .int .i64 (nC : Nat)] 42 ∧ Blk wx w.heap.size zc9 27 ∧ Blk wx (w.heap.size + 1) zc9 27 ∧ Kp (fun _ => False) w wx ∧ w.heap.size + 1 < bc ∧ (e2 = 0 → C9 = C2 ∧ Keep2 bc w.heap.size wx V2 C2))
  case first =>
    cases b with
    | false =>
      have hr : rdA s (M : Int) nI nL nO nA nB nC (p0, 0) = (C2, p2, e2) := by have := HRd.out; rwa [if_neg (by simp)] at this
      have HRX := Lib.hid (fun u : World => show Calls Tryz.prog 33 #[.string s, .int .i64 (p0 : Nat), .agg #[.bool false, .int .i64 (M : Nat), .int .i64 (nI : Nat), .int .i64 (nL : Nat), .int .i64 (nO : Nat), .int .i64 (nA : Nat), .int .i64 (nB : Nat), .int .i64 (nC : Nat)]] u (fun o u' => ∃ V' C', o = .returned (.tuple #[.agg #[.int .i64 C'.max, .slice V'.ai C'.ins.length V'.ci, .slice V'.al C'.lats.length V'.cl, .slice V'.ao C'.outs.length V'.co, .slice V'.ab C'.bads.length V'.cb, .slice V'.ac C'.cons.length V'.cc, .slice V'.ag C'.gates.length V'.cg, .slice V'.ay V'.ny V'.cy, .string V'.cm], .int .i64 (p2 : Nat), .int .i64 (e2 : Nat)]) ∧ Kp (fun _ => False) u u' ∧ (e2 = 0 → C' = C2 ∧ BKeep u.heap.size u' V' C2)) from (asc_Read s p0 false M nI nL nO nA nB nC u (by have := HS.out; omega) HP0.out HBn.out.1 HBn.out.2.1 HBn.out.2.2.1 HBn.out.2.2.2.1 HBn.out.2.2.2.2.1 HBn.out.2.2.2.2.2.1 HBn.out.2.2.2.2.2.2).mono (fun e u' h => by
        rw [hr] at h
        obtain ⟨V', C', h1, h2, h3⟩ := BinReadP.q h
        exact ⟨V', C', h1, h2, fun h0 => by
          obtain ⟨h4, h5⟩ := h3 h0
          have h6 : C' = C2 := h4
          subst h6
          exact ⟨rfl, h5⟩⟩))
      clear hr
      have HHf := Lib.hid (fun u (hK : Kp (fun _ => False) wh u) => HHh.out.kp hK (fun h => h))
      have HRf := Lib.hid (fun u (hK : Kp (fun _ => False) wh u) => HRh.out.kp hK (fun h => h))
      have HNf := Lib.hid (fun u (hK : Kp (fun _ => False) wh u) => HNh.out.kp hK (fun h => h))
      go_region_held3 (fun u => u.cell? ⟨bh, 0, none⟩ = some (.bool false) ∧ u.cell? ⟨bh, 1, none⟩ = some (.int .i64 (M : Nat)) ∧ u.cell? ⟨bh, 2, none⟩ = some (.int .i64 (nI : Nat)) ∧ u.cell? ⟨bh, 3, none⟩ = some (.int .i64 (nL : Nat)) ∧ u.cell? ⟨bh, 4, none⟩ = some (.int .i64 (nO : Nat)) ∧ u.cell? ⟨bh, 5, none⟩ = some (.int .i64 (nA : Nat)) ∧ u.cell? ⟨bh, 6, none⟩ = some (.int .i64 (nB : Nat)) ∧ u.cell? ⟨bh, 7, none⟩ = some (.int .i64 (nC : Nat))) (exact (HHf.out _ (by repeat (first | (with_reducible exact Kp.refl _ _) | (with_reducible exact HKa.out) | (with_reducible exact HKb.out) | (with_reducible apply Kp.alloc) | (with_reducible apply Kp.drew) | (with_reducible refine Kp.setCell ?_ (fun h => by (have q1 := HKa.out.size); (try dsimp only at h); omega) _)))).cells8) ((first
        | ((with_reducible refine Calls.mono (aiger_readers _) ?_)
           rintro o u1 ⟨bm, rfl, hM, hK⟩
           have HKa := Lib.hid (Kp.trans (a := wh) (by repeat (with_reducible first | exact Kp.refl _ _ | exact HKa.out | exact HKb.out | apply Kp.alloc | apply Kp.drew)) hK (fun _ _ h => h))
           (try have HZa := Lib.hid ((Blk.new wh.drew #[.int .i64 0, .slice none 0 0, .slice none 0 0, .slice none 0 0, .slice none 0 0, .slice none 0 0, .slice none 0 0, .slice none 0 0, .string ⟨#[]⟩] 27).kp hK (fun h => h)))
           (try have HZa := Lib.hid ((Blk.new wh #[.int .i64 0, .slice none 0 0, .slice none 0 0, .slice none 0 0, .slice none 0 0, .slice none 0 0, .slice none 0 0, .slice none 0 0, .string ⟨#[]⟩] 27).kp hK (fun h => h)))
           (try have HZa := Lib.hid ((Blk.new wh #[.int .i64 0, .slice none 0 0, .slice none 0 0, .slice none 0 0, .slice none 0 0, .slice none 0 0, .slice none 0 0, .slice none 0 0, .string ⟨#[]⟩] 27).drew.kp hK (fun h => h)))
           have lk1 := readers_false hM
           have lk2 := readers_false (u := u1.drew) hM
           have lk3 := readers_false (hM.kp ((Kp.refl (fun _ => False) u1).alloc (.cells #[.int .i64 0, .slice none 0 0, .slice none 0 0, .slice none 0 0, .slice none 0 0, .slice none 0 0, .slice none 0 0, .slice none 0 0, .string ⟨#[]⟩] 27)) (fun h => h))
           have lk4 := readers_false (hM.kp (((Kp.refl (fun _ => False) u1).drew).alloc (.cells #[.int .i64 0, .slice none 0 0, .slice none 0 0, .slice none 0 0, .slice none 0 0, .slice none 0 0, .slice none 0 0, .slice none 0 0, .string ⟨#[]⟩] 27)) (fun h => h))
           have lk5 := readers_false (hM.kp (((Kp.refl (fun _ => False) u1).alloc (.cells #[.int .i64 0, .slice none 0 0, .slice none 0 0, .slice none 0 0, .slice none 0 0, .slice none 0 0, .slice none 0 0, .slice none 0 0, .string ⟨#[]⟩] 27)).drew) (fun h => h))
           clear hK hM)
        | ((with_reducible refine Calls.mono (HRX.out _) ?_)
           rintro o u2 ⟨V', C', rfl, hK, hOk⟩
           clear lk1 lk2 lk3 lk4 lk5
           have HKb := Lib.hid (Kp.trans (a := wh) (by repeat (with_reducible first | exact Kp.refl _ _ | exact HKa.out | exact HKb.out | apply Kp.alloc | apply Kp.drew)) hK (fun _ _ h => h))
           (try have HZb := Lib.hid (HZa.out.kp hK (fun h => h)))
           (try have HZb := Lib.hid (HZa.out.drew.kp hK (fun h => h)))
           (try have HZb := Lib.hid ((Blk.new u1.drew #[.int .i64 0, .slice none 0 0, .slice none 0 0, .slice none 0 0, .slice none 0 0, .slice none 0 0, .slice none 0 0, .slice none 0 0, .string ⟨#[]⟩] 27).kp hK (fun h => h)))
           (try have HZb := Lib.hid ((Blk.new u1 #[.int .i64 0, .slice none 0 0, .slice none 0 0, .slice none 0 0, .slice none 0 0, .slice none 0 0, .slice none 0 0, .slice none 0 0, .string ⟨#[]⟩] 27).kp hK (fun h => h)))
           (try have HZb := Lib.hid ((Blk.new u1 #[.int .i64 0, .slice none 0 0, .slice none 0 0, .slice none 0 0, .slice none 0 0, .slice none 0 0, .slice none 0 0, .slice none 0 0, .string ⟨#[]⟩] 27).drew.kp hK (fun h => h)))
           have HOb := Lib.hid hOk
           clear hK hOk
           (try obtain ⟨x0, x1, x2, x3, x4, x5, x6, x7, x8⟩ := HZb.out.cells9)
           (try have f0 := HZb.out.free 0)
           (try have f1 := HZb.out.free 1)
           (try have f2 := HZb.out.free 2)
           (try have f3 := HZb.out.free 3)
           (try have f4 := HZb.out.free 4)
           (try have f5 := HZb.out.free 5)
           (try have f6 := HZb.out.free 6)
           (try have f7 := HZb.out.free 7)
           (try have f8 := HZb.out.free 8))))
      all_goals go_wp2_with fail
      all_goals go_meet
      all_goals
        have hR2 := HRf.out _ HKb.out
        have hN2 := HNf.out _ HKb.out
        have hH2 := HHf.out _ HKb.out
        have hW2 : Kp (fun _ => False) w u2 := HKh.out.trans HKb.out (fun _ _ h => h)
        have hs1 := HKa.out.size
        have hs2 := HKb.out.size
        have hN := HLw.out
        have hL := HHh.out.lt
        have hOb := HOb.out
        first
          | (refine ⟨V', C', u2.heap.size, rfl, rfl, rfl, ?_⟩
             have hp := prs_new hH2 hR2 hN2 hW2 hOb (by first | omega | (simp; omega)) (by omega)
             first | exact hp | exact prs_drew hp)
          | (refine ⟨V', C', u1.heap.size, rfl, rfl, rfl, ?_⟩
             have hp := prs_set (bc := u1.heap.size) HZb.out hH2 hR2 hN2 hW2 hOb (by first | omega | (simp; omega)) (by omega) (by omega) (by first | omega | simp)
             unfold Go.Proofs.YtckmdcmkjmpiaaaGreatDoor.set9 at hp
             first | exact hp | exact prs_drew hp)
          | (refine ⟨V', C', wh.heap.size, rfl, rfl, rfl, ?_⟩
             have hz : wh.heap.size < u1.heap.size := HZa.out.lt
             have hp := prs_set (bc := wh.heap.size) HZb.out hH2 hR2 hN2 hW2 hOb (by first | omega | (simp; omega)) (by omega) (by omega) (by first | omega | (simp; omega))
             unfold Go.Proofs.YtckmdcmkjmpiaaaGreatDoor.set9 at hp
             first | exact hp | exact prs_drew hp)
    | true =>
      have hr : rdC s (M : Int) nI nL nO nA nB nC (p0, 0) = (C2, p2, e2) := by have := HRd.out; rwa [if_pos rfl] at this
      have HRX := Lib.hid (fun u : World => show Calls Tryz.prog 34 #[.string s, .int .i64 (p0 : Nat), .agg #[.bool true, .int .i64 (M : Nat), .int .i64 (nI : Nat), .int .i64 (nL : Nat), .int .i64 (nO : Nat), .int .i64 (nA : Nat), .int .i64 (nB : Nat), .int .i64 (nC : Nat)]] u (fun o u' => ∃ V' C', o = .returned (.tuple #[.agg #[.int .i64 C'.max, .slice V'.ai C'.ins.length V'.ci, .slice V'.al C'.lats.length V'.cl, .slice V'.ao C'.outs.length V'.co, .slice V'.ab C'.bads.length V'.cb, .slice V'.ac C'.cons.length V'.cc, .slice V'.ag C'.gates.length V'.cg, .slice V'.ay V'.ny V'.cy, .string V'.cm], .int .i64 (p2 : Nat), .int .i64 (e2 : Nat)]) ∧ Kp (fun _ => False) u u' ∧ (e2 = 0 → C' = C2 ∧ BKeep u.heap.size u' V' C2)) from (bin_Read s p0 true (M : Int) nI nL nO nA nB nC u (by have := HS.out; omega) HP0.out (by omega) (by have := HBn.out.1; omega) HBn.out.2.1 HBn.out.2.2.1 HBn.out.2.2.2.1 HBn.out.2.2.2.2.1 HBn.out.2.2.2.2.2.1 HBn.out.2.2.2.2.2.2).mono (fun e u' h => by
        rw [hr] at h
        obtain ⟨V', C', h1, h2, h3⟩ := BinReadP.q h
        exact ⟨V', C', h1, h2, fun h0 => by
          obtain ⟨h4, h5⟩ := h3 h0
          have h6 : C' = C2 := h4
          subst h6
          exact ⟨rfl, h5⟩⟩))
      clear hr
      have HHf := Lib.hid (fun u (hK : Kp (fun _ => False) wh u) => HHh.out.kp hK (fun h => h))
      have HRf := Lib.hid (fun u (hK : Kp (fun _ => False) wh u) => HRh.out.kp hK (fun h => h))
      have HNf := Lib.hid (fun u (hK : Kp (fun _ => False) wh u) => HNh.out.kp hK (fun h => h))
      go_region_held3 (fun u => u.cell? ⟨bh, 0, none⟩ = some (.bool true) ∧ u.cell? ⟨bh, 1, none⟩ = some (.int .i64 (M : Nat)) ∧ u.cell? ⟨bh, 2, none⟩ = some (.int .i64 (nI : Nat)) ∧ u.cell? ⟨bh, 3, none⟩ = some (.int .i64 (nL : Nat)) ∧ u.cell? ⟨bh, 4, none⟩ = some (.int .i64 (nO : Nat)) ∧ u.cell? ⟨bh, 5, none⟩ = some (.int .i64 (nA : Nat)) ∧ u.cell? ⟨bh, 6, none⟩ = some (.int .i64 (nB : Nat)) ∧ u.cell? ⟨bh, 7, none⟩ = some (.int .i64 (nC : Nat))) (exact (HHf.out _ (by repeat (first | (with_reducible exact Kp.refl _ _) | (with_reducible exact HKa.out) | (with_reducible exact HKb.out) | (with_reducible apply Kp.alloc) | (with_reducible apply Kp.drew) | (with_reducible refine Kp.setCell ?_ (fun h => by (have q1 := HKa.out.size); (try dsimp only at h); omega) _)))).cells8) ((first
        | ((with_reducible refine Calls.mono (aiger_readers _) ?_)
           rintro o u1 ⟨bm, rfl, hM, hK⟩
           have HKa := Lib.hid (Kp.trans (a := wh) (by repeat (with_reducible first | exact Kp.refl _ _ | exact HKa.out | exact HKb.out | apply Kp.alloc | apply Kp.drew)) hK (fun _ _ h => h))
           (try have HZa := Lib.hid ((Blk.new wh.drew #[.int .i64 0, .slice none 0 0, .slice none 0 0, .slice none 0 0, .slice none 0 0, .slice none 0 0, .slice none 0 0, .slice none 0 0, .string ⟨#[]⟩] 27).kp hK (fun h => h)))
           (try have HZa := Lib.hid ((Blk.new wh #[.int .i64 0, .slice none 0 0, .slice none 0 0, .slice none 0 0, .slice none 0 0, .slice none 0 0, .slice none 0 0, .slice none 0 0, .string ⟨#[]⟩] 27).kp hK (fun h => h)))
           (try have HZa := Lib.hid ((Blk.new wh #[.int .i64 0, .slice none 0 0, .slice none 0 0, .slice none 0 0, .slice none 0 0, .slice none 0 0, .slice none 0 0, .slice none 0 0, .string ⟨#[]⟩] 27).drew.kp hK (fun h => h)))
           have lk1 := readers_true hM
           have lk2 := readers_true (u := u1.drew) hM
           have lk3 := readers_true (hM.kp ((Kp.refl (fun _ => False) u1).alloc (.cells #[.int .i64 0, .slice none 0 0, .slice none 0 0, .slice none 0 0, .slice none 0 0, .slice none 0 0, .slice none 0 0, .slice none 0 0, .string ⟨#[]⟩] 27)) (fun h => h))
           have lk4 := readers_true (hM.kp (((Kp.refl (fun _ => False) u1).drew).alloc (.cells #[.int .i64 0, .slice none 0 0, .slice none 0 0, .slice none 0 0, .slice none 0 0, .slice none 0 0, .slice none 0 0, .slice none 0 0, .string ⟨#[]⟩] 27)) (fun h => h))
           have lk5 := readers_true (hM.kp (((Kp.refl (fun _ => False) u1).alloc (.cells #[.int .i64 0, .slice none 0 0, .slice none 0 0, .slice none 0 0, .slice none 0 0, .slice none 0 0, .slice none 0 0, .slice none 0 0, .string ⟨#[]⟩] 27)).drew) (fun h => h))
           clear hK hM)
        | ((with_reducible refine Calls.mono (HRX.out _) ?_)
           rintro o u2 ⟨V', C', rfl, hK, hOk⟩
           clear lk1 lk2 lk3 lk4 lk5
           have HKb := Lib.hid (Kp.trans (a := wh) (by repeat (with_reducible first | exact Kp.refl _ _ | exact HKa.out | exact HKb.out | apply Kp.alloc | apply Kp.drew)) hK (fun _ _ h => h))
           (try have HZb := Lib.hid (HZa.out.kp hK (fun h => h)))
           (try have HZb := Lib.hid (HZa.out.drew.kp hK (fun h => h)))
           (try have HZb := Lib.hid ((Blk.new u1.drew #[.int .i64 0, .slice none 0 0, .slice none 0 0, .slice none 0 0, .slice none 0 0, .slice none 0 0, .slice none 0 0, .slice none 0 0, .string ⟨#[]⟩] 27).kp hK (fun h => h)))
           (try have HZb := Lib.hid ((Blk.new u1 #[.int .i64 0, .slice none 0 0, .slice none 0 0, .slice none 0 0, .slice none 0 0, .slice none 0 0, .slice none 0 0, .slice none 0 0, .string ⟨#[]⟩] 27).kp hK (fun h => h)))
           (try have HZb := Lib.hid ((Blk.new u1 #[.int .i64 0, .slice none 0 0, .slice none 0 0, .slice none 0 0, .slice none 0 0, .slice none 0 0, .slice none 0 0, .slice none 0 0, .string ⟨#[]⟩] 27).drew.kp hK (fun h => h)))
           have HOb := Lib.hid hOk
           clear hK hOk
           (try obtain ⟨x0, x1, x2, x3, x4, x5, x6, x7, x8⟩ := HZb.out.cells9)
           (try have f0 := HZb.out.free 0)
           (try have f1 := HZb.out.free 1)
           (try have f2 := HZb.out.free 2)
           (try have f3 := HZb.out.free 3)
           (try have f4 := HZb.out.free 4)
           (try have f5 := HZb.out.free 5)
           (try have f6 := HZb.out.free 6)
           (try have f7 := HZb.out.free 7)
           (try have f8 := HZb.out.free 8))))
      all_goals go_wp2_with fail
      all_goals go_meet
      all_goals
        have hR2 := HRf.out _ HKb.out
        have hN2 := HNf.out _ HKb.out
        have hH2 := HHf.out _ HKb.out
        have hW2 : Kp (fun _ => False) w u2 := HKh.out.trans HKb.out (fun _ _ h => h)
        have hs1 := HKa.out.size
        have hs2 := HKb.out.size
        have hN := HLw.out
        have hL := HHh.out.lt
        have hOb := HOb.out
        first
          | (refine ⟨V', C', u2.heap.size, rfl, rfl, rfl, ?_⟩
             have hp := prs_new hH2 hR2 hN2 hW2 hOb (by first | omega | (simp; omega)) (by omega)
             first | exact hp | exact prs_drew hp)
          | (refine ⟨V', C', u1.heap.size, rfl, rfl, rfl, ?_⟩
             have hp := prs_set (bc := u1.heap.size) HZb.out hH2 hR2 hN2 hW2 hOb (by first | omega | (simp; omega)) (by omega) (by omega) (by first | omega | simp)
             unfold Go.Proofs.YtckmdcmkjmpiaaaGreatDoor.set9 at hp
             first | exact hp | exact prs_drew hp)
          | (refine ⟨V', C', wh.heap.size, rfl, rfl, rfl, ?_⟩
             have hz : wh.heap.size < u1.heap.size := HZa.out.lt
             have hp := prs_set (bc := wh.heap.size) HZb.out hH2 hR2 hN2 hW2 hOb (by first | omega | (simp; omega)) (by omega) (by omega) (by first | omega | (simp; omega))
             unfold Go.Proofs.YtckmdcmkjmpiaaaGreatDoor.set9 at hp
             first | exact hp | exact prs_drew hp)
  case rest =>
  obtain ⟨V2, C9, bc, rfl, rfl, rfl, hC, hH, hR, hN, hK, hlb, hOk⟩ := hcut
  have HC := Lib.hid hC
  have HHx := Lib.hid hH
  have HR := Lib.hid hR
  have HN := Lib.hid hN
  have HK := Lib.hid hK
  have HLb := Lib.hid hlb
  have HOk := Lib.hid hOk
  clear hC hH hR hN hK hlb hOk
  obtain ⟨wx, rfl⟩ : ∃ wx : World, wx = wc := ⟨_, rfl⟩
  by_cases he2 : e2 = 0
  rotate_left
  · have q2 : ((e2 : Int) != 0) = true := by simp; omega
    have HP := Lib.hid (prsT_read HBig.out HH.out H2.out he2)
    clear he2 HOk
    have hz : Blk wx w.heap.size #[.int .i64 0, .slice none 0 0, .slice none 0 0, .slice none 0 0, .slice none 0 0, .slice none 0 0, .slice none 0 0, .slice none 0 0, .string ⟨#[]⟩] 27 := HR.out
    have hn : Blk wx (w.heap.size + 1) #[.int .i64 0, .slice none 0 0, .slice none 0 0, .slice none 0 0, .slice none 0 0, .slice none 0 0, .slice none 0 0, .slice none 0 0, .string ⟨#[]⟩] 27 := HN.out
    obtain ⟨z0, z1, z2, z3, z4, z5, z6, z7, z8⟩ := hz.cells9
    obtain ⟨x0, x1, x2, x3, x4, x5, x6, x7, x8⟩ := hn.cells9
    have fr := hz.free
    have fr0 := fr 0
    have fr1 := fr 1
    have fr2 := fr 2
    have fr3 := fr 3
    have fr4 := fr 4
    have fr5 := fr 5
    have fr6 := fr 6
    have fr7 := fr 7
    have fr8 := fr 8
    have HBe := Lib.hid (hz.set9 (.int .i64 0) (.slice none 0 0) (.slice none 0 0) (.slice none 0 0) (.slice none 0 0) (.slice none 0 0) (.slice none 0 0) (.slice none 0 0) (.string ⟨#[]⟩))
    have HKe := Lib.hid (Kp.set9 wx w.heap.size (.int .i64 0) (.slice none 0 0) (.slice none 0 0) (.slice none 0 0) (.slice none 0 0) (.slice none 0 0) (.slice none 0 0) (.slice none 0 0) (.string ⟨#[]⟩))
    unfold Go.Proofs.YtckmdcmkjmpiaaaGreatDoor.set9 at HBe HKe
    clear fr hz hn
    go_wp2_with fail
    obtain ⟨s0, s1, s2, s3, s4, s5, s6, s7, s8⟩ := HBe.out.cells9
    exact bodyPost_ret (v := .tuple #[.agg zc9, .int .i64 (p2 : Nat), .int .i64 (e2 : Nat)]) (by simp [results, Tryz.results5, go_sem, s0, s1, s2, s3, s4, s5, s6, s7, s8, zc9]) rfl ⟨HK.out.trans HKe.out (fun j hj e => by omega), by simp only [HP.out]⟩
  subst he2
  obtain ⟨rfl, hkeep⟩ := HOk.out rfl
  have HKeep := Lib.hid hkeep
  clear hkeep HOk
  have HFw := Lib.hid (show CFewI C9 from by
    have h1 := rdP_few HS.out (by rw [HH.out]) (by rw [HH.out, H2.out])
    rw [HH.out, H2.out] at h1
    exact h1.1)
  obtain ⟨T, hT⟩ : ∃ T, readT (hdP (b, Lh, p0, 0)) s (p2 : Nat) = T := ⟨_, rfl⟩
  obtain ⟨tl, tc, ta, te⟩ := T
  have HT := Lib.hid (fun u : World => show Calls Tryz.prog 15 #[.string s, .int .i64 (p2 : Nat), .agg #[.bool b, .int .i64 (M : Nat), .int .i64 (nI : Nat), .int .i64 (nL : Nat), .int .i64 (nO : Nat), .int .i64 (nA : Nat), .int .i64 (nB : Nat), .int .i64 (nC : Nat)]] u (ReadPost ⟨tl, tc, ta, te⟩ u) from by
    have h1 := tail_Read (hdP (b, Lh, p0, 0)) s (p2 : Nat) u HS.out
    rw [hT] at h1
    unfold hdV hdP at h1
    simp only [HNt.out.1, HNt.out.2.1, HNt.out.2.2.1, HNt.out.2.2.2.1, HNt.out.2.2.2.2.1, HNt.out.2.2.2.2.2.1, HNt.out.2.2.2.2.2.2] at h1
    exact h1)
  have HTe := Lib.hid hT
  clear hT
  obtain ⟨y0, y1, y2, y3, y4, y5, y6, y7⟩ := HHx.out.cells8
  have HLc := Lib.hid HC.out.lt
  go_wp2_with fail
  refine (HT.out _).mono ?_
  rintro o w5 ⟨v, rfl, hO5, hK5⟩
  obtain ⟨ya, yc, rfl, hsl, hya, hrow⟩ := own_row hO5
  simp only at hsl hrow
  have HSl := Lib.hid hsl
  have HYa := Lib.hid hya
  have HRow := Lib.hid hrow
  have HC5 := Lib.hid (HC.out.kp hK5 (fun h => h))
  have HR5 := Lib.hid (HR.out.kp hK5 (fun h => h))
  have HN5 := Lib.hid (HN.out.kp hK5 (fun h => h))
  have HK5 := Lib.hid (HK.out.trans hK5 (fun _ _ h => h))
  have Hk5 := Lib.hid hK5
  clear hO5 hK5 hsl hya hrow HT y0 y1 y2 y3 y4 y5 y6 y7 HC HR HN HK HHx
  have hx5 : Blk w5 bc #[.int .i64 C9.max, .slice V2.ai C9.ins.length V2.ci, .slice V2.al C9.lats.length V2.cl, .slice V2.ao C9.outs.length V2.co, .slice V2.ab C9.bads.length V2.cb, .slice V2.ac C9.cons.length V2.cc, .slice V2.ag C9.gates.length V2.cg, .slice V2.ay V2.ny V2.cy, .string V2.cm] 27 := HC5.out
  have c7 := hx5.cell (i := 7) (v := .slice V2.ay V2.ny V2.cy) rfl
  have c8 := hx5.cell (i := 8) (v := .string V2.cm) rfl
  have f7 := hx5.free 7
  have f8 := hx5.free 8
  clear hx5
  go_upto_region 11 with fail
  obtain ⟨ws, hws⟩ : ∃ ws : World, ws = (w5.setCell ⟨bc, 7, none⟩ (.slice ya tl.length yc)).setCell ⟨bc, 8, none⟩ (.string tc) := ⟨_, rfl⟩
  have HKs : Hid (Kp (fun j => j = bc) w5 ws) := Lib.hid (by rw [hws]; exact ((Kp.refl (fun j => j = bc) w5).setCell (p := ⟨bc, 7, none⟩) (fun _ => rfl) _).setCell (p := ⟨bc, 8, none⟩) (fun _ => rfl) _)
  have HCs := Lib.hid (show Blk ws bc #[.int .i64 C9.max, .slice V2.ai C9.ins.length V2.ci, .slice V2.al C9.lats.length V2.cl, .slice V2.ao C9.outs.length V2.co, .slice V2.ab C9.bads.length V2.cb, .slice V2.ac C9.cons.length V2.cc, .slice V2.ag C9.gates.length V2.cg, .slice ya tl.length yc, .string tc] 27 by rw [hws]; exact (HC5.out.set_same 7 (.slice ya tl.length yc)).set_same 8 (.string tc))
  have HRs := Lib.hid (HR5.out.kp HKs.out (by have := HLb.out; omega))
  have HNs := Lib.hid (HN5.out.kp HKs.out (by have := HLb.out; omega))
  have HKk := Lib.hid (HK5.out.trans HKs.out (fun j hj e => by have := HLb.out; omega))
  have Hks := Lib.hid (show Kp (fun j => j = bc) wx ws from (Hk5.out.mono (fun _ _ h => h.elim)).trans HKs.out (fun _ _ h => h))
  have HRw := Lib.hid (HRow.out.kp HKs.out (fun p hp e => by have := HYa.out p hp; have e2 : p.block = bc := e; have := HLc.out; omega))
  have HAs := Lib.hid (show CAt ws ⟨V2.ai, V2.ci, V2.al, V2.cl, V2.ao, V2.co, V2.ab, V2.cb, V2.ac, V2.cc, V2.ag, V2.cg, ya, tl.length, yc, tc⟩ C9 from CAt.tail (HKeep.out (fun j => j = bc) ws (fun j e => .inl e) Hks.out) HRw.out rfl HSl.out)
  rw [← hws]
  clear hws c7 c8 f7 f8 HC5 HR5 HN5 HK5 HKs HRow
  by_cases hte : te = 0
  rotate_left
  · have q3 : ((te : Int) != 0) = true := by simp; omega
    have HP := Lib.hid (prsT_tail HBig.out HH.out H2.out HTe.out hte)
    clear hte
    have hz : Blk ws w.heap.size #[.int .i64 0, .slice none 0 0, .slice none 0 0, .slice none 0 0, .slice none 0 0, .slice none 0 0, .slice none 0 0, .slice none 0 0, .string ⟨#[]⟩] 27 := HRs.out
    have hn : Blk ws (w.heap.size + 1) #[.int .i64 0, .slice none 0 0, .slice none 0 0, .slice none 0 0, .slice none 0 0, .slice none 0 0, .slice none 0 0, .slice none 0 0, .string ⟨#[]⟩] 27 := HNs.out
    obtain ⟨z0, z1, z2, z3, z4, z5, z6, z7, z8⟩ := hz.cells9
    obtain ⟨x0, x1, x2, x3, x4, x5, x6, x7, x8⟩ := hn.cells9
    have fr := hz.free
    have fr0 := fr 0
    have fr1 := fr 1
    have fr2 := fr 2
    have fr3 := fr 3
    have fr4 := fr 4
    have fr5 := fr 5
    have fr6 := fr 6
    have fr7 := fr 7
    have fr8 := fr 8
    have HBe := Lib.hid (hz.set9 (.int .i64 0) (.slice none 0 0) (.slice none 0 0) (.slice none 0 0) (.slice none 0 0) (.slice none 0 0) (.slice none 0 0) (.slice none 0 0) (.string ⟨#[]⟩))
    have HKe := Lib.hid (Kp.set9 ws w.heap.size (.int .i64 0) (.slice none 0 0) (.slice none 0 0) (.slice none 0 0) (.slice none 0 0) (.slice none 0 0) (.slice none 0 0) (.slice none 0 0) (.string ⟨#[]⟩))
    unfold Go.Proofs.YtckmdcmkjmpiaaaGreatDoor.set9 at HBe HKe
    clear fr hz hn
    go_wp2_with fail
    obtain ⟨s0, s1, s2, s3, s4, s5, s6, s7, s8⟩ := HBe.out.cells9
    exact bodyPost_ret (v := .tuple #[.agg zc9, .int .i64 (ta : Nat), .int .i64 (te : Nat)]) (by simp [results, Tryz.results5, go_sem, s0, s1, s2, s3, s4, s5, s6, s7, s8, zc9]) rfl ⟨HKk.out.trans HKe.out (fun j hj e => by omega), by simp only [HP.out]⟩
  subst hte
  have HCk := Lib.hid (show Calls Tryz.prog 16 #[.agg #[.int .i64 C9.max, .slice V2.ai C9.ins.length V2.ci, .slice V2.al C9.lats.length V2.cl, .slice V2.ao C9.outs.length V2.co, .slice V2.ab C9.bads.length V2.cb, .slice V2.ac C9.cons.length V2.cc, .slice V2.ag C9.gates.length V2.cg, .slice ya tl.length yc, .string tc]] ws (fun e w' => e = .returned (.int .i64 (ckCode C9)) ∧ Kp (fun _ => False) ws w') from circ_Chk ⟨V2.ai, V2.ci, V2.al, V2.cl, V2.ao, V2.co, V2.ab, V2.cb, V2.ac, V2.cc, V2.ag, V2.cg, ya, tl.length, yc, tc⟩ C9 ws HAs.out HFw.out)
  obtain ⟨code, hcode⟩ : ∃ code, ckCode C9 = code := ⟨_, rfl⟩
  rw [hcode] at HCk
  have HCo := Lib.hid hcode
  clear hcode
  obtain ⟨z0, z1, z2, z3, z4, z5, z6, z7, z8⟩ := HCs.out.cells9
  go_wp2_with fail
  refine (HCk.out).mono ?_
  rintro o w7 ⟨rfl, hK7⟩
  have HC7 := Lib.hid (HCs.out.kp hK7 (fun h => h))
  have HR7 := Lib.hid (HRs.out.kp hK7 (fun h => h))
  have HN7 := Lib.hid (HNs.out.kp hK7 (fun h => h))
  have HK7 := Lib.hid (HKk.out.trans hK7 (fun _ _ h => h))
  have Hk7 := Lib.hid (Hks.out.trans (hK7.mono (fun _ _ h => h.elim)) (fun _ _ h => h))
  have HRw7 := Lib.hid (HRw.out.kp hK7 (fun _ _ h => h))
  clear hK7 HCs HRs HNs HKk Hks HRw HCk z0 z1 z2 z3 z4 z5 z6 z7 z8
  by_cases hco : code = 0
  rotate_left
  · have q4 : (code != 0) = true := by simpa using hco
    have HP := Lib.hid (show prsT s = .bad 0 code from by
      have h1 := prsT_check HBig.out HH.out H2.out HTe.out (by rw [HCo.out]; exact hco)
      rw [HCo.out] at h1
      exact h1)
    clear hco
    have hz : Blk w7 w.heap.size #[.int .i64 0, .slice none 0 0, .slice none 0 0, .slice none 0 0, .slice none 0 0, .slice none 0 0, .slice none 0 0, .slice none 0 0, .string ⟨#[]⟩] 27 := HR7.out
    have hn : Blk w7 (w.heap.size + 1) #[.int .i64 0, .slice none 0 0, .slice none 0 0, .slice none 0 0, .slice none 0 0, .slice none 0 0, .slice none 0 0, .slice none 0 0, .string ⟨#[]⟩] 27 := HN7.out
    obtain ⟨z0, z1, z2, z3, z4, z5, z6, z7, z8⟩ := hz.cells9
    obtain ⟨x0, x1, x2, x3, x4, x5, x6, x7, x8⟩ := hn.cells9
    have fr := hz.free
    have fr0 := fr 0
    have fr1 := fr 1
    have fr2 := fr 2
    have fr3 := fr 3
    have fr4 := fr 4
    have fr5 := fr 5
    have fr6 := fr 6
    have fr7 := fr 7
    have fr8 := fr 8
    have HBe := Lib.hid (hz.set9 (.int .i64 0) (.slice none 0 0) (.slice none 0 0) (.slice none 0 0) (.slice none 0 0) (.slice none 0 0) (.slice none 0 0) (.slice none 0 0) (.string ⟨#[]⟩))
    have HKe := Lib.hid (Kp.set9 w7 w.heap.size (.int .i64 0) (.slice none 0 0) (.slice none 0 0) (.slice none 0 0) (.slice none 0 0) (.slice none 0 0) (.slice none 0 0) (.slice none 0 0) (.string ⟨#[]⟩))
    unfold Go.Proofs.YtckmdcmkjmpiaaaGreatDoor.set9 at HBe HKe
    clear fr hz hn
    go_wp2_with fail
    obtain ⟨s0, s1, s2, s3, s4, s5, s6, s7, s8⟩ := HBe.out.cells9
    exact bodyPost_ret (v := .tuple #[.agg zc9, .int .i64 0, .int .i64 code]) (by simp [results, Tryz.results5, go_sem, s0, s1, s2, s3, s4, s5, s6, s7, s8, zc9]) rfl ⟨HK7.out.trans HKe.out (fun j hj e => by omega), by simp only [HP.out]⟩
  subst hco
  have HP := Lib.hid (prsT_fine HBig.out HH.out H2.out HTe.out HCo.out)
  obtain ⟨z0, z1, z2, z3, z4, z5, z6, z7, z8⟩ := HC7.out.cells9
  have hr7 : Blk w7 w.heap.size #[.int .i64 0, .slice none 0 0, .slice none 0 0, .slice none 0 0, .slice none 0 0, .slice none 0 0, .slice none 0 0, .slice none 0 0, .string ⟨#[]⟩] 27 := HR7.out
  obtain ⟨r0, r1, r2, r3, r4, r5, r6, r7, r8⟩ := hr7.cells9
  have fr := hr7.free
  have fr0 := fr 0
  have fr1 := fr 1
  have fr2 := fr 2
  have fr3 := fr 3
  have fr4 := fr 4
  have fr5 := fr 5
  have fr6 := fr 6
  have fr7 := fr 7
  have fr8 := fr 8
  have nb1 : bc ≠ w.heap.size := by have := HLb.out; omega
  have nb2 : w.heap.size ≠ bc := by have := HLb.out; omega
  have HBe := Lib.hid (hr7.set9 (.int .i64 C9.max) (.slice V2.ai C9.ins.length V2.ci) (.slice V2.al C9.lats.length V2.cl) (.slice V2.ao C9.outs.length V2.co) (.slice V2.ab C9.bads.length V2.cb) (.slice V2.ac C9.cons.length V2.cc) (.slice V2.ag C9.gates.length V2.cg) (.slice ya tl.length yc) (.string tc))
  have HKe := Lib.hid (Kp.set9 w7 w.heap.size (.int .i64 C9.max) (.slice V2.ai C9.ins.length V2.ci) (.slice V2.al C9.lats.length V2.cl) (.slice V2.ao C9.outs.length V2.co) (.slice V2.ab C9.bads.length V2.cb) (.slice V2.ac C9.cons.length V2.cc) (.slice V2.ag C9.gates.length V2.cg) (.slice ya tl.length yc) (.string tc))
  have HAe := Lib.hid (show CAt _ ⟨V2.ai, V2.ci, V2.al, V2.cl, V2.ao, V2.co, V2.ab, V2.cb, V2.ac, V2.cc, V2.ag, V2.cg, ya, tl.length, yc, tc⟩ C9 ∧ RowAt _ ya (tl.map symCells).flatten from
    have hrw := HRw7.out.kp HKe.out (fun p hp e => by have := HYa.out p hp; have e2 : p.block = w.heap.size := e; have := HLc.out; have := HLb.out; omega)
    ⟨CAt.tail (HKeep.out (fun j => j = bc ∨ j = w.heap.size) _ (fun j e => e.elim .inl (fun h => .inr (.inl h))) ((Hk7.out.mono (fun _ _ h => .inl h)).trans HKe.out (fun _ _ h => .inr h))) hrw rfl HSl.out, hrw⟩)
  have HKf := Lib.hid (HK7.out.trans HKe.out (fun j hj e => by omega))
  unfold Go.Proofs.YtckmdcmkjmpiaaaGreatDoor.set9 at HBe HKe HAe HKf
  clear fr hr7
  go_wp2_with fail
  obtain ⟨s0, s1, s2, s3, s4, s5, s6, s7, s8⟩ := HBe.out.cells9
  refine bodyPost_ret (v := .tuple #[.agg #[.int .i64 C9.max, .slice V2.ai C9.ins.length V2.ci, .slice V2.al C9.lats.length V2.cl, .slice V2.ao C9.outs.length V2.co, .slice V2.ab C9.bads.length V2.cb, .slice V2.ac C9.cons.length V2.cc, .slice V2.ag C9.gates.length V2.cg, .slice ya tl.length yc, .string tc], .int .i64 (ta : Nat), .int .i64 0]) (by simp [results, Tryz.results5, go_sem, s0, s1, s2, s3, s4, s5, s6, s7, s8]) rfl ⟨HKf.out, ?_⟩
  simp only [HP.out]
  exact ⟨⟨V2.ai, V2.ci, V2.al, V2.cl, V2.ao, V2.co, V2.ab, V2.cb, V2.ac, V2.cc, V2.ag, V2.cg, ya, tl.length, yc, tc⟩, rfl, HAe.out.1, HAe.out.2, rfl, rfl⟩

end Go.Proofs.YtckmdcmkjmpiaaaGreatDoor

/-
  latchetref15.Parse of any text. (Printed by mkprs.py.)
-/
namespace Go.Proofs.YtckmdcmkjmpiaaaGreatDoor
open Go.RowKit

end Go.Proofs.YtckmdcmkjmpiaaaGreatDoor

/-
  What both Parse tell, in one form; aiger.Small; the example.
-/
namespace Go.Proofs.YtckmdcmkjmpiaaaGreatDoor
open Go.RowKit

theorem cat_zero (w : World) : CAt w ⟨none, 0, none, 0, none, 0, none, 0, none, 0, none, 0, none, 0, 0, ⟨#[]⟩⟩ ⟨0, [], [], [], [], [], []⟩ :=
  have h : SlOK none 0 0 := ⟨Nat.le_refl _, by simp [maxLen], fun _ => rfl⟩
  ⟨RowAt.nil _ _, RowAt.nil _ _, RowAt.nil _ _, RowAt.nil _ _, RowAt.nil _ _, RowAt.nil _ _, ⟨[], RowAt.nil _ _, rfl, (fun r h => by cases h), (fun r h => by cases h)⟩, h, h, h, h, h, h, h⟩
theorem sym_two {w : World} {V V' : CV} {l : List Sym} (h : RowAt w V.ay (l.map symCells).flatten) (h' : RowAt w V'.ay (l.map symCells).flatten) (hn : V.ny = l.length) : SymTwo w V V' := by
  refine ⟨l.map symCells, h, h', by simp [hn], fun k r hr => ?_⟩
  rw [List.getElem?_map] at hr
  cases hk : l[k]? with
  | none => rw [hk] at hr; cases hr
  | some x =>
    rw [hk] at hr
    cases hr
    exact ⟨_, _, _, rfl⟩

def exP : ByteArray := ⟨#[97, 97, 103, 32, 48, 32, 48, 32, 48, 32, 48, 32, 48, 32, 49, 10, 49, 10]⟩
theorem exP_is : prsT exP = .ok ⟨0, [], [], [], [1], [], []⟩ [] ⟨#[]⟩ 18 := by kernel_rfl

set_option maxRecDepth 100000 in
set_option maxHeartbeats 4000000 in
theorem lives_ok (w : World) : Calls Tryz.prog 9 #[] w fun e w' => e = .returned (.bool true) ∧ Kp (fun _ => False) w w' := by
  have HP := Lib.hid (fun u : World => aiger_Prs exP u (.inl (by decide)))
  unfold PrsP exP at HP
  have hx := exP_is
  unfold exP at hx
  simp only [hx] at HP
  clear hx
  go_enter Tryz.func9, Tryz.ntmps9
  go_wp2_with fail
  refine (HP.out _).mono ?_
  rintro o w1 ⟨hK1, V, rfl, hC, hrow, hny, hcm⟩
  obtain ⟨w2, hw2⟩ : ∃ w2 : World, w2 = (w1.alloc (.cells (cvals V ⟨0, [], [], [], [1], [], []⟩) 27)).alloc (.cells #[.int .i64 1] 3) := ⟨_, rfl⟩
  have hk2 : Kp (fun _ => False) w1 w2 := by rw [hw2]; exact ((Kp.refl _ w1).alloc _).alloc _
  have hB : Blk w2 (w1.heap.size + 1) #[.int .i64 1] 3 := by
    rw [hw2]
    have := Blk.new (w1.alloc (.cells (cvals V ⟨0, [], [], [], [1], [], []⟩) 27)) #[.int .i64 1] 3
    rwa [World.size_alloc] at this
  have h2 : CAt w2 ⟨none, 0, none, 0, none, 0, some ⟨w1.heap.size + 1, 0, none⟩, 1, none, 0, none, 0, none, 0, 0, ⟨#[]⟩⟩ ⟨0, [], [], [], [1], [], []⟩ :=
    have h := cat_zero w2
    ⟨h.i, h.l, h.o, hB.rowAt (off := 0) (n := 1) rfl, h.c, h.g, h.y, h.fi, h.fl, h.fo, ⟨Nat.le_refl _, by simp [maxLen], fun h => by cases h⟩, h.fc, h.fg, h.fy⟩
  have HSm := Lib.hid (ref11_Same2 V _ _ w2 (hC.kp hk2) h2 ⟨by decide, by decide, by decide, by decide, by decide, by decide⟩ ⟨hny.symm, hcm.symm⟩ (sym_two (hrow.kp hk2 (fun _ _ h => h)) (RowAt.nil _ _) hny))
  have HK := Lib.hid (hK1.trans hk2 (fun _ _ h => h))
  unfold cvals at HSm hw2
  unfold cvals
  simp only [List.length_nil, List.length_cons, Nat.zero_add] at HSm hw2 ⊢
  have HW := Lib.hid hw2
  clear hw2 hk2 hB h2 hC hrow hny hcm hK1 HP
  go_wp2_with fail
  rw [← HW.out]
  refine HSm.out.mono ?_
  rintro o w3 ⟨rfl, hK3⟩
  have HE := Lib.hid (HK.out.trans hK3 (fun _ _ h => h))
  clear hK3
  go_wp2_with fail
  go_ret
  exact ⟨rfl, HE.out⟩

end Go.Proofs.YtckmdcmkjmpiaaaGreatDoor

/-
  latchetlaw11.Few. (Printed by mkfew.py.)
-/
namespace Go.Proofs.YtckmdcmkjmpiaaaGreatDoor
open Go Go.RowKit

structure FewP (V : CV) (C : Circ) (m : Nat) : Prop where
  i : C.ins.length ≤ m
  l : C.lats.length ≤ m
  g : C.gates.length ≤ m
  o : C.outs.length ≤ m
  b : C.bads.length ≤ m
  c : C.cons.length ≤ m
  y : V.ny ≤ m
  t : V.cm.size ≤ 300

theorem FewP.few {V : CV} {C : Circ} {m k : Nat} (h : FewP V C m) (hk : m ≤ k) : CFew C k := ⟨Nat.le_trans h.i hk, Nat.le_trans h.l hk, Nat.le_trans h.o hk, Nat.le_trans h.b hk, Nat.le_trans h.c hk, Nat.le_trans h.g hk⟩

set_option maxRecDepth 100000 in
set_option maxHeartbeats 4000000 in
theorem law11_Few (V : CV) (C : Circ) (m : Nat) (w : World) :
    Calls Tryz.prog 10 #[.agg (cvals V C), .int .i64 m] w fun e w' => ∃ r : Bool, e = .returned (.bool r) ∧ (r = true ↔ FewP V C m) ∧ Kp (fun _ => False) w w' := by
  obtain ⟨wz, hwz⟩ : ∃ wz : World, wz = w.alloc (.cells (cvals V C) 27) := ⟨_, rfl⟩
  have HK0 := Lib.hid (show Kp (fun _ => False) w wz by rw [hwz]; exact (Kp.refl _ w).alloc _)
  obtain ⟨ni, hni⟩ : ∃ n, C.ins.length = n := ⟨_, rfl⟩
  obtain ⟨nl, hnl⟩ : ∃ n, C.lats.length = n := ⟨_, rfl⟩
  obtain ⟨no, hno⟩ : ∃ n, C.outs.length = n := ⟨_, rfl⟩
  obtain ⟨nb, hnb⟩ : ∃ n, C.bads.length = n := ⟨_, rfl⟩
  obtain ⟨nc, hnc⟩ : ∃ n, C.cons.length = n := ⟨_, rfl⟩
  obtain ⟨ng, hng⟩ : ∃ n, C.gates.length = n := ⟨_, rfl⟩
  obtain ⟨ny, hny⟩ : ∃ n, V.ny = n := ⟨_, rfl⟩
  obtain ⟨cm, hcm⟩ : ∃ s, V.cm = s := ⟨_, rfl⟩
  have HF := Lib.hid (show FewP V C m ↔ ni ≤ m ∧ nl ≤ m ∧ ng ≤ m ∧ no ≤ m ∧ nb ≤ m ∧ nc ≤ m ∧ ny ≤ m ∧ cm.size ≤ 300 from ⟨fun ⟨h1, h2, h3, h4, h5, h6, h7, h8⟩ => ⟨hni ▸ h1, hnl ▸ h2, hng ▸ h3, hno ▸ h4, hnb ▸ h5, hnc ▸ h6, hny ▸ h7, hcm ▸ h8⟩, fun ⟨h1, h2, h3, h4, h5, h6, h7, h8⟩ => ⟨hni ▸ h1, hnl ▸ h2, hng ▸ h3, hno ▸ h4, hnb ▸ h5, hnc ▸ h6, hny ▸ h7, hcm ▸ h8⟩⟩)
  have HC0 : Hid (Blk wz w.heap.size #[.int .i64 C.max, .slice V.ai ni V.ci, .slice V.al nl V.cl, .slice V.ao no V.co, .slice V.ab nb V.cb, .slice V.ac nc V.cc, .slice V.ag ng V.cg, .slice V.ay ny V.cy, .string cm] 27) := Lib.hid (by
    have h := Blk.new w (cvals V C) 27
    rw [← hwz] at h
    unfold cvals at h
    rw [hni, hnl, hno, hnb, hnc, hng, hny, hcm] at h
    exact h)
  obtain ⟨d0, d1, d2, d3, d4, d5, d6, d7, d8⟩ := Blk.cells9 HC0.out
  have HZ := Lib.hid hwz
  clear hni hnl hno hnb hnc hng hny hcm hwz
  by_cases h0 : ni ≤ m
  case neg =>
    have HNo := Lib.hid (show ¬ (ni ≤ m ∧ nl ≤ m ∧ ng ≤ m ∧ no ≤ m ∧ nb ≤ m ∧ nc ≤ m ∧ ny ≤ m ∧ cm.size ≤ 300) from fun h => h0 h.1)
    go_enter Tryz.func10, Tryz.ntmps10
    go_upto_region 1 with fail
    rw [← HZ.out]
    clear HZ
    go_wp2_with fail
    go_ret
    exact ⟨false, rfl, ⟨fun h => (by cases h), fun h => absurd (HF.out.1 h) HNo.out⟩, HK0.out⟩
  by_cases h1 : nl ≤ m
  case neg =>
    have HNo := Lib.hid (show ¬ (ni ≤ m ∧ nl ≤ m ∧ ng ≤ m ∧ no ≤ m ∧ nb ≤ m ∧ nc ≤ m ∧ ny ≤ m ∧ cm.size ≤ 300) from fun h => h1 h.2.1)
    go_enter Tryz.func10, Tryz.ntmps10
    go_upto_region 1 with fail
    rw [← HZ.out]
    clear HZ
    go_wp2_with fail
    go_ret
    exact ⟨false, rfl, ⟨fun h => (by cases h), fun h => absurd (HF.out.1 h) HNo.out⟩, HK0.out⟩
  by_cases h2 : ng ≤ m
  case neg =>
    have HNo := Lib.hid (show ¬ (ni ≤ m ∧ nl ≤ m ∧ ng ≤ m ∧ no ≤ m ∧ nb ≤ m ∧ nc ≤ m ∧ ny ≤ m ∧ cm.size ≤ 300) from fun h => h2 h.2.2.1)
    go_enter Tryz.func10, Tryz.ntmps10
    go_upto_region 1 with fail
    rw [← HZ.out]
    clear HZ
    go_wp2_with fail
    go_ret
    exact ⟨false, rfl, ⟨fun h => (by cases h), fun h => absurd (HF.out.1 h) HNo.out⟩, HK0.out⟩
  by_cases h3 : no ≤ m
  case neg =>
    have HNo := Lib.hid (show ¬ (ni ≤ m ∧ nl ≤ m ∧ ng ≤ m ∧ no ≤ m ∧ nb ≤ m ∧ nc ≤ m ∧ ny ≤ m ∧ cm.size ≤ 300) from fun h => h3 h.2.2.2.1)
    go_enter Tryz.func10, Tryz.ntmps10
    go_upto_region 1 with fail
    rw [← HZ.out]
    clear HZ
    go_wp2_with fail
    go_ret
    exact ⟨false, rfl, ⟨fun h => (by cases h), fun h => absurd (HF.out.1 h) HNo.out⟩, HK0.out⟩
  by_cases h4 : nb ≤ m
  case neg =>
    have HNo := Lib.hid (show ¬ (ni ≤ m ∧ nl ≤ m ∧ ng ≤ m ∧ no ≤ m ∧ nb ≤ m ∧ nc ≤ m ∧ ny ≤ m ∧ cm.size ≤ 300) from fun h => h4 h.2.2.2.2.1)
    go_enter Tryz.func10, Tryz.ntmps10
    go_upto_region 1 with fail
    rw [← HZ.out]
    clear HZ
    go_wp2_with fail
    go_ret
    exact ⟨false, rfl, ⟨fun h => (by cases h), fun h => absurd (HF.out.1 h) HNo.out⟩, HK0.out⟩
  by_cases h5 : nc ≤ m
  case neg =>
    have HNo := Lib.hid (show ¬ (ni ≤ m ∧ nl ≤ m ∧ ng ≤ m ∧ no ≤ m ∧ nb ≤ m ∧ nc ≤ m ∧ ny ≤ m ∧ cm.size ≤ 300) from fun h => h5 h.2.2.2.2.2.1)
    go_enter Tryz.func10, Tryz.ntmps10
    go_upto_region 1 with fail
    rw [← HZ.out]
    clear HZ
    go_wp2_with fail
    go_ret
    exact ⟨false, rfl, ⟨fun h => (by cases h), fun h => absurd (HF.out.1 h) HNo.out⟩, HK0.out⟩
  by_cases h6 : ny ≤ m
  case neg =>
    have HNo := Lib.hid (show ¬ (ni ≤ m ∧ nl ≤ m ∧ ng ≤ m ∧ no ≤ m ∧ nb ≤ m ∧ nc ≤ m ∧ ny ≤ m ∧ cm.size ≤ 300) from fun h => h6 h.2.2.2.2.2.2.1)
    go_enter Tryz.func10, Tryz.ntmps10
    go_upto_region 1 with fail
    rw [← HZ.out]
    clear HZ
    go_wp2_with fail
    go_ret
    exact ⟨false, rfl, ⟨fun h => (by cases h), fun h => absurd (HF.out.1 h) HNo.out⟩, HK0.out⟩
  by_cases h7 : cm.size ≤ 300
  case neg =>
    have HNo := Lib.hid (show ¬ (ni ≤ m ∧ nl ≤ m ∧ ng ≤ m ∧ no ≤ m ∧ nb ≤ m ∧ nc ≤ m ∧ ny ≤ m ∧ cm.size ≤ 300) from fun h => h7 h.2.2.2.2.2.2.2)
    have hd : decide ((cm.size : Int) ≤ 300) = false := decide_eq_false (by omega)
    go_enter Tryz.func10, Tryz.ntmps10
    go_upto_region 1 with fail
    rw [← HZ.out]
    clear HZ
    go_wp2_with fail
    go_ret
    exact ⟨false, rfl, ⟨fun h => (by cases h), fun h => absurd (HF.out.1 h) HNo.out⟩, HK0.out⟩
  have HY := Lib.hid (show ni ≤ m ∧ nl ≤ m ∧ ng ≤ m ∧ no ≤ m ∧ nb ≤ m ∧ nc ≤ m ∧ ny ≤ m ∧ cm.size ≤ 300 from ⟨h0, h1, h2, h3, h4, h5, h6, h7⟩)
  have hd : decide ((cm.size : Int) ≤ 300) = true := decide_eq_true (by omega)
  go_enter Tryz.func10, Tryz.ntmps10
  go_upto_region 1 with fail
  rw [← HZ.out]
  clear HZ
  go_wp2_with fail
  go_ret
  exact ⟨true, rfl, ⟨fun _ => HF.out.2 HY.out, fun _ => rfl⟩, HK0.out⟩

end Go.Proofs.YtckmdcmkjmpiaaaGreatDoor

/-
  latchetlaw11.Own: a circuit in memory of its own. (Printed by mkown.py.)
-/
namespace Go.Proofs.YtckmdcmkjmpiaaaGreatDoor
open Go Go.RowKit

def own2V (b1 b3 B : Nat) (V : CV) (C : Circ) (rows : List (List Value)) : List (World → Value → Prop) :=
  [LitV 3, EqV (.pointer (some ⟨b1, 1, none⟩)), SlK (ir C.ins) C.ins.length, SlF B (ir C.ins) C.ins.length, LitV 3, EqV (.pointer (some ⟨b1, 3, none⟩)), SlK (ir C.outs) C.outs.length, SlF B (ir C.outs) C.outs.length, LitV 3, EqV (.pointer (some ⟨b1, 4, none⟩)), SlK (ir C.bads) C.bads.length, SlF B (ir C.bads) C.bads.length, LitV 3, EqV (.pointer (some ⟨b1, 5, none⟩)), SlK (ir C.cons) C.cons.length, SlF B (ir C.cons) C.cons.length, EqV (.pointer (some ⟨b3, 1, none⟩))]

theorem own2V_st (b1 b3 B : Nat) (V : CV) (C : Circ) (rows : List (List Value)) : ∀ W ∈ own2V b1 b3 B V C rows, Stable W := by
  intro W h
  unfold own2V at h
  simp only [List.mem_cons, List.not_mem_nil, or_false] at h
  rcases h with rfl | rfl | rfl | rfl | rfl | rfl | rfl | rfl | rfl | rfl | rfl | rfl | rfl | rfl | rfl | rfl | rfl <;> first | exact LitV.st _ | exact EqV.st _ | exact SlK.st _ _ | exact SlF.st _ _ _

def own3V (b1 b3 B : Nat) (V : CV) (C : Circ) (rows : List (List Value)) : List (World → Value → Prop) :=
  [LitV 59, EqV (.pointer (some ⟨b1, 2, none⟩)), SlK (C.lats.map tri) C.lats.length, SlF B (C.lats.map tri) C.lats.length, LitV 61, EqV (.pointer (some ⟨b1, 6, none⟩)), SlK (C.gates.map tri) C.gates.length, SlF B (C.gates.map tri) C.gates.length, LitV 63, EqV (.pointer (some ⟨b1, 7, none⟩)), SlK rows V.ny, SlF B rows V.ny, EqV (.pointer (some ⟨b3, 2, none⟩))]

theorem own3V_st (b1 b3 B : Nat) (V : CV) (C : Circ) (rows : List (List Value)) : ∀ W ∈ own3V b1 b3 B V C rows, Stable W := by
  intro W h
  unfold own3V at h
  simp only [List.mem_cons, List.not_mem_nil, or_false] at h
  rcases h with rfl | rfl | rfl | rfl | rfl | rfl | rfl | rfl | rfl | rfl | rfl | rfl | rfl <;> first | exact LitV.st _ | exact EqV.st _ | exact SlK.st _ _ | exact SlF.st _ _ _

set_option maxRecDepth 100000 in
set_option maxHeartbeats 8000000 in
theorem law11_OwnY (V : CV) (C : Circ) (w : World) (rows : List (List Value)) (hrows : RowAt w V.ay rows.flatten) (hrl : rows.length = V.ny ∧ (∀ r ∈ rows, r.length = 3) ∧ ∀ r ∈ rows, ∀ u ∈ r, u.oneCell' = true) (h : CAt w V C) (hf : CFew C 1000000) (hy : V.ny ≤ 1000000) :
    Calls Tryz.prog 12 #[.agg (cvals V C)] w fun e w' => ∃ V', e = .returned (.agg (cvals V' C)) ∧ CAt w' V' C ∧ (RowAt w' V'.ay rows.flatten ∧ V'.ny = V.ny ∧ V'.cm = V.cm) ∧ Kp (fun _ => False) w w' := by
  have HA := Lib.hid h
  have HF := Lib.hid hf
  have HY := Lib.hid hy
  have HI := Lib.hid (show (Tryz.prog.info? 3).map (fun i => (i.zero, i.size, i.bytes)) = some (some (.int .i64 0), 1, 8) by kernel_rfl)
  have HIl := Lib.hid (show (Tryz.prog.info? 59).map (fun i => (i.zero, i.size, i.bytes)) = some (some (.agg #[.int .i64 0, .int .i64 0, .int .i64 0]), 3, 24) by kernel_rfl)
  have HIg := Lib.hid (show (Tryz.prog.info? 61).map (fun i => (i.zero, i.size, i.bytes)) = some (some (.agg #[.int .i64 0, .int .i64 0, .int .i64 0]), 3, 24) by kernel_rfl)
  have HIs := Lib.hid (show (Tryz.prog.info? 63).map (fun i => (i.zero, i.size, i.bytes)) = some (some (.agg #[.int .u8 0, .int .i64 0, .string ⟨#[]⟩]), 3, 32) by kernel_rfl)
  have HRows := Lib.hid hrows
  have HRL := Lib.hid hrl
  have HC1 := Lib.hid (Blk.new w (cvals V C) 27)
  obtain ⟨wz, hwz⟩ : ∃ wz : World, wz = (w.alloc (.cells (cvals V C) 27)).alloc (.cells #[.int .i64 0, .slice none 0 0, .slice none 0 0, .slice none 0 0, .slice none 0 0, .slice none 0 0, .slice none 0 0, .slice none 0 0, .string ⟨#[]⟩] 27) := ⟨_, rfl⟩
  have HCz := Lib.hid (show Blk wz w.heap.size (cvals V C) 27 by rw [hwz]; exact HC1.out.alloc _)
  have HBz := Lib.hid (show Blk wz (w.heap.size + 1) #[.int .i64 0, .slice none 0 0, .slice none 0 0, .slice none 0 0, .slice none 0 0, .slice none 0 0, .slice none 0 0, .slice none 0 0, .string ⟨#[]⟩] 27 by rw [hwz]; exact two_blk _ _ _ _ _)
  have HKz := Lib.hid (show Kp (fun _ => False) w wz by rw [hwz]; exact ((Kp.refl _ w).alloc _).alloc _)
  have HSz := Lib.hid (show wz.heap.size = w.heap.size + 2 by rw [hwz]; simp)
  have HZ := Lib.hid hwz
  clear h hf hy hwz hrows hrl
  go_enter Tryz.func12, Tryz.ntmps12
  go_upto_region 1 with fail
  rw [← HZ.out]
  clear HZ
  obtain ⟨d0, d1, d2, d3, d4, d5, d6, d7, d8⟩ := HCz.out.cells9
  go_upto_region 2 with fail
  clear d0 d1 d2 d3 d4 d5 d6 d7 d8
  obtain ⟨w3, hw3⟩ : ∃ w3 : World, w3 = wz.alloc (.cells #[.int .i64 C.max, .slice V.ai C.ins.length V.ci, .slice V.al C.lats.length V.cl, .slice V.ao C.outs.length V.co, .slice V.ab C.bads.length V.cb, .slice V.ac C.cons.length V.cc, .slice V.ag C.gates.length V.cg, .slice V.ay V.ny V.cy, .string V.cm] 27) := ⟨_, rfl⟩
  have HCb := Lib.hid (show Blk w3 w.heap.size (cvals V C) 27 by rw [hw3]; exact HCz.out.alloc _)
  have HBb := Lib.hid (show Blk w3 (w.heap.size + 1) #[.int .i64 0, .slice none 0 0, .slice none 0 0, .slice none 0 0, .slice none 0 0, .slice none 0 0, .slice none 0 0, .slice none 0 0, .string ⟨#[]⟩] 27 by rw [hw3]; exact HBz.out.alloc _)
  have HDown2 := Lib.hid (show Blk w3 wz.heap.size #[.int .i64 C.max, .slice V.ai C.ins.length V.ci, .slice V.al C.lats.length V.cl, .slice V.ao C.outs.length V.co, .slice V.ab C.bads.length V.cb, .slice V.ac C.cons.length V.cc, .slice V.ag C.gates.length V.cg, .slice V.ay V.ny V.cy, .string V.cm] 27 by rw [hw3]; exact Blk.new _ _ _)
  have HKb := Lib.hid (show Kp (fun _ => False) w w3 by rw [hw3]; exact HKz.out.alloc _)
  have HLt := Lib.hid (show wz.heap.size < w3.heap.size by rw [hw3]; simp)
  rw [← hw3]
  clear hw3
  refine wp_region_loose (p := upTo 17) (V := atV (own2V w.heap.size wz.heap.size w3.heap.size V C rows)) (LP := #[true, true, true, true, true, true, true, true, true, true, true, true, true, true, true, true, true, false, false, false, false, false, false, false]) (K := 7) (by kernel_rfl) (by kernel_rfl) (atV_st (own2V_st _ _ _ V C rows)) ?hstepown2 (by kernel_rfl) ?hLPown2 (by kernel_rfl) ?hendown2
  case hLPown2 => exact upTo_spec (by kernel_rfl)
  case hstepown2 =>
    intro i o ho hp a u hk hoff hdep
    have e1 : a.tmps[1]?.getD undef = .pointer (some ⟨w.heap.size, 0, none⟩) := slot_at (hoff 1 (noDst_spec (by kernel_rfl)))
    have e3 : a.tmps[3]?.getD undef = .pointer (some ⟨wz.heap.size, 0, none⟩) := slot_at (hoff 3 (noDst_spec (by kernel_rfl)))
    clear hoff
    match i, ho with
    | 0, ho =>
      obtain rfl := Option.some.inj ho
      refine lw_value (v := .slice (some ⟨u.heap.size, 0, none⟩) 0 0) (u' := u.alloc (.cells #[] 3)) ?_ ((Kp.refl _ _).alloc _) ⟨_, rfl, Blk.new _ _ _⟩
      go_simp
    | 1, ho =>
      obtain rfl := Option.some.inj ho
      refine lw_value (v := .pointer (some ⟨w.heap.size, 1, none⟩)) (u' := u) ?_ (Kp.refl _ _) rfl
      go_simp
    | 2, ho =>
      obtain rfl := Option.some.inj ho
      have e6 : a.tmps[6]?.getD undef = .pointer (some ⟨w.heap.size, 1, none⟩) := slot_at (hdep ⟨1, .data⟩ (by simp) rfl _ 6 rfl rfl)
      have c1 := (HCb.out.kp hk (fun h => h)).cell (i := 1) (v := .slice V.ai C.ins.length V.ci) rfl
      refine lw_value (v := .slice V.ai C.ins.length V.ci) (u' := u) ?_ (Kp.refl _ _) (SlK.of_ints HA.out.fi (HA.out.kp (HKb.out.trans hk (fun _ _ h => h))).i)
      go_simp
    | 3, ho =>
      obtain rfl := Option.some.inj ho
      have e5 : LitV 3 u (a.eval (.tmp 5)) := hdep ⟨0, .data⟩ (by simp) rfl _ 5 rfl rfl
      have e7 : SlK (ir C.ins) C.ins.length u (a.eval (.tmp 7)) := hdep ⟨2, .data⟩ (by simp) rfl _ 7 rfl rfl
      exact lw_append (.tmp 5) (.tmp 7) 22 3 rfl Tryz.underlying22 HI.out rfl (by decide) e5 e7 (ir_length _) (ir_len _) (ir_one _) (by have := HF.out.i; unfold maxLen; omega) (by have := HF.out.i; omega) hk.size
    | 4, ho =>
      obtain rfl := Option.some.inj ho
      refine lw_value (v := .slice (some ⟨u.heap.size, 0, none⟩) 0 0) (u' := u.alloc (.cells #[] 3)) ?_ ((Kp.refl _ _).alloc _) ⟨_, rfl, Blk.new _ _ _⟩
      go_simp
    | 5, ho =>
      obtain rfl := Option.some.inj ho
      refine lw_value (v := .pointer (some ⟨w.heap.size, 3, none⟩)) (u' := u) ?_ (Kp.refl _ _) rfl
      go_simp
    | 6, ho =>
      obtain rfl := Option.some.inj ho
      have e6 : a.tmps[10]?.getD undef = .pointer (some ⟨w.heap.size, 3, none⟩) := slot_at (hdep ⟨5, .data⟩ (by simp) rfl _ 10 rfl rfl)
      have c1 := (HCb.out.kp hk (fun h => h)).cell (i := 3) (v := .slice V.ao C.outs.length V.co) rfl
      refine lw_value (v := .slice V.ao C.outs.length V.co) (u' := u) ?_ (Kp.refl _ _) (SlK.of_ints HA.out.fo (HA.out.kp (HKb.out.trans hk (fun _ _ h => h))).o)
      go_simp
    | 7, ho =>
      obtain rfl := Option.some.inj ho
      have e5 : LitV 3 u (a.eval (.tmp 9)) := hdep ⟨4, .data⟩ (by simp) rfl _ 9 rfl rfl
      have e7 : SlK (ir C.outs) C.outs.length u (a.eval (.tmp 11)) := hdep ⟨6, .data⟩ (by simp) rfl _ 11 rfl rfl
      exact lw_append (.tmp 9) (.tmp 11) 22 3 rfl Tryz.underlying22 HI.out rfl (by decide) e5 e7 (ir_length _) (ir_len _) (ir_one _) (by have := HF.out.o; unfold maxLen; omega) (by have := HF.out.o; omega) hk.size
    | 8, ho =>
      obtain rfl := Option.some.inj ho
      refine lw_value (v := .slice (some ⟨u.heap.size, 0, none⟩) 0 0) (u' := u.alloc (.cells #[] 3)) ?_ ((Kp.refl _ _).alloc _) ⟨_, rfl, Blk.new _ _ _⟩
      go_simp
    | 9, ho =>
      obtain rfl := Option.some.inj ho
      refine lw_value (v := .pointer (some ⟨w.heap.size, 4, none⟩)) (u' := u) ?_ (Kp.refl _ _) rfl
      go_simp
    | 10, ho =>
      obtain rfl := Option.some.inj ho
      have e6 : a.tmps[14]?.getD undef = .pointer (some ⟨w.heap.size, 4, none⟩) := slot_at (hdep ⟨9, .data⟩ (by simp) rfl _ 14 rfl rfl)
      have c1 := (HCb.out.kp hk (fun h => h)).cell (i := 4) (v := .slice V.ab C.bads.length V.cb) rfl
      refine lw_value (v := .slice V.ab C.bads.length V.cb) (u' := u) ?_ (Kp.refl _ _) (SlK.of_ints HA.out.fb (HA.out.kp (HKb.out.trans hk (fun _ _ h => h))).b)
      go_simp
    | 11, ho =>
      obtain rfl := Option.some.inj ho
      have e5 : LitV 3 u (a.eval (.tmp 13)) := hdep ⟨8, .data⟩ (by simp) rfl _ 13 rfl rfl
      have e7 : SlK (ir C.bads) C.bads.length u (a.eval (.tmp 15)) := hdep ⟨10, .data⟩ (by simp) rfl _ 15 rfl rfl
      exact lw_append (.tmp 13) (.tmp 15) 22 3 rfl Tryz.underlying22 HI.out rfl (by decide) e5 e7 (ir_length _) (ir_len _) (ir_one _) (by have := HF.out.b; unfold maxLen; omega) (by have := HF.out.b; omega) hk.size
    | 12, ho =>
      obtain rfl := Option.some.inj ho
      refine lw_value (v := .slice (some ⟨u.heap.size, 0, none⟩) 0 0) (u' := u.alloc (.cells #[] 3)) ?_ ((Kp.refl _ _).alloc _) ⟨_, rfl, Blk.new _ _ _⟩
      go_simp
    | 13, ho =>
      obtain rfl := Option.some.inj ho
      refine lw_value (v := .pointer (some ⟨w.heap.size, 5, none⟩)) (u' := u) ?_ (Kp.refl _ _) rfl
      go_simp
    | 14, ho =>
      obtain rfl := Option.some.inj ho
      have e6 : a.tmps[18]?.getD undef = .pointer (some ⟨w.heap.size, 5, none⟩) := slot_at (hdep ⟨13, .data⟩ (by simp) rfl _ 18 rfl rfl)
      have c1 := (HCb.out.kp hk (fun h => h)).cell (i := 5) (v := .slice V.ac C.cons.length V.cc) rfl
      refine lw_value (v := .slice V.ac C.cons.length V.cc) (u' := u) ?_ (Kp.refl _ _) (SlK.of_ints HA.out.fc (HA.out.kp (HKb.out.trans hk (fun _ _ h => h))).c)
      go_simp
    | 15, ho =>
      obtain rfl := Option.some.inj ho
      have e5 : LitV 3 u (a.eval (.tmp 17)) := hdep ⟨12, .data⟩ (by simp) rfl _ 17 rfl rfl
      have e7 : SlK (ir C.cons) C.cons.length u (a.eval (.tmp 19)) := hdep ⟨14, .data⟩ (by simp) rfl _ 19 rfl rfl
      exact lw_append (.tmp 17) (.tmp 19) 22 3 rfl Tryz.underlying22 HI.out rfl (by decide) e5 e7 (ir_length _) (ir_len _) (ir_one _) (by have := HF.out.c; unfold maxLen; omega) (by have := HF.out.c; omega) hk.size
    | 16, ho =>
      obtain rfl := Option.some.inj ho
      refine lw_value (v := .pointer (some ⟨wz.heap.size, 1, none⟩)) (u' := u) ?_ (Kp.refl _ _) rfl
      go_simp
    | n + 17, _ => exact absurd hp (by simp [upTo])
  case hendown2 =>
    intro a u hI
    have hsz : a.tmps.size = 41 := hI.size
    have hdf : a.defers = [] := hI.defers
    have f0 : a.tmps.getD 0 undef = _ := hI.off 0 (noDst_spec (p := upTo 17) (by kernel_rfl))
    have f1 : a.tmps.getD 1 undef = _ := hI.off 1 (noDst_spec (p := upTo 17) (by kernel_rfl))
    have f2 : a.tmps.getD 2 undef = _ := hI.off 2 (noDst_spec (p := upTo 17) (by kernel_rfl))
    have f3 : a.tmps.getD 3 undef = _ := hI.off 3 (noDst_spec (p := upTo 17) (by kernel_rfl))
    have f4 : a.tmps.getD 4 undef = _ := hI.off 4 (noDst_spec (p := upTo 17) (by kernel_rfl))
    have f22 : a.tmps.getD 22 undef = _ := hI.off 22 (noDst_spec (p := upTo 17) (by kernel_rfl))
    have f23 : a.tmps.getD 23 undef = _ := hI.off 23 (noDst_spec (p := upTo 17) (by kernel_rfl))
    have f24 : a.tmps.getD 24 undef = _ := hI.off 24 (noDst_spec (p := upTo 17) (by kernel_rfl))
    have f25 : a.tmps.getD 25 undef = _ := hI.off 25 (noDst_spec (p := upTo 17) (by kernel_rfl))
    have f26 : a.tmps.getD 26 undef = _ := hI.off 26 (noDst_spec (p := upTo 17) (by kernel_rfl))
    have f27 : a.tmps.getD 27 undef = _ := hI.off 27 (noDst_spec (p := upTo 17) (by kernel_rfl))
    have f28 : a.tmps.getD 28 undef = _ := hI.off 28 (noDst_spec (p := upTo 17) (by kernel_rfl))
    have f29 : a.tmps.getD 29 undef = _ := hI.off 29 (noDst_spec (p := upTo 17) (by kernel_rfl))
    have f30 : a.tmps.getD 30 undef = _ := hI.off 30 (noDst_spec (p := upTo 17) (by kernel_rfl))
    have f31 : a.tmps.getD 31 undef = _ := hI.off 31 (noDst_spec (p := upTo 17) (by kernel_rfl))
    have f32 : a.tmps.getD 32 undef = _ := hI.off 32 (noDst_spec (p := upTo 17) (by kernel_rfl))
    have f33 : a.tmps.getD 33 undef = _ := hI.off 33 (noDst_spec (p := upTo 17) (by kernel_rfl))
    have f34 : a.tmps.getD 34 undef = _ := hI.off 34 (noDst_spec (p := upTo 17) (by kernel_rfl))
    have f35 : a.tmps.getD 35 undef = _ := hI.off 35 (noDst_spec (p := upTo 17) (by kernel_rfl))
    have f36 : a.tmps.getD 36 undef = _ := hI.off 36 (noDst_spec (p := upTo 17) (by kernel_rfl))
    have f37 : a.tmps.getD 37 undef = _ := hI.off 37 (noDst_spec (p := upTo 17) (by kernel_rfl))
    have f38 : a.tmps.getD 38 undef = _ := hI.off 38 (noDst_spec (p := upTo 17) (by kernel_rfl))
    have f39 : a.tmps.getD 39 undef = _ := hI.off 39 (noDst_spec (p := upTo 17) (by kernel_rfl))
    have f40 : a.tmps.getD 40 undef = _ := hI.off 40 (noDst_spec (p := upTo 17) (by kernel_rfl))
    have g1 : SlF w3.heap.size (ir C.ins) C.ins.length u (a.tmps.getD 8 undef) := hI.val 3 _ 8 rfl rfl rfl
    obtain ⟨a1, p1, f8, -, -, -⟩ := id g1
    rw [f8] at g1
    have g3 : SlF w3.heap.size (ir C.outs) C.outs.length u (a.tmps.getD 12 undef) := hI.val 7 _ 12 rfl rfl rfl
    obtain ⟨a3, p3, f12, -, -, -⟩ := id g3
    rw [f12] at g3
    have g4 : SlF w3.heap.size (ir C.bads) C.bads.length u (a.tmps.getD 16 undef) := hI.val 11 _ 16 rfl rfl rfl
    obtain ⟨a4, p4, f16, -, -, -⟩ := id g4
    rw [f16] at g4
    have g5 : SlF w3.heap.size (ir C.cons) C.cons.length u (a.tmps.getD 20 undef) := hI.val 15 _ 20 rfl rfl rfl
    obtain ⟨a5, p5, f20, -, -, -⟩ := id g5
    rw [f20] at g5
    have f21 : a.tmps.getD 21 undef = .pointer (some ⟨wz.heap.size, 1, none⟩) := hI.val 16 _ 21 rfl rfl rfl
    have ha : a = ⟨#[a.tmps.getD 0 undef, a.tmps.getD 1 undef, a.tmps.getD 2 undef, a.tmps.getD 3 undef, a.tmps.getD 4 undef, a.tmps.getD 5 undef, a.tmps.getD 6 undef, a.tmps.getD 7 undef, a.tmps.getD 8 undef, a.tmps.getD 9 undef, a.tmps.getD 10 undef, a.tmps.getD 11 undef, a.tmps.getD 12 undef, a.tmps.getD 13 undef, a.tmps.getD 14 undef, a.tmps.getD 15 undef, a.tmps.getD 16 undef, a.tmps.getD 17 undef, a.tmps.getD 18 undef, a.tmps.getD 19 undef, a.tmps.getD 20 undef, a.tmps.getD 21 undef, a.tmps.getD 22 undef, a.tmps.getD 23 undef, a.tmps.getD 24 undef, a.tmps.getD 25 undef, a.tmps.getD 26 undef, a.tmps.getD 27 undef, a.tmps.getD 28 undef, a.tmps.getD 29 undef, a.tmps.getD 30 undef, a.tmps.getD 31 undef, a.tmps.getD 32 undef, a.tmps.getD 33 undef, a.tmps.getD 34 undef, a.tmps.getD 35 undef, a.tmps.getD 36 undef, a.tmps.getD 37 undef, a.tmps.getD 38 undef, a.tmps.getD 39 undef, a.tmps.getD 40 undef], a.defers⟩ := act_list a 41 hsz
    rw [hdf, f0, f1, f2, f3, f4, f8, f12, f16, f20, f21, f22, f23, f24, f25, f26, f27, f28, f29, f30, f31, f32, f33, f34, f35, f36, f37, f38, f39, f40] at ha
    obtain ⟨x5, hx5⟩ : ∃ x, a.tmps.getD 5 undef = x := ⟨_, rfl⟩
    obtain ⟨x6, hx6⟩ : ∃ x, a.tmps.getD 6 undef = x := ⟨_, rfl⟩
    obtain ⟨x7, hx7⟩ : ∃ x, a.tmps.getD 7 undef = x := ⟨_, rfl⟩
    obtain ⟨x9, hx9⟩ : ∃ x, a.tmps.getD 9 undef = x := ⟨_, rfl⟩
    obtain ⟨x10, hx10⟩ : ∃ x, a.tmps.getD 10 undef = x := ⟨_, rfl⟩
    obtain ⟨x11, hx11⟩ : ∃ x, a.tmps.getD 11 undef = x := ⟨_, rfl⟩
    obtain ⟨x13, hx13⟩ : ∃ x, a.tmps.getD 13 undef = x := ⟨_, rfl⟩
    obtain ⟨x14, hx14⟩ : ∃ x, a.tmps.getD 14 undef = x := ⟨_, rfl⟩
    obtain ⟨x15, hx15⟩ : ∃ x, a.tmps.getD 15 undef = x := ⟨_, rfl⟩
    obtain ⟨x17, hx17⟩ : ∃ x, a.tmps.getD 17 undef = x := ⟨_, rfl⟩
    obtain ⟨x18, hx18⟩ : ∃ x, a.tmps.getD 18 undef = x := ⟨_, rfl⟩
    obtain ⟨x19, hx19⟩ : ∃ x, a.tmps.getD 19 undef = x := ⟨_, rfl⟩
    rw [hx5, hx6, hx7, hx9, hx10, hx11, hx13, hx14, hx15, hx17, hx18, hx19] at ha
    have hku := hI.kp
    have hB := HDown2.out.kp hku (fun h => h)
    clear hI hsz hdf f0 f1 f2 f3 f4 f8 f12 f16 f20 f21 f22 f23 f24 f25 f26 f27 f28 f29 f30 f31 f32 f33 f34 f35 f36 f37 f38 f39 f40 hx5 hx6 hx7 hx9 hx10 hx11 hx13 hx14 hx15 hx17 hx18 hx19
    subst ha
    have cs := hB.cell (i := 1) (v := .slice V.ai C.ins.length V.ci) rfl
    have fs := hB.free 1
    have hB' : Blk (u.setCell ⟨wz.heap.size, 1, none⟩ (.slice a1 C.ins.length p1)) wz.heap.size #[.int .i64 C.max, .slice a1 C.ins.length p1, .slice V.al C.lats.length V.cl, .slice V.ao C.outs.length V.co, .slice V.ab C.bads.length V.cb, .slice V.ac C.cons.length V.cc, .slice V.ag C.gates.length V.cg, .slice V.ay V.ny V.cy, .string V.cm] 27 := hB.set_same 1 (.slice a1 C.ins.length p1)
    have hk' : Kp (fun j => j = wz.heap.size) w3 (u.setCell ⟨wz.heap.size, 1, none⟩ (.slice a1 C.ins.length p1)) := (hku.mono (fun _ _ h => h.elim)).setCell (S := fun j => j = wz.heap.size) (p := ⟨wz.heap.size, 1, none⟩) (fun _ => rfl) _
    have hkk := Kp.set u ⟨wz.heap.size, 1, none⟩ (.slice a1 C.ins.length p1)
    refine wpAny_ready (rs := [17]) (by kernel_rfl) (by simp) ?_
    refine AllReady.cons (o := _) rfl (fun K1 hK1 => ?_) AllReady.nil
    go_simp
    refine hK1 _ _ ?_
    clear hK1 K1 cs fs hB hku
    have g1' := SlF.kp g1 hkk (fun j hj => by have hj2 : j = wz.heap.size := hj; have := HLt.out; omega)
    clear g1
    have g1 := g1'
    clear g1'
    have g3' := SlF.kp g3 hkk (fun j hj => by have hj2 : j = wz.heap.size := hj; have := HLt.out; omega)
    clear g3
    have g3 := g3'
    clear g3'
    have g4' := SlF.kp g4 hkk (fun j hj => by have hj2 : j = wz.heap.size := hj; have := HLt.out; omega)
    clear g4
    have g4 := g4'
    clear g4'
    have g5' := SlF.kp g5 hkk (fun j hj => by have hj2 : j = wz.heap.size := hj; have := HLt.out; omega)
    clear g5
    have g5 := g5'
    clear g5'
    clear hkk
    generalize u.setCell ⟨wz.heap.size, 1, none⟩ (.slice a1 C.ins.length p1) = u2 at hB' hk' g1 g3 g4 g5 ⊢
    obtain ⟨u, rfl⟩ : ∃ u, u = u2 := ⟨_, rfl⟩
    have hB := hB'
    have hku := hk'
    clear hB' hk'
    try simp only [Act.put, List.setIfInBounds_toArray, List.set_cons_zero, List.set_cons_succ]
    refine wpAny_ready (rs := [18]) (by kernel_rfl) (by simp) ?_
    refine AllReady.cons (o := _) rfl (fun K1 hK1 => ?_) AllReady.nil
    go_simp
    refine hK1 _ _ ?_
    clear hK1 K1
    try simp only [Act.put, List.setIfInBounds_toArray, List.set_cons_zero, List.set_cons_succ]
    have cs := hB.cell (i := 3) (v := .slice V.ao C.outs.length V.co) rfl
    have fs := hB.free 3
    have hB' : Blk (u.setCell ⟨wz.heap.size, 3, none⟩ (.slice a3 C.outs.length p3)) wz.heap.size #[.int .i64 C.max, .slice a1 C.ins.length p1, .slice V.al C.lats.length V.cl, .slice a3 C.outs.length p3, .slice V.ab C.bads.length V.cb, .slice V.ac C.cons.length V.cc, .slice V.ag C.gates.length V.cg, .slice V.ay V.ny V.cy, .string V.cm] 27 := hB.set_same 3 (.slice a3 C.outs.length p3)
    have hk' : Kp (fun j => j = wz.heap.size) w3 (u.setCell ⟨wz.heap.size, 3, none⟩ (.slice a3 C.outs.length p3)) := hku.setCell (S := fun j => j = wz.heap.size) (p := ⟨wz.heap.size, 3, none⟩) (fun _ => rfl) _
    have hkk := Kp.set u ⟨wz.heap.size, 3, none⟩ (.slice a3 C.outs.length p3)
    refine wpAny_ready (rs := [19]) (by kernel_rfl) (by simp) ?_
    refine AllReady.cons (o := _) rfl (fun K1 hK1 => ?_) AllReady.nil
    go_simp
    refine hK1 _ _ ?_
    clear hK1 K1 cs fs hB hku
    have g1' := SlF.kp g1 hkk (fun j hj => by have hj2 : j = wz.heap.size := hj; have := HLt.out; omega)
    clear g1
    have g1 := g1'
    clear g1'
    have g3' := SlF.kp g3 hkk (fun j hj => by have hj2 : j = wz.heap.size := hj; have := HLt.out; omega)
    clear g3
    have g3 := g3'
    clear g3'
    have g4' := SlF.kp g4 hkk (fun j hj => by have hj2 : j = wz.heap.size := hj; have := HLt.out; omega)
    clear g4
    have g4 := g4'
    clear g4'
    have g5' := SlF.kp g5 hkk (fun j hj => by have hj2 : j = wz.heap.size := hj; have := HLt.out; omega)
    clear g5
    have g5 := g5'
    clear g5'
    clear hkk
    generalize u.setCell ⟨wz.heap.size, 3, none⟩ (.slice a3 C.outs.length p3) = u2 at hB' hk' g1 g3 g4 g5 ⊢
    obtain ⟨u, rfl⟩ : ∃ u, u = u2 := ⟨_, rfl⟩
    have hB := hB'
    have hku := hk'
    clear hB' hk'
    try simp only [Act.put, List.setIfInBounds_toArray, List.set_cons_zero, List.set_cons_succ]
    refine wpAny_ready (rs := [20]) (by kernel_rfl) (by simp) ?_
    refine AllReady.cons (o := _) rfl (fun K1 hK1 => ?_) AllReady.nil
    go_simp
    refine hK1 _ _ ?_
    clear hK1 K1
    try simp only [Act.put, List.setIfInBounds_toArray, List.set_cons_zero, List.set_cons_succ]
    have cs := hB.cell (i := 4) (v := .slice V.ab C.bads.length V.cb) rfl
    have fs := hB.free 4
    have hB' : Blk (u.setCell ⟨wz.heap.size, 4, none⟩ (.slice a4 C.bads.length p4)) wz.heap.size #[.int .i64 C.max, .slice a1 C.ins.length p1, .slice V.al C.lats.length V.cl, .slice a3 C.outs.length p3, .slice a4 C.bads.length p4, .slice V.ac C.cons.length V.cc, .slice V.ag C.gates.length V.cg, .slice V.ay V.ny V.cy, .string V.cm] 27 := hB.set_same 4 (.slice a4 C.bads.length p4)
    have hk' : Kp (fun j => j = wz.heap.size) w3 (u.setCell ⟨wz.heap.size, 4, none⟩ (.slice a4 C.bads.length p4)) := hku.setCell (S := fun j => j = wz.heap.size) (p := ⟨wz.heap.size, 4, none⟩) (fun _ => rfl) _
    have hkk := Kp.set u ⟨wz.heap.size, 4, none⟩ (.slice a4 C.bads.length p4)
    refine wpAny_ready (rs := [21]) (by kernel_rfl) (by simp) ?_
    refine AllReady.cons (o := _) rfl (fun K1 hK1 => ?_) AllReady.nil
    go_simp
    refine hK1 _ _ ?_
    clear hK1 K1 cs fs hB hku
    have g1' := SlF.kp g1 hkk (fun j hj => by have hj2 : j = wz.heap.size := hj; have := HLt.out; omega)
    clear g1
    have g1 := g1'
    clear g1'
    have g3' := SlF.kp g3 hkk (fun j hj => by have hj2 : j = wz.heap.size := hj; have := HLt.out; omega)
    clear g3
    have g3 := g3'
    clear g3'
    have g4' := SlF.kp g4 hkk (fun j hj => by have hj2 : j = wz.heap.size := hj; have := HLt.out; omega)
    clear g4
    have g4 := g4'
    clear g4'
    have g5' := SlF.kp g5 hkk (fun j hj => by have hj2 : j = wz.heap.size := hj; have := HLt.out; omega)
    clear g5
    have g5 := g5'
    clear g5'
    clear hkk
    generalize u.setCell ⟨wz.heap.size, 4, none⟩ (.slice a4 C.bads.length p4) = u2 at hB' hk' g1 g3 g4 g5 ⊢
    obtain ⟨u, rfl⟩ : ∃ u, u = u2 := ⟨_, rfl⟩
    have hB := hB'
    have hku := hk'
    clear hB' hk'
    try simp only [Act.put, List.setIfInBounds_toArray, List.set_cons_zero, List.set_cons_succ]
    refine wpAny_ready (rs := [22]) (by kernel_rfl) (by simp) ?_
    refine AllReady.cons (o := _) rfl (fun K1 hK1 => ?_) AllReady.nil
    go_simp
    refine hK1 _ _ ?_
    clear hK1 K1
    try simp only [Act.put, List.setIfInBounds_toArray, List.set_cons_zero, List.set_cons_succ]
    have cs := hB.cell (i := 5) (v := .slice V.ac C.cons.length V.cc) rfl
    have fs := hB.free 5
    have hB' : Blk (u.setCell ⟨wz.heap.size, 5, none⟩ (.slice a5 C.cons.length p5)) wz.heap.size #[.int .i64 C.max, .slice a1 C.ins.length p1, .slice V.al C.lats.length V.cl, .slice a3 C.outs.length p3, .slice a4 C.bads.length p4, .slice a5 C.cons.length p5, .slice V.ag C.gates.length V.cg, .slice V.ay V.ny V.cy, .string V.cm] 27 := hB.set_same 5 (.slice a5 C.cons.length p5)
    have hk' : Kp (fun j => j = wz.heap.size) w3 (u.setCell ⟨wz.heap.size, 5, none⟩ (.slice a5 C.cons.length p5)) := hku.setCell (S := fun j => j = wz.heap.size) (p := ⟨wz.heap.size, 5, none⟩) (fun _ => rfl) _
    have hkk := Kp.set u ⟨wz.heap.size, 5, none⟩ (.slice a5 C.cons.length p5)
    refine wpAny_ready (rs := [23]) (by kernel_rfl) (by simp) ?_
    refine AllReady.cons (o := _) rfl (fun K1 hK1 => ?_) AllReady.nil
    go_simp
    refine hK1 _ _ ?_
    clear hK1 K1 cs fs hB hku
    have g1' := SlF.kp g1 hkk (fun j hj => by have hj2 : j = wz.heap.size := hj; have := HLt.out; omega)
    clear g1
    have g1 := g1'
    clear g1'
    have g3' := SlF.kp g3 hkk (fun j hj => by have hj2 : j = wz.heap.size := hj; have := HLt.out; omega)
    clear g3
    have g3 := g3'
    clear g3'
    have g4' := SlF.kp g4 hkk (fun j hj => by have hj2 : j = wz.heap.size := hj; have := HLt.out; omega)
    clear g4
    have g4 := g4'
    clear g4'
    have g5' := SlF.kp g5 hkk (fun j hj => by have hj2 : j = wz.heap.size := hj; have := HLt.out; omega)
    clear g5
    have g5 := g5'
    clear g5'
    clear hkk
    generalize u.setCell ⟨wz.heap.size, 5, none⟩ (.slice a5 C.cons.length p5) = u2 at hB' hk' g1 g3 g4 g5 ⊢
    obtain ⟨u, rfl⟩ : ∃ u, u = u2 := ⟨_, rfl⟩
    have hB := hB'
    have hku := hk'
    clear hB' hk'
    try simp only [Act.put, List.setIfInBounds_toArray, List.set_cons_zero, List.set_cons_succ]
    refine wpAny_done (by kernel_rfl) ?_ _
    obtain ⟨w4, rfl⟩ : ∃ w4 : World, w4 = u := ⟨_, rfl⟩
    have HK34 := Lib.hid hku
    have HKb4 := Lib.hid (HKb.out.trans hku (fun j hj e => by have := HSz.out; have e2 : j = wz.heap.size := e; omega))
    have HCb4 := Lib.hid (HCb.out.kp hku (fun e => by have := HSz.out; have e2 : w.heap.size = wz.heap.size := e; omega))
    have HBb4 := Lib.hid (HBb.out.kp hku (fun e => by have := HSz.out; have e2 : w.heap.size + 1 = wz.heap.size := e; omega))
    have HDown3 := Lib.hid hB
    have HLt4 := Lib.hid (show wz.heap.size < w4.heap.size by have := HLt.out; have := HK34.out.size; omega)
    have HG := Lib.hid (And.intro g1 (And.intro g3 (And.intro g4 g5)))
    have HLe := Lib.hid HK34.out.size
    clear hku hB g1 g3 g4 g5 HKb HCb HBb HK34
    have HKb := HKb4
    have HCb := HCb4
    have HBb := HBb4
    have HLt0 := HLt
    clear HKb4 HCb4 HBb4 HLt
    have HLt := HLt4
    clear HLt4
    go_upto_region 3 with fail
    refine wp_region_loose (p := upTo 13) (V := atV (own3V w.heap.size wz.heap.size w4.heap.size V C rows)) (LP := #[true, true, true, true, true, true, true, true, true, true, true, true, true, false, false, false, false, false]) (K := 5) (by kernel_rfl) (by kernel_rfl) (atV_st (own3V_st _ _ _ V C rows)) ?hstepown3 (by kernel_rfl) ?hLPown3 (by kernel_rfl) ?hendown3
    case hLPown3 => exact upTo_spec (by kernel_rfl)
    case hstepown3 =>
      intro i o ho hp a u hk hoff hdep
      have e1 : a.tmps[1]?.getD undef = .pointer (some ⟨w.heap.size, 0, none⟩) := slot_at (hoff 1 (noDst_spec (by kernel_rfl)))
      have e3 : a.tmps[3]?.getD undef = .pointer (some ⟨wz.heap.size, 0, none⟩) := slot_at (hoff 3 (noDst_spec (by kernel_rfl)))
      clear hoff
      match i, ho with
      | 0, ho =>
        obtain rfl := Option.some.inj ho
        refine lw_value (v := .slice (some ⟨u.heap.size, 0, none⟩) 0 0) (u' := u.alloc (.cells #[] 59)) ?_ ((Kp.refl _ _).alloc _) ⟨_, rfl, Blk.new _ _ _⟩
        go_simp
      | 1, ho =>
        obtain rfl := Option.some.inj ho
        refine lw_value (v := .pointer (some ⟨w.heap.size, 2, none⟩)) (u' := u) ?_ (Kp.refl _ _) rfl
        go_simp
      | 2, ho =>
        obtain rfl := Option.some.inj ho
        have e6 : a.tmps[26]?.getD undef = .pointer (some ⟨w.heap.size, 2, none⟩) := slot_at (hdep ⟨1, .data⟩ (by simp) rfl _ 26 rfl rfl)
        have c1 := (HCb.out.kp hk (fun h => h)).cell (i := 2) (v := .slice V.al C.lats.length V.cl) rfl
        refine lw_value (v := .slice V.al C.lats.length V.cl) (u' := u) ?_ (Kp.refl _ _) ⟨_, _, rfl, HA.out.fl, (HA.out.kp (HKb.out.trans hk (fun _ _ h => h))).l⟩
        go_simp
      | 3, ho =>
        obtain rfl := Option.some.inj ho
        have e5 : LitV 59 u (a.eval (.tmp 25)) := hdep ⟨0, .data⟩ (by simp) rfl _ 25 rfl rfl
        have e7 : SlK (C.lats.map tri) C.lats.length u (a.eval (.tmp 27)) := hdep ⟨2, .data⟩ (by simp) rfl _ 27 rfl rfl
        exact lw_append (.tmp 25) (.tmp 27) 23 59 rfl Tryz.underlying23 HIl.out rfl (by decide) e5 e7 (List.length_map ..) (tri_len _) (tri_one _) (by have := HF.out.l; unfold maxLen; omega) (by have := HF.out.l; omega) hk.size
      | 4, ho =>
        obtain rfl := Option.some.inj ho
        refine lw_value (v := .slice (some ⟨u.heap.size, 0, none⟩) 0 0) (u' := u.alloc (.cells #[] 61)) ?_ ((Kp.refl _ _).alloc _) ⟨_, rfl, Blk.new _ _ _⟩
        go_simp
      | 5, ho =>
        obtain rfl := Option.some.inj ho
        refine lw_value (v := .pointer (some ⟨w.heap.size, 6, none⟩)) (u' := u) ?_ (Kp.refl _ _) rfl
        go_simp
      | 6, ho =>
        obtain rfl := Option.some.inj ho
        have e6 : a.tmps[30]?.getD undef = .pointer (some ⟨w.heap.size, 6, none⟩) := slot_at (hdep ⟨5, .data⟩ (by simp) rfl _ 30 rfl rfl)
        have c1 := (HCb.out.kp hk (fun h => h)).cell (i := 6) (v := .slice V.ag C.gates.length V.cg) rfl
        refine lw_value (v := .slice V.ag C.gates.length V.cg) (u' := u) ?_ (Kp.refl _ _) ⟨_, _, rfl, HA.out.fg, (HA.out.kp (HKb.out.trans hk (fun _ _ h => h))).g⟩
        go_simp
      | 7, ho =>
        obtain rfl := Option.some.inj ho
        have e5 : LitV 61 u (a.eval (.tmp 29)) := hdep ⟨4, .data⟩ (by simp) rfl _ 29 rfl rfl
        have e7 : SlK (C.gates.map tri) C.gates.length u (a.eval (.tmp 31)) := hdep ⟨6, .data⟩ (by simp) rfl _ 31 rfl rfl
        exact lw_append (.tmp 29) (.tmp 31) 24 61 rfl Tryz.underlying24 HIg.out rfl (by decide) e5 e7 (List.length_map ..) (tri_len _) (tri_one _) (by have := HF.out.g; unfold maxLen; omega) (by have := HF.out.g; omega) hk.size
      | 8, ho =>
        obtain rfl := Option.some.inj ho
        refine lw_value (v := .slice (some ⟨u.heap.size, 0, none⟩) 0 0) (u' := u.alloc (.cells #[] 63)) ?_ ((Kp.refl _ _).alloc _) ⟨_, rfl, Blk.new _ _ _⟩
        go_simp
      | 9, ho =>
        obtain rfl := Option.some.inj ho
        refine lw_value (v := .pointer (some ⟨w.heap.size, 7, none⟩)) (u' := u) ?_ (Kp.refl _ _) rfl
        go_simp
      | 10, ho =>
        obtain rfl := Option.some.inj ho
        have e6 : a.tmps[34]?.getD undef = .pointer (some ⟨w.heap.size, 7, none⟩) := slot_at (hdep ⟨9, .data⟩ (by simp) rfl _ 34 rfl rfl)
        have c1 := (HCb.out.kp hk (fun h => h)).cell (i := 7) (v := .slice V.ay V.ny V.cy) rfl
        refine lw_value (v := .slice V.ay V.ny V.cy) (u' := u) ?_ (Kp.refl _ _) ⟨_, _, rfl, HA.out.fy, HRows.out.kp (HKb.out.trans hk (fun _ _ h => h)) (fun _ _ h => h)⟩
        go_simp
      | 11, ho =>
        obtain rfl := Option.some.inj ho
        have e5 : LitV 63 u (a.eval (.tmp 33)) := hdep ⟨8, .data⟩ (by simp) rfl _ 33 rfl rfl
        have e7 : SlK rows V.ny u (a.eval (.tmp 35)) := hdep ⟨10, .data⟩ (by simp) rfl _ 35 rfl rfl
        exact lw_append (.tmp 33) (.tmp 35) 25 63 rfl Tryz.underlying25 HIs.out rfl (by decide) e5 e7 HRL.out.1 HRL.out.2.1 HRL.out.2.2 (by have := HY.out; unfold maxLen; omega) (by have := HY.out; omega) hk.size
      | 12, ho =>
        obtain rfl := Option.some.inj ho
        refine lw_value (v := .pointer (some ⟨wz.heap.size, 2, none⟩)) (u' := u) ?_ (Kp.refl _ _) rfl
        go_simp
      | n + 13, _ => exact absurd hp (by simp [upTo])
    case hendown3 =>
      intro a u hI
      have hsz : a.tmps.size = 41 := hI.size
      have hdf : a.defers = [] := hI.defers
      have f0 : a.tmps.getD 0 undef = _ := hI.off 0 (noDst_spec (p := upTo 13) (by kernel_rfl))
      have f1 : a.tmps.getD 1 undef = _ := hI.off 1 (noDst_spec (p := upTo 13) (by kernel_rfl))
      have f2 : a.tmps.getD 2 undef = _ := hI.off 2 (noDst_spec (p := upTo 13) (by kernel_rfl))
      have f3 : a.tmps.getD 3 undef = _ := hI.off 3 (noDst_spec (p := upTo 13) (by kernel_rfl))
      have f4 : a.tmps.getD 4 undef = _ := hI.off 4 (noDst_spec (p := upTo 13) (by kernel_rfl))
      have f5 : a.tmps.getD 5 undef = _ := hI.off 5 (noDst_spec (p := upTo 13) (by kernel_rfl))
      have f6 : a.tmps.getD 6 undef = _ := hI.off 6 (noDst_spec (p := upTo 13) (by kernel_rfl))
      have f7 : a.tmps.getD 7 undef = _ := hI.off 7 (noDst_spec (p := upTo 13) (by kernel_rfl))
      have f8 : a.tmps.getD 8 undef = _ := hI.off 8 (noDst_spec (p := upTo 13) (by kernel_rfl))
      have f9 : a.tmps.getD 9 undef = _ := hI.off 9 (noDst_spec (p := upTo 13) (by kernel_rfl))
      have f10 : a.tmps.getD 10 undef = _ := hI.off 10 (noDst_spec (p := upTo 13) (by kernel_rfl))
      have f11 : a.tmps.getD 11 undef = _ := hI.off 11 (noDst_spec (p := upTo 13) (by kernel_rfl))
      have f12 : a.tmps.getD 12 undef = _ := hI.off 12 (noDst_spec (p := upTo 13) (by kernel_rfl))
      have f13 : a.tmps.getD 13 undef = _ := hI.off 13 (noDst_spec (p := upTo 13) (by kernel_rfl))
      have f14 : a.tmps.getD 14 undef = _ := hI.off 14 (noDst_spec (p := upTo 13) (by kernel_rfl))
      have f15 : a.tmps.getD 15 undef = _ := hI.off 15 (noDst_spec (p := upTo 13) (by kernel_rfl))
      have f16 : a.tmps.getD 16 undef = _ := hI.off 16 (noDst_spec (p := upTo 13) (by kernel_rfl))
      have f17 : a.tmps.getD 17 undef = _ := hI.off 17 (noDst_spec (p := upTo 13) (by kernel_rfl))
      have f18 : a.tmps.getD 18 undef = _ := hI.off 18 (noDst_spec (p := upTo 13) (by kernel_rfl))
      have f19 : a.tmps.getD 19 undef = _ := hI.off 19 (noDst_spec (p := upTo 13) (by kernel_rfl))
      have f20 : a.tmps.getD 20 undef = _ := hI.off 20 (noDst_spec (p := upTo 13) (by kernel_rfl))
      have f21 : a.tmps.getD 21 undef = _ := hI.off 21 (noDst_spec (p := upTo 13) (by kernel_rfl))
      have f22 : a.tmps.getD 22 undef = _ := hI.off 22 (noDst_spec (p := upTo 13) (by kernel_rfl))
      have f23 : a.tmps.getD 23 undef = _ := hI.off 23 (noDst_spec (p := upTo 13) (by kernel_rfl))
      have f24 : a.tmps.getD 24 undef = _ := hI.off 24 (noDst_spec (p := upTo 13) (by kernel_rfl))
      have f38 : a.tmps.getD 38 undef = _ := hI.off 38 (noDst_spec (p := upTo 13) (by kernel_rfl))
      have f39 : a.tmps.getD 39 undef = _ := hI.off 39 (noDst_spec (p := upTo 13) (by kernel_rfl))
      have f40 : a.tmps.getD 40 undef = _ := hI.off 40 (noDst_spec (p := upTo 13) (by kernel_rfl))
      have g2 : SlF w4.heap.size (C.lats.map tri) C.lats.length u (a.tmps.getD 28 undef) := hI.val 3 _ 28 rfl rfl rfl
      obtain ⟨a2, p2, f28, -, -, -⟩ := id g2
      rw [f28] at g2
      have g6 : SlF w4.heap.size (C.gates.map tri) C.gates.length u (a.tmps.getD 32 undef) := hI.val 7 _ 32 rfl rfl rfl
      obtain ⟨a6, p6, f32, -, -, -⟩ := id g6
      rw [f32] at g6
      have g7 : SlF w4.heap.size rows V.ny u (a.tmps.getD 36 undef) := hI.val 11 _ 36 rfl rfl rfl
      obtain ⟨a7, p7, f36, -, -, -⟩ := id g7
      rw [f36] at g7
      have f37 : a.tmps.getD 37 undef = .pointer (some ⟨wz.heap.size, 2, none⟩) := hI.val 12 _ 37 rfl rfl rfl
      have ha : a = ⟨#[a.tmps.getD 0 undef, a.tmps.getD 1 undef, a.tmps.getD 2 undef, a.tmps.getD 3 undef, a.tmps.getD 4 undef, a.tmps.getD 5 undef, a.tmps.getD 6 undef, a.tmps.getD 7 undef, a.tmps.getD 8 undef, a.tmps.getD 9 undef, a.tmps.getD 10 undef, a.tmps.getD 11 undef, a.tmps.getD 12 undef, a.tmps.getD 13 undef, a.tmps.getD 14 undef, a.tmps.getD 15 undef, a.tmps.getD 16 undef, a.tmps.getD 17 undef, a.tmps.getD 18 undef, a.tmps.getD 19 undef, a.tmps.getD 20 undef, a.tmps.getD 21 undef, a.tmps.getD 22 undef, a.tmps.getD 23 undef, a.tmps.getD 24 undef, a.tmps.getD 25 undef, a.tmps.getD 26 undef, a.tmps.getD 27 undef, a.tmps.getD 28 undef, a.tmps.getD 29 undef, a.tmps.getD 30 undef, a.tmps.getD 31 undef, a.tmps.getD 32 undef, a.tmps.getD 33 undef, a.tmps.getD 34 undef, a.tmps.getD 35 undef, a.tmps.getD 36 undef, a.tmps.getD 37 undef, a.tmps.getD 38 undef, a.tmps.getD 39 undef, a.tmps.getD 40 undef], a.defers⟩ := act_list a 41 hsz
      rw [hdf, f0, f1, f2, f3, f4, f5, f6, f7, f8, f9, f10, f11, f12, f13, f14, f15, f16, f17, f18, f19, f20, f21, f22, f23, f24, f28, f32, f36, f37, f38, f39, f40] at ha
      obtain ⟨x25, hx25⟩ : ∃ x, a.tmps.getD 25 undef = x := ⟨_, rfl⟩
      obtain ⟨x26, hx26⟩ : ∃ x, a.tmps.getD 26 undef = x := ⟨_, rfl⟩
      obtain ⟨x27, hx27⟩ : ∃ x, a.tmps.getD 27 undef = x := ⟨_, rfl⟩
      obtain ⟨x29, hx29⟩ : ∃ x, a.tmps.getD 29 undef = x := ⟨_, rfl⟩
      obtain ⟨x30, hx30⟩ : ∃ x, a.tmps.getD 30 undef = x := ⟨_, rfl⟩
      obtain ⟨x31, hx31⟩ : ∃ x, a.tmps.getD 31 undef = x := ⟨_, rfl⟩
      obtain ⟨x33, hx33⟩ : ∃ x, a.tmps.getD 33 undef = x := ⟨_, rfl⟩
      obtain ⟨x34, hx34⟩ : ∃ x, a.tmps.getD 34 undef = x := ⟨_, rfl⟩
      obtain ⟨x35, hx35⟩ : ∃ x, a.tmps.getD 35 undef = x := ⟨_, rfl⟩
      rw [hx25, hx26, hx27, hx29, hx30, hx31, hx33, hx34, hx35] at ha
      have hku := hI.kp
      have hB := HDown3.out.kp hku (fun h => h)
      clear hI hsz hdf f0 f1 f2 f3 f4 f5 f6 f7 f8 f9 f10 f11 f12 f13 f14 f15 f16 f17 f18 f19 f20 f21 f22 f23 f24 f28 f32 f36 f37 f38 f39 f40 hx25 hx26 hx27 hx29 hx30 hx31 hx33 hx34 hx35
      subst ha
      have cs := hB.cell (i := 2) (v := .slice V.al C.lats.length V.cl) rfl
      have fs := hB.free 2
      have hB' : Blk (u.setCell ⟨wz.heap.size, 2, none⟩ (.slice a2 C.lats.length p2)) wz.heap.size #[.int .i64 C.max, .slice a1 C.ins.length p1, .slice a2 C.lats.length p2, .slice a3 C.outs.length p3, .slice a4 C.bads.length p4, .slice a5 C.cons.length p5, .slice V.ag C.gates.length V.cg, .slice V.ay V.ny V.cy, .string V.cm] 27 := hB.set_same 2 (.slice a2 C.lats.length p2)
      have hk' : Kp (fun j => j = wz.heap.size) w4 (u.setCell ⟨wz.heap.size, 2, none⟩ (.slice a2 C.lats.length p2)) := (hku.mono (fun _ _ h => h.elim)).setCell (S := fun j => j = wz.heap.size) (p := ⟨wz.heap.size, 2, none⟩) (fun _ => rfl) _
      have hkk := Kp.set u ⟨wz.heap.size, 2, none⟩ (.slice a2 C.lats.length p2)
      refine wpAny_ready (rs := [13]) (by kernel_rfl) (by simp) ?_
      refine AllReady.cons (o := _) rfl (fun K1 hK1 => ?_) AllReady.nil
      go_simp
      refine hK1 _ _ ?_
      clear hK1 K1 cs fs hB hku
      have g2' := SlF.kp g2 hkk (fun j hj => by have hj2 : j = wz.heap.size := hj; have := HLt.out; omega)
      clear g2
      have g2 := g2'
      clear g2'
      have g6' := SlF.kp g6 hkk (fun j hj => by have hj2 : j = wz.heap.size := hj; have := HLt.out; omega)
      clear g6
      have g6 := g6'
      clear g6'
      have g7' := SlF.kp g7 hkk (fun j hj => by have hj2 : j = wz.heap.size := hj; have := HLt.out; omega)
      clear g7
      have g7 := g7'
      clear g7'
      clear hkk
      generalize u.setCell ⟨wz.heap.size, 2, none⟩ (.slice a2 C.lats.length p2) = u2 at hB' hk' g2 g6 g7 ⊢
      obtain ⟨u, rfl⟩ : ∃ u, u = u2 := ⟨_, rfl⟩
      have hB := hB'
      have hku := hk'
      clear hB' hk'
      try simp only [Act.put, List.setIfInBounds_toArray, List.set_cons_zero, List.set_cons_succ]
      refine wpAny_ready (rs := [14]) (by kernel_rfl) (by simp) ?_
      refine AllReady.cons (o := _) rfl (fun K1 hK1 => ?_) AllReady.nil
      go_simp
      refine hK1 _ _ ?_
      clear hK1 K1
      try simp only [Act.put, List.setIfInBounds_toArray, List.set_cons_zero, List.set_cons_succ]
      have cs := hB.cell (i := 6) (v := .slice V.ag C.gates.length V.cg) rfl
      have fs := hB.free 6
      have hB' : Blk (u.setCell ⟨wz.heap.size, 6, none⟩ (.slice a6 C.gates.length p6)) wz.heap.size #[.int .i64 C.max, .slice a1 C.ins.length p1, .slice a2 C.lats.length p2, .slice a3 C.outs.length p3, .slice a4 C.bads.length p4, .slice a5 C.cons.length p5, .slice a6 C.gates.length p6, .slice V.ay V.ny V.cy, .string V.cm] 27 := hB.set_same 6 (.slice a6 C.gates.length p6)
      have hk' : Kp (fun j => j = wz.heap.size) w4 (u.setCell ⟨wz.heap.size, 6, none⟩ (.slice a6 C.gates.length p6)) := hku.setCell (S := fun j => j = wz.heap.size) (p := ⟨wz.heap.size, 6, none⟩) (fun _ => rfl) _
      have hkk := Kp.set u ⟨wz.heap.size, 6, none⟩ (.slice a6 C.gates.length p6)
      refine wpAny_ready (rs := [15]) (by kernel_rfl) (by simp) ?_
      refine AllReady.cons (o := _) rfl (fun K1 hK1 => ?_) AllReady.nil
      go_simp
      refine hK1 _ _ ?_
      clear hK1 K1 cs fs hB hku
      have g2' := SlF.kp g2 hkk (fun j hj => by have hj2 : j = wz.heap.size := hj; have := HLt.out; omega)
      clear g2
      have g2 := g2'
      clear g2'
      have g6' := SlF.kp g6 hkk (fun j hj => by have hj2 : j = wz.heap.size := hj; have := HLt.out; omega)
      clear g6
      have g6 := g6'
      clear g6'
      have g7' := SlF.kp g7 hkk (fun j hj => by have hj2 : j = wz.heap.size := hj; have := HLt.out; omega)
      clear g7
      have g7 := g7'
      clear g7'
      clear hkk
      generalize u.setCell ⟨wz.heap.size, 6, none⟩ (.slice a6 C.gates.length p6) = u2 at hB' hk' g2 g6 g7 ⊢
      obtain ⟨u, rfl⟩ : ∃ u, u = u2 := ⟨_, rfl⟩
      have hB := hB'
      have hku := hk'
      clear hB' hk'
      try simp only [Act.put, List.setIfInBounds_toArray, List.set_cons_zero, List.set_cons_succ]
      refine wpAny_ready (rs := [16]) (by kernel_rfl) (by simp) ?_
      refine AllReady.cons (o := _) rfl (fun K1 hK1 => ?_) AllReady.nil
      go_simp
      refine hK1 _ _ ?_
      clear hK1 K1
      try simp only [Act.put, List.setIfInBounds_toArray, List.set_cons_zero, List.set_cons_succ]
      have cs := hB.cell (i := 7) (v := .slice V.ay V.ny V.cy) rfl
      have fs := hB.free 7
      have hB' : Blk (u.setCell ⟨wz.heap.size, 7, none⟩ (.slice a7 V.ny p7)) wz.heap.size #[.int .i64 C.max, .slice a1 C.ins.length p1, .slice a2 C.lats.length p2, .slice a3 C.outs.length p3, .slice a4 C.bads.length p4, .slice a5 C.cons.length p5, .slice a6 C.gates.length p6, .slice a7 V.ny p7, .string V.cm] 27 := hB.set_same 7 (.slice a7 V.ny p7)
      have hk' : Kp (fun j => j = wz.heap.size) w4 (u.setCell ⟨wz.heap.size, 7, none⟩ (.slice a7 V.ny p7)) := hku.setCell (S := fun j => j = wz.heap.size) (p := ⟨wz.heap.size, 7, none⟩) (fun _ => rfl) _
      have hkk := Kp.set u ⟨wz.heap.size, 7, none⟩ (.slice a7 V.ny p7)
      refine wpAny_ready (rs := [17]) (by kernel_rfl) (by simp) ?_
      refine AllReady.cons (o := _) rfl (fun K1 hK1 => ?_) AllReady.nil
      go_simp
      refine hK1 _ _ ?_
      clear hK1 K1 cs fs hB hku
      have g2' := SlF.kp g2 hkk (fun j hj => by have hj2 : j = wz.heap.size := hj; have := HLt.out; omega)
      clear g2
      have g2 := g2'
      clear g2'
      have g6' := SlF.kp g6 hkk (fun j hj => by have hj2 : j = wz.heap.size := hj; have := HLt.out; omega)
      clear g6
      have g6 := g6'
      clear g6'
      have g7' := SlF.kp g7 hkk (fun j hj => by have hj2 : j = wz.heap.size := hj; have := HLt.out; omega)
      clear g7
      have g7 := g7'
      clear g7'
      clear hkk
      generalize u.setCell ⟨wz.heap.size, 7, none⟩ (.slice a7 V.ny p7) = u2 at hB' hk' g2 g6 g7 ⊢
      obtain ⟨u, rfl⟩ : ∃ u, u = u2 := ⟨_, rfl⟩
      have hB := hB'
      have hku := hk'
      clear hB' hk'
      try simp only [Act.put, List.setIfInBounds_toArray, List.set_cons_zero, List.set_cons_succ]
      refine wpAny_done (by kernel_rfl) ?_ _
      have hG := HG.out
      obtain ⟨g1, g3, g4, g5⟩ := hG
      have q : ∀ j, (fun j => j = wz.heap.size) j → j < w3.heap.size := fun j hj => by have hj2 : j = wz.heap.size := hj; have := HLt0.out; omega
      have g1' := SlF.kp g1 hku q
      have g3' := SlF.kp g3 hku q
      have g4' := SlF.kp g4 hku q
      have g5' := SlF.kp g5 hku q
      clear g1 g3 g4 g5 q
      have hB2 := HBb.out.kp hku (fun e => by have := HSz.out; have e2 : w.heap.size + 1 = wz.heap.size := e; omega)
      have HKf := Lib.hid (HKb.out.trans hku (fun j hj e => by have := HSz.out; have e2 : j = wz.heap.size := e; omega))
      have hle : w3.heap.size ≤ w4.heap.size := HLe.out
      have g2 := g2.low hle
      have g6 := g6.low hle
      have g7 := g7.low hle
      have HGf := Lib.hid (And.intro g1' (And.intro g2 (And.intro g3' (And.intro g4' (And.intro g5' (And.intro g6 g7))))))
      have HB3 := Lib.hid hB
      have HB2 := Lib.hid hB2
      clear hB hB2 hku g1' g2 g3' g4' g5' g6 g7 HG
      obtain ⟨d0, d1, d2, d3, d4, d5, d6, d7, d8⟩ := HB3.out.cells9
      obtain ⟨z0, z1, z2, z3, z4, z5, z6, z7, z8⟩ := HB2.out.cells9
      have fr := HB2.out.free
      have fr0 := fr 0
      have fr1 := fr 1
      have fr2 := fr 2
      have fr3 := fr 3
      have fr4 := fr 4
      have fr5 := fr 5
      have fr6 := fr 6
      have fr7 := fr 7
      have fr8 := fr 8
      clear fr
      have HBe := Lib.hid (HB2.out.set9 (.int .i64 C.max) (.slice a1 C.ins.length p1) (.slice a2 C.lats.length p2) (.slice a3 C.outs.length p3) (.slice a4 C.bads.length p4) (.slice a5 C.cons.length p5) (.slice a6 C.gates.length p6) (.slice a7 V.ny p7) (.string V.cm))
      have HKe := Lib.hid (Kp.set9 u (w.heap.size + 1) (.int .i64 C.max) (.slice a1 C.ins.length p1) (.slice a2 C.lats.length p2) (.slice a3 C.outs.length p3) (.slice a4 C.bads.length p4) (.slice a5 C.cons.length p5) (.slice a6 C.gates.length p6) (.slice a7 V.ny p7) (.string V.cm))
      unfold Go.Proofs.YtckmdcmkjmpiaaaGreatDoor.set9 at HBe HKe
      have HKw := Lib.hid (HKf.out.trans HKe.out (fun j hj e => by have e2 : j = (w.heap.size + 1) := e; omega))
      have q : ∀ j, (fun j => j = (w.heap.size + 1)) j → j < w3.heap.size := fun j hj => by have hj2 : j = w.heap.size + 1 := hj; have := HLt0.out; have := HSz.out; omega
      have HCat := Lib.hid (HGf.out)
      obtain ⟨g1, g2, g3, g4, g5, g6, g7⟩ := HCat.out
      have HG2 := Lib.hid (And.intro (SlF.kp g1 HKe.out q) (And.intro (SlF.kp g2 HKe.out q) (And.intro (SlF.kp g3 HKe.out q) (And.intro (SlF.kp g4 HKe.out q) (And.intro (SlF.kp g5 HKe.out q) (And.intro (SlF.kp g6 HKe.out q) (SlF.kp g7 HKe.out q)))))))
      clear q g1 g2 g3 g4 g5 g6 g7 HCat
      go_wp2_with fail
      obtain ⟨s0, s1, s2, s3, s4, s5, s6, s7, s8⟩ := HBe.out.cells9
      obtain ⟨g1, g2, g3, g4, g5, g6, g7⟩ := HG2.out
      have HRes := Lib.hid (show CAt _ ⟨a1, p1, a2, p2, a3, p3, a4, p4, a5, p5, a6, p6, a7, V.ny, p7, V.cm⟩ C from ⟨(by have h := (SlF.row g1).2; rw [ir_flat] at h; exact h), (SlF.row g2).2, (by have h := (SlF.row g3).2; rw [ir_flat] at h; exact h), (by have h := (SlF.row g4).2; rw [ir_flat] at h; exact h), (by have h := (SlF.row g5).2; rw [ir_flat] at h; exact h), (SlF.row g6).2, ⟨rows, (SlF.row g7).2, HRL.out⟩, (SlF.row g1).1, (SlF.row g2).1, (SlF.row g3).1, (SlF.row g4).1, (SlF.row g5).1, (SlF.row g6).1, (SlF.row g7).1⟩)
      have HSy := Lib.hid (SlF.row g7).2
      clear g1 g2 g3 g4 g5 g6 g7
      exact bodyPost_ret (v := .agg #[.int .i64 C.max, .slice a1 C.ins.length p1, .slice a2 C.lats.length p2, .slice a3 C.outs.length p3, .slice a4 C.bads.length p4, .slice a5 C.cons.length p5, .slice a6 C.gates.length p6, .slice a7 V.ny p7, .string V.cm]) (by simp [results, Tryz.results12, go_sem, s0, s1, s2, s3, s4, s5, s6, s7, s8]) rfl ⟨⟨a1, p1, a2, p2, a3, p3, a4, p4, a5, p5, a6, p6, a7, V.ny, p7, V.cm⟩, rfl, HRes.out, ⟨HSy.out, rfl, rfl⟩, HKw.out⟩

end Go.Proofs.YtckmdcmkjmpiaaaGreatDoor

/-
  How a circuit that came in is opened.
-/
namespace Go.Proofs.YtckmdcmkjmpiaaaGreatDoor
open Go.RowKit Go.ChangeShapes Go.WideShapes Go.ChangeAt Go.Joins Go.Deep

section
variable {H : Type} {enc : TypeId × Value → H} {W : World}

/-- a row of ints among the cells of what came in -/
theorem circ_ints {fuel : Nat} {v : Value} {x : DataW H × List MemPlace}
    (h : DataW.trod enc Tryz.prog W 0 (fun _ => true) true fuel 22 [v] = some x) : ∃ (a : Option Addr) (c : Nat) (L : List Int), v = .slice a L.length c ∧ SlOK a L.length c ∧ IntsAt W a L := by
  rcases open_ints Tryz.underlying22 Tryz.underlying3 (by kernel_rfl) h with ⟨hcs, _⟩ | ⟨a, len, cap, zs, hcs, _, hl, hm, hz, _, hcell, hwz⟩
  · simp at hcs
    subst hcs
    exact ⟨none, 0, [], rfl, ⟨Nat.le_refl _, by simp [maxLen], fun _ => rfl⟩, RowAt.nil _ _⟩
  · simp at hcs
    subst hcs
    simp only [if_true] at hz
    have hlen : (zs.take len).length = len := by rw [List.length_take, hz]; omega
    refine ⟨some a, cap, zs.take len, by rw [hlen], ⟨by rw [hlen]; exact hl, hm, (fun h => by cases h)⟩, ?_⟩
    intro j u hu
    rw [List.getElem?_map, List.getElem?_take] at hu
    split at hu
    · rename_i hj
      have h0 := hcell 0 (by omega)
      have hs : a.spot = none := by
        have := World.cell?_spot h0
        simpa [Addr.add] using this
      obtain ⟨b, off, spot⟩ := a
      simp only at hs
      subst hs
      refine ⟨b, off, rfl, ?_⟩
      have hc := hcell j (by omega)
      rw [add_plain'] at hc
      rw [hc]
      rw [List.getElem?_eq_getElem (by omega)] at hu
      simp only [Option.map_some] at hu
      rw [← hu]
      simp [List.getD, List.getElem?_eq_getElem (show j < zs.length by omega)]
    · simp at hu

def row3 (V0 V1 V2 : Nat → Value) (n : Nat) : List (List Value) := (List.range n).map (fun i => [V0 i, V1 i, V2 i])
theorem row3_len (V0 V1 V2 : Nat → Value) (n : Nat) : ∀ r ∈ row3 V0 V1 V2 n, r.length = 3 := fun r h => by
  unfold row3 at h
  obtain ⟨i, -, rfl⟩ := List.mem_map.1 h
  rfl

set_option maxRecDepth 100000 in
/-- a row of structs of three cells -/
theorem circ_rows {t e : TypeId} {f0 f1 f2 : Field} {fuel : Nat} {v : Value} {x : DataW H × List MemPlace} (ht : Tryz.prog.underlying t = some (.slice e)) (he : Tryz.prog.underlying e = some (.struct #[f0, f1, f2]))
    (ce : Tryz.prog.cellsOf e = 3) (o0 : f0.offset = 0) (o1 : f1.offset = 1) (o2 : f2.offset = 2) (c0 : Tryz.prog.cellsOf f0.type = 1) (c1 : Tryz.prog.cellsOf f1.type = 1) (c2 : Tryz.prog.cellsOf f2.type = 1)
    (h : DataW.trod enc Tryz.prog W 0 (fun _ => true) true fuel t [v] = some x) : ∃ (a : Option Addr) (n c : Nat) (V0 V1 V2 : Nat → Value), v = .slice a n c ∧ SlOK a n c ∧ RowAt W a (row3 V0 V1 V2 n).flatten ∧
      ∀ i, i < n → (∃ m y, DataW.trod enc Tryz.prog W 0 (fun _ => true) true m f0.type [V0 i] = some y) ∧ (∃ m y, DataW.trod enc Tryz.prog W 0 (fun _ => true) true m f1.type [V1 i] = some y) ∧ (∃ m y, DataW.trod enc Tryz.prog W 0 (fun _ => true) true m f2.type [V2 i] = some y) := by
  rcases open_slice ht h with ⟨hcs, _⟩ | ⟨a, len, cap, m, n, D, Pl, hcs, _, hl, hm, hmm, _, hx⟩
  · simp at hcs
    subst hcs
    exact ⟨none, 0, 0, fun _ => .bool false, fun _ => .bool false, fun _ => .bool false, rfl, ⟨Nat.le_refl _, by simp [maxLen], fun _ => rfl⟩, RowAt.nil _ _, fun i hi => by omega⟩
  · simp at hcs
    subst hcs
    simp only [if_true] at hmm
    subst hmm
    have each : ∀ i, i < len → ∃ q : Value × Value × Value, W.cell? (a.add (i * 3)) = some q.1 ∧ W.cell? (a.add (i * 3 + 1)) = some q.2.1 ∧ W.cell? (a.add (i * 3 + 2)) = some q.2.2 ∧
        (∃ m y, DataW.trod enc Tryz.prog W 0 (fun _ => true) true m f0.type [q.1] = some y) ∧ (∃ m y, DataW.trod enc Tryz.prog W 0 (fun _ => true) true m f1.type [q.2.1] = some y) ∧ (∃ m y, DataW.trod enc Tryz.prog W 0 (fun _ => true) true m f2.type [q.2.2] = some y) := by
      intro i hi
      obtain ⟨cs', h1, h2⟩ := hx i (by omega)
      rw [ce] at h1
      obtain ⟨_, hlen, hcell⟩ := World.cells?_some h1
      obtain ⟨xs, k, _, _, _, hxl, hf⟩ := DataW.trod_struct he h2
      match xs, hxl, cs', hlen with
      | [y0, y1, y2], _, [v0, v1, v2], _ =>
        have g0 := hf 0 f0 rfl
        have g1 := hf 1 f1 rfl
        have g2 := hf 2 f2 rfl
        simp [o0, o1, o2, c0, c1, c2] at g0 g1 g2
        have e0 := hcell 0 (by omega)
        have e1 := hcell 1 (by omega)
        have e2 := hcell 2 (by omega)
        rw [add_add] at e0 e1 e2
        exact ⟨(v0, v1, v2), by simpa using e0, by simpa using e1, by simpa using e2, ⟨_, _, g0⟩, ⟨_, _, g1⟩, ⟨_, _, g2⟩⟩
    obtain ⟨q, hq⟩ := choose_lt each
    refine ⟨some a, len, m, fun i => (q i).1, fun i => (q i).2.1, fun i => (q i).2.2, rfl, ⟨hl, hm, fun h => by cases h⟩, ?_, fun i hi => (hq i hi).2.2.2⟩
    intro j u hu
    have hlen : (row3 (fun i => (q i).1) (fun i => (q i).2.1) (fun i => (q i).2.2) len).flatten.length = len * 3 := by
      rw [flat_length (row3_len _ _ _ _)]; simp [row3]
    have hj : j < len * 3 := by rw [← hlen]; exact (List.getElem?_eq_some_iff.1 hu).1
    have hr : (row3 (fun i => (q i).1) (fun i => (q i).2.1) (fun i => (q i).2.2) len)[j / 3]? = some [(q (j / 3)).1, (q (j / 3)).2.1, (q (j / 3)).2.2] := by
      have : j / 3 < len := by omega
      simp [row3, this]
    obtain ⟨q0, q1, q2, -⟩ := hq (j / 3) (by omega)
    have hs : a.spot = none := by
      have := World.cell?_spot (hq 0 (by omega)).1
      simpa [Addr.add] using this
    obtain ⟨b, off, spot⟩ := a
    simp only at hs
    subst hs
    refine ⟨b, off, rfl, ?_⟩
    rw [add_plain'] at q0 q1 q2
    have hc : j % 3 = 0 ∨ j % 3 = 1 ∨ j % 3 = 2 := by omega
    rcases hc with hp | hp | hp
    · have h0 := flat_at (row3_len _ _ _ _) hr (i := 0) rfl
      rw [show j / 3 * 3 + 0 = j by omega, hu] at h0
      rw [show off + j = off + j / 3 * 3 by omega, q0]
      exact h0.symm
    · have h0 := flat_at (row3_len _ _ _ _) hr (i := 1) rfl
      rw [show j / 3 * 3 + 1 = j by omega, hu] at h0
      rw [show off + j = off + (j / 3 * 3 + 1) by omega, q1]
      exact h0.symm
    · have h0 := flat_at (row3_len _ _ _ _) hr (i := 2) rfl
      rw [show j / 3 * 3 + 2 = j by omega, hu] at h0
      rw [show off + j = off + (j / 3 * 3 + 2) by omega, q2]
      exact h0.symm

theorem trod_i64 {m : Nat} {u : Value} {y : DataW H × List MemPlace} (h : DataW.trod enc Tryz.prog W 0 (fun _ => true) true m 3 [u] = some y) : ∃ z : Int, u = .int .i64 z := by
  obtain ⟨z, e, _, _⟩ := DataW.trod_int Tryz.underlying3 h
  simp at e
  exact ⟨z, e⟩

/-- three ints each -/
theorem circ_tris {V0 V1 V2 : Nat → Value} {n : Nat} (h0 : ∀ i, i < n → ∃ z : Int, V0 i = .int .i64 z) (h1 : ∀ i, i < n → ∃ z : Int, V1 i = .int .i64 z) (h2 : ∀ i, i < n → ∃ z : Int, V2 i = .int .i64 z) :
    ∃ L : List (Int × Int × Int), L.length = n ∧ row3 V0 V1 V2 n = L.map tri := by
  obtain ⟨z0, e0⟩ := choose_lt h0
  obtain ⟨z1, e1⟩ := choose_lt h1
  obtain ⟨z2, e2⟩ := choose_lt h2
  refine ⟨(List.range n).map (fun i => (z0 i, z1 i, z2 i)), by simp, ?_⟩
  unfold row3
  rw [List.map_map]
  refine List.map_congr_left fun i hi => ?_
  have hi := List.mem_range.1 hi
  simp only [Function.comp_apply, e0 i hi, e1 i hi, e2 i hi]
  rfl

end

theorem circ_cells : Tryz.prog.cellsOf 27 = 9 := by kernel_rfl
theorem circ_c0 : Tryz.prog.cellsOf 3 = 1 := by kernel_rfl
theorem circ_c1 : Tryz.prog.cellsOf 22 = 1 := by kernel_rfl
theorem circ_c2 : Tryz.prog.cellsOf 23 = 1 := by kernel_rfl
theorem circ_c3 : Tryz.prog.cellsOf 24 = 1 := by kernel_rfl
theorem circ_c4 : Tryz.prog.cellsOf 25 = 1 := by kernel_rfl
theorem circ_c5 : Tryz.prog.cellsOf 9 = 1 := by kernel_rfl

/-- .. with its symbols' kinds, and its greatest variable an int -/
def CircArgS (W : World) (v : Value) : Prop := ∃ (V : CV) (C : Circ), v = .agg (cvals V C) ∧ CAt W V C ∧ V.cm.size ≤ maxLen ∧ (-9223372036854775808 ≤ C.max ∧ C.max ≤ 9223372036854775807) ∧
  ∃ rows : List (List Value), RowAt W V.ay rows.flatten ∧ rows.length = V.ny ∧ ∀ (k : Nat) (r : List Value), rows[k]? = some r → ∃ (a b : Int) (s : ByteArray), r = [.int .u8 a, .int .i64 b, .string s]

set_option maxRecDepth 100000 in
theorem open_circArgS {H : Type} {enc : TypeId × Value → H} {W : World} {base : Nat} {v : Value} {d : DataW H} {ps : List MemPlace}
    (hv : Value.okWide Tryz.prog W .any base 27 v) (h : DataW.Trod enc Tryz.prog W 0 (fun _ => true) true 27 v d ps) : CircArgS W v := by
  obtain ⟨cs, rfl, hsz⟩ := okWide_struct Tryz.underlying27 hv
  obtain ⟨l⟩ := cs
  match l, hsz.trans circ_cells with
  | [k0, k1, k2, k3, k4, k5, k6, k7, k8], _ =>
    obtain ⟨fuel, hf⟩ := h
    obtain ⟨xs, n, _, _, _, hlen, hg⟩ := DataW.trod_struct Tryz.underlying27 hf
    have g0 : DataW.trod enc Tryz.prog W 0 (fun _ => true) true n 3 [k0] = xs[0]? := by simpa [Value.cells, circ_c0, circ_c1, circ_c2, circ_c3, circ_c4, circ_c5] using hg 0 _ rfl
    have g1 : DataW.trod enc Tryz.prog W 0 (fun _ => true) true n 22 [k1] = xs[1]? := by simpa [Value.cells, circ_c0, circ_c1, circ_c2, circ_c3, circ_c4, circ_c5] using hg 1 _ rfl
    have g2 : DataW.trod enc Tryz.prog W 0 (fun _ => true) true n 23 [k2] = xs[2]? := by simpa [Value.cells, circ_c0, circ_c1, circ_c2, circ_c3, circ_c4, circ_c5] using hg 2 _ rfl
    have g3 : DataW.trod enc Tryz.prog W 0 (fun _ => true) true n 22 [k3] = xs[3]? := by simpa [Value.cells, circ_c0, circ_c1, circ_c2, circ_c3, circ_c4, circ_c5] using hg 3 _ rfl
    have g4 : DataW.trod enc Tryz.prog W 0 (fun _ => true) true n 22 [k4] = xs[4]? := by simpa [Value.cells, circ_c0, circ_c1, circ_c2, circ_c3, circ_c4, circ_c5] using hg 4 _ rfl
    have g5 : DataW.trod enc Tryz.prog W 0 (fun _ => true) true n 22 [k5] = xs[5]? := by simpa [Value.cells, circ_c0, circ_c1, circ_c2, circ_c3, circ_c4, circ_c5] using hg 5 _ rfl
    have g6 : DataW.trod enc Tryz.prog W 0 (fun _ => true) true n 24 [k6] = xs[6]? := by simpa [Value.cells, circ_c0, circ_c1, circ_c2, circ_c3, circ_c4, circ_c5] using hg 6 _ rfl
    have g7 : DataW.trod enc Tryz.prog W 0 (fun _ => true) true n 25 [k7] = xs[7]? := by simpa [Value.cells, circ_c0, circ_c1, circ_c2, circ_c3, circ_c4, circ_c5] using hg 7 _ rfl
    have g8 : DataW.trod enc Tryz.prog W 0 (fun _ => true) true n 9 [k8] = xs[8]? := by simpa [Value.cells, circ_c0, circ_c1, circ_c2, circ_c3, circ_c4, circ_c5] using hg 8 _ rfl
    match xs, hlen with
    | [y0, y1, y2, y3, y4, y5, y6, y7, y8], _ =>
      obtain ⟨mx, hmx, -, hmr⟩ := DataW.trod_int Tryz.underlying3 g0
      simp at hmx
      subst hmx
      obtain ⟨a1, c1, L1, rfl, s1, r1⟩ := circ_ints g1
      obtain ⟨a2, n2, c2, P0, P1, P2, rfl, s2, r2, t2⟩ := circ_rows Tryz.underlying23 Tryz.underlying59 (by kernel_rfl) rfl rfl rfl circ_c0 circ_c0 circ_c0 g2
      obtain ⟨a3, c3, L3, rfl, s3, r3⟩ := circ_ints g3
      obtain ⟨a4, c4, L4, rfl, s4, r4⟩ := circ_ints g4
      obtain ⟨a5, c5, L5, rfl, s5, r5⟩ := circ_ints g5
      obtain ⟨a6, n6, c6, Q0, Q1, Q2, rfl, s6, r6, t6⟩ := circ_rows Tryz.underlying24 Tryz.underlying61 (by kernel_rfl) rfl rfl rfl circ_c0 circ_c0 circ_c0 g6
      obtain ⟨a7, n7, c7, R0, R1, R2, rfl, s7, r7, t7⟩ := circ_rows Tryz.underlying25 Tryz.underlying63 (by kernel_rfl) rfl rfl rfl (by kernel_rfl) circ_c0 circ_c5 g7
      obtain ⟨sm, e8, _, w8⟩ := DataW.trod_string Tryz.underlying9 g8
      simp only [List.cons.injEq, and_true] at e8
      subst e8
      obtain ⟨L2, l2, m2⟩ := circ_tris (fun i hi => by obtain ⟨m, y, h⟩ := (t2 i hi).1; exact trod_i64 h) (fun i hi => by obtain ⟨m, y, h⟩ := (t2 i hi).2.1; exact trod_i64 h) (fun i hi => by obtain ⟨m, y, h⟩ := (t2 i hi).2.2; exact trod_i64 h)
      obtain ⟨L6, l6, m6⟩ := circ_tris (fun i hi => by obtain ⟨m, y, h⟩ := (t6 i hi).1; exact trod_i64 h) (fun i hi => by obtain ⟨m, y, h⟩ := (t6 i hi).2.1; exact trod_i64 h) (fun i hi => by obtain ⟨m, y, h⟩ := (t6 i hi).2.2; exact trod_i64 h)
      rw [m2] at r2
      rw [m6] at r6
      subst l2 l6
      refine ⟨⟨a1, c1, a2, c2, a3, c3, a4, c4, a5, c5, a6, c6, a7, n7, c7, sm⟩, ⟨mx, L1, L2, L3, L4, L5, L6⟩, rfl, ⟨r1, r2, r3, r4, r5, r6, ⟨_, r7, by simp [row3], row3_len _ _ _ _, fun r hr u hu => ?_⟩, s1, s2, s3, s4, s5, s6, s7⟩, w8, by simp [Lit.wf, IntKind.min, IntKind.max, IntKind.signed, IntKind.bits] at hmr; simp only; omega, ⟨_, r7, by simp [row3], fun k r hk => ?_⟩⟩
      rotate_left
      · unfold row3 at hk
        obtain ⟨i, hi, rfl⟩ := List.mem_map.1 (List.mem_of_getElem? hk)
        have hi := List.mem_range.1 hi
        obtain ⟨⟨m0, y0, q0⟩, ⟨m1, y1, q1⟩, ⟨m2, y2, q2⟩⟩ := t7 i hi
        obtain ⟨z0, e0, _, _⟩ := DataW.trod_int Tryz.underlying5 q0
        obtain ⟨z1, e1⟩ := trod_i64 q1
        obtain ⟨z2, e2, _, _⟩ := DataW.trod_string Tryz.underlying9 q2
        simp at e0 e2
        exact ⟨z0, z1, z2, by rw [e0, e1, e2]⟩
      unfold row3 at hr
      obtain ⟨i, hi, rfl⟩ := List.mem_map.1 hr
      have hi := List.mem_range.1 hi
      obtain ⟨⟨m0, y0, q0⟩, ⟨m1, y1, q1⟩, ⟨m2, y2, q2⟩⟩ := t7 i hi
      obtain ⟨z0, e0, _, _⟩ := DataW.trod_int Tryz.underlying5 q0
      obtain ⟨z1, e1⟩ := trod_i64 q1
      obtain ⟨z2, e2, _, _⟩ := DataW.trod_string Tryz.underlying9 q2
      simp at e0 e2
      simp only [List.mem_cons, List.not_mem_nil, or_false] at hu
      rcases hu with rfl | rfl | rfl
      · rw [e0]; rfl
      · rw [e1]; rfl
      · rw [e2]; rfl

end Go.Proofs.YtckmdcmkjmpiaaaGreatDoor

/-
  latchetlaw15.AigerForms: both forms of a circuit are the same circuit. (Printed by mkforms.py.)
-/
namespace Go.Proofs.YtckmdcmkjmpiaaaGreatDoor
open Go.RowKit

theorem fewC_ok {V : CV} {C : Circ} {w : World} (hF : FewP V C 30) : Calls Tryz.prog 10 #[.agg (cvals V C), .int .i64 30] w fun e w' => e = .returned (.bool true) ∧ Kp (fun _ => False) w w' :=
  (law11_Few V C 30 w).mono (by
    rintro e w' ⟨r, rfl, hr, hK⟩
    obtain rfl := hr.2 hF
    exact ⟨rfl, hK⟩)
theorem fewC_no {V : CV} {C : Circ} {w : World} (hF : ¬ FewP V C 30) : Calls Tryz.prog 10 #[.agg (cvals V C), .int .i64 30] w fun e w' => e = .returned (.bool false) ∧ Kp (fun _ => False) w w' :=
  (law11_Few V C 30 w).mono (by
    rintro e w' ⟨r, rfl, hr, hK⟩
    cases r with
    | false => exact ⟨rfl, hK⟩
    | true => exact absurd (hr.1 rfl) hF)

/-- what comes from Own: the same things, symbols and comment -/
def OwnG (C : Circ) (Y : List (Int × Int × ByteArray)) (cm : ByteArray) (w : World) (V : CV) : Prop := CAt w V C ∧ RowAt w V.ay (Y.map symC).flatten ∧ Y.length = V.ny ∧ V.cm = cm
theorem own_good {V : CV} {C : Circ} {Y : List (Int × Int × ByteArray)} {w : World} (h : CAt w V C) (hY : RowAt w V.ay (Y.map symC).flatten) (hn : Y.length = V.ny) (hf : CFew C 1000000) (hy : V.ny ≤ 1000000) :
    Calls Tryz.prog 12 #[.agg (cvals V C)] w fun e w' => ∃ V', e = .returned (.agg (cvals V' C)) ∧ OwnG C Y V.cm w' V' ∧ Kp (fun _ => False) w w' :=
  (law11_OwnY V C w (Y.map symC) hY ⟨by simpa using hn, symC_len Y, fun r hr u hu => by
    obtain ⟨x, -, rfl⟩ := List.mem_map.1 hr
    unfold symC at hu
    simp only [List.mem_cons, List.not_mem_nil, or_false] at hu
    rcases hu with rfl | rfl | rfl <;> rfl⟩ h hf hy).mono (by
    rintro e w' ⟨V', rfl, h1, ⟨h2, h3, h4⟩, h5⟩
    exact ⟨V', rfl, ⟨h1, h2, by rw [h3]; exact hn, h4⟩, h5⟩)

theorem goodY_nn {h : Hd} : ∀ (Y : List (Int × Int × ByteArray)) (L : List (Nat × Nat)), goodY h Y L = true → (Y.map symOf).map symCells = Y.map symC
  | [], _, _ => rfl
  | y :: r, L, hg => by
    unfold goodY at hg
    by_cases hbd : badY h L y = true
    · rw [if_pos hbd] at hg; cases hg
    rw [if_neg hbd] at hg
    rw [List.map_cons, List.map_cons, List.map_cons, goodY_nn r _ hg]
    congr 1
    have h2 : badY h L y = false := by simpa using hbd
    unfold badY at h2
    simp only [Bool.or_eq_false_iff, decide_eq_false_iff_not] at h2
    obtain ⟨⟨⟨⟨⟨h1, h2⟩, -⟩, h4⟩, -⟩, -⟩ := h2
    have h5 := kind_of h (by omega : 0 < cnt h y.1.toNat)
    unfold symCells symOf symC
    simp only
    rw [show ((y.1.toNat : Nat) : Int) = y.1 by omega, show ((y.2.1.toNat : Nat) : Int) = y.2.1 by omega]

theorem text_some {C : Circ} {Y : List (Int × Int × ByteArray)} {cm : ByteArray} {bin : Bool} : (((⟨(prtB C Y cm bin).toArray⟩ : ByteArray)).toList == []) = false := by
  rw [name_empty, decide_eq_false_iff_not]
  have : (⟨(prtB C Y cm bin).toArray⟩ : ByteArray).size = (prtB C Y cm bin).length := by show (prtB C Y cm bin).toArray.size = _; simp
  rw [this]
  unfold prtB headW
  simp only [List.length_append]
  split <;> simp

/-- what Print tells, whether there is a text or none -/
def PrtO (C : Circ) (Y : List (Int × Int × ByteArray)) (bin : Bool) (s : ByteArray) (er : Int) : Prop := (er = 0 → prtOk C Y bin) ∧ (s.toList == []) = !(er == 0)
theorem print_o {C : Circ} {Y : List (Int × Int × ByteArray)} {cm : ByteArray} {bin : Bool} {w : World} {o : Ending} {w' : World} (h : PrintP C Y cm bin w o w') : ∃ s er, o = .returned (.tuple #[.string s, .int .i64 er]) ∧ PrtO C Y bin s er ∧ Kp (fun _ => False) w w' := by
  obtain ⟨hk, h | h⟩ := h
  · exact ⟨_, _, h.2, ⟨fun _ => h.1, by rw [text_some]; rfl⟩, hk⟩
  · obtain ⟨hn, e, he, ho⟩ := h
    exact ⟨_, _, ho, ⟨fun h => absurd h he, by rw [show (e == 0) = false by simpa using he]; rw [name_empty]; rfl⟩, hk⟩
theorem print_y {C : Circ} {Y : List (Int × Int × ByteArray)} {cm : ByteArray} {bin : Bool} {w : World} {o : Ending} {w' : World} (hp : prtOk C Y bin) (h : PrintP C Y cm bin w o w') : o = .returned (.tuple #[.string ⟨(prtB C Y cm bin).toArray⟩, .int .i64 0]) ∧ Kp (fun _ => False) w w' := by
  obtain ⟨hk, h | h⟩ := h
  · exact ⟨h.2, hk⟩
  · exact absurd hp h.1

set_option maxRecDepth 100000 in
set_option maxHeartbeats 8000000 in
theorem forms_few (V : CV) (C : Circ) (w : World) (hF : ¬ FewP V C 30) :
    Calls Tryz.prog 4 #[.agg (cvals V C)] w fun e w' => e = .returned (.bool true) ∧ Kp (fun _ => False) w w' := by
  obtain ⟨wz, hwz⟩ : ∃ wz : World, wz = w.alloc (.cells (cvals V C) 27) := ⟨_, rfl⟩
  have HK0 := Lib.hid (show Kp (fun _ => False) w wz by rw [hwz]; exact (Kp.refl _ w).alloc _)
  have HC0 := Lib.hid (show Blk wz w.heap.size #[.int .i64 C.max, .slice V.ai C.ins.length V.ci, .slice V.al C.lats.length V.cl, .slice V.ao C.outs.length V.co, .slice V.ab C.bads.length V.cb, .slice V.ac C.cons.length V.cc, .slice V.ag C.gates.length V.cg, .slice V.ay V.ny V.cy, .string V.cm] 27 by rw [hwz]; exact Blk.new w (cvals V C) _)
  obtain ⟨d0, d1, d2, d3, d4, d5, d6, d7, d8⟩ := Blk.cells9 HC0.out
  have HZ := Lib.hid hwz
  have HFw := Lib.hid (fewC_no (w := wz) hF)
  unfold cvals at HFw HZ ⊢
  clear hF hwz
  go_enter Tryz.func4, Tryz.ntmps4
  go_upto_region 1 with fail
  rw [← HZ.out]
  clear HZ
  go_upto_region 2 with (go_at_call 10; with_reducible refine Calls.mono HFw.out ?_; rintro e w1 ⟨rfl, hK1⟩)
  have HLv1 := Lib.hid (lives_ok w1)
  have HK1 := Lib.hid (HK0.out.trans hK1 (fun _ _ h => h))
  clear hK1
  go_wp2_with (go_at_call 9; with_reducible refine Calls.mono HLv1.out ?_; rintro e w2 ⟨rfl, hK2⟩; have HK2 := Lib.hid (HK1.out.trans hK2 (fun _ _ h => h)); clear hK2)
  go_ret
  exact ⟨rfl, HK2.out⟩

set_option maxRecDepth 100000 in
set_option maxHeartbeats 8000000 in
theorem forms_bad (V : CV) (C : Circ) (Y : List (Int × Int × ByteArray)) (w : World) (h : CAt w V C) (hY : RowAt w V.ay (Y.map symC).flatten) (hn : Y.length = V.ny) (hM : -9223372036854775808 ≤ C.max ∧ C.max ≤ 9223372036854775807) (ht : Tab w) (hF : FewP V C 30) (hP : ¬ (prtOk C Y false ∧ prtOk C Y true)) :
    Calls Tryz.prog 4 #[.agg (cvals V C)] w fun e w' => e = .returned (.bool true) ∧ Kp (fun _ => False) w w' := by
  obtain ⟨wz, hwz⟩ : ∃ wz : World, wz = w.alloc (.cells (cvals V C) 27) := ⟨_, rfl⟩
  have HK0 := Lib.hid (show Kp (fun _ => False) w wz by rw [hwz]; exact (Kp.refl _ w).alloc _)
  have HC0 := Lib.hid (show Blk wz w.heap.size #[.int .i64 C.max, .slice V.ai C.ins.length V.ci, .slice V.al C.lats.length V.cl, .slice V.ao C.outs.length V.co, .slice V.ab C.bads.length V.cb, .slice V.ac C.cons.length V.cc, .slice V.ag C.gates.length V.cg, .slice V.ay V.ny V.cy, .string V.cm] 27 by rw [hwz]; exact Blk.new w (cvals V C) _)
  obtain ⟨d0, d1, d2, d3, d4, d5, d6, d7, d8⟩ := Blk.cells9 HC0.out
  have HZ := Lib.hid hwz
  have hf := hF.few (show 30 ≤ 1000000 by decide)
  have hy : V.ny ≤ 1000000 := Nat.le_trans hF.y (by decide)
  have HOw := Lib.hid (fun u (hu : Kp (fun _ => False) wz u) => own_good (h.kp (HK0.out.trans hu (fun _ _ h => h))) (hY.kp (HK0.out.trans hu (fun _ _ h => h)) (fun _ _ h => h)) hn hf hy)
  have HFw := Lib.hid (fewC_ok (w := wz) hF)
  have HP := Lib.hid (fun u V1 (hu : Kp (fun _ => False) wz u) (h1 : OwnG C Y V.cm u V1) => (aiger_Print_false V1 C Y u h1.1 h1.2.1 h1.2.2.1 (hF.few (by decide)) (by rw [hn]; exact hF.y) (by rw [h1.2.2.2]; exact hF.t) hM (ht.kp (HK0.out.trans hu (fun _ _ h => h)))).mono (fun e w' h => print_o h))
  have HQ := Lib.hid (fun u V1 (hu : Kp (fun _ => False) wz u) (h1 : OwnG C Y V.cm u V1) => (aiger_Print_true V1 C Y u h1.1 h1.2.1 h1.2.2.1 (hF.few (by decide)) (by rw [hn]; exact hF.y) (by rw [h1.2.2.2]; exact hF.t) hM (ht.kp (HK0.out.trans hu (fun _ _ h => h)))).mono (fun e w' h => print_o h))
  obtain ⟨cvV, hcv⟩ : ∃ f : CV → Array Value, ∀ V1, cvals V1 C = f V1 := ⟨fun V1 => cvals V1 C, fun _ => rfl⟩
  have HOw : Hid (∀ u, Kp (fun _ => False) wz u → Calls Tryz.prog 12 #[.agg (cvals V C)] u fun e w' => ∃ V', e = .returned (.agg (cvV V')) ∧ OwnG C Y V.cm w' V' ∧ Kp (fun _ => False) u w') := Lib.hid (fun u hu => (HOw.out u hu).mono (by
    rintro e w' ⟨V', rfl, h1, h2⟩
    exact ⟨V', by rw [hcv], h1, h2⟩))
  simp only [hcv] at HP HQ
  have HNP := Lib.hid hP
  unfold cvals at HFw HOw HZ ⊢
  clear h hY hn ht hF hwz hf hy hM hcv hP
  go_enter Tryz.func4, Tryz.ntmps4
  go_upto_region 1 with fail
  rw [← HZ.out]
  clear HZ
  go_upto_region 3 with (go_at_call 10; with_reducible refine Calls.mono HFw.out ?_; rintro e w1 ⟨rfl, hK1⟩)
  have hC1 := HC0.out.kp hK1 (fun h => h)
  have HK1 := Lib.hid hK1
  clear d0 d1 d2 d3 d4 d5 d6 d7 d8
  obtain ⟨z0, z1, z2, z3, z4, z5, z6, z7, z8⟩ := Blk.cells9 hC1
  have HOw1 := Lib.hid (HOw.out w1 hK1)
  clear hC1 hK1 HFw
  go_upto_region 4 with (first
    | (go_at_call 12; with_reducible refine Calls.mono HOw1.out ?_; rintro e w2 ⟨V1, rfl, hV1, hK2⟩; have HK2 := Lib.hid (HK1.out.trans hK2 (fun _ _ h => h)); have HP2 := Lib.hid (HP.out w2 V1 HK2.out hV1); clear hK2 hV1)
    | (go_at_call 11; with_reducible refine Calls.mono HP2.out ?_; rintro e w3 ⟨s1, e1, rfl, ho1, hK3⟩; have HK3 := Lib.hid (HK2.out.trans hK3 (fun _ _ h => h)); clear hK3))
  clear z0 z1 z2 z3 z4 z5 z6 z7 z8 HOw1 HP2 HP
  have HOw3 := Lib.hid (HOw.out w3 HK3.out)
  obtain ⟨z0, z1, z2, z3, z4, z5, z6, z7, z8⟩ := Blk.cells9 (HC0.out.kp HK3.out (fun h => h))
  go_upto_region 5 with (first
    | (go_at_call 12; with_reducible refine Calls.mono HOw3.out ?_; rintro e w4 ⟨V2, rfl, hV2, hK4⟩; have HK4 := Lib.hid (HK3.out.trans hK4 (fun _ _ h => h)); have HQ4 := Lib.hid (HQ.out w4 V2 HK4.out hV2); clear hK4 hV2)
    | (go_at_call 11; with_reducible refine Calls.mono HQ4.out ?_; rintro e w5 ⟨s2, e2, rfl, ho2, hK5⟩; have HK5 := Lib.hid (HK4.out.trans hK5 (fun _ _ h => h)); clear hK5))
  clear z0 z1 z2 z3 z4 z5 z6 z7 z8 HOw3 HQ4 HQ HOw
  have HLv5 := Lib.hid (lives_ok w5)
  obtain ⟨ho1, q1⟩ := ho1
  obtain ⟨ho2, q2⟩ := ho2
  by_cases c1 : e1 = 0
  · subst c1
    by_cases c2 : e2 = 0
    · exact absurd ⟨ho1 rfl, ho2 c2⟩ HNP.out
    · have q3 : (e2 == 0) = false := by simpa using c2
      have q6 : (e2 != 0) = true := by simpa using c2
      rw [q3] at q2
      simp only [Bool.not_false, Int.reduceBEq, Bool.not_true, beq_self_eq_true] at q1 q2
      clear ho1 ho2 c2 HNP
      go_wp2_with (go_at_call 9; with_reducible refine Calls.mono HLv5.out ?_; rintro e w6 ⟨rfl, hK6⟩; have HK6 := Lib.hid ((HK0.out.trans HK5.out (fun _ _ h => h)).trans hK6 (fun _ _ h => h)); clear hK6)
      go_ret
      exact ⟨rfl, HK6.out⟩
  · have q4 : (e1 == 0) = false := by simpa using c1
    have q5 : (e1 != 0) = true := by simpa using c1
    rw [q4] at q1
    by_cases c2 : e2 = 0
    · subst c2
      simp only [Bool.not_false, Int.reduceBEq, Bool.not_true, beq_self_eq_true] at q1 q2
      clear ho1 ho2 c1 HNP
      go_wp2_with (go_at_call 9; with_reducible refine Calls.mono HLv5.out ?_; rintro e w6 ⟨rfl, hK6⟩; have HK6 := Lib.hid ((HK0.out.trans HK5.out (fun _ _ h => h)).trans hK6 (fun _ _ h => h)); clear hK6)
      go_ret
      exact ⟨rfl, HK6.out⟩
    · have q3 : (e2 == 0) = false := by simpa using c2
      have q6 : (e2 != 0) = true := by simpa using c2
      rw [q3] at q2
      simp only [Bool.not_false, Int.reduceBEq, Bool.not_true, beq_self_eq_true] at q1 q2
      clear ho1 ho2 c1 c2 HNP
      go_wp2_with (go_at_call 9; with_reducible refine Calls.mono HLv5.out ?_; rintro e w6 ⟨rfl, hK6⟩; have HK6 := Lib.hid ((HK0.out.trans HK5.out (fun _ _ h => h)).trans hK6 (fun _ _ h => h)); clear hK6)
      go_ret
      exact ⟨rfl, HK6.out⟩

end Go.Proofs.YtckmdcmkjmpiaaaGreatDoor

/-
  latchetlaw15.AigerForms, of a circuit that is printed in both forms. (Printed by mkforms.py.)
-/
namespace Go.Proofs.YtckmdcmkjmpiaaaGreatDoor
open Go.RowKit

theorem prsP_back {C : Circ} {Y : List (Int × Int × ByteArray)} {cm s : ByteArray} {bin : Bool} (hp : prtOk C Y bin) (hf : CFew C 30) (hy : Y.length ≤ 30) (hc : cm.size ≤ 300) (hs : s = ⟨(prtB C Y cm bin).toArray⟩) (w : World) :
    Calls Tryz.prog 5 #[.string s] w fun o w' => Kp (fun _ => False) w w' ∧ ∃ V' a, o = .returned (.tuple #[.agg (cvals V' C), .int .i64 a, .int .i64 0]) ∧ OwnG C Y cm w' V' := by
  have hsz : s.size = (prtB C Y cm bin).length := by rw [hs]; show (prtB C Y cm bin).toArray.size = _; simp
  refine (aiger_Prs s w (.inl (by have := prtB_len hp hf hy hc; omega))).mono ?_
  rintro o w' ⟨hK, hm⟩
  rw [prs_back hp hf hy hc hs] at hm
  obtain ⟨V', rfl, h1, h2, h3, h4⟩ := hm
  rw [goodY_nn Y [] hp.2.1] at h2
  exact ⟨hK, V', _, rfl, h1, h2, by rw [h3]; simp, h4⟩

theorem symC_two {w : World} {V V' : CV} {Y : List (Int × Int × ByteArray)} (h : RowAt w V.ay (Y.map symC).flatten) (h' : RowAt w V'.ay (Y.map symC).flatten) (hn : Y.length = V.ny) : SymTwo w V V' := by
  refine ⟨Y.map symC, h, h', by simpa using hn, fun k r hr => ?_⟩
  rw [List.getElem?_map] at hr
  cases hk : Y[k]? with
  | none => rw [hk] at hr; cases hr
  | some x =>
    rw [hk] at hr
    cases hr
    exact ⟨_, _, _, rfl⟩
theorem OwnG.kp {C : Circ} {Y : List (Int × Int × ByteArray)} {cm : ByteArray} {w w' : World} {V : CV} (h : OwnG C Y cm w V) (k : Kp (fun _ => False) w w') : OwnG C Y cm w' V := ⟨h.1.kp k, h.2.1.kp k (fun _ _ h => h), h.2.2⟩
theorem same_g {C : Circ} {Y : List (Int × Int × ByteArray)} {cm : ByteArray} {w : World} {V V' : CV} (hf : CFewI C) (h : OwnG C Y cm w V) (h' : OwnG C Y cm w V') :
    Calls Tryz.prog 7 #[.agg (cvals V C), .agg (cvals V' C)] w fun e w' => e = .returned (.bool true) ∧ Kp (fun _ => False) w w' :=
  (ref11_Same2 V V' C w h.1 h'.1 hf ⟨by rw [← h.2.2.1, h'.2.2.1], by rw [h.2.2.2, h'.2.2.2]⟩ (symC_two h.2.1 h'.2.1 h.2.2.1)).mono (fun e w' h => h)

set_option maxRecDepth 100000 in
set_option maxHeartbeats 8000000 in
theorem forms_ok (V : CV) (C : Circ) (Y : List (Int × Int × ByteArray)) (w : World) (h : CAt w V C) (hY : RowAt w V.ay (Y.map symC).flatten) (hn : Y.length = V.ny) (hM : -9223372036854775808 ≤ C.max ∧ C.max ≤ 9223372036854775807) (ht : Tab w) (hF : FewP V C 30) (hP1 : prtOk C Y false) (hP2 : prtOk C Y true) :
    Calls Tryz.prog 4 #[.agg (cvals V C)] w fun e w' => e = .returned (.bool true) ∧ Kp (fun _ => False) w w' := by
  obtain ⟨wz, hwz⟩ : ∃ wz : World, wz = w.alloc (.cells (cvals V C) 27) := ⟨_, rfl⟩
  have HK0 := Lib.hid (show Kp (fun _ => False) w wz by rw [hwz]; exact (Kp.refl _ w).alloc _)
  have HC0 := Lib.hid (show Blk wz w.heap.size #[.int .i64 C.max, .slice V.ai C.ins.length V.ci, .slice V.al C.lats.length V.cl, .slice V.ao C.outs.length V.co, .slice V.ab C.bads.length V.cb, .slice V.ac C.cons.length V.cc, .slice V.ag C.gates.length V.cg, .slice V.ay V.ny V.cy, .string V.cm] 27 by rw [hwz]; exact Blk.new w (cvals V C) _)
  obtain ⟨d0, d1, d2, d3, d4, d5, d6, d7, d8⟩ := Blk.cells9 HC0.out
  have HZ := Lib.hid hwz
  have hf := hF.few (show 30 ≤ 1000000 by decide)
  have hy : V.ny ≤ 1000000 := Nat.le_trans hF.y (by decide)
  have HOw := Lib.hid (fun u (hu : Kp (fun _ => False) wz u) => own_good (h.kp (HK0.out.trans hu (fun _ _ h => h))) (hY.kp (HK0.out.trans hu (fun _ _ h => h)) (fun _ _ h => h)) hn hf hy)
  have HFw := Lib.hid (fewC_ok (w := wz) hF)
  have HP := Lib.hid (fun u V1 (hu : Kp (fun _ => False) wz u) (h1 : OwnG C Y V.cm u V1) => (aiger_Print_false V1 C Y u h1.1 h1.2.1 h1.2.2.1 (hF.few (by decide)) (by rw [hn]; exact hF.y) (by rw [h1.2.2.2]; exact hF.t) hM (ht.kp (HK0.out.trans hu (fun _ _ h => h)))).mono (fun e w' h => by rw [h1.2.2.2] at h; exact print_y hP1 h))
  have HQ := Lib.hid (fun u V1 (hu : Kp (fun _ => False) wz u) (h1 : OwnG C Y V.cm u V1) => (aiger_Print_true V1 C Y u h1.1 h1.2.1 h1.2.2.1 (hF.few (by decide)) (by rw [hn]; exact hF.y) (by rw [h1.2.2.2]; exact hF.t) hM (ht.kp (HK0.out.trans hu (fun _ _ h => h)))).mono (fun e w' h => by rw [h1.2.2.2] at h; exact print_y hP2 h))
  obtain ⟨sA, hsA⟩ : ∃ s : ByteArray, s = ⟨(prtB C Y V.cm false).toArray⟩ := ⟨_, rfl⟩
  obtain ⟨sB, hsB⟩ : ∃ s : ByteArray, s = ⟨(prtB C Y V.cm true).toArray⟩ := ⟨_, rfl⟩
  have HA := Lib.hid (fun u => prsP_back hP1 (hF.few (by decide)) (by rw [hn]; exact hF.y) hF.t hsA u)
  have HB := Lib.hid (fun u => prsP_back hP2 (hF.few (by decide)) (by rw [hn]; exact hF.y) hF.t hsB u)
  rw [← hsA] at HP
  rw [← hsB] at HQ
  have HG0 := Lib.hid (show OwnG C Y V.cm wz V from ⟨h.kp HK0.out, hY.kp HK0.out (fun _ _ h => h), hn, rfl⟩)
  have HSm := Lib.hid (fun u V1 V2 (h1 : OwnG C Y V.cm u V1) (h2 : OwnG C Y V.cm u V2) => same_g hf.toI h1 h2)
  obtain ⟨cvV, hcv⟩ : ∃ f : CV → Array Value, ∀ V1, cvals V1 C = f V1 := ⟨fun V1 => cvals V1 C, fun _ => rfl⟩
  have HOw : Hid (∀ u, Kp (fun _ => False) wz u → Calls Tryz.prog 12 #[.agg (cvals V C)] u fun e w' => ∃ V', e = .returned (.agg (cvV V')) ∧ OwnG C Y V.cm w' V' ∧ Kp (fun _ => False) u w') := Lib.hid (fun u hu => (HOw.out u hu).mono (by
    rintro e w' ⟨V', rfl, h1, h2⟩
    exact ⟨V', by rw [hcv], h1, h2⟩))
  simp only [hcv] at HP HQ
  unfold cvals at HFw HOw HZ HSm HA HB ⊢
  clear h hY hn ht hF hwz hf hy hM hcv hP1 hP2 hsA hsB
  go_enter Tryz.func4, Tryz.ntmps4
  go_upto_region 1 with fail
  rw [← HZ.out]
  clear HZ
  go_upto_region 3 with (go_at_call 10; with_reducible refine Calls.mono HFw.out ?_; rintro e w1 ⟨rfl, hK1⟩)
  have hC1 := HC0.out.kp hK1 (fun h => h)
  have HK1 := Lib.hid hK1
  clear d0 d1 d2 d3 d4 d5 d6 d7 d8
  obtain ⟨z0, z1, z2, z3, z4, z5, z6, z7, z8⟩ := Blk.cells9 hC1
  have HOw1 := Lib.hid (HOw.out w1 hK1)
  clear hC1 hK1 HFw
  go_upto_region 4 with (first
    | (go_at_call 12; with_reducible refine Calls.mono HOw1.out ?_; rintro e w2 ⟨V1, rfl, hV1, hK2⟩; have HK2 := Lib.hid (HK1.out.trans hK2 (fun _ _ h => h)); have HP2 := Lib.hid (HP.out w2 V1 HK2.out hV1); clear hK2 hV1)
    | (go_at_call 11; with_reducible refine Calls.mono HP2.out ?_; rintro e w3 ⟨rfl, hK3⟩; have HK3 := Lib.hid (HK2.out.trans hK3 (fun _ _ h => h)); clear hK3))
  clear z0 z1 z2 z3 z4 z5 z6 z7 z8 HOw1 HP2 HP
  have HOw3 := Lib.hid (HOw.out w3 HK3.out)
  obtain ⟨z0, z1, z2, z3, z4, z5, z6, z7, z8⟩ := Blk.cells9 (HC0.out.kp HK3.out (fun h => h))
  go_upto_region 5 with (first
    | (go_at_call 12; with_reducible refine Calls.mono HOw3.out ?_; rintro e w4 ⟨V2, rfl, hV2, hK4⟩; have HK4 := Lib.hid (HK3.out.trans hK4 (fun _ _ h => h)); have HQ4 := Lib.hid (HQ.out w4 V2 HK4.out hV2); clear hK4 hV2)
    | (go_at_call 11; with_reducible refine Calls.mono HQ4.out ?_; rintro e w5 ⟨rfl, hK5⟩; have HK5 := Lib.hid (HK4.out.trans hK5 (fun _ _ h => h)); clear hK5))
  clear z0 z1 z2 z3 z4 z5 z6 z7 z8 HOw3 HQ4 HQ HOw
  go_upto_region 7 with fail
  go_wp2_with fail
  refine (HA.out _).mono ?_
  rintro o w6 ⟨hK6, V3, a3, rfl, hG3⟩
  obtain ⟨w7, hw7⟩ : ∃ w7 : World, w7 = w6.alloc (.cells #[.int .i64 C.max, .slice V3.ai C.ins.length V3.ci, .slice V3.al C.lats.length V3.cl, .slice V3.ao C.outs.length V3.co, .slice V3.ab C.bads.length V3.cb, .slice V3.ac C.cons.length V3.cc, .slice V3.ag C.gates.length V3.cg, .slice V3.ay V3.ny V3.cy, .string V3.cm] 27) := ⟨_, rfl⟩
  have hka : Kp (fun _ => False) w6 w7 := by rw [hw7]; exact (Kp.refl _ w6).alloc _
  have HK7 := Lib.hid (HK5.out.trans (hK6.trans hka (fun _ _ h => h)) (fun _ _ h => h))
  obtain ⟨b3, hb3⟩ : ∃ b, w6.heap.size = b := ⟨_, rfl⟩
  have HB3 := Lib.hid (show Blk w7 b3 #[.int .i64 C.max, .slice V3.ai C.ins.length V3.ci, .slice V3.al C.lats.length V3.cl, .slice V3.ao C.outs.length V3.co, .slice V3.ab C.bads.length V3.cb, .slice V3.ac C.cons.length V3.cc, .slice V3.ag C.gates.length V3.cg, .slice V3.ay V3.ny V3.cy, .string V3.cm] 27 by rw [hw7, ← hb3]; exact Blk.new w6 _ _)
  have HG3 := Lib.hid (hG3.kp hka)
  clear hK6 hG3 hka HA
  go_upto_region 8 with fail
  rw [← hw7]
  clear hw7 hb3
  go_wp2_with fail
  refine (HB.out _).mono ?_
  rintro o w8 ⟨hK8, V4, a4, rfl, hG4⟩
  obtain ⟨w9, hw9⟩ : ∃ w9 : World, w9 = w8.alloc (.cells #[.int .i64 C.max, .slice V4.ai C.ins.length V4.ci, .slice V4.al C.lats.length V4.cl, .slice V4.ao C.outs.length V4.co, .slice V4.ab C.bads.length V4.cb, .slice V4.ac C.cons.length V4.cc, .slice V4.ag C.gates.length V4.cg, .slice V4.ay V4.ny V4.cy, .string V4.cm] 27) := ⟨_, rfl⟩
  have hka : Kp (fun _ => False) w8 w9 := by rw [hw9]; exact (Kp.refl _ w8).alloc _
  have hkb : Kp (fun _ => False) w7 w9 := hK8.trans hka (fun _ _ h => h)
  have HK9 := Lib.hid (HK7.out.trans hkb (fun _ _ h => h))
  obtain ⟨b4, hb4⟩ : ∃ b, w8.heap.size = b := ⟨_, rfl⟩
  have HB4 := Lib.hid (show Blk w9 b4 #[.int .i64 C.max, .slice V4.ai C.ins.length V4.ci, .slice V4.al C.lats.length V4.cl, .slice V4.ao C.outs.length V4.co, .slice V4.ab C.bads.length V4.cb, .slice V4.ac C.cons.length V4.cc, .slice V4.ag C.gates.length V4.cg, .slice V4.ay V4.ny V4.cy, .string V4.cm] 27 by rw [hw9, ← hb4]; exact Blk.new w8 _ _)
  have HB3' := Lib.hid (HB3.out.kp hkb (fun h => h))
  have HG4 := Lib.hid (hG4.kp hka)
  have HS1 := Lib.hid (HSm.out w9 V3 V4 (HG3.out.kp hkb) HG4.out)
  have HS2 := Lib.hid (fun u (hu : Kp (fun _ => False) w9 u) => HSm.out u V3 V ((HG3.out.kp hkb).kp hu) (HG0.out.kp (HK9.out.trans hu (fun _ _ h => h))))
  clear hK8 hG4 hka hkb HB HG3 HG4 HB3 HSm HG0
  go_upto_region 9 with fail
  rw [← hw9]
  clear hw9 hb4
  obtain ⟨x0, x1, x2, x3, x4, x5, x6, x7, x8⟩ := Blk.cells9 HB3'.out
  obtain ⟨y0, y1, y2, y3, y4, y5, y6, y7, y8⟩ := Blk.cells9 HB4.out
  go_wp2_with (first
    | (go_at_call 7; with_reducible refine Calls.mono HS1.out ?_; rintro e w10 ⟨rfl, hK10⟩; have HKa := Lib.hid (HK9.out.trans hK10 (fun _ _ h => h)); have HSa := Lib.hid (HS2.out w10 hK10); obtain ⟨z0, z1, z2, z3, z4, z5, z6, z7, z8⟩ := Blk.cells9 (HC0.out.kp HKa.out (fun h => h)); obtain ⟨x0, x1, x2, x3, x4, x5, x6, x7, x8⟩ := Blk.cells9 (HB3'.out.kp hK10 (fun h => h)); clear hK10 HS2 HS1)
    | (go_at_call 7; with_reducible refine Calls.mono HSa.out ?_; rintro e w11 ⟨rfl, hK11⟩; have HKb := Lib.hid (HKa.out.trans hK11 (fun _ _ h => h)); have HLvb := Lib.hid (lives_ok w11); clear hK11)
    | (go_at_call 9; with_reducible refine Calls.mono HLvb.out ?_; rintro e w12 ⟨rfl, hK12⟩; have HKc := Lib.hid ((HK0.out.trans HKb.out (fun _ _ h => h)).trans hK12 (fun _ _ h => h)); clear hK12))
  go_ret
  exact ⟨rfl, HKc.out⟩

theorem syms_of {w : World} {V : CV} (h : SymOK w V) : ∃ Y : List (Int × Int × ByteArray), RowAt w V.ay (Y.map symC).flatten ∧ Y.length = V.ny := by
  obtain ⟨rows, h1, h2, h3⟩ := h
  have key : ∀ rows : List (List Value), (∀ (k : Nat) (r : List Value), rows[k]? = some r → ∃ (a b : Int) (s : ByteArray), r = [.int .u8 a, .int .i64 b, .string s]) → ∃ Y : List (Int × Int × ByteArray), rows = Y.map symC := by
    intro rows
    induction rows with
    | nil => intro _; exact ⟨[], rfl⟩
    | cons r rest ih =>
      intro h
      obtain ⟨a, b, s, e⟩ := h 0 r rfl
      obtain ⟨Y, hY⟩ := ih (fun k r hr => h (k + 1) r (by simpa using hr))
      exact ⟨(a, b, s) :: Y, by rw [hY, e]; rfl⟩
  obtain ⟨Y, rfl⟩ := key rows h3
  exact ⟨Y, h1, by simpa using h2⟩

theorem aigerForms_walk (w : World) (v0 : Value) (hv0 : CircArgS w v0) (ht : Tab w) :
    Calls Tryz.prog 4 #[v0] w fun e w' => e = .returned (.bool true) ∧ Below w.heap.size w w' := by
  have fin : ∀ {e : Ending} {w' : World}, (e = .returned (.bool true) ∧ Kp (fun _ => False) w w') → (e = .returned (.bool true) ∧ Below w.heap.size w w') := fun ⟨h1, h2⟩ => ⟨h1, h2.below (Nat.le_refl _) (fun _ _ h => h)⟩
  obtain ⟨V, C, rfl, hC, -, hM, hs⟩ := hv0
  obtain ⟨Y, hY, hn⟩ := syms_of hs
  by_cases hF : FewP V C 30
  · by_cases hP : prtOk C Y false ∧ prtOk C Y true
    · exact (forms_ok V C Y w hC hY hn hM ht hF hP.1 hP.2).mono fun e w' h => fin h
    · exact (forms_bad V C Y w hC hY hn hM ht hF hP).mono fun e w' h => fin h
  · exact (forms_few V C w hF).mono fun e w' h => fin h

end Go.Proofs.YtckmdcmkjmpiaaaGreatDoor
