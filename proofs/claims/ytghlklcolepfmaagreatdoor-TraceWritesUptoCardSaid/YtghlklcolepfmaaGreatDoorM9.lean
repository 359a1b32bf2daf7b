/-
  trace.Read of a table that trace.Write wrote. (Printed by mktrrd.py out of trrd.body.)
-/
import Derived.Test.YtghlklcolepfmaaGreatDoorM8
import Derived.Test.YtghlklcolepfmaaGreatDoorM4
import Derived.Test.YtghlklcolepfmaaGreatDoorM1
import Derived.ArgAppend
import Derived.Test.YtghlklcolepfmaaGreatDoorM7
import Derived.Test.YtghlklcolepfmaaGreatDoorM2
import Derived.Test.YtghlklcolepfmaaGreatDoorM5
import Derived.Deep.CutBlock
set_option linter.unusedVariables false
set_option linter.unusedSimpArgs false
namespace Go.Proofs.YtghlklcolepfmaaGreatDoor
open Go.RowKit

def stR (C : Circ) (st : List Bool) (rows : List (List Bool)) (k : Nat) : List Bool := if k = 0 then [] else stateM C st rows k
def s0R (C : Circ) (st : List Bool) (k : Nat) : List Bool := if k = 0 then [] else brought st C.lats.length
def OwnGrid (w : World) (B : Nat) (v : Value) (k : Nat) (f : Nat → List Bool) : Prop :=
  ∃ vs : List Value, Own w B 28 v vs ∧ vs.length = k ∧ ∀ j, j < k → ∃ y, vs[j]? = some y ∧ Own w B 4 y (bv (f j))
theorem OwnGrid.kp {w w' : World} {B : Nat} {v : Value} {k : Nat} {f : Nat → List Bool} {S : Nat → Prop} (h : OwnGrid w B v k f) (hk : Kp S w w') (hS : ∀ j, S j → j < B ∨ w.heap.size ≤ j) : OwnGrid w' B v k f := by
 have ok : ∀ {e v cs}, Own w B e v cs → Own w' B e v cs := fun ho => ho.kp hk (fun j hj hs => by have := ho.lt j hj; rcases hS j hs with h | h <;> omega)
 obtain ⟨vs, h1, h2, h3⟩ := h
 refine ⟨vs, ok h1, h2, fun j hj => ?_⟩
 obtain ⟨x, hx, ho⟩ := h3 j hj
 exact ⟨x, hx, ok ho⟩

structure RD (w3 wr : World) (br B : Nat) (C : Circ) (st : List Bool) (rows : List (List Bool)) (k : Nat) (s9 : Value) : Prop where
  it : ∃ x0 x1, Blk wr br #[x0, x1] 31 ∧ Own wr B 4 x0 (bv (s0R C st k)) ∧ OwnGrid wr B x1 k (fun j => brought (rows[j]?.getD []) C.ins.length)
  now : Own wr B 4 s9 (bv (stR C st rows k))
  kp : Kp (fun j => j = br ∨ B ≤ j) w3 wr

theorem Own.blkT {w : World} {B : Nat} {e : TypeId} {v : Value} {cs : List Value} (h : Own w B e v cs) {j : Nat} (hj : v.ownBlock = some j) : ∃ cur, Blk w j cur e := by
 rcases h.2 with ⟨rfl, _⟩ | ⟨g, cap, cur, rfl, _, hg, _⟩
 ·cases hj
 ·have e2 : g = j := by simpa [Value.ownBlock] using hj
  subst e2
  exact ⟨cur, hg⟩
theorem own_other {w w' : World} {B : Nat} {e e' : TypeId} {v x : Value} {cs ds : List Value} {o : Obj} (hv : Own w B e v cs) (hx : Own w B e' x ds) (hne : e ≠ e') (hg : (w.alloc o).grownBy w' v.ownBlock) : Own w' B e' x ds := by
 have hk : Kp (fun j => v.ownBlock = some j) w w' := ((Kp.refl _ w).alloc o).grown hg (fun k hk _ => hk)
 refine hx.kp hk (fun j hj hs => ?_)
 obtain ⟨c1, h1⟩ := hv.blkT hs
 obtain ⟨c2, h2⟩ := hx.blkT hj
 unfold Blk at h1 h2
 rw [h1] at h2
 simp at h2
 exact hne h2.2
theorem trcL_brought (C : Circ) (k : Nat) (st ip : List Bool) : trcL C k st (brought ip C.ins.length) = trcL C k st ip := by unfold trcL; rw [trcW_brought]
theorem trcB_six (C : Circ) (k : Nat) (st ip : List Bool) : wordsB ⟨(trcL C k st ip).toArray⟩ = (trcW C k st ip).map (fun l => (⟨l.toArray⟩ : ByteArray)) := by
 unfold wordsB mkW
 rw [show (⟨(trcL C k st ip).toArray⟩ : ByteArray).data.toList = trcL C k st ip from rfl, trcL_words]

set_option maxRecDepth 100000 in
set_option maxHeartbeats 16000000 in
theorem trace_Read (V : CV) (C : Circ) (st : List Bool) (rows : List (List Bool)) (gn : Nat) (s : ByteArray) (w : World) (h : CAt w V C) (hf : CFew C 1000) (hy : V.ny ≤ 1000000) (hg : GoodC C) (hgn : gn ≤ 1000) (hs : s = ⟨(trcB C st rows gn).toArray⟩) (ht : Tab w) (hm : ∃ m, w.cell? ⟨0, 0, none⟩ = some (.int .i64 m)) :
  Calls Tryz.prog 15 #[.agg (cvals V C), .string s] w fun e w' => ∃ x0 x1, e = .returned (.tuple #[.agg #[x0, x1], .int .i64 0, .int .i64 0]) ∧ Own w' w.heap.size 4 x0 (bv (s0R C st gn)) ∧ OwnGrid w' w.heap.size x1 gn (fun j => brought (rows[j]?.getD []) C.ins.length) ∧ Kp (fun _ => False) w w' := by
 obtain ⟨wz, hwz⟩ : ∃ wz : World, wz = (w.alloc (.cells (cvals V C) 27)).alloc (.cells #[.slice none 0 0, .slice none 0 0] 31) := ⟨_, rfl⟩
 have HK0 := Lib.hid (show Kp (fun _ => False) w wz by rw [hwz]; exact ((Kp.refl _ w).alloc _).alloc _)
 have HC0 := Lib.hid (show Blk wz w.heap.size #[.int .i64 C.max, .slice V.ai C.ins.length V.ci, .slice V.al C.lats.length V.cl, .slice V.ao C.outs.length V.co, .slice V.ab C.bads.length V.cb, .slice V.ac C.cons.length V.cc, .slice V.ag C.gates.length V.cg, .slice V.ay V.ny V.cy, .string V.cm] 27 by rw [hwz]; exact (Blk.new w (cvals V C) _).alloc _)
 have HR0 := Lib.hid (show Blk wz (w.heap.size + 1) #[.slice none 0 0, .slice none 0 0] 31 by rw [hwz]; exact two_blk _ _ _ _ _)
 obtain ⟨d0, d1, d2, d3, d4, d5, d6, d7, d8⟩ := Blk.cells9 HC0.out
 have HZ := Lib.hid hwz
 have HF := Lib.hid hf
 have HG := Lib.hid hg
 have HA0 := Lib.hid (h.kp HK0.out)
 have HTt := Lib.hid (ht.kp HK0.out)
 have HOf := Lib.hid (trace_of V C wz (h.kp HK0.out) (hf.big (by decide)) hy hg)
 obtain ⟨m, hm⟩ := hm
 have HMl := Lib.hid (HK0.out.cellK hm)
 unfold cvals at HOf HZ ⊢
 have HSs := Lib.hid hs
 have hsz : s.size = (trcB C st rows gn).length := by rw [hs]; exact ba_list _
 have HLen := Lib.hid (fun k (hk : k ≤ gn) => trcB_len (st := st) (rows := rows) hf k (by omega))
 have HSz := Lib.hid hsz
 obtain ⟨nl, hnl⟩ : ∃ n, C.lats.length = n := ⟨_, rfl⟩
 obtain ⟨ni, hni⟩ : ∃ n, C.ins.length = n := ⟨_, rfl⟩
 have HNl := Lib.hid hnl
 have HNi := Lib.hid hni
 have hnl1 : nl ≤ 1000 := by rw [← hnl]; exact hf.l
 have hni1 : ni ≤ 1000 := by rw [← hni]; exact hf.i
 clear h hf hg hwz ht hy hm hs hsz hnl hni
 go_enter Tryz.func15, Tryz.ntmps15
 go_upto_region 1 with fail
 rw [← HZ.out]
 clear HZ
 go_upto_region 2 with (go_at_call 19; with_reducible refine Calls.mono HOf.out ?_; rintro e w1 ⟨p, b4, m4, b5, m5, rfl, hT, hK1⟩; have HT1 := Lib.hid hT; have HK1 := Lib.hid hK1; clear hT hK1; unfold tvals)
 clear d0 d1 d2 d3 d4 d5 d6 d7 d8 HOf
 obtain ⟨w2, hw2⟩ : ∃ w2 : World, w2 = w1.alloc (.cells (tvals V C p b4 m4 b5 m5) 54) := ⟨_, rfl⟩
 have HB2 := Lib.hid (show Blk w2 w1.heap.size (tvals V C p b4 m4 b5 m5) 54 by rw [hw2]; exact Blk.new _ _ _)
 have HK2 := Lib.hid (show Kp (fun _ => False) w1 w2 by rw [hw2]; exact (Kp.refl _ _).alloc _)
 unfold tvals at HB2
 unfold tvals at hw2
 rw [← hw2]
 clear hw2
 obtain ⟨bt, hbt⟩ : ∃ b, w1.heap.size = b := ⟨_, rfl⟩
 rw [hbt] at HB2 ⊢
 clear hbt
 go_upto_region 3 with fail
 obtain ⟨w3, hw3⟩ : ∃ w3 : World, w3 = w2.alloc (.cells #[.slice none 0 0, .slice none 0 0] 31) := ⟨_, rfl⟩
 have HBr := Lib.hid (show Blk w3 w2.heap.size #[.slice none 0 0, .slice none 0 0] 31 by rw [hw3]; exact Blk.new _ _ _)
 have HK3 := Lib.hid (show Kp (fun _ => False) w2 w3 by rw [hw3]; exact (Kp.refl _ _).alloc _)
 have HS3 := Lib.hid (show w3.heap.size = w2.heap.size + 1 by rw [hw3]; simp)
 rw [← hw3]
 clear hw3
 obtain ⟨br, hbr⟩ : ∃ b, w2.heap.size = b := ⟨_, rfl⟩
 rw [hbr] at HBr HS3 ⊢
 have HBrs := Lib.hid hbr
 clear hbr
 obtain ⟨B, hB⟩ : ∃ b, w3.heap.size = b := ⟨_, rfl⟩
 have HB := Lib.hid hB
 rw [hB] at HS3
 clear hB
 go_wp2_with fail
 go_loopw [9, 10, 11] (fun v9 v10 v11 wr => ∃ k : Nat, v11 = .int .i64 k ∧ k ≤ gn ∧ v10 = .int .i64 ((trcB C st rows k).length : Nat) ∧ RD w3 wr br B C st rows k v9) (fun _ _ v11 _ => gn - (intOf v11).toNat)
 case atStart => exact ⟨0, rfl, Nat.zero_le _, rfl, ⟨⟨_, _, HBr.out, Own.nil _ _ _, [], Own.nil _ _ _, rfl, fun j hj => by omega⟩, Own.nil _ _ _, Kp.refl _ _⟩⟩
 case round =>
  obtain ⟨k, rfl, hk, rfl, hD⟩ := hrel
  obtain ⟨wp, rfl⟩ : ∃ wp : World, wp = wr := ⟨_, rfl⟩
  have HD := Lib.hid hD
  have HK2p := Lib.hid (show Kp (fun _ => False) w2 wp from HK3.out.trans hD.kp (fun j hj e => by have := HBrs.out; have := HS3.out; rcases e with e | e <;> omega))
  have HKzp := Lib.hid (HK1.out.trans (HK2.out.trans HK2p.out (fun _ _ h => h)) (fun _ _ h => h))
  have HBw := Lib.hid (show B ≤ wp.heap.size by have := hD.kp.size; have := HB.out; omega)
  clear hD
  by_cases hlt : k < gn
  ·obtain ⟨r, hr⟩ := trcB_from C st rows (k := k) (n := gn) hlt
   have hsk := trcB_succ C st rows k
   have hlk := HLen.out k hk
   have h6 : 6001 * k ≤ 6001 * 1000 := Nat.mul_le_mul_left _ (by omega)
   have h6g : 6001 * gn ≤ 6001 * 1000 := Nat.mul_le_mul_left _ (by omega)
   have hlg := HLen.out gn (Nat.le_refl _)
   have hsz := HSz.out
   have hln := trcL_len (k := k) (st := stateM C st rows k) (ip := rows[k]?.getD []) HF.out (by omega) (by rw [stateM_len]; exact HF.out.l)
   have hne := trcL_ne C k (stateM C st rows k) (rows[k]?.getD [])
   have hdrop : s.data.toList.drop (trcB C st rows k).length = trcL C k (stateM C st rows k) (rows[k]?.getD []) ++ 10 :: r := by
    rw [HSs.out]
    show (trcB C st rows gn).drop _ = _
    rw [hr, List.drop_left]
   have hlen1 := congrArg List.length hr
   rw [List.length_append, List.length_append, List.length_cons] at hlen1
   have hLt := lineT_text (s := s) (p := (trcB C st rows k).length) (by omega) hne hdrop
   have hnx : (trcB C st rows (k + 1)).length = (trcB C st rows k).length + (trcL C k (stateM C st rows k) (rows[k]?.getD [])).length + 1 := by rw [hsk, List.length_append, List.length_append, List.length_singleton]; omega
   have hLine := octet_Line s ((trcB C st rows k).length : Nat) wp (by omega)
   rw [hLt, ← hnx] at hLine
   unfold lineV at hLine
   have hWords := octet_Words ⟨(trcL C k (stateM C st rows k) (rows[k]?.getD [])).toArray⟩ m wp (by rw [ba_list]; omega) (HKzp.out.cellK HMl.out)
   rw [trcB_six] at hWords
   have hsl : (stateM C st rows k).length = nl := by rw [stateM_len, HNl.out]
   have hbl : (brought (rows[k]?.getD []) C.ins.length).length = ni := by rw [brought_len, HNi.out]
   obtain ⟨sK_, hsK⟩ : ∃ l, stateM C st rows k = l := ⟨_, rfl⟩
   obtain ⟨rK_, hrK⟩ : ∃ l, rows[k]?.getD [] = l := ⟨_, rfl⟩
   obtain ⟨iK_, hiK⟩ : ∃ l, brought (rows[k]?.getD []) C.ins.length = l := ⟨_, rfl⟩
   have hiK2 : brought rK_ C.ins.length = iK_ := by rw [← hrK]; exact hiK
   rw [hsK] at hsl
   rw [hiK] at hbl
   have hLB := trcL_brought C k sK_ rK_
   rw [hiK2] at hLB
   rw [hsK, hrK] at hLine hWords
   obtain ⟨L6, hL6⟩ : ∃ l, (trcW C k sK_ rK_).map (fun l => (⟨l.toArray⟩ : ByteArray)) = l := ⟨_, rfl⟩
   have hL6n : (strs L6).length = 6 := by rw [← hL6]; unfold strs trcW; simp
   obtain ⟨W1, hW1⟩ : ∃ s : ByteArray, s = ⟨(115 :: 61 :: signs sK_).toArray⟩ := ⟨_, rfl⟩
   obtain ⟨W2, hW2⟩ : ∃ s : ByteArray, s = ⟨(105 :: 61 :: signs iK_).toArray⟩ := ⟨_, rfl⟩
   have hL61 : L6[1]? = some W1 := by rw [← hL6, hW1]; rfl
   have hL62 : L6[2]? = some W2 := by rw [← hL6, hW2, ← hiK2]; rfl
   rw [hL6] at hWords
   obtain ⟨LN, hLN⟩ : ∃ s : ByteArray, (⟨(trcL C k sK_ rK_).toArray⟩ : ByteArray) = s := ⟨_, rfl⟩
   rw [hLN] at hLine hWords
   obtain ⟨at2, hat2⟩ : ∃ n, (trcB C st rows (k + 1)).length = n := ⟨_, rfl⟩
   rw [hat2] at hLine
   obtain ⟨at1, hat1⟩ : ∃ n, (trcB C st rows k).length = n := ⟨_, rfl⟩
   rw [hat1] at hLine ⊢
   have hlt1 : at1 < s.size := by rw [← hat1]; omega
   have HSl := Lib.hid hsl
   have HBl := Lib.hid hbl
   have HLB := Lib.hid hLB
   have HSK := Lib.hid hsK
   have HRK := Lib.hid hrK
   have HIK := Lib.hid hiK
   have HL1 := Lib.hid hL61
   have HL2 := Lib.hid hL62
   have HLN := Lib.hid hLN
   have HAt := Lib.hid hat2
   have HLine := Lib.hid hLine
   have HWords := Lib.hid hWords
   have HS_L := Lib.hid (show sK_.length ≤ 100000 by omega)
   have HI_L := Lib.hid (show iK_.length ≤ 100000 by omega)
   have HS_E := Lib.hid hW1
   have HI_E := Lib.hid hW2
   have zL : LN.size ≤ 6000 := by rw [← hLN, ba_list, ← hsK, ← hrK]; exact hln
   clear hr hsk hlk h6 h6g hlg hsz hln hne hdrop hlen1 hLt hnx hLine hWords hsl hbl hsK hrK hiK hiK2 hLB hL6 hW1 hW2 hL61 hL62 hLN hat2 hat1
   go_upto_if 47 with (first
    |(go_at_call 37; with_reducible refine Calls.mono HLine.out ?_; rintro e wl ⟨rfl, rfl⟩)
    |(go_at_call 38; with_reducible refine Calls.mono HWords.out ?_; rintro e wa ⟨v, rfl, hO, hKa⟩; obtain ⟨gw, cw, ev, -, -⟩ := hO.leads (by rw [hL6n]; omega); rw [hL6n] at ev; subst ev; have HOw := Lib.hid hO; have HKa := Lib.hid hKa; clear hO hKa))
   have HKwa := Lib.hid (HKzp.out.trans HKa.out (fun _ _ h => h))
   have HK2a := Lib.hid (HK2p.out.trans HKa.out (fun _ _ h => h))
   obtain ⟨⟨x0, x1, hbr0, hx0, hx1⟩, hnow, hkp⟩ := HD.out
   have HBra := Lib.hid (hbr0.kp HKa.out (fun h => h))
   have HX0 := Lib.hid (hx0.kp HKa.out (fun _ _ h => h))
   have HX1 := Lib.hid (hx1.kp HKa.out (fun _ h => h.elim))
   have HNw := Lib.hid (hnow.kp HKa.out (fun _ _ h => h))
   have HKp := Lib.hid (hkp.trans HKa.out (fun _ _ h => h.elim))
   have HBa := Lib.hid (show B ≤ wa.heap.size by have := HBw.out; have := HKa.out.size; omega)
   have HGw := Lib.hid (show br < gw ∧ gw < wa.heap.size by have h1 := HOw.out.lt gw rfl; have := HBw.out; have := HS3.out; omega)
   clear hbr0 hx0 hx1 hnow hkp
   go_cut [9] from 48 to 58 (fun s9 wx => ∃ y0, Blk wx br #[y0, x1] 31 ∧ Own wx B 4 y0 (bv (brought st nl)) ∧ OwnGrid wx B x1 k (fun j => brought (rows[j]?.getD []) C.ins.length) ∧ Own wx B 4 s9 (bv sK_) ∧ Kp (fun j => j = br) wa wx)
   case first =>
    by_cases hk0 : k = 0
    ·subst hk0
     have HSt := Lib.hid (show brought st nl = sK_ by rw [← HSK.out, ← HNl.out]; rfl)
     have HTb := Lib.hid (HB2.out.kp HK2a.out (fun h => h))
     have HWk := Lib.hid (fun u (hu : Kp (fun _ => False) wa u) i x (hx : L6[i]? = some x) => (HOw.out.kp hu (fun _ _ h => h)).cell (j := i) (u := .string x) (by unfold strs; rw [List.getElem?_map, hx]; rfl))
     obtain ⟨Vm, am4, cm4, am5, cm5, hM⟩ := (HT1.out.kp (HK2.out.trans HK2a.out (fun _ _ h => h))).mach
     have HLatches := Lib.hid (fun u (hu : Kp (fun _ => False) wa u) => show Calls Tryz.prog 41 #[.pointer (some ⟨p, 0, none⟩)] u fun e w' => e = .returned (.int .i64 (nl : Int)) ∧ u = w' from by
      have h := step_Latches Vm C p am4 am5 cm4 cm5 u (hM.kp hu) (HF.out.big (by decide))
      rw [HNl.out] at h
      exact h)
     have HBw := HBa
     clear hM
     go_upto_region 14 with fail
     refine wp_region_loose (p := upTo 8) (V := atV [EqV (.slice (some ⟨gw, 0, none⟩) 6 cw), EqV (.pointer (some ⟨gw, 1, none⟩)), EqV (.string W1), (fun u v => Own u B 4 v (bv (sK_))), EqV (.pointer (some ⟨bt, 9, none⟩)), EqV (.pointer (some ⟨p, 0, none⟩)), EqV (.int .i64 (nl : Int)), (fun u v => Own u B 4 v (bv (brought (sK_) nl)))]) (LP := #[true, true, true, true, true, true, true, true, false]) (K := 1) (by kernel_rfl) (by kernel_rfl) (atV_st ?hstR14) ?hstepR14 (by kernel_rfl) ?hLPR14 (by kernel_rfl) ?hendR14
     case hstR14 =>
      intro W h
      simp only [List.mem_cons, List.not_mem_nil, or_false] at h
      rcases h with rfl | rfl | rfl | rfl | rfl | rfl | rfl | rfl <;> first | exact EqV.st _ | exact fun _ _ _ k h => Own.kp h k (fun _ _ h => h)
     case hLPR14 => exact upTo_spec (by kernel_rfl)
     case hstepR14 =>
      intro i o ho hp a u hk hoff hdep
      have e7 : a.tmps[7]?.getD undef = (.pointer (some ⟨bt, 0, none⟩)) := slot_at (hoff 7 (noDst_spec (by kernel_rfl)))
      have e15 : a.tmps[15]?.getD undef = (.slice (some ⟨gw, 0, none⟩) 6 cw) := slot_at (hoff 15 (noDst_spec (by kernel_rfl)))
      clear hoff
      match i, ho with
      |0, ho =>
       obtain rfl := Option.some.inj ho
       refine lw_value (v := .slice (some ⟨gw, 0, none⟩) 6 cw) (u' := u) ?_ (Kp.refl _ _) rfl
       go_simp
      |1, ho =>
       obtain rfl := Option.some.inj ho
       have e48 : a.tmps[48]?.getD undef = .slice (some ⟨gw, 0, none⟩) 6 cw := slot_at (hdep ⟨0, .data⟩ (by simp) rfl _ 48 rfl rfl)
       refine lw_value (v := .pointer (some ⟨gw, 1, none⟩)) (u' := u) ?_ (Kp.refl _ _) rfl
       go_simp
      |2, ho =>
       obtain rfl := Option.some.inj ho
       have e49 : a.tmps[49]?.getD undef = .pointer (some ⟨gw, 1, none⟩) := slot_at (hdep ⟨1, .data⟩ (by simp) rfl _ 49 rfl rfl)
       have c1 := HWk.out u hk 1 _ HL1.out
       refine lw_value (v := .string W1) (u' := u) ?_ (Kp.refl _ _) rfl
       go_simp
      |3, ho =>
       obtain rfl := Option.some.inj ho
       have e50 : a.tmps[50]?.getD undef = .string W1 := slot_at (hdep ⟨2, .data⟩ (by simp) rfl _ 50 rfl rfl)
       refine lw_call (f := 40) (args := #[.string W1, .string ⟨#[115, 61]⟩]) ?_ ?_
       ·go_simp
       ·exact (trace_values 115 (sK_) W1 ⟨#[115, 61]⟩ u HS_L.out HS_E.out rfl).mono (by
         rintro e u' ⟨v, rfl, hO, hK⟩
         exact ⟨v, rfl, hK, hO.mono (by have := hk.size; have := HBw.out; omega)⟩)
      |4, ho =>
       obtain rfl := Option.some.inj ho
       refine lw_value (v := .pointer (some ⟨bt, 9, none⟩)) (u' := u) ?_ (Kp.refl _ _) rfl
       go_simp
      |5, ho =>
       obtain rfl := Option.some.inj ho
       have e52 : a.tmps[52]?.getD undef = .pointer (some ⟨bt, 9, none⟩) := slot_at (hdep ⟨4, .data⟩ (by simp) rfl _ 52 rfl rfl)
       have c1 := (HTb.out.kp hk (fun h => h)).cell (i := 9) (v := .pointer (some ⟨p, 0, none⟩)) rfl
       refine lw_value (v := .pointer (some ⟨p, 0, none⟩)) (u' := u) ?_ (Kp.refl _ _) rfl
       go_simp
      |6, ho =>
       obtain rfl := Option.some.inj ho
       have e53 : a.tmps[53]?.getD undef = .pointer (some ⟨p, 0, none⟩) := slot_at (hdep ⟨5, .data⟩ (by simp) rfl _ 53 rfl rfl)
       refine lw_call (f := 41) (args := #[.pointer (some ⟨p, 0, none⟩)]) ?_ ?_
       ·go_simp
       ·exact (HLatches.out u hk).mono (by
         rintro e u' ⟨rfl, rfl⟩
         exact ⟨_, rfl, Kp.refl _ _, rfl⟩)
      |7, ho =>
       obtain rfl := Option.some.inj ho
       have e54 : a.tmps[54]?.getD undef = .int .i64 (nl : Int) := slot_at (hdep ⟨6, .data⟩ (by simp) rfl _ 54 rfl rfl)
       have hV : Own u B 4 (a.tmps.getD 51 undef) (bv (sK_)) := hdep ⟨3, .data⟩ (by simp) rfl _ 51 rfl rfl
       obtain ⟨va, vc, ev, -, -, -, hvr⟩ := hV.form
       rw [bv_length] at ev
       obtain ⟨vn, hvl⟩ : ∃ n, (sK_).length = n := ⟨_, rfl⟩
       have hvm : vn ≤ 100000 := by rw [← hvl]; exact HS_L.out
       rw [hvl] at ev
       have e51 := slot_at ev
       clear ev
       refine lw_call (f := 39) (args := #[.slice va vn vc, .int .i64 (nl : Int)]) ?_ ?_
       ·go_simp
       ·exact (trace_brought va vn vc (sK_) nl u hvr hvl (by omega) (by omega)).mono (by
         rintro e u' ⟨v, rfl, hO, hK⟩
         exact ⟨v, rfl, hK, hO.mono (by have := hk.size; have := HBw.out; omega)⟩)
      |n + 8, _ => exact absurd hp (by simp [upTo])
     case hendR14 =>
      intro a u hI
      have hsz : a.tmps.size = 90 := hI.size
      have hdf : a.defers = [] := hI.defers
      have f0 : a.tmps.getD 0 undef = _ := hI.off 0 (noDst_spec (p := upTo 8) (by kernel_rfl))
      have f1 : a.tmps.getD 1 undef = _ := hI.off 1 (noDst_spec (p := upTo 8) (by kernel_rfl))
      have f2 : a.tmps.getD 2 undef = _ := hI.off 2 (noDst_spec (p := upTo 8) (by kernel_rfl))
      have f3 : a.tmps.getD 3 undef = _ := hI.off 3 (noDst_spec (p := upTo 8) (by kernel_rfl))
      have f4 : a.tmps.getD 4 undef = _ := hI.off 4 (noDst_spec (p := upTo 8) (by kernel_rfl))
      have f5 : a.tmps.getD 5 undef = _ := hI.off 5 (noDst_spec (p := upTo 8) (by kernel_rfl))
      have f6 : a.tmps.getD 6 undef = _ := hI.off 6 (noDst_spec (p := upTo 8) (by kernel_rfl))
      have f7 : a.tmps.getD 7 undef = _ := hI.off 7 (noDst_spec (p := upTo 8) (by kernel_rfl))
      have f8 : a.tmps.getD 8 undef = _ := hI.off 8 (noDst_spec (p := upTo 8) (by kernel_rfl))
      have f9 : a.tmps.getD 9 undef = _ := hI.off 9 (noDst_spec (p := upTo 8) (by kernel_rfl))
      have f10 : a.tmps.getD 10 undef = _ := hI.off 10 (noDst_spec (p := upTo 8) (by kernel_rfl))
      have f11 : a.tmps.getD 11 undef = _ := hI.off 11 (noDst_spec (p := upTo 8) (by kernel_rfl))
      have f12 : a.tmps.getD 12 undef = _ := hI.off 12 (noDst_spec (p := upTo 8) (by kernel_rfl))
      have f13 : a.tmps.getD 13 undef = _ := hI.off 13 (noDst_spec (p := upTo 8) (by kernel_rfl))
      have f14 : a.tmps.getD 14 undef = _ := hI.off 14 (noDst_spec (p := upTo 8) (by kernel_rfl))
      have f15 : a.tmps.getD 15 undef = _ := hI.off 15 (noDst_spec (p := upTo 8) (by kernel_rfl))
      have f16 : a.tmps.getD 16 undef = _ := hI.off 16 (noDst_spec (p := upTo 8) (by kernel_rfl))
      have f17 : a.tmps.getD 17 undef = _ := hI.off 17 (noDst_spec (p := upTo 8) (by kernel_rfl))
      have f18 : a.tmps.getD 18 undef = _ := hI.off 18 (noDst_spec (p := upTo 8) (by kernel_rfl))
      have f19 : a.tmps.getD 19 undef = _ := hI.off 19 (noDst_spec (p := upTo 8) (by kernel_rfl))
      have f20 : a.tmps.getD 20 undef = _ := hI.off 20 (noDst_spec (p := upTo 8) (by kernel_rfl))
      have f21 : a.tmps.getD 21 undef = _ := hI.off 21 (noDst_spec (p := upTo 8) (by kernel_rfl))
      have f22 : a.tmps.getD 22 undef = _ := hI.off 22 (noDst_spec (p := upTo 8) (by kernel_rfl))
      have f23 : a.tmps.getD 23 undef = _ := hI.off 23 (noDst_spec (p := upTo 8) (by kernel_rfl))
      have f24 : a.tmps.getD 24 undef = _ := hI.off 24 (noDst_spec (p := upTo 8) (by kernel_rfl))
      have f25 : a.tmps.getD 25 undef = _ := hI.off 25 (noDst_spec (p := upTo 8) (by kernel_rfl))
      have f26 : a.tmps.getD 26 undef = _ := hI.off 26 (noDst_spec (p := upTo 8) (by kernel_rfl))
      have f27 : a.tmps.getD 27 undef = _ := hI.off 27 (noDst_spec (p := upTo 8) (by kernel_rfl))
      have f28 : a.tmps.getD 28 undef = _ := hI.off 28 (noDst_spec (p := upTo 8) (by kernel_rfl))
      have f29 : a.tmps.getD 29 undef = _ := hI.off 29 (noDst_spec (p := upTo 8) (by kernel_rfl))
      have f30 : a.tmps.getD 30 undef = _ := hI.off 30 (noDst_spec (p := upTo 8) (by kernel_rfl))
      have f31 : a.tmps.getD 31 undef = _ := hI.off 31 (noDst_spec (p := upTo 8) (by kernel_rfl))
      have f32 : a.tmps.getD 32 undef = _ := hI.off 32 (noDst_spec (p := upTo 8) (by kernel_rfl))
      have f33 : a.tmps.getD 33 undef = _ := hI.off 33 (noDst_spec (p := upTo 8) (by kernel_rfl))
      have f34 : a.tmps.getD 34 undef = _ := hI.off 34 (noDst_spec (p := upTo 8) (by kernel_rfl))
      have f35 : a.tmps.getD 35 undef = _ := hI.off 35 (noDst_spec (p := upTo 8) (by kernel_rfl))
      have f36 : a.tmps.getD 36 undef = _ := hI.off 36 (noDst_spec (p := upTo 8) (by kernel_rfl))
      have f37 : a.tmps.getD 37 undef = _ := hI.off 37 (noDst_spec (p := upTo 8) (by kernel_rfl))
      have f38 : a.tmps.getD 38 undef = _ := hI.off 38 (noDst_spec (p := upTo 8) (by kernel_rfl))
      have f39 : a.tmps.getD 39 undef = _ := hI.off 39 (noDst_spec (p := upTo 8) (by kernel_rfl))
      have f40 : a.tmps.getD 40 undef = _ := hI.off 40 (noDst_spec (p := upTo 8) (by kernel_rfl))
      have f41 : a.tmps.getD 41 undef = _ := hI.off 41 (noDst_spec (p := upTo 8) (by kernel_rfl))
      have f42 : a.tmps.getD 42 undef = _ := hI.off 42 (noDst_spec (p := upTo 8) (by kernel_rfl))
      have f43 : a.tmps.getD 43 undef = _ := hI.off 43 (noDst_spec (p := upTo 8) (by kernel_rfl))
      have f44 : a.tmps.getD 44 undef = _ := hI.off 44 (noDst_spec (p := upTo 8) (by kernel_rfl))
      have f45 : a.tmps.getD 45 undef = _ := hI.off 45 (noDst_spec (p := upTo 8) (by kernel_rfl))
      have f46 : a.tmps.getD 46 undef = _ := hI.off 46 (noDst_spec (p := upTo 8) (by kernel_rfl))
      have f47 : a.tmps.getD 47 undef = _ := hI.off 47 (noDst_spec (p := upTo 8) (by kernel_rfl))
      have f56 : a.tmps.getD 56 undef = _ := hI.off 56 (noDst_spec (p := upTo 8) (by kernel_rfl))
      have f57 : a.tmps.getD 57 undef = _ := hI.off 57 (noDst_spec (p := upTo 8) (by kernel_rfl))
      have f58 : a.tmps.getD 58 undef = _ := hI.off 58 (noDst_spec (p := upTo 8) (by kernel_rfl))
      have f59 : a.tmps.getD 59 undef = _ := hI.off 59 (noDst_spec (p := upTo 8) (by kernel_rfl))
      have f60 : a.tmps.getD 60 undef = _ := hI.off 60 (noDst_spec (p := upTo 8) (by kernel_rfl))
      have f61 : a.tmps.getD 61 undef = _ := hI.off 61 (noDst_spec (p := upTo 8) (by kernel_rfl))
      have f62 : a.tmps.getD 62 undef = _ := hI.off 62 (noDst_spec (p := upTo 8) (by kernel_rfl))
      have f63 : a.tmps.getD 63 undef = _ := hI.off 63 (noDst_spec (p := upTo 8) (by kernel_rfl))
      have f64 : a.tmps.getD 64 undef = _ := hI.off 64 (noDst_spec (p := upTo 8) (by kernel_rfl))
      have f65 : a.tmps.getD 65 undef = _ := hI.off 65 (noDst_spec (p := upTo 8) (by kernel_rfl))
      have f66 : a.tmps.getD 66 undef = _ := hI.off 66 (noDst_spec (p := upTo 8) (by kernel_rfl))
      have f67 : a.tmps.getD 67 undef = _ := hI.off 67 (noDst_spec (p := upTo 8) (by kernel_rfl))
      have f68 : a.tmps.getD 68 undef = _ := hI.off 68 (noDst_spec (p := upTo 8) (by kernel_rfl))
      have f69 : a.tmps.getD 69 undef = _ := hI.off 69 (noDst_spec (p := upTo 8) (by kernel_rfl))
      have f70 : a.tmps.getD 70 undef = _ := hI.off 70 (noDst_spec (p := upTo 8) (by kernel_rfl))
      have f71 : a.tmps.getD 71 undef = _ := hI.off 71 (noDst_spec (p := upTo 8) (by kernel_rfl))
      have f72 : a.tmps.getD 72 undef = _ := hI.off 72 (noDst_spec (p := upTo 8) (by kernel_rfl))
      have f73 : a.tmps.getD 73 undef = _ := hI.off 73 (noDst_spec (p := upTo 8) (by kernel_rfl))
      have f74 : a.tmps.getD 74 undef = _ := hI.off 74 (noDst_spec (p := upTo 8) (by kernel_rfl))
      have f75 : a.tmps.getD 75 undef = _ := hI.off 75 (noDst_spec (p := upTo 8) (by kernel_rfl))
      have f76 : a.tmps.getD 76 undef = _ := hI.off 76 (noDst_spec (p := upTo 8) (by kernel_rfl))
      have f77 : a.tmps.getD 77 undef = _ := hI.off 77 (noDst_spec (p := upTo 8) (by kernel_rfl))
      have f78 : a.tmps.getD 78 undef = _ := hI.off 78 (noDst_spec (p := upTo 8) (by kernel_rfl))
      have f79 : a.tmps.getD 79 undef = _ := hI.off 79 (noDst_spec (p := upTo 8) (by kernel_rfl))
      have f80 : a.tmps.getD 80 undef = _ := hI.off 80 (noDst_spec (p := upTo 8) (by kernel_rfl))
      have f81 : a.tmps.getD 81 undef = _ := hI.off 81 (noDst_spec (p := upTo 8) (by kernel_rfl))
      have f82 : a.tmps.getD 82 undef = _ := hI.off 82 (noDst_spec (p := upTo 8) (by kernel_rfl))
      have f83 : a.tmps.getD 83 undef = _ := hI.off 83 (noDst_spec (p := upTo 8) (by kernel_rfl))
      have f84 : a.tmps.getD 84 undef = _ := hI.off 84 (noDst_spec (p := upTo 8) (by kernel_rfl))
      have f85 : a.tmps.getD 85 undef = _ := hI.off 85 (noDst_spec (p := upTo 8) (by kernel_rfl))
      have f86 : a.tmps.getD 86 undef = _ := hI.off 86 (noDst_spec (p := upTo 8) (by kernel_rfl))
      have f87 : a.tmps.getD 87 undef = _ := hI.off 87 (noDst_spec (p := upTo 8) (by kernel_rfl))
      have f88 : a.tmps.getD 88 undef = _ := hI.off 88 (noDst_spec (p := upTo 8) (by kernel_rfl))
      have f89 : a.tmps.getD 89 undef = _ := hI.off 89 (noDst_spec (p := upTo 8) (by kernel_rfl))
      have f48 : a.tmps.getD 48 undef = .slice (some ⟨gw, 0, none⟩) 6 cw := hI.val 0 _ 48 rfl rfl rfl
      have f49 : a.tmps.getD 49 undef = .pointer (some ⟨gw, 1, none⟩) := hI.val 1 _ 49 rfl rfl rfl
      have f50 : a.tmps.getD 50 undef = .string W1 := hI.val 2 _ 50 rfl rfl rfl
      have g51 : ((fun u v => Own u B 4 v (bv (sK_)))) u (a.tmps.getD 51 undef) := hI.val 3 _ 51 rfl rfl rfl
      have f52 : a.tmps.getD 52 undef = .pointer (some ⟨bt, 9, none⟩) := hI.val 4 _ 52 rfl rfl rfl
      have f53 : a.tmps.getD 53 undef = .pointer (some ⟨p, 0, none⟩) := hI.val 5 _ 53 rfl rfl rfl
      have f54 : a.tmps.getD 54 undef = .int .i64 (nl : Int) := hI.val 6 _ 54 rfl rfl rfl
      have g55 : ((fun u v => Own u B 4 v (bv (brought (sK_) nl)))) u (a.tmps.getD 55 undef) := hI.val 7 _ 55 rfl rfl rfl
      have ha : a = ⟨#[a.tmps.getD 0 undef, a.tmps.getD 1 undef, a.tmps.getD 2 undef, a.tmps.getD 3 undef, a.tmps.getD 4 undef, a.tmps.getD 5 undef, a.tmps.getD 6 undef, a.tmps.getD 7 undef, a.tmps.getD 8 undef, a.tmps.getD 9 undef, a.tmps.getD 10 undef, a.tmps.getD 11 undef, a.tmps.getD 12 undef, a.tmps.getD 13 undef, a.tmps.getD 14 undef, a.tmps.getD 15 undef, a.tmps.getD 16 undef, a.tmps.getD 17 undef, a.tmps.getD 18 undef, a.tmps.getD 19 undef, a.tmps.getD 20 undef, a.tmps.getD 21 undef, a.tmps.getD 22 undef, a.tmps.getD 23 undef, a.tmps.getD 24 undef, a.tmps.getD 25 undef, a.tmps.getD 26 undef, a.tmps.getD 27 undef, a.tmps.getD 28 undef, a.tmps.getD 29 undef, a.tmps.getD 30 undef, a.tmps.getD 31 undef, a.tmps.getD 32 undef, a.tmps.getD 33 undef, a.tmps.getD 34 undef, a.tmps.getD 35 undef, a.tmps.getD 36 undef, a.tmps.getD 37 undef, a.tmps.getD 38 undef, a.tmps.getD 39 undef, a.tmps.getD 40 undef, a.tmps.getD 41 undef, a.tmps.getD 42 undef, a.tmps.getD 43 undef, a.tmps.getD 44 undef, a.tmps.getD 45 undef, a.tmps.getD 46 undef, a.tmps.getD 47 undef, a.tmps.getD 48 undef, a.tmps.getD 49 undef, a.tmps.getD 50 undef, a.tmps.getD 51 undef, a.tmps.getD 52 undef, a.tmps.getD 53 undef, a.tmps.getD 54 undef, a.tmps.getD 55 undef, a.tmps.getD 56 undef, a.tmps.getD 57 undef, a.tmps.getD 58 undef, a.tmps.getD 59 undef, a.tmps.getD 60 undef, a.tmps.getD 61 undef, a.tmps.getD 62 undef, a.tmps.getD 63 undef, a.tmps.getD 64 undef, a.tmps.getD 65 undef, a.tmps.getD 66 undef, a.tmps.getD 67 undef, a.tmps.getD 68 undef, a.tmps.getD 69 undef, a.tmps.getD 70 undef, a.tmps.getD 71 undef, a.tmps.getD 72 undef, a.tmps.getD 73 undef, a.tmps.getD 74 undef, a.tmps.getD 75 undef, a.tmps.getD 76 undef, a.tmps.getD 77 undef, a.tmps.getD 78 undef, a.tmps.getD 79 undef, a.tmps.getD 80 undef, a.tmps.getD 81 undef, a.tmps.getD 82 undef, a.tmps.getD 83 undef, a.tmps.getD 84 undef, a.tmps.getD 85 undef, a.tmps.getD 86 undef, a.tmps.getD 87 undef, a.tmps.getD 88 undef, a.tmps.getD 89 undef], a.defers⟩ := act_list a 90 hsz
      rw [hdf, f0, f1, f2, f3, f4, f5, f6, f7, f8, f9, f10, f11, f12, f13, f14, f15, f16, f17, f18, f19, f20, f21, f22, f23, f24, f25, f26, f27, f28, f29, f30, f31, f32, f33, f34, f35, f36, f37, f38, f39, f40, f41, f42, f43, f44, f45, f46, f47, f48, f49, f50, f52, f53, f54, f56, f57, f58, f59, f60, f61, f62, f63, f64, f65, f66, f67, f68, f69, f70, f71, f72, f73, f74, f75, f76, f77, f78, f79, f80, f81, f82, f83, f84, f85, f86, f87, f88, f89] at ha
      obtain ⟨x51, hx51⟩ : ∃ x, a.tmps.getD 51 undef = x := ⟨_, rfl⟩
      obtain ⟨x55, hx55⟩ : ∃ x, a.tmps.getD 55 undef = x := ⟨_, rfl⟩
      rw [hx51, hx55] at ha
      rw [hx51] at g51
      rw [hx55] at g55
      have hku := hI.kp
      clear hI hsz hdf f0 f1 f2 f3 f4 f5 f6 f7 f8 f9 f10 f11 f12 f13 f14 f15 f16 f17 f18 f19 f20 f21 f22 f23 f24 f25 f26 f27 f28 f29 f30 f31 f32 f33 f34 f35 f36 f37 f38 f39 f40 f41 f42 f43 f44 f45 f46 f47 f48 f49 f50 f52 f53 f54 f56 f57 f58 f59 f60 f61 f62 f63 f64 f65 f66 f67 f68 f69 f70 f71 f72 f73 f74 f75 f76 f77 f78 f79 f80 f81 f82 f83 f84 f85 f86 f87 f88 f89 hx51 hx55
      subst ha
      refine wpAny_tail 8 rfl (by kernel_rfl) ?_
      simp only [List.drop_succ_cons, List.drop_zero]
      clear g51
      rw [brought_self HSl.out] at g55
      obtain ⟨oa, oc, ev, -, -, -, -⟩ := g55.form
      rw [bv_length, HSl.out] at ev
      subst ev
      have HO5 := Lib.hid g55
      have HKu := Lib.hid hku
      have hb := HBra.out.kp hku (fun h => h)
      have c0 := hb.cell (i := 0) (v := x0) rfl
      have f0 := hb.free 0
      have hBr : br < B := by have := HS3.out; omega
      have HE := Lib.hid (show (∃ y0, Blk (u.setCell ⟨br, 0, none⟩ (.slice oa nl oc)) br #[y0, x1] 31 ∧ Own (u.setCell ⟨br, 0, none⟩ (.slice oa nl oc)) B 4 y0 (bv (brought st nl)) ∧ OwnGrid (u.setCell ⟨br, 0, none⟩ (.slice oa nl oc)) B x1 0 (fun j => brought (rows[j]?.getD []) C.ins.length) ∧ Own (u.setCell ⟨br, 0, none⟩ (.slice oa nl oc)) B 4 (.slice oa nl oc) (bv sK_) ∧ Kp (fun j => j = br) wa (u.setCell ⟨br, 0, none⟩ (.slice oa nl oc))) from by
       have ks := Kp.set u ⟨br, 0, none⟩ (.slice oa nl oc)
       have ho : ∀ {e v cs}, Own u B e v cs → Own (u.setCell ⟨br, 0, none⟩ (.slice oa nl oc)) B e v cs := fun h => h.kp ks (fun j hj e => by have := (h.lt j hj).1; have e2 : j = br := e; omega)
       exact ⟨_, hb.set_same 0 _, by rw [HSt.out]; exact ho g55, (HX1.out.kp hku (fun _ h => h.elim)).kp ks (fun j e => by have e2 : j = br := e; omega), ho g55, (hku.mono (fun _ _ h => h.elim)).trans ks (fun j _ e => e)⟩)
      clear g55 hku hb
      go_wp2_with fail
      go_meet
      exact HE.out
    ·have q0 : ((k : Int) == 0) = false := by simp; omega
     have h0 := HX0.out
     have h1 := HNw.out
     unfold s0R at h0
     unfold stR at h1
     rw [if_neg hk0, HNl.out] at h0
     rw [if_neg hk0, HSK.out] at h1
     have HE := Lib.hid (show (∃ y0, Blk wa br #[y0, x1] 31 ∧ Own wa B 4 y0 (bv (brought st nl)) ∧ OwnGrid wa B x1 k (fun j => brought (rows[j]?.getD []) C.ins.length) ∧ Own wa B 4 u9 (bv sK_) ∧ Kp (fun j => j = br) wa wa) from ⟨x0, HBra.out, h0, HX1.out, h1, Kp.refl _ _⟩)
     clear h0 h1 hk0
     go_wp2_with fail
     go_meet
     exact HE.out
   case rest =>
    obtain ⟨y0, hby, hy0, hgr, hs9, hkc⟩ := hcut
    have hBr : br < B := by have := HS3.out; omega
    have hBs : w2.heap.size ≤ br := by have := HBrs.out; omega
    have HK2c := Lib.hid (HK2a.out.trans hkc (fun j hj e => by have e2 : j = br := e; omega))
    have HKwc := Lib.hid (HK1.out.trans (HK2.out.trans HK2c.out (fun _ _ h => h)) (fun _ _ h => h))
    have HKpc := Lib.hid (HKp.out.trans hkc (fun j _ e => .inl e))
    have HBw2 := Lib.hid (show B ≤ wc.heap.size by have := HBa.out; have := hkc.size; omega)
    have HTb := Lib.hid (HB2.out.kp HK2c.out (fun h => h))
    have HOwc := Lib.hid (HOw.out.kp hkc (fun j hj e => by have e2 : j = br := e; have e3 : gw = j := (by simpa [Value.ownBlock] using hj); have := HGw.out; omega))
    have HWk := Lib.hid (fun u (hu : Kp (fun _ => False) wc u) i x (hx : L6[i]? = some x) => (HOwc.out.kp hu (fun _ _ h => h)).cell (j := i) (u := .string x) (by unfold strs; rw [List.getElem?_map, hx]; rfl))
    have HTc := Lib.hid (HT1.out.kp (HK2.out.trans HK2c.out (fun _ _ h => h)))
    have HInputs := Lib.hid (fun u (hu : Kp (fun _ => False) wc u) => show Calls Tryz.prog 42 #[.pointer (some ⟨p, 0, none⟩)] u fun e w' => e = .returned (.int .i64 (ni : Int)) ∧ u = w' from by
     obtain ⟨Vm, am4, cm4, am5, cm5, hM⟩ := HTc.out.mach
     have h := step_Inputs Vm C p am4 am5 cm4 cm5 u (hM.kp hu) (HF.out.big (by decide))
     rw [HNi.out] at h
     exact h)
    obtain ⟨sa, sc, evs, -, -, hsn, -, -⟩ := ownForm hs9
    rw [bv_length, HSl.out] at evs
    subst evs
    have HBy := Lib.hid hby
    have HY0 := Lib.hid hy0
    have HGrd := Lib.hid hgr
    have HS9 := Lib.hid hs9
    have HSn := Lib.hid hsn
    have HBw := HBw2
    clear hby hy0 hgr hs9 hkc hsn
    go_upto_region 16 with fail
    refine wp_region_loose (p := upTo 8) (V := atV [EqV (.slice (some ⟨gw, 0, none⟩) 6 cw), EqV (.pointer (some ⟨gw, 2, none⟩)), EqV (.string W2), (fun u v => Own u B 4 v (bv (iK_))), EqV (.pointer (some ⟨bt, 9, none⟩)), EqV (.pointer (some ⟨p, 0, none⟩)), EqV (.int .i64 (ni : Int)), (fun u v => Own u B 4 v (bv (brought (iK_) ni)))]) (LP := #[true, true, true, true, true, true, true, true, false]) (K := 1) (by kernel_rfl) (by kernel_rfl) (atV_st ?hstR16) ?hstepR16 (by kernel_rfl) ?hLPR16 (by kernel_rfl) ?hendR16
    case hstR16 =>
     intro W h
     simp only [List.mem_cons, List.not_mem_nil, or_false] at h
     rcases h with rfl | rfl | rfl | rfl | rfl | rfl | rfl | rfl <;> first | exact EqV.st _ | exact fun _ _ _ k h => Own.kp h k (fun _ _ h => h)
    case hLPR16 => exact upTo_spec (by kernel_rfl)
    case hstepR16 =>
     intro i o ho hp a u hk hoff hdep
     have e7 : a.tmps[7]?.getD undef = (.pointer (some ⟨bt, 0, none⟩)) := slot_at (hoff 7 (noDst_spec (by kernel_rfl)))
     have e15 : a.tmps[15]?.getD undef = (.slice (some ⟨gw, 0, none⟩) 6 cw) := slot_at (hoff 15 (noDst_spec (by kernel_rfl)))
     clear hoff
     match i, ho with
     |0, ho =>
      obtain rfl := Option.some.inj ho
      refine lw_value (v := .slice (some ⟨gw, 0, none⟩) 6 cw) (u' := u) ?_ (Kp.refl _ _) rfl
      go_simp
     |1, ho =>
      obtain rfl := Option.some.inj ho
      have e58 : a.tmps[58]?.getD undef = .slice (some ⟨gw, 0, none⟩) 6 cw := slot_at (hdep ⟨0, .data⟩ (by simp) rfl _ 58 rfl rfl)
      refine lw_value (v := .pointer (some ⟨gw, 2, none⟩)) (u' := u) ?_ (Kp.refl _ _) rfl
      go_simp
     |2, ho =>
      obtain rfl := Option.some.inj ho
      have e59 : a.tmps[59]?.getD undef = .pointer (some ⟨gw, 2, none⟩) := slot_at (hdep ⟨1, .data⟩ (by simp) rfl _ 59 rfl rfl)
      have c1 := HWk.out u hk 2 _ HL2.out
      refine lw_value (v := .string W2) (u' := u) ?_ (Kp.refl _ _) rfl
      go_simp
     |3, ho =>
      obtain rfl := Option.some.inj ho
      have e60 : a.tmps[60]?.getD undef = .string W2 := slot_at (hdep ⟨2, .data⟩ (by simp) rfl _ 60 rfl rfl)
      refine lw_call (f := 40) (args := #[.string W2, .string ⟨#[105, 61]⟩]) ?_ ?_
      ·go_simp
      ·exact (trace_values 105 (iK_) W2 ⟨#[105, 61]⟩ u HI_L.out HI_E.out rfl).mono (by
        rintro e u' ⟨v, rfl, hO, hK⟩
        exact ⟨v, rfl, hK, hO.mono (by have := hk.size; have := HBw.out; omega)⟩)
     |4, ho =>
      obtain rfl := Option.some.inj ho
      refine lw_value (v := .pointer (some ⟨bt, 9, none⟩)) (u' := u) ?_ (Kp.refl _ _) rfl
      go_simp
     |5, ho =>
      obtain rfl := Option.some.inj ho
      have e62 : a.tmps[62]?.getD undef = .pointer (some ⟨bt, 9, none⟩) := slot_at (hdep ⟨4, .data⟩ (by simp) rfl _ 62 rfl rfl)
      have c1 := (HTb.out.kp hk (fun h => h)).cell (i := 9) (v := .pointer (some ⟨p, 0, none⟩)) rfl
      refine lw_value (v := .pointer (some ⟨p, 0, none⟩)) (u' := u) ?_ (Kp.refl _ _) rfl
      go_simp
     |6, ho =>
      obtain rfl := Option.some.inj ho
      have e63 : a.tmps[63]?.getD undef = .pointer (some ⟨p, 0, none⟩) := slot_at (hdep ⟨5, .data⟩ (by simp) rfl _ 63 rfl rfl)
      refine lw_call (f := 42) (args := #[.pointer (some ⟨p, 0, none⟩)]) ?_ ?_
      ·go_simp
      ·exact (HInputs.out u hk).mono (by
        rintro e u' ⟨rfl, rfl⟩
        exact ⟨_, rfl, Kp.refl _ _, rfl⟩)
     |7, ho =>
      obtain rfl := Option.some.inj ho
      have e64 : a.tmps[64]?.getD undef = .int .i64 (ni : Int) := slot_at (hdep ⟨6, .data⟩ (by simp) rfl _ 64 rfl rfl)
      have hV : Own u B 4 (a.tmps.getD 61 undef) (bv (iK_)) := hdep ⟨3, .data⟩ (by simp) rfl _ 61 rfl rfl
      obtain ⟨va, vc, ev, -, -, -, hvr⟩ := hV.form
      rw [bv_length] at ev
      obtain ⟨vn, hvl⟩ : ∃ n, (iK_).length = n := ⟨_, rfl⟩
      have hvm : vn ≤ 100000 := by rw [← hvl]; exact HI_L.out
      rw [hvl] at ev
      have e61 := slot_at ev
      clear ev
      refine lw_call (f := 39) (args := #[.slice va vn vc, .int .i64 (ni : Int)]) ?_ ?_
      ·go_simp
      ·exact (trace_brought va vn vc (iK_) ni u hvr hvl (by omega) (by omega)).mono (by
        rintro e u' ⟨v, rfl, hO, hK⟩
        exact ⟨v, rfl, hK, hO.mono (by have := hk.size; have := HBw.out; omega)⟩)
     |n + 8, _ => exact absurd hp (by simp [upTo])
    case hendR16 =>
     intro a u hI
     have hsz : a.tmps.size = 90 := hI.size
     have hdf : a.defers = [] := hI.defers
     have f0 : a.tmps.getD 0 undef = _ := hI.off 0 (noDst_spec (p := upTo 8) (by kernel_rfl))
     have f1 : a.tmps.getD 1 undef = _ := hI.off 1 (noDst_spec (p := upTo 8) (by kernel_rfl))
     have f2 : a.tmps.getD 2 undef = _ := hI.off 2 (noDst_spec (p := upTo 8) (by kernel_rfl))
     have f3 : a.tmps.getD 3 undef = _ := hI.off 3 (noDst_spec (p := upTo 8) (by kernel_rfl))
     have f4 : a.tmps.getD 4 undef = _ := hI.off 4 (noDst_spec (p := upTo 8) (by kernel_rfl))
     have f5 : a.tmps.getD 5 undef = _ := hI.off 5 (noDst_spec (p := upTo 8) (by kernel_rfl))
     have f6 : a.tmps.getD 6 undef = _ := hI.off 6 (noDst_spec (p := upTo 8) (by kernel_rfl))
     have f7 : a.tmps.getD 7 undef = _ := hI.off 7 (noDst_spec (p := upTo 8) (by kernel_rfl))
     have f8 : a.tmps.getD 8 undef = _ := hI.off 8 (noDst_spec (p := upTo 8) (by kernel_rfl))
     have f9 : a.tmps.getD 9 undef = _ := hI.off 9 (noDst_spec (p := upTo 8) (by kernel_rfl))
     have f10 : a.tmps.getD 10 undef = _ := hI.off 10 (noDst_spec (p := upTo 8) (by kernel_rfl))
     have f11 : a.tmps.getD 11 undef = _ := hI.off 11 (noDst_spec (p := upTo 8) (by kernel_rfl))
     have f12 : a.tmps.getD 12 undef = _ := hI.off 12 (noDst_spec (p := upTo 8) (by kernel_rfl))
     have f13 : a.tmps.getD 13 undef = _ := hI.off 13 (noDst_spec (p := upTo 8) (by kernel_rfl))
     have f14 : a.tmps.getD 14 undef = _ := hI.off 14 (noDst_spec (p := upTo 8) (by kernel_rfl))
     have f15 : a.tmps.getD 15 undef = _ := hI.off 15 (noDst_spec (p := upTo 8) (by kernel_rfl))
     have f16 : a.tmps.getD 16 undef = _ := hI.off 16 (noDst_spec (p := upTo 8) (by kernel_rfl))
     have f17 : a.tmps.getD 17 undef = _ := hI.off 17 (noDst_spec (p := upTo 8) (by kernel_rfl))
     have f18 : a.tmps.getD 18 undef = _ := hI.off 18 (noDst_spec (p := upTo 8) (by kernel_rfl))
     have f19 : a.tmps.getD 19 undef = _ := hI.off 19 (noDst_spec (p := upTo 8) (by kernel_rfl))
     have f20 : a.tmps.getD 20 undef = _ := hI.off 20 (noDst_spec (p := upTo 8) (by kernel_rfl))
     have f21 : a.tmps.getD 21 undef = _ := hI.off 21 (noDst_spec (p := upTo 8) (by kernel_rfl))
     have f22 : a.tmps.getD 22 undef = _ := hI.off 22 (noDst_spec (p := upTo 8) (by kernel_rfl))
     have f23 : a.tmps.getD 23 undef = _ := hI.off 23 (noDst_spec (p := upTo 8) (by kernel_rfl))
     have f24 : a.tmps.getD 24 undef = _ := hI.off 24 (noDst_spec (p := upTo 8) (by kernel_rfl))
     have f25 : a.tmps.getD 25 undef = _ := hI.off 25 (noDst_spec (p := upTo 8) (by kernel_rfl))
     have f26 : a.tmps.getD 26 undef = _ := hI.off 26 (noDst_spec (p := upTo 8) (by kernel_rfl))
     have f27 : a.tmps.getD 27 undef = _ := hI.off 27 (noDst_spec (p := upTo 8) (by kernel_rfl))
     have f28 : a.tmps.getD 28 undef = _ := hI.off 28 (noDst_spec (p := upTo 8) (by kernel_rfl))
     have f29 : a.tmps.getD 29 undef = _ := hI.off 29 (noDst_spec (p := upTo 8) (by kernel_rfl))
     have f30 : a.tmps.getD 30 undef = _ := hI.off 30 (noDst_spec (p := upTo 8) (by kernel_rfl))
     have f31 : a.tmps.getD 31 undef = _ := hI.off 31 (noDst_spec (p := upTo 8) (by kernel_rfl))
     have f32 : a.tmps.getD 32 undef = _ := hI.off 32 (noDst_spec (p := upTo 8) (by kernel_rfl))
     have f33 : a.tmps.getD 33 undef = _ := hI.off 33 (noDst_spec (p := upTo 8) (by kernel_rfl))
     have f34 : a.tmps.getD 34 undef = _ := hI.off 34 (noDst_spec (p := upTo 8) (by kernel_rfl))
     have f35 : a.tmps.getD 35 undef = _ := hI.off 35 (noDst_spec (p := upTo 8) (by kernel_rfl))
     have f36 : a.tmps.getD 36 undef = _ := hI.off 36 (noDst_spec (p := upTo 8) (by kernel_rfl))
     have f37 : a.tmps.getD 37 undef = _ := hI.off 37 (noDst_spec (p := upTo 8) (by kernel_rfl))
     have f38 : a.tmps.getD 38 undef = _ := hI.off 38 (noDst_spec (p := upTo 8) (by kernel_rfl))
     have f39 : a.tmps.getD 39 undef = _ := hI.off 39 (noDst_spec (p := upTo 8) (by kernel_rfl))
     have f40 : a.tmps.getD 40 undef = _ := hI.off 40 (noDst_spec (p := upTo 8) (by kernel_rfl))
     have f41 : a.tmps.getD 41 undef = _ := hI.off 41 (noDst_spec (p := upTo 8) (by kernel_rfl))
     have f42 : a.tmps.getD 42 undef = _ := hI.off 42 (noDst_spec (p := upTo 8) (by kernel_rfl))
     have f43 : a.tmps.getD 43 undef = _ := hI.off 43 (noDst_spec (p := upTo 8) (by kernel_rfl))
     have f44 : a.tmps.getD 44 undef = _ := hI.off 44 (noDst_spec (p := upTo 8) (by kernel_rfl))
     have f45 : a.tmps.getD 45 undef = _ := hI.off 45 (noDst_spec (p := upTo 8) (by kernel_rfl))
     have f46 : a.tmps.getD 46 undef = _ := hI.off 46 (noDst_spec (p := upTo 8) (by kernel_rfl))
     have f47 : a.tmps.getD 47 undef = _ := hI.off 47 (noDst_spec (p := upTo 8) (by kernel_rfl))
     have f48 : a.tmps.getD 48 undef = _ := hI.off 48 (noDst_spec (p := upTo 8) (by kernel_rfl))
     have f49 : a.tmps.getD 49 undef = _ := hI.off 49 (noDst_spec (p := upTo 8) (by kernel_rfl))
     have f50 : a.tmps.getD 50 undef = _ := hI.off 50 (noDst_spec (p := upTo 8) (by kernel_rfl))
     have f51 : a.tmps.getD 51 undef = _ := hI.off 51 (noDst_spec (p := upTo 8) (by kernel_rfl))
     have f52 : a.tmps.getD 52 undef = _ := hI.off 52 (noDst_spec (p := upTo 8) (by kernel_rfl))
     have f53 : a.tmps.getD 53 undef = _ := hI.off 53 (noDst_spec (p := upTo 8) (by kernel_rfl))
     have f54 : a.tmps.getD 54 undef = _ := hI.off 54 (noDst_spec (p := upTo 8) (by kernel_rfl))
     have f55 : a.tmps.getD 55 undef = _ := hI.off 55 (noDst_spec (p := upTo 8) (by kernel_rfl))
     have f56 : a.tmps.getD 56 undef = _ := hI.off 56 (noDst_spec (p := upTo 8) (by kernel_rfl))
     have f57 : a.tmps.getD 57 undef = _ := hI.off 57 (noDst_spec (p := upTo 8) (by kernel_rfl))
     have f66 : a.tmps.getD 66 undef = _ := hI.off 66 (noDst_spec (p := upTo 8) (by kernel_rfl))
     have f67 : a.tmps.getD 67 undef = _ := hI.off 67 (noDst_spec (p := upTo 8) (by kernel_rfl))
     have f68 : a.tmps.getD 68 undef = _ := hI.off 68 (noDst_spec (p := upTo 8) (by kernel_rfl))
     have f69 : a.tmps.getD 69 undef = _ := hI.off 69 (noDst_spec (p := upTo 8) (by kernel_rfl))
     have f70 : a.tmps.getD 70 undef = _ := hI.off 70 (noDst_spec (p := upTo 8) (by kernel_rfl))
     have f71 : a.tmps.getD 71 undef = _ := hI.off 71 (noDst_spec (p := upTo 8) (by kernel_rfl))
     have f72 : a.tmps.getD 72 undef = _ := hI.off 72 (noDst_spec (p := upTo 8) (by kernel_rfl))
     have f73 : a.tmps.getD 73 undef = _ := hI.off 73 (noDst_spec (p := upTo 8) (by kernel_rfl))
     have f74 : a.tmps.getD 74 undef = _ := hI.off 74 (noDst_spec (p := upTo 8) (by kernel_rfl))
     have f75 : a.tmps.getD 75 undef = _ := hI.off 75 (noDst_spec (p := upTo 8) (by kernel_rfl))
     have f76 : a.tmps.getD 76 undef = _ := hI.off 76 (noDst_spec (p := upTo 8) (by kernel_rfl))
     have f77 : a.tmps.getD 77 undef = _ := hI.off 77 (noDst_spec (p := upTo 8) (by kernel_rfl))
     have f78 : a.tmps.getD 78 undef = _ := hI.off 78 (noDst_spec (p := upTo 8) (by kernel_rfl))
     have f79 : a.tmps.getD 79 undef = _ := hI.off 79 (noDst_spec (p := upTo 8) (by kernel_rfl))
     have f80 : a.tmps.getD 80 undef = _ := hI.off 80 (noDst_spec (p := upTo 8) (by kernel_rfl))
     have f81 : a.tmps.getD 81 undef = _ := hI.off 81 (noDst_spec (p := upTo 8) (by kernel_rfl))
     have f82 : a.tmps.getD 82 undef = _ := hI.off 82 (noDst_spec (p := upTo 8) (by kernel_rfl))
     have f83 : a.tmps.getD 83 undef = _ := hI.off 83 (noDst_spec (p := upTo 8) (by kernel_rfl))
     have f84 : a.tmps.getD 84 undef = _ := hI.off 84 (noDst_spec (p := upTo 8) (by kernel_rfl))
     have f85 : a.tmps.getD 85 undef = _ := hI.off 85 (noDst_spec (p := upTo 8) (by kernel_rfl))
     have f86 : a.tmps.getD 86 undef = _ := hI.off 86 (noDst_spec (p := upTo 8) (by kernel_rfl))
     have f87 : a.tmps.getD 87 undef = _ := hI.off 87 (noDst_spec (p := upTo 8) (by kernel_rfl))
     have f88 : a.tmps.getD 88 undef = _ := hI.off 88 (noDst_spec (p := upTo 8) (by kernel_rfl))
     have f89 : a.tmps.getD 89 undef = _ := hI.off 89 (noDst_spec (p := upTo 8) (by kernel_rfl))
     have f58 : a.tmps.getD 58 undef = .slice (some ⟨gw, 0, none⟩) 6 cw := hI.val 0 _ 58 rfl rfl rfl
     have f59 : a.tmps.getD 59 undef = .pointer (some ⟨gw, 2, none⟩) := hI.val 1 _ 59 rfl rfl rfl
     have f60 : a.tmps.getD 60 undef = .string W2 := hI.val 2 _ 60 rfl rfl rfl
     have g61 : ((fun u v => Own u B 4 v (bv (iK_)))) u (a.tmps.getD 61 undef) := hI.val 3 _ 61 rfl rfl rfl
     have f62 : a.tmps.getD 62 undef = .pointer (some ⟨bt, 9, none⟩) := hI.val 4 _ 62 rfl rfl rfl
     have f63 : a.tmps.getD 63 undef = .pointer (some ⟨p, 0, none⟩) := hI.val 5 _ 63 rfl rfl rfl
     have f64 : a.tmps.getD 64 undef = .int .i64 (ni : Int) := hI.val 6 _ 64 rfl rfl rfl
     have g65 : ((fun u v => Own u B 4 v (bv (brought (iK_) ni)))) u (a.tmps.getD 65 undef) := hI.val 7 _ 65 rfl rfl rfl
     have ha : a = ⟨#[a.tmps.getD 0 undef, a.tmps.getD 1 undef, a.tmps.getD 2 undef, a.tmps.getD 3 undef, a.tmps.getD 4 undef, a.tmps.getD 5 undef, a.tmps.getD 6 undef, a.tmps.getD 7 undef, a.tmps.getD 8 undef, a.tmps.getD 9 undef, a.tmps.getD 10 undef, a.tmps.getD 11 undef, a.tmps.getD 12 undef, a.tmps.getD 13 undef, a.tmps.getD 14 undef, a.tmps.getD 15 undef, a.tmps.getD 16 undef, a.tmps.getD 17 undef, a.tmps.getD 18 undef, a.tmps.getD 19 undef, a.tmps.getD 20 undef, a.tmps.getD 21 undef, a.tmps.getD 22 undef, a.tmps.getD 23 undef, a.tmps.getD 24 undef, a.tmps.getD 25 undef, a.tmps.getD 26 undef, a.tmps.getD 27 undef, a.tmps.getD 28 undef, a.tmps.getD 29 undef, a.tmps.getD 30 undef, a.tmps.getD 31 undef, a.tmps.getD 32 undef, a.tmps.getD 33 undef, a.tmps.getD 34 undef, a.tmps.getD 35 undef, a.tmps.getD 36 undef, a.tmps.getD 37 undef, a.tmps.getD 38 undef, a.tmps.getD 39 undef, a.tmps.getD 40 undef, a.tmps.getD 41 undef, a.tmps.getD 42 undef, a.tmps.getD 43 undef, a.tmps.getD 44 undef, a.tmps.getD 45 undef, a.tmps.getD 46 undef, a.tmps.getD 47 undef, a.tmps.getD 48 undef, a.tmps.getD 49 undef, a.tmps.getD 50 undef, a.tmps.getD 51 undef, a.tmps.getD 52 undef, a.tmps.getD 53 undef, a.tmps.getD 54 undef, a.tmps.getD 55 undef, a.tmps.getD 56 undef, a.tmps.getD 57 undef, a.tmps.getD 58 undef, a.tmps.getD 59 undef, a.tmps.getD 60 undef, a.tmps.getD 61 undef, a.tmps.getD 62 undef, a.tmps.getD 63 undef, a.tmps.getD 64 undef, a.tmps.getD 65 undef, a.tmps.getD 66 undef, a.tmps.getD 67 undef, a.tmps.getD 68 undef, a.tmps.getD 69 undef, a.tmps.getD 70 undef, a.tmps.getD 71 undef, a.tmps.getD 72 undef, a.tmps.getD 73 undef, a.tmps.getD 74 undef, a.tmps.getD 75 undef, a.tmps.getD 76 undef, a.tmps.getD 77 undef, a.tmps.getD 78 undef, a.tmps.getD 79 undef, a.tmps.getD 80 undef, a.tmps.getD 81 undef, a.tmps.getD 82 undef, a.tmps.getD 83 undef, a.tmps.getD 84 undef, a.tmps.getD 85 undef, a.tmps.getD 86 undef, a.tmps.getD 87 undef, a.tmps.getD 88 undef, a.tmps.getD 89 undef], a.defers⟩ := act_list a 90 hsz
     rw [hdf, f0, f1, f2, f3, f4, f5, f6, f7, f8, f9, f10, f11, f12, f13, f14, f15, f16, f17, f18, f19, f20, f21, f22, f23, f24, f25, f26, f27, f28, f29, f30, f31, f32, f33, f34, f35, f36, f37, f38, f39, f40, f41, f42, f43, f44, f45, f46, f47, f48, f49, f50, f51, f52, f53, f54, f55, f56, f57, f58, f59, f60, f62, f63, f64, f66, f67, f68, f69, f70, f71, f72, f73, f74, f75, f76, f77, f78, f79, f80, f81, f82, f83, f84, f85, f86, f87, f88, f89] at ha
     obtain ⟨x61, hx61⟩ : ∃ x, a.tmps.getD 61 undef = x := ⟨_, rfl⟩
     obtain ⟨x65, hx65⟩ : ∃ x, a.tmps.getD 65 undef = x := ⟨_, rfl⟩
     rw [hx61, hx65] at ha
     rw [hx61] at g61
     rw [hx65] at g65
     have hku := hI.kp
     clear hI hsz hdf f0 f1 f2 f3 f4 f5 f6 f7 f8 f9 f10 f11 f12 f13 f14 f15 f16 f17 f18 f19 f20 f21 f22 f23 f24 f25 f26 f27 f28 f29 f30 f31 f32 f33 f34 f35 f36 f37 f38 f39 f40 f41 f42 f43 f44 f45 f46 f47 f48 f49 f50 f51 f52 f53 f54 f55 f56 f57 f58 f59 f60 f62 f63 f64 f66 f67 f68 f69 f70 f71 f72 f73 f74 f75 f76 f77 f78 f79 f80 f81 f82 f83 f84 f85 f86 f87 f88 f89 hx61 hx65
     subst ha
     refine wpAny_tail 8 rfl (by kernel_rfl) ?_
     simp only [List.drop_succ_cons, List.drop_zero]
     clear g61
     rw [brought_self HBl.out] at g65
     obtain ⟨ia, ic, ev, -, -, -, hir⟩ := g65.form
     rw [bv_length, HBl.out] at ev
     subst ev
     have HIr := Lib.hid hir
     have HIo := Lib.hid g65
     have HKu := Lib.hid hku
     have HBu := Lib.hid (show B ≤ u.heap.size by have := HBw.out; have := hku.size; omega)
     have HBuu := Lib.hid (HBy.out.kp hku (fun h => h))
     have HTbu := Lib.hid (HTb.out.kp hku (fun h => h))
     have HY0u := Lib.hid (HY0.out.kp hku (fun _ _ h => h))
     have HGu := Lib.hid (HGrd.out.kp hku (fun _ h => h.elim))
     have HS9u := Lib.hid (HS9.out.kp hku (fun _ _ h => h))
     have HTu := Lib.hid (HTc.out.kp hku)
     have HKzu := Lib.hid (HKwc.out.trans hku (fun _ _ h => h))
     have HKpu := Lib.hid (HKpc.out.trans hku (fun _ _ h => h.elim))
     have hLine := trace_line V C p b4 m4 b5 m5 k sa nl sc ia ni ic sK_ iK_ u HTu.out (HA0.out.kp HKzu.out) HF.out HG.out ⟨(by obtain ⟨a', c', e', -, -, -, hr'⟩ := HS9u.out.form; simp only [Value.slice.injEq] at e'; rw [e'.1]; exact hr'), HSl.out, by omega⟩ (by rw [HSl.out, HNl.out]) HSn.out ⟨hir, HBl.out, by omega⟩ (by omega) (HTt.out.kp HKzu.out)
     rw [HLB.out] at hLine
     obtain ⟨D, hD⟩ : ∃ s : ByteArray, (⟨(trcL C k sK_ rK_ ++ [10]).toArray⟩ : ByteArray) = s := ⟨_, rfl⟩
     rw [hD] at hLine
     have hAD : LN ++ ⟨#[10]⟩ = D := by rw [← hD, ← HLN.out]; exact cat_bytes (trcL C k sK_ rK_) [10]
     have HAD := fun (u : World) => show (Op.stringOp .add LN ⟨#[10]⟩).run Tryz.prog u = .ok (.string D) u by
      rw [← hAD]
      exact run_string_add_sum _ _ _ (by have := (by decide : (⟨#[10]⟩ : ByteArray).size ≤ 1); omega)
     unfold tvals at hLine
     have HLi := Lib.hid hLine
     have z := blk12 HTbu.out
     obtain ⟨t0, t1, t2, t3, t4, t5, t6, t7, t8, t9, ta, tb⟩ := z
     clear g65 hir hku hLine hD hAD HWk HLB
     go_upto_region 19 with (go_at_call 22; with_reducible refine Calls.mono HLi.out ?_; rintro e w5 ⟨rfl, hK5⟩; have HK5 := Lib.hid hK5; clear hK5)
     clear t0 t1 t2 t3 t4 t5 t6 t7 t8 t9 ta tb HAD
     have HIbb := Lib.hid (show (Tryz.prog.info? 28).map (fun i => (i.zero, i.size, i.bytes)) = some (some (.slice none 0 0), 1, 24) by kernel_rfl)
     have hB5 := HBuu.out.kp HK5.out (fun h => h)
     obtain ⟨vs, hv1, hv2, hv3⟩ := HGu.out.kp HK5.out (fun _ h => h.elim)
     obtain ⟨xa, xc, ev, -, -, -, -⟩ := hv1.form
     rw [hv2] at ev
     subst ev
     have HV1 := Lib.hid hv1
     have HV2 := Lib.hid hv2
     have HV3 := Lib.hid hv3
     have HB5 := Lib.hid hB5
     have HI5 := Lib.hid (HIo.out.kp HK5.out (fun _ _ h => h))
     have HY5 := Lib.hid (HY0u.out.kp HK5.out (fun _ _ h => h))
     have HS5 := Lib.hid (HS9u.out.kp HK5.out (fun _ _ h => h))
     have HTb5 := Lib.hid (HTbu.out.kp HK5.out (fun h => h))
     have HK1b5 := Lib.hid (HKzu.out.trans HK5.out (fun _ _ h => h))
     have HKp5 := Lib.hid (HKpu.out.trans HK5.out (fun _ _ h => h.elim))
     have HB55 := Lib.hid (show B ≤ w5.heap.size by have := HBu.out; have := HK5.out.size; omega)
     have HT5 := Lib.hid (HTu.out.kp HK5.out)
     have c1 := hB5.cell (i := 1) (v := .slice xa k xc) rfl
     clear hv1 hv2 hv3 hB5
     go_wp2_with (at_builtin; refine wpList_append1_at rfl _ _ 29 28 rfl Tryz.underlying29 HIbb.out rfl (HV1.out.alloc (.cells #[.slice ia ni ic] 28)) rfl ⟨w5.heap.size, 0, none⟩ (.slice ia ni ic) rfl ((Blk.new w5 #[.slice ia ni ic] 28).cell rfl) rfl ?d1 ?d2 ?d3 ?_)
     case d1 => rw [HV2.out]; omega
     case d2 => rw [HV2.out]; unfold maxLen; omega
     case d3 => have := HB55.out; simp; omega
     intro v' w6 hO6 hg6 hat6
     have hk6 : Kp (fun j => B ≤ j) w5 w6 := ((Kp.refl _ w5).alloc _).grown hg6 (fun j hj _ => (HV1.out.lt j hj).1)
     have hI6 := own_other HV1.out HI5.out (by decide) hg6
     have hY6 := own_other HV1.out HY5.out (by decide) hg6
     have hS6 := own_other HV1.out HS5.out (by decide) hg6
     have hG6 : OwnGrid w6 B v' (k + 1) (fun j => brought (rows[j]?.getD []) C.ins.length) := by
      refine ⟨vs ++ [.slice ia ni ic], hO6, by rw [List.length_append, HV2.out]; rfl, fun j hj => ?_⟩
      by_cases e : j = k
      ·subst e
       refine ⟨.slice ia ni ic, by rw [List.getElem?_append_right (by rw [HV2.out]; exact Nat.le_refl _), HV2.out, Nat.sub_self]; rfl, ?_⟩
       show Own w6 B 4 _ (bv (brought (rows[j]?.getD []) C.ins.length))
       rw [HIK.out]; exact hI6
      ·obtain ⟨y, hy, ho⟩ := HV3.out j (by omega)
       exact ⟨y, by rw [List.getElem?_append_left (by rw [HV2.out]; omega)]; exact hy, own_other HV1.out ho (by decide) hg6⟩
     have hB6 := HB5.out.kp hk6 (fun h => by have e2 : B ≤ br := h; omega)
     obtain ⟨v6a, v6c, ev, -, -, -, -⟩ := hO6.form
     rw [List.length_append, HV2.out, List.length_singleton] at ev
     subst ev
     have HI6 := Lib.hid hI6
     have HY6 := Lib.hid hY6
     have HS6 := Lib.hid hS6
     have HG6 := Lib.hid hG6
     have HB6 := Lib.hid hB6
     have Hk6 := Lib.hid hk6
     have c1 := hB6.cell (i := 1) (v := .slice xa k xc) rfl
     have f1 := hB6.free 1
     clear hO6 hg6 hat6 hk6 hI6 hY6 hS6 hG6 hB6
     go_upto_region 20 with fail
     obtain ⟨w7, hw7⟩ : ∃ w7 : World, w7 = w6.setCell ⟨br, 1, none⟩ (.slice v6a (k + 1) v6c) := ⟨_, rfl⟩
     have ks : Kp (fun j => j = br) w6 w7 := by rw [hw7]; exact Kp.set w6 ⟨br, 1, none⟩ _
     have HB7 := Lib.hid (show Blk w7 br #[y0, .slice v6a (k + 1) v6c] 31 by rw [hw7]; exact HB6.out.set_same 1 _)
     have HKw := Lib.hid (show Kp (fun j => j = br ∨ B ≤ j) w5 w7 from (Hk6.out.mono (fun _ _ e => .inr e)).trans (ks.mono (fun _ _ e => .inl e)) (fun _ _ e => e))
     have ho : ∀ {e v cs}, Own w6 B e v cs → Own w7 B e v cs := fun h => h.kp ks (fun j hj e => by have := (h.lt j hj).1; have e2 : j = br := e; omega)
     have HI7 := Lib.hid (ho HI6.out)
     have HY7 := Lib.hid (ho HY6.out)
     have HS7 := Lib.hid (ho HS6.out)
     have HG7 := Lib.hid (HG6.out.kp ks (fun j e => by have e2 : j = br := e; omega))
     rw [← hw7]
     have HB27 := Lib.hid (show Kp (fun _ => False) w2 w7 from (HK2c.out.trans ((HKu.out.trans HK5.out (fun _ _ h => h)).mono (fun _ _ h => h)) (fun _ _ h => h)).trans HKw.out (fun j hj e => by rcases e with e | e <;> omega))
     have HTb7 := Lib.hid (HB2.out.kp HB27.out (fun h => h))
     have HT7 := Lib.hid (HT1.out.kp (HK2.out.trans HB27.out (fun _ _ h => h)))
     have HKp7 := Lib.hid (HKp5.out.trans HKw.out (fun _ _ e => e))
     have HB77 := Lib.hid (show B ≤ w7.heap.size by have := HB55.out; have := HKw.out.size; omega)
     obtain ⟨Vm, am4, cm4, am5, cm5, hM⟩ := HT7.out.mach
     have hbs : ∀ {a n c l}, Own w7 B 4 (.slice a n c) (bv l) → l.length = n → n ≤ 1000 → BS w7 a n l := fun h hl hn => ⟨(by obtain ⟨a', c', e', -, -, -, hr'⟩ := h.form; simp only [Value.slice.injEq] at e'; rw [e'.1]; exact hr'), hl, by omega⟩
     have HNx := Lib.hid (step_Next Vm C p am4 am5 cm4 cm5 sa nl sc ia ni ic sK_ iK_ w7 hM (HF.out.big (by decide)) HG.out (hbs HS7.out HSl.out hnl1) (hbs HI7.out HBl.out hni1))
     have c9 := HTb7.out.cell (i := 9) (v := .pointer (some ⟨p, 0, none⟩)) rfl
     clear hw7 ks ho hM hbs c1 f1
     go_wp2_with (go_at_call 43; with_reducible refine Calls.mono HNx.out ?_; rintro e w8 ⟨v9, rfl, hO9, hK9⟩; have HO9 := Lib.hid hO9; have HK9 := Lib.hid hK9; clear hO9 hK9)
     go_roundw
     case rel =>
      refine ⟨k + 1, by go_num, by omega, by rw [HAt.out], ⟨y0, _, HB7.out.kp HK9.out (fun h => h), ?_, HG7.out.kp HK9.out (fun _ h => h.elim)⟩, ?_, HKp7.out.trans HK9.out (fun _ _ h => h.elim)⟩
      ·unfold s0R
       rw [if_neg (by omega), HNl.out]
       exact HY7.out.kp HK9.out (fun _ _ h => h)
      ·unfold stR
       rw [if_neg (by omega)]
       have h9 := HO9.out.mono HB77.out
       have e9 : nextM C sK_ iK_ = stateM C st rows (k + 1) := by rw [← HIK.out, nextM_brought, ← HSK.out]; rfl
       rw [e9] at h9
       exact h9
     case measure => simp [intOf]; omega
  ·obtain rfl : k = gn := by omega
   obtain ⟨⟨x0, x1, hbr0, hx0, hx1⟩, hnow, hkp⟩ := HD.out
   have hlt0 : w.heap.size + 1 < B := by have := HR0.out.lt; have := HK1.out.size; have := HK2.out.size; have := HK3.out.size; have := HB.out; omega
   have hrr := HR0.out.kp HKzp.out (fun h => h)
   obtain ⟨vs, hv1, hv2, hv3⟩ := hx1
   obtain ⟨a0, c0, ev, -, -, -, -⟩ := hx0.form
   subst ev
   obtain ⟨a1, c1, ev, -, -, -, -⟩ := hv1.form
   subst ev
   have hge : ¬ (trcB C st rows k).length < s.size := by rw [HSz.out]; omega
   have z0 := hbr0.cell (i := 0) rfl
   have z1 := hbr0.cell (i := 1) rfl
   have r0 := hrr.cell (i := 0) (v := .slice none 0 0) rfl
   have r1 := hrr.cell (i := 1) (v := .slice none 0 0) rfl
   have g0 := hrr.free 0
   have g1 := hrr.free 1
   have HRR := Lib.hid hrr
   have HX0 := Lib.hid hx0
   have HX1 := Lib.hid (show OwnGrid wp B (.slice a1 vs.length c1) k (fun j => brought (rows[j]?.getD []) C.ins.length) from ⟨vs, hv1, hv2, hv3⟩)
   have HLt := Lib.hid hlt0
   obtain ⟨n0, hn0⟩ : ∃ n, (bv (s0R C st k)).length = n := ⟨_, rfl⟩
   obtain ⟨n1, hn1⟩ : ∃ n, vs.length = n := ⟨_, rfl⟩
   rw [hn0] at HX0 z0
   rw [hn1] at HX1 z1
   clear hbr0 hx0 hv1 hv2 hv3 hnow hkp hrr hlt0 hn0 hn1
   go_wp2_with fail
   obtain ⟨wf, hwf⟩ : ∃ wf : World, wf = (wp.setCell ⟨w.heap.size + 1, 0, none⟩ (.slice a0 n0 c0)).setCell ⟨w.heap.size + 1, 1, none⟩ (.slice a1 n1 c1) := ⟨_, rfl⟩
   have hbf : Blk wf (w.heap.size + 1) #[.slice a0 n0 c0, .slice a1 n1 c1] 31 := by rw [hwf]; exact (HRR.out.set_same 0 _).set_same 1 _
   have kf : Kp (fun j => j = w.heap.size + 1) wp wf := by rw [hwf]; exact ((Kp.refl (fun j => j = w.heap.size + 1) wp).setCell (p := ⟨w.heap.size + 1, 0, none⟩) (fun _ => rfl) _).setCell (p := ⟨w.heap.size + 1, 1, none⟩) (fun _ => rfl) _
   rw [← hwf]
   have y0 := hbf.cell (i := 0) (v := .slice a0 n0 c0) rfl
   have y1 := hbf.cell (i := 1) (v := .slice a1 n1 c1) rfl
   have HE1 := Lib.hid (show Own wf w.heap.size 4 (.slice a0 n0 c0) (bv (s0R C st k)) from (HX0.out.kp kf (fun j hj e => by have := (HX0.out.lt j hj).1; have := HLt.out; have e2 : j = w.heap.size + 1 := e; omega)).mono (by have := HLt.out; omega))
   have HE2 := Lib.hid (show OwnGrid wf w.heap.size (.slice a1 n1 c1) k (fun j => brought (rows[j]?.getD []) C.ins.length) from by
    obtain ⟨us, q1, q2, q3⟩ := HX1.out.kp kf (fun j e => by have := HLt.out; have e2 : j = w.heap.size + 1 := e; omega)
    refine ⟨us, q1.mono (by have := HLt.out; omega), q2, fun j hj => ?_⟩
    obtain ⟨y, e1, e2⟩ := q3 j hj
    exact ⟨y, e1, e2.mono (by have := HLt.out; omega)⟩)
   have HE3 := Lib.hid ((HK0.out.trans HKzp.out (fun _ _ h => h)).trans kf (fun j hj e => by have e2 : j = w.heap.size + 1 := e; omega))
   exact bodyPost_ret (v := .tuple #[.agg #[.slice a0 n0 c0, .slice a1 n1 c1], .int .i64 0, .int .i64 0]) (by simp [results, Tryz.results15, go_sem, y0, y1]) rfl ⟨_, _, rfl, HE1.out, HE2.out, HE3.out⟩

end Go.Proofs.YtghlklcolepfmaaGreatDoor

/-
  A row of the call's own that is still empty, or lies above a bound: appended to, older memory stays.
-/
namespace Go.Proofs.YtghlklcolepfmaaGreatDoor
open Go.RowKit

def OwnE (w : World) (B0 B : Nat) (e : TypeId) (v : Value) (cs : List Value) : Prop :=
  (cs = [] ∧ ∃ g, v = .slice (some ⟨g, 0, none⟩) 0 0 ∧ Blk w g #[] e ∧ B0 ≤ g) ∨ Own w B e v cs
theorem OwnE.own {w : World} {B0 B : Nat} {e : TypeId} {v : Value} {cs : List Value} (h : OwnE w B0 B e v cs) (hb : B0 ≤ B) : Own w B0 e v cs := by
 rcases h with ⟨rfl, g, rfl, h1, h2⟩ | h
 ·exact Own.lit (cs := []) h1 h2 (by decide)
 ·exact h.mono hb
theorem OwnE.kp {w w' : World} {B0 B : Nat} {e : TypeId} {v : Value} {cs : List Value} (h : OwnE w B0 B e v cs) (k : Kp (fun _ => False) w w') : OwnE w' B0 B e v cs := by
 rcases h with ⟨rfl, g, rfl, h1, h2⟩ | h
 ·exact .inl ⟨rfl, g, rfl, h1.kp k (fun h => h), h2⟩
 ·exact .inr (h.kp k (fun _ _ h => h))

theorem wpList_append1_e {P : Program} {w : World} {ops : Array Oper} {rest : List Oper} {o : Oper} {a : Act} {Q : Exit → Act → World → Prop} (hgd : o.guard = none) (s x : Operand) (t e : TypeId)
  (ho : o.op = .call { callee := .builtin .append, args := #[s, x], argTypes := #[t, t] }) {z : Value} {bytes : Nat}
  (ht : P.underlying t = some (.slice e)) (hI : (P.info? e).map (fun i => (i.zero, i.size, i.bytes)) = some (some z, 1, bytes)) (hzs : z.cells.size = 1)
  {B0 B : Nat} {v : Value} {cs : List Value} (hown : OwnE w B0 B e v cs) (hs : a.eval s = v) (ad : Addr) (u : Value) (hx : a.eval x = .slice (some ad) 1 1) (hnew : w.cell? ad = some u) (h1 : u.oneCell' = true)
  (hbytes : (cs.length + 1) * bytes ≤ 140737488355328) (hm : cs.length + 1 ≤ maxLen) (hbase : B ≤ w.heap.size)
  (h : ∀ v' w', OwnE w' B0 B e v' (cs ++ [u]) → Kp (fun j => B ≤ j) w w' → wpList P ops Q rest (a.put o.dst v') w') : wpList P ops Q (o :: rest) a w := by
 rcases hown with ⟨rfl, g, rfl, hg, hb⟩ | hown
 ·obtain ⟨i0, hi, hz0, hz1, hz2⟩ := info_parts hI
  refine wpList_append_grows w hgd s x t ho e i0 z 1 bytes ht hi hz0 hz1 hz2 hzs (by decide) (some ⟨g, 0, none⟩) 0 0 [] hs (fun h => by cases h) rfl (fun b _ j u h => by simp at h) ad 1 1 [u] hx rfl ?_ (fun u' hu => by simp at hu; subst hu; exact h1) (by decide) (by simpa using hm) (by simpa using hbytes) ?_
  ·intro j u' hj
   match j, hj with
   |0, hj =>
    have : ad.add 0 = ad := by unfold Addr.add; split <;> simp_all
    simp at hj
    rw [this, ← hj]; exact hnew
  ·intro v' w' h2 h3
   refine h v' w' (.inr ?_) ((Kp.refl _ w).grown h3 (fun k hk => by cases hk))
   exact Own.mono (b' := B) (show Own w' w.heap.size e v' ([] ++ [u]) from h2) hbase
 ·refine wpList_append1_at hgd s x t e ho ht hI hzs hown hs ad u hx hnew h1 hbytes hm hbase ?_
  intro v' w' h2 h3 _
  exact h v' w' (.inr h2) ((Kp.refl _ w).grown h3 (fun j hj _ => (hown.lt j hj).1))

end Go.Proofs.YtghlklcolepfmaaGreatDoor

/-
  latchetref47.Changes. (Printed by mkrefch.py.)
-/
namespace Go.Proofs.YtghlklcolepfmaaGreatDoor
open Go.RowKit

set_option maxRecDepth 100000 in
set_option maxHeartbeats 8000000 in
theorem ref47_Changes (V : CV) (C : Circ) (Y : List (Int × Int × ByteArray)) (sa : Option Addr) (sn sc : Nat) (ga : Option Addr) (gn gc : Nat) (st : List Bool) (rows : List (List Bool)) (w : World) (h : CAt w V C) (hY : SyAt w V Y) (hy : V.ny ≤ 1000000) (hf : CFew C 1000) (hg : GoodC C) (hs : BS w sa sn st) (hi : GS w ga gn gc rows) (hgn : gn ≤ 1000) (hN : ∀ x ∈ namesK Y 108 C.lats.length, x.size ≤ 2000000) :
  Calls Tryz.prog 14 #[.agg (cvals V C), .agg #[.slice sa sn sc, .slice ga gn gc]] w fun e w' => ∃ v, e = .returned v ∧ Own w' w.heap.size 9 v (strs (chK C (namesK Y 108 C.lats.length) st rows (gn - 1))) ∧ Kp (fun _ => False) w w' := by
 have HIs := Lib.hid strInfo
 obtain ⟨wz, hwz⟩ : ∃ wz : World, wz = (w.alloc (.cells (cvals V C) 27)).alloc (.cells #[.slice sa sn sc, .slice ga gn gc] 31) := ⟨_, rfl⟩
 have HK0 := Lib.hid (show Kp (fun _ => False) w wz by rw [hwz]; exact ((Kp.refl _ w).alloc _).alloc _)
 have HC0 := Lib.hid (show Blk wz w.heap.size #[.int .i64 C.max, .slice V.ai C.ins.length V.ci, .slice V.al C.lats.length V.cl, .slice V.ao C.outs.length V.co, .slice V.ab C.bads.length V.cb, .slice V.ac C.cons.length V.cc, .slice V.ag C.gates.length V.cg, .slice V.ay V.ny V.cy, .string V.cm] 27 by rw [hwz]; exact (Blk.new w (cvals V C) _).alloc _)
 have HR0 := Lib.hid (show Blk wz (w.heap.size + 1) #[.slice sa sn sc, .slice ga gn gc] 31 by rw [hwz]; exact two_blk _ _ _ _ _)
 have HZ := Lib.hid hwz
 have hlats := hf.l
 obtain ⟨N, hNN⟩ : ∃ N, namesK Y 108 C.lats.length = N := ⟨_, rfl⟩
 rw [hNN] at hN ⊢
 obtain ⟨nl, hnl⟩ : ∃ n, C.lats.length = n := ⟨_, rfl⟩
 have HNl := Lib.hid hnl
 have hNl : N.length = nl := by rw [← hNN, namesK_len, hnl]
 have HNN := Lib.hid hNl
 have HNs := Lib.hid hN
 have HNm := Lib.hid (fun u (hu : Kp (fun _ => False) wz u) => show Calls Tryz.prog 12 #[.agg (cvals V C), .int .u8 108] u fun e w' => ∃ v, e = .returned v ∧ NamV N nl w' v ∧ Kp (fun _ => False) u w' from
  (ref47_Names V C Y 108 u (hY.kp (HK0.out.trans hu (fun _ _ h => h))) (hf.big (by decide)) (by decide) hy).mono (by
   rintro e w' ⟨v, rfl, hO, hK⟩
   rw [cnt_lats, hNN] at hO
   obtain ⟨a, c, ev, -, -, -, hr⟩ := hO.form
   rw [strs_length, hNl] at ev
   exact ⟨v, rfl, ⟨a, c, ev, hr⟩, hK⟩))
 have HNw := Lib.hid (fun u (hu : Kp (fun _ => False) wz u) => ref17_New V C u (h.kp (HK0.out.trans hu (fun _ _ h => h))) (hf.big (by decide)) hg)
 have HSs := Lib.hid (fun u p a4 c4 a5 c5 (hu : Kp (fun _ => False) wz u) (hM : MAt u 101 V C p a4 c4 a5 c5) => show Calls Tryz.prog 25 #[.pointer (some ⟨p, 0, none⟩), .agg #[.slice sa sn sc, .slice ga gn gc]] u fun e w' => ∃ v, e = .returned v ∧ GriV ((List.range gn).map (stateM C st rows)) gn w' v ∧ Kp (fun _ => False) u w' from
  (ref17_States V C p a4 a5 c4 c5 sa sn sc ga gn gc st rows u hM (hf.big (by decide)) hg (hs.kp (HK0.out.trans hu (fun _ _ h => h))) (GS.kp hi (HK0.out.trans hu (fun _ _ h => h)))).mono (by
   rintro e w' ⟨v, rfl, ⟨v6, hSL⟩, hK⟩
   obtain ⟨xa, c7, ev, hgr⟩ := SL.grid hSL (Nat.le_trans hf.l (by decide)) (by omega)
   exact ⟨v, rfl, ⟨xa, c7, ev, hgr⟩, hK⟩))
 unfold cvals at HNm HNw HZ ⊢
 clear h hY hf hg hs hi hwz hN hNN hNl hy
 rw [hnl] at hlats
 clear hnl
 go_enter Tryz.func14, Tryz.ntmps14
 go_upto_region 1 with fail
 rw [← HZ.out]
 clear HZ
 refine wp_region_loose (p := upTo 10) (V := atV [EqV (.agg #[.int .i64 C.max, .slice V.ai C.ins.length V.ci, .slice V.al C.lats.length V.cl, .slice V.ao C.outs.length V.co, .slice V.ab C.bads.length V.cb, .slice V.ac C.cons.length V.cc, .slice V.ag C.gates.length V.cg, .slice V.ay V.ny V.cy, .string V.cm]), (NamV N nl), EqV (.agg #[.int .i64 C.max, .slice V.ai C.ins.length V.ci, .slice V.al C.lats.length V.cl, .slice V.ao C.outs.length V.co, .slice V.ab C.bads.length V.cb, .slice V.ac C.cons.length V.cc, .slice V.ag C.gates.length V.cg, .slice V.ay V.ny V.cy, .string V.cm]), (MacV 101 V C), EqV (.agg #[.slice sa sn sc, .slice ga gn gc]), (GriV ((List.range gn).map (stateM C st rows)) gn), (LitC wz.heap.size #[] 0 9), NamV N nl, GriV ((List.range gn).map (stateM C st rows)) gn, LitC wz.heap.size #[] 0 9]) (LP := #[true, true, true, true, true, true, true, true, true, true]) (K := 0) (by kernel_rfl) (by kernel_rfl) (atV_st ?hstLL) ?hstepLL (by kernel_rfl) ?hLPLL (by kernel_rfl) ?hendLL
 case hstLL =>
  intro W h
  simp only [List.mem_cons, List.not_mem_nil, or_false] at h
  rcases h with rfl | rfl | rfl | rfl | rfl | rfl | rfl | rfl | rfl | rfl <;> first | exact EqV.st _ | exact NamV.st _ _ | exact MacV.st _ _ _ | exact GriV.st _ _ | exact LitC.st _ _ _ _
 case hLPLL => exact upTo_spec (by kernel_rfl)
 case hstepLL =>
  intro i o ho hp a u hk hoff hdep
  have e2 : a.tmps[2]?.getD undef = (.pointer (some ⟨w.heap.size, 0, none⟩)) := slot_at (hoff 2 (noDst_spec (by kernel_rfl)))
  have e3 : a.tmps[3]?.getD undef = (.pointer (some ⟨w.heap.size + 1, 0, none⟩)) := slot_at (hoff 3 (noDst_spec (by kernel_rfl)))
  clear hoff
  match i, ho with
  |0, ho =>
   obtain rfl := Option.some.inj ho
   obtain ⟨d0, d1, d2, d3, d4, d5, d6, d7, d8⟩ := Blk.cells9 (HC0.out.kp hk (fun h => h))
   refine lw_value (v := .agg #[.int .i64 C.max, .slice V.ai C.ins.length V.ci, .slice V.al C.lats.length V.cl, .slice V.ao C.outs.length V.co, .slice V.ab C.bads.length V.cb, .slice V.ac C.cons.length V.cc, .slice V.ag C.gates.length V.cg, .slice V.ay V.ny V.cy, .string V.cm]) (u' := u) ?_ (Kp.refl _ _) rfl
   go_simp
  |1, ho =>
   obtain rfl := Option.some.inj ho
   have e11 : a.tmps[11]?.getD undef = .agg #[.int .i64 C.max, .slice V.ai C.ins.length V.ci, .slice V.al C.lats.length V.cl, .slice V.ao C.outs.length V.co, .slice V.ab C.bads.length V.cb, .slice V.ac C.cons.length V.cc, .slice V.ag C.gates.length V.cg, .slice V.ay V.ny V.cy, .string V.cm] := slot_at (hdep ⟨0, .data⟩ (by simp) rfl _ 11 rfl rfl)
   refine lw_call (f := 12) (args := #[.agg #[.int .i64 C.max, .slice V.ai C.ins.length V.ci, .slice V.al C.lats.length V.cl, .slice V.ao C.outs.length V.co, .slice V.ab C.bads.length V.cb, .slice V.ac C.cons.length V.cc, .slice V.ag C.gates.length V.cg, .slice V.ay V.ny V.cy, .string V.cm], .int .u8 108]) ?_ ?_
   ·go_simp
   ·exact (HNm.out u hk).mono (by
     rintro e u' ⟨v, rfl, hV, hK⟩
     exact ⟨v, rfl, hK, hV⟩)
  |2, ho =>
   obtain rfl := Option.some.inj ho
   obtain ⟨d0, d1, d2, d3, d4, d5, d6, d7, d8⟩ := Blk.cells9 (HC0.out.kp hk (fun h => h))
   refine lw_value (v := .agg #[.int .i64 C.max, .slice V.ai C.ins.length V.ci, .slice V.al C.lats.length V.cl, .slice V.ao C.outs.length V.co, .slice V.ab C.bads.length V.cb, .slice V.ac C.cons.length V.cc, .slice V.ag C.gates.length V.cg, .slice V.ay V.ny V.cy, .string V.cm]) (u' := u) ?_ (Kp.refl _ _) rfl
   go_simp
  |3, ho =>
   obtain rfl := Option.some.inj ho
   have e13 : a.tmps[13]?.getD undef = .agg #[.int .i64 C.max, .slice V.ai C.ins.length V.ci, .slice V.al C.lats.length V.cl, .slice V.ao C.outs.length V.co, .slice V.ab C.bads.length V.cb, .slice V.ac C.cons.length V.cc, .slice V.ag C.gates.length V.cg, .slice V.ay V.ny V.cy, .string V.cm] := slot_at (hdep ⟨2, .data⟩ (by simp) rfl _ 13 rfl rfl)
   refine lw_call (f := 24) (args := #[.agg #[.int .i64 C.max, .slice V.ai C.ins.length V.ci, .slice V.al C.lats.length V.cl, .slice V.ao C.outs.length V.co, .slice V.ab C.bads.length V.cb, .slice V.ac C.cons.length V.cc, .slice V.ag C.gates.length V.cg, .slice V.ay V.ny V.cy, .string V.cm]]) ?_ ?_
   ·go_simp
   ·exact (HNw.out u hk).mono (by
     rintro e u' ⟨p, a4, c4, a5, c5, rfl, hM, hK⟩
     exact ⟨_, rfl, hK, p, a4, c4, a5, c5, rfl, hM⟩)
  |4, ho =>
   obtain rfl := Option.some.inj ho
   have r0 := (HR0.out.kp hk (fun h => h)).cell (i := 0) (v := .slice sa sn sc) rfl
   have r1 := (HR0.out.kp hk (fun h => h)).cell (i := 1) (v := .slice ga gn gc) rfl
   refine lw_value (v := .agg #[.slice sa sn sc, .slice ga gn gc]) (u' := u) ?_ (Kp.refl _ _) rfl
   go_simp
  |5, ho =>
   obtain rfl := Option.some.inj ho
   have e15 : a.tmps[15]?.getD undef = .agg #[.slice sa sn sc, .slice ga gn gc] := slot_at (hdep ⟨4, .data⟩ (by simp) rfl _ 15 rfl rfl)
   have hV : MacV 101 V C u (a.tmps.getD 14 undef) := hdep ⟨3, .data⟩ (by simp) rfl _ 14 rfl rfl
   obtain ⟨p, a4, c4, a5, c5, ev, hM⟩ := hV
   have e14 := slot_at ev
   refine lw_call (f := 25) (args := #[.pointer (some ⟨p, 0, none⟩), .agg #[.slice sa sn sc, .slice ga gn gc]]) ?_ ?_
   ·go_simp
   ·exact (HSs.out u p a4 c4 a5 c5 hk hM).mono (by
     rintro e u' ⟨v, rfl, hV, hK⟩
     exact ⟨v, rfl, hK, hV⟩)
  |6, ho =>
   obtain rfl := Option.some.inj ho
   refine lw_value (v := .slice (some ⟨u.heap.size, 0, none⟩) 0 0) (u' := u.alloc (.cells #[] 9)) ?_ ((Kp.refl _ _).alloc _) ⟨_, rfl, Blk.new _ _ _, hk.size⟩
   go_simp
  |7, ho =>
   obtain rfl := Option.some.inj ho
   have hV : (NamV N nl) u (a.tmps.getD 12 undef) := hdep ⟨1, .data⟩ (by simp) rfl _ 12 rfl rfl
   refine lw_value (v := a.tmps.getD 12 undef) (u' := u) ?_ (Kp.refl _ _) hV
   go_simp
  |8, ho =>
   obtain rfl := Option.some.inj ho
   have hV : (GriV ((List.range gn).map (stateM C st rows)) gn) u (a.tmps.getD 16 undef) := hdep ⟨5, .data⟩ (by simp) rfl _ 16 rfl rfl
   refine lw_value (v := a.tmps.getD 16 undef) (u' := u) ?_ (Kp.refl _ _) hV
   go_simp
  |9, ho =>
   obtain rfl := Option.some.inj ho
   have hV : (LitC wz.heap.size #[] 0 9) u (a.tmps.getD 17 undef) := hdep ⟨6, .data⟩ (by simp) rfl _ 17 rfl rfl
   refine lw_value (v := a.tmps.getD 17 undef) (u' := u) ?_ (Kp.refl _ _) hV
   go_simp
  |n + 10, _ => exact absurd hp (by simp [upTo])
 case hendLL =>
  intro a u hI
  have hsz : a.tmps.size = 76 := hI.size
  have hdf : a.defers = [] := hI.defers
  have f0 : a.tmps.getD 0 undef = _ := hI.off 0 (noDst_spec (p := upTo 10) (by kernel_rfl))
  have f1 : a.tmps.getD 1 undef = _ := hI.off 1 (noDst_spec (p := upTo 10) (by kernel_rfl))
  have f2 : a.tmps.getD 2 undef = _ := hI.off 2 (noDst_spec (p := upTo 10) (by kernel_rfl))
  have f3 : a.tmps.getD 3 undef = _ := hI.off 3 (noDst_spec (p := upTo 10) (by kernel_rfl))
  have f4 : a.tmps.getD 4 undef = _ := hI.off 4 (noDst_spec (p := upTo 10) (by kernel_rfl))
  have f8 : a.tmps.getD 8 undef = _ := hI.off 8 (noDst_spec (p := upTo 10) (by kernel_rfl))
  have f9 : a.tmps.getD 9 undef = _ := hI.off 9 (noDst_spec (p := upTo 10) (by kernel_rfl))
  have f10 : a.tmps.getD 10 undef = _ := hI.off 10 (noDst_spec (p := upTo 10) (by kernel_rfl))
  have f18 : a.tmps.getD 18 undef = _ := hI.off 18 (noDst_spec (p := upTo 10) (by kernel_rfl))
  have f19 : a.tmps.getD 19 undef = _ := hI.off 19 (noDst_spec (p := upTo 10) (by kernel_rfl))
  have f20 : a.tmps.getD 20 undef = _ := hI.off 20 (noDst_spec (p := upTo 10) (by kernel_rfl))
  have f21 : a.tmps.getD 21 undef = _ := hI.off 21 (noDst_spec (p := upTo 10) (by kernel_rfl))
  have f22 : a.tmps.getD 22 undef = _ := hI.off 22 (noDst_spec (p := upTo 10) (by kernel_rfl))
  have f23 : a.tmps.getD 23 undef = _ := hI.off 23 (noDst_spec (p := upTo 10) (by kernel_rfl))
  have f24 : a.tmps.getD 24 undef = _ := hI.off 24 (noDst_spec (p := upTo 10) (by kernel_rfl))
  have f25 : a.tmps.getD 25 undef = _ := hI.off 25 (noDst_spec (p := upTo 10) (by kernel_rfl))
  have f26 : a.tmps.getD 26 undef = _ := hI.off 26 (noDst_spec (p := upTo 10) (by kernel_rfl))
  have f27 : a.tmps.getD 27 undef = _ := hI.off 27 (noDst_spec (p := upTo 10) (by kernel_rfl))
  have f28 : a.tmps.getD 28 undef = _ := hI.off 28 (noDst_spec (p := upTo 10) (by kernel_rfl))
  have f29 : a.tmps.getD 29 undef = _ := hI.off 29 (noDst_spec (p := upTo 10) (by kernel_rfl))
  have f30 : a.tmps.getD 30 undef = _ := hI.off 30 (noDst_spec (p := upTo 10) (by kernel_rfl))
  have f31 : a.tmps.getD 31 undef = _ := hI.off 31 (noDst_spec (p := upTo 10) (by kernel_rfl))
  have f32 : a.tmps.getD 32 undef = _ := hI.off 32 (noDst_spec (p := upTo 10) (by kernel_rfl))
  have f33 : a.tmps.getD 33 undef = _ := hI.off 33 (noDst_spec (p := upTo 10) (by kernel_rfl))
  have f34 : a.tmps.getD 34 undef = _ := hI.off 34 (noDst_spec (p := upTo 10) (by kernel_rfl))
  have f35 : a.tmps.getD 35 undef = _ := hI.off 35 (noDst_spec (p := upTo 10) (by kernel_rfl))
  have f36 : a.tmps.getD 36 undef = _ := hI.off 36 (noDst_spec (p := upTo 10) (by kernel_rfl))
  have f37 : a.tmps.getD 37 undef = _ := hI.off 37 (noDst_spec (p := upTo 10) (by kernel_rfl))
  have f38 : a.tmps.getD 38 undef = _ := hI.off 38 (noDst_spec (p := upTo 10) (by kernel_rfl))
  have f39 : a.tmps.getD 39 undef = _ := hI.off 39 (noDst_spec (p := upTo 10) (by kernel_rfl))
  have f40 : a.tmps.getD 40 undef = _ := hI.off 40 (noDst_spec (p := upTo 10) (by kernel_rfl))
  have f41 : a.tmps.getD 41 undef = _ := hI.off 41 (noDst_spec (p := upTo 10) (by kernel_rfl))
  have f42 : a.tmps.getD 42 undef = _ := hI.off 42 (noDst_spec (p := upTo 10) (by kernel_rfl))
  have f43 : a.tmps.getD 43 undef = _ := hI.off 43 (noDst_spec (p := upTo 10) (by kernel_rfl))
  have f44 : a.tmps.getD 44 undef = _ := hI.off 44 (noDst_spec (p := upTo 10) (by kernel_rfl))
  have f45 : a.tmps.getD 45 undef = _ := hI.off 45 (noDst_spec (p := upTo 10) (by kernel_rfl))
  have f46 : a.tmps.getD 46 undef = _ := hI.off 46 (noDst_spec (p := upTo 10) (by kernel_rfl))
  have f47 : a.tmps.getD 47 undef = _ := hI.off 47 (noDst_spec (p := upTo 10) (by kernel_rfl))
  have f48 : a.tmps.getD 48 undef = _ := hI.off 48 (noDst_spec (p := upTo 10) (by kernel_rfl))
  have f49 : a.tmps.getD 49 undef = _ := hI.off 49 (noDst_spec (p := upTo 10) (by kernel_rfl))
  have f50 : a.tmps.getD 50 undef = _ := hI.off 50 (noDst_spec (p := upTo 10) (by kernel_rfl))
  have f51 : a.tmps.getD 51 undef = _ := hI.off 51 (noDst_spec (p := upTo 10) (by kernel_rfl))
  have f52 : a.tmps.getD 52 undef = _ := hI.off 52 (noDst_spec (p := upTo 10) (by kernel_rfl))
  have f53 : a.tmps.getD 53 undef = _ := hI.off 53 (noDst_spec (p := upTo 10) (by kernel_rfl))
  have f54 : a.tmps.getD 54 undef = _ := hI.off 54 (noDst_spec (p := upTo 10) (by kernel_rfl))
  have f55 : a.tmps.getD 55 undef = _ := hI.off 55 (noDst_spec (p := upTo 10) (by kernel_rfl))
  have f56 : a.tmps.getD 56 undef = _ := hI.off 56 (noDst_spec (p := upTo 10) (by kernel_rfl))
  have f57 : a.tmps.getD 57 undef = _ := hI.off 57 (noDst_spec (p := upTo 10) (by kernel_rfl))
  have f58 : a.tmps.getD 58 undef = _ := hI.off 58 (noDst_spec (p := upTo 10) (by kernel_rfl))
  have f59 : a.tmps.getD 59 undef = _ := hI.off 59 (noDst_spec (p := upTo 10) (by kernel_rfl))
  have f60 : a.tmps.getD 60 undef = _ := hI.off 60 (noDst_spec (p := upTo 10) (by kernel_rfl))
  have f61 : a.tmps.getD 61 undef = _ := hI.off 61 (noDst_spec (p := upTo 10) (by kernel_rfl))
  have f62 : a.tmps.getD 62 undef = _ := hI.off 62 (noDst_spec (p := upTo 10) (by kernel_rfl))
  have f63 : a.tmps.getD 63 undef = _ := hI.off 63 (noDst_spec (p := upTo 10) (by kernel_rfl))
  have f64 : a.tmps.getD 64 undef = _ := hI.off 64 (noDst_spec (p := upTo 10) (by kernel_rfl))
  have f65 : a.tmps.getD 65 undef = _ := hI.off 65 (noDst_spec (p := upTo 10) (by kernel_rfl))
  have f66 : a.tmps.getD 66 undef = _ := hI.off 66 (noDst_spec (p := upTo 10) (by kernel_rfl))
  have f67 : a.tmps.getD 67 undef = _ := hI.off 67 (noDst_spec (p := upTo 10) (by kernel_rfl))
  have f68 : a.tmps.getD 68 undef = _ := hI.off 68 (noDst_spec (p := upTo 10) (by kernel_rfl))
  have f69 : a.tmps.getD 69 undef = _ := hI.off 69 (noDst_spec (p := upTo 10) (by kernel_rfl))
  have f70 : a.tmps.getD 70 undef = _ := hI.off 70 (noDst_spec (p := upTo 10) (by kernel_rfl))
  have f71 : a.tmps.getD 71 undef = _ := hI.off 71 (noDst_spec (p := upTo 10) (by kernel_rfl))
  have f72 : a.tmps.getD 72 undef = _ := hI.off 72 (noDst_spec (p := upTo 10) (by kernel_rfl))
  have f73 : a.tmps.getD 73 undef = _ := hI.off 73 (noDst_spec (p := upTo 10) (by kernel_rfl))
  have f74 : a.tmps.getD 74 undef = _ := hI.off 74 (noDst_spec (p := upTo 10) (by kernel_rfl))
  have f75 : a.tmps.getD 75 undef = _ := hI.off 75 (noDst_spec (p := upTo 10) (by kernel_rfl))
  have g5 : (NamV N nl) u (a.tmps.getD 5 undef) := hI.val 7 _ 5 rfl rfl rfl
  have g6 : (GriV ((List.range gn).map (stateM C st rows)) gn) u (a.tmps.getD 6 undef) := hI.val 8 _ 6 rfl rfl rfl
  have g7 : (LitC wz.heap.size #[] 0 9) u (a.tmps.getD 7 undef) := hI.val 9 _ 7 rfl rfl rfl
  have f11 : a.tmps.getD 11 undef = .agg #[.int .i64 C.max, .slice V.ai C.ins.length V.ci, .slice V.al C.lats.length V.cl, .slice V.ao C.outs.length V.co, .slice V.ab C.bads.length V.cb, .slice V.ac C.cons.length V.cc, .slice V.ag C.gates.length V.cg, .slice V.ay V.ny V.cy, .string V.cm] := hI.val 0 _ 11 rfl rfl rfl
  have g12 : ((NamV N nl)) u (a.tmps.getD 12 undef) := hI.val 1 _ 12 rfl rfl rfl
  have f13 : a.tmps.getD 13 undef = .agg #[.int .i64 C.max, .slice V.ai C.ins.length V.ci, .slice V.al C.lats.length V.cl, .slice V.ao C.outs.length V.co, .slice V.ab C.bads.length V.cb, .slice V.ac C.cons.length V.cc, .slice V.ag C.gates.length V.cg, .slice V.ay V.ny V.cy, .string V.cm] := hI.val 2 _ 13 rfl rfl rfl
  have g14 : ((MacV 101 V C)) u (a.tmps.getD 14 undef) := hI.val 3 _ 14 rfl rfl rfl
  have f15 : a.tmps.getD 15 undef = .agg #[.slice sa sn sc, .slice ga gn gc] := hI.val 4 _ 15 rfl rfl rfl
  have g16 : ((GriV ((List.range gn).map (stateM C st rows)) gn)) u (a.tmps.getD 16 undef) := hI.val 5 _ 16 rfl rfl rfl
  have g17 : ((LitC wz.heap.size #[] 0 9)) u (a.tmps.getD 17 undef) := hI.val 6 _ 17 rfl rfl rfl
  have ha : a = ⟨#[a.tmps.getD 0 undef, a.tmps.getD 1 undef, a.tmps.getD 2 undef, a.tmps.getD 3 undef, a.tmps.getD 4 undef, a.tmps.getD 5 undef, a.tmps.getD 6 undef, a.tmps.getD 7 undef, a.tmps.getD 8 undef, a.tmps.getD 9 undef, a.tmps.getD 10 undef, a.tmps.getD 11 undef, a.tmps.getD 12 undef, a.tmps.getD 13 undef, a.tmps.getD 14 undef, a.tmps.getD 15 undef, a.tmps.getD 16 undef, a.tmps.getD 17 undef, a.tmps.getD 18 undef, a.tmps.getD 19 undef, a.tmps.getD 20 undef, a.tmps.getD 21 undef, a.tmps.getD 22 undef, a.tmps.getD 23 undef, a.tmps.getD 24 undef, a.tmps.getD 25 undef, a.tmps.getD 26 undef, a.tmps.getD 27 undef, a.tmps.getD 28 undef, a.tmps.getD 29 undef, a.tmps.getD 30 undef, a.tmps.getD 31 undef, a.tmps.getD 32 undef, a.tmps.getD 33 undef, a.tmps.getD 34 undef, a.tmps.getD 35 undef, a.tmps.getD 36 undef, a.tmps.getD 37 undef, a.tmps.getD 38 undef, a.tmps.getD 39 undef, a.tmps.getD 40 undef, a.tmps.getD 41 undef, a.tmps.getD 42 undef, a.tmps.getD 43 undef, a.tmps.getD 44 undef, a.tmps.getD 45 undef, a.tmps.getD 46 undef, a.tmps.getD 47 undef, a.tmps.getD 48 undef, a.tmps.getD 49 undef, a.tmps.getD 50 undef, a.tmps.getD 51 undef, a.tmps.getD 52 undef, a.tmps.getD 53 undef, a.tmps.getD 54 undef, a.tmps.getD 55 undef, a.tmps.getD 56 undef, a.tmps.getD 57 undef, a.tmps.getD 58 undef, a.tmps.getD 59 undef, a.tmps.getD 60 undef, a.tmps.getD 61 undef, a.tmps.getD 62 undef, a.tmps.getD 63 undef, a.tmps.getD 64 undef, a.tmps.getD 65 undef, a.tmps.getD 66 undef, a.tmps.getD 67 undef, a.tmps.getD 68 undef, a.tmps.getD 69 undef, a.tmps.getD 70 undef, a.tmps.getD 71 undef, a.tmps.getD 72 undef, a.tmps.getD 73 undef, a.tmps.getD 74 undef, a.tmps.getD 75 undef], a.defers⟩ := act_list a 76 hsz
  rw [hdf, f0, f1, f2, f3, f4, f8, f9, f10, f11, f13, f15, f18, f19, f20, f21, f22, f23, f24, f25, f26, f27, f28, f29, f30, f31, f32, f33, f34, f35, f36, f37, f38, f39, f40, f41, f42, f43, f44, f45, f46, f47, f48, f49, f50, f51, f52, f53, f54, f55, f56, f57, f58, f59, f60, f61, f62, f63, f64, f65, f66, f67, f68, f69, f70, f71, f72, f73, f74, f75] at ha
  obtain ⟨x5, hx5⟩ : ∃ x, a.tmps.getD 5 undef = x := ⟨_, rfl⟩
  obtain ⟨x6, hx6⟩ : ∃ x, a.tmps.getD 6 undef = x := ⟨_, rfl⟩
  obtain ⟨x7, hx7⟩ : ∃ x, a.tmps.getD 7 undef = x := ⟨_, rfl⟩
  obtain ⟨x12, hx12⟩ : ∃ x, a.tmps.getD 12 undef = x := ⟨_, rfl⟩
  obtain ⟨x14, hx14⟩ : ∃ x, a.tmps.getD 14 undef = x := ⟨_, rfl⟩
  obtain ⟨x16, hx16⟩ : ∃ x, a.tmps.getD 16 undef = x := ⟨_, rfl⟩
  obtain ⟨x17, hx17⟩ : ∃ x, a.tmps.getD 17 undef = x := ⟨_, rfl⟩
  rw [hx5, hx6, hx7, hx12, hx14, hx16, hx17] at ha
  rw [hx5] at g5
  rw [hx6] at g6
  rw [hx7] at g7
  rw [hx12] at g12
  rw [hx14] at g14
  rw [hx16] at g16
  rw [hx17] at g17
  have hku := hI.kp
  clear hI hsz hdf f0 f1 f2 f3 f4 f8 f9 f10 f11 f13 f15 f18 f19 f20 f21 f22 f23 f24 f25 f26 f27 f28 f29 f30 f31 f32 f33 f34 f35 f36 f37 f38 f39 f40 f41 f42 f43 f44 f45 f46 f47 f48 f49 f50 f51 f52 f53 f54 f55 f56 f57 f58 f59 f60 f61 f62 f63 f64 f65 f66 f67 f68 f69 f70 f71 f72 f73 f74 f75 hx5 hx6 hx7 hx12 hx14 hx16 hx17
  subst ha
  refine wpAny_done (by kernel_rfl) ?_ _
  clear g12 g16 g17 g14
  obtain ⟨na, nc, ev, hr⟩ := g5
  subst ev
  have HNr := Lib.hid hr
  obtain ⟨xa, c7, ev, hgr⟩ := g6
  subst ev
  have HGr := Lib.hid hgr
  obtain ⟨gq, ev, hb7, hge⟩ := g7
  subst ev
  have HO0 := Lib.hid (show OwnE u wz.heap.size u.heap.size 9 (.slice (some ⟨gq, 0, none⟩) 0 0) (strs (chK C N st rows 0)) from .inl ⟨rfl, gq, rfl, hb7, hge⟩)
  have HKu := Lib.hid hku
  clear hr hgr hb7 hge hku
  go_wp2_with fail
  go_loopw [7, 8] (fun v7 v8 wr => ∃ k : Nat, v8 = .int .i64 ((k + 1 : Nat) : Int) ∧ (k + 1 ≤ gn ∨ k = 0) ∧ OwnE wr wz.heap.size u.heap.size 9 v7 (strs (chK C N st rows k)) ∧ Kp (fun _ => False) u wr) (fun _ v8 _ => gn - (intOf v8).toNat)
  case atStart => exact ⟨0, rfl, .inr rfl, HO0.out, Kp.refl _ _⟩
  case round =>
   obtain ⟨k, rfl, hk, hO, hK⟩ := hrel
   obtain ⟨wp, rfl⟩ : ∃ wp : World, wp = wr := ⟨_, rfl⟩
   have HO := Lib.hid hO
   have HK := Lib.hid hK
   clear hO hK HO0
   by_cases hlt : k + 1 < gn
   ·obtain ⟨bg, og, xb, xm, xd, exa, hxc, hxs⟩ := GS.states HGr.out (k := k + 1) hlt
    obtain ⟨bg2, og2, yb, ym, yd, eya, hyc, hys⟩ := GS.states HGr.out (k := k) (by omega)
    subst exa
    simp only [Option.some.injEq, Addr.mk.injEq, and_true] at eya
    obtain ⟨rfl, rfl⟩ := eya
    have x1 := HK.out.cellK hxc
    have y1 := HK.out.cellK hyc
    have HXs := Lib.hid (hxs.kp HK.out)
    have HYs := Lib.hid (hys.kp HK.out)
    obtain ⟨sA, hsA⟩ : ∃ s, stateM C st rows k = s := ⟨_, rfl⟩
    obtain ⟨sB, hsB⟩ : ∃ s, stateM C st rows (k + 1) = s := ⟨_, rfl⟩
    have hlB : sB.length = nl := by rw [← hsB, stateM_len, HNl.out]
    have hlA : sA.length = nl := by rw [← hsA, stateM_len, HNl.out]
    rw [hsB] at HXs
    rw [hsA] at HYs
    have hxm : nl = xm := by rw [← HXs.out.len, hlB]
    have hym : nl = ym := by rw [← HYs.out.len, hlA]
    subst hxm hym
    have HT := Lib.hid (show chT C N st rows k = ⟨(jn (chW N sA sB nl)).toArray⟩ by unfold chT; rw [hsA, hsB, HNl.out])
    have HLa := Lib.hid hlA
    have HLb := Lib.hid hlB
    have HNr1 := Lib.hid (HNr.out.kp HK.out (fun _ _ h => h))
    have HZn : Hid (∀ i, (jn (chW N sA sB i)).length ≤ i * 2000002) := Lib.hid (fun i => Nat.le_trans (jnw_len (m := 2000001) (chW_word HNs.out)) (Nat.mul_le_mul_right _ (chW_len i)))
    have k0 : (0 : Int) ≤ (k : Int) := by omega
    have k1 : ((k : Int) + 1) < (gn : Int) := by omega
    have k2 : ((k + 1 : Nat) : Int) = (k : Int) + 1 := by omega
    have k3 : IntKind.i64.wrap ((k : Int) + 1 - 1) = (k : Int) := by rw [IntKind.wrap_i64]; omega
    clear hxc hxs hyc hys hsA hsB hlA hlB
    go_upto_block 2 with fail
    go_cut [9] from 24 to 71 (fun s9 wx => s9 = .string (chT C N st rows k) ∧ Kp (fun _ => False) wp wx)
    case first =>
     go_wp2_with fail
     go_loopw [9, 10] (fun v9 v10 wr2 => ∃ (i : Nat) (Tq : ByteArray), v10 = .int .i64 i ∧ i ≤ nl ∧ v9 = .string Tq ∧ Tq = ⟨(jn (chW N sA sB i)).toArray⟩ ∧ Kp (fun _ => False) wp wr2) (fun _ v10 _ => nl - (intOf v10).toNat)
     case atStart => exact ⟨0, _, rfl, Nat.zero_le _, rfl, rfl, Kp.refl _ _⟩
     case round =>
      obtain ⟨i, Tq, rfl, hi, rfl, hTX, hKi⟩ := hrel
      obtain ⟨wq, hwq⟩ : ∃ wq : World, wq = wr := ⟨_, rfl⟩
      rw [← hwq] at hKi ⊢
      clear hwq
      have HKi := Lib.hid hKi
      have HTX := Lib.hid hTX
      have z0 := HZn.out i
      have x2 := hKi.cellK x1
      have y2 := hKi.cellK y1
      clear hKi hTX
      by_cases hil : i < nl
      ·obtain ⟨b1, o1, rfl, e1⟩ := (HXs.out.kp HKi.out).row i _ (bv_at (by rw [HLb.out]; exact hil))
       obtain ⟨b2, o2, rfl, e2⟩ := (HYs.out.kp HKi.out).row i _ (bv_at (by rw [HLa.out]; exact hil))
       obtain ⟨b3, o3, rfl, hnc⟩ := (HNr1.out.kp HKi.out (fun _ _ h => h)) i _ (nK_at (by rw [HNN.out]; exact hil))
       have zn := nK_size HNs.out i
       have zT : Tq.size ≤ 2000002000 := by rw [HTX.out, ba_list]; have : i * 2000002 ≤ 1000 * 2000002 := Nat.mul_le_mul_right _ (by omega); omega
       obtain ⟨nm, hnm⟩ : ∃ s, nK N i = s := ⟨_, rfl⟩
       rw [hnm] at hnc zn
       obtain ⟨bB, hvB⟩ : ∃ b, vb sB i = b := ⟨_, rfl⟩
       obtain ⟨bA, hvA⟩ : ∃ b, vb sA i = b := ⟨_, rfl⟩
       rw [hvB] at e1
       rw [hvA] at e2
       have j0 : (0 : Int) ≤ (i : Int) := by omega
       have j1 : (i : Int) < (nl : Int) := by omega
       cases bB
       ·cases bA
        ·have HN := Lib.hid (show Tq = ⟨(jn (chW N sA sB (i + 1))).toArray⟩ by rw [chW_same (show vb sB i = vb sA i by rw [hvA, hvB])]; exact HTX.out)
         clear hvA hvB HTX hnm hnc
         go_upto_region 9 with fail
         go_quiet (fail)
         go_wp2_with fail
         go_roundw
         case rel => exact ⟨i + 1, _, by go_num, by omega, rfl, HN.out, HKi.out.drewN _⟩
         case measure => simp [intOf]; omega
        ·have hne : ¬ vb sB i = vb sA i := by rw [hvA, hvB]; decide
         by_cases hE : chW N sA sB i = []
         ·skip
          obtain rfl := ch_empty HTX.out hE
          have hF := ch_first (x := false) hE hvB hne
          obtain ⟨A1, hA1⟩ : ∃ A : ByteArray, (⟨#[]⟩ : ByteArray) ++ ⟨#[45]⟩ = A := ⟨_, rfl⟩
          have zA1 : A1.size ≤ 1 := by rw [← hA1]; decide
          have HA1 := fun (u : World) => show (Op.stringOp .add (⟨#[]⟩ : ByteArray) ⟨#[45]⟩).run Tryz.prog u = .ok (.string A1) u by rw [← hA1]; exact run_string_add_sum _ _ _ (by decide)
          obtain ⟨A2, hA2⟩ : ∃ A : ByteArray, A1 ++ nm = A := ⟨_, rfl⟩
          have HA2 := fun (u : World) => show (Op.stringOp .add A1 nm).run Tryz.prog u = .ok (.string A2) u by rw [← hA2]; exact run_string_add_sum _ _ _ (by omega)
          have HN := Lib.hid (show A2 = ⟨(jn (chW N sA sB (i + 1))).toArray⟩ by rw [← hF, ← hA2, ← hA1, hnm]; rfl)
          clear hF hA1 hA2 zA1 hE hne hvA hvB HTX hnm
          go_upto_region 9 with fail
          go_quiet (fail)
          go_wp2_with fail
          go_roundw
          case rel => exact ⟨i + 1, _, by go_num, by omega, rfl, HN.out, HKi.out.drewN _⟩
          case measure => simp [intOf]; omega
         ·skip
          have hF := ch_more (x := false) HTX.out hE hvB hne
          obtain ⟨n1, n2, n3⟩ := not_empty (ch_full HTX.out hE)
          obtain ⟨A0, hA0⟩ : ∃ A : ByteArray, Tq ++ ⟨#[32]⟩ = A := ⟨_, rfl⟩
          have zA0 : A0.size ≤ 2000002001 := by rw [← hA0, ByteArray.size_append]; have := (by decide : (⟨#[32]⟩ : ByteArray).size ≤ 1); omega
          have HA0 := fun (u : World) => show (Op.stringOp .add Tq ⟨#[32]⟩).run Tryz.prog u = .ok (.string A0) u by rw [← hA0]; exact run_string_add_sum _ _ _ (by have := (by decide : (⟨#[32]⟩ : ByteArray).size ≤ 1); omega)
          obtain ⟨A1, hA1⟩ : ∃ A : ByteArray, A0 ++ ⟨#[45]⟩ = A := ⟨_, rfl⟩
          have zA1 : A1.size ≤ 2000002002 := by rw [← hA1, ByteArray.size_append]; have := (by decide : (⟨#[45]⟩ : ByteArray).size ≤ 1); omega
          have HA1 := fun (u : World) => show (Op.stringOp .add A0 ⟨#[45]⟩).run Tryz.prog u = .ok (.string A1) u by rw [← hA1]; exact run_string_add_sum _ _ _ (by have := (by decide : (⟨#[45]⟩ : ByteArray).size ≤ 1); omega)
          obtain ⟨A2, hA2⟩ : ∃ A : ByteArray, A1 ++ nm = A := ⟨_, rfl⟩
          have HA2 := fun (u : World) => show (Op.stringOp .add A1 nm).run Tryz.prog u = .ok (.string A2) u by rw [← hA2]; exact run_string_add_sum _ _ _ (by omega)
          have HN := Lib.hid (show A2 = ⟨(jn (chW N sA sB (i + 1))).toArray⟩ by rw [← hF, ← hA2, ← hA1, ← hA0, hnm]; rfl)
          clear hF hA1 hA2 zA1 hE hne hvA hvB HTX hnm hA0 zA0
          go_upto_region 9 with fail
          go_quiet (fail)
          go_wp2_with fail
          go_roundw
          case rel => exact ⟨i + 1, _, by go_num, by omega, rfl, HN.out, HKi.out.drewN _⟩
          case measure => simp [intOf]; omega
       ·cases bA
        ·have hne : ¬ vb sB i = vb sA i := by rw [hvA, hvB]; decide
         by_cases hE : chW N sA sB i = []
         ·skip
          obtain rfl := ch_empty HTX.out hE
          have hF := ch_first (x := true) hE hvB hne
          obtain ⟨A1, hA1⟩ : ∃ A : ByteArray, (⟨#[]⟩ : ByteArray) ++ ⟨#[43]⟩ = A := ⟨_, rfl⟩
          have zA1 : A1.size ≤ 1 := by rw [← hA1]; decide
          have HA1 := fun (u : World) => show (Op.stringOp .add (⟨#[]⟩ : ByteArray) ⟨#[43]⟩).run Tryz.prog u = .ok (.string A1) u by rw [← hA1]; exact run_string_add_sum _ _ _ (by decide)
          obtain ⟨A2, hA2⟩ : ∃ A : ByteArray, A1 ++ nm = A := ⟨_, rfl⟩
          have HA2 := fun (u : World) => show (Op.stringOp .add A1 nm).run Tryz.prog u = .ok (.string A2) u by rw [← hA2]; exact run_string_add_sum _ _ _ (by omega)
          have HN := Lib.hid (show A2 = ⟨(jn (chW N sA sB (i + 1))).toArray⟩ by rw [← hF, ← hA2, ← hA1, hnm]; rfl)
          clear hF hA1 hA2 zA1 hE hne hvA hvB HTX hnm
          go_upto_region 9 with fail
          go_quiet (fail)
          go_wp2_with fail
          go_roundw
          case rel => exact ⟨i + 1, _, by go_num, by omega, rfl, HN.out, HKi.out.drewN _⟩
          case measure => simp [intOf]; omega
         ·skip
          have hF := ch_more (x := true) HTX.out hE hvB hne
          obtain ⟨n1, n2, n3⟩ := not_empty (ch_full HTX.out hE)
          obtain ⟨A0, hA0⟩ : ∃ A : ByteArray, Tq ++ ⟨#[32]⟩ = A := ⟨_, rfl⟩
          have zA0 : A0.size ≤ 2000002001 := by rw [← hA0, ByteArray.size_append]; have := (by decide : (⟨#[32]⟩ : ByteArray).size ≤ 1); omega
          have HA0 := fun (u : World) => show (Op.stringOp .add Tq ⟨#[32]⟩).run Tryz.prog u = .ok (.string A0) u by rw [← hA0]; exact run_string_add_sum _ _ _ (by have := (by decide : (⟨#[32]⟩ : ByteArray).size ≤ 1); omega)
          obtain ⟨A1, hA1⟩ : ∃ A : ByteArray, A0 ++ ⟨#[43]⟩ = A := ⟨_, rfl⟩
          have zA1 : A1.size ≤ 2000002002 := by rw [← hA1, ByteArray.size_append]; have := (by decide : (⟨#[43]⟩ : ByteArray).size ≤ 1); omega
          have HA1 := fun (u : World) => show (Op.stringOp .add A0 ⟨#[43]⟩).run Tryz.prog u = .ok (.string A1) u by rw [← hA1]; exact run_string_add_sum _ _ _ (by have := (by decide : (⟨#[43]⟩ : ByteArray).size ≤ 1); omega)
          obtain ⟨A2, hA2⟩ : ∃ A : ByteArray, A1 ++ nm = A := ⟨_, rfl⟩
          have HA2 := fun (u : World) => show (Op.stringOp .add A1 nm).run Tryz.prog u = .ok (.string A2) u by rw [← hA2]; exact run_string_add_sum _ _ _ (by omega)
          have HN := Lib.hid (show A2 = ⟨(jn (chW N sA sB (i + 1))).toArray⟩ by rw [← hF, ← hA2, ← hA1, ← hA0, hnm]; rfl)
          clear hF hA1 hA2 zA1 hE hne hvA hvB HTX hnm hA0 zA0
          go_upto_region 9 with fail
          go_quiet (fail)
          go_wp2_with fail
          go_roundw
          case rel => exact ⟨i + 1, _, by go_num, by omega, rfl, HN.out, HKi.out.drewN _⟩
          case measure => simp [intOf]; omega
        ·have HN := Lib.hid (show Tq = ⟨(jn (chW N sA sB (i + 1))).toArray⟩ by rw [chW_same (show vb sB i = vb sA i by rw [hvA, hvB])]; exact HTX.out)
         clear hvA hvB HTX hnm hnc
         go_upto_region 9 with fail
         go_quiet (fail)
         go_wp2_with fail
         go_roundw
         case rel => exact ⟨i + 1, _, by go_num, by omega, rfl, HN.out, HKi.out.drewN _⟩
         case measure => simp [intOf]; omega
      ·obtain rfl : i = nl := by omega
       have HN := Lib.hid (HTX.out.trans HT.out.symm)
       go_wp2_with fail
       go_meet
       exact ⟨congrArg Value.string HN.out, HKi.out⟩
    case rest =>
     obtain ⟨rfl, hKc⟩ := hcut
     have HSn := Lib.hid (show strs (chK C N st rows (k + 1)) = strs (chK C N st rows k) ++ [.string (chT C N st rows k)] by rw [chK_succ, strs_snoc])
     obtain ⟨s, hs⟩ : ∃ s, chT C N st rows k = s := ⟨_, rfl⟩
     rw [hs] at HSn ⊢
     have HKc := Lib.hid (HK.out.trans hKc (fun _ _ h => h))
     have HLi := Lib.hid (show (strs (chK C N st rows k)).length = k by rw [strs_length, chK_len])
     have HOw := Lib.hid ((HO.out.kp hKc).kp ((Kp.refl _ wc).alloc (.cells #[.string s] 9)))
     have HNew := Lib.hid (Blk.new wc #[.string s] 9)
     clear hs hKc x1 y1 k3
     go_wp2_with (at_builtin; refine wpList_append1_e rfl _ _ 38 9 rfl Tryz.underlying38 HIs.out rfl HOw.out rfl ⟨wc.heap.size, 0, none⟩ (.string s) rfl (HNew.out.cell rfl) rfl ?d1 ?d2 ?d3 ?_)
     case d1 => rw [HLi.out]; omega
     case d2 => rw [HLi.out]; unfold maxLen; omega
     case d3 => have := HKc.out.size; simp; omega
     intro v' w5 hO5 hg5
     have HR5 := Lib.hid (show OwnE w5 wz.heap.size u.heap.size 9 v' (strs (chK C N st rows (k + 1))) ∧ Kp (fun _ => False) u w5 from ⟨by rw [HSn.out]; exact hO5, (HKc.out.alloc _).trans hg5 (fun j hj e => by omega)⟩)
     clear hO5 hg5 HNew HOw
     go_wp2_with fail
     go_roundw
     case rel => exact ⟨k + 1, by go_num, .inl (by omega), HR5.out⟩
     case measure => simp [intOf]; omega
   ·have hkk : gn - 1 = k := by omega
    have HKf := Lib.hid ((HK0.out.trans HKu.out (fun _ _ h => h)).trans HK.out (fun _ _ h => h))
    have HOf := Lib.hid (show Own wp w.heap.size 9 u7 (strs (chK C N st rows (gn - 1))) by rw [hkk]; exact (HO.out.own HKu.out.size).mono HK0.out.size)
    have k4 : ¬ ((k : Int) + 1 < (gn : Int)) := by omega
    clear hkk
    go_wp2_with fail
    go_ret
    exact ⟨_, rfl, HOf.out, HKf.out⟩

end Go.Proofs.YtghlklcolepfmaaGreatDoor

/-
  latchetlaw11.Few. (Printed by mkfew.py.)
-/
namespace Go.Proofs.YtghlklcolepfmaaGreatDoor
open Go Go.RowKit

structure FewP (V : CV) (C : Circ) (m : Nat) : Prop where
  i : C.ins.length ≤ m
  l : C.lats.length ≤ m
  g : C.gates.length ≤ m
  o : C.outs.length ≤ m
  b : C.bads.length ≤ m
  c : C.cons.length ≤ m
  y : V.ny ≤ m
  t : V.cm.size ≤ 300

theorem FewP.few {V : CV} {C : Circ} {m k : Nat} (h : FewP V C m) (hk : m ≤ k) : CFew C k := ⟨Nat.le_trans h.i hk, Nat.le_trans h.l hk, Nat.le_trans h.o hk, Nat.le_trans h.b hk, Nat.le_trans h.c hk, Nat.le_trans h.g hk⟩

set_option maxRecDepth 100000 in
set_option maxHeartbeats 4000000 in
theorem law11_Few (V : CV) (C : Circ) (m : Nat) (w : World) :
  Calls Tryz.prog 17 #[.agg (cvals V C), .int .i64 m] w fun e w' => ∃ r : Bool, e = .returned (.bool r) ∧ (r = true ↔ FewP V C m) ∧ Kp (fun _ => False) w w' := by
 obtain ⟨wz, hwz⟩ : ∃ wz : World, wz = w.alloc (.cells (cvals V C) 27) := ⟨_, rfl⟩
 have HK0 := Lib.hid (show Kp (fun _ => False) w wz by rw [hwz]; exact (Kp.refl _ w).alloc _)
 obtain ⟨ni, hni⟩ : ∃ n, C.ins.length = n := ⟨_, rfl⟩
 obtain ⟨nl, hnl⟩ : ∃ n, C.lats.length = n := ⟨_, rfl⟩
 obtain ⟨no, hno⟩ : ∃ n, C.outs.length = n := ⟨_, rfl⟩
 obtain ⟨nb, hnb⟩ : ∃ n, C.bads.length = n := ⟨_, rfl⟩
 obtain ⟨nc, hnc⟩ : ∃ n, C.cons.length = n := ⟨_, rfl⟩
 obtain ⟨ng, hng⟩ : ∃ n, C.gates.length = n := ⟨_, rfl⟩
 obtain ⟨ny, hny⟩ : ∃ n, V.ny = n := ⟨_, rfl⟩
 obtain ⟨cm, hcm⟩ : ∃ s, V.cm = s := ⟨_, rfl⟩
 have HF := Lib.hid (show FewP V C m ↔ ni ≤ m ∧ nl ≤ m ∧ ng ≤ m ∧ no ≤ m ∧ nb ≤ m ∧ nc ≤ m ∧ ny ≤ m ∧ cm.size ≤ 300 from ⟨fun ⟨h1, h2, h3, h4, h5, h6, h7, h8⟩ => ⟨hni ▸ h1, hnl ▸ h2, hng ▸ h3, hno ▸ h4, hnb ▸ h5, hnc ▸ h6, hny ▸ h7, hcm ▸ h8⟩, fun ⟨h1, h2, h3, h4, h5, h6, h7, h8⟩ => ⟨hni ▸ h1, hnl ▸ h2, hng ▸ h3, hno ▸ h4, hnb ▸ h5, hnc ▸ h6, hny ▸ h7, hcm ▸ h8⟩⟩)
 have HC0 : Hid (Blk wz w.heap.size #[.int .i64 C.max, .slice V.ai ni V.ci, .slice V.al nl V.cl, .slice V.ao no V.co, .slice V.ab nb V.cb, .slice V.ac nc V.cc, .slice V.ag ng V.cg, .slice V.ay ny V.cy, .string cm] 27) := Lib.hid (by
  have h := Blk.new w (cvals V C) 27
  rw [← hwz] at h
  unfold cvals at h
  rw [hni, hnl, hno, hnb, hnc, hng, hny, hcm] at h
  exact h)
 obtain ⟨d0, d1, d2, d3, d4, d5, d6, d7, d8⟩ := Blk.cells9 HC0.out
 have HZ := Lib.hid hwz
 clear hni hnl hno hnb hnc hng hny hcm hwz
 by_cases h0 : ni ≤ m
 case neg =>
  have HNo := Lib.hid (show ¬ (ni ≤ m ∧ nl ≤ m ∧ ng ≤ m ∧ no ≤ m ∧ nb ≤ m ∧ nc ≤ m ∧ ny ≤ m ∧ cm.size ≤ 300) from fun h => h0 h.1)
  go_enter Tryz.func17, Tryz.ntmps17
  go_upto_region 1 with fail
  rw [← HZ.out]
  clear HZ
  go_wp2_with fail
  go_ret
  exact ⟨false, rfl, ⟨fun h => (by cases h), fun h => absurd (HF.out.1 h) HNo.out⟩, HK0.out⟩
 by_cases h1 : nl ≤ m
 case neg =>
  have HNo := Lib.hid (show ¬ (ni ≤ m ∧ nl ≤ m ∧ ng ≤ m ∧ no ≤ m ∧ nb ≤ m ∧ nc ≤ m ∧ ny ≤ m ∧ cm.size ≤ 300) from fun h => h1 h.2.1)
  go_enter Tryz.func17, Tryz.ntmps17
  go_upto_region 1 with fail
  rw [← HZ.out]
  clear HZ
  go_wp2_with fail
  go_ret
  exact ⟨false, rfl, ⟨fun h => (by cases h), fun h => absurd (HF.out.1 h) HNo.out⟩, HK0.out⟩
 by_cases h2 : ng ≤ m
 case neg =>
  have HNo := Lib.hid (show ¬ (ni ≤ m ∧ nl ≤ m ∧ ng ≤ m ∧ no ≤ m ∧ nb ≤ m ∧ nc ≤ m ∧ ny ≤ m ∧ cm.size ≤ 300) from fun h => h2 h.2.2.1)
  go_enter Tryz.func17, Tryz.ntmps17
  go_upto_region 1 with fail
  rw [← HZ.out]
  clear HZ
  go_wp2_with fail
  go_ret
  exact ⟨false, rfl, ⟨fun h => (by cases h), fun h => absurd (HF.out.1 h) HNo.out⟩, HK0.out⟩
 by_cases h3 : no ≤ m
 case neg =>
  have HNo := Lib.hid (show ¬ (ni ≤ m ∧ nl ≤ m ∧ ng ≤ m ∧ no ≤ m ∧ nb ≤ m ∧ nc ≤ m ∧ ny ≤ m ∧ cm.size ≤ 300) from fun h => h3 h.2.2.2.1)
  go_enter Tryz.func17, Tryz.ntmps17
  go_upto_region 1 with fail
  rw [← HZ.out]
  clear HZ
  go_wp2_with fail
  go_ret
  exact ⟨false, rfl, ⟨fun h => (by cases h), fun h => absurd (HF.out.1 h) HNo.out⟩, HK0.out⟩
 by_cases h4 : nb ≤ m
 case neg =>
  have HNo := Lib.hid (show ¬ (ni ≤ m ∧ nl ≤ m ∧ ng ≤ m ∧ no ≤ m ∧ nb ≤ m ∧ nc ≤ m ∧ ny ≤ m ∧ cm.size ≤ 300) from fun h => h4 h.2.2.2.2.1)
  go_enter Tryz.func17, Tryz.ntmps17
  go_upto_region 1 with fail
  rw [← HZ.out]
  clear HZ
  go_wp2_with fail
  go_ret
  exact ⟨false, rfl, ⟨fun h => (by cases h), fun h => absurd (HF.out.1 h) HNo.out⟩, HK0.out⟩
 by_cases h5 : nc ≤ m
 case neg =>
  have HNo := Lib.hid (show ¬ (ni ≤ m ∧ nl ≤ m ∧ ng ≤ m ∧ no ≤ m ∧ nb ≤ m ∧ nc ≤ m ∧ ny ≤ m ∧ cm.size ≤ 300) from fun h => h5 h.2.2.2.2.2.1)
  go_enter Tryz.func17, Tryz.ntmps17
  go_upto_region 1 with fail
  rw [← HZ.out]
  clear HZ
  go_wp2_with fail
  go_ret
  exact ⟨false, rfl, ⟨fun h => (by cases h), fun h => absurd (HF.out.1 h) HNo.out⟩, HK0.out⟩
 by_cases h6 : ny ≤ m
 case neg =>
  have HNo := Lib.hid (show ¬ (ni ≤ m ∧ nl ≤ m ∧ ng ≤ m ∧ no ≤ m ∧ nb ≤ m ∧ nc ≤ m ∧ ny ≤ m ∧ cm.size ≤ 300) from fun h => h6 h.2.2.2.2.2.2.1)
  go_enter Tryz.func17, Tryz.ntmps17
  go_upto_region 1 with fail
  rw [← HZ.out]
  clear HZ
  go_wp2_with fail
  go_ret
  exact ⟨false, rfl, ⟨fun h => (by cases h), fun h => absurd (HF.out.1 h) HNo.out⟩, HK0.out⟩
 by_cases h7 : cm.size ≤ 300
 case neg =>
  have HNo := Lib.hid (show ¬ (ni ≤ m ∧ nl ≤ m ∧ ng ≤ m ∧ no ≤ m ∧ nb ≤ m ∧ nc ≤ m ∧ ny ≤ m ∧ cm.size ≤ 300) from fun h => h7 h.2.2.2.2.2.2.2)
  have hd : decide ((cm.size : Int) ≤ 300) = false := decide_eq_false (by omega)
  go_enter Tryz.func17, Tryz.ntmps17
  go_upto_region 1 with fail
  rw [← HZ.out]
  clear HZ
  go_wp2_with fail
  go_ret
  exact ⟨false, rfl, ⟨fun h => (by cases h), fun h => absurd (HF.out.1 h) HNo.out⟩, HK0.out⟩
 have HY := Lib.hid (show ni ≤ m ∧ nl ≤ m ∧ ng ≤ m ∧ no ≤ m ∧ nb ≤ m ∧ nc ≤ m ∧ ny ≤ m ∧ cm.size ≤ 300 from ⟨h0, h1, h2, h3, h4, h5, h6, h7⟩)
 have hd : decide ((cm.size : Int) ≤ 300) = true := decide_eq_true (by omega)
 go_enter Tryz.func17, Tryz.ntmps17
 go_upto_region 1 with fail
 rw [← HZ.out]
 clear HZ
 go_wp2_with fail
 go_ret
 exact ⟨true, rfl, ⟨fun _ => HF.out.2 HY.out, fun _ => rfl⟩, HK0.out⟩

end Go.Proofs.YtghlklcolepfmaaGreatDoor

/-
  latchetref11.Check: what is wrong with any circuit. (Printed by mkrefcheck.py.)
-/
namespace Go.Proofs.YtghlklcolepfmaaGreatDoor
open Go.RowKit

theorem ref02_HasQ (a : Option Addr) (n c q : Nat) (L : List Int) (x : Int) (w : World) (hr : IntsAt w a L) (hn : L.length = n) (hm : n ≤ 9000000000) :
  Calls Tryz.prog 47 #[.slice a n c, .int .i64 x] (w.drewN q) fun e w' => e = .returned (.bool (decide (x ∈ L))) ∧ w' = w.drewN q :=
 (ref02_Has a n c L x (w.drewN q) hr hn hm).mono fun _ _ ⟨h1, h2⟩ => ⟨h1, h2.symm⟩

theorem range_bad1 {C : Circ} {k : Nat} (hk : k < C.owned.length) (h : ownB C.max (gi C.owned k) = false) : rangeB C = false := by
 unfold rangeB
 have : C.owned.all (ownB C.max) = false := by
  rw [List.all_eq_false]
  refine ⟨gi C.owned k, ?_, by simp [h]⟩
  unfold gi; rw [List.getElem?_eq_getElem hk]; exact List.getElem_mem hk
 rw [this]; rfl
theorem range_bad2 {C : Circ} {k : Nat} (hk : k < C.used.length) (h : useB C.max (gi C.used k) = false) : rangeB C = false := by
 unfold rangeB
 have : C.used.all (useB C.max) = false := by
  rw [List.all_eq_false]
  refine ⟨gi C.used k, ?_, by simp [h]⟩
  unfold gi; rw [List.getElem?_eq_getElem hk]; exact List.getElem_mem hk
 rw [this, Bool.and_false]
theorem range_bad3 {C : Circ} {k : Nat} (hk : k < C.lats.length) (h : resB (g3 C.lats k) = false) : rangeB C = false := by
 unfold rangeB
 have : C.lats.all resB = false := by
  rw [List.all_eq_false]
  exact ⟨_, g3_mem hk, by simp [h]⟩
 rw [this, Bool.and_false, Bool.false_and]
theorem range_all {C : Circ} (h1 : C.owned.all (ownB C.max) = true) (h2 : C.used.all (useB C.max) = true) (h3 : C.lats.all resB = true) : rangeB C = true := by
 unfold rangeB; rw [h1, h2, h3]; rfl

theorem knownB_iff {C : Circ} (hR : InRange C) {x : Int} (hx : x ∈ C.used) : knownB C.owned x = (!(decide (1 < x)) || decide (x - x % 2 ∈ C.owned)) := by
 have h0 := hR.use x hx
 unfold knownB
 rw [Bool.eq_iff_iff]
 simp only [Bool.or_eq_true, decide_eq_true_eq, List.any_eq_true, Bool.not_eq_true', decide_eq_false_iff_not]
 constructor
 ·rintro (h | ⟨y, hy, e⟩)
  ·left; omega
  ·right
   have h1 := hR.own y hy
   have : y = x - x % 2 := by omega
   rw [← this]; exact hy
 ·rintro (h | h)
  ·left; omega
  ·by_cases h1 : x / 2 = 0
   ·exact .inl h1
   ·exact .inr ⟨_, h, by omega⟩

set_option maxRecDepth 100000 in
set_option maxHeartbeats 8000000 in
theorem ref11_Chk (V : CV) (C : Circ) (w : World) (h : CAt w V C) (hf : CFew C 1000000) :
  Calls Tryz.prog 18 #[.agg (cvals V C)] w fun e w' => e = .returned (.int .i64 (ckCode C)) ∧ Kp (fun _ => False) w w' := by
 obtain ⟨code, hcode⟩ : ∃ code, ckCode C = code := ⟨_, rfl⟩
 rw [hcode]
 have HCode := Lib.hid hcode
 clear hcode
 have HC0 := Lib.hid (Blk.new w (cvals V C) 27)
 have HK0 := Lib.hid ((Kp.refl (fun _ => False) w).alloc (.cells (cvals V C) 27))
 by_cases m0 : 0 ≤ C.max
 case neg =>
  have d1 : decide (C.max < 0) = true := decide_eq_true (by omega)
  obtain rfl : code = 5 := by rw [← HCode.out]; exact ck5 (.inl (by omega))
  have c0 := HC0.out.cell (i := 0) (v := .int .i64 C.max) rfl
  clear m0 h hf
  go_enter Tryz.func18, Tryz.ntmps18
  go_wp2_with fail
  go_ret
  exact ⟨rfl, HK0.out⟩
 have e1 : decide (C.max < 0) = false := decide_eq_false (by omega)
 by_cases m1 : C.max ≤ 16777216
 case neg =>
  have d1 : decide ((16777216 : Int) < C.max) = true := decide_eq_true (by omega)
  obtain rfl : code = 5 := by rw [← HCode.out]; exact ck5 (.inr (.inl (by omega)))
  have c0 := HC0.out.cell (i := 0) (v := .int .i64 C.max) rfl
  clear m1 h hf
  go_enter Tryz.func18, Tryz.ntmps18
  go_wp2_with fail
  go_ret
  exact ⟨rfl, HK0.out⟩
 have e2 : decide ((16777216 : Int) < C.max) = false := decide_eq_false (by omega)
 have HM := Lib.hid (And.intro m0 m1)
 have hl := (h.fl.le63).1
 have HA := Lib.hid h
 have HF := Lib.hid hf
 obtain ⟨n3, hn3⟩ : ∃ n, C.owned.length = n := ⟨_, rfl⟩
 obtain ⟨n4, hn4⟩ : ∃ n, C.used.length = n := ⟨_, rfl⟩
 obtain ⟨gn_, hgn⟩ : ∃ g, C.gates.length = g := ⟨_, rfl⟩
 have h3 : n3 ≤ 3000000 := by rw [← hn3]; have := hf.i; have := hf.l; have := hf.g; unfold Circ.owned; simp; omega
 have h4 : n4 ≤ 6000000 := by
  rw [← hn4]
  have := hf.o; have := hf.b; have := hf.c; have := hf.l; have := hf.g
  have e : (C.gates.flatMap (fun g => [g.2.1, g.2.2])).length = 2 * C.gates.length := by
   generalize C.gates = L
   induction L with
   |nil => rfl
   |cons a r ih => rw [List.flatMap_cons, List.length_append, ih]; simp; omega
  unfold Circ.used
  rw [List.length_append, e]
  simp
  omega
 have HN3 := Lib.hid hn3
 have HN4 := Lib.hid hn4
 have HGN := Lib.hid hgn
 have HU : Hid (cvals V C = #[.int .i64 C.max, .slice V.ai C.ins.length V.ci, .slice V.al C.lats.length V.cl, .slice V.ao C.outs.length V.co, .slice V.ab C.bads.length V.cb, .slice V.ac C.cons.length V.cc, .slice V.ag gn_ V.cg, .slice V.ay V.ny V.cy, .string V.cm]) := Lib.hid (by unfold cvals; rw [hgn])
 have HOw := Lib.hid (show ∀ u, Kp (fun _ => False) w u → Calls Tryz.prog 45 #[.agg #[.int .i64 C.max, .slice V.ai C.ins.length V.ci, .slice V.al C.lats.length V.cl, .slice V.ao C.outs.length V.co, .slice V.ab C.bads.length V.cb, .slice V.ac C.cons.length V.cc, .slice V.ag gn_ V.cg, .slice V.ay V.ny V.cy, .string V.cm]] u fun e u' => (∃ a c, e = .returned (.slice a n3 c) ∧ (n3 ≤ c ∧ c ≤ 9223372036854775807) ∧ IntsAt u' a C.owned) ∧ Kp (fun _ => False) u u' from fun u hu => by
  have := (ref11_Owned V C u (h.kp hu) hf).mono (R' := fun e u' => (∃ a c, e = .returned (.slice a n3 c) ∧ (n3 ≤ c ∧ c ≤ 9223372036854775807) ∧ IntsAt u' a C.owned) ∧ Kp (fun _ => False) u u') (by
   rintro e u' ⟨v, rfl, hO, hK⟩
   obtain ⟨a, c, e, hc1, hc2, -, hr⟩ := hO.form
   rw [iv_length, hn3] at e hc1
   unfold maxLen at hc2
   exact ⟨⟨a, c, by rw [e], ⟨hc1, hc2⟩, hr⟩, hK⟩)
  rw [HU.out] at this
  exact this)
 have HUs := Lib.hid (show ∀ u, Kp (fun _ => False) w u → Calls Tryz.prog 46 #[.agg #[.int .i64 C.max, .slice V.ai C.ins.length V.ci, .slice V.al C.lats.length V.cl, .slice V.ao C.outs.length V.co, .slice V.ab C.bads.length V.cb, .slice V.ac C.cons.length V.cc, .slice V.ag gn_ V.cg, .slice V.ay V.ny V.cy, .string V.cm]] u fun e u' => (∃ a c, e = .returned (.slice a n4 c) ∧ IntsAt u' a C.used) ∧ Kp (fun _ => False) u u' from fun u hu => by
  have := (ref11_Used V C u (h.kp hu) hf).mono (R' := fun e u' => (∃ a c, e = .returned (.slice a n4 c) ∧ IntsAt u' a C.used) ∧ Kp (fun _ => False) u u') (by
   rintro e u' ⟨v, rfl, hO, hK⟩
   obtain ⟨a, c, e, -, -, -, hr⟩ := hO.form
   rw [iv_length, hn4] at e
   exact ⟨⟨a, c, by rw [e], hr⟩, hK⟩)
  rw [HU.out] at this
  exact this)
 have HC1 : Hid (Blk (w.alloc (.cells (cvals V C) 27)) w.heap.size #[.int .i64 C.max, .slice V.ai C.ins.length V.ci, .slice V.al C.lats.length V.cl, .slice V.ao C.outs.length V.co, .slice V.ab C.bads.length V.cb, .slice V.ac C.cons.length V.cc, .slice V.ag gn_ V.cg, .slice V.ay V.ny V.cy, .string V.cm] 27) := Lib.hid (by have := HC0.out; rw [← HU.out]; exact this)
 clear h hf hn3 hn4 hgn
 have c0 := HC0.out.cell (i := 0) (v := .int .i64 C.max) rfl
 go_enter Tryz.func18, Tryz.ntmps18
 go_upto_region 3 with fail
 obtain ⟨wz, hwz⟩ : ∃ wz : World, wz = w.alloc (.cells (cvals V C) 27) := ⟨_, rfl⟩
 rw [← hwz] at HC1 HK0 c0 ⊢
 clear hwz HC0 e1 e2 c0
 go_cut [3, 4] from 19 to 22 (fun s3 s4 wx => ∃ a3 c3 a4 c4, s3 = .slice a3 n3 c3 ∧ s4 = .slice a4 n4 c4 ∧ (n3 ≤ c3 ∧ c3 ≤ 9223372036854775807) ∧ IntsAt wx a3 C.owned ∧ IntsAt wx a4 C.used ∧ Blk wx w.heap.size #[.int .i64 C.max, .slice V.ai C.ins.length V.ci, .slice V.al C.lats.length V.cl, .slice V.ao C.outs.length V.co, .slice V.ab C.bads.length V.cb, .slice V.ac C.cons.length V.cc, .slice V.ag gn_ V.cg, .slice V.ay V.ny V.cy, .string V.cm] 27 ∧ Kp (fun _ => False) w wx)
 case first =>
  go_region_held3 (fun u => u.cell? ⟨w.heap.size, 0, none⟩ = some (.int .i64 C.max) ∧ u.cell? ⟨w.heap.size, 1, none⟩ = some (.slice V.ai C.ins.length V.ci) ∧ u.cell? ⟨w.heap.size, 2, none⟩ = some (.slice V.al C.lats.length V.cl) ∧ u.cell? ⟨w.heap.size, 3, none⟩ = some (.slice V.ao C.outs.length V.co) ∧ u.cell? ⟨w.heap.size, 4, none⟩ = some (.slice V.ab C.bads.length V.cb) ∧ u.cell? ⟨w.heap.size, 5, none⟩ = some (.slice V.ac C.cons.length V.cc) ∧ u.cell? ⟨w.heap.size, 6, none⟩ = some (.slice V.ag gn_ V.cg) ∧ u.cell? ⟨w.heap.size, 7, none⟩ = some (.slice V.ay V.ny V.cy) ∧ u.cell? ⟨w.heap.size, 8, none⟩ = some (.string V.cm)) (with_reducible first | exact HC1.out.cells9 | exact HC1.out.drew.cells9 | exact HXa.out.cells9 | exact HXa.out.drew.cells9 | exact HXb.out.cells9 | exact HXb.out.drew.cells9) ((first
   |((with_reducible refine Calls.mono (HOw.out _ (by first | exact HK0.out | exact HK0.out.drew | exact HKb.out | exact HKb.out.drew)) ?_); rintro o u1 ⟨⟨a1, c1, rfl, hcp, hi1⟩, hK1⟩; have HCP := Lib.hid hcp; clear hcp; have HI1 := Lib.hid hi1; have HKK1 := Lib.hid hK1; have HXa := Lib.hid (by with_reducible first | exact HC1.out.kp hK1 (fun h => h) | exact HC1.out.drew.kp hK1 (fun h => h) | exact HXb.out.kp hK1 (fun h => h) | exact HXb.out.drew.kp hK1 (fun h => h)); have HKa := Lib.hid (by with_reducible first | exact HK0.out.trans hK1 (fun _ _ h => h) | exact HK0.out.drew.trans hK1 (fun _ _ h => h) | exact HKb.out.trans hK1 (fun _ _ h => h) | exact HKb.out.drew.trans hK1 (fun _ _ h => h)); clear hK1 hi1)
   |((with_reducible refine Calls.mono (HUs.out _ (by first | exact HK0.out | exact HK0.out.drew | exact HKa.out | exact HKa.out.drew)) ?_); rintro o u2 ⟨⟨a2, c2, rfl, hi2⟩, hK2⟩; have HI2 := Lib.hid hi2; have HKK2 := Lib.hid hK2; have HXb := Lib.hid (by with_reducible first | exact HC1.out.kp hK2 (fun h => h) | exact HC1.out.drew.kp hK2 (fun h => h) | exact HXa.out.kp hK2 (fun h => h) | exact HXa.out.drew.kp hK2 (fun h => h)); have HKb := Lib.hid (by with_reducible first | exact HK0.out.trans hK2 (fun _ _ h => h) | exact HK0.out.drew.trans hK2 (fun _ _ h => h) | exact HKa.out.trans hK2 (fun _ _ h => h) | exact HKa.out.drew.trans hK2 (fun _ _ h => h)); clear hK2 hi2)))
  all_goals go_wp2_with fail
  all_goals go_meet
  all_goals first
   |exact ⟨a1, c1, a2, c2, rfl, rfl, HCP.out, RowAt.kp HI1.out HKK2.out (fun _ _ h => h), HI2.out, HXb.out, HKb.out⟩
   |exact ⟨a1, c1, a2, c2, rfl, rfl, HCP.out, HI1.out, RowAt.kp HI2.out HKK1.out (fun _ _ h => h), HXa.out, HKa.out⟩
   |exact ⟨a1, c1, a2, c2, rfl, rfl, HCP.out, RowAt.kp HI1.out HKK2.out (fun _ _ h => h), HI2.out, HXb.out.drew, HKb.out.drew⟩
   |exact ⟨a1, c1, a2, c2, rfl, rfl, HCP.out, HI1.out, RowAt.kp HI2.out HKK1.out (fun _ _ h => h), HXa.out.drew, HKa.out.drew⟩
 case rest =>
 obtain ⟨a3, cp3, a4, cp4, rfl, rfl, ⟨hcp1, hcp2⟩, hi3, hi4, hC, hK⟩ := hcut
 obtain ⟨wa, rfl⟩ : ∃ wa : World, wa = wc := ⟨_, rfl⟩
 have HI3 := Lib.hid hi3
 have HI4 := Lib.hid hi4
 have HC := Lib.hid hC
 have HKa := Lib.hid hK
 clear HC1 HK0 HOw HUs hi3 hi4 hC hK
 have mm1 : IntKind.i64.wrap (2 * C.max) = 2 * C.max := IntWalk.i64_in _ (by omega)
 have mm2 : IntKind.i64.wrap (2 * C.max + 1) = 2 * C.max + 1 := IntWalk.i64_in _ (by omega)
 have HMM := Lib.hid (And.intro mm1 mm2)
 clear mm1 mm2
 go_wp2_with fail
 go_loopw [5] (fun v5 wr => ∃ k : Nat, v5 = .int .i64 k ∧ k ≤ n3 ∧ (C.owned.take k).all (ownB C.max) = true ∧ Kp (fun _ => False) wa wr) (fun v5 _ => n3 - (intOf v5).toNat)
 case atStart => exact ⟨0, rfl, by omega, by simp, Kp.refl _ _⟩
 case round =>
  obtain ⟨k, rfl, hk, hall, hK⟩ := hrel
  obtain ⟨wp, rfl⟩ : ∃ wp : World, wp = wr := ⟨_, rfl⟩
  have HK := Lib.hid hK
  by_cases hlt : k < n3
  ·have hkl : k < C.owned.length := by rw [HN3.out]; exact hlt
   obtain ⟨b, off, rfl, hcell⟩ := IntsAt.get (RowAt.kp HI3.out hK (fun _ _ h => h)) hkl
   have hat := all_take (take_gi hkl) (ownB C.max)
   rw [hall, Bool.true_and] at hat
   have HBad := Lib.hid (fun h => (range_bad1 (C := C) hkl h))
   obtain ⟨x, hx⟩ : ∃ x, gi C.owned k = x := ⟨_, rfl⟩
   rw [hx] at hcell hat HBad
   have HAt := Lib.hid hat
   have c0 := (HC.out.kp hK (fun h => h)).cell (i := 0) (v := .int .i64 C.max) rfl
   have i0 : (0 : Int) ≤ (k : Int) := by omega
   have i1 : (k : Int) < (n3 : Int) := by omega
   clear hall hat hx hK hkl
   by_cases g1 : x < 2
   ·obtain rfl : code = 5 := by rw [← HCode.out]; exact ck5 (.inr (.inr (HBad.out (by unfold ownB; rw [decide_eq_false (by omega)]; rfl))))
    have d1 : decide (x < 2) = true := decide_eq_true g1
    clear g1
    go_wp2_with fail
    go_quiet (fail)
    go_wp2_with fail
    go_ret
    exact ⟨rfl, HKa.out.trans (HK.out.drewN _) (fun _ _ h => h)⟩
   ·have d1 : decide (x < 2) = false := decide_eq_false g1
    have htm : x.tmod 2 = x % 2 := Int.tmod_eq_emod_of_nonneg (by omega)
    obtain ⟨r, hr⟩ : ∃ r, x % 2 = r := ⟨_, rfl⟩
    rw [hr] at htm
    by_cases g2 : r = 1
    ·obtain rfl : code = 5 := by rw [← HCode.out]; exact ck5 (.inr (.inr (HBad.out (by unfold ownB; rw [decide_eq_false (p := x % 2 = 0) (by omega)]; simp))))
     have d2 : ((r : Int) == 1) = true := by simp [g2]
     clear g1 g2 hr
     go_wp2_with fail
     go_quiet (fail)
     go_wp2_with fail
     go_ret
     exact ⟨rfl, HKa.out.trans (HK.out.drewN _) (fun _ _ h => h)⟩
    ·have d2 : ((r : Int) == 1) = false := by simp [g2]
     have mm1 := HMM.out.1
     by_cases g3 : 2 * C.max < x
     ·obtain rfl : code = 5 := by rw [← HCode.out]; exact ck5 (.inr (.inr (HBad.out (by unfold ownB; rw [decide_eq_false (p := x ≤ 2 * C.max) (by omega)]; simp))))
      have d3 : decide (2 * C.max < x) = true := decide_eq_true g3
      clear g1 g2 g3 hr
      go_wp2_with fail
      go_quiet (fail)
      go_wp2_with fail
      go_ret
      exact ⟨rfl, HKa.out.trans (HK.out.drewN _) (fun _ _ h => h)⟩
     ·have d3 : decide (2 * C.max < x) = false := decide_eq_false g3
      have HNx := Lib.hid (show (C.owned.take (k + 1)).all (ownB C.max) = true by rw [HAt.out]; unfold ownB; rw [decide_eq_true (by omega), decide_eq_true (p := x % 2 = 0) (by omega), decide_eq_true (by omega)]; rfl)
      clear g1 g2 g3 hr
      go_wp2_with fail
      go_quiet (fail)
      clear mm1
      go_wp2_with fail
      go_roundw
      case rel => exact ⟨k + 1, by go_num, by omega, HNx.out, HK.out.drewN _⟩
      case measure => simp [intOf]; omega
  ·have HAll1 := Lib.hid (show C.owned.all (ownB C.max) = true by rwa [List.take_of_length_le (by rw [HN3.out]; omega)] at hall)
   clear hall hK
   go_wp2_with fail
   go_loopw [6] (fun v6 wr => ∃ k : Nat, v6 = .int .i64 k ∧ k ≤ n4 ∧ (C.used.take k).all (useB C.max) = true ∧ Kp (fun _ => False) wa wr) (fun v6 _ => n4 - (intOf v6).toNat)
   case atStart => exact ⟨0, rfl, by omega, by simp, HK.out⟩
   case round =>
    obtain ⟨k, rfl, hk, hall, hK⟩ := hrel
    clear HK hlt
    obtain ⟨wp, rfl⟩ : ∃ wp : World, wp = wr := ⟨_, rfl⟩
    have HK := Lib.hid hK
    by_cases hlt : k < n4
    ·have hkl : k < C.used.length := by rw [HN4.out]; exact hlt
     obtain ⟨b, off, rfl, hcell⟩ := IntsAt.get (RowAt.kp HI4.out hK (fun _ _ h => h)) hkl
     have hat := all_take (take_gi hkl) (useB C.max)
     rw [hall, Bool.true_and] at hat
     have HBad := Lib.hid (fun h => (range_bad2 (C := C) hkl h))
     obtain ⟨x, hx⟩ : ∃ x, gi C.used k = x := ⟨_, rfl⟩
     rw [hx] at hcell hat HBad
     have HAt := Lib.hid hat
     have c0 := (HC.out.kp hK (fun h => h)).cell (i := 0) (v := .int .i64 C.max) rfl
     have i0 : (0 : Int) ≤ (k : Int) := by omega
     have i1 : (k : Int) < (n4 : Int) := by omega
     clear hall hat hx hK hkl
     by_cases g1 : x < 0
     ·obtain rfl : code = 5 := by rw [← HCode.out]; exact ck5 (.inr (.inr (HBad.out (by unfold useB; rw [decide_eq_false (by omega)]; rfl))))
      have d1 : decide (x < 0) = true := decide_eq_true g1
      clear g1
      go_wp2_with fail
      go_quiet (fail)
      go_wp2_with fail
      go_ret
      exact ⟨rfl, HKa.out.trans (HK.out.drewN _) (fun _ _ h => h)⟩
     ·have d1 : decide (x < 0) = false := decide_eq_false g1
      have mm1 := HMM.out.1
      have mm2 := HMM.out.2
      by_cases g3 : 2 * C.max + 1 < x
      ·obtain rfl : code = 5 := by rw [← HCode.out]; exact ck5 (.inr (.inr (HBad.out (by unfold useB; rw [decide_eq_false (p := x ≤ 2 * C.max + 1) (by omega)]; simp))))
       have d3 : decide (2 * C.max + 1 < x) = true := decide_eq_true g3
       clear g1 g3
       go_wp2_with fail
       go_quiet (fail)
       go_wp2_with fail
       go_ret
       exact ⟨rfl, HKa.out.trans (HK.out.drewN _) (fun _ _ h => h)⟩
      ·have d3 : decide (2 * C.max + 1 < x) = false := decide_eq_false g3
       have HNx := Lib.hid (show (C.used.take (k + 1)).all (useB C.max) = true by rw [HAt.out]; unfold useB; rw [decide_eq_true (by omega), decide_eq_true (by omega)]; rfl)
       clear g1 g3
       go_wp2_with fail
       go_quiet (fail)
       clear mm1 mm2
       go_wp2_with fail
       go_roundw
       case rel => exact ⟨k + 1, by go_num, by omega, HNx.out, HK.out.drewN _⟩
       case measure => simp [intOf]; omega
    ·have HAll2 := Lib.hid (show C.used.all (useB C.max) = true by rwa [List.take_of_length_le (by rw [HN4.out]; omega)] at hall)
     clear hall hK
     go_wp2_with fail
     go_loopw [7] (fun v7 wr => ∃ k : Nat, v7 = .int .i64 k ∧ k ≤ C.lats.length ∧ (C.lats.take k).all resB = true ∧ Kp (fun _ => False) wa wr) (fun v7 _ => C.lats.length - (intOf v7).toNat)
     case atStart => exact ⟨0, rfl, by omega, by simp, HK.out⟩
     case round =>
      obtain ⟨k, rfl, hk, hall, hK⟩ := hrel
      clear HK hlt
      obtain ⟨wp, rfl⟩ : ∃ wp : World, wp = wr := ⟨_, rfl⟩
      have HK := Lib.hid hK
      have c2 := (HC.out.kp hK (fun h => h)).cell (i := 2) (v := .slice V.al C.lats.length V.cl) rfl
      by_cases hlt : k < C.lats.length
      ·obtain ⟨b, off, ea, l0, l1, l2⟩ := tri_cells (HA.out.kp (HKa.out.trans hK (fun _ _ h => h))).l hlt
       have hat := all_take (take_g3 hlt) resB
       rw [hall, Bool.true_and] at hat
       have HBad := Lib.hid (fun h => (range_bad3 (C := C) hlt h))
       obtain ⟨x0, hx0⟩ : ∃ x, (g3 C.lats k).1 = x := ⟨_, rfl⟩
       obtain ⟨x2, hx2⟩ : ∃ x, (g3 C.lats k).2.2 = x := ⟨_, rfl⟩
       have hres : resB (g3 C.lats k) = (decide (x2 = 0) || (decide (x2 = 1) || decide (x2 = x0))) := by unfold resB; rw [hx0, hx2]
       rw [hres] at hat HBad
       rw [hx0] at l0
       rw [hx2] at l2
       rw [ea] at c2
       have HAt := Lib.hid hat
       have i0 : (0 : Int) ≤ (k : Int) := by omega
       have i1 : (k : Int) < (C.lats.length : Int) := by omega
       clear hall hat hx0 hx2 hres hK l1 ea
       by_cases g1 : x2 = 0
       ·have d1 : ((x2 : Int) != 0) = false := by simp [g1]
        have HNx := Lib.hid (show (C.lats.take (k + 1)).all resB = true by rw [HAt.out]; simp [g1])
        clear g1
        go_wp2_with fail
        go_roundw
        case rel => exact ⟨k + 1, by go_num, by omega, HNx.out, HK.out⟩
        case measure => simp [intOf]; omega
       ·have d1 : ((x2 : Int) != 0) = true := by simp [g1]
        by_cases g2 : x2 = 1
        ·have d2 : ((x2 : Int) != 1) = false := by simp [g2]
         have HNx := Lib.hid (show (C.lats.take (k + 1)).all resB = true by rw [HAt.out]; simp [g2])
         clear g1 g2
         go_wp2_with fail
         go_roundw
         case rel => exact ⟨k + 1, by go_num, by omega, HNx.out, HK.out⟩
         case measure => simp [intOf]; omega
        ·have d2 : ((x2 : Int) != 1) = true := by simp [g2]
         by_cases g3 : x2 = x0
         ·have d3 : ((x2 : Int) != x0) = false := by simp [g3]
          have HNx := Lib.hid (show (C.lats.take (k + 1)).all resB = true by rw [HAt.out]; simp [g3])
          clear g1 g2 g3
          go_wp2_with fail
          go_roundw
          case rel => exact ⟨k + 1, by go_num, by omega, HNx.out, HK.out⟩
          case measure => simp [intOf]; omega
         ·have d3 : ((x2 : Int) != x0) = true := by simp [g3]
          obtain rfl : code = 5 := by rw [← HCode.out]; exact ck5 (.inr (.inr (HBad.out (by simp [g1, g2, g3]))))
          clear g1 g2 g3
          go_wp2_with fail
          go_ret
          exact ⟨rfl, HKa.out.trans HK.out (fun _ _ h => h)⟩
      ·have HAll3 := Lib.hid (show C.lats.all resB = true by rwa [List.take_of_length_le (by omega)] at hall)
       have hrg := range_all HAll1.out HAll2.out HAll3.out
       have HIR := Lib.hid (InRange.of HM.out.1 HM.out.2 hrg)
       have HCk := Lib.hid (ckR HM.out.1 HM.out.2 hrg)
       rw [HCode.out] at HCk
       clear hall hK hrg HAll1 HAll2 HAll3 HCode
       go_wp2_with fail
       go_loopw [9] (fun v9 wr => ∃ k : Nat, v9 = .int .i64 k ∧ k ≤ n3 ∧ (C.owned.take k).Nodup ∧ Kp (fun _ => False) wa wr) (fun v9 _ => n3 - (intOf v9).toNat)
       case atStart => exact ⟨0, rfl, by omega, by simp, HK.out⟩
       case round =>
        obtain ⟨k, rfl, hk, hnd, hK⟩ := hrel
        clear HK hlt c2
        obtain ⟨wp, rfl⟩ : ∃ wp : World, wp = wr := ⟨_, rfl⟩
        have HK := Lib.hid hK
        by_cases hlt : k < n3
        ·have hkl : k < C.owned.length := by rw [HN3.out]; exact hlt
         have hi := RowAt.kp HI3.out hK (fun _ _ h => h)
         have hit : IntsAt wp a3 (C.owned.take k) := by
          have := RowAt.take hi k
          unfold IntsAt
          rw [List.map_take]
          exact this
         obtain ⟨b, off, rfl, hcell⟩ := IntsAt.get hi hkl
         have HND := Lib.hid (fun h => nodup_take hkl hnd h)
         have HNN := Lib.hid (fun h => not_nodup (l := C.owned) hkl h)
         obtain ⟨x, hx⟩ : ∃ x, gi C.owned k = x := ⟨_, rfl⟩
         rw [hx] at hcell HND HNN
         have HHas := Lib.hid (fun q => ref02_HasQ (some ⟨b, off, none⟩) k cp3 q (C.owned.take k) x wp hit (by simp; omega) (by omega))
         have i0 : (0 : Int) ≤ (k : Int) := by omega
         have i1 : (k : Int) < (n3 : Int) := by omega
         have i2 : (k : Int) ≤ (cp3 : Int) := by omega
         clear hx hi hit hnd hK hkl
         by_cases hin : x ∈ C.owned.take k
         ·obtain rfl : code = 7 := by have := HCk.out; rw [if_pos (HNN.out hin)] at this; exact this
          rw [decide_eq_true hin] at HHas
          clear hin
          go_wp2_with fail
          go_quiet ((go_at_call 47; exact Calls.quiet_of_same (HHas.out _)))
          go_wp2_with fail
          go_ret
          exact ⟨rfl, HKa.out.trans (HK.out.drewN _) (fun _ _ h => h)⟩
         ·have HNx := Lib.hid (HND.out hin)
          rw [decide_eq_false hin] at HHas
          clear hin
          go_wp2_with fail
          go_quiet ((go_at_call 47; exact Calls.quiet_of_same (HHas.out _)))
          go_wp2_with fail
          go_roundw
          case rel => exact ⟨k + 1, by go_num, by omega, HNx.out, HK.out.drewN _⟩
          case measure => simp [intOf]; omega
        ·have HNod := Lib.hid (show C.owned.Nodup by rwa [List.take_of_length_le (by rw [HN3.out]; omega)] at hnd)
         have HCk2 := Lib.hid (show code = if C.used.all (knownB C.owned) = false then 9 else if (ordO C.gates).length < C.gates.length then 8 else 0 by have := HCk.out; rw [if_neg (by simp; exact HNod.out)] at this; exact this)
         clear hnd hK HCk
         go_wp2_with fail
         go_loopw [10] (fun v10 wr => ∃ k : Nat, v10 = .int .i64 k ∧ k ≤ n4 ∧ (C.used.take k).all (knownB C.owned) = true ∧ Kp (fun _ => False) wa wr) (fun v10 _ => n4 - (intOf v10).toNat)
         case atStart => exact ⟨0, rfl, by omega, by simp, HK.out⟩
         case round =>
          obtain ⟨k, rfl, hk, hall, hK⟩ := hrel
          clear HK hlt
          obtain ⟨wp, rfl⟩ : ∃ wp : World, wp = wr := ⟨_, rfl⟩
          have HK := Lib.hid hK
          by_cases hlt : k < n4
          ·have hkl : k < C.used.length := by rw [HN4.out]; exact hlt
           have hi := RowAt.kp HI3.out hK (fun _ _ h => h)
           obtain ⟨b, off, rfl, hcell⟩ := IntsAt.get (RowAt.kp HI4.out hK (fun _ _ h => h)) hkl
           have hat := all_take (take_gi hkl) (knownB C.owned)
           rw [hall, Bool.true_and] at hat
           have hxu : gi C.used k ∈ C.used := by unfold gi; rw [List.getElem?_eq_getElem hkl]; exact List.getElem_mem hkl
           have hxr := HIR.out.use _ hxu
           have hkn := knownB_iff HIR.out hxu
           have HBad := Lib.hid (fun (h : knownB C.owned (gi C.used k) = false) => show C.used.all (knownB C.owned) = false by rw [List.all_eq_false]; exact ⟨_, hxu, by simp [h]⟩)
           obtain ⟨x, hx⟩ : ∃ x, gi C.used k = x := ⟨_, rfl⟩
           rw [hx] at hcell hat hkn hxr HBad
           rw [hkn] at hat HBad
           have HAt := Lib.hid hat
           have x0 : 0 ≤ x := hxr.1
           have x1 : x ≤ 100000000 := by have := hxr.2; have := HM.out; omega
           have i0 : (0 : Int) ≤ (k : Int) := by omega
           have i1 : (k : Int) < (n4 : Int) := by omega
           clear hall hat hx hK hkl hkn hxr hxu
           by_cases g1 : 1 < x
           ·have htm : x.tmod 2 = x % 2 := Int.tmod_eq_emod_of_nonneg x0
            obtain ⟨r, hr⟩ : ∃ r, x % 2 = r := ⟨_, rfl⟩
            have hr2 : 0 ≤ r ∧ r ≤ 1 := by omega
            rw [hr] at htm HAt HBad
            have hw : IntKind.i64.wrap (x - r) = x - r := IntWalk.i64_in _ (by omega)
            have HHas := Lib.hid (fun q => ref02_HasQ a3 n3 cp3 q C.owned (x - r) wp hi HN3.out (by omega))
            have d1 : decide (1 < x) = true := decide_eq_true g1
            rw [d1] at HAt HBad
            clear hi hr hr2
            by_cases hin : x - r ∈ C.owned
            ·rw [decide_eq_true hin] at HHas HAt
             clear hin g1
             go_wp2_with fail
             go_quiet ((go_at_call 47; exact Calls.quiet_of_same (HHas.out _)))
             clear hw htm
             go_wp2_with fail
             go_roundw
             case rel => exact ⟨k + 1, by go_num, by omega, HAt.out, HK.out.drewN _⟩
             case measure => simp [intOf]; omega
            ·rw [decide_eq_false hin] at HHas HBad
             obtain rfl : code = 9 := by have := HCk2.out; rw [if_pos (HBad.out rfl)] at this; exact this
             clear hin g1
             go_wp2_with fail
             go_quiet ((go_at_call 47; exact Calls.quiet_of_same (HHas.out _)))
             go_wp2_with fail
             go_ret
             exact ⟨rfl, HKa.out.trans (HK.out.drewN _) (fun _ _ h => h)⟩
           ·have d1 : decide (1 < x) = false := decide_eq_false g1
            rw [d1] at HAt
            clear hi g1
            go_wp2_with fail
            go_quiet (fail)
            go_wp2_with fail
            go_roundw
            case rel => exact ⟨k + 1, by go_num, by omega, HAt.out, HK.out.drewN _⟩
            case measure => simp [intOf]; omega
          ·have HAll := Lib.hid (show C.used.all (knownB C.owned) = true by rwa [List.take_of_length_le (by rw [HN4.out]; omega)] at hall)
           have HCk3 := Lib.hid (show code = if (ordO C.gates).length < C.gates.length then 8 else 0 by have := HCk2.out; rw [if_neg (by rw [HAll.out]; simp)] at this; exact this)
           obtain ⟨on_, hon⟩ : ∃ g, (ordO C.gates).length = g := ⟨_, rfl⟩
           have hle : on_ ≤ gn_ := by rw [← HGN.out, ← hon]; exact (ordO_at C.gates).len
           rw [HGN.out, hon] at HCk3
           have hgm : gn_ ≤ 1000000 := by rw [← HGN.out]; exact HF.out.g
           have HO := Lib.hid (show ∀ u, Kp (fun _ => False) w u → Calls Tryz.prog 48 #[.agg #[.int .i64 C.max, .slice V.ai C.ins.length V.ci, .slice V.al C.lats.length V.cl, .slice V.ao C.outs.length V.co, .slice V.ab C.bads.length V.cb, .slice V.ac C.cons.length V.cc, .slice V.ag gn_ V.cg, .slice V.ay V.ny V.cy, .string V.cm]] u fun e u' => (∃ a c, e = .returned (.slice a on_ c)) ∧ Kp (fun _ => False) u u' from fun u hu => by
            have hor := (ref11_Order V C u (HA.out.kp hu) HF.out.g (fun i hi => by
             have h1 := HIR.out.own _ (gate_own hi)
             have h2 := HIR.out.use _ (gate_useA hi)
             have h3 := HIR.out.use _ (gate_useB hi)
             have := HM.out
             omega)).mono (R' := fun e u' => (∃ a c, e = .returned (.slice a on_ c)) ∧ Kp (fun _ => False) u u') (by
              rintro e u' ⟨v, rfl, hO, hK⟩
              obtain ⟨a, c, e, -⟩ := hO.form
              rw [nv_length, hon] at e
              exact ⟨⟨a, c, by rw [e]⟩, hK⟩)
            rw [HU.out] at hor
            exact hor)
           have HXu := Lib.hid (HC.out.kp hK (fun h => h))
           have HK5 := Lib.hid (HKa.out.trans hK (fun _ _ h => h))
           clear hon hall hK HCk2 HK
           go_upto_region 30 with fail
           obtain ⟨wy, rfl⟩ : ∃ wy : World, wy = wp := ⟨_, rfl⟩
           go_region_held3 (fun u => u.cell? ⟨w.heap.size, 0, none⟩ = some (.int .i64 C.max) ∧ u.cell? ⟨w.heap.size, 1, none⟩ = some (.slice V.ai C.ins.length V.ci) ∧ u.cell? ⟨w.heap.size, 2, none⟩ = some (.slice V.al C.lats.length V.cl) ∧ u.cell? ⟨w.heap.size, 3, none⟩ = some (.slice V.ao C.outs.length V.co) ∧ u.cell? ⟨w.heap.size, 4, none⟩ = some (.slice V.ab C.bads.length V.cb) ∧ u.cell? ⟨w.heap.size, 5, none⟩ = some (.slice V.ac C.cons.length V.cc) ∧ u.cell? ⟨w.heap.size, 6, none⟩ = some (.slice V.ag gn_ V.cg) ∧ u.cell? ⟨w.heap.size, 7, none⟩ = some (.slice V.ay V.ny V.cy) ∧ u.cell? ⟨w.heap.size, 8, none⟩ = some (.string V.cm)) (with_reducible first | exact HXu.out.cells9 | exact HXu.out.drew.cells9 | exact HXb.out.cells9 | exact HXb.out.drew.cells9) (((with_reducible refine Calls.mono (HO.out _ (by first | exact HK5.out | exact HK5.out.drew)) ?_); rintro o u2 ⟨⟨a2, c2, rfl⟩, hK6⟩; have HXb := Lib.hid (by first | exact HXu.out.kp hK6 (fun h => h) | exact HXu.out.drew.kp hK6 (fun h => h)); have HKb := Lib.hid (by first | exact HK5.out.trans hK6 (fun _ _ h => h) | exact HK5.out.drew.trans hK6 (fun _ _ h => h)); clear hK6))
           all_goals
            by_cases hlt2 : on_ < gn_
            ·obtain rfl : code = 8 := by have := HCk3.out; rw [if_pos hlt2] at this; exact this
             have dd : decide ((on_ : Int) < (gn_ : Int)) = true := decide_eq_true (by omega)
             go_wp2_with fail
             go_ret
             exact ⟨rfl, by first | exact HKb.out | exact HKb.out.drew⟩
            ·obtain rfl : code = 0 := by have := HCk3.out; rw [if_neg hlt2] at this; exact this
             have dd : decide ((on_ : Int) < (gn_ : Int)) = false := decide_eq_false (by omega)
             go_wp2_with fail
             go_ret
             exact ⟨rfl, by first | exact HKb.out | exact HKb.out.drew⟩

end Go.Proofs.YtghlklcolepfmaaGreatDoor

/-
  latchetlaw11.Small.
-/
namespace Go.Proofs.YtghlklcolepfmaaGreatDoor
open Go.RowKit

theorem few_ok {V : CV} {C : Circ} {w : World} {m : Nat} (hF : FewP V C m) : Calls Tryz.prog 17 #[.agg (cvals V C), .int .i64 m] w fun e w' => e = .returned (.bool true) ∧ Kp (fun _ => False) w w' :=
 (law11_Few V C m w).mono (by
  rintro e w' ⟨r, rfl, hr, hK⟩
  obtain rfl := hr.2 hF
  exact ⟨rfl, hK⟩)
theorem few_no {V : CV} {C : Circ} {w : World} {m : Nat} (hF : ¬ FewP V C m) : Calls Tryz.prog 17 #[.agg (cvals V C), .int .i64 m] w fun e w' => e = .returned (.bool false) ∧ Kp (fun _ => False) w w' :=
 (law11_Few V C m w).mono (by
  rintro e w' ⟨r, rfl, hr, hK⟩
  cases r with
  |false => exact ⟨rfl, hK⟩
  |true => exact absurd (hr.1 rfl) hF)

structure SmallP (V : CV) (C : Circ) (m : Nat) : Prop where
  few : FewP V C m
  max : C.max ≤ 300
  good : ckCode C = 0

set_option maxRecDepth 100000 in
set_option maxHeartbeats 4000000 in
theorem law11_Small (V : CV) (C : Circ) (m : Nat) (w : World) (h : CAt w V C) (hm : m ≤ 1000) (r : Bool) (hr : r = true ↔ SmallP V C m) :
  Calls Tryz.prog 4 #[.agg (cvals V C), .int .i64 m] w fun e w' => e = .returned (.bool r) ∧ Kp (fun _ => False) w w' := by
 obtain ⟨wz, hwz⟩ : ∃ wz : World, wz = w.alloc (.cells (cvals V C) 27) := ⟨_, rfl⟩
 have HK0 := Lib.hid (show Kp (fun _ => False) w wz by rw [hwz]; exact (Kp.refl _ w).alloc _)
 have HC0 := Lib.hid (show Blk wz w.heap.size #[.int .i64 C.max, .slice V.ai C.ins.length V.ci, .slice V.al C.lats.length V.cl, .slice V.ao C.outs.length V.co, .slice V.ab C.bads.length V.cb, .slice V.ac C.cons.length V.cc, .slice V.ag C.gates.length V.cg, .slice V.ay V.ny V.cy, .string V.cm] 27 by rw [hwz]; exact Blk.new w (cvals V C) _)
 obtain ⟨d0, d1, d2, d3, d4, d5, d6, d7, d8⟩ := Blk.cells9 HC0.out
 have HZ := Lib.hid hwz
 have hA : CAt wz V C := h.kp HK0.out
 clear hwz
 by_cases hF : FewP V C m
 case neg =>
  obtain rfl : r = false := by cases r with | false => rfl | true => exact absurd (hr.1 rfl).few hF
  have HFw := Lib.hid (few_no (w := wz) hF)
  unfold cvals at HFw HZ ⊢
  clear hF hr h hA
  go_enter Tryz.func4, Tryz.ntmps4
  go_upto_region 1 with fail
  rw [← HZ.out]
  clear HZ
  go_wp2_with (go_at_call 17; with_reducible refine Calls.mono HFw.out ?_; rintro e w1 ⟨rfl, hK1⟩; have HK1 := Lib.hid (HK0.out.trans hK1 (fun _ _ h => h)); clear hK1)
  go_ret
  exact ⟨rfl, HK1.out⟩
 have HFw := Lib.hid (few_ok (w := wz) hF)
 have HCk := Lib.hid (fun u (hu : Kp (fun _ => False) wz u) => ref11_Chk V C u (hA.kp hu) (hF.few (by omega)))
 have HSp := Lib.hid (show SmallP V C m ↔ C.max ≤ 300 ∧ ckCode C = 0 from ⟨fun h => ⟨h.max, h.good⟩, fun h => ⟨hF, h.1, h.2⟩⟩)
 obtain ⟨mx, hmx⟩ : ∃ n, C.max = n := ⟨_, rfl⟩
 obtain ⟨ck, hck⟩ : ∃ n, ckCode C = n := ⟨_, rfl⟩
 have HB1 := Lib.hid (fun u (hu : Kp (fun _ => False) wz u) => (Blk.cells9 (HC0.out.kp hu (fun h => h))).1)
 unfold cvals at HFw HCk HZ ⊢
 rw [hmx] at HFw d0 HSp HZ ⊢
 simp only [hmx] at HB1
 simp only [hmx] at HCk
 rw [hck] at HSp
 simp only [hck] at HCk
 have HB := Lib.hid (fun u (hu : Kp (fun _ => False) wz u) => Blk.cells9 (HC0.out.kp hu (fun h => h)))
 rw [hmx] at HB
 clear hF h hA hmx hck
 by_cases hM : mx ≤ 300
 case neg =>
  obtain rfl : r = false := by cases r with | false => rfl | true => exact absurd (HSp.out.1 (hr.1 rfl)).1 hM
  clear hr
  go_enter Tryz.func4, Tryz.ntmps4
  go_upto_region 1 with fail
  rw [← HZ.out]
  clear HZ
  go_wp2_with (go_at_call 17; with_reducible refine Calls.mono HFw.out ?_; rintro e w1 ⟨rfl, hK1⟩; have HK1 := Lib.hid (HK0.out.trans hK1 (fun _ _ h => h)); have z0 := HB1.out _ hK1; clear hK1)
  go_ret
  exact ⟨rfl, HK1.out⟩
 by_cases hc : ck = 0
 ·obtain rfl : r = true := hr.2 (HSp.out.2 ⟨hM, hc⟩)
  have q : ((ck : Int) == 0) = true := by simp [hc]
  clear hr hc
  go_enter Tryz.func4, Tryz.ntmps4
  go_upto_region 1 with fail
  rw [← HZ.out]
  clear HZ
  go_wp2_with (first
   |(go_at_call 17; with_reducible refine Calls.mono HFw.out ?_; rintro e w1 ⟨rfl, hK1⟩; have HK1 := Lib.hid (HK0.out.trans hK1 (fun _ _ h => h)); obtain ⟨z0, z1, z2, z3, z4, z5, z6, z7, z8⟩ := HB.out _ hK1; have HCk1 := Lib.hid (HCk.out _ hK1); clear hK1)
   |(go_at_call 18; with_reducible refine Calls.mono HCk1.out ?_; rintro e w2 ⟨rfl, hK2⟩; have HK2 := Lib.hid (HK1.out.trans hK2 (fun _ _ h => h)); clear hK2))
  go_ret
  exact ⟨rfl, HK2.out⟩
 ·obtain rfl : r = false := by cases r with | false => rfl | true => exact absurd (HSp.out.1 (hr.1 rfl)).2 hc
  have q : ((ck : Int) == 0) = false := by simp [hc]
  clear hr hc
  go_enter Tryz.func4, Tryz.ntmps4
  go_upto_region 1 with fail
  rw [← HZ.out]
  clear HZ
  go_wp2_with (first
   |(go_at_call 17; with_reducible refine Calls.mono HFw.out ?_; rintro e w1 ⟨rfl, hK1⟩; have HK1 := Lib.hid (HK0.out.trans hK1 (fun _ _ h => h)); obtain ⟨z0, z1, z2, z3, z4, z5, z6, z7, z8⟩ := HB.out _ hK1; have HCk1 := Lib.hid (HCk.out _ hK1); clear hK1)
   |(go_at_call 18; with_reducible refine Calls.mono HCk1.out ?_; rintro e w2 ⟨rfl, hK2⟩; have HK2 := Lib.hid (HK1.out.trans hK2 (fun _ _ h => h)); clear hK2))
  go_ret
  exact ⟨rfl, HK2.out⟩

end Go.Proofs.YtghlklcolepfmaaGreatDoor
