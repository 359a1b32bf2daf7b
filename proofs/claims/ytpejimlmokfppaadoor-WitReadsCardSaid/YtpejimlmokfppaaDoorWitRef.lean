/-
  latchetref18.row, latchetref18.Read.
-/
import Derived.Test.YtpejimlmokfppaaDoorWitExit
import Derived.Test.YtpejimlmokfppaaDoorOctBits2
import Derived.Deep.DeepCutAuto
namespace Go.Proofs.YtpejimlmokfppaaDoor
open Go.RowKit

theorem bits_len {t : ByteArray} (h : bitsC t = 0) : (bitsR t).length = t.size := by
  by_cases hg : allGood t
  · rw [(isGood hg).1, bitsL_length]
  · simp [bitsC, hg] at h

set_option maxRecDepth 100000 in
set_option maxHeartbeats 2000000 in
theorem ref18_row (t : ByteArray) (many : Int) (w : World) (hs : t.size ≤ 100000) :
    Calls Tryd.prog 18 #[.string t, .int .i64 many] w fun e w' => (∃ v, e = .returned (.tuple #[v, .bool (rowR t many).isSome]) ∧ Own w' w.heap.size 4 v ((bitsR t).map Value.bool)) ∧ Kp (fun _ => False) w w' := by
  have HB := Lib.hid (ref_Bits t w hs)
  go_enter Tryd.func18, Tryd.ntmps18
  go_wp2_with fail
  refine HB.out.mono ?_
  rintro e w1 ⟨v, rfl, hO, hK⟩
  have HO := Lib.hid hO
  have HK := Lib.hid hK
  clear hO hK
  by_cases c0 : bitsC t = 0
  · have hb : (((bitsC t : Nat) : Int) == 0) = true := by simp [c0]
    have hl := bits_len c0
    by_cases c1 : (t.size : Int) = many
    · have HR : Hid ((rowR t many).isSome = true) := by show _ = _; unfold rowR; rw [if_pos ⟨c0, by rw [hl]; exact c1⟩]; rfl
      have hb2 : (((t.size : Nat) : Int) == many) = true := by simp [c1]
      clear c0 c1 hl
      go_wp2_with fail
      go_ret2
      rw [HR.out]
      exact ⟨⟨_, rfl, HO.out⟩, HK.out⟩
    · have HR : Hid ((rowR t many).isSome = false) := by show _ = _; unfold rowR; rw [if_neg (fun h => c1 (by rw [← hl]; exact h.2))]; rfl
      have hb2 : (((t.size : Nat) : Int) == many) = false := by simp [c1]
      clear c0 c1 hl
      go_wp2_with fail
      go_ret2
      rw [HR.out]
      exact ⟨⟨_, rfl, HO.out⟩, HK.out⟩
  · have hb : (((bitsC t : Nat) : Int) == 0) = false := by simp [c0]
    have HR : Hid ((rowR t many).isSome = false) := by show _ = _; unfold rowR; rw [if_neg (fun h => c0 h.1)]; rfl
    clear c0
    go_wp2_with fail
    go_ret2
    rw [HR.out]
    exact ⟨⟨_, rfl, HO.out⟩, HK.out⟩

/-- what the reference's cells hold between two rounds -/
structure RS (w W : World) (d : WitD) (v2 v3 : Value) (rows : List Value) : Prop where
  b0 : Blk W w.heap.size #[.int .i64 0, .int .i64 0, .slice none 0 0, .slice none 0 0] 27
  b1 : Blk W (w.heap.size + 1) #[.int .i64 0, .int .i64 0, .slice none 0 0, .slice none 0 0] 27
  b2 : Blk W (w.heap.size + 1 + 1) #[.int .i64 d.kind, .int .i64 d.prop, v2, v3] 27
  o2 : Own W (w.heap.size + 3) 4 v2 (d.start.map Value.bool)
  o3 : OwnRows W (w.heap.size + 3) v3 rows d.ins
  kp : Kp (fun j => w.heap.size ≤ j) w W

theorem RS.keep {w W W' : World} {d : WitD} {v2 v3 : Value} {rows : List Value} (h : RS w W d v2 v3 rows) (q : Kp (fun _ => False) W W') : RS w W' d v2 v3 rows :=
  ⟨h.b0.kp q (fun h => h), h.b1.kp q (fun h => h), h.b2.kp q (fun h => h), h.o2.kp q (fun _ _ h => h), ⟨h.o3.own.kp q (fun _ _ h => h), h.o3.len, fun j r x h1 h2 => (h.o3.row j r x h1 h2).kp q (fun _ _ h => h)⟩, h.kp.trans q (fun _ _ h => h.elim)⟩

theorem RS.start (w : World) : RS w (((w.alloc (.cells #[.int .i64 0, .int .i64 0, .slice none 0 0, .slice none 0 0] 27)).alloc (.cells #[.int .i64 0, .int .i64 0, .slice none 0 0, .slice none 0 0] 27)).alloc (.cells #[.int .i64 0, .int .i64 0, .slice none 0 0, .slice none 0 0] 27)) wit0 (.slice none 0 0) (.slice none 0 0) [] := by
  have new : ∀ (u : World) (c : Array Value) (t : TypeId) (b : Nat), u.heap.size = b → Blk (u.alloc (.cells c t)) b c t := fun u c t b h => by subst h; exact Blk.new u c t
  refine ⟨?_, ?_, ?_, Own.nil _ _ _, ⟨Own.nil _ _ _, rfl, fun j r x h => by cases h⟩, ?_⟩
  · exact ((new _ _ _ _ rfl).alloc _).alloc _
  · exact (new _ _ _ _ (by simp)).alloc _
  · exact new _ _ _ _ (by simp)
  · exact (((Kp.refl _ w).alloc _).alloc _).alloc _

/-- a store into the witness that grows -/
theorem RS.set {w W : World} {d : WitD} {v2 v3 : Value} {rows : List Value} (h : RS w W d v2 v3 rows) (i : Nat) (v : Value) {d' : WitD} {v2' v3' : Value} {rows' : List Value}
    (hb : (#[.int .i64 d.kind, .int .i64 d.prop, v2, v3] : Array Value).setIfInBounds i v = #[.int .i64 d'.kind, .int .i64 d'.prop, v2', v3'])
    (ho2 : Own W (w.heap.size + 3) 4 v2' (d'.start.map Value.bool)) (ho3 : OwnRows W (w.heap.size + 3) v3' rows' d'.ins) : RS w (W.setCell ⟨w.heap.size + 1 + 1, i, none⟩ v) d' v2' v3' rows' := by
  have q := Kp.set W ⟨w.heap.size + 1 + 1, i, none⟩ v
  refine ⟨h.b0.kp q (fun e => by simp only at e; omega), h.b1.kp q (fun e => by simp only at e; omega), hb ▸ h.b2.set_same i v, ho2.kp q (fun j hj e => ?_), ⟨ho3.own.kp q (fun j hj e => ?_), ho3.len, fun j r x h1 h2 => (ho3.row j r x h1 h2).kp q (fun k hk e => ?_)⟩, h.kp.trans q (fun k _ e => by simp only at e; omega)⟩
  · have := (ho2.lt j hj).1; simp only at e; omega
  · have := (ho3.own.lt j hj).1; simp only at e; omega
  · have := ((ho3.row j r x h1 h2).lt k hk).1; simp only at e; omega

theorem RS.append {w W W2 : World} {d : WitD} {v2 v3 r v' : Value} {rows : List Value} {l : List Bool} (h : RS w W d v2 v3 rows) (ho : Own W (w.heap.size + 3) 4 r (l.map Value.bool))
    (hg : W.grownBy W2 v3.ownBlock) (ho3 : Own W2 (w.heap.size + 3) 22 v' (rows ++ [r])) :
    RS w (W2.setCell ⟨w.heap.size + 1 + 1, 3, none⟩ v') { d with ins := d.ins ++ [l] } v2 v' (rows ++ [r]) := by
  have q := (Kp.refl (fun j => v3.ownBlock = some j) W).grown hg (fun _ e _ => e)
  have hlo := fun j (e : v3.ownBlock = some j) => (h.o3.own.lt j e).1
  have h2 : Own W2 (w.heap.size + 3) 4 v2 (d.start.map Value.bool) := h.o2.kp q (own_ne_own h.o2 h.o3.own (by decide))
  have h3 : OwnRows W2 (w.heap.size + 3) v' (rows ++ [r]) (d.ins ++ [l]) := by
    refine ⟨ho3, by simp [h.o3.len], ?_⟩
    intro j r' x h1 h2
    by_cases hj : j < rows.length
    · rw [List.getElem?_append_left hj] at h1
      rw [List.getElem?_append_left (by rw [← h.o3.len]; exact hj)] at h2
      have := h.o3.row j r' x h1 h2
      exact this.kp q (own_ne_own this h.o3.own (by decide))
    · have hj2 : j = rows.length := by
        have := (List.getElem?_eq_some_iff.1 h1).1
        simp at this; omega
      subst hj2
      rw [List.getElem?_append_right (Nat.le_refl _)] at h1
      rw [h.o3.len, List.getElem?_append_right (Nat.le_refl _)] at h2
      simp at h1 h2
      subst h1 h2
      exact ho.kp q (own_ne_own ho h.o3.own (by decide))
  have b2 : Blk W2 (w.heap.size + 1 + 1) _ _ := h.b2.kp q (fun e => by have := hlo _ e; omega)
  have p := Kp.set W2 ⟨w.heap.size + 1 + 1, 3, none⟩ v'
  refine ⟨(h.b0.kp q (fun e => by have := hlo _ e; omega)).kp p (fun e => by simp only at e; omega), (h.b1.kp q (fun e => by have := hlo _ e; omega)).kp p (fun e => by simp only at e; omega), b2.set_same 3 v', h2.kp p (fun j hj e => ?_), ⟨ho3.kp p (fun j hj e => ?_), h3.len, fun j r x h1 h2 => (h3.row j r x h1 h2).kp p (fun k hk e => ?_)⟩, (h.kp.trans q (fun k _ e => by have := hlo _ e; omega)).trans p (fun k _ e => by simp only at e; omega)⟩
  · have := (h2.lt j hj).1; simp only at e; omega
  · have := (ho3.lt j hj).1; simp only at e; omega
  · have := ((h3.row j r x h1 h2).lt k hk).1; simp only at e; omega

theorem RS.exit {w W W' : World} {d : WitD} {v2 v3 : Value} {rows : List Value} (h : RS w W d v2 v3 rows) (x0 x1 u2 u3 : Value)
    (hW : W' = (((W.setCell ⟨w.heap.size, 0, none⟩ x0).setCell ⟨w.heap.size, 1, none⟩ x1).setCell ⟨w.heap.size, 2, none⟩ u2).setCell ⟨w.heap.size, 3, none⟩ u3) :
    Kp (fun j => w.heap.size ≤ j) w W' ∧ Own W' (w.heap.size + 3) 4 v2 (d.start.map Value.bool) ∧ OwnRows W' (w.heap.size + 3) v3 rows d.ins := by
  have q : Kp (fun j => j = w.heap.size) W W' := by
    subst hW
    exact ((((Kp.refl (fun j => j = w.heap.size) W).setCell (p := ⟨w.heap.size, 0, none⟩) (fun _ => rfl) x0).setCell (p := ⟨w.heap.size, 1, none⟩) (fun _ => rfl) x1).setCell (p := ⟨w.heap.size, 2, none⟩) (fun _ => rfl) u2).setCell (p := ⟨w.heap.size, 3, none⟩) (fun _ => rfl) u3
  refine ⟨h.kp.trans q (fun k _ e => by omega), h.o2.kp q (fun j hj e => ?_), ⟨h.o3.own.kp q (fun j hj e => ?_), h.o3.len, fun j r x h1 h2 => (h.o3.row j r x h1 h2).kp q (fun i hi e => ?_)⟩⟩
  · have := (h.o2.lt j hj).1; omega
  · have := (h.o3.own.lt j hj).1; omega
  · have := ((h.o3.row j r x h1 h2).lt i hi).1; omega

theorem RS.bad_post {w W W' : World} {s : ByteArray} {d : WitD} {v2 v3 : Value} {rows : List Value} (h : RS w W d v2 v3 rows) (p e : Nat)
    (hW : W' = (((W.setCell ⟨w.heap.size, 0, none⟩ (.int .i64 0)).setCell ⟨w.heap.size, 1, none⟩ (.int .i64 0)).setCell ⟨w.heap.size, 2, none⟩ (.slice none 0 0)).setCell ⟨w.heap.size, 3, none⟩ (.slice none 0 0)) {o : WitO} (ho : o = .bad p e) :
    WReadP w s o (.returned (.tuple #[.agg #[.int .i64 0, .int .i64 0, .slice none 0 0, .slice none 0 0], .int .i64 p, .int .i64 e])) W' := by
  subst ho
  obtain ⟨k, _, _⟩ := h.exit _ _ _ _ hW
  exact ⟨⟨_, rfl, _, _, rfl, own_boolsSl (l := []) (Own.nil _ 0 _), none, 0, rfl, Nat.le_refl _, by simp [maxLen], fun _ => rfl, [], RowAt.nil _ _, rfl, fun j r x h => by cases h⟩, k.below0⟩

theorem RS.ok_post {w W W' : World} {s : ByteArray} {d : WitD} {v2 v3 : Value} {rows : List Value} (h : RS w W d v2 v3 rows)
    (hW : W' = (((W.setCell ⟨w.heap.size, 0, none⟩ (.int .i64 d.kind)).setCell ⟨w.heap.size, 1, none⟩ (.int .i64 d.prop)).setCell ⟨w.heap.size, 2, none⟩ v2).setCell ⟨w.heap.size, 3, none⟩ v3) {o : WitO} (ho : o = .ok d) :
    WReadP w s o (.returned (.tuple #[.agg #[.int .i64 d.kind, .int .i64 d.prop, v2, v3], .int .i64 s.size, .int .i64 0])) W' := by
  subst ho
  obtain ⟨k, o2, o3⟩ := h.exit _ _ _ _ hW
  refine ⟨⟨_, rfl, v2, v3, rfl, own_boolsSl o2, ?_⟩, k.below0⟩
  obtain ⟨a, cap, rfl, h1, h2, h3, h4⟩ := o3.own.form
  exact ⟨a, cap, by show Value.slice a _ cap = Value.slice a d.ins.length cap; rw [o3.len], by show d.ins.length ≤ cap; rw [← o3.len]; exact h1, h2, own_nil_cap o3.own, rows, h4, o3.len, fun j r x hr hx => own_boolsSl (o3.row j r x hr hx)⟩

/-- the number behind a b, as the reference reads it -/
theorem propR_ref (t : ByteArray) : propR t = if 1 < t.size ∧ bt t 0 = 98 ∧ (natN t 1).2.2 = 0 ∧ (natN t 1).2.1 = t.size then some (natN t 1).1 else none := by
  unfold propR
  by_cases h0 : 1 < t.size
  · have hr := natN_rest (s := t) (p := 1) (by omega)
    have hz : (t.extract 1 t.size).size = t.size - 1 := by rw [ByteArray.size_extract]; omega
    rw [hr]
    simp only
    by_cases h1 : (natN (t.extract 1 t.size) 0).2.2 = 0
    · rw [if_pos h1]
      simp only [h1, true_and]
      by_cases h2 : bt t 0 = 98 ∧ (natN (t.extract 1 t.size) 0).2.1 = (t.extract 1 t.size).size
      · rw [if_pos ⟨by omega, h2⟩, if_pos ⟨h0, h2.1, by rw [h2.2, hz]; omega⟩]
      · rw [if_neg (fun h => h2 h.2), if_neg (fun h => h2 ⟨h.2.1, by rw [hz]; omega⟩)]
    · rw [if_neg (fun h => h1 h.2.2.1), if_neg (fun h => h1 h.2.2.1)]
  · rw [if_neg (c := 1 < t.size ∧ _) (fun h => h0 h.1)]
    refine if_neg ?_
    rintro ⟨h1, _, h3, _⟩
    have hz : (t.extract 1 t.size).size = 0 := by rw [ByteArray.size_extract]; omega
    unfold natN at h3
    rw [if_pos hz.symm] at h3
    cases h3

set_option maxRecDepth 100000 in
set_option maxHeartbeats 4000000 in
theorem ref18_Read_in (s : ByteArray) (la inp : Int) (w : World) (hs : s.size ≤ 100000) (h1 : 0 ≤ la) (h2 : 0 ≤ inp) :
    Calls Tryd.prog 6 #[.string s, .int .i64 la, .int .i64 inp] w (WReadP w s (witT s la inp)) := by
  have g1 : decide (la < 0) = false := by simpa using h1
  have g2 : decide (inp < 0) = false := by simpa using h2
  have HW := Lib.hid (show witT s la inp = witR s la inp (s.size + 2) 0 0 wit0 by unfold witT; rw [if_neg (by omega)])
  have HLine := Lib.hid (fun (p : Nat) (u : World) (hp : p ≤ s.size) => ref_Line_in s p u (by omega) hp)
  clear h1 h2
  go_enter Tryd.func6, Tryd.ntmps6
  go_wp2_with fail
  go_loopw [11, 12] (fun v11 v12 wr => ∃ (p k f : Nat) (d : WitD) (v2 v3 : Value) (rows : List Value), v11 = .int .i64 p ∧ v12 = .int .i64 k ∧ p ≤ s.size ∧ k ≤ p ∧ s.size - p + 1 ≤ f ∧ d.ins.length ≤ k ∧ witR s la inp f p k d = witR s la inp (s.size + 2) 0 0 wit0 ∧ RS w wr d v2 v3 rows)
    (fun v11 _ _ => s.size - (intOf v11).toNat)
  case atStart => exact ⟨0, 0, s.size + 2, wit0, _, _, _, rfl, rfl, Nat.zero_le _, Nat.zero_le _, by omega, by simp [wit0], rfl, RS.start w⟩
  case round =>
    obtain ⟨p, k, f, d, v2, v3, rows, rfl, rfl, hp, hk, hf, hin, hall, hS⟩ := hrel
    obtain ⟨f, rfl⟩ : ∃ f', f = f' + 1 := ⟨f - 1, by omega⟩
    have HR := Lib.hid hS
    have HAll := Lib.hid hall
    have HF := Lib.hid hf
    have HIn := Lib.hid hin
    clear hS hall hf hin
    have HStep := Lib.hid (show witR s la inp (f + 1) p k d = if (lineT s (p : Nat)).2.2 ≠ 0 then .bad p (lineT s (p : Nat)).2.2
      else if lastR (lineT s (p : Nat)).1 k d then if (lineT s (p : Nat)).2.1 < s.size then .bad (lineT s (p : Nat)).2.1 2 else .ok d
      else match stepR (lineT s (p : Nat)).1 k la inp d with
        | none => .bad p 2
        | some d' => witR s la inp f (lineT s (p : Nat)).2.1 (k + 1) d' from rfl)
    have HEnd := Lib.hid (fun h => lineT_end hp h)
    have HTs := Lib.hid (lineT_size hp)
    have HL := Lib.hid (HLine.out p wr hp)
    have HNx := Lib.hid (lineT_next hp)
    obtain ⟨t, nx, er, hT⟩ : ∃ t nx er, lineT s (p : Nat) = (t, nx, er) := ⟨_, _, _, rfl⟩
    rw [hT] at HStep HEnd HTs HL HNx
    simp only at HStep HEnd HTs HNx
    clear hT
    have hts : t.size ≤ 100000 := Nat.le_trans HTs.out hs
    have c0 := HR.out.b1.cell (i := 0) rfl
    have c1 := HR.out.b1.cell (i := 1) rfl
    have c2 := HR.out.b1.cell (i := 2) rfl
    have c3 := HR.out.b1.cell (i := 3) rfl
    have d0 := HR.out.b0.cell (i := 0) rfl
    have d1 := HR.out.b0.cell (i := 1) rfl
    have d2 := HR.out.b0.cell (i := 2) rfl
    have d3 := HR.out.b0.cell (i := 3) rfl
    have fr0 := fun i => HR.out.b0.free i
    have e0 := HR.out.b2.cell (i := 0) rfl
    have e1 := HR.out.b2.cell (i := 1) rfl
    have fr2 := fun i => HR.out.b2.free i
    go_upto_region 5 with (go_at_call 16; refine HL.out.mono ?_; rintro e w' ⟨rfl, rfl⟩; unfold lineV; simp only)
    by_cases he : er = 0
    · have g3 : ((er : Int) != 0) = false := by simp [he]
      have HE := Lib.hid he
      obtain ⟨hn1, hn2, _⟩ := HEnd.out he
      clear he
      go_upto_region 7 with (fail)
      obtain ⟨wo, rfl⟩ : ∃ wo : World, wo = wr := ⟨_, rfl⟩
      go_cut [16] (fun s16 wx => s16 = .bool (lastR t k d) ∧ wo = wx)
      case first =>
        have hd := dot_eq t
        have leaf : (∃ b, (t.toList == [46]) = false ∧ b = lastR t k d ∧ b = false) ∨ (t.toList == [46]) = true := by
          by_cases ht : t = ⟨#[46]⟩
          · exact .inr (by rw [hd]; simpa using ht)
          · exact .inl ⟨_, by rw [hd]; simpa using ht, rfl, by unfold lastR; rw [decide_eq_false_iff_not]; exact fun h => ht h.1⟩
        rcases leaf with ⟨_, g5, rfl, h5⟩ | g5
        · have HL5 := Lib.hid h5
          clear h5 hd
          go_wp2_with fail
          go_meet
          case rel => exact ⟨by rw [HL5.out], rfl⟩
        · have ht : t = ⟨#[46]⟩ := by rw [hd] at g5; simpa using g5
          by_cases k2 : k = 2
          · have b2 : ((k : Int) == 2) = true := by simp [k2]
            by_cases kd : d.kind = 1
            · have b3 : ((d.kind : Int) != 1) = false := by simp [kd]
              have b4 : decide ((3 : Int) < (k : Int)) = false := by simp; omega
              have HL5 := Lib.hid (show lastR t k d = false by unfold lastR; rw [decide_eq_false_iff_not]; omega)
              clear hd ht k2 kd
              go_wp2_with fail
              go_meet
              case rel => exact ⟨by rw [HL5.out], rfl⟩
            · have b3 : ((d.kind : Int) != 1) = true := by simp; omega
              have HL5 := Lib.hid (show lastR t k d = true by unfold lastR; rw [decide_eq_true_iff]; exact ⟨ht, .inl ⟨k2, kd⟩⟩)
              clear hd ht k2 kd
              go_wp2_with fail
              go_meet
              case rel => exact ⟨by rw [HL5.out], rfl⟩
          · have b2 : ((k : Int) == 2) = false := by simp; omega
            by_cases k3 : 3 < k
            · have b4 : decide ((3 : Int) < (k : Int)) = true := by simp; omega
              have HL5 := Lib.hid (show lastR t k d = true by unfold lastR; rw [decide_eq_true_iff]; exact ⟨ht, .inr k3⟩)
              clear hd ht k2 k3
              go_wp2_with fail
              go_meet
              case rel => exact ⟨by rw [HL5.out], rfl⟩
            · have b4 : decide ((3 : Int) < (k : Int)) = false := by simp; omega
              have HL5 := Lib.hid (show lastR t k d = false by unfold lastR; rw [decide_eq_false_iff_not]; omega)
              clear hd ht k2 k3
              go_wp2_with fail
              go_meet
              case rel => exact ⟨by rw [HL5.out], rfl⟩
      case rest =>
        obtain ⟨rfl, rfl⟩ := hcut
        have HS2 := Lib.hid (HStep.out.trans (if_neg (fun h => h HE.out)))
        cases hl : lastR t k d with
        | true =>
          rw [hl] at HS2
          obtain ⟨x2, y2, E2, -⟩ := HR.out.o2.form
          obtain ⟨x3, y3, E3, -⟩ := HR.out.o3.own.form
          obtain ⟨z2, hz2⟩ : ∃ z, (d.start.map Value.bool).length = z := ⟨_, rfl⟩
          obtain ⟨z3, hz3⟩ : ∃ z, rows.length = z := ⟨_, rfl⟩
          rw [hz2] at E2
          rw [hz3] at E3
          clear hz2 hz3
          subst E2
          subst E3
          have e2 := HR.out.b2.cell (i := 2) rfl
          have e3 := HR.out.b2.cell (i := 3) rfl
          by_cases hz : nx < s.size
          · have g6 : decide ((nx : Int) < (s.size : Int)) = true := by simpa using hz
            have HZ := Lib.hid hz; clear hz
            go_wp2_with fail
            exact bodyPost_ret (v := .tuple #[.agg #[.int .i64 0, .int .i64 0, .slice none 0 0, .slice none 0 0], .int .i64 nx, .int .i64 2]) (by simp [results, Tryd.results6, go_sem, d0, d1, d2, d3]) rfl
              (HR.out.bad_post nx 2 rfl (HW.out.trans (HAll.out.symm.trans (HS2.out.trans (if_pos HZ.out)))))
          · have g6 : decide ((nx : Int) < (s.size : Int)) = false := by simpa using hz
            have HZ := Lib.hid hz; clear hz
            go_wp2_with fail
            exact bodyPost_ret (v := .tuple #[.agg #[.int .i64 d.kind, .int .i64 d.prop, .slice x2 z2 y2, .slice x3 z3 y3], .int .i64 s.size, .int .i64 0]) (by simp [results, Tryd.results6, go_sem, d0, d1, d2, d3]) rfl
              (HR.out.ok_post rfl (HW.out.trans (HAll.out.symm.trans (HS2.out.trans (if_neg HZ.out)))))
        | false =>
          rw [hl] at HS2
          have HS3 := Lib.hid (HS2.out.trans (if_neg (by simp)))
          have HBad : Hid (stepR t k la inp d = none → witT s la inp = .bad p 2) := fun h => HW.out.trans (HAll.out.symm.trans (HS3.out.trans (by rw [h])))
          have HClose : Hid (∀ (d' : WitD) (v2' v3' : Value) (rows' : List Value) (W' : World), stepR t k la inp d = some d' → RS w W' d' v2' v3' rows' →
              ∃ (p' k' f' : Nat) (d1 : WitD) (u2 u3 : Value) (rows1 : List Value), Value.int .i64 (nx : Int) = .int .i64 (p' : Int) ∧ Value.int .i64 ((k : Int) + 1) = .int .i64 (k' : Int) ∧ p' ≤ s.size ∧ k' ≤ p' ∧ s.size - p' + 1 ≤ f' ∧ d1.ins.length ≤ k' ∧ witR s la inp f' p' k' d1 = witR s la inp (s.size + 2) 0 0 wit0 ∧ RS w W' d1 u2 u3 rows1) := by
            intro d' v2' v3' rows' W' hst hrs
            have hi := stepR_ins hst
            have := HIn.out
            have hff := HF.out
            exact ⟨nx, k + 1, f, d', v2', v3', rows', rfl, by go_num, hn2, by omega, by omega, by omega, by rw [← HAll.out, HS3.out, hst], hrs⟩
          have HIns := Lib.hid (show rows.length ≤ 100000 by rw [HR.out.o3.len]; have := HIn.out; omega)
          clear hl HS2 HStep HL g3 HIn HF HAll HS3 HW
          by_cases k0 : k = 0
          · have HSt := Lib.hid (show stepR t k la inp d = if t.size = 1 ∧ 48 ≤ bt t 0 ∧ bt t 0 ≤ 50 then some { d with kind := bt t 0 - 48 } else none by unfold stepR; rw [if_pos k0])
            have b0 : ((k : Int) == 0) = true := by simp [k0]
            have b1 : ((k : Int) == 1) = false := by simp [k0]
            have b2 : ((k : Int) == 2) = false := by simp [k0]
            have b3 : decide ((2 : Int) < (k : Int)) = false := by simp [k0]
            clear k0
            by_cases z1 : t.size = 1
            · have h0 : 0 < t.size := by omega
              have l1 : ((t.size : Int) == 1) = true := by simp [z1]
              have l0 : decide ((0 : Int) < (t.size : Int)) = true := by simp; omega
              have hbt := bt_eq h0
              obtain ⟨B, hB⟩ : ∃ B, (t[0]'h0).toNat = B := ⟨_, rfl⟩
              have hbt2 : bt t 0 = B := by rw [← hB]; exact hbt.symm
              clear hbt
              by_cases y1 : 48 ≤ B
              · have q1 : decide ((48 : Int) ≤ (B : Int)) = true := by simp; omega
                by_cases y2 : B ≤ 50
                · have q2 : decide ((B : Int) ≤ 50) = true := by simp; omega
                  have HSu := Lib.hid (HSt.out.trans (if_pos ⟨z1, by omega, by omega⟩))
                  rw [hbt2] at HSu
                  obtain ⟨m, hm⟩ : ∃ m, B - 48 = m := ⟨_, rfl⟩
                  rw [hm] at HSu
                  have hs48 : (B : Int) - 48 = (m : Int) := by omega
                  have hm2 : m ≤ 2 := by omega
                  have HR2 := Lib.hid (HR.out.set 0 (.int .i64 m) (d' := { d with kind := m }) rfl HR.out.o2 HR.out.o3)
                  clear hbt2 y1 y2 z1 hm HSt
                  go_wp2_with fail
                  exact ⟨HClose.out _ _ _ _ _ HSu.out HR2.out, by simp [intOf]; omega⟩
                · have q2 : decide ((B : Int) ≤ 50) = false := by simp; omega
                  have HSu := Lib.hid (HSt.out.trans (if_neg (by omega)))
                  clear hbt2 y1 y2 z1 HSt
                  go_wp2_with fail
                  exact bodyPost_ret (v := .tuple #[.agg #[.int .i64 0, .int .i64 0, .slice none 0 0, .slice none 0 0], .int .i64 p, .int .i64 2]) (by simp [results, Tryd.results6, go_sem, d0, d1, d2, d3]) rfl (HR.out.bad_post p 2 rfl (HBad.out HSu.out))
              · have q1 : decide ((48 : Int) ≤ (B : Int)) = false := by simp; omega
                have HSu := Lib.hid (HSt.out.trans (if_neg (by omega)))
                clear hbt2 y1 z1 HSt
                go_wp2_with fail
                exact bodyPost_ret (v := .tuple #[.agg #[.int .i64 0, .int .i64 0, .slice none 0 0, .slice none 0 0], .int .i64 p, .int .i64 2]) (by simp [results, Tryd.results6, go_sem, d0, d1, d2, d3]) rfl (HR.out.bad_post p 2 rfl (HBad.out HSu.out))
            · have l1 : ((t.size : Int) == 1) = false := by simp; omega
              have HSu := Lib.hid (HSt.out.trans (if_neg (fun h => z1 h.1)))
              clear z1 HSt
              go_wp2_with fail
              exact bodyPost_ret (v := .tuple #[.agg #[.int .i64 0, .int .i64 0, .slice none 0 0, .slice none 0 0], .int .i64 p, .int .i64 2]) (by simp [results, Tryd.results6, go_sem, d0, d1, d2, d3]) rfl (HR.out.bad_post p 2 rfl (HBad.out HSu.out))
          have b0 : ((k : Int) == 0) = false := by simp; omega
          by_cases k1 : k = 1
          · have HSt := Lib.hid (show stepR t k la inp d = (propR t).map (fun n => { d with prop := n }) by unfold stepR; rw [if_neg k0, if_pos k1])
            have b1 : ((k : Int) == 1) = true := by simp [k1]
            have b2 : ((k : Int) == 2) = false := by simp [k1]
            have b3 : decide ((2 : Int) < (k : Int)) = false := by simp [k1]
            have HP := Lib.hid (propR_ref t)
            clear k0 k1
            by_cases z1 : 1 < t.size
            · have h0 : 0 < t.size := by omega
              have l1 : decide ((1 : Int) < (t.size : Int)) = true := by simp; omega
              have l0 : decide ((0 : Int) < (t.size : Int)) = true := by simp; omega
              have hbt := bt_eq h0
              obtain ⟨B, hB⟩ : ∃ B, (t[0]'h0).toNat = B := ⟨_, rfl⟩
              have hbt2 : bt t 0 = B := by rw [← hB]; exact hbt.symm
              clear hbt
              by_cases y1 : B = 98
              · have q1 : ((B : Int) == 98) = true := by simp [y1]
                have HN := Lib.hid (fun u => ref_Nat_in t 1 u (by omega) z1)
                rw [show (((1 : Nat) : Int)) = 1 from rfl] at HN
                have HQ : Hid (propR t = if (natN t 1).2.2 = 0 ∧ (natN t 1).2.1 = t.size then some (natN t 1).1 else none) := by
                  refine HP.out.trans ?_
                  by_cases hh : (natN t 1).2.2 = 0 ∧ (natN t 1).2.1 = t.size
                  · rw [if_pos hh, if_pos ⟨z1, by omega, hh⟩]
                  · rw [if_neg hh, if_neg (fun h => hh h.2.2)]
                obtain ⟨n, en, er2, hT⟩ : ∃ n en er, natN t 1 = (n, en, er) := ⟨_, _, _, rfl⟩
                rw [hT] at HN HQ
                simp only at HQ
                have HR2 := Lib.hid (HR.out.set 1 (.int .i64 n) (d' := { d with prop := n }) rfl HR.out.o2 HR.out.o3)
                clear hT HP hbt2 y1 z1
                by_cases c0 : er2 = 0
                · have r0 : ((er2 : Int) == 0) = true := by simp [c0]
                  by_cases c1' : en = t.size
                  · have r1 : ((en : Int) == (t.size : Int)) = true := by simp [c1']
                    have HSu := Lib.hid (HSt.out.trans (by rw [HQ.out, if_pos ⟨c0, c1'⟩]; rfl : _ = some { d with prop := n }))
                    clear c0 c1' HSt HQ
                    go_wp2_with (go_at_call 17; refine (HN.out _).mono ?_; rintro e w' ⟨rfl, rfl⟩; unfold tripI; simp only)
                    exact ⟨HClose.out _ _ _ _ _ HSu.out HR2.out, by simp [intOf]; omega⟩
                  · have r1 : ((en : Int) == (t.size : Int)) = false := by simp; omega
                    have HSu := Lib.hid (HSt.out.trans (by rw [HQ.out, if_neg (fun h => c1' h.2)]; rfl : _ = none))
                    clear c0 c1' HSt HQ
                    go_wp2_with (go_at_call 17; refine (HN.out _).mono ?_; rintro e w' ⟨rfl, rfl⟩; unfold tripI; simp only)
                    exact bodyPost_ret (v := .tuple #[.agg #[.int .i64 0, .int .i64 0, .slice none 0 0, .slice none 0 0], .int .i64 p, .int .i64 2]) (by simp [results, Tryd.results6, go_sem, d0, d1, d2, d3]) rfl (HR2.out.bad_post p 2 rfl (HBad.out HSu.out))
                · have r0 : ((er2 : Int) == 0) = false := by simp [c0]
                  have HSu := Lib.hid (HSt.out.trans (by rw [HQ.out, if_neg (fun h => c0 h.1)]; rfl : _ = none))
                  clear c0 HSt HQ
                  go_wp2_with (go_at_call 17; refine (HN.out _).mono ?_; rintro e w' ⟨rfl, rfl⟩; unfold tripI; simp only)
                  exact bodyPost_ret (v := .tuple #[.agg #[.int .i64 0, .int .i64 0, .slice none 0 0, .slice none 0 0], .int .i64 p, .int .i64 2]) (by simp [results, Tryd.results6, go_sem, d0, d1, d2, d3]) rfl (HR2.out.bad_post p 2 rfl (HBad.out HSu.out))
              · have q1 : ((B : Int) == 98) = false := by simp; omega
                have HSu := Lib.hid (HSt.out.trans (by rw [HP.out, if_neg (fun h => y1 (by omega))]; rfl : _ = none))
                clear hbt2 y1 z1 HSt HP
                go_wp2_with fail
                exact bodyPost_ret (v := .tuple #[.agg #[.int .i64 0, .int .i64 0, .slice none 0 0, .slice none 0 0], .int .i64 p, .int .i64 2]) (by simp [results, Tryd.results6, go_sem, d0, d1, d2, d3]) rfl (HR.out.bad_post p 2 rfl (HBad.out HSu.out))
            · have l1 : decide ((1 : Int) < (t.size : Int)) = false := by simp; omega
              have HSu := Lib.hid (HSt.out.trans (by rw [HP.out, if_neg (fun h => z1 h.1)]; rfl : _ = none))
              clear z1 HSt HP
              go_wp2_with fail
              exact bodyPost_ret (v := .tuple #[.agg #[.int .i64 0, .int .i64 0, .slice none 0 0, .slice none 0 0], .int .i64 p, .int .i64 2]) (by simp [results, Tryd.results6, go_sem, d0, d1, d2, d3]) rfl (HR.out.bad_post p 2 rfl (HBad.out HSu.out))
          have b1 : ((k : Int) == 1) = false := by simp; omega
          by_cases kd : d.kind = 1
          · have b4 : ((d.kind : Int) == 1) = true := by simp [kd]
            have hWs : w.heap.size + 3 ≤ wo.heap.size := by have := HR.out.b2.lt; omega
            by_cases k2 : k = 2
            · have HSt := Lib.hid (show stepR t k la inp d = (rowR t la).map (fun l => { d with start := l }) by unfold stepR; rw [if_neg k0, if_neg k1, if_neg (fun h => h kd), if_pos k2])
              have b2 : ((k : Int) == 2) = true := by simp [k2]
              have b3 : decide ((2 : Int) < (k : Int)) = false := by simp [k2]
              have HP := Lib.hid (fun (u : World) => ref18_row t la u hts)
              clear k0 k1 k2 kd
              cases hp : rowR t la with
              | none =>
                rw [hp] at HP HSt
                go_wp2_with fail
                refine (HP.out _).mono ?_
                rintro e w1 ⟨⟨v, rfl, ho⟩, hK⟩
                have HR1 := Lib.hid (HR.out.keep hK)
                have d0' := HR1.out.b0.cell (i := 0) rfl
                have d1' := HR1.out.b0.cell (i := 1) rfl
                have d2' := HR1.out.b0.cell (i := 2) rfl
                have d3' := HR1.out.b0.cell (i := 3) rfl
                have c0' := HR1.out.b1.cell (i := 0) rfl
                have c1' := HR1.out.b1.cell (i := 1) rfl
                have c2' := HR1.out.b1.cell (i := 2) rfl
                have c3' := HR1.out.b1.cell (i := 3) rfl
                have e0' := HR1.out.b2.cell (i := 0) rfl
                have e2' := HR1.out.b2.cell (i := 2) rfl
                have fr0' := fun i => HR1.out.b0.free i
                have fr2' := fun i => HR1.out.b2.free i
                obtain ⟨a9, c9, E9, -⟩ := ho.form
                obtain ⟨z9, hz9⟩ : ∃ z, ((bitsR t).map Value.bool).length = z := ⟨_, rfl⟩
                rw [hz9] at E9
                have HO := Lib.hid (ho.mono hWs)
                subst E9
                have HR2 := Lib.hid (HR1.out.set 2 (.slice a9 z9 c9) (d' := { d with start := bitsR t }) rfl HO.out HR1.out.o3)
                clear hK ho hz9
                simp only [Option.isSome_none]
                go_wp2_with fail
                exact bodyPost_ret (v := .tuple #[.agg #[.int .i64 0, .int .i64 0, .slice none 0 0, .slice none 0 0], .int .i64 p, .int .i64 2]) (by simp [results, Tryd.results6, go_sem, d0', d1', d2', d3']) rfl (HR2.out.bad_post p 2 rfl (HBad.out HSt.out))
              | some l9 =>
                have HL9 := Lib.hid (rowR_bits hp)
                rw [hp] at HP HSt
                go_wp2_with fail
                refine (HP.out _).mono ?_
                rintro e w1 ⟨⟨v, rfl, ho⟩, hK⟩
                have HR1 := Lib.hid (HR.out.keep hK)
                have e0' := HR1.out.b2.cell (i := 0) rfl
                have e2' := HR1.out.b2.cell (i := 2) rfl
                have fr2' := fun i => HR1.out.b2.free i
                obtain ⟨a9, c9, E9, -⟩ := ho.form
                obtain ⟨z9, hz9⟩ : ∃ z, ((bitsR t).map Value.bool).length = z := ⟨_, rfl⟩
                rw [hz9] at E9
                have HO := Lib.hid (ho.mono hWs)
                rw [← HL9.out] at HO
                subst E9
                have HR2 := Lib.hid (HR1.out.set 2 (.slice a9 z9 c9) (d' := { d with start := l9 }) rfl HO.out HR1.out.o3)
                clear hK ho hz9
                simp only [Option.isSome_some]
                go_wp2_with fail
                exact ⟨HClose.out _ _ _ _ _ HSt.out HR2.out, by simp [intOf]; omega⟩
            · have HSt := Lib.hid (show stepR t k la inp d = (rowR t inp).map (fun l => { d with ins := d.ins ++ [l] }) by unfold stepR; rw [if_neg k0, if_neg k1, if_neg (fun h => h kd), if_neg k2])
              have b2 : ((k : Int) == 2) = false := by simp; omega
              have b3 : decide ((2 : Int) < (k : Int)) = true := by simp; omega
              have HP := Lib.hid (fun (u : World) => ref18_row t inp u hts)
              clear k0 k1 k2 kd
              cases hp : rowR t inp
              all_goals
                have HRow := Lib.hid hp
                rw [hp] at HP HSt
                clear hp
                go_wp2_with fail
                refine (HP.out _).mono ?_
                rintro e w1 ⟨⟨v, rfl, ho⟩, hK⟩
                have HR1 := Lib.hid (HR.out.keep hK)
                have e0' := HR1.out.b2.cell (i := 0) rfl
                have e3' := HR1.out.b2.cell (i := 3) rfl
                obtain ⟨a9, c9, E9, -⟩ := ho.form
                obtain ⟨z9, hz9⟩ : ∃ z, ((bitsR t).map Value.bool).length = z := ⟨_, rfl⟩
                rw [hz9] at E9
                have HO := Lib.hid (ho.mono hWs)
                have hW1 : w.heap.size + 3 ≤ w1.heap.size := by have := HR1.out.b2.lt; omega
                subst E9
                clear hK ho hz9
                have hil := HIns.out
                simp only [Option.isSome_none, Option.isSome_some]
                go_wp2_with (at_builtin; refine wpList_append1 rfl _ _ 23 22 rfl Tryd.underlying23 boolsInfo rfl (HR1.out.o3.own.alloc _) rfl ⟨w1.heap.size, 0, none⟩ (.slice a9 z9 c9) rfl ?c1 rfl ?c2 ?c3 ?c4 ?_)
                case c1 => exact (Blk.new w1 #[.slice a9 z9 c9] 22).cell (i := 0) rfl
                case c2 => omega
                case c3 => unfold maxLen; omega
                case c4 => simp; omega
                intro v' w2 hO3 hg
                have hR2 := HR1.out.keep ((Kp.refl (fun _ => False) w1).alloc (.cells #[.slice a9 z9 c9] 22))
                have HR3 := Lib.hid (hR2.append (HO.out.alloc _) hg hO3)
                have q := (Kp.refl (fun j => v3.ownBlock = some j) _).grown hg (fun _ e _ => e)
                have hlo := fun j (e : v3.ownBlock = some j) => (hR2.o3.own.lt j e).1
                have hb0 : Blk w2 w.heap.size _ _ := hR2.b0.kp q (fun e => by have := hlo _ e; omega)
                have hb1 : Blk w2 (w.heap.size + 1) _ _ := hR2.b1.kp q (fun e => by have := hlo _ e; omega)
                have hb2 : Blk w2 (w.heap.size + 1 + 1) _ _ := hR2.b2.kp q (fun e => by have := hlo _ e; omega)
                have d0' := hb0.cell (i := 0) rfl
                have d1' := hb0.cell (i := 1) rfl
                have d2' := hb0.cell (i := 2) rfl
                have d3' := hb0.cell (i := 3) rfl
                have c0' := hb1.cell (i := 0) rfl
                have c1' := hb1.cell (i := 1) rfl
                have c2' := hb1.cell (i := 2) rfl
                have c3' := hb1.cell (i := 3) rfl
                have e3'' := hb2.cell (i := 3) rfl
                have fr0' := fun i => hb0.free i
                have fr2' := fun i => hb2.free i
                obtain ⟨a8, c8', E8, -⟩ := hO3.form
                obtain ⟨z8, hz8⟩ : ∃ z, (rows ++ [Value.slice a9 z9 c9]).length = z := ⟨_, rfl⟩
                rw [hz8] at E8
                subst E8
                clear hR2 q hlo hb0 hb1 hb2 hO3 hg hz8 hil
              · go_wp2_with fail
                exact bodyPost_ret (v := .tuple #[.agg #[.int .i64 0, .int .i64 0, .slice none 0 0, .slice none 0 0], .int .i64 p, .int .i64 2]) (by simp [results, Tryd.results6, go_sem, d0', d1', d2', d3']) rfl (HR3.out.bad_post p 2 rfl (HBad.out HSt.out))
              · rename_i l9
                have HL9 := Lib.hid (rowR_bits HRow.out)
                rw [← HL9.out] at HR3
                go_wp2_with fail
                exact ⟨HClose.out _ _ _ _ _ HSt.out HR3.out, by simp [intOf]; omega⟩
          · have HSu := Lib.hid (show stepR t k la inp d = none by unfold stepR; rw [if_neg k0, if_neg k1, if_pos kd])
            have b4 : ((d.kind : Int) == 1) = false := by simp; omega
            have b2 : (((k : Int) == 2) = true ∧ decide ((2 : Int) < (k : Int)) = false) ∨ (((k : Int) == 2) = false ∧ decide ((2 : Int) < (k : Int)) = true) := by
              by_cases k2 : k = 2
              · exact .inl ⟨by simp [k2], by simp [k2]⟩
              · exact .inr ⟨by simp; omega, by simp; omega⟩
            clear k0 k1 kd
            rcases b2 with ⟨b2, b3⟩ | ⟨b2, b3⟩
            all_goals
              go_wp2_with fail
              exact bodyPost_ret (v := .tuple #[.agg #[.int .i64 0, .int .i64 0, .slice none 0 0, .slice none 0 0], .int .i64 p, .int .i64 2]) (by simp [results, Tryd.results6, go_sem, d0, d1, d2, d3]) rfl (HR.out.bad_post p 2 rfl (HBad.out HSu.out))
    · have g3 : ((er : Int) != 0) = true := by simp [he]
      have HE := Lib.hid he
      clear he
      go_wp2_with fail
      exact bodyPost_ret (v := .tuple #[.agg #[.int .i64 0, .int .i64 0, .slice none 0 0, .slice none 0 0], .int .i64 p, .int .i64 er]) (by simp [results, Tryd.results6, go_sem, d0, d1, d2, d3]) rfl
        (HR.out.bad_post p er rfl (HW.out.trans (HAll.out.symm.trans (HStep.out.trans (if_pos HE.out)))))

end Go.Proofs.YtpejimlmokfppaaDoor
