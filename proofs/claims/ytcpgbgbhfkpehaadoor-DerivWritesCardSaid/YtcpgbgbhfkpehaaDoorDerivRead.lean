/-
  deriv.Read.
-/
import Derived.Test.YtcpgbgbhfkpehaaDoorDerivLine
import Derived.Test.YtcpgbgbhfkpehaaDoorStrips
import Derived.RegionTactic
import Derived.ChangeAlike
import Derived.Defers
import Derived.Tactics2
namespace Go.Proofs.YtcpgbgbhfkpehaaDoor
open Go.RowKit

/-- lines as rows of two cells -/
def lrows (rs : List (Bool × Value)) : List (List Value) := rs.map (fun r => [.bool r.1, r.2])

/-- the clauses of lines lie in blocks of their own -/
def Lns (w : World) (base : Nat) (rs : List (Bool × Value)) (L : List (Bool × List Nat)) : Prop :=
  rs.length = L.length ∧ ∀ (k : Nat) (r : Bool × Value) (x : Bool × List Nat), rs[k]? = some r → L[k]? = some x → r.1 = x.1 ∧ Own w base 3 r.2 (nums x.2)

theorem Lns.nil (w : World) (base : Nat) : Lns w base [] [] := ⟨rfl, fun k r x h => by simp at h⟩

theorem Lns.kp {S : Nat → Prop} {w w' : World} {base : Nat} {rs : List (Bool × Value)} {L : List (Bool × List Nat)} (h : Lns w base rs L) (k : Kp S w w') (hS : ∀ r ∈ rs, ∀ j, r.2.ownBlock = some j → ¬ S j) : Lns w' base rs L :=
  ⟨h.1, fun i r x hr hx => ⟨(h.2 i r x hr hx).1, (h.2 i r x hr hx).2.kp k (hS r (List.mem_of_getElem? hr))⟩⟩

theorem Lns.snoc {w : World} {base : Nat} {rs : List (Bool × Value)} {L : List (Bool × List Nat)} {f : Bool} {v : Value} {c : List Nat} (h : Lns w base rs L) (hv : Own w base 3 v (nums c)) : Lns w base (rs ++ [(f, v)]) (L ++ [(f, c)]) := by
  refine ⟨by rw [List.length_append, List.length_append, h.1]; rfl, ?_⟩
  intro k r x hr hx
  by_cases hk : k < rs.length
  · rw [List.getElem?_append_left hk] at hr
    rw [List.getElem?_append_left (by rw [← h.1]; exact hk)] at hx
    exact h.2 k r x hr hx
  · rw [List.getElem?_append_right (by omega)] at hr
    rw [List.getElem?_append_right (by rw [← h.1]; omega), ← h.1] at hx
    cases hi : k - rs.length with
    | zero =>
      rw [hi] at hr hx
      simp at hr hx
      subst hr hx
      exact ⟨rfl, hv⟩
    | succ n => rw [hi] at hr; simp at hr

theorem Lns.mono {w : World} {base b' : Nat} {rs : List (Bool × Value)} {L : List (Bool × List Nat)} (h : Lns w base rs L) (hb : b' ≤ base) : Lns w b' rs L :=
  ⟨h.1, fun i r x hr hx => ⟨(h.2 i r x hr hx).1, (h.2 i r x hr hx).2.mono hb⟩⟩

/-- each clause's block, if it has one, is a block of ints -/
theorem Lns.block {w : World} {base : Nat} {rs : List (Bool × Value)} {L : List (Bool × List Nat)} (h : Lns w base rs L) {r : Bool × Value} (hr : r ∈ rs) {j : Nat} (hj : r.2.ownBlock = some j) : base ≤ j ∧ ∃ c, Blk w j c 3 := by
  obtain ⟨k, hk⟩ := List.mem_iff_getElem?.1 hr
  have hkl := (List.getElem?_eq_some_iff.1 hk).1
  have hO := (h.2 k r _ hk (List.getElem?_eq_getElem (by rw [← h.1]; exact hkl))).2
  rcases hO.2 with ⟨hv, _⟩ | ⟨g, cap, cur, hv, hb, hg, _⟩
  · rw [hv] at hj; cases hj
  · rw [hv] at hj
    have e : g = j := by simpa [Value.ownBlock] using hj
    subst e
    exact ⟨hb, cur, hg⟩

theorem OwnK.blk {w : World} {base k : Nat} {e : TypeId} {v : Value} {rows : List (List Value)} (h : OwnK w base e k v rows) {j : Nat} (hj : v.ownBlock = some j) : base ≤ j ∧ ∃ c, Blk w j c e := by
  rcases h.own.2 with ⟨hv, _⟩ | ⟨g, cap, cur, hv, hb, hg, _⟩
  · rw [hv] at hj; cases hj
  · rw [hv] at hj
    have e : g = j := by simpa [Value.ownBlock] using hj
    subst e
    exact ⟨hb, cur, hg⟩

theorem blk_type {w : World} {j : Nat} {c c' : Array Value} {t t' : TypeId} (h : Blk w j c t) (h' : Blk w j c' t') : t = t' := by
  unfold Blk at h h'
  rw [h] at h'
  simp at h'
  exact h'.2

/-- what deriv.Read and its reference leave -/
def DReadP (R : DerR) (w : World) (e : Ending) (w' : World) : Prop :=
  ∃ v rs, e = .returned (.tuple #[v, .int .i64 (R.n : Int), .int .i64 (R.e : Int)]) ∧ OwnK w' w.heap.size 86 2 v (lrows rs) ∧ Lns w' w.heap.size rs R.l ∧ Kp (fun _ => False) w w'

theorem derivR_err {s : ByteArray} {f p n nx er : Nat} {t : ByteArray} {L : List (Bool × List Nat)} (hp : p < s.size) (hl : lineT s (p : Nat) = (t, nx, er)) (he : er ≠ 0) : derivR s (f + 1) L p n = ⟨[], n + 1, er⟩ := by
  unfold derivR; rw [if_neg (by omega), hl, if_pos he]
theorem derivR_form {s : ByteArray} {f p n nx er : Nat} {t : ByteArray} {L : List (Bool × List Nat)} (hp : p < s.size) (hl : lineT s (p : Nat) = (t, nx, er)) (he : er = 0) (hx : lineR t = none) : derivR s (f + 1) L p n = ⟨[], n + 1, 2⟩ := by
  unfold derivR; rw [if_neg (by omega), hl, if_neg (by simpa using he)]; simp only; rw [hx]
theorem derivR_more {s : ByteArray} {f p n nx er : Nat} {t : ByteArray} {x : Bool × List Nat} {L : List (Bool × List Nat)} (hp : p < s.size) (hl : lineT s (p : Nat) = (t, nx, er)) (he : er = 0) (hx : lineR t = some x) : derivR s (f + 1) L p n = derivR s f (L ++ [x]) nx (n + 1) := by
  conv => lhs; unfold derivR
  rw [if_neg (by omega), hl, if_neg (by simpa using he)]; simp only; rw [hx]

theorem read_closure_bad (pe pl pn : Addr) (x : Int) (u : FrameMode) (w : World) (hx : (x != 0) = true) (he : w.cell? pe = some (.int .i64 x)) (v : Value) (hl : w.cell? pl = some v) (fl : w.frozen? pl = false) :
    CallsD Tryd.prog 105 #[.pointer (some pe), .pointer (some pl), .pointer (some pn)] u w fun e u' w' => u' = u ∧ (e = .returned (.tuple #[]) ∧ w' = w.setCell pl (.slice none 0 0)) := by
  go_enter_d Tryd.func105, Tryd.ntmps105
  go_wp2
  go_end0
  exact ⟨rfl, rfl⟩

theorem read_closure_ok (pe pl pn : Addr) (u : FrameMode) (w : World) (he : w.cell? pe = some (.int .i64 0)) (v : Value) (hn : w.cell? pn = some v) (fn : w.frozen? pn = false) :
    CallsD Tryd.prog 105 #[.pointer (some pe), .pointer (some pl), .pointer (some pn)] u w fun e u' w' => u' = u ∧ (e = .returned (.tuple #[]) ∧ w' = w.setCell pn (.int .i64 0)) := by
  go_enter_d Tryd.func105, Tryd.ntmps105
  go_wp2
  go_end0
  exact ⟨rfl, rfl⟩


set_option maxRecDepth 100000 in
set_option maxHeartbeats 4000000 in
theorem deriv_Read_long (s : ByteArray) (w : World) (hs : 1048576 < s.size) :
    Calls Tryd.prog 42 #[.string s] w (DReadP (derivT s) w) := by
  have HE : Hid (∀ w', Kp (fun _ => False) w w' → DReadP (derivT s) w (.returned (.tuple #[.slice none 0 0, .int .i64 0, .int .i64 4])) w') := by
    intro w' hk
    unfold derivT
    rw [if_pos hs]
    exact ⟨_, [], rfl, OwnK.nil _ _ _ _, Lns.nil _ _, hk⟩
  have d1 : decide ((1048576 : Int) < (s.size : Int)) = true := by simp; omega
  go_enter_defers Tryd.func42, Tryd.ntmps42
  go_wp2_with fail
  simp [bodyPostD, Leaves, results, Tryd.results42, go_sem]
  exact HE.out _ ((((Kp.refl _ _).alloc _).alloc _).alloc _)

theorem three_blocks (w : World) (c0 c1 c2 : Array Value) (t0 t1 t2 : TypeId) :
    Blk (((w.alloc (.cells c0 t0)).alloc (.cells c1 t1)).alloc (.cells c2 t2)) w.heap.size c0 t0 ∧ Blk (((w.alloc (.cells c0 t0)).alloc (.cells c1 t1)).alloc (.cells c2 t2)) (w.heap.size + 1) c1 t1 ∧ Blk (((w.alloc (.cells c0 t0)).alloc (.cells c1 t1)).alloc (.cells c2 t2)) (w.heap.size + 2) c2 t2 := by
  refine ⟨((Blk.new w c0 t0).alloc _).alloc _, ?_, ?_⟩
  · have := (Blk.new (w.alloc (.cells c0 t0)) c1 t1).alloc (.cells c2 t2)
    rw [World.size_alloc] at this
    exact this
  · have := Blk.new ((w.alloc (.cells c0 t0)).alloc (.cells c1 t1)) c2 t2
    rw [World.size_alloc, World.size_alloc] at this
    exact this

/-- three cells of the call's own, written -/
theorem three_set {wr : World} {B : Nat} {x0 x1 x2 : Value} {t0 t1 t2 : TypeId} (b0 : Blk wr B #[x0] t0) (b1 : Blk wr (B + 1) #[x1] t1) (b2 : Blk wr (B + 2) #[x2] t2) (y0 y1 y2 : Value) :
    Blk (((wr.setCell ⟨B, 0, none⟩ y0).setCell ⟨B + 1, 0, none⟩ y1).setCell ⟨B + 1 + 1, 0, none⟩ y2).drew B #[y0] t0 ∧ Blk (((wr.setCell ⟨B, 0, none⟩ y0).setCell ⟨B + 1, 0, none⟩ y1).setCell ⟨B + 1 + 1, 0, none⟩ y2).drew (B + 1) #[y1] t1 ∧ Blk (((wr.setCell ⟨B, 0, none⟩ y0).setCell ⟨B + 1, 0, none⟩ y1).setCell ⟨B + 1 + 1, 0, none⟩ y2).drew (B + 2) #[y2] t2 ∧
    Kp (fun j => j = B ∨ j = B + 1 ∨ j = B + 2) wr (((wr.setCell ⟨B, 0, none⟩ y0).setCell ⟨B + 1, 0, none⟩ y1).setCell ⟨B + 1 + 1, 0, none⟩ y2).drew := by
  refine ⟨?_, ?_, ?_, ?_⟩
  · exact (((b0.set_same 0 y0).set_other (p := ⟨B + 1, 0, none⟩) (by simp) y1).set_other (p := ⟨B + 1 + 1, 0, none⟩) (by simp; omega) y2).drew
  · exact (((b1.set_other (p := ⟨B, 0, none⟩) (by simp) y0).set_same 0 y1).set_other (p := ⟨B + 1 + 1, 0, none⟩) (by simp) y2).drew
  · exact (((b2.set_other (p := ⟨B, 0, none⟩) (by simp) y0).set_other (p := ⟨B + 1, 0, none⟩) (by simp) y1).set_same 0 y2).drew
  · exact ((((Kp.refl _ wr).setCell (p := ⟨B, 0, none⟩) (fun _ => .inl rfl) y0).setCell (p := ⟨B + 1, 0, none⟩) (fun _ => .inr (.inl rfl)) y1).setCell (p := ⟨B + 1 + 1, 0, none⟩) (fun _ => .inr (.inr rfl)) y2).drew

theorem dread_bad {R : DerR} {w W : World} {n er : Int} (hR : R.l = []) (hn : (R.n : Int) = n) (he : (R.e : Int) = er) (h : Kp (fun _ => False) w W) : DReadP R w (.returned (.tuple #[.slice none 0 0, .int .i64 n, .int .i64 er])) W :=
  ⟨_, [], by rw [hn, he], OwnK.nil _ _ _ _, by rw [hR]; exact Lns.nil _ _, h⟩

/-- the loop's relation -/
structure DRel (s : ByteArray) (R : DerR) (w : World) (v5 : Value) (wr : World) (p f n : Nat) (L : List (Bool × List Nat)) (v : Value) (rs : List (Bool × Value)) : Prop where
  at_ : v5 = .int .i64 p
  le : p ≤ s.size
  fuel : s.size < p + f
  nle : n ≤ p
  len : L.length ≤ p
  run : derivR s f L p n = R
  b0 : Blk wr w.heap.size #[v] 73
  b1 : Blk wr (w.heap.size + 1) #[.int .i64 (n : Int)] 3
  b2 : Blk wr (w.heap.size + 2) #[.int .i64 0] 23
  own : OwnK wr (w.heap.size + 3) 86 2 v (lrows rs)
  lns : Lns wr (w.heap.size + 3) rs L
  kp : Kp (fun _ => False) w wr

set_option maxRecDepth 100000 in
set_option maxHeartbeats 8000000 in
theorem deriv_Read_in (s : ByteArray) (w : World) (hs : s.size ≤ 1048576) (hls : ∀ p : Nat, p ≤ s.size → (lineT s (p : Nat)).1.size ≤ 100000) (hm : ML w) :
    Calls Tryd.prog 42 #[.string s] w (DReadP (derivT s) w) := by
  have HR0 := Lib.hid (show derivT s = derivR s (s.size + 1) [] 0 0 by unfold derivT; rw [if_neg (by omega)])
  obtain ⟨R, hR⟩ : ∃ R, derivT s = R := ⟨_, rfl⟩
  rw [hR] at HR0 ⊢
  clear hR
  have HM := Lib.hid hm; clear hm
  have HLS := Lib.hid hls; clear hls
  have HB := Lib.hid (three_blocks w #[.slice none 0 0] #[.int .i64 0] #[.int .i64 0] 73 3 23)
  have d1 : decide ((1048576 : Int) < (s.size : Int)) = false := by simp; omega
  have hmf : ∀ (fn : Fn) (first cap : Array Value) (w : World), (Instr.makeFunc fn first cap).run Tryd.prog w = .ok (.func fn first cap) w := fun _ _ _ _ => rfl
  go_enter_defers Tryd.func42, Tryd.ntmps42
  go_wp2_with fail
  go_loopw [5] (fun v5 wr => ∃ p f n L v rs, DRel s R w v5 wr p f n L v rs) (fun v5 _ => s.size - (intOf v5).toNat)
  case atStart => exact ⟨0, s.size + 1, 0, [], _, [], rfl, Nat.zero_le _, by omega, Nat.le_refl _, by simp, HR0.out.symm, HB.out.1, HB.out.2.1, HB.out.2.2, OwnK.nil _ _ _ _, Lns.nil _ _, (((Kp.refl _ _).alloc _).alloc _).alloc _⟩
  case round =>
    obtain ⟨p, f, n, L, v, rs, hD⟩ := hrel
    obtain rfl := hD.at_
    obtain ⟨va, vm, vc, rfl⟩ : ∃ va vm vc, v = .slice va vm vc := by
      obtain ⟨a, c, h, _⟩ := hD.own.form
      exact ⟨a, _, c, h⟩
    have HD := Lib.hid hD
    have hp := hD.le
    have hf := hD.fuel
    have hn := hD.nle
    have hlen := hD.len
    have hb0 := hD.b0
    have hb1 := hD.b1
    have hb2 := hD.b2
    clear hD
    have l0 := hb0.cell (i := 0) rfl
    have n0 := hb1.cell (i := 0) rfl
    have e0 := hb2.cell (i := 0) rfl
    have fl := hb0.free 0
    have fn := hb1.free 0
    have fe := hb2.free 0
    clear hb0 hb1 hb2
    have hD := HD.out
    by_cases hlt : p < s.size
    · obtain ⟨g, rfl⟩ : ∃ g, f = g + 1 := ⟨f - 1, by omega⟩
      have HLn := Lib.hid (fun u => octet_Line_in s p u (by omega) hp)
      obtain ⟨t, nx, er, hL⟩ : ∃ t nx er, lineT s (p : Nat) = (t, nx, er) := ⟨_, _, _, rfl⟩
      have HL := Lib.hid hL
      have hts : t.size ≤ 100000 := by have := HLS.out p hp; rw [hL] at this; exact this
      have hend : er = 0 → p < nx ∧ nx ≤ s.size ∧ t.size ≤ s.size := fun h => by have := lineT_end hp (by rw [hL]; exact h); rw [hL] at this; exact this
      rw [hL] at HLn
      unfold lineV at HLn
      simp only at HLn
      clear hL
      have HB1 := Lib.hid (hD.b1.set_same 0 (.int .i64 ((n : Int) + 1)))
      have HB0 := Lib.hid (hD.b0.set_other (p := ⟨w.heap.size + 1, 0, none⟩) (by simp) (.int .i64 ((n : Int) + 1)))
      have HB2 := Lib.hid (hD.b2.set_other (p := ⟨w.heap.size + 1, 0, none⟩) (by simp) (.int .i64 ((n : Int) + 1)))
      have HK1 := Lib.hid (hD.kp.setCell (p := ⟨w.heap.size + 1, 0, none⟩) (by simp) (.int .i64 ((n : Int) + 1)))
      by_cases he : er = 0
      · obtain ⟨hn1, hn2, hn3⟩ := hend he
        have d2 : ((er : Int) != 0) = false := by simp [he]
        have HLine := Lib.hid (fun u hu => deriv_line t u (by omega) hu)
        have HML := Lib.hid (HM.out.kp HK1.out)
        cases hr : lineR t with
        | none =>
          have HX := Lib.hid (show R = ⟨[], n + 1, 2⟩ by rw [← hD.run, derivR_form hlt HL.out he hr])
          rw [hr] at HLine
          clear he hend hD hr
          go_wp2_with fail
          refine (HLn.out _).mono ?_
          rintro e w' ⟨rfl, rfl⟩
          go_wp2_with fail
          refine (HLine.out _ HML.out).mono ?_
          rintro e w2 ⟨hK2, f', a', n', c', rfl⟩
          have HB1' := (HB1.out.kp hK2 (fun h => h)).alloc (.cells #[.bool f', .slice a' n' c'] 86)
          have HB0' := (HB0.out.kp hK2 (fun h => h)).alloc (.cells #[.bool f', .slice a' n' c'] 86)
          have HB2' := (HB2.out.kp hK2 (fun h => h)).alloc (.cells #[.bool f', .slice a' n' c'] 86)
          have hKw := Lib.hid ((HK1.out.trans hK2 (fun _ _ h => h)).alloc (.cells #[.bool f', .slice a' n' c'] 86))
          have HT := Lib.hid (three_set HB0' HB1' HB2' (.slice va vm vc) (.int .i64 ((n : Int) + 1)) (.int .i64 2))
          have k0 := HB0'.cell (i := 0) rfl
          have k1 := HB1'.cell (i := 0) rfl
          have k2 := HB2'.cell (i := 0) rfl
          have kf0 := HB0'.free 0
          have kf1 := HB1'.free 0
          have kf2 := HB2'.free 0
          have hsz2 : w.heap.size + 2 < w2.heap.size := (HB2.out.kp hK2 (fun h => h)).lt
          clear HB0' HB1' HB2' hK2
          go_wp2_with fail
          go_region
          go_wp2_with fail
          have HK2 := hKw.out.trans HT.out.2.2.2 (fun i hi h => by omega)
          refine leaves_cons (f := 105) (args := #[.pointer (some ⟨w.heap.size + 1 + 1, 0, none⟩), .pointer (some ⟨w.heap.size, 0, none⟩), .pointer (some ⟨w.heap.size + 1, 0, none⟩)]) (by simp) (by simp [go_sem]) ?_
          refine (read_closure_bad _ _ _ 2 _ _ (by decide) (HT.out.2.2.1.cell (i := 0) rfl) _ (HT.out.1.cell (i := 0) rfl) (HT.out.1.free 0)).mono ?_
          rintro e u' w'' ⟨rfl, rfl, hw2⟩
          have c0 := (HT.out.1.set_same 0 (.slice none 0 0)).cell (i := 0) rfl
          have c1 := (HT.out.2.1.set_other (p := ⟨w.heap.size, 0, none⟩) (by simp) (.slice none 0 0)).cell (i := 0) rfl
          have c2 := (HT.out.2.2.1.set_other (p := ⟨w.heap.size, 0, none⟩) (by simp) (.slice none 0 0)).cell (i := 0) rfl
          have hK := HK2.setCell (p := ⟨w.heap.size, 0, none⟩) (by simp) (.slice none 0 0)
          rw [← hw2] at c0 c1 c2 hK
          clear hw2 HT HK2
          have hEnd : DReadP R w (.returned (.tuple #[.slice none 0 0, .int .i64 ((n : Int) + 1), .int .i64 2])) w'' := dread_bad (by rw [HX.out]) (by rw [HX.out]; simp) (by rw [HX.out]; rfl) hK
          exact ⟨.tuple #[.slice none 0 0, .int .i64 ((n : Int) + 1), .int .i64 2], by simp [results, Tryd.results42, go_sem, c0, c1, c2], hEnd⟩
        | some x =>
          obtain ⟨f', c⟩ := x
          have HX := Lib.hid (show derivR s g (L ++ [(f', c)]) nx (n + 1) = R by rw [← hD.run, derivR_more hlt HL.out he hr])
          have HOW := Lib.hid (hD.own.kp (Kp.set wr ⟨w.heap.size + 1, 0, none⟩ (.int .i64 ((n : Int) + 1))) (fun j hj h => by have := (hD.own.lt j hj).1; simp at h; omega))
          have HLN := Lib.hid (hD.lns.kp (Kp.set wr ⟨w.heap.size + 1, 0, none⟩ (.int .i64 ((n : Int) + 1))) (fun r hr j hj h => by have := (hD.lns.block hr hj).1; simp at h; omega))
          rw [hr] at HLine
          clear he hend hD hr
          go_wp2_with fail
          refine (HLn.out _).mono ?_
          rintro e w' ⟨rfl, rfl⟩
          go_wp2_with fail
          refine (HLine.out _ HML.out).mono ?_
          rintro e w2 ⟨hK2, v', rfl, hOv⟩
          obtain ⟨a', c', rfl, _⟩ := hOv.form
          have HB1' := Lib.hid (HB1.out.kp hK2 (fun h => h))
          have HB0' := Lib.hid (HB0.out.kp hK2 (fun h => h))
          have HB2' := Lib.hid (HB2.out.kp hK2 (fun h => h))
          have HOW' := Lib.hid (HOW.out.kp hK2 (fun _ _ h => h))
          have HLN' := Lib.hid (HLN.out.kp hK2 (fun _ _ _ _ h => h))
          have HOV := Lib.hid hOv
          have HKw := Lib.hid (HK1.out.trans hK2 (fun _ _ h => h))
          have k0 := (HB0'.out.alloc (.cells #[.bool f', .slice a' (nums c).length c'] 86)).cell (i := 0) rfl
          have hsz3 : w.heap.size + 3 ≤ (wr.setCell ⟨w.heap.size + 1, 0, none⟩ (.int .i64 ((n : Int) + 1))).heap.size := HB2.out.lt
          have hsz2 : w.heap.size + 2 < w2.heap.size := HB2'.out.lt
          clear hOv hK2
          go_wp2_with (at_builtin; refine wpList_appendK rfl _ _ 73 86 rfl Tryd.underlying73 lineInfo rfl (by decide) ((HOW'.out.alloc _).alloc _) rfl (w2.heap.size + 1) [.bool f', .slice a' (nums c).length c'] rfl rfl ?c1 ?c2 ?c3 ?c4 ?c5 ?_)
          case c1 =>
            intro j u hj
            have hnb := Blk.new (w2.alloc (.cells #[.bool f', .slice a' (nums c).length c'] 86)) #[.bool f', .slice a' (nums c).length c'] 86
            rw [World.size_alloc] at hnb
            exact hnb.cell (by simpa using hj)
          case c2 => intro u hu; simp at hu; rcases hu with rfl | rfl <;> rfl
          case c3 => have := HLN'.out.1; simp [lrows]; omega
          case c4 => have := HLN'.out.1; simp [lrows]; unfold maxLen; omega
          case c5 => simp; omega
          intro v3 w3 hO3 hg3 _
          obtain ⟨a3, c3, rfl, _⟩ := hO3.form
          obtain ⟨m3, hm3⟩ : ∃ m, (lrows rs ++ [[Value.bool f', Value.slice a' (nums c).length c']]).length = m := ⟨_, rfl⟩
          rw [hm3] at hO3 ⊢
          clear hm3
          have hK3 : Kp (fun j => (Value.slice va vm vc).ownBlock = some j) w2 w3 := (((Kp.refl _ w2).alloc _).alloc _).grown hg3 (fun j hj _ => hj)
          have hKw3 := HKw.out.trans hK3 (fun j hj h => by have := (HOW'.out.lt j h).1; omega)
          have hB0 := HB0'.out.kp hK3 (fun h => by have := (HOW'.out.lt _ h).1; omega)
          have hB1 := HB1'.out.kp hK3 (fun h => by have := (HOW'.out.lt _ h).1; omega)
          have hB2 := HB2'.out.kp hK3 (fun h => by have := (HOW'.out.lt _ h).1; omega)
          have hL3 := HLN'.out.kp hK3 (fun r hr j hj h => by
            obtain ⟨_, cc, hb⟩ := HLN'.out.block hr hj
            obtain ⟨_, cc', hb'⟩ := HOW'.out.blk h
            exact absurd (blk_type hb hb') (by decide))
          have hV3 := (HOV.out.mono hsz3).kp hK3 (fun j hj h => by
            obtain ⟨_, cc', hb'⟩ := HOW'.out.blk h
            rcases HOV.out.2 with ⟨hv, _⟩ | ⟨g', cap, cur, hv, hb, hg, _⟩
            · rw [hv] at hj; cases hj
            · rw [hv] at hj
              have e : g' = j := by simpa [Value.ownBlock] using hj
              subst e
              exact absurd (blk_type (show Blk w2 g' cur 3 from hg) hb') (by decide))
          have hLs := hL3.snoc (f := f') hV3
          have k4 := hB0.cell (i := 0) rfl
          have kf4 := hB0.free 0
          have HRel := Lib.hid (show ∃ p f n L v rs, DRel s R w (.int .i64 (nx : Int)) (w3.setCell ⟨w.heap.size, 0, none⟩ (.slice a3 m3 c3)) p f n L v rs from
            ⟨nx, g, n + 1, L ++ [(f', c)], .slice a3 m3 c3, rs ++ [(f', .slice a' (nums c).length c')], rfl, hn2, by omega, by omega, by rw [List.length_append]; simp; omega, HX.out,
              hB0.set_same 0 _, by
                have h := hB1.set_other (p := ⟨w.heap.size, 0, none⟩) (by simp) (.slice a3 m3 c3)
                rw [show ((n + 1 : Nat) : Int) = (n : Int) + 1 by omega]; exact h,
              hB2.set_other (p := ⟨w.heap.size, 0, none⟩) (by simp) _,
              by
                have h := hO3.kp (Kp.set w3 ⟨w.heap.size, 0, none⟩ (.slice a3 m3 c3)) (fun j hj h => by have := (hO3.lt j hj).1; simp at h; omega)
                rw [show lrows (rs ++ [(f', .slice a' (nums c).length c')]) = lrows rs ++ [[Value.bool f', Value.slice a' (nums c).length c']] by simp [lrows]]
                exact h,
              hLs.kp (Kp.set w3 ⟨w.heap.size, 0, none⟩ _) (fun r hr j hj h => by have := (hLs.block hr hj).1; simp at h; omega),
              hKw3.setCell (p := ⟨w.heap.size, 0, none⟩) (by simp) _⟩)
          clear hO3 hg3 hK3 hKw3 hB0 hB1 hB2 hL3 hV3 hLs
          go_wp2_with fail
          go_roundw
          case rel => exact HRel.out
          case measure => simp [intOf]; omega
      · have HX := Lib.hid (show R = ⟨[], n + 1, er⟩ by rw [← hD.run, derivR_err hlt HL.out he])
        have d2 : ((er : Int) != 0) = true := by simp; omega
        have d3 : ((er : Int) == 0) = false := by simp; omega
        clear he hend hD
        go_wp2_with fail
        refine (HLn.out _).mono ?_
        rintro e w' ⟨rfl, rfl⟩
        go_wp2_with fail
        go_region
        go_wp2_with fail
        have HT := three_set HB0.out HB1.out HB2.out (.slice va vm vc) (.int .i64 ((n : Int) + 1)) (.int .i64 (er : Int))
        have HK2 := HK1.out.trans HT.2.2.2 (fun i hi h => by omega)
        refine leaves_cons (f := 105) (args := #[.pointer (some ⟨w.heap.size + 1 + 1, 0, none⟩), .pointer (some ⟨w.heap.size, 0, none⟩), .pointer (some ⟨w.heap.size + 1, 0, none⟩)]) (by simp) (by simp [go_sem]) ?_
        refine (read_closure_bad _ _ _ _ _ _ d2 (HT.2.2.1.cell (i := 0) rfl) _ (HT.1.cell (i := 0) rfl) (HT.1.free 0)).mono ?_
        rintro e u' w'' ⟨rfl, rfl, hw2⟩
        have c0 := (HT.1.set_same 0 (.slice none 0 0)).cell (i := 0) rfl
        have c1 := (HT.2.1.set_other (p := ⟨w.heap.size, 0, none⟩) (by simp) (.slice none 0 0)).cell (i := 0) rfl
        have c2 := (HT.2.2.1.set_other (p := ⟨w.heap.size, 0, none⟩) (by simp) (.slice none 0 0)).cell (i := 0) rfl
        have hK := HK2.setCell (p := ⟨w.heap.size, 0, none⟩) (by simp) (.slice none 0 0)
        rw [← hw2] at c0 c1 c2 hK
        clear hw2 HT HK2
        have hEnd : DReadP R w (.returned (.tuple #[.slice none 0 0, .int .i64 ((n : Int) + 1), .int .i64 (er : Int)])) w'' := dread_bad (by rw [HX.out]) (by rw [HX.out]; simp) (by rw [HX.out]) hK
        exact ⟨.tuple #[.slice none 0 0, .int .i64 ((n : Int) + 1), .int .i64 (er : Int)], by simp [results, Tryd.results42, go_sem, c0, c1, c2], hEnd⟩
    · have HX := Lib.hid (show R = ⟨L, 0, 0⟩ by rw [← HD.out.run, derivR_done (by omega)])
      clear hD
      go_wp2_with fail
      go_region
      go_wp2_with fail
      have HT := three_set HD.out.b0 HD.out.b1 HD.out.b2 (.slice va vm vc) (.int .i64 (n : Int)) (.int .i64 0)
      refine leaves_cons (f := 105) (args := #[.pointer (some ⟨w.heap.size + 1 + 1, 0, none⟩), .pointer (some ⟨w.heap.size, 0, none⟩), .pointer (some ⟨w.heap.size + 1, 0, none⟩)]) (by simp) (by simp [go_sem]) ?_
      refine (read_closure_ok _ _ _ _ _ (HT.2.2.1.cell (i := 0) rfl) _ (HT.2.1.cell (i := 0) rfl) (HT.2.1.free 0)).mono ?_
      rintro e u' w'' ⟨rfl, rfl, hw2⟩
      have c0 := (HT.1.set_other (p := ⟨w.heap.size + 1, 0, none⟩) (by simp) (.int .i64 0)).cell (i := 0) rfl
      have c1 := (HT.2.1.set_same 0 (.int .i64 0)).cell (i := 0) rfl
      have c2 := (HT.2.2.1.set_other (p := ⟨w.heap.size + 1, 0, none⟩) (by simp) (.int .i64 0)).cell (i := 0) rfl
      have hK := HT.2.2.2.setCell (p := ⟨w.heap.size + 1, 0, none⟩) (fun _ => .inr (.inl rfl)) (.int .i64 0)
      rw [← hw2] at c0 c1 c2 hK
      clear hw2 HT
      have hEnd : DReadP R w (.returned (.tuple #[.slice va vm vc, .int .i64 0, .int .i64 0])) w'' := by
        rw [HX.out]
        refine ⟨_, rs, rfl, (HD.out.own.kp hK (fun j hj h => by have := (HD.out.own.lt j hj).1; omega)).mono (by omega), (HD.out.lns.kp hK (fun r hr j hj h => by have := (HD.out.lns.block hr hj).1; omega)).mono (by omega), HD.out.kp.trans hK (fun i hi h => by omega)⟩
      exact ⟨.tuple #[.slice va vm vc, .int .i64 0, .int .i64 0], by simp [results, Tryd.results42, go_sem, c0, c1, c2], hEnd⟩

end Go.Proofs.YtcpgbgbhfkpehaaDoor
