/-
  binary.Read, at a place that is one of the text.
-/
import Derived.Test.YtckmdcmkjmpiaaaGreatDoorM6
import Derived.Test.YtckmdcmkjmpiaaaGreatDoorM5
import Derived.Laws.EntriesVeiled
import Derived.Test.YtckmdcmkjmpiaaaGreatDoorM3
set_option linter.unusedVariables false
set_option linter.unusedSimpArgs false
namespace Go.Proofs.YtckmdcmkjmpiaaaGreatDoor
open Go.RowKit

theorem BKeep.mono {B B' : Nat} {w : World} {V : CV} {C : Circ} (h : BKeep B w V C) (hb : B' ≤ B) : BKeep B' w V C := fun S w2 hS k => h S w2 (fun j e => (hS j e).elim (fun h => .inl (by omega)) .inr) k
theorem BKeep.here {B : Nat} {w : World} {V : CV} {C : Circ} (h : BKeep B w V C) : CAt w V C := h (fun _ => False) w (fun _ h => h.elim) (Kp.refl _ _)
/-- what Read ends with -/
def BinReadP (r : Circ × Nat × Nat) (w : World) (e : Ending) (w' : World) : Prop :=
  ((r.2.2 ≠ 0 ∧ e = .returned (.tuple #[.agg zc9, .int .i64 (r.2.1 : Nat), .int .i64 (r.2.2 : Nat)])) ∨
   (r.2.2 = 0 ∧ ∃ V', e = .returned (.tuple #[.agg (cvals V' r.1), .int .i64 (r.2.1 : Nat), .int .i64 0]) ∧ BKeep w.heap.size w' V' r.1 ∧ V'.ay = none ∧ V'.ny = 0 ∧ V'.cy = 0 ∧ V'.cm = ⟨#[]⟩)) ∧ Kp (fun _ => False) w w'

set_option maxRecDepth 100000 in
set_option maxHeartbeats 8000000 in
theorem bin_Read (s : ByteArray) (p : Nat) (bin : Bool) (M : Int) (nI nL nO nA nB nC : Nat) (w : World) (hs : s.size ≤ 1000000) (hp : p ≤ s.size) (hM0 : 0 ≤ M) (hM1 : M ≤ 16777216) (hI : nI ≤ 16777216) (hL : nL ≤ 16777216) (hO : nO ≤ 16777216) (hA : nA ≤ 16777216) (hBd : nB ≤ 16777216) (hC : nC ≤ 16777216) :
    Calls Tryz.prog 34 #[.string s, .int .i64 (p : Nat), .agg #[.bool bin, .int .i64 M, .int .i64 (nI : Nat), .int .i64 (nL : Nat), .int .i64 (nO : Nat), .int .i64 (nA : Nat), .int .i64 (nB : Nat), .int .i64 (nC : Nat)]] w fun e w' => BinReadP (rdC s M nI nL nO nA nB nC (p, 0)) w e w' := by
  obtain ⟨wz, hwz⟩ : ∃ wz : World, wz = (w.alloc (.cells #[.bool bin, .int .i64 M, .int .i64 (nI : Nat), .int .i64 (nL : Nat), .int .i64 (nO : Nat), .int .i64 (nA : Nat), .int .i64 (nB : Nat), .int .i64 (nC : Nat)] 42)).alloc (.cells #[.int .i64 0, .slice none 0 0, .slice none 0 0, .slice none 0 0, .slice none 0 0, .slice none 0 0, .slice none 0 0, .slice none 0 0, .string ⟨#[]⟩] 27) := ⟨_, rfl⟩
  have HK0 := Lib.hid (show Kp (fun _ => False) w wz by rw [hwz]; exact ((Kp.refl _ w).alloc _).alloc _)
  have HH0 := Lib.hid (show Blk wz w.heap.size #[.bool bin, .int .i64 M, .int .i64 (nI : Nat), .int .i64 (nL : Nat), .int .i64 (nO : Nat), .int .i64 (nA : Nat), .int .i64 (nB : Nat), .int .i64 (nC : Nat)] 42 by rw [hwz]; exact (Blk.new w _ _).alloc _)
  have HR0 := Lib.hid (show Blk wz (w.heap.size + 1) zc9 27 by rw [hwz]; exact two_blk _ _ _ _ _)
  have HSz := Lib.hid (show wz.heap.size = w.heap.size + 2 by rw [hwz]; simp)
  have HZ := Lib.hid hwz
  have g1 : decide ((p : Int) < 0) = false := by simp
  have g2 : decide ((s.size : Int) < (p : Int)) = false := by simp; omega
  obtain ⟨wt, hwt⟩ : ∃ wt : World, wt = wz.alloc (.cells #[.string s, .int .i64 (p : Nat), .int .i64 0] 130) := ⟨_, rfl⟩
  have HT0 := Lib.hid (show TX wt wz.heap.size s (p, 0) by rw [hwt]; exact Blk.new _ _ _)
  have HKt := Lib.hid (show Kp (fun _ => False) wz wt by rw [hwt]; exact (Kp.refl _ wz).alloc _)
  have HSt := Lib.hid (show wt.heap.size = w.heap.size + 3 by rw [hwt]; simp [HSz.out])
  have HCi := Lib.hid (bin_circuit s wz.heap.size (p, 0) bin M nI nL nO nA nB nC wt hs hp hM0 hM1 hI hL hO hA hBd hC HT0.out)
  have HZt := Lib.hid hwt
  obtain ⟨C9, p9, e9, hr⟩ : ∃ C q e, rdC s M nI nL nO nA nB nC (p, 0) = (C, q, e) := ⟨_, _, _, rfl⟩
  rw [hr] at HCi ⊢
  have HR := Lib.hid hr
  clear hwz hwt hr
  go_enter Tryz.func34, Tryz.ntmps34
  go_upto_region 1 with fail
  rw [← HZ.out]
  clear HZ
  go_upto_region 4 with fail
  rw [← HZt.out]
  clear HZt
  have h0 := (HH0.out.kp HKt.out (fun h => h)).cell (i := 0) (v := .bool bin) rfl
  have h1 := (HH0.out.kp HKt.out (fun h => h)).cell (i := 1) (v := .int .i64 M) rfl
  have h2 := (HH0.out.kp HKt.out (fun h => h)).cell (i := 2) (v := .int .i64 (nI : Nat)) rfl
  have h3 := (HH0.out.kp HKt.out (fun h => h)).cell (i := 3) (v := .int .i64 (nL : Nat)) rfl
  have h4 := (HH0.out.kp HKt.out (fun h => h)).cell (i := 4) (v := .int .i64 (nO : Nat)) rfl
  have h5 := (HH0.out.kp HKt.out (fun h => h)).cell (i := 5) (v := .int .i64 (nA : Nat)) rfl
  have h6 := (HH0.out.kp HKt.out (fun h => h)).cell (i := 6) (v := .int .i64 (nB : Nat)) rfl
  have h7 := (HH0.out.kp HKt.out (fun h => h)).cell (i := 7) (v := .int .i64 (nC : Nat)) rfl
  go_upto_region 5 with (go_at_call 69; with_reducible refine Calls.mono HCi.out ?_; rintro e w1 ⟨V', C', rfl, hy1, hy2, hy3, hy4, hT, hK, hG⟩; have HY := Lib.hid (And.intro hy1 (And.intro hy2 (And.intro hy3 hy4))); clear hy1 hy2 hy3 hy4; unfold cvals)
  obtain ⟨w2, hw2⟩ : ∃ w2 : World, w2 = w1.alloc (.cells #[.int .i64 C'.max, .slice V'.ai C'.ins.length V'.ci, .slice V'.al C'.lats.length V'.cl, .slice V'.ao C'.outs.length V'.co, .slice V'.ab C'.bads.length V'.cb, .slice V'.ac C'.cons.length V'.cc, .slice V'.ag C'.gates.length V'.cg, .slice V'.ay V'.ny V'.cy, .string V'.cm] 27) := ⟨_, rfl⟩
  rw [← hw2]
  have hk2 : Kp (fun _ => False) w1 w2 := by rw [hw2]; exact (Kp.refl _ w1).alloc _
  have HX2 := Lib.hid (show Blk w2 w1.heap.size #[.int .i64 C'.max, .slice V'.ai C'.ins.length V'.ci, .slice V'.al C'.lats.length V'.cl, .slice V'.ao C'.outs.length V'.co, .slice V'.ab C'.bads.length V'.cb, .slice V'.ac C'.cons.length V'.cc, .slice V'.ag C'.gates.length V'.cg, .slice V'.ay V'.ny V'.cy, .string V'.cm] 27 by rw [hw2]; exact Blk.new _ _ _)
  have HE2 := Lib.hid (bin_ended s wz.heap.size (p9, e9) w2 (hT.kp hk2 (fun h => h)))
  have hlt1 : wt.heap.size ≤ w1.heap.size := hK.size
  have HK2 := Lib.hid (((HK0.out.trans HKt.out (fun _ _ h => h)).trans hK (fun j hj e => by have := HSz.out; have e2 : j = wz.heap.size := e; omega)).trans hk2 (fun _ _ h => h))
  have HR2 := Lib.hid (show Blk w2 (w.heap.size + 1) zc9 27 from ((HR0.out.kp HKt.out (fun h => h)).kp hK (fun e => by have := HSz.out; have e2 : w.heap.size + 1 = wz.heap.size := e; omega)).kp hk2 (fun h => h))
  have HG := Lib.hid hG
  have Hk2 := Lib.hid hk2
  have HLt := Lib.hid hlt1
  clear hw2 hT hK hG hk2 h0 h1 h2 h3 h4 h5 h6 h7 HCi hlt1
  go_upto_region 6 with (go_at_call 70; with_reducible refine Calls.mono HE2.out ?_; rintro e w3 ⟨rfl, hK3⟩)
  have HK3 := Lib.hid (HK2.out.trans hK3 (fun _ _ h => h))
  have HR3 : Hid (Blk w3 (w.heap.size + 1) #[.int .i64 0, .slice none 0 0, .slice none 0 0, .slice none 0 0, .slice none 0 0, .slice none 0 0, .slice none 0 0, .slice none 0 0, .string ⟨#[]⟩] 27) := Lib.hid (HR2.out.kp hK3 (fun h => h))
  have HX3 := Lib.hid (HX2.out.kp hK3 (fun h => h))
  have Hk3 := Lib.hid (Hk2.out.trans hK3 (fun _ _ h => h))
  clear hK3 HE2 HR2 HX2 HK2
  by_cases he : e9 = 0
  · subst he
    obtain ⟨hCe, hkeep⟩ := HG.out rfl
    have HKeep := Lib.hid hkeep
    have HCe := Lib.hid hCe
    clear hkeep hCe
    obtain ⟨d0, d1, d2, d3, d4, d5, d6, d7, d8⟩ := Blk.cells9 HX3.out
    obtain ⟨z0, z1, z2, z3, z4, z5, z6, z7, z8⟩ := Blk.cells9 HR3.out
    have fr := Blk.free HR3.out
    have fr0 := fr 0
    have fr1 := fr 1
    have fr2 := fr 2
    have fr3 := fr 3
    have fr4 := fr 4
    have fr5 := fr 5
    have fr6 := fr 6
    have fr7 := fr 7
    have fr8 := fr 8
    clear fr
    have HBe := Lib.hid (Blk.set9 HR3.out (.int .i64 C'.max) (.slice V'.ai C'.ins.length V'.ci) (.slice V'.al C'.lats.length V'.cl) (.slice V'.ao C'.outs.length V'.co) (.slice V'.ab C'.bads.length V'.cb) (.slice V'.ac C'.cons.length V'.cc) (.slice V'.ag C'.gates.length V'.cg) (.slice V'.ay V'.ny V'.cy) (.string V'.cm))
    have HKe := Lib.hid (Kp.set9 w3 (w.heap.size + 1) (.int .i64 C'.max) (.slice V'.ai C'.ins.length V'.ci) (.slice V'.al C'.lats.length V'.cl) (.slice V'.ao C'.outs.length V'.co) (.slice V'.ab C'.bads.length V'.cb) (.slice V'.ac C'.cons.length V'.cc) (.slice V'.ag C'.gates.length V'.cg) (.slice V'.ay V'.ny V'.cy) (.string V'.cm))
    unfold Go.Proofs.YtckmdcmkjmpiaaaGreatDoor.set9 at HBe HKe
    have HKf := Lib.hid (HK3.out.trans HKe.out (fun j hj e => by omega))
    go_wp2_with fail
    obtain ⟨s0, s1, s2, s3, s4, s5, s6, s7, s8⟩ := HBe.out.cells9
    exact bodyPost_ret (v := .tuple #[.agg #[.int .i64 C'.max, .slice V'.ai C'.ins.length V'.ci, .slice V'.al C'.lats.length V'.cl, .slice V'.ao C'.outs.length V'.co, .slice V'.ab C'.bads.length V'.cb, .slice V'.ac C'.cons.length V'.cc, .slice V'.ag C'.gates.length V'.cg, .slice V'.ay V'.ny V'.cy, .string V'.cm], .int .i64 (p9 : Nat), .int .i64 0]) (by simp [results, Tryz.results34, go_sem, s0, s1, s2, s3, s4, s5, s6, s7, s8]) rfl ⟨.inr ⟨rfl, V', by simp only [← HCe.out]; rfl, by simp only [← HCe.out]; exact fun S w2 hS k => HKeep.out (fun j => S j ∨ j = w.heap.size + 1) w2 (fun j e => e.elim (fun h => (hS j h).elim (fun h => .inl (by have := HSt.out; omega)) (fun h => .inr (by have := Hk3.out.size; have := HKe.out.size; omega))) (fun h => .inl (by have := HSt.out; omega))) ((((Hk3.out.mono (fun _ _ h => h.elim)).trans HKe.out (fun _ _ h => h)).mono (fun _ _ h => .inr h)).trans k (fun _ _ h => .inl h)), HY.out⟩, HKf.out⟩
  · have q1 : ((e9 : Int) != 0) = true := by simp [he]
    have HHe := Lib.hid he
    clear he
    obtain ⟨z0, z1, z2, z3, z4, z5, z6, z7, z8⟩ := Blk.cells9 HR3.out
    have fr := Blk.free HR3.out
    have fr0 := fr 0
    have fr1 := fr 1
    have fr2 := fr 2
    have fr3 := fr 3
    have fr4 := fr 4
    have fr5 := fr 5
    have fr6 := fr 6
    have fr7 := fr 7
    have fr8 := fr 8
    clear fr
    have HBe := Lib.hid (Blk.set9 HR3.out (.int .i64 0) (.slice none 0 0) (.slice none 0 0) (.slice none 0 0) (.slice none 0 0) (.slice none 0 0) (.slice none 0 0) (.slice none 0 0) (.string ⟨#[]⟩))
    have HKe := Lib.hid (Kp.set9 w3 (w.heap.size + 1) (.int .i64 0) (.slice none 0 0) (.slice none 0 0) (.slice none 0 0) (.slice none 0 0) (.slice none 0 0) (.slice none 0 0) (.slice none 0 0) (.string ⟨#[]⟩))
    unfold Go.Proofs.YtckmdcmkjmpiaaaGreatDoor.set9 at HBe HKe
    have HKf := Lib.hid (HK3.out.trans HKe.out (fun j hj e => by omega))
    go_wp2_with fail
    obtain ⟨s0, s1, s2, s3, s4, s5, s6, s7, s8⟩ := HBe.out.cells9
    exact bodyPost_ret (v := .tuple #[.agg #[.int .i64 0, .slice none 0 0, .slice none 0 0, .slice none 0 0, .slice none 0 0, .slice none 0 0, .slice none 0 0, .slice none 0 0, .string ⟨#[]⟩], .int .i64 (p9 : Nat), .int .i64 (e9 : Nat)]) (by simp [results, Tryz.results34, go_sem, s0, s1, s2, s3, s4, s5, s6, s7, s8]) rfl ⟨.inl ⟨HHe.out, rfl⟩, HKf.out⟩

end Go.Proofs.YtckmdcmkjmpiaaaGreatDoor

/-
  ascii.Read: what it keeps on its way.
-/
namespace Go.Proofs.YtckmdcmkjmpiaaaGreatDoor
open Go.RowKit

/-- the circuit's lists, in memory of the call's own -/
structure LsO (u : World) (B : Nat) (vI vL vO vB vC vG : Value) (I : List Int) (L : List (Int × Int × Int)) (O D N : List Int) (G : List (Int × Int × Int)) : Prop where
  i : Own u B 3 vI (iv I)
  l : OwnK u B 59 3 vL (L.map tri)
  o : Own u B 3 vO (iv O)
  d : Own u B 3 vB (iv D)
  n : Own u B 3 vC (iv N)
  g : OwnK u B 61 3 vG (G.map tri)

/-- all that ascii.Read keeps -/
structure AS (w u : World) (hd : Array Value) (s : ByteArray) (bv br bo bl B p : Nat) (M : Int) (vI vL vO vB vC vG : Value) (I : List Int) (L : List (Int × Int × Int)) (O D N : List Int) (G : List (Int × Int × Int)) : Prop where
  l : LB hd s bv w.heap.size br bl u p
  r : Blk u (w.heap.size + 1) zc9 27
  a : Blk u (w.heap.size + 1 + 1) #[.int .i64 0] 3
  e : Blk u (w.heap.size + 1 + 1 + 1) #[.int .i64 0] 28
  c : Blk u bo #[.int .i64 M, vI, vL, vO, vB, vC, vG, .slice none 0 0, .string ⟨#[]⟩] 27
  ls : LsO u B vI vL vO vB vC vG I L O D N G
  ne : bv ≠ br ∧ bo ≠ br ∧ bo ≠ bv ∧ bl ≠ bo ∧ bl ≠ bv ∧ bl ≠ br ∧ w.heap.size + 3 < bv ∧ w.heap.size + 3 < br ∧ w.heap.size + 3 < bo ∧ w.heap.size + 3 < bl
  hi : bv < B ∧ br < B ∧ bo < B ∧ bl < B ∧ B ≤ u.heap.size
  kp : Kp (fun _ => False) w u

section
variable {w u u' u0 : World} {hd : Array Value} {s : ByteArray} {bv br bo bl B p q : Nat} {M : Int} {vI vL vO vB vC vG : Value} {I : List Int} {L : List (Int × Int × Int)} {O D N : List Int} {G : List (Int × Int × Int)} {S : Nat → Prop}

theorem LsO.low (h : LsO u B vI vL vO vB vC vG I L O D N G) (k : Kp S u u') (hS : ∀ j, S j → j < B) : LsO u' B vI vL vO vB vC vG I L O D N G :=
  ⟨h.i.low k hS, h.l.low k hS, h.o.low k hS, h.d.low k hS, h.n.low k hS, h.g.low k hS⟩
/-- what is turned came behind all -/
theorem LsO.fr (h0 : LsO u0 B vI vL vO vB vC vG I L O D N G) (h : LsO u B vI vL vO vB vC vG I L O D N G) (k : Kp S u u') (hS : ∀ j, S j → u0.heap.size ≤ j) : LsO u' B vI vL vO vB vC vG I L O D N G := by
  refine ⟨h.i.kp k (fun j hj e => ?_), h.l.kp k (fun j hj e => ?_), h.o.kp k (fun j hj e => ?_), h.d.kp k (fun j hj e => ?_), h.n.kp k (fun j hj e => ?_), h.g.kp k (fun j hj e => ?_)⟩
  · have := (h0.i.lt j hj).2; have := hS j e; omega
  · have := (h0.l.lt j hj).2; have := hS j e; omega
  · have := (h0.o.lt j hj).2; have := hS j e; omega
  · have := (h0.d.lt j hj).2; have := hS j e; omega
  · have := (h0.n.lt j hj).2; have := hS j e; omega
  · have := (h0.g.lt j hj).2; have := hS j e; omega

theorem LsO.putL {vL' : Value} {L' : List (Int × Int × Int)} (h : LsO u B vI vL vO vB vC vG I L O D N G) (k : Kp (fun j => vL.ownBlock = some j) u u') (hO : OwnK u' B 59 3 vL' (L'.map tri)) : LsO u' B vI vL' vO vB vC vG I L' O D N G :=
  ⟨h.i.kp k (apart_il h.i h.l (by decide)), hO, h.o.kp k (apart_il h.o h.l (by decide)), h.d.kp k (apart_il h.d h.l (by decide)), h.n.kp k (apart_il h.n h.l (by decide)), h.g.kp k (apart_kk h.g h.l (by decide))⟩
theorem LsO.putG {vG' : Value} {G' : List (Int × Int × Int)} (h : LsO u B vI vL vO vB vC vG I L O D N G) (k : Kp (fun j => vG.ownBlock = some j) u u') (hO : OwnK u' B 61 3 vG' (G'.map tri)) : LsO u' B vI vL vO vB vC vG' I L O D N G' :=
  ⟨h.i.kp k (apart_il h.i h.g (by decide)), h.l.kp k (apart_kk h.l h.g (by decide)), h.o.kp k (apart_il h.o h.g (by decide)), h.d.kp k (apart_il h.d h.g (by decide)), h.n.kp k (apart_il h.n h.g (by decide)), hO⟩

/-- the fixed cells, where what is turned is none of them -/
theorem AS.move {vI' vL' vO' vB' vC' vG' : Value} {I' : List Int} {L' : List (Int × Int × Int)} {O' D' N' : List Int} {G' : List (Int × Int × Int)} (h : AS w u hd s bv br bo bl B p M vI vL vO vB vC vG I L O D N G) (k : Kp S u u') (hS : ∀ j, S j → B ≤ j)
    (hv : vI' = vI ∧ vL' = vL ∧ vO' = vO ∧ vB' = vB ∧ vC' = vC ∧ vG' = vG) (ls : LsO u' B vI' vL' vO' vB' vC' vG' I' L' O' D' N' G') : AS w u' hd s bv br bo bl B p M vI' vL' vO' vB' vC' vG' I' L' O' D' N' G' := by
  obtain ⟨rfl, rfl, rfl, rfl, rfl, rfl⟩ := hv
  have hn := h.ne
  have hh := h.hi
  have q : ∀ j, j < B → ¬ S j := fun j hj hs => by have := hS j hs; omega
  exact ⟨h.l.kp k (q _ hh.1) (q _ (by omega)) (q _ hh.2.1) (q _ hh.2.2.2.1), h.r.kp k (q _ (by omega)), h.a.kp k (q _ (by omega)), h.e.kp k (q _ (by omega)), h.c.kp k (q _ hh.2.2.1), ls, hn, ⟨hh.1, hh.2.1, hh.2.2.1, hh.2.2.2.1, Nat.le_trans hh.2.2.2.2 k.size⟩, h.kp.trans k (fun j hj hs => by have := hS j hs; omega)⟩

theorem AS.kp0 (h : AS w u hd s bv br bo bl B p M vI vL vO vB vC vG I L O D N G) (k : Kp (fun _ => False) u u') : AS w u' hd s bv br bo bl B p M vI vL vO vB vC vG I L O D N G :=
  h.move k (fun _ h => h.elim) ⟨rfl, rfl, rfl, rfl, rfl, rfl⟩ (h.ls.low k (fun _ h => h.elim))
theorem AS.fresh (h0 : AS w u0 hd s bv br bo bl B q M vI vL vO vB vC vG I L O D N G) (h : AS w u hd s bv br bo bl B p M vI vL vO vB vC vG I L O D N G) (k : Kp S u u') (hS : ∀ j, S j → u0.heap.size ≤ j) : AS w u' hd s bv br bo bl B p M vI vL vO vB vC vG I L O D N G :=
  h.move k (fun j hj => by have := hS j hj; have := h0.hi; omega) ⟨rfl, rfl, rfl, rfl, rfl, rfl⟩ (h0.ls.fr h.ls k hS)
theorem AS.rd (h : AS w u hd s bv br bo bl B p M vI vL vO vB vC vG I L O D N G) (k : Kp (fun j => j = br) u u') (hl : LB hd s bv w.heap.size br bl u' q) : AS w u' hd s bv br bo bl B q M vI vL vO vB vC vG I L O D N G := by
  have hn := h.ne
  have hh := h.hi
  exact ⟨hl, h.r.kp k (by omega), h.a.kp k (by omega), h.e.kp k (by omega), h.c.kp k (by omega), h.ls.low k (fun j e => by have e2 : j = br := e; omega), hn, ⟨hh.1, hh.2.1, hh.2.2.1, hh.2.2.2.1, Nat.le_trans hh.2.2.2.2 k.size⟩, h.kp.trans k (fun j hj e => by have e2 : j = br := e; omega)⟩
/-- a cell of the circuit is set -/
theorem AS.set {vI' vL' vO' vB' vC' vG' : Value} {I' : List Int} {L' : List (Int × Int × Int)} {O' D' N' : List Int} {G' : List (Int × Int × Int)} (h : AS w u hd s bv br bo bl B p M vI vL vO vB vC vG I L O D N G) (i : Nat) (v : Value)
    (hc : (#[.int .i64 M, vI, vL, vO, vB, vC, vG, .slice none 0 0, .string ⟨#[]⟩] : Array Value).setIfInBounds i v = #[.int .i64 M, vI', vL', vO', vB', vC', vG', .slice none 0 0, .string ⟨#[]⟩]) (ls : LsO u B vI' vL' vO' vB' vC' vG' I' L' O' D' N' G') :
    AS w (u.setCell ⟨bo, i, none⟩ v) hd s bv br bo bl B p M vI' vL' vO' vB' vC' vG' I' L' O' D' N' G' := by
  have hn := h.ne
  have hh := h.hi
  have k2 := Kp.set u ⟨bo, i, none⟩ v
  have c1 := h.c.set_same i v
  rw [hc] at c1
  exact ⟨h.l.kp k2 (by simp; omega) (by simp; omega) (by simp; omega) (by simp; omega), h.r.kp k2 (by simp; omega), h.a.kp k2 (by simp; omega), h.e.kp k2 (by simp; omega), c1, ls.low k2 (fun j e => by have e2 : j = bo := e; omega), hn,
    ⟨hh.1, hh.2.1, hh.2.2.1, hh.2.2.2.1, by rw [show (u.setCell ⟨bo, i, none⟩ v).heap.size = u.heap.size from by simp [World.setCell]]; exact hh.2.2.2.2⟩, h.kp.trans k2 (fun j hj e => by have e2 : j = bo := e; omega)⟩
theorem AS.grown {vL' : Value} {L' : List (Int × Int × Int)} (h : AS w u hd s bv br bo bl B p M vI vL vO vB vC vG I L O D N G) (hg : u.grownBy u' vL.ownBlock) (hO : OwnK u' B 59 3 vL' (L'.map tri)) :
    AS w (u'.setCell ⟨bo, 2, none⟩ vL') hd s bv br bo bl B p M vI vL' vO vB vC vG I L' O D N G := by
  have k : Kp (fun j => vL.ownBlock = some j) u u' := (Kp.refl _ u).grown hg (fun j hj _ => hj)
  have hls := h.ls.putL k hO
  have hh := h.hi
  have hn := h.ne
  have q : ∀ j, j < B → ¬ vL.ownBlock = some j := fun j hj hs => by have := (h.ls.l.lt j hs).1; omega
  have k2 := Kp.set u' ⟨bo, 2, none⟩ vL'
  refine ⟨(h.l.kp k (q _ hh.1) (q _ (by omega)) (q _ hh.2.1) (q _ hh.2.2.2.1)).kp k2 (by simp; omega) (by simp; omega) (by simp; omega) (by simp; omega), (h.r.kp k (q _ (by omega))).kp k2 (by simp; omega), (h.a.kp k (q _ (by omega))).kp k2 (by simp; omega), (h.e.kp k (q _ (by omega))).kp k2 (by simp; omega), (h.c.kp k (q _ hh.2.2.1)).set_same 2 vL', hls.low k2 (fun j e => by have e2 : j = bo := e; omega), hn,
    ⟨hh.1, hh.2.1, hh.2.2.1, hh.2.2.2.1, by rw [show (u'.setCell ⟨bo, 2, none⟩ vL').heap.size = u'.heap.size from by simp [World.setCell]]; exact Nat.le_trans hh.2.2.2.2 k.size⟩, (h.kp.trans k (fun j hj hs => by have := (h.ls.l.lt j hs).1; omega)).trans k2 (fun j hj e => by have e2 : j = bo := e; omega)⟩
theorem AS.grownG {vG' : Value} {G' : List (Int × Int × Int)} (h : AS w u hd s bv br bo bl B p M vI vL vO vB vC vG I L O D N G) (hg : u.grownBy u' vG.ownBlock) (hO : OwnK u' B 61 3 vG' (G'.map tri)) :
    AS w (u'.setCell ⟨bo, 6, none⟩ vG') hd s bv br bo bl B p M vI vL vO vB vC vG' I L O D N G' := by
  have k : Kp (fun j => vG.ownBlock = some j) u u' := (Kp.refl _ u).grown hg (fun j hj _ => hj)
  have hls := h.ls.putG k hO
  have hh := h.hi
  have hn := h.ne
  have q : ∀ j, j < B → ¬ vG.ownBlock = some j := fun j hj hs => by have := (h.ls.g.lt j hs).1; omega
  have k2 := Kp.set u' ⟨bo, 6, none⟩ vG'
  refine ⟨(h.l.kp k (q _ hh.1) (q _ (by omega)) (q _ hh.2.1) (q _ hh.2.2.2.1)).kp k2 (by simp; omega) (by simp; omega) (by simp; omega) (by simp; omega), (h.r.kp k (q _ (by omega))).kp k2 (by simp; omega), (h.a.kp k (q _ (by omega))).kp k2 (by simp; omega), (h.e.kp k (q _ (by omega))).kp k2 (by simp; omega), (h.c.kp k (q _ hh.2.2.1)).set_same 6 vG', hls.low k2 (fun j e => by have e2 : j = bo := e; omega), hn,
    ⟨hh.1, hh.2.1, hh.2.2.1, hh.2.2.2.1, by rw [show (u'.setCell ⟨bo, 6, none⟩ vG').heap.size = u'.heap.size from by simp [World.setCell]]; exact Nat.le_trans hh.2.2.2.2 k.size⟩, (h.kp.trans k (fun j hj hs => by have := (h.ls.g.lt j hs).1; omega)).trans k2 (fun j hj e => by have e2 : j = bo := e; omega)⟩

/-- its cells -/
theorem AS.cells (h : AS w u hd s bv br bo bl B p M vI vL vO vB vC vG I L O D N G) : (u.cell? ⟨bl, 0, none⟩ = some (.func (Fn.func 67) #[] #[.pointer (some ⟨bv, 0, none⟩), .pointer (some ⟨w.heap.size, 0, none⟩)])) ∧
    u.cell? ⟨bo, 0, none⟩ = some (.int .i64 M) ∧ u.cell? ⟨bo, 1, none⟩ = some vI ∧ u.cell? ⟨bo, 2, none⟩ = some vL ∧ u.cell? ⟨bo, 3, none⟩ = some vO ∧ u.cell? ⟨bo, 4, none⟩ = some vB ∧ u.cell? ⟨bo, 5, none⟩ = some vC ∧ u.cell? ⟨bo, 6, none⟩ = some vG ∧ ∀ i, u.frozen? ⟨bo, i, none⟩ = false :=
  ⟨h.l.l.cells1.1, h.c.cell rfl, h.c.cell rfl, h.c.cell rfl, h.c.cell rfl, h.c.cell rfl, h.c.cell rfl, h.c.cell rfl, fun i => Blk.free h.c i⟩
end

theorem asc_end {r : Circ × Nat × Nat} {w w' : World} {tmps : Array Value} (ht6 : tmps[6]? = some (.pointer (some ⟨w.heap.size + 1, 0, none⟩))) (ht7 : tmps[7]? = some (.pointer (some ⟨w.heap.size + 1 + 1, 0, none⟩))) (ht8 : tmps[8]? = some (.pointer (some ⟨w.heap.size + 1 + 1 + 1, 0, none⟩)))
    (h0 : Blk w' (w.heap.size + 1) zc9 27) (hA : Blk w' (w.heap.size + 1 + 1) #[.int .i64 (r.2.1 : Nat)] 3) (hE : Blk w' (w.heap.size + 1 + 1 + 1) #[.int .i64 (r.2.2 : Nat)] 28) (hne : r.2.2 ≠ 0) (hk : Kp (fun _ => False) w w') :
    Leaves Tryz.prog Tryz.f33 tmps (fun o w' => BinReadP r w o w') [] .returning w' := by
  unfold zc9 at h0
  obtain ⟨z0, z1, z2, z3, z4, z5, z6, z7, z8⟩ := h0.cells9
  have a0 := hA.cells1.1
  have e0 := hE.cells1.1
  refine ⟨.tuple #[.agg zc9, .int .i64 (r.2.1 : Nat), .int .i64 (r.2.2 : Nat)], ?_, ⟨.inl ⟨hne, rfl⟩, hk⟩⟩
  simp [results, Tryz.results33, go_sem, ht6, ht7, ht8, z0, z1, z2, z3, z4, z5, z6, z7, z8, a0, e0, zc9]

/-- the end behind a stop -/
theorem asc_stop {r : Circ × Nat × Nat} {w wz w'' : World} {P E : Nat} {tmps : Array Value} (hr : r.2 = (P, E)) (hne : E ≠ 0) (ht6 : tmps[6]? = some (.pointer (some ⟨w.heap.size + 1, 0, none⟩))) (ht7 : tmps[7]? = some (.pointer (some ⟨w.heap.size + 1 + 1, 0, none⟩))) (ht8 : tmps[8]? = some (.pointer (some ⟨w.heap.size + 1 + 1 + 1, 0, none⟩)))
    (h0 : Blk wz (w.heap.size + 1) zc9 27) (hk : Kp (fun _ => False) w wz) (hA : Blk w'' (w.heap.size + 1 + 1) #[.int .i64 (P : Nat)] 3) (hE : Blk w'' (w.heap.size + 1 + 1 + 1) #[.int .i64 (E : Nat)] 28) (hK : Kp (fun j => j = w.heap.size + 1 + 1 ∨ j = w.heap.size + 1 + 1 + 1) wz w'') (v : Value) :
    Leaves Tryz.prog Tryz.f33 tmps (fun o w' => BinReadP r w o w') [] (settle (.panicking ({ v := v, recovered := true } :: []))) w'' := by
  obtain ⟨e1, e2⟩ : P = r.2.1 ∧ E = r.2.2 := by rw [hr]; exact ⟨rfl, rfl⟩
  subst e1 e2
  exact asc_end (r := r) ht6 ht7 ht8 (h0.kp hK (by omega)) hA hE hne (hk.trans hK (fun i hi h => by omega))

end Go.Proofs.YtckmdcmkjmpiaaaGreatDoor

/-
  A circuit's lines in letters: what is read, step by step.
-/
namespace Go.Proofs.YtckmdcmkjmpiaaaGreatDoor
open Go.RowKit

section
variable {s : ByteArray} {top : Int} {j : Nat} {L : List (Int × Int × Int)} {st t t2 t3 : Nat × Nat} {n c n2 c2 n3 c3 : Nat}
theorem rdLatsA_s1 (h1 : rdL s top ok32 st = (n, c, t)) (h : t.2 ≠ 0) : (rdLatsA s top (j + 1) L st).2 = t := by
  unfold rdLatsA
  rw [h1]
  simp only
  rw [rdL_stay (ok := okB) h]
  simp only
  rw [if_pos h]
theorem rdLatsA_s2 (h1 : rdL s top ok32 st = (n, c, t)) (h2 : rdL s top okB t = (n2, c2, t2)) (h : t2.2 ≠ 0) : (rdLatsA s top (j + 1) L st).2 = t2 := by
  unfold rdLatsA
  rw [h1]
  simp only
  rw [h2]
  simp only
  rw [if_pos h]
theorem rdLatsA_s3 (h1 : rdL s top ok32 st = (n, c, t)) (h2 : rdL s top okB t = (n2, c2, t2)) (h : t2.2 = 0) (hc : c2 = 32) (h3 : rdL s top ok10 t2 = (n3, c3, t3)) (he : t3.2 ≠ 0) : (rdLatsA s top (j + 1) L st).2 = t3 := by
  unfold rdLatsA
  rw [h1]
  simp only
  rw [h2]
  simp only
  rw [if_neg (by simp [h]), if_pos hc, h3]
  simp only
  rw [if_pos he]
theorem rdLatsA_g3 (h1 : rdL s top ok32 st = (n, c, t)) (h2 : rdL s top okB t = (n2, c2, t2)) (h : t2.2 = 0) (hc : c2 = 32) (h3 : rdL s top ok10 t2 = (n3, c3, t3)) (he : t3.2 = 0) : rdLatsA s top (j + 1) L st = rdLatsA s top j (L ++ [((n : Int), (n2 : Int), (n3 : Int))]) t3 := by
  show (if _ then _ else _) = _
  rw [h1]
  simp only
  rw [h2]
  simp only
  rw [if_neg (by simp [h]), if_pos hc, h3]
  simp only
  rw [if_neg (by simp [he])]
theorem rdLatsA_g2 (h1 : rdL s top ok32 st = (n, c, t)) (h2 : rdL s top okB t = (n2, c2, t2)) (h : t2.2 = 0) (hc : c2 ≠ 32) : rdLatsA s top (j + 1) L st = rdLatsA s top j (L ++ [((n : Int), (n2 : Int), 0)]) t2 := by
  show (if _ then _ else _) = _
  rw [h1]
  simp only
  rw [h2]
  simp only
  rw [if_neg (by simp [h]), if_neg hc]
theorem rdGatesA_s1 (h1 : rdL s top ok32 st = (n, c, t)) (h : t.2 ≠ 0) : (rdGatesA s top (j + 1) L st).2 = t := by
  unfold rdGatesA
  rw [h1]
  simp only
  rw [rdL_stay (ok := ok32) h]
  simp only
  rw [rdL_stay (ok := ok10) h]
  simp only
  rw [if_pos h]
theorem rdGatesA_s2 (h1 : rdL s top ok32 st = (n, c, t)) (h2 : rdL s top ok32 t = (n2, c2, t2)) (h : t2.2 ≠ 0) : (rdGatesA s top (j + 1) L st).2 = t2 := by
  unfold rdGatesA
  rw [h1]
  simp only
  rw [h2]
  simp only
  rw [rdL_stay (ok := ok10) h]
  simp only
  rw [if_pos h]
theorem rdGatesA_s3 (h1 : rdL s top ok32 st = (n, c, t)) (h2 : rdL s top ok32 t = (n2, c2, t2)) (h3 : rdL s top ok10 t2 = (n3, c3, t3)) (he : t3.2 ≠ 0) : (rdGatesA s top (j + 1) L st).2 = t3 := by
  unfold rdGatesA
  rw [h1]
  simp only
  rw [h2]
  simp only
  rw [h3]
  simp only
  rw [if_pos he]
theorem rdGatesA_g (h1 : rdL s top ok32 st = (n, c, t)) (h2 : rdL s top ok32 t = (n2, c2, t2)) (h3 : rdL s top ok10 t2 = (n3, c3, t3)) (he : t3.2 = 0) : rdGatesA s top (j + 1) L st = rdGatesA s top j (L ++ [((n : Int), (n2 : Int), (n3 : Int))]) t3 := by
  show (if _ then _ else _) = _
  rw [h1]
  simp only
  rw [h2]
  simp only
  rw [h3]
  simp only
  rw [if_neg (by simp [he])]
end

section
variable {s : ByteArray} {M : Int} {nI nL nO nA nB nC : Nat} {st t t1 t2 t3 t4 t5 : Nat × Nat} {I O D N : List Int} {L G : List (Int × Int × Int)}
theorem rdA_sI (h : (rdLits s (2 * M + 1) nI [] st).2 = t) (ht : t.2 ≠ 0) : (rdA s M nI nL nO nA nB nC st).2 = t := by
  unfold rdA
  simp only [h]
  rw [rdLatsA_stay ht, rdLits_stay (st := t) ht, rdLits_stay (st := t) ht, rdLits_stay (st := t) ht, rdGatesA_stay ht]
theorem rdA_sL (hI : rdLits s (2 * M + 1) nI [] st = (I, t1)) (h : (rdLatsA s (2 * M + 1) nL [] t1).2 = t) (ht : t.2 ≠ 0) : (rdA s M nI nL nO nA nB nC st).2 = t := by
  unfold rdA
  simp only [hI, h]
  rw [rdLits_stay (st := t) ht, rdLits_stay (st := t) ht, rdLits_stay (st := t) ht, rdGatesA_stay ht]
theorem rdA_sO (hI : rdLits s (2 * M + 1) nI [] st = (I, t1)) (hL : rdLatsA s (2 * M + 1) nL [] t1 = (L, t2)) (h : (rdLits s (2 * M + 1) nO [] t2).2 = t) (ht : t.2 ≠ 0) : (rdA s M nI nL nO nA nB nC st).2 = t := by
  unfold rdA
  simp only [hI, hL, h]
  rw [rdLits_stay (st := t) ht, rdLits_stay (st := t) ht, rdGatesA_stay ht]
theorem rdA_sB (hI : rdLits s (2 * M + 1) nI [] st = (I, t1)) (hL : rdLatsA s (2 * M + 1) nL [] t1 = (L, t2)) (hO : rdLits s (2 * M + 1) nO [] t2 = (O, t3)) (h : (rdLits s (2 * M + 1) nB [] t3).2 = t) (ht : t.2 ≠ 0) : (rdA s M nI nL nO nA nB nC st).2 = t := by
  unfold rdA
  simp only [hI, hL, hO, h]
  rw [rdLits_stay (st := t) ht, rdGatesA_stay ht]
theorem rdA_sC (hI : rdLits s (2 * M + 1) nI [] st = (I, t1)) (hL : rdLatsA s (2 * M + 1) nL [] t1 = (L, t2)) (hO : rdLits s (2 * M + 1) nO [] t2 = (O, t3)) (hD : rdLits s (2 * M + 1) nB [] t3 = (D, t4)) (h : (rdLits s (2 * M + 1) nC [] t4).2 = t) (ht : t.2 ≠ 0) : (rdA s M nI nL nO nA nB nC st).2 = t := by
  unfold rdA
  simp only [hI, hL, hO, hD, h]
  rw [rdGatesA_stay ht]
theorem rdA_sG (hI : rdLits s (2 * M + 1) nI [] st = (I, t1)) (hL : rdLatsA s (2 * M + 1) nL [] t1 = (L, t2)) (hO : rdLits s (2 * M + 1) nO [] t2 = (O, t3)) (hD : rdLits s (2 * M + 1) nB [] t3 = (D, t4)) (hN : rdLits s (2 * M + 1) nC [] t4 = (N, t5)) (h : (rdGatesA s (2 * M + 1) nA [] t5).2 = t) : (rdA s M nI nL nO nA nB nC st).2 = t := by
  unfold rdA
  simp only [hI, hL, hO, hD, hN, h]
theorem rdA_fin (hI : rdLits s (2 * M + 1) nI [] st = (I, t1)) (hL : rdLatsA s (2 * M + 1) nL [] t1 = (L, t2)) (hO : rdLits s (2 * M + 1) nO [] t2 = (O, t3)) (hD : rdLits s (2 * M + 1) nB [] t3 = (D, t4)) (hN : rdLits s (2 * M + 1) nC [] t4 = (N, t5)) (h : rdGatesA s (2 * M + 1) nA [] t5 = (G, t)) : rdA s M nI nL nO nA nB nC st = (⟨M, I, L, O, D, N, G⟩, t) := by
  unfold rdA
  simp only [hI, hL, hO, hD, hN, h]
end

end Go.Proofs.YtckmdcmkjmpiaaaGreatDoor

/-
  latchetref13.ReadHead: what it computes: the head with which a text begins.
-/
namespace Go.Proofs.YtckmdcmkjmpiaaaGreatDoor
open Go.RowKit

end Go.Proofs.YtckmdcmkjmpiaaaGreatDoor

/-
  latchetref13's literals: the reference reads the same.
-/
namespace Go.Proofs.YtckmdcmkjmpiaaaGreatDoor
open Go.RowKit

/-- the reference's place in a text -/
def PL (u : World) (b : Nat) (s : ByteArray) (st : Nat × Nat) : Prop := Blk u b #[.string s, .int .i64 (st.1 : Nat), .int .i64 (st.2 : Nat)] 94
theorem PL.at_ {u u' : World} {b : Nat} {s : ByteArray} {p e : Nat} (q : Nat) (h : PL u b s (p, e)) (k : Kp (fun _ => False) u u') : PL (u'.setCell ⟨b, 1, none⟩ (.int .i64 (q : Nat))) b s (q, e) ∧ Kp (fun j => j = b) u (u'.setCell ⟨b, 1, none⟩ (.int .i64 (q : Nat))) :=
  ⟨(Blk.kp h k (fun h => h)).set_same 1 _, (k.mono (fun _ _ h => h.elim)).trans (Kp.set u' ⟨b, 1, none⟩ _) (fun _ _ h => h)⟩
end Go.Proofs.YtckmdcmkjmpiaaaGreatDoor

/-
  The reference's lines of literals: latchetref13, latchetref14. (Printed by mkascrefl.py.)
-/
namespace Go.Proofs.YtckmdcmkjmpiaaaGreatDoor
open Go.RowKit

section
variable {s : ByteArray} {top : Int} {ok : Nat → Bool} {st t : Nat × Nat} {n c j : Nat} {L : List Int}
theorem rdS_c (h : rdS s ok st = (c, t)) : (t.2 ≠ 0 → c = 0) ∧ (t.2 = 0 → ok c = true) := by
  unfold rdS at h
  by_cases c1 : st.2 ≠ 0
  · rw [if_pos c1] at h
    obtain ⟨rfl, rfl⟩ := Prod.mk.inj h
    exact ⟨fun _ => rfl, fun h0 => absurd h0 c1⟩
  rw [if_neg c1] at h
  by_cases c2 : st.1 = s.size
  · rw [if_pos c2] at h
    obtain ⟨rfl, rfl⟩ := Prod.mk.inj h
    exact ⟨fun _ => rfl, fun h0 => absurd h0 (by simp)⟩
  rw [if_neg c2] at h
  by_cases c3 : ok (bt s st.1) = false
  · rw [if_pos c3] at h
    obtain ⟨rfl, rfl⟩ := Prod.mk.inj h
    exact ⟨fun _ => rfl, fun h0 => absurd h0 (by simp)⟩
  · rw [if_neg c3] at h
    obtain ⟨rfl, rfl⟩ := Prod.mk.inj h
    exact ⟨fun h0 => absurd rfl h0, fun _ => by simpa using c3⟩
theorem rdL_c (h : rdL s top ok st = (n, c, t)) : (t.2 ≠ 0 → c = 0) ∧ (t.2 = 0 → ok c = true) := rdS_c (Prod.mk.inj h).2
theorem rdLits_st (h : rdL s top ok10 st = (n, c, t)) (ht : t.2 ≠ 0) : (rdLits s top (j + 1) L st).2 = t := by
  have h2 : rdS s (fun c => c == 10) (rdD s top st).2 = (c, t) := (Prod.mk.inj h).2
  have hc := (rdL_c h).1 ht
  unfold rdLits
  rw [h2, if_pos (by simp [hc])]
theorem rdLits_go (h : rdL s top ok10 st = (n, c, t)) (ht : t.2 = 0) : rdLits s top (j + 1) L st = rdLits s top j (L ++ [(n : Int)]) t := by
  have h2 : rdS s (fun c => c == 10) (rdD s top st).2 = (c, t) := (Prod.mk.inj h).2
  have h1 : (rdD s top st).1 = n := (Prod.mk.inj h).1
  have hc : ok10 c = true := (rdL_c h).2 ht
  have hc2 : c = 10 := by simpa [ok10] using hc
  show (if _ then _ else _) = _
  rw [h2, h1, if_neg (by simp [hc2])]
end

theorem PL.kp {u u' : World} {b : Nat} {s : ByteArray} {st : Nat × Nat} {S : Nat → Prop} (h : PL u b s st) (k : Kp S u u') (hb : ¬ S b) : PL u' b s st := Blk.kp h k hb
end Go.Proofs.YtckmdcmkjmpiaaaGreatDoor

/-
  latchetref13.Read, latchetref14.Read: what they keep on their way.
-/
namespace Go.Proofs.YtckmdcmkjmpiaaaGreatDoor
open Go.RowKit

/-- all that the reference's Read keeps -/
structure RS (w u : World) (hd : Array Value) (s : ByteArray) (bp bo B : Nat) (st : Nat × Nat) (M : Int) (vI vL vO vB vC vG : Value) (I : List Int) (L : List (Int × Int × Int)) (O D N : List Int) (G : List (Int × Int × Int)) : Prop where
  h : Blk u w.heap.size hd 42
  r : Blk u (w.heap.size + 1) zc9 27
  p : PL u bp s st
  c : Blk u bo #[.int .i64 M, vI, vL, vO, vB, vC, vG, .slice none 0 0, .string ⟨#[]⟩] 27
  ls : LsO u B vI vL vO vB vC vG I L O D N G
  ne : bo ≠ bp ∧ w.heap.size + 1 < bp ∧ w.heap.size + 1 < bo
  hi : bp < B ∧ bo < B ∧ B ≤ u.heap.size
  kp : Kp (fun _ => False) w u

section
variable {w u u' u0 : World} {hd : Array Value} {s : ByteArray} {bp bo B : Nat} {st t : Nat × Nat} {M : Int} {vI vL vO vB vC vG : Value} {I : List Int} {L : List (Int × Int × Int)} {O D N : List Int} {G : List (Int × Int × Int)} {S : Nat → Prop}

theorem RS.move {vI' vL' vO' vB' vC' vG' : Value} {I' : List Int} {L' : List (Int × Int × Int)} {O' D' N' : List Int} {G' : List (Int × Int × Int)} (h : RS w u hd s bp bo B st M vI vL vO vB vC vG I L O D N G) (k : Kp S u u') (hS : ∀ j, S j → B ≤ j)
    (hv : vI' = vI ∧ vL' = vL ∧ vO' = vO ∧ vB' = vB ∧ vC' = vC ∧ vG' = vG) (ls : LsO u' B vI' vL' vO' vB' vC' vG' I' L' O' D' N' G') : RS w u' hd s bp bo B st M vI' vL' vO' vB' vC' vG' I' L' O' D' N' G' := by
  obtain ⟨rfl, rfl, rfl, rfl, rfl, rfl⟩ := hv
  have hn := h.ne
  have hh := h.hi
  have q : ∀ j, j < B → ¬ S j := fun j hj hs => by have := hS j hs; omega
  exact ⟨h.h.kp k (q _ (by omega)), h.r.kp k (q _ (by omega)), h.p.kp k (q _ hh.1), h.c.kp k (q _ hh.2.1), ls, hn, ⟨hh.1, hh.2.1, Nat.le_trans hh.2.2 k.size⟩, h.kp.trans k (fun j hj hs => by have := hS j hs; omega)⟩
theorem RS.kp0 (h : RS w u hd s bp bo B st M vI vL vO vB vC vG I L O D N G) (k : Kp (fun _ => False) u u') : RS w u' hd s bp bo B st M vI vL vO vB vC vG I L O D N G :=
  h.move k (fun _ h => h.elim) ⟨rfl, rfl, rfl, rfl, rfl, rfl⟩ (h.ls.low k (fun _ h => h.elim))
theorem RS.fresh {st0 : Nat × Nat} (h0 : RS w u0 hd s bp bo B st0 M vI vL vO vB vC vG I L O D N G) (h : RS w u hd s bp bo B st M vI vL vO vB vC vG I L O D N G) (k : Kp S u u') (hS : ∀ j, S j → u0.heap.size ≤ j) : RS w u' hd s bp bo B st M vI vL vO vB vC vG I L O D N G :=
  h.move k (fun j hj => by have := hS j hj; have := h0.hi; omega) ⟨rfl, rfl, rfl, rfl, rfl, rfl⟩ (h0.ls.fr h.ls k hS)
theorem RS.rd (h : RS w u hd s bp bo B st M vI vL vO vB vC vG I L O D N G) (k : Kp (fun j => j = bp) u u') (hl : PL u' bp s t) : RS w u' hd s bp bo B t M vI vL vO vB vC vG I L O D N G := by
  have hn := h.ne
  have hh := h.hi
  exact ⟨h.h.kp k (by omega), h.r.kp k (by omega), hl, h.c.kp k (by omega), h.ls.low k (fun j e => by have e2 : j = bp := e; omega), hn, ⟨hh.1, hh.2.1, Nat.le_trans hh.2.2 k.size⟩, h.kp.trans k (fun j hj e => by have e2 : j = bp := e; omega)⟩
/-- a cell of the circuit is set -/
theorem RS.set {vI' vL' vO' vB' vC' vG' : Value} {I' : List Int} {L' : List (Int × Int × Int)} {O' D' N' : List Int} {G' : List (Int × Int × Int)} (h : RS w u hd s bp bo B st M vI vL vO vB vC vG I L O D N G) (i : Nat) (v : Value)
    (hc : (#[.int .i64 M, vI, vL, vO, vB, vC, vG, .slice none 0 0, .string ⟨#[]⟩] : Array Value).setIfInBounds i v = #[.int .i64 M, vI', vL', vO', vB', vC', vG', .slice none 0 0, .string ⟨#[]⟩]) (ls : LsO u B vI' vL' vO' vB' vC' vG' I' L' O' D' N' G') :
    RS w (u.setCell ⟨bo, i, none⟩ v) hd s bp bo B st M vI' vL' vO' vB' vC' vG' I' L' O' D' N' G' := by
  have hn := h.ne
  have hh := h.hi
  have k2 := Kp.set u ⟨bo, i, none⟩ v
  have c1 := h.c.set_same i v
  rw [hc] at c1
  exact ⟨h.h.kp k2 (by simp; omega), h.r.kp k2 (by simp; omega), h.p.kp k2 (by simp; omega), c1, ls.low k2 (fun j e => by have e2 : j = bo := e; omega), hn,
    ⟨hh.1, hh.2.1, by rw [show (u.setCell ⟨bo, i, none⟩ v).heap.size = u.heap.size from by simp [World.setCell]]; exact hh.2.2⟩, h.kp.trans k2 (fun j hj e => by have e2 : j = bo := e; omega)⟩
/-- a list of the call's own has grown, and is set -/
theorem RS.grow {v0 : Value} {vI' vL' vO' vB' vC' vG' : Value} {I' : List Int} {L' : List (Int × Int × Int)} {O' D' N' : List Int} {G' : List (Int × Int × Int)} (h : RS w u hd s bp bo B st M vI vL vO vB vC vG I L O D N G) (hg : u.grownBy u' v0.ownBlock) (hlo : ∀ j, v0.ownBlock = some j → B ≤ j) (i : Nat) (v : Value)
    (hc : (#[.int .i64 M, vI, vL, vO, vB, vC, vG, .slice none 0 0, .string ⟨#[]⟩] : Array Value).setIfInBounds i v = #[.int .i64 M, vI', vL', vO', vB', vC', vG', .slice none 0 0, .string ⟨#[]⟩]) (ls : Kp (fun j => v0.ownBlock = some j) u u' → LsO u' B vI' vL' vO' vB' vC' vG' I' L' O' D' N' G') :
    RS w (u'.setCell ⟨bo, i, none⟩ v) hd s bp bo B st M vI' vL' vO' vB' vC' vG' I' L' O' D' N' G' := by
  have k : Kp (fun j => v0.ownBlock = some j) u u' := (Kp.refl _ u).grown hg (fun j hj _ => hj)
  have hls := ls k
  have hh := h.hi
  have hn := h.ne
  have q : ∀ j, j < B → ¬ v0.ownBlock = some j := fun j hj hs => by have := hlo j hs; omega
  have k2 := Kp.set u' ⟨bo, i, none⟩ v
  have c1 := (h.c.kp k (q _ hh.2.1)).set_same i v
  rw [hc] at c1
  exact ⟨(h.h.kp k (q _ (by omega))).kp k2 (by simp; omega), (h.r.kp k (q _ (by omega))).kp k2 (by simp; omega), (h.p.kp k (q _ hh.1)).kp k2 (by simp; omega), c1, hls.low k2 (fun j e => by have e2 : j = bo := e; omega), hn,
    ⟨hh.1, hh.2.1, by rw [show (u'.setCell ⟨bo, i, none⟩ v).heap.size = u'.heap.size from by simp [World.setCell]]; exact Nat.le_trans hh.2.2 k.size⟩, (h.kp.trans k (fun j hj hs => by have := hlo j hs; omega)).trans k2 (fun j hj e => by have e2 : j = bo := e; omega)⟩
theorem RS.grown {vL' : Value} {L' : List (Int × Int × Int)} (h : RS w u hd s bp bo B st M vI vL vO vB vC vG I L O D N G) (hg : u.grownBy u' vL.ownBlock) (hO : OwnK u' B 59 3 vL' (L'.map tri)) :
    RS w (u'.setCell ⟨bo, 2, none⟩ vL') hd s bp bo B st M vI vL' vO vB vC vG I L' O D N G :=
  h.grow hg (fun j hj => (h.ls.l.lt j hj).1) 2 vL' rfl (fun k => h.ls.putL k hO)
theorem RS.grownG {vG' : Value} {G' : List (Int × Int × Int)} (h : RS w u hd s bp bo B st M vI vL vO vB vC vG I L O D N G) (hg : u.grownBy u' vG.ownBlock) (hO : OwnK u' B 61 3 vG' (G'.map tri)) :
    RS w (u'.setCell ⟨bo, 6, none⟩ vG') hd s bp bo B st M vI vL vO vB vC vG' I L O D N G' :=
  h.grow hg (fun j hj => (h.ls.g.lt j hj).1) 6 vG' rfl (fun k => h.ls.putG k hO)

/-- the result is laid -/
theorem RS.fin (h : RS w u hd s bp bo B st M vI vL vO vB vC vG I L O D N G) (y0 y1 y2 y3 y4 y5 y6 y7 y8 : Value) :
    Blk (set9 u (w.heap.size + 1) y0 y1 y2 y3 y4 y5 y6 y7 y8) (w.heap.size + 1) #[y0, y1, y2, y3, y4, y5, y6, y7, y8] 27 ∧ Kp (fun _ => False) w (set9 u (w.heap.size + 1) y0 y1 y2 y3 y4 y5 y6 y7 y8) ∧
    LsO (set9 u (w.heap.size + 1) y0 y1 y2 y3 y4 y5 y6 y7 y8) B vI vL vO vB vC vG I L O D N G := by
  have hn := h.ne
  have hh := h.hi
  have hk := Kp.set9 u (w.heap.size + 1) y0 y1 y2 y3 y4 y5 y6 y7 y8
  exact ⟨Blk.set9 h.r y0 y1 y2 y3 y4 y5 y6 y7 y8, h.kp.trans hk (fun i hi e => by omega), h.ls.low hk (fun j e => by omega)⟩
end

end Go.Proofs.YtckmdcmkjmpiaaaGreatDoor

/-
  latchetref13.Read of any text. (Printed by mkascrefr.py.)
-/
namespace Go.Proofs.YtckmdcmkjmpiaaaGreatDoor
open Go.RowKit

theorem ref_four (w : World) (c c1 : Array Value) (t t1 : TypeId) : Blk ((w.alloc (.cells c t)).alloc (.cells c1 t1)) w.heap.size c t ∧
    Blk ((w.alloc (.cells c t)).alloc (.cells c1 t1)) (w.heap.size + 1) c1 t1 ∧ Kp (fun _ => False) w ((w.alloc (.cells c t)).alloc (.cells c1 t1)) ∧ ((w.alloc (.cells c t)).alloc (.cells c1 t1)).heap.size = w.heap.size + 2 := by
  have key : ∀ (u : World) (c : Array Value) (t : TypeId) (n : Nat), u.heap.size = n → Blk (u.alloc (.cells c t)) n c t := fun u c t n h => by subst h; exact Blk.new u c t
  exact ⟨(Blk.new w _ _).alloc _, key _ _ _ _ (by simp), ((Kp.refl _ w).alloc _).alloc _, by simp⟩
end Go.Proofs.YtckmdcmkjmpiaaaGreatDoor

/-
  latchetref14.delta: the next number by digits of seven bits, in bounds.
-/
namespace Go.Proofs.YtckmdcmkjmpiaaaGreatDoor
open Go.RowKit

end Go.Proofs.YtckmdcmkjmpiaaaGreatDoor

/-
  latchetref14.Read of any text. (Printed by mkascrefb.py.)
-/
namespace Go.Proofs.YtckmdcmkjmpiaaaGreatDoor
open Go.RowKit

section
variable {s : ByteArray} {top : Int} {I j k : Nat} {L : List (Int × Int × Int)} {st t t2 t3 : Nat × Nat} {n c n2 c2 n3 c3 : Nat}
theorem rdLatsP_stay (h : st.2 ≠ 0) : (rdLatsP s top I j k L st).2 = st := by
  cases j with
  | zero => rfl
  | succ j =>
    rw [rdLatsP_succ, rdD_stay h]
    simp only
    rw [rdS_stay h]
    rfl
theorem rdLatsP_one (h1 : rdL s top okB st = (n, c, t)) : rdLatsP s top I (j + 1) k L st =
    if c = 32 then rdLatsP s top I j (k + 1) (L ++ [(2 * ((I + k : Nat) : Int) + 2, (n : Int), ((rdL s top ok10 t).1 : Int))]) (rdL s top ok10 t).2.2
    else if c = 0 then (L, t) else rdLatsP s top I j (k + 1) (L ++ [(2 * ((I + k : Nat) : Int) + 2, (n : Int), 0)]) t := by
  have e1 : (rdD s top st).1 = n := (Prod.mk.inj h1).1
  have e2 : rdS s (fun c => c == 32 || c == 10) (rdD s top st).2 = (c, t) := (Prod.mk.inj h1).2
  rw [rdLatsP_succ, e1, e2]
  rfl
theorem rdLatsP_st (h1 : rdL s top okB st = (n, c, t)) (ht : t.2 ≠ 0) : (rdLatsP s top I (j + 1) k L st).2 = t := by
  rw [rdLatsP_one h1, (rdL_c h1).1 ht]
  rfl
theorem rdLatsP_g2 (h1 : rdL s top okB st = (n, c, t)) (ht : t.2 = 0) (hc : c ≠ 32) : rdLatsP s top I (j + 1) k L st = rdLatsP s top I j (k + 1) (L ++ [(2 * ((I + k : Nat) : Int) + 2, (n : Int), 0)]) t := by
  have h2 : okB c = true := (rdL_c h1).2 ht
  have h3 : c ≠ 0 := by rintro rfl; exact absurd h2 (by decide)
  rw [rdLatsP_one h1, if_neg hc, if_neg h3]
theorem rdLatsP_g3 (h1 : rdL s top okB st = (n, c, t)) (hc : c = 32) (h3 : rdL s top ok10 t = (n3, c3, t3)) : rdLatsP s top I (j + 1) k L st = rdLatsP s top I j (k + 1) (L ++ [(2 * ((I + k : Nat) : Int) + 2, (n : Int), (n3 : Int))]) t3 := by
  rw [rdLatsP_one h1, if_pos hc, h3]
theorem rdGatesP_st (h1 : rdG s 1 (2 * ((I + k : Nat) : Int) + 2) st = (n, t)) (h2 : rdG s 0 (2 * ((I + k : Nat) : Int) + 2 - (n : Int)) t = (n2, t2)) (ht : t2.2 ≠ 0) : (rdGatesP s I (j + 1) k L st).2 = t2 := by
  rw [rdGatesP_succ, h1]
  simp only
  rw [h2]
  simp only
  rw [if_pos ht]
theorem rdGatesP_go (h1 : rdG s 1 (2 * ((I + k : Nat) : Int) + 2) st = (n, t)) (h2 : rdG s 0 (2 * ((I + k : Nat) : Int) + 2 - (n : Int)) t = (n2, t2)) (ht : t2.2 = 0) : rdGatesP s I (j + 1) k L st = rdGatesP s I j (k + 1) (L ++ [(2 * ((I + k : Nat) : Int) + 2, 2 * ((I + k : Nat) : Int) + 2 - (n : Int), 2 * ((I + k : Nat) : Int) + 2 - (n : Int) - (n2 : Int))]) t2 := by
  rw [rdGatesP_succ, h1]
  simp only
  rw [h2]
  simp only
  rw [if_neg (by simp [ht])]
end
section
variable {s : ByteArray} {M : Int} {nI nL nO nA nB nC : Nat} {st t t1 t2 t3 t4 t5 : Nat × Nat} {O D N : List Int} {L G : List (Int × Int × Int)}
theorem rdC_end (hL : rdLatsP s (2 * M + 1) nI nL 0 [] st = (L, t2)) (hO : rdLits s (2 * M + 1) nO [] t2 = (O, t3)) (hD : rdLits s (2 * M + 1) nB [] t3 = (D, t4)) (hN : rdLits s (2 * M + 1) nC [] t4 = (N, t5)) (h : rdGatesP s (nI + nL) nA 0 [] t5 = (G, t)) : rdC s M nI nL nO nA nB nC st = (⟨M, insP nI, L, O, D, N, G⟩, t) := by
  unfold rdC
  simp only [hL, hO, hD, hN, h]
end

end Go.Proofs.YtckmdcmkjmpiaaaGreatDoor

/-
  A circuit's lines, in either form, are read back at any place. No program in sight.
-/
namespace Go.Proofs.YtckmdcmkjmpiaaaGreatDoor
open Go.RowKit

theorem oneA_eq (x : Int) : oneA x = oneB x := by unfold oneA oneB jrow; simp [Lib.join_one]
theorem oneA_fun : oneA = oneB := funext oneA_eq
theorem jrow2 (a b : Int) : jrow [a, b] ++ [10] = Lib.itoa a ++ 32 :: (Lib.itoa b ++ [10]) := by
  unfold jrow
  simp [Lib.join_cons, Lib.joinTail]
theorem jrow3 (a b c : Int) : jrow [a, b, c] ++ [10] = Lib.itoa a ++ 32 :: (Lib.itoa b ++ 32 :: (Lib.itoa c ++ [10])) := by
  unfold jrow
  simp [Lib.join_cons, Lib.joinTail]

section
variable {s : ByteArray} {p : Nat}
theorem rdL_here {u : Nat} {c : UInt8} {r : List UInt8} {top : Int} {ok : Nat → Bool} (h : Here s p (Lib.itoa (u : Int) ++ c :: r)) (hc : ¬ (48 ≤ c.toNat ∧ c.toNat ≤ 57)) (hu : u < 1000000000) (ht : (u : Int) ≤ top) (hok : ok c.toNat = true) :
    rdL s top ok (p, 0) = (u, c.toNat, p + (Lib.itoa (u : Int)).length + 1, 0) ∧ Here s (p + (Lib.itoa (u : Int)).length + 1) r := by
  have hd := rdD_here (top := top) h hc hu ht
  have h2 := h.right
  have hs := rdS_here (ok := ok) h2 hok
  refine ⟨?_, ?_⟩
  · unfold rdL
    rw [hd]
    simp only
    rw [hs]
  · have h3 : Here s (p + (Lib.itoa (u : Int)).length) ([c] ++ r) := by simpa using h2
    simpa using h3.right
end

theorem rdLatsA_back {s : ByteArray} {top : Int} (ht : top < 1000000000) : ∀ (T acc : List (Int × Int × Int)) (p : Nat), (∀ x ∈ T, (0 ≤ x.1 ∧ x.1 ≤ top) ∧ (0 ≤ x.2.1 ∧ x.2.1 ≤ top) ∧ 0 ≤ x.2.2 ∧ x.2.2 ≤ top) → Here s p (T.flatMap latA) →
    rdLatsA s top T.length acc (p, 0) = (acc ++ T, p + (T.flatMap latA).length, 0)
  | [], acc, p, _, _ => by simp [rdLatsA]
  | x :: T, acc, p, hb, h => by
    obtain ⟨l, a, r⟩ := x
    obtain ⟨⟨hl0, hl1⟩, ⟨ha0, ha1⟩, hr0, hr1⟩ := hb (l, a, r) (by simp)
    simp only at hl0 hl1 ha0 ha1 hr0 hr1
    obtain ⟨t, rfl⟩ : ∃ u : Nat, l = u := ⟨l.toNat, by omega⟩
    obtain ⟨u, rfl⟩ : ∃ u : Nat, a = u := ⟨a.toNat, by omega⟩
    obtain ⟨v, rfl⟩ : ∃ v : Nat, r = v := ⟨r.toNat, by omega⟩
    have hrest : ∀ (acc : List (Int × Int × Int)) (q : Nat), Here s q (T.flatMap latA) → rdLatsA s top T.length acc (q, 0) = (acc ++ T, q + (T.flatMap latA).length, 0) := fun acc q hq => rdLatsA_back ht T acc q (fun y hy => hb y (by simp [hy])) hq
    rw [List.flatMap_cons] at h
    have h3 := h.right
    rw [List.length_cons, List.flatMap_cons, List.length_append]
    by_cases hv : v = 0
    · subst hv
      have e : latA ((t : Int), (u : Int), ((0 : Nat) : Int)) = Lib.itoa (t : Int) ++ 32 :: (Lib.itoa (u : Int) ++ [10]) := by unfold latA; rw [if_pos (by simp)]; exact jrow2 _ _
      rw [e] at h h3
      have h1 : Here s p (Lib.itoa (t : Int) ++ 32 :: (Lib.itoa (u : Int) ++ 10 :: T.flatMap latA)) := by simpa using h
      obtain ⟨r1, k1⟩ := rdL_here (top := top) (ok := ok32) h1 d32 (by omega) hl1 rfl
      obtain ⟨r2, k2⟩ := rdL_here (top := top) (ok := okB) k1 d10 (by omega) ha1 rfl
      rw [rdLatsA_g2 r1 r2 rfl (by decide), hrest _ _ k2, e]
      simp
      omega
    · have e : latA ((t : Int), (u : Int), (v : Int)) = Lib.itoa (t : Int) ++ 32 :: (Lib.itoa (u : Int) ++ 32 :: (Lib.itoa (v : Int) ++ [10])) := by unfold latA; rw [if_neg (by simpa using hv)]; exact jrow3 _ _ _
      rw [e] at h h3
      have h1 : Here s p (Lib.itoa (t : Int) ++ 32 :: (Lib.itoa (u : Int) ++ 32 :: (Lib.itoa (v : Int) ++ 10 :: T.flatMap latA))) := by simpa using h
      obtain ⟨r1, k1⟩ := rdL_here (top := top) (ok := ok32) h1 d32 (by omega) hl1 rfl
      obtain ⟨r2, k2⟩ := rdL_here (top := top) (ok := okB) k1 d32 (by omega) ha1 rfl
      obtain ⟨r3, k3⟩ := rdL_here (top := top) (ok := ok10) k2 d10 (by omega) hr1 rfl
      rw [rdLatsA_g3 r1 r2 rfl rfl r3 rfl, hrest _ _ k3, e]
      simp
      omega

theorem rdGatesA_nil {s : ByteArray} {top : Int} {acc : List (Int × Int × Int)} {st : Nat × Nat} : rdGatesA s top 0 acc st = (acc, st) := by unfold rdGatesA; rfl
theorem rdGatesA_back {s : ByteArray} {top : Int} (ht : top < 1000000000) (T : List (Int × Int × Int)) : ∀ (acc : List (Int × Int × Int)) (p : Nat), (∀ x ∈ T, (0 ≤ x.1 ∧ x.1 ≤ top) ∧ (0 ≤ x.2.1 ∧ x.2.1 ≤ top) ∧ 0 ≤ x.2.2 ∧ x.2.2 ≤ top) → Here s p (T.flatMap gatA) →
    rdGatesA s top T.length acc (p, 0) = (acc ++ T, p + (T.flatMap gatA).length, 0) := by
  induction T with
  | nil => intro acc p _ _; rw [List.length_nil, rdGatesA_nil]; simp
  | cons x T ih =>
    intro acc p hb h
    obtain ⟨l, a, r⟩ := x
    obtain ⟨⟨hl0, hl1⟩, ⟨ha0, ha1⟩, hr0, hr1⟩ := hb (l, a, r) (by simp)
    simp only at hl0 hl1 ha0 ha1 hr0 hr1
    obtain ⟨t, rfl⟩ : ∃ u : Nat, l = u := ⟨l.toNat, by omega⟩
    obtain ⟨u, rfl⟩ : ∃ u : Nat, a = u := ⟨a.toNat, by omega⟩
    obtain ⟨v, rfl⟩ : ∃ v : Nat, r = v := ⟨r.toNat, by omega⟩
    rw [List.flatMap_cons] at h
    rw [List.length_cons, List.flatMap_cons, List.length_append]
    have e : gatA ((t : Int), (u : Int), (v : Int)) = Lib.itoa (t : Int) ++ 32 :: (Lib.itoa (u : Int) ++ 32 :: (Lib.itoa (v : Int) ++ [10])) := jrow3 _ _ _
    rw [e] at h
    have h1 : Here s p (Lib.itoa (t : Int) ++ 32 :: (Lib.itoa (u : Int) ++ 32 :: (Lib.itoa (v : Int) ++ 10 :: T.flatMap gatA))) := by simpa using h
    obtain ⟨r1, k1⟩ := rdL_here (top := top) (ok := ok32) h1 d32 (by omega) hl1 rfl
    obtain ⟨r2, k2⟩ := rdL_here (top := top) (ok := ok32) k1 d32 (by omega) ha1 rfl
    obtain ⟨r3, k3⟩ := rdL_here (top := top) (ok := ok10) k2 d10 (by omega) hr1 rfl
    rw [rdGatesA_g r1 r2 r3 rfl, ih _ _ (fun y hy => hb y (by simp [hy])) k3, e]
    simp
    omega

section
variable {C : Circ} (h : InRange C)
include h
theorem rng_lat {x : Int × Int × Int} (hx : x ∈ C.lats) : (0 ≤ x.1 ∧ x.1 ≤ 2 * C.max + 1) ∧ (0 ≤ x.2.1 ∧ x.2.1 ≤ 2 * C.max + 1) ∧ 0 ≤ x.2.2 ∧ x.2.2 ≤ 2 * C.max + 1 := by
  have q1 := h.own x.1 (by unfold Circ.owned; simp only [List.mem_append, List.mem_map]; exact .inl (.inr ⟨_, hx, rfl⟩))
  have q2 := h.use x.2.1 (by unfold Circ.used; simp only [List.mem_append, List.mem_map]; exact .inl (.inr ⟨_, hx, rfl⟩))
  have q3 := h.res x hx
  have := h.max0
  omega
theorem rng_gate {x : Int × Int × Int} (hx : x ∈ C.gates) : (0 ≤ x.1 ∧ x.1 ≤ 2 * C.max + 1) ∧ (0 ≤ x.2.1 ∧ x.2.1 ≤ 2 * C.max + 1) ∧ 0 ≤ x.2.2 ∧ x.2.2 ≤ 2 * C.max + 1 := by
  have q1 := h.own x.1 (by unfold Circ.owned; simp only [List.mem_append, List.mem_map]; exact .inr ⟨_, hx, rfl⟩)
  have q2 := h.use x.2.1 (by unfold Circ.used; simp only [List.mem_append, List.mem_flatMap]; exact .inr ⟨_, hx, by simp⟩)
  have q3 := h.use x.2.2 (by unfold Circ.used; simp only [List.mem_append, List.mem_flatMap]; exact .inr ⟨_, hx, by simp⟩)
  omega
theorem rng_ins {x : Int} (hx : x ∈ C.ins) : 0 ≤ x ∧ x ≤ 2 * C.max + 1 := by
  have q1 := h.own x (by unfold Circ.owned; simp [hx])
  omega
theorem rng_wl {k : Nat} {x : Int} (hx : x ∈ wl C k) : 0 ≤ x ∧ x ≤ 2 * C.max + 1 := by
  refine h.use x ?_
  unfold Circ.used
  match k, hx with
  | 0, hx => have : x ∈ C.outs := hx; simp [this]
  | 1, hx => have : x ∈ C.bads := hx; simp [this]
  | k + 2, hx => have : x ∈ C.cons := hx; simp [this]
/-- the lines in letters are read at any place -/
theorem rdA_at {s : ByteArray} {p : Nat} (hh : Here s p (ascB C)) : rdA s C.max C.ins.length C.lats.length C.outs.length C.gates.length C.bads.length C.cons.length (p, 0) = (C, p + (ascB C).length, 0) := by
  have hm := h.max1
  have e : ascB C = ((((C.ins.flatMap oneB ++ C.lats.flatMap latA) ++ C.outs.flatMap oneB) ++ C.bads.flatMap oneB) ++ C.cons.flatMap oneB) ++ C.gates.flatMap gatA := by
    unfold ascB
    rw [wtA_succ, wtA_succ, wtA_succ, oneA_fun]
    unfold wtA
    rw [oneA_fun]
    simp only [List.range_zero, List.flatMap_nil, List.append_nil]
    rfl
  rw [e] at hh ⊢
  have a1 := hh.left.left.left.left.left
  have a2 := hh.left.left.left.left.right
  have a3 := hh.left.left.left.right
  have a4 := hh.left.left.right
  have a5 := hh.left.right
  have a6 := hh.right
  have b1 := rdLits_back (top := 2 * C.max + 1) (by omega) C.ins [] _ (fun x hx => rng_ins h hx) a1
  have b2 := rdLatsA_back (top := 2 * C.max + 1) (by omega) C.lats [] _ (fun x hx => rng_lat h hx) a2
  have b3 := rdLits_back (top := 2 * C.max + 1) (by omega) C.outs [] _ (fun x hx => rng_wl h (k := 0) hx) a3
  have b4 := rdLits_back (top := 2 * C.max + 1) (by omega) C.bads [] _ (fun x hx => rng_wl h (k := 1) hx) a4
  have b5 := rdLits_back (top := 2 * C.max + 1) (by omega) C.cons [] _ (fun x hx => rng_wl h (k := 2) hx) a5
  have b6 := rdGatesA_back (top := 2 * C.max + 1) (by omega) C.gates [] _ (fun x hx => rng_gate h hx) a6
  simp only [List.nil_append, List.length_append, Nat.add_assoc] at b1 b2 b3 b4 b5 b6 ⊢
  rw [rdA_fin b1 b2 b3 b4 b5 b6]
end
/-- the short form's bytes are read at any place -/
theorem rdC_at {C : Circ} (h : NormC C) {s : ByteArray} {p : Nat} (hall : Here s p (binB C)) : rdC s C.max C.ins.length C.lats.length C.outs.length C.gates.length C.bads.length C.cons.length (p, 0) = (C, p + (binB C).length, 0) := by
  have hm0 := h.good.rng.max0
  have hm1 := h.good.rng.max1
  unfold binB at hall ⊢
  have a1 := hall.left.left.left.left
  have a2 := hall.left.left.left.right
  have a3 := hall.left.left.right
  have a4 := hall.left.right
  have a5 := hall.right
  have b1 := rdLatsP_back (top := 2 * C.max + 1) (I := C.ins.length) (by omega) C.lats 0 [] _ (fun x hx => by
      obtain ⟨-, h2, h3⟩ := rng_lat h.good.rng hx
      exact ⟨h2.1, h2.2, h3.1, h3.2⟩)
    (fun i x hx => by
      have hi : i < C.lats.length := (List.getElem?_eq_some_iff.1 hx).1
      have := h.l hi
      rw [g3_some hi] at hx
      rw [← Option.some.inj hx, this, Nat.zero_add]) a1
  have b2 := rdLits_back (top := 2 * C.max + 1) (by omega) C.outs [] _ (fun x hx => rng_wl h.good.rng (k := 0) hx) a2
  have b3 := rdLits_back (top := 2 * C.max + 1) (by omega) C.bads [] _ (fun x hx => rng_wl h.good.rng (k := 1) hx) a3
  have b4 := rdLits_back (top := 2 * C.max + 1) (by omega) C.cons [] _ (fun x hx => rng_wl h.good.rng (k := 2) hx) a4
  have b5 := rdGatesP_back (I := C.ins.length + C.lats.length) C.gates 0 [] _ (fun x hx => by
      obtain ⟨h1, h2, h3⟩ := rng_gate h.good.rng hx
      have q2 := h.gate x hx
      omega)
    (fun i x hx => by
      have hi : i < C.gates.length := (List.getElem?_eq_some_iff.1 hx).1
      have := h.g hi
      rw [g3_some hi] at hx
      rw [← Option.some.inj hx, this, Nat.zero_add]) a5
  simp only [List.nil_append, List.length_append, Nat.add_assoc] at b1 b2 b3 b4 b5 ⊢
  rw [rdC_end b1 b2 b3 b4 b5, insP_eq h]

end Go.Proofs.YtckmdcmkjmpiaaaGreatDoor

/-
  The law of loose regions whose calls stand in one order, where such a call may end in a panic. (Printed by mkloosep.py.)
-/
namespace Go.Proofs.YtckmdcmkjmpiaaaGreatDoor
open Go Go.RowKit

section
variable {P : Program} {ops : Array Oper} {Q : Exit → Act → World → Prop} {V : Nat → World → Value → Prop} {R : World → World → Prop} {W : List Value → World → Prop} {vs : List Value} {ch : Bool} {i : Nat} {o : Oper} {a : Act} {u : World}
/-- what a call that may panic ends with -/
def CallP (Q : Exit → Act → World → Prop) (V : Nat → World → Value → Prop) (R : World → World → Prop) (W : List Value → World → Prop) (vs : List Value) (ch : Bool) (i : Nat) (a : Act) (u : World) (e : Ending) (u' : World) : Prop :=
  (∃ v, e = .returned v ∧ R u u' ∧ W (if ch then vs ++ [v] else vs) u' ∧ V i u' v) ∨ (∃ c, e = .panicked c ∧ Q (.panic c) a u')
theorem lsn_callP {f : FuncId} {args : Array Value} (hg : o.guard = none) (h : (execOp a.eval o).run P u = .ok (.enter f args) u)
    (hc : Calls P f args u (CallP Q V R W vs ch i a u)) : LS P ops Q V R W vs ch i o a u := by
  refine ls_none hg ?_
  unfold Oper.wp
  rw [h]
  refine hc.mono ?_
  rintro e u' (⟨v, rfl, hK⟩ | ⟨c, rfl, hQ⟩)
  · exact ⟨v, rfl, hK⟩
  · exact hQ
end

theorem wpAny_looseP {P : Program} {ops : Array Oper} {Q : Exit → Act → World → Prop} {p : Nat → Bool} {V : Nat → World → Value → Prop} {R : World → World → Prop} {W : List Value → World → Prop} {c : Nat → Bool} {w0 : World} {a0 : Act} {LP : Array Bool} (L : LooseSOK ops p a0.tmps.size)
    (stable : ∀ i u u' v, R u u' → V i u v → V i u' v) (tr : ∀ x y z, R x y → R y z → R x z)
    (LC : ∀ i j, c i = true → c j = true → i < j → j < ops.size → i ∈ clo ops 6 (edgesOf ops j))
    (hstep : ∀ (i : Nat) (o : Oper), ops[i]? = some o → p i = true → ∀ vs a u, R w0 u → W vs u → (c i = true → vs.length = numC c i) → (∀ j, j < ops.size → c j = true → i ∈ clo ops 6 (edgesOf ops j) → vs.length ≤ numC c j) → Told ops c vs a (fun j => ∃ e ∈ o.after, Region.binds .any e = true ∧ e.on = j) →
      (∀ s, (∀ (j : Nat) (oj : Oper), ops[j]? = some oj → p j = true → oj.dst ≠ some s) → a.tmps.getD s undef = a0.tmps.getD s undef) →
      (∀ e ∈ o.after, Region.binds .any e = true → ∀ (oj : Oper) (d : Nat), ops[e.on]? = some oj → oj.dst = some d → V e.on u (a.tmps.getD d undef)) → a.tmps.size = a0.tmps.size → a.defers = a0.defers →
      LS P ops Q V R W vs (c i) i o a u)
    (hLs : LP.size = ops.size) (hLP : ∀ i, i < ops.size → LP.getD i false = p i)
    (hend : ∀ vs a u, vs.length = cntC c ops.size LP → LInvS ops V R W c vs w0 a0 (fun i => p i = true) a u → wpAny P .any ops Q (cntU ops.size LP) LP a u) :
    ∀ (fuel : Nat) (listed : Array Bool) (vs : List Value) (a : Act) (u : World), listed.size = ops.size → vs.length = cntC c ops.size listed → fuel = cntU ops.size listed → (∀ i, i < ops.size → listed.getD i false = true → p i = true) → (∀ j, listed.getD j false = true → ∀ k, k ∈ edgesOf ops j → listed.getD k false = true) →
      LInvS ops V R W c vs w0 a0 (fun i => listed.getD i false = true) a u → wpAny P .any ops Q fuel listed a u := by
  intro fuel
  induction fuel with
  | zero =>
    intro listed vs a u hs hvl hf hl hcl hI
    have hall : ∀ i, i < ops.size → listed.getD i false = true := fun i hi => by
      by_cases h : listed.getD i false = true
      · exact h
      · have := cntU_set (listed := listed) (by omega) (by simpa using h) ops.size hi
        omega
    have e : listed = LP := listed_ext (by omega) (fun i hi => by
      rw [hall i (by omega), hLP i (by omega)]
      exact (hl i (by omega) (hall i (by omega))).symm)
    subst e
    have := hend vs a u hvl ⟨hI.rel, hI.st, fun j oj d hp hc ho hd => hI.told j oj d (hall j (Array.getElem?_eq_some_iff.1 ho).1) hc ho hd, fun i o d ho _ hd => hI.val i o d ho (hall i (Array.getElem?_eq_some_iff.1 ho).1) hd, fun s hs' => hI.off s (fun i o ho hi => hs' i o ho (hl i (Array.getElem?_eq_some_iff.1 ho).1 hi)), hI.size, hI.defers⟩
    rwa [← hf] at this
  | succ fuel ih =>
    intro listed vs a u hs hvl hf hl hcl hI
    by_cases hall : ∀ i, i < ops.size → p i = true → listed.getD i false = true
    · have e : listed = LP := listed_ext (by omega) (fun i hi => by
        rw [hLP i (by omega)]
        by_cases h : p i = true
        · rw [h, hall i (by omega) h]
        · by_cases h2 : listed.getD i false = true
          · exact absurd (hl i (by omega) h2) h
          · have h3 : p i = false := by simpa using h
            have h4 : listed.getD i false = false := by simpa using h2
            rw [h3, h4])
      subst e
      have := hend vs a u hvl ⟨hI.rel, hI.st, fun j oj d hp hc ho hd => hI.told j oj d (hall j (Array.getElem?_eq_some_iff.1 ho).1 hp) hc ho hd, fun i o d ho hp hd => hI.val i o d ho (hall i (Array.getElem?_eq_some_iff.1 ho).1 hp) hd, fun s hs' => hI.off s (fun i o ho hi => hs' i o ho (hl i (Array.getElem?_eq_some_iff.1 ho).1 hi)), hI.size, hI.defers⟩
      rwa [← hf] at this
    · obtain ⟨i0, ⟨hi0, hp0, hu0⟩, hmin⟩ := least_of (R := fun i => i < ops.size ∧ p i = true ∧ listed.getD i false = false) (by
        refine Classical.byContradiction fun hno => hall fun i hi hp => ?_
        by_cases h : listed.getD i false = true
        · exact h
        · exact absurd ⟨i, hi, hp, by simpa using h⟩ hno)
      have hready : i0 ∈ Region.ready .any ops listed := by
        rw [mem_ready]
        refine ⟨by rw [getD_true_false (by omega)]; exact hu0, ops[i0], Array.getElem?_eq_getElem hi0, fun e he hb => ?_⟩
        obtain ⟨h1, h2⟩ := L.low i0 _ (Array.getElem?_eq_getElem hi0) hp0 e he hb
        by_cases h : listed.getD e.on false = true
        · exact h
        · exact absurd ⟨by omega, h2, by simpa using h⟩ (hmin e.on h1)
      refine ⟨fun h => (by rw [h] at hready; cases hready), fun i hi => ?_⟩
      obtain ⟨h1, o, ho, hedge⟩ := mem_ready.1 hi
      have hisz : i < ops.size := (Array.getElem?_eq_some_iff.1 ho).1
      rw [getD_true_false (by omega)] at h1
      have hpi : p i = true := by
        by_cases h : p i = true
        · exact h
        · have h3 := clo_listed (listed := fun j => listed.getD j false = true) hcl 6 (edgesOf ops i) (fun k hk => by
            obtain ⟨e, he, hb, hon⟩ := (mem_edgesOf ho).1 hk
            have := hedge e he hb
            rwa [hon] at this) i0 (L.bar i o ho (by simpa using h) i0 hi0 hp0)
          rw [hu0] at h3
          cases h3
      have hnum : c i = true → vs.length = numC c i := fun hci => by
        rw [hvl]
        refine cntC_num (fun j hj hcj => ⟨fun hlj => ?_, fun hji => ?_⟩) (by omega)
        · by_cases e : j = i
          · subst e; rw [h1] at hlj; cases hlj
          · by_cases e2 : j < i
            · exact e2
            · have h3 := clo_listed (listed := fun j => listed.getD j false = true) hcl 6 (edgesOf ops j) (fun k hk => hcl j hlj k hk) i (LC i j hci hcj (by omega) hj)
              rw [h1] at h3
              cases h3
        · exact clo_listed (listed := fun j => listed.getD j false = true) hcl 6 (edgesOf ops i) (fun k hk => by
            obtain ⟨e, he, hb, hon⟩ := (mem_edgesOf ho).1 hk
            have := hedge e he hb
            rwa [hon] at this) j (LC j i hcj hci hji hisz)
      have hlow : ∀ j, j < ops.size → c i = true → c j = true → listed.getD j false = true → j < i := fun j hj hci hcj hlj => by
        by_cases e : j = i
        · subst e; rw [h1] at hlj; cases hlj
        · by_cases e2 : j < i
          · exact e2
          · have h3 := clo_listed (listed := fun j => listed.getD j false = true) hcl 6 (edgesOf ops j) (fun k hk => hcl j hlj k hk) i (LC i j hci hcj (by omega) hj)
            rw [h1] at h3
            cases h3
      have hgo : ∀ a' u', (∃ v, a' = a.put o.dst v ∧ R u u' ∧ W (if c i then vs ++ [v] else vs) u' ∧ V i u' v) → wpAny P .any ops Q fuel (listed.setIfInBounds i true) a' u' := by
        rintro a' u' ⟨v, rfl, hK, hW, hV⟩
        have hset : ∀ j, (listed.setIfInBounds i true).getD j false = true ↔ j = i ∨ listed.getD j false = true := fun j => by
          simp only [Array.getD_eq_getD_getElem?, Array.getElem?_setIfInBounds]
          by_cases e : i = j
          · subst e; simp [show i < listed.size by omega]
          · rw [if_neg e]
            exact ⟨.inr, fun h => h.resolve_left (fun h => e h.symm)⟩
        refine ih _ (if c i then vs ++ [v] else vs) _ _ (by simp [hs]) ?_ ?_ (fun j hj hlj => ?_) (fun j hj k hk => ?_) ⟨tr _ _ _ hI.rel hK, hW, fun j oj dj hj hcj hoj hdj => ?_, fun j oj dj hoj hj hdj => ?_, fun s hs' => ?_, by rw [put_size]; exact hI.size, by rw [put_defers]; exact hI.defers⟩
        · by_cases hci : c i = true
          · rw [if_pos hci, List.length_append, hvl, cntC_set (by omega) h1 hci ops.size hisz]
            rfl
          · rw [if_neg hci, hvl, cntC_set_ne (by simpa using hci)]
        · have := cntU_set (listed := listed) (by omega) h1 ops.size hisz
          omega
        · rcases (hset j).1 hlj with e | e
          · rw [e]; exact hpi
          · exact hl j hj e
        · rcases (hset j).1 hj with e | e
          · subst e
            obtain ⟨e, he, hb, hon⟩ := (mem_edgesOf ho).1 hk
            refine (hset k).2 (.inr ?_)
            rw [← hon]
            exact hedge e he hb
          · exact (hset k).2 (.inr (hcl j e k hk))
        · have hjs : j < ops.size := (Array.getElem?_eq_some_iff.1 hoj).1
          by_cases eji : j = i
          · subst eji
            have : oj = o := by rw [hoj] at ho; exact Option.some.inj ho
            subst this
            rw [hdj, put_getD_same (by rw [hI.size]; exact L.dst j oj hoj hpi dj hdj), if_pos hcj, ← hnum hcj]
            simp [List.getD]
          · have hlj := ((hset j).1 hj).resolve_left eji
            rw [put_getD_ne (fun h => eji (L.inj j i oj o hoj ho (hl j hjs hlj) hpi dj hdj h)), hI.told j oj dj hlj hcj hoj hdj]
            by_cases hci : c i = true
            · have h5 := numC_lt hcj (hlow j hjs hci hcj hlj)
              have h6 := hnum hci
              rw [if_pos hci, List.getD_eq_getElem?_getD, List.getD_eq_getElem?_getD, List.getElem?_append_left (by omega)]
            · rw [if_neg hci]
        · rcases (hset j).1 hj with e | e
          · subst e
            have : oj = o := by rw [hoj] at ho; exact Option.some.inj ho
            subst this
            rw [hdj, put_getD_same (by rw [hI.size]; exact L.dst j oj hoj hpi dj hdj)]
            exact hV
          · by_cases eji : j = i
            · subst eji
              rw [h1] at e; cases e
            · rw [put_getD_ne (fun h => eji (L.inj j i oj o hoj ho (hl j (Array.getElem?_eq_some_iff.1 hoj).1 e) hpi dj hdj h))]
              exact stable j u u' _ hK (hI.val j oj dj hoj e hdj)
        · rw [put_getD_ne (hs' i o ho ((hset i).2 (.inl rfl)))]
          exact hI.off s (fun j oj hoj hj => hs' j oj hoj ((hset j).2 (.inr hj)))
      have hub : ∀ j, j < ops.size → c j = true → i ∈ clo ops 6 (edgesOf ops j) → vs.length ≤ numC c j := fun j hj hcj hij => by
        have hnj : ¬ listed.getD j false = true := fun hlj => by
          have h3 := clo_listed (listed := fun j => listed.getD j false = true) hcl 6 (edgesOf ops j) (fun k hk => hcl j hlj k hk) i hij
          rw [h1] at h3
          cases h3
        rw [hvl]
        have := cntC_le (c := c) (listed := listed) (j := j) ops.size (fun k hk hck hlk => by
          by_cases e : k = j
          · subst e; exact absurd hlk hnj
          · by_cases e2 : k < j
            · exact e2
            · exact absurd (clo_listed (listed := fun j => listed.getD j false = true) hcl 6 (edgesOf ops k) (fun q hq => hcl k hlk q hq) j (LC j k hcj hck (by omega) hk)) hnj)
        rwa [Nat.min_eq_right (by omega)] at this
      have hst := hstep i o ho hpi vs a u hI.rel hI.st hnum hub (fun j oj d hj hcj hoj hd' => by
        obtain ⟨e, he, hb, rfl⟩ := hj
        exact hI.told e.on oj d (hedge e he hb) hcj hoj hd') (fun s hs' => hI.off s (fun j oj hoj hj => hs' j oj hoj (hl j (Array.getElem?_eq_some_iff.1 hoj).1 hj))) (fun e he hb oj d' hoj hd' => hI.val e.on oj d' hoj (hedge e he hb) hd') hI.size hI.defers
      unfold wpOp
      rw [ho]
      simp only
      rcases hst with ⟨hw, hst⟩ | ⟨hw, hst, hst2, hst3⟩
      · rw [if_pos hw]
        exact .inl (Oper.wp_mono hgo hst)
      · rw [if_neg (by rw [hw]; exact Bool.false_ne_true)]
        exact hgo _ _ ⟨undef, rfl, hst, hst2, hst3⟩

/-- the region, whose last ones (not of p) stay to be walked -/
theorem wp_region_looseP {P : Program} {id : Nat} {ops : Array Oper} {Q : Exit → Act → World → Prop} {p : Nat → Bool} {V : Nat → World → Value → Prop} {R : World → World → Prop} {W : List Value → World → Prop} {c : Nat → Bool} {w : World} {a0 : Act} {LP : Array Bool} {K N : Nat} (hm : P.follows .mixedOrders = true) (hB : looseSB ops p a0.tmps.size = true)
    (hC : chainB ops c = true) (hR0 : R w w.drew) (hW0 : W [] w.drew) (tr : ∀ x y z, R x y → R y z → R x z) (stable : ∀ i u u' v, R u u' → V i u v → V i u' v)
    (hstep : ∀ (i : Nat) (o : Oper), ops[i]? = some o → p i = true → ∀ vs a u, R w u → W vs u → (c i = true → vs.length = numC c i) → (∀ j, j < ops.size → c j = true → i ∈ clo ops 6 (edgesOf ops j) → vs.length ≤ numC c j) → Told ops c vs a (fun j => ∃ e ∈ o.after, Region.binds .any e = true ∧ e.on = j) →
      (∀ s, (∀ (j : Nat) (oj : Oper), ops[j]? = some oj → p j = true → oj.dst ≠ some s) → a.tmps.getD s undef = a0.tmps.getD s undef) →
      (∀ e ∈ o.after, Region.binds .any e = true → ∀ (oj : Oper) (d : Nat), ops[e.on]? = some oj → oj.dst = some d → V e.on u (a.tmps.getD d undef)) → a.tmps.size = a0.tmps.size → a.defers = a0.defers →
      LS P ops Q V R W vs (c i) i o a u)
    (hLs : LP.size = ops.size) (hLP : ∀ i, i < ops.size → LP.getD i false = p i) (hK : cntU ops.size LP = K) (hN : cntC c ops.size LP = N)
    (hend : ∀ vs a u, vs.length = N → LInvS ops V R W c vs w a0 (fun i => p i = true) a u → wpAny P .any ops Q K LP a u) : (Code.region id ops true).wp P Q a0 w := by
  refine wp_region_any hm ?_
  refine wpAny_looseP (looseSB_spec hB) stable tr (chainB_spec hC) hstep hLs hLP (fun vs a u hv h => by rw [hK]; rw [hN] at hv; exact hend vs a u hv h) ops.size _ [] a0 _ (by simp) (cntC_zero _ _ _).symm ?_ (fun i hi h => ?_) (fun i h => ?_) ⟨hR0, hW0, fun j oj d hj => ?_, fun i o d ho h => ?_, fun _ _ => rfl, rfl, rfl⟩
  · have : ∀ n, cntU n (Array.replicate ops.size false) = n := fun n => by
      induction n with
      | zero => rfl
      | succ n ih => rw [cntU_succ, ih]; simp [unl, Array.getD_eq_getD_getElem?, Array.getElem?_replicate]; split <;> simp
    rw [this]
  · simp [Array.getD_eq_getD_getElem?, Array.getElem?_replicate] at h
    split at h <;> simp at h
  · simp [Array.getD_eq_getD_getElem?, Array.getElem?_replicate] at h
    split at h <;> simp at h
  · exfalso
    simp [Array.getD_eq_getD_getElem?, Array.getElem?_replicate] at hj
    split at hj <;> simp at hj
  · simp [Array.getD_eq_getD_getElem?, Array.getElem?_replicate] at h
    split at h <;> simp at h

end Go.Proofs.YtckmdcmkjmpiaaaGreatDoor
