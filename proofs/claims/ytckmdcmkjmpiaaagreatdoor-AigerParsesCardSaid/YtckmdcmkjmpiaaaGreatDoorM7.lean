/-
  binary.Read, at a place that is one of the text.
-/
import Derived.Test.YtckmdcmkjmpiaaaGreatDoorM6
import Derived.Test.YtckmdcmkjmpiaaaGreatDoorM4
import Derived.Test.YtckmdcmkjmpiaaaGreatDoorM5
import Derived.Laws.EntriesVeiled
set_option linter.unusedVariables false
set_option linter.unusedSimpArgs false
namespace Go.Proofs.YtckmdcmkjmpiaaaGreatDoor
open Go.RowKit

theorem BKeep.mono {B B' : Nat} {w : World} {V : CV} {C : Circ} (h : BKeep B w V C) (hb : B' ≤ B) : BKeep B' w V C := fun S w2 hS k => h S w2 (fun j e => (hS j e).elim (fun h => .inl (by omega)) .inr) k
theorem BKeep.here {B : Nat} {w : World} {V : CV} {C : Circ} (h : BKeep B w V C) : CAt w V C := h (fun _ => False) w (fun _ h => h.elim) (Kp.refl _ _)
/-- what Read ends with -/
def BinReadP (r : Circ × Nat × Nat) (w : World) (e : Ending) (w' : World) : Prop :=
  ((r.2.2 ≠ 0 ∧ e = .returned (.tuple #[.agg zc9, .int .i64 (r.2.1 : Nat), .int .i64 (r.2.2 : Nat)])) ∨
   (r.2.2 = 0 ∧ ∃ V', e = .returned (.tuple #[.agg (cvals V' r.1), .int .i64 (r.2.1 : Nat), .int .i64 0]) ∧ BKeep w.heap.size w' V' r.1 ∧ V'.ay = none ∧ V'.ny = 0 ∧ V'.cy = 0 ∧ V'.cm = ⟨#[]⟩)) ∧ Kp (fun _ => False) w w'

set_option maxRecDepth 100000 in
set_option maxHeartbeats 8000000 in
theorem bin_Read (s : ByteArray) (p : Nat) (bin : Bool) (M : Int) (nI nL nO nA nB nC : Nat) (w : World) (hs : s.size ≤ 1000000) (hp : p ≤ s.size) (hM0 : 0 ≤ M) (hM1 : M ≤ 16777216) (hI : nI ≤ 16777216) (hL : nL ≤ 16777216) (hO : nO ≤ 16777216) (hA : nA ≤ 16777216) (hBd : nB ≤ 16777216) (hC : nC ≤ 16777216) :
    Calls Tryz.prog 34 #[.string s, .int .i64 (p : Nat), .agg #[.bool bin, .int .i64 M, .int .i64 (nI : Nat), .int .i64 (nL : Nat), .int .i64 (nO : Nat), .int .i64 (nA : Nat), .int .i64 (nB : Nat), .int .i64 (nC : Nat)]] w fun e w' => BinReadP (rdC s M nI nL nO nA nB nC (p, 0)) w e w' := by
  obtain ⟨wz, hwz⟩ : ∃ wz : World, wz = (w.alloc (.cells #[.bool bin, .int .i64 M, .int .i64 (nI : Nat), .int .i64 (nL : Nat), .int .i64 (nO : Nat), .int .i64 (nA : Nat), .int .i64 (nB : Nat), .int .i64 (nC : Nat)] 42)).alloc (.cells #[.int .i64 0, .slice none 0 0, .slice none 0 0, .slice none 0 0, .slice none 0 0, .slice none 0 0, .slice none 0 0, .slice none 0 0, .string ⟨#[]⟩] 27) := ⟨_, rfl⟩
  have HK0 := Lib.hid (show Kp (fun _ => False) w wz by rw [hwz]; exact ((Kp.refl _ w).alloc _).alloc _)
  have HH0 := Lib.hid (show Blk wz w.heap.size #[.bool bin, .int .i64 M, .int .i64 (nI : Nat), .int .i64 (nL : Nat), .int .i64 (nO : Nat), .int .i64 (nA : Nat), .int .i64 (nB : Nat), .int .i64 (nC : Nat)] 42 by rw [hwz]; exact (Blk.new w _ _).alloc _)
  have HR0 := Lib.hid (show Blk wz (w.heap.size + 1) zc9 27 by rw [hwz]; exact two_blk _ _ _ _ _)
  have HSz := Lib.hid (show wz.heap.size = w.heap.size + 2 by rw [hwz]; simp)
  have HZ := Lib.hid hwz
  have g1 : decide ((p : Int) < 0) = false := by simp
  have g2 : decide ((s.size : Int) < (p : Int)) = false := by simp; omega
  obtain ⟨wt, hwt⟩ : ∃ wt : World, wt = wz.alloc (.cells #[.string s, .int .i64 (p : Nat), .int .i64 0] 130) := ⟨_, rfl⟩
  have HT0 := Lib.hid (show TX wt wz.heap.size s (p, 0) by rw [hwt]; exact Blk.new _ _ _)
  have HKt := Lib.hid (show Kp (fun _ => False) wz wt by rw [hwt]; exact (Kp.refl _ wz).alloc _)
  have HSt := Lib.hid (show wt.heap.size = w.heap.size + 3 by rw [hwt]; simp [HSz.out])
  have HCi := Lib.hid (bin_circuit s wz.heap.size (p, 0) bin M nI nL nO nA nB nC wt hs hp hM0 hM1 hI hL hO hA hBd hC HT0.out)
  have HZt := Lib.hid hwt
  obtain ⟨C9, p9, e9, hr⟩ : ∃ C q e, rdC s M nI nL nO nA nB nC (p, 0) = (C, q, e) := ⟨_, _, _, rfl⟩
  rw [hr] at HCi ⊢
  have HR := Lib.hid hr
  clear hwz hwt hr
  go_enter Tryz.func34, Tryz.ntmps34
  go_upto_region 1 with fail
  rw [← HZ.out]
  clear HZ
  go_upto_region 4 with fail
  rw [← HZt.out]
  clear HZt
  have h0 := (HH0.out.kp HKt.out (fun h => h)).cell (i := 0) (v := .bool bin) rfl
  have h1 := (HH0.out.kp HKt.out (fun h => h)).cell (i := 1) (v := .int .i64 M) rfl
  have h2 := (HH0.out.kp HKt.out (fun h => h)).cell (i := 2) (v := .int .i64 (nI : Nat)) rfl
  have h3 := (HH0.out.kp HKt.out (fun h => h)).cell (i := 3) (v := .int .i64 (nL : Nat)) rfl
  have h4 := (HH0.out.kp HKt.out (fun h => h)).cell (i := 4) (v := .int .i64 (nO : Nat)) rfl
  have h5 := (HH0.out.kp HKt.out (fun h => h)).cell (i := 5) (v := .int .i64 (nA : Nat)) rfl
  have h6 := (HH0.out.kp HKt.out (fun h => h)).cell (i := 6) (v := .int .i64 (nB : Nat)) rfl
  have h7 := (HH0.out.kp HKt.out (fun h => h)).cell (i := 7) (v := .int .i64 (nC : Nat)) rfl
  go_upto_region 5 with (go_at_call 69; with_reducible refine Calls.mono HCi.out ?_; rintro e w1 ⟨V', C', rfl, hy1, hy2, hy3, hy4, hT, hK, hG⟩; have HY := Lib.hid (And.intro hy1 (And.intro hy2 (And.intro hy3 hy4))); clear hy1 hy2 hy3 hy4; unfold cvals)
  obtain ⟨w2, hw2⟩ : ∃ w2 : World, w2 = w1.alloc (.cells #[.int .i64 C'.max, .slice V'.ai C'.ins.length V'.ci, .slice V'.al C'.lats.length V'.cl, .slice V'.ao C'.outs.length V'.co, .slice V'.ab C'.bads.length V'.cb, .slice V'.ac C'.cons.length V'.cc, .slice V'.ag C'.gates.length V'.cg, .slice V'.ay V'.ny V'.cy, .string V'.cm] 27) := ⟨_, rfl⟩
  rw [← hw2]
  have hk2 : Kp (fun _ => False) w1 w2 := by rw [hw2]; exact (Kp.refl _ w1).alloc _
  have HX2 := Lib.hid (show Blk w2 w1.heap.size #[.int .i64 C'.max, .slice V'.ai C'.ins.length V'.ci, .slice V'.al C'.lats.length V'.cl, .slice V'.ao C'.outs.length V'.co, .slice V'.ab C'.bads.length V'.cb, .slice V'.ac C'.cons.length V'.cc, .slice V'.ag C'.gates.length V'.cg, .slice V'.ay V'.ny V'.cy, .string V'.cm] 27 by rw [hw2]; exact Blk.new _ _ _)
  have HE2 := Lib.hid (bin_ended s wz.heap.size (p9, e9) w2 (hT.kp hk2 (fun h => h)))
  have hlt1 : wt.heap.size ≤ w1.heap.size := hK.size
  have HK2 := Lib.hid (((HK0.out.trans HKt.out (fun _ _ h => h)).trans hK (fun j hj e => by have := HSz.out; have e2 : j = wz.heap.size := e; omega)).trans hk2 (fun _ _ h => h))
  have HR2 := Lib.hid (show Blk w2 (w.heap.size + 1) zc9 27 from ((HR0.out.kp HKt.out (fun h => h)).kp hK (fun e => by have := HSz.out; have e2 : w.heap.size + 1 = wz.heap.size := e; omega)).kp hk2 (fun h => h))
  have HG := Lib.hid hG
  have Hk2 := Lib.hid hk2
  have HLt := Lib.hid hlt1
  clear hw2 hT hK hG hk2 h0 h1 h2 h3 h4 h5 h6 h7 HCi hlt1
  go_upto_region 6 with (go_at_call 70; with_reducible refine Calls.mono HE2.out ?_; rintro e w3 ⟨rfl, hK3⟩)
  have HK3 := Lib.hid (HK2.out.trans hK3 (fun _ _ h => h))
  have HR3 : Hid (Blk w3 (w.heap.size + 1) #[.int .i64 0, .slice none 0 0, .slice none 0 0, .slice none 0 0, .slice none 0 0, .slice none 0 0, .slice none 0 0, .slice none 0 0, .string ⟨#[]⟩] 27) := Lib.hid (HR2.out.kp hK3 (fun h => h))
  have HX3 := Lib.hid (HX2.out.kp hK3 (fun h => h))
  have Hk3 := Lib.hid (Hk2.out.trans hK3 (fun _ _ h => h))
  clear hK3 HE2 HR2 HX2 HK2
  by_cases he : e9 = 0
  · subst he
    obtain ⟨hCe, hkeep⟩ := HG.out rfl
    have HKeep := Lib.hid hkeep
    have HCe := Lib.hid hCe
    clear hkeep hCe
    obtain ⟨d0, d1, d2, d3, d4, d5, d6, d7, d8⟩ := Blk.cells9 HX3.out
    obtain ⟨z0, z1, z2, z3, z4, z5, z6, z7, z8⟩ := Blk.cells9 HR3.out
    have fr := Blk.free HR3.out
    have fr0 := fr 0
    have fr1 := fr 1
    have fr2 := fr 2
    have fr3 := fr 3
    have fr4 := fr 4
    have fr5 := fr 5
    have fr6 := fr 6
    have fr7 := fr 7
    have fr8 := fr 8
    clear fr
    have HBe := Lib.hid (Blk.set9 HR3.out (.int .i64 C'.max) (.slice V'.ai C'.ins.length V'.ci) (.slice V'.al C'.lats.length V'.cl) (.slice V'.ao C'.outs.length V'.co) (.slice V'.ab C'.bads.length V'.cb) (.slice V'.ac C'.cons.length V'.cc) (.slice V'.ag C'.gates.length V'.cg) (.slice V'.ay V'.ny V'.cy) (.string V'.cm))
    have HKe := Lib.hid (Kp.set9 w3 (w.heap.size + 1) (.int .i64 C'.max) (.slice V'.ai C'.ins.length V'.ci) (.slice V'.al C'.lats.length V'.cl) (.slice V'.ao C'.outs.length V'.co) (.slice V'.ab C'.bads.length V'.cb) (.slice V'.ac C'.cons.length V'.cc) (.slice V'.ag C'.gates.length V'.cg) (.slice V'.ay V'.ny V'.cy) (.string V'.cm))
    unfold Go.Proofs.YtckmdcmkjmpiaaaGreatDoor.set9 at HBe HKe
    have HKf := Lib.hid (HK3.out.trans HKe.out (fun j hj e => by omega))
    go_wp2_with fail
    obtain ⟨s0, s1, s2, s3, s4, s5, s6, s7, s8⟩ := HBe.out.cells9
    exact bodyPost_ret (v := .tuple #[.agg #[.int .i64 C'.max, .slice V'.ai C'.ins.length V'.ci, .slice V'.al C'.lats.length V'.cl, .slice V'.ao C'.outs.length V'.co, .slice V'.ab C'.bads.length V'.cb, .slice V'.ac C'.cons.length V'.cc, .slice V'.ag C'.gates.length V'.cg, .slice V'.ay V'.ny V'.cy, .string V'.cm], .int .i64 (p9 : Nat), .int .i64 0]) (by simp [results, Tryz.results34, go_sem, s0, s1, s2, s3, s4, s5, s6, s7, s8]) rfl ⟨.inr ⟨rfl, V', by simp only [← HCe.out]; rfl, by simp only [← HCe.out]; exact fun S w2 hS k => HKeep.out (fun j => S j ∨ j = w.heap.size + 1) w2 (fun j e => e.elim (fun h => (hS j h).elim (fun h => .inl (by have := HSt.out; omega)) (fun h => .inr (by have := Hk3.out.size; have := HKe.out.size; omega))) (fun h => .inl (by have := HSt.out; omega))) ((((Hk3.out.mono (fun _ _ h => h.elim)).trans HKe.out (fun _ _ h => h)).mono (fun _ _ h => .inr h)).trans k (fun _ _ h => .inl h)), HY.out⟩, HKf.out⟩
  · have q1 : ((e9 : Int) != 0) = true := by simp [he]
    have HHe := Lib.hid he
    clear he
    obtain ⟨z0, z1, z2, z3, z4, z5, z6, z7, z8⟩ := Blk.cells9 HR3.out
    have fr := Blk.free HR3.out
    have fr0 := fr 0
    have fr1 := fr 1
    have fr2 := fr 2
    have fr3 := fr 3
    have fr4 := fr 4
    have fr5 := fr 5
    have fr6 := fr 6
    have fr7 := fr 7
    have fr8 := fr 8
    clear fr
    have HBe := Lib.hid (Blk.set9 HR3.out (.int .i64 0) (.slice none 0 0) (.slice none 0 0) (.slice none 0 0) (.slice none 0 0) (.slice none 0 0) (.slice none 0 0) (.slice none 0 0) (.string ⟨#[]⟩))
    have HKe := Lib.hid (Kp.set9 w3 (w.heap.size + 1) (.int .i64 0) (.slice none 0 0) (.slice none 0 0) (.slice none 0 0) (.slice none 0 0) (.slice none 0 0) (.slice none 0 0) (.slice none 0 0) (.string ⟨#[]⟩))
    unfold Go.Proofs.YtckmdcmkjmpiaaaGreatDoor.set9 at HBe HKe
    have HKf := Lib.hid (HK3.out.trans HKe.out (fun j hj e => by omega))
    go_wp2_with fail
    obtain ⟨s0, s1, s2, s3, s4, s5, s6, s7, s8⟩ := HBe.out.cells9
    exact bodyPost_ret (v := .tuple #[.agg #[.int .i64 0, .slice none 0 0, .slice none 0 0, .slice none 0 0, .slice none 0 0, .slice none 0 0, .slice none 0 0, .slice none 0 0, .string ⟨#[]⟩], .int .i64 (p9 : Nat), .int .i64 (e9 : Nat)]) (by simp [results, Tryz.results34, go_sem, s0, s1, s2, s3, s4, s5, s6, s7, s8]) rfl ⟨.inl ⟨HHe.out, rfl⟩, HKf.out⟩

end Go.Proofs.YtckmdcmkjmpiaaaGreatDoor

/-
  ascii.Read: what it keeps on its way.
-/
namespace Go.Proofs.YtckmdcmkjmpiaaaGreatDoor
open Go.RowKit

/-- the circuit's lists, in memory of the call's own -/
structure LsO (u : World) (B : Nat) (vI vL vO vB vC vG : Value) (I : List Int) (L : List (Int × Int × Int)) (O D N : List Int) (G : List (Int × Int × Int)) : Prop where
  i : Own u B 3 vI (iv I)
  l : OwnK u B 59 3 vL (L.map tri)
  o : Own u B 3 vO (iv O)
  d : Own u B 3 vB (iv D)
  n : Own u B 3 vC (iv N)
  g : OwnK u B 61 3 vG (G.map tri)

/-- all that ascii.Read keeps -/
structure AS (w u : World) (hd : Array Value) (s : ByteArray) (bv br bo bl B p : Nat) (M : Int) (vI vL vO vB vC vG : Value) (I : List Int) (L : List (Int × Int × Int)) (O D N : List Int) (G : List (Int × Int × Int)) : Prop where
  l : LB hd s bv w.heap.size br bl u p
  r : Blk u (w.heap.size + 1) zc9 27
  a : Blk u (w.heap.size + 1 + 1) #[.int .i64 0] 3
  e : Blk u (w.heap.size + 1 + 1 + 1) #[.int .i64 0] 28
  c : Blk u bo #[.int .i64 M, vI, vL, vO, vB, vC, vG, .slice none 0 0, .string ⟨#[]⟩] 27
  ls : LsO u B vI vL vO vB vC vG I L O D N G
  ne : bv ≠ br ∧ bo ≠ br ∧ bo ≠ bv ∧ bl ≠ bo ∧ bl ≠ bv ∧ bl ≠ br ∧ w.heap.size + 3 < bv ∧ w.heap.size + 3 < br ∧ w.heap.size + 3 < bo ∧ w.heap.size + 3 < bl
  hi : bv < B ∧ br < B ∧ bo < B ∧ bl < B ∧ B ≤ u.heap.size
  kp : Kp (fun _ => False) w u

section
variable {w u u' u0 : World} {hd : Array Value} {s : ByteArray} {bv br bo bl B p q : Nat} {M : Int} {vI vL vO vB vC vG : Value} {I : List Int} {L : List (Int × Int × Int)} {O D N : List Int} {G : List (Int × Int × Int)} {S : Nat → Prop}

theorem LsO.low (h : LsO u B vI vL vO vB vC vG I L O D N G) (k : Kp S u u') (hS : ∀ j, S j → j < B) : LsO u' B vI vL vO vB vC vG I L O D N G :=
  ⟨h.i.low k hS, h.l.low k hS, h.o.low k hS, h.d.low k hS, h.n.low k hS, h.g.low k hS⟩
/-- what is turned came behind all -/
theorem LsO.fr (h0 : LsO u0 B vI vL vO vB vC vG I L O D N G) (h : LsO u B vI vL vO vB vC vG I L O D N G) (k : Kp S u u') (hS : ∀ j, S j → u0.heap.size ≤ j) : LsO u' B vI vL vO vB vC vG I L O D N G := by
  refine ⟨h.i.kp k (fun j hj e => ?_), h.l.kp k (fun j hj e => ?_), h.o.kp k (fun j hj e => ?_), h.d.kp k (fun j hj e => ?_), h.n.kp k (fun j hj e => ?_), h.g.kp k (fun j hj e => ?_)⟩
  · have := (h0.i.lt j hj).2; have := hS j e; omega
  · have := (h0.l.lt j hj).2; have := hS j e; omega
  · have := (h0.o.lt j hj).2; have := hS j e; omega
  · have := (h0.d.lt j hj).2; have := hS j e; omega
  · have := (h0.n.lt j hj).2; have := hS j e; omega
  · have := (h0.g.lt j hj).2; have := hS j e; omega

theorem LsO.putL {vL' : Value} {L' : List (Int × Int × Int)} (h : LsO u B vI vL vO vB vC vG I L O D N G) (k : Kp (fun j => vL.ownBlock = some j) u u') (hO : OwnK u' B 59 3 vL' (L'.map tri)) : LsO u' B vI vL' vO vB vC vG I L' O D N G :=
  ⟨h.i.kp k (apart_il h.i h.l (by decide)), hO, h.o.kp k (apart_il h.o h.l (by decide)), h.d.kp k (apart_il h.d h.l (by decide)), h.n.kp k (apart_il h.n h.l (by decide)), h.g.kp k (apart_kk h.g h.l (by decide))⟩
theorem LsO.putG {vG' : Value} {G' : List (Int × Int × Int)} (h : LsO u B vI vL vO vB vC vG I L O D N G) (k : Kp (fun j => vG.ownBlock = some j) u u') (hO : OwnK u' B 61 3 vG' (G'.map tri)) : LsO u' B vI vL vO vB vC vG' I L O D N G' :=
  ⟨h.i.kp k (apart_il h.i h.g (by decide)), h.l.kp k (apart_kk h.l h.g (by decide)), h.o.kp k (apart_il h.o h.g (by decide)), h.d.kp k (apart_il h.d h.g (by decide)), h.n.kp k (apart_il h.n h.g (by decide)), hO⟩

/-- the fixed cells, where what is turned is none of them -/
theorem AS.move {vI' vL' vO' vB' vC' vG' : Value} {I' : List Int} {L' : List (Int × Int × Int)} {O' D' N' : List Int} {G' : List (Int × Int × Int)} (h : AS w u hd s bv br bo bl B p M vI vL vO vB vC vG I L O D N G) (k : Kp S u u') (hS : ∀ j, S j → B ≤ j)
    (hv : vI' = vI ∧ vL' = vL ∧ vO' = vO ∧ vB' = vB ∧ vC' = vC ∧ vG' = vG) (ls : LsO u' B vI' vL' vO' vB' vC' vG' I' L' O' D' N' G') : AS w u' hd s bv br bo bl B p M vI' vL' vO' vB' vC' vG' I' L' O' D' N' G' := by
  obtain ⟨rfl, rfl, rfl, rfl, rfl, rfl⟩ := hv
  have hn := h.ne
  have hh := h.hi
  have q : ∀ j, j < B → ¬ S j := fun j hj hs => by have := hS j hs; omega
  exact ⟨h.l.kp k (q _ hh.1) (q _ (by omega)) (q _ hh.2.1) (q _ hh.2.2.2.1), h.r.kp k (q _ (by omega)), h.a.kp k (q _ (by omega)), h.e.kp k (q _ (by omega)), h.c.kp k (q _ hh.2.2.1), ls, hn, ⟨hh.1, hh.2.1, hh.2.2.1, hh.2.2.2.1, Nat.le_trans hh.2.2.2.2 k.size⟩, h.kp.trans k (fun j hj hs => by have := hS j hs; omega)⟩

theorem AS.kp0 (h : AS w u hd s bv br bo bl B p M vI vL vO vB vC vG I L O D N G) (k : Kp (fun _ => False) u u') : AS w u' hd s bv br bo bl B p M vI vL vO vB vC vG I L O D N G :=
  h.move k (fun _ h => h.elim) ⟨rfl, rfl, rfl, rfl, rfl, rfl⟩ (h.ls.low k (fun _ h => h.elim))
theorem AS.fresh (h0 : AS w u0 hd s bv br bo bl B q M vI vL vO vB vC vG I L O D N G) (h : AS w u hd s bv br bo bl B p M vI vL vO vB vC vG I L O D N G) (k : Kp S u u') (hS : ∀ j, S j → u0.heap.size ≤ j) : AS w u' hd s bv br bo bl B p M vI vL vO vB vC vG I L O D N G :=
  h.move k (fun j hj => by have := hS j hj; have := h0.hi; omega) ⟨rfl, rfl, rfl, rfl, rfl, rfl⟩ (h0.ls.fr h.ls k hS)
theorem AS.rd (h : AS w u hd s bv br bo bl B p M vI vL vO vB vC vG I L O D N G) (k : Kp (fun j => j = br) u u') (hl : LB hd s bv w.heap.size br bl u' q) : AS w u' hd s bv br bo bl B q M vI vL vO vB vC vG I L O D N G := by
  have hn := h.ne
  have hh := h.hi
  exact ⟨hl, h.r.kp k (by omega), h.a.kp k (by omega), h.e.kp k (by omega), h.c.kp k (by omega), h.ls.low k (fun j e => by have e2 : j = br := e; omega), hn, ⟨hh.1, hh.2.1, hh.2.2.1, hh.2.2.2.1, Nat.le_trans hh.2.2.2.2 k.size⟩, h.kp.trans k (fun j hj e => by have e2 : j = br := e; omega)⟩
/-- a cell of the circuit is set -/
theorem AS.set {vI' vL' vO' vB' vC' vG' : Value} {I' : List Int} {L' : List (Int × Int × Int)} {O' D' N' : List Int} {G' : List (Int × Int × Int)} (h : AS w u hd s bv br bo bl B p M vI vL vO vB vC vG I L O D N G) (i : Nat) (v : Value)
    (hc : (#[.int .i64 M, vI, vL, vO, vB, vC, vG, .slice none 0 0, .string ⟨#[]⟩] : Array Value).setIfInBounds i v = #[.int .i64 M, vI', vL', vO', vB', vC', vG', .slice none 0 0, .string ⟨#[]⟩]) (ls : LsO u B vI' vL' vO' vB' vC' vG' I' L' O' D' N' G') :
    AS w (u.setCell ⟨bo, i, none⟩ v) hd s bv br bo bl B p M vI' vL' vO' vB' vC' vG' I' L' O' D' N' G' := by
  have hn := h.ne
  have hh := h.hi
  have k2 := Kp.set u ⟨bo, i, none⟩ v
  have c1 := h.c.set_same i v
  rw [hc] at c1
  exact ⟨h.l.kp k2 (by simp; omega) (by simp; omega) (by simp; omega) (by simp; omega), h.r.kp k2 (by simp; omega), h.a.kp k2 (by simp; omega), h.e.kp k2 (by simp; omega), c1, ls.low k2 (fun j e => by have e2 : j = bo := e; omega), hn,
    ⟨hh.1, hh.2.1, hh.2.2.1, hh.2.2.2.1, by rw [show (u.setCell ⟨bo, i, none⟩ v).heap.size = u.heap.size from by simp [World.setCell]]; exact hh.2.2.2.2⟩, h.kp.trans k2 (fun j hj e => by have e2 : j = bo := e; omega)⟩
theorem AS.grown {vL' : Value} {L' : List (Int × Int × Int)} (h : AS w u hd s bv br bo bl B p M vI vL vO vB vC vG I L O D N G) (hg : u.grownBy u' vL.ownBlock) (hO : OwnK u' B 59 3 vL' (L'.map tri)) :
    AS w (u'.setCell ⟨bo, 2, none⟩ vL') hd s bv br bo bl B p M vI vL' vO vB vC vG I L' O D N G := by
  have k : Kp (fun j => vL.ownBlock = some j) u u' := (Kp.refl _ u).grown hg (fun j hj _ => hj)
  have hls := h.ls.putL k hO
  have hh := h.hi
  have hn := h.ne
  have q : ∀ j, j < B → ¬ vL.ownBlock = some j := fun j hj hs => by have := (h.ls.l.lt j hs).1; omega
  have k2 := Kp.set u' ⟨bo, 2, none⟩ vL'
  refine ⟨(h.l.kp k (q _ hh.1) (q _ (by omega)) (q _ hh.2.1) (q _ hh.2.2.2.1)).kp k2 (by simp; omega) (by simp; omega) (by simp; omega) (by simp; omega), (h.r.kp k (q _ (by omega))).kp k2 (by simp; omega), (h.a.kp k (q _ (by omega))).kp k2 (by simp; omega), (h.e.kp k (q _ (by omega))).kp k2 (by simp; omega), (h.c.kp k (q _ hh.2.2.1)).set_same 2 vL', hls.low k2 (fun j e => by have e2 : j = bo := e; omega), hn,
    ⟨hh.1, hh.2.1, hh.2.2.1, hh.2.2.2.1, by rw [show (u'.setCell ⟨bo, 2, none⟩ vL').heap.size = u'.heap.size from by simp [World.setCell]]; exact Nat.le_trans hh.2.2.2.2 k.size⟩, (h.kp.trans k (fun j hj hs => by have := (h.ls.l.lt j hs).1; omega)).trans k2 (fun j hj e => by have e2 : j = bo := e; omega)⟩
theorem AS.grownG {vG' : Value} {G' : List (Int × Int × Int)} (h : AS w u hd s bv br bo bl B p M vI vL vO vB vC vG I L O D N G) (hg : u.grownBy u' vG.ownBlock) (hO : OwnK u' B 61 3 vG' (G'.map tri)) :
    AS w (u'.setCell ⟨bo, 6, none⟩ vG') hd s bv br bo bl B p M vI vL vO vB vC vG' I L O D N G' := by
  have k : Kp (fun j => vG.ownBlock = some j) u u' := (Kp.refl _ u).grown hg (fun j hj _ => hj)
  have hls := h.ls.putG k hO
  have hh := h.hi
  have hn := h.ne
  have q : ∀ j, j < B → ¬ vG.ownBlock = some j := fun j hj hs => by have := (h.ls.g.lt j hs).1; omega
  have k2 := Kp.set u' ⟨bo, 6, none⟩ vG'
  refine ⟨(h.l.kp k (q _ hh.1) (q _ (by omega)) (q _ hh.2.1) (q _ hh.2.2.2.1)).kp k2 (by simp; omega) (by simp; omega) (by simp; omega) (by simp; omega), (h.r.kp k (q _ (by omega))).kp k2 (by simp; omega), (h.a.kp k (q _ (by omega))).kp k2 (by simp; omega), (h.e.kp k (q _ (by omega))).kp k2 (by simp; omega), (h.c.kp k (q _ hh.2.2.1)).set_same 6 vG', hls.low k2 (fun j e => by have e2 : j = bo := e; omega), hn,
    ⟨hh.1, hh.2.1, hh.2.2.1, hh.2.2.2.1, by rw [show (u'.setCell ⟨bo, 6, none⟩ vG').heap.size = u'.heap.size from by simp [World.setCell]]; exact Nat.le_trans hh.2.2.2.2 k.size⟩, (h.kp.trans k (fun j hj hs => by have := (h.ls.g.lt j hs).1; omega)).trans k2 (fun j hj e => by have e2 : j = bo := e; omega)⟩

/-- its cells -/
theorem AS.cells (h : AS w u hd s bv br bo bl B p M vI vL vO vB vC vG I L O D N G) : (u.cell? ⟨bl, 0, none⟩ = some (.func (Fn.func 67) #[] #[.pointer (some ⟨bv, 0, none⟩), .pointer (some ⟨w.heap.size, 0, none⟩)])) ∧
    u.cell? ⟨bo, 0, none⟩ = some (.int .i64 M) ∧ u.cell? ⟨bo, 1, none⟩ = some vI ∧ u.cell? ⟨bo, 2, none⟩ = some vL ∧ u.cell? ⟨bo, 3, none⟩ = some vO ∧ u.cell? ⟨bo, 4, none⟩ = some vB ∧ u.cell? ⟨bo, 5, none⟩ = some vC ∧ u.cell? ⟨bo, 6, none⟩ = some vG ∧ ∀ i, u.frozen? ⟨bo, i, none⟩ = false :=
  ⟨h.l.l.cells1.1, h.c.cell rfl, h.c.cell rfl, h.c.cell rfl, h.c.cell rfl, h.c.cell rfl, h.c.cell rfl, h.c.cell rfl, fun i => Blk.free h.c i⟩
end

theorem asc_end {r : Circ × Nat × Nat} {w w' : World} {tmps : Array Value} (ht6 : tmps[6]? = some (.pointer (some ⟨w.heap.size + 1, 0, none⟩))) (ht7 : tmps[7]? = some (.pointer (some ⟨w.heap.size + 1 + 1, 0, none⟩))) (ht8 : tmps[8]? = some (.pointer (some ⟨w.heap.size + 1 + 1 + 1, 0, none⟩)))
    (h0 : Blk w' (w.heap.size + 1) zc9 27) (hA : Blk w' (w.heap.size + 1 + 1) #[.int .i64 (r.2.1 : Nat)] 3) (hE : Blk w' (w.heap.size + 1 + 1 + 1) #[.int .i64 (r.2.2 : Nat)] 28) (hne : r.2.2 ≠ 0) (hk : Kp (fun _ => False) w w') :
    Leaves Tryz.prog Tryz.f33 tmps (fun o w' => BinReadP r w o w') [] .returning w' := by
  unfold zc9 at h0
  obtain ⟨z0, z1, z2, z3, z4, z5, z6, z7, z8⟩ := h0.cells9
  have a0 := hA.cells1.1
  have e0 := hE.cells1.1
  refine ⟨.tuple #[.agg zc9, .int .i64 (r.2.1 : Nat), .int .i64 (r.2.2 : Nat)], ?_, ⟨.inl ⟨hne, rfl⟩, hk⟩⟩
  simp [results, Tryz.results33, go_sem, ht6, ht7, ht8, z0, z1, z2, z3, z4, z5, z6, z7, z8, a0, e0, zc9]

/-- the end behind a stop -/
theorem asc_stop {r : Circ × Nat × Nat} {w wz w'' : World} {P E : Nat} {tmps : Array Value} (hr : r.2 = (P, E)) (hne : E ≠ 0) (ht6 : tmps[6]? = some (.pointer (some ⟨w.heap.size + 1, 0, none⟩))) (ht7 : tmps[7]? = some (.pointer (some ⟨w.heap.size + 1 + 1, 0, none⟩))) (ht8 : tmps[8]? = some (.pointer (some ⟨w.heap.size + 1 + 1 + 1, 0, none⟩)))
    (h0 : Blk wz (w.heap.size + 1) zc9 27) (hk : Kp (fun _ => False) w wz) (hA : Blk w'' (w.heap.size + 1 + 1) #[.int .i64 (P : Nat)] 3) (hE : Blk w'' (w.heap.size + 1 + 1 + 1) #[.int .i64 (E : Nat)] 28) (hK : Kp (fun j => j = w.heap.size + 1 + 1 ∨ j = w.heap.size + 1 + 1 + 1) wz w'') (v : Value) :
    Leaves Tryz.prog Tryz.f33 tmps (fun o w' => BinReadP r w o w') [] (settle (.panicking ({ v := v, recovered := true } :: []))) w'' := by
  obtain ⟨e1, e2⟩ : P = r.2.1 ∧ E = r.2.2 := by rw [hr]; exact ⟨rfl, rfl⟩
  subst e1 e2
  exact asc_end (r := r) ht6 ht7 ht8 (h0.kp hK (by omega)) hA hE hne (hk.trans hK (fun i hi h => by omega))

end Go.Proofs.YtckmdcmkjmpiaaaGreatDoor

/-
  A circuit's lines in letters: what is read, step by step.
-/
namespace Go.Proofs.YtckmdcmkjmpiaaaGreatDoor
open Go.RowKit

section
variable {s : ByteArray} {top : Int} {j : Nat} {L : List (Int × Int × Int)} {st t t2 t3 : Nat × Nat} {n c n2 c2 n3 c3 : Nat}
theorem rdLatsA_s1 (h1 : rdL s top ok32 st = (n, c, t)) (h : t.2 ≠ 0) : (rdLatsA s top (j + 1) L st).2 = t := by
  unfold rdLatsA
  rw [h1]
  simp only
  rw [rdL_stay (ok := okB) h]
  simp only
  rw [if_pos h]
theorem rdLatsA_s2 (h1 : rdL s top ok32 st = (n, c, t)) (h2 : rdL s top okB t = (n2, c2, t2)) (h : t2.2 ≠ 0) : (rdLatsA s top (j + 1) L st).2 = t2 := by
  unfold rdLatsA
  rw [h1]
  simp only
  rw [h2]
  simp only
  rw [if_pos h]
theorem rdLatsA_s3 (h1 : rdL s top ok32 st = (n, c, t)) (h2 : rdL s top okB t = (n2, c2, t2)) (h : t2.2 = 0) (hc : c2 = 32) (h3 : rdL s top ok10 t2 = (n3, c3, t3)) (he : t3.2 ≠ 0) : (rdLatsA s top (j + 1) L st).2 = t3 := by
  unfold rdLatsA
  rw [h1]
  simp only
  rw [h2]
  simp only
  rw [if_neg (by simp [h]), if_pos hc, h3]
  simp only
  rw [if_pos he]
theorem rdLatsA_g3 (h1 : rdL s top ok32 st = (n, c, t)) (h2 : rdL s top okB t = (n2, c2, t2)) (h : t2.2 = 0) (hc : c2 = 32) (h3 : rdL s top ok10 t2 = (n3, c3, t3)) (he : t3.2 = 0) : rdLatsA s top (j + 1) L st = rdLatsA s top j (L ++ [((n : Int), (n2 : Int), (n3 : Int))]) t3 := by
  show (if _ then _ else _) = _
  rw [h1]
  simp only
  rw [h2]
  simp only
  rw [if_neg (by simp [h]), if_pos hc, h3]
  simp only
  rw [if_neg (by simp [he])]
theorem rdLatsA_g2 (h1 : rdL s top ok32 st = (n, c, t)) (h2 : rdL s top okB t = (n2, c2, t2)) (h : t2.2 = 0) (hc : c2 ≠ 32) : rdLatsA s top (j + 1) L st = rdLatsA s top j (L ++ [((n : Int), (n2 : Int), 0)]) t2 := by
  show (if _ then _ else _) = _
  rw [h1]
  simp only
  rw [h2]
  simp only
  rw [if_neg (by simp [h]), if_neg hc]
theorem rdGatesA_s1 (h1 : rdL s top ok32 st = (n, c, t)) (h : t.2 ≠ 0) : (rdGatesA s top (j + 1) L st).2 = t := by
  unfold rdGatesA
  rw [h1]
  simp only
  rw [rdL_stay (ok := ok32) h]
  simp only
  rw [rdL_stay (ok := ok10) h]
  simp only
  rw [if_pos h]
theorem rdGatesA_s2 (h1 : rdL s top ok32 st = (n, c, t)) (h2 : rdL s top ok32 t = (n2, c2, t2)) (h : t2.2 ≠ 0) : (rdGatesA s top (j + 1) L st).2 = t2 := by
  unfold rdGatesA
  rw [h1]
  simp only
  rw [h2]
  simp only
  rw [rdL_stay (ok := ok10) h]
  simp only
  rw [if_pos h]
theorem rdGatesA_s3 (h1 : rdL s top ok32 st = (n, c, t)) (h2 : rdL s top ok32 t = (n2, c2, t2)) (h3 : rdL s top ok10 t2 = (n3, c3, t3)) (he : t3.2 ≠ 0) : (rdGatesA s top (j + 1) L st).2 = t3 := by
  unfold rdGatesA
  rw [h1]
  simp only
  rw [h2]
  simp only
  rw [h3]
  simp only
  rw [if_pos he]
theorem rdGatesA_g (h1 : rdL s top ok32 st = (n, c, t)) (h2 : rdL s top ok32 t = (n2, c2, t2)) (h3 : rdL s top ok10 t2 = (n3, c3, t3)) (he : t3.2 = 0) : rdGatesA s top (j + 1) L st = rdGatesA s top j (L ++ [((n : Int), (n2 : Int), (n3 : Int))]) t3 := by
  show (if _ then _ else _) = _
  rw [h1]
  simp only
  rw [h2]
  simp only
  rw [h3]
  simp only
  rw [if_neg (by simp [he])]
end

section
variable {s : ByteArray} {M : Int} {nI nL nO nA nB nC : Nat} {st t t1 t2 t3 t4 t5 : Nat × Nat} {I O D N : List Int} {L G : List (Int × Int × Int)}
theorem rdA_sI (h : (rdLits s (2 * M + 1) nI [] st).2 = t) (ht : t.2 ≠ 0) : (rdA s M nI nL nO nA nB nC st).2 = t := by
  unfold rdA
  simp only [h]
  rw [rdLatsA_stay ht, rdLits_stay (st := t) ht, rdLits_stay (st := t) ht, rdLits_stay (st := t) ht, rdGatesA_stay ht]
theorem rdA_sL (hI : rdLits s (2 * M + 1) nI [] st = (I, t1)) (h : (rdLatsA s (2 * M + 1) nL [] t1).2 = t) (ht : t.2 ≠ 0) : (rdA s M nI nL nO nA nB nC st).2 = t := by
  unfold rdA
  simp only [hI, h]
  rw [rdLits_stay (st := t) ht, rdLits_stay (st := t) ht, rdLits_stay (st := t) ht, rdGatesA_stay ht]
theorem rdA_sO (hI : rdLits s (2 * M + 1) nI [] st = (I, t1)) (hL : rdLatsA s (2 * M + 1) nL [] t1 = (L, t2)) (h : (rdLits s (2 * M + 1) nO [] t2).2 = t) (ht : t.2 ≠ 0) : (rdA s M nI nL nO nA nB nC st).2 = t := by
  unfold rdA
  simp only [hI, hL, h]
  rw [rdLits_stay (st := t) ht, rdLits_stay (st := t) ht, rdGatesA_stay ht]
theorem rdA_sB (hI : rdLits s (2 * M + 1) nI [] st = (I, t1)) (hL : rdLatsA s (2 * M + 1) nL [] t1 = (L, t2)) (hO : rdLits s (2 * M + 1) nO [] t2 = (O, t3)) (h : (rdLits s (2 * M + 1) nB [] t3).2 = t) (ht : t.2 ≠ 0) : (rdA s M nI nL nO nA nB nC st).2 = t := by
  unfold rdA
  simp only [hI, hL, hO, h]
  rw [rdLits_stay (st := t) ht, rdGatesA_stay ht]
theorem rdA_sC (hI : rdLits s (2 * M + 1) nI [] st = (I, t1)) (hL : rdLatsA s (2 * M + 1) nL [] t1 = (L, t2)) (hO : rdLits s (2 * M + 1) nO [] t2 = (O, t3)) (hD : rdLits s (2 * M + 1) nB [] t3 = (D, t4)) (h : (rdLits s (2 * M + 1) nC [] t4).2 = t) (ht : t.2 ≠ 0) : (rdA s M nI nL nO nA nB nC st).2 = t := by
  unfold rdA
  simp only [hI, hL, hO, hD, h]
  rw [rdGatesA_stay ht]
theorem rdA_sG (hI : rdLits s (2 * M + 1) nI [] st = (I, t1)) (hL : rdLatsA s (2 * M + 1) nL [] t1 = (L, t2)) (hO : rdLits s (2 * M + 1) nO [] t2 = (O, t3)) (hD : rdLits s (2 * M + 1) nB [] t3 = (D, t4)) (hN : rdLits s (2 * M + 1) nC [] t4 = (N, t5)) (h : (rdGatesA s (2 * M + 1) nA [] t5).2 = t) : (rdA s M nI nL nO nA nB nC st).2 = t := by
  unfold rdA
  simp only [hI, hL, hO, hD, hN, h]
theorem rdA_fin (hI : rdLits s (2 * M + 1) nI [] st = (I, t1)) (hL : rdLatsA s (2 * M + 1) nL [] t1 = (L, t2)) (hO : rdLits s (2 * M + 1) nO [] t2 = (O, t3)) (hD : rdLits s (2 * M + 1) nB [] t3 = (D, t4)) (hN : rdLits s (2 * M + 1) nC [] t4 = (N, t5)) (h : rdGatesA s (2 * M + 1) nA [] t5 = (G, t)) : rdA s M nI nL nO nA nB nC st = (⟨M, I, L, O, D, N, G⟩, t) := by
  unfold rdA
  simp only [hI, hL, hO, hD, hN, h]
end

end Go.Proofs.YtckmdcmkjmpiaaaGreatDoor

/-
  The reference's lines of literals: latchetref13, latchetref14. (Printed by mkascrefl.py.)
-/
namespace Go.Proofs.YtckmdcmkjmpiaaaGreatDoor
open Go.RowKit

section
variable {s : ByteArray} {top : Int} {ok : Nat → Bool} {st t : Nat × Nat} {n c j : Nat} {L : List Int}
theorem rdS_c (h : rdS s ok st = (c, t)) : (t.2 ≠ 0 → c = 0) ∧ (t.2 = 0 → ok c = true) := by
  unfold rdS at h
  by_cases c1 : st.2 ≠ 0
  · rw [if_pos c1] at h
    obtain ⟨rfl, rfl⟩ := Prod.mk.inj h
    exact ⟨fun _ => rfl, fun h0 => absurd h0 c1⟩
  rw [if_neg c1] at h
  by_cases c2 : st.1 = s.size
  · rw [if_pos c2] at h
    obtain ⟨rfl, rfl⟩ := Prod.mk.inj h
    exact ⟨fun _ => rfl, fun h0 => absurd h0 (by simp)⟩
  rw [if_neg c2] at h
  by_cases c3 : ok (bt s st.1) = false
  · rw [if_pos c3] at h
    obtain ⟨rfl, rfl⟩ := Prod.mk.inj h
    exact ⟨fun _ => rfl, fun h0 => absurd h0 (by simp)⟩
  · rw [if_neg c3] at h
    obtain ⟨rfl, rfl⟩ := Prod.mk.inj h
    exact ⟨fun h0 => absurd rfl h0, fun _ => by simpa using c3⟩
theorem rdL_c (h : rdL s top ok st = (n, c, t)) : (t.2 ≠ 0 → c = 0) ∧ (t.2 = 0 → ok c = true) := rdS_c (Prod.mk.inj h).2
theorem rdLits_st (h : rdL s top ok10 st = (n, c, t)) (ht : t.2 ≠ 0) : (rdLits s top (j + 1) L st).2 = t := by
  have h2 : rdS s (fun c => c == 10) (rdD s top st).2 = (c, t) := (Prod.mk.inj h).2
  have hc := (rdL_c h).1 ht
  unfold rdLits
  rw [h2, if_pos (by simp [hc])]
theorem rdLits_go (h : rdL s top ok10 st = (n, c, t)) (ht : t.2 = 0) : rdLits s top (j + 1) L st = rdLits s top j (L ++ [(n : Int)]) t := by
  have h2 : rdS s (fun c => c == 10) (rdD s top st).2 = (c, t) := (Prod.mk.inj h).2
  have h1 : (rdD s top st).1 = n := (Prod.mk.inj h).1
  have hc : ok10 c = true := (rdL_c h).2 ht
  have hc2 : c = 10 := by simpa [ok10] using hc
  show (if _ then _ else _) = _
  rw [h2, h1, if_neg (by simp [hc2])]
end

theorem PL.kp {u u' : World} {b : Nat} {s : ByteArray} {st : Nat × Nat} {S : Nat → Prop} (h : PL u b s st) (k : Kp S u u') (hb : ¬ S b) : PL u' b s st := Blk.kp h k hb
theorem ok10_xy : ∀ c, ok10 c = (c == 10 || c == 10) := fun c => by unfold ok10; cases (c == 10) <;> rfl
theorem ok32_xy : ∀ c, ok32 c = (c == 32 || c == 32) := fun c => by unfold ok32; cases (c == 32) <;> rfl
theorem okB_xy : ∀ c, okB c = (c == 32 || c == 10) := fun c => rfl

/-- what lits ends with -/
def RLitsP (s : ByteArray) (b : Nat) (r : List Int × Nat × Nat) (w : World) (o : Ending) (w' : World) : Prop :=
  ∃ v L, o = .returned v ∧ Own w' w.heap.size 3 v (iv L) ∧ PL w' b s r.2 ∧ Kp (fun j => j = b) w w' ∧ (r.2.2 = 0 → L = r.1)
/-- where the reading stands after some lines -/
def AtL (s : ByteArray) (top : Int) (m j : Nat) (st0 : Nat × Nat) (L : List Int) (st : Nat × Nat) : Prop :=
  (st.2 = 0 ∧ rdLits s top m [] st0 = rdLits s top j L st) ∨ (st.2 ≠ 0 ∧ (rdLits s top m [] st0).2 = st)

set_option maxRecDepth 100000 in
set_option maxHeartbeats 4000000 in
theorem ref13_lits (s : ByteArray) (b many : Nat) (st : Nat × Nat) (top : Int) (w : World) (hs : s.size ≤ 1000000) (hp : st.1 ≤ s.size) (hm : many ≤ 20000000) (hB : PL w b s st) :
    Calls Tryz.prog 44 #[.pointer (some ⟨b, 0, none⟩), .int .i64 top, .int .i64 (many : Nat)] w (RLitsP s b (rdLits s top many [] st) w) := by
  have HLit := Lib.hid (fun (q e : Nat) (u : World) (hq : q ≤ s.size) (hL : PL u b s (q, e)) => ref13_Lit s b q e 10 10 top ok10 u hs hq ok10_xy hL)
  have HB := Lib.hid hB
  have hbl : b < w.heap.size := Blk.lt hB
  have HBL := Lib.hid hbl
  have HBa := Lib.hid (hB.kp ((Kp.refl (fun _ => False) w).alloc (.cells #[] 3)) (fun h => h))
  have HNa := Lib.hid (Blk.new w #[] 3)
  have wint := wint_info
  have HM := Lib.hid hm
  clear hB hs hbl hm
  go_enter Tryz.func44, Tryz.ntmps44
  go_wp2_with fail
  go_loopw [7, 8] (fun v7 v8 wr => ∃ (k : Nat) (L : List Int) (q e : Nat), v8 = .int .i64 k ∧ k ≤ many ∧ L.length = k ∧ q ≤ s.size ∧ PL wr b s (q, e) ∧ Own wr w.heap.size 3 v7 (iv L) ∧ Kp (fun j => j = b) w wr ∧ AtL s top many (many - k) st L (q, e)) (fun _ v8 _ => many - (intOf v8).toNat)
  case atStart =>
    refine ⟨0, [], st.1, st.2, rfl, by omega, rfl, hp, HBa.out, own_of (cs := []) HNa.out (Nat.le_refl _) (by simp), (Kp.refl _ w).alloc _, ?_⟩
    by_cases h0 : st.2 = 0
    · exact .inl ⟨h0, rfl⟩
    · exact .inr ⟨h0, rdLits_stay h0⟩
  case round =>
    obtain ⟨k, L, q, e, rfl, hk, hLn, hq, hP, hO, hK, hAt⟩ := hrel
    obtain ⟨wp, rfl⟩ : ∃ wp : World, wp = wr := ⟨_, rfl⟩
    obtain ⟨la, lc, el, -⟩ := hO.form
    rw [iv_length, hLn] at el
    subst el
    have HO := Lib.hid hO
    have HK := Lib.hid hK
    have HLn := Lib.hid hLn
    have HAt := Lib.hid hAt
    have HQ := Lib.hid hq
    have l2 : wp.cell? ⟨b, 2, none⟩ = some (.int .i64 (e : Nat)) := Blk.cell hP rfl
    have HP := Lib.hid hP
    have hbk : many ≤ 20000000 := HM.out
    clear hO hK hLn hP hAt hq
    by_cases hlt : k < many
    · by_cases he : e = 0
      · subst he
        obtain ⟨n, c, q2, e2, hr⟩ : ∃ n c z e, rdL s top ok10 (q, 0) = (n, c, z, e) := ⟨_, _, _, _, rfl⟩
        have HCall := Lib.hid (HLit.out q 0 wp HQ.out HP.out)
        rw [hr] at HCall
        unfold litP at HCall
        simp only at HCall
        obtain ⟨n9, hn9⟩ : ∃ n9, (if e2 = 0 then n else 0) = n9 := ⟨_, rfl⟩
        rw [hn9] at HCall
        obtain ⟨j, hj⟩ : ∃ j, many - k = j + 1 := ⟨many - k - 1, by omega⟩
        have hA1 := HAt.out
        rw [hj] at hA1
        have HJ := Lib.hid (show many - (k + 1) = j by omega)
        have HQ2 := Lib.hid (show q2 ≤ s.size by have := rdL_le (s := s) (top := top) (ok := ok10) (st := (q, 0)) HQ.out; rw [hr] at this; exact this)
        have HA2 := Lib.hid (show AtL s top many j st (L ++ [(n9 : Int)]) (q2, e2) by
          have hA : rdLits s top many [] st = rdLits s top (j + 1) L (q, 0) := by
            rcases hA1 with ⟨_, h⟩ | ⟨h, _⟩
            · exact h
            · exact absurd rfl h
          by_cases h2 : e2 = 0
          · rw [if_pos h2] at hn9
            subst hn9
            exact .inl ⟨h2, by rw [hA]; exact rdLits_go hr h2⟩
          · exact .inr ⟨h2, by rw [hA]; exact rdLits_st hr h2⟩)
        clear hr hn9 hj hA1 HAt
        go_wp2_with fail
        refine HCall.out.mono ?_
        rintro o w1 ⟨rfl, hP1, hK1⟩
        have HK1 := Lib.hid (HK.out.trans hK1 (fun _ _ h => h))
        have hO1 := HO.out.kp hK1 (fun j hj e => by have := (HO.out.lt j hj).1; have e2 : j = b := e; have := HBL.out; omega)
        have HOw := Lib.hid (hO1.alloc (.cells #[.int .i64 (n9 : Int)] 3))
        have HNew := Lib.hid (Blk.new w1 #[.int .i64 (n9 : Int)] 3)
        have HP1 := Lib.hid (hP1.kp ((Kp.refl (fun _ => False) w1).alloc (.cells #[.int .i64 (n9 : Int)] 3)) (fun h => h))
        have hws : w.heap.size ≤ w1.heap.size := HK1.out.size
        clear hO1 hP1 hK1 HCall l2 HO
        go_wp2_with (at_builtin; refine wpList_append1_at rfl _ _ 22 3 rfl Tryz.underlying22 wint rfl HOw.out rfl ⟨w1.heap.size, 0, none⟩ (.int .i64 (n9 : Int)) rfl (HNew.out.cell rfl) rfl ?d1 ?d2 ?d3 ?_)
        case d1 => rw [iv_length, HLn.out]; omega
        case d2 => rw [iv_length, HLn.out]; unfold maxLen; omega
        case d3 => simp; omega
        intro v' w3 hO3 hg3 hat3
        have hkg := (Kp.refl (fun j => (Value.slice la k lc).ownBlock = some j) _).grown hg3 (fun j hj _ => hj)
        have hof := fun j (h : (Value.slice la k lc).ownBlock = some j) => (HOw.out.lt j h).1
        have HF := Lib.hid (show PL w3 b s (q2, e2) ∧ Own w3 w.heap.size 3 v' (iv (L ++ [(n9 : Int)])) ∧ Kp (fun j => j = b) w w3 from ⟨HP1.out.kp hkg (fun e => by have := hof _ e; have := HBL.out; omega), by rw [iv_append]; exact hO3, (HK1.out.alloc _).trans hkg (fun j hj e => by have := hof _ e; omega)⟩)
        clear hO3 hg3 hat3 hkg hof HNew HOw
        go_wp2_with fail
        go_roundw
        case rel => exact ⟨k + 1, L ++ [(n9 : Int)], q2, e2, by go_num, by omega, by rw [List.length_append, HLn.out]; rfl, HQ2.out, HF.out.1, HF.out.2.1, HF.out.2.2, by rw [HJ.out]; exact HA2.out⟩
        case measure => simp [intOf]; omega
      · have t1 : ((e : Int) == 0) = false := by rw [beq_eq_false_iff_ne]; omega
        have HF := Lib.hid (show RLitsP s b (rdLits s top many [] st) w (.returned (.slice la k lc)) wp from by
          rcases HAt.out with ⟨h, _⟩ | ⟨_, h⟩
          · exact absurd h he
          · exact ⟨_, L, rfl, HO.out, by rw [h]; exact HP.out, HK.out, fun h0 => absurd (by rw [h] at h0; exact h0) he⟩)
        clear he HAt
        go_wp2_with fail
        go_ret
        exact HF.out
    · obtain rfl : k = many := by omega
      have HF := Lib.hid (show RLitsP s b (rdLits s top k [] st) w (.returned (.slice la k lc)) wp from by
        rcases HAt.out with ⟨_, h⟩ | ⟨h0, h⟩
        · rw [Nat.sub_self] at h
          exact ⟨_, L, rfl, HO.out, by rw [h]; exact HP.out, HK.out, fun _ => by rw [h]; rfl⟩
        · exact ⟨_, L, rfl, HO.out, by rw [h]; exact HP.out, HK.out, fun h9 => absurd (by rw [h] at h9; exact h9) h0⟩)
      clear HAt
      go_wp2_with fail
      go_ret
      exact HF.out

set_option maxRecDepth 100000 in
set_option maxHeartbeats 4000000 in
theorem ref14_lits (s : ByteArray) (b many : Nat) (st : Nat × Nat) (top : Int) (w : World) (hs : s.size ≤ 1000000) (hp : st.1 ≤ s.size) (hm : many ≤ 20000000) (hB : PL w b s st) :
    Calls Tryz.prog 46 #[.pointer (some ⟨b, 0, none⟩), .int .i64 top, .int .i64 (many : Nat)] w (RLitsP s b (rdLits s top many [] st) w) := by
  have HLit := Lib.hid (fun (q e : Nat) (u : World) (hq : q ≤ s.size) (hL : PL u b s (q, e)) => ref13_Lit s b q e 10 10 top ok10 u hs hq ok10_xy hL)
  have HB := Lib.hid hB
  have hbl : b < w.heap.size := Blk.lt hB
  have HBL := Lib.hid hbl
  have HBa := Lib.hid (hB.kp ((Kp.refl (fun _ => False) w).alloc (.cells #[] 3)) (fun h => h))
  have HNa := Lib.hid (Blk.new w #[] 3)
  have wint := wint_info
  have HM := Lib.hid hm
  clear hB hs hbl hm
  go_enter Tryz.func46, Tryz.ntmps46
  go_wp2_with fail
  go_loopw [7, 8] (fun v7 v8 wr => ∃ (k : Nat) (L : List Int) (q e : Nat), v8 = .int .i64 k ∧ k ≤ many ∧ L.length = k ∧ q ≤ s.size ∧ PL wr b s (q, e) ∧ Own wr w.heap.size 3 v7 (iv L) ∧ Kp (fun j => j = b) w wr ∧ AtL s top many (many - k) st L (q, e)) (fun _ v8 _ => many - (intOf v8).toNat)
  case atStart =>
    refine ⟨0, [], st.1, st.2, rfl, by omega, rfl, hp, HBa.out, own_of (cs := []) HNa.out (Nat.le_refl _) (by simp), (Kp.refl _ w).alloc _, ?_⟩
    by_cases h0 : st.2 = 0
    · exact .inl ⟨h0, rfl⟩
    · exact .inr ⟨h0, rdLits_stay h0⟩
  case round =>
    obtain ⟨k, L, q, e, rfl, hk, hLn, hq, hP, hO, hK, hAt⟩ := hrel
    obtain ⟨wp, rfl⟩ : ∃ wp : World, wp = wr := ⟨_, rfl⟩
    obtain ⟨la, lc, el, -⟩ := hO.form
    rw [iv_length, hLn] at el
    subst el
    have HO := Lib.hid hO
    have HK := Lib.hid hK
    have HLn := Lib.hid hLn
    have HAt := Lib.hid hAt
    have HQ := Lib.hid hq
    have l2 : wp.cell? ⟨b, 2, none⟩ = some (.int .i64 (e : Nat)) := Blk.cell hP rfl
    have HP := Lib.hid hP
    have hbk : many ≤ 20000000 := HM.out
    clear hO hK hLn hP hAt hq
    by_cases hlt : k < many
    · by_cases he : e = 0
      · subst he
        obtain ⟨n, c, q2, e2, hr⟩ : ∃ n c z e, rdL s top ok10 (q, 0) = (n, c, z, e) := ⟨_, _, _, _, rfl⟩
        have HCall := Lib.hid (HLit.out q 0 wp HQ.out HP.out)
        rw [hr] at HCall
        unfold litP at HCall
        simp only at HCall
        obtain ⟨n9, hn9⟩ : ∃ n9, (if e2 = 0 then n else 0) = n9 := ⟨_, rfl⟩
        rw [hn9] at HCall
        obtain ⟨j, hj⟩ : ∃ j, many - k = j + 1 := ⟨many - k - 1, by omega⟩
        have hA1 := HAt.out
        rw [hj] at hA1
        have HJ := Lib.hid (show many - (k + 1) = j by omega)
        have HQ2 := Lib.hid (show q2 ≤ s.size by have := rdL_le (s := s) (top := top) (ok := ok10) (st := (q, 0)) HQ.out; rw [hr] at this; exact this)
        have HA2 := Lib.hid (show AtL s top many j st (L ++ [(n9 : Int)]) (q2, e2) by
          have hA : rdLits s top many [] st = rdLits s top (j + 1) L (q, 0) := by
            rcases hA1 with ⟨_, h⟩ | ⟨h, _⟩
            · exact h
            · exact absurd rfl h
          by_cases h2 : e2 = 0
          · rw [if_pos h2] at hn9
            subst hn9
            exact .inl ⟨h2, by rw [hA]; exact rdLits_go hr h2⟩
          · exact .inr ⟨h2, by rw [hA]; exact rdLits_st hr h2⟩)
        clear hr hn9 hj hA1 HAt
        go_wp2_with fail
        refine HCall.out.mono ?_
        rintro o w1 ⟨rfl, hP1, hK1⟩
        have HK1 := Lib.hid (HK.out.trans hK1 (fun _ _ h => h))
        have hO1 := HO.out.kp hK1 (fun j hj e => by have := (HO.out.lt j hj).1; have e2 : j = b := e; have := HBL.out; omega)
        have HOw := Lib.hid (hO1.alloc (.cells #[.int .i64 (n9 : Int)] 3))
        have HNew := Lib.hid (Blk.new w1 #[.int .i64 (n9 : Int)] 3)
        have HP1 := Lib.hid (hP1.kp ((Kp.refl (fun _ => False) w1).alloc (.cells #[.int .i64 (n9 : Int)] 3)) (fun h => h))
        have hws : w.heap.size ≤ w1.heap.size := HK1.out.size
        clear hO1 hP1 hK1 HCall l2 HO
        go_wp2_with (at_builtin; refine wpList_append1_at rfl _ _ 22 3 rfl Tryz.underlying22 wint rfl HOw.out rfl ⟨w1.heap.size, 0, none⟩ (.int .i64 (n9 : Int)) rfl (HNew.out.cell rfl) rfl ?d1 ?d2 ?d3 ?_)
        case d1 => rw [iv_length, HLn.out]; omega
        case d2 => rw [iv_length, HLn.out]; unfold maxLen; omega
        case d3 => simp; omega
        intro v' w3 hO3 hg3 hat3
        have hkg := (Kp.refl (fun j => (Value.slice la k lc).ownBlock = some j) _).grown hg3 (fun j hj _ => hj)
        have hof := fun j (h : (Value.slice la k lc).ownBlock = some j) => (HOw.out.lt j h).1
        have HF := Lib.hid (show PL w3 b s (q2, e2) ∧ Own w3 w.heap.size 3 v' (iv (L ++ [(n9 : Int)])) ∧ Kp (fun j => j = b) w w3 from ⟨HP1.out.kp hkg (fun e => by have := hof _ e; have := HBL.out; omega), by rw [iv_append]; exact hO3, (HK1.out.alloc _).trans hkg (fun j hj e => by have := hof _ e; omega)⟩)
        clear hO3 hg3 hat3 hkg hof HNew HOw
        go_wp2_with fail
        go_roundw
        case rel => exact ⟨k + 1, L ++ [(n9 : Int)], q2, e2, by go_num, by omega, by rw [List.length_append, HLn.out]; rfl, HQ2.out, HF.out.1, HF.out.2.1, HF.out.2.2, by rw [HJ.out]; exact HA2.out⟩
        case measure => simp [intOf]; omega
      · have t1 : ((e : Int) == 0) = false := by rw [beq_eq_false_iff_ne]; omega
        have HF := Lib.hid (show RLitsP s b (rdLits s top many [] st) w (.returned (.slice la k lc)) wp from by
          rcases HAt.out with ⟨h, _⟩ | ⟨_, h⟩
          · exact absurd h he
          · exact ⟨_, L, rfl, HO.out, by rw [h]; exact HP.out, HK.out, fun h0 => absurd (by rw [h] at h0; exact h0) he⟩)
        clear he HAt
        go_wp2_with fail
        go_ret
        exact HF.out
    · obtain rfl : k = many := by omega
      have HF := Lib.hid (show RLitsP s b (rdLits s top k [] st) w (.returned (.slice la k lc)) wp from by
        rcases HAt.out with ⟨_, h⟩ | ⟨h0, h⟩
        · rw [Nat.sub_self] at h
          exact ⟨_, L, rfl, HO.out, by rw [h]; exact HP.out, HK.out, fun _ => by rw [h]; rfl⟩
        · exact ⟨_, L, rfl, HO.out, by rw [h]; exact HP.out, HK.out, fun h9 => absurd (by rw [h] at h9; exact h9) h0⟩)
      clear HAt
      go_wp2_with fail
      go_ret
      exact HF.out

end Go.Proofs.YtckmdcmkjmpiaaaGreatDoor

/-
  latchetref13.Read, latchetref14.Read: what they keep on their way.
-/
namespace Go.Proofs.YtckmdcmkjmpiaaaGreatDoor
open Go.RowKit

/-- all that the reference's Read keeps -/
structure RS (w u : World) (hd : Array Value) (s : ByteArray) (bp bo B : Nat) (st : Nat × Nat) (M : Int) (vI vL vO vB vC vG : Value) (I : List Int) (L : List (Int × Int × Int)) (O D N : List Int) (G : List (Int × Int × Int)) : Prop where
  h : Blk u w.heap.size hd 42
  r : Blk u (w.heap.size + 1) zc9 27
  p : PL u bp s st
  c : Blk u bo #[.int .i64 M, vI, vL, vO, vB, vC, vG, .slice none 0 0, .string ⟨#[]⟩] 27
  ls : LsO u B vI vL vO vB vC vG I L O D N G
  ne : bo ≠ bp ∧ w.heap.size + 1 < bp ∧ w.heap.size + 1 < bo
  hi : bp < B ∧ bo < B ∧ B ≤ u.heap.size
  kp : Kp (fun _ => False) w u

section
variable {w u u' u0 : World} {hd : Array Value} {s : ByteArray} {bp bo B : Nat} {st t : Nat × Nat} {M : Int} {vI vL vO vB vC vG : Value} {I : List Int} {L : List (Int × Int × Int)} {O D N : List Int} {G : List (Int × Int × Int)} {S : Nat → Prop}

theorem RS.move {vI' vL' vO' vB' vC' vG' : Value} {I' : List Int} {L' : List (Int × Int × Int)} {O' D' N' : List Int} {G' : List (Int × Int × Int)} (h : RS w u hd s bp bo B st M vI vL vO vB vC vG I L O D N G) (k : Kp S u u') (hS : ∀ j, S j → B ≤ j)
    (hv : vI' = vI ∧ vL' = vL ∧ vO' = vO ∧ vB' = vB ∧ vC' = vC ∧ vG' = vG) (ls : LsO u' B vI' vL' vO' vB' vC' vG' I' L' O' D' N' G') : RS w u' hd s bp bo B st M vI' vL' vO' vB' vC' vG' I' L' O' D' N' G' := by
  obtain ⟨rfl, rfl, rfl, rfl, rfl, rfl⟩ := hv
  have hn := h.ne
  have hh := h.hi
  have q : ∀ j, j < B → ¬ S j := fun j hj hs => by have := hS j hs; omega
  exact ⟨h.h.kp k (q _ (by omega)), h.r.kp k (q _ (by omega)), h.p.kp k (q _ hh.1), h.c.kp k (q _ hh.2.1), ls, hn, ⟨hh.1, hh.2.1, Nat.le_trans hh.2.2 k.size⟩, h.kp.trans k (fun j hj hs => by have := hS j hs; omega)⟩
theorem RS.kp0 (h : RS w u hd s bp bo B st M vI vL vO vB vC vG I L O D N G) (k : Kp (fun _ => False) u u') : RS w u' hd s bp bo B st M vI vL vO vB vC vG I L O D N G :=
  h.move k (fun _ h => h.elim) ⟨rfl, rfl, rfl, rfl, rfl, rfl⟩ (h.ls.low k (fun _ h => h.elim))
theorem RS.fresh {st0 : Nat × Nat} (h0 : RS w u0 hd s bp bo B st0 M vI vL vO vB vC vG I L O D N G) (h : RS w u hd s bp bo B st M vI vL vO vB vC vG I L O D N G) (k : Kp S u u') (hS : ∀ j, S j → u0.heap.size ≤ j) : RS w u' hd s bp bo B st M vI vL vO vB vC vG I L O D N G :=
  h.move k (fun j hj => by have := hS j hj; have := h0.hi; omega) ⟨rfl, rfl, rfl, rfl, rfl, rfl⟩ (h0.ls.fr h.ls k hS)
theorem RS.rd (h : RS w u hd s bp bo B st M vI vL vO vB vC vG I L O D N G) (k : Kp (fun j => j = bp) u u') (hl : PL u' bp s t) : RS w u' hd s bp bo B t M vI vL vO vB vC vG I L O D N G := by
  have hn := h.ne
  have hh := h.hi
  exact ⟨h.h.kp k (by omega), h.r.kp k (by omega), hl, h.c.kp k (by omega), h.ls.low k (fun j e => by have e2 : j = bp := e; omega), hn, ⟨hh.1, hh.2.1, Nat.le_trans hh.2.2 k.size⟩, h.kp.trans k (fun j hj e => by have e2 : j = bp := e; omega)⟩
/-- a cell of the circuit is set -/
theorem RS.set {vI' vL' vO' vB' vC' vG' : Value} {I' : List Int} {L' : List (Int × Int × Int)} {O' D' N' : List Int} {G' : List (Int × Int × Int)} (h : RS w u hd s bp bo B st M vI vL vO vB vC vG I L O D N G) (i : Nat) (v : Value)
    (hc : (#[.int .i64 M, vI, vL, vO, vB, vC, vG, .slice none 0 0, .string ⟨#[]⟩] : Array Value).setIfInBounds i v = #[.int .i64 M, vI', vL', vO', vB', vC', vG', .slice none 0 0, .string ⟨#[]⟩]) (ls : LsO u B vI' vL' vO' vB' vC' vG' I' L' O' D' N' G') :
    RS w (u.setCell ⟨bo, i, none⟩ v) hd s bp bo B st M vI' vL' vO' vB' vC' vG' I' L' O' D' N' G' := by
  have hn := h.ne
  have hh := h.hi
  have k2 := Kp.set u ⟨bo, i, none⟩ v
  have c1 := h.c.set_same i v
  rw [hc] at c1
  exact ⟨h.h.kp k2 (by simp; omega), h.r.kp k2 (by simp; omega), h.p.kp k2 (by simp; omega), c1, ls.low k2 (fun j e => by have e2 : j = bo := e; omega), hn,
    ⟨hh.1, hh.2.1, by rw [show (u.setCell ⟨bo, i, none⟩ v).heap.size = u.heap.size from by simp [World.setCell]]; exact hh.2.2⟩, h.kp.trans k2 (fun j hj e => by have e2 : j = bo := e; omega)⟩
/-- a list of the call's own has grown, and is set -/
theorem RS.grow {v0 : Value} {vI' vL' vO' vB' vC' vG' : Value} {I' : List Int} {L' : List (Int × Int × Int)} {O' D' N' : List Int} {G' : List (Int × Int × Int)} (h : RS w u hd s bp bo B st M vI vL vO vB vC vG I L O D N G) (hg : u.grownBy u' v0.ownBlock) (hlo : ∀ j, v0.ownBlock = some j → B ≤ j) (i : Nat) (v : Value)
    (hc : (#[.int .i64 M, vI, vL, vO, vB, vC, vG, .slice none 0 0, .string ⟨#[]⟩] : Array Value).setIfInBounds i v = #[.int .i64 M, vI', vL', vO', vB', vC', vG', .slice none 0 0, .string ⟨#[]⟩]) (ls : Kp (fun j => v0.ownBlock = some j) u u' → LsO u' B vI' vL' vO' vB' vC' vG' I' L' O' D' N' G') :
    RS w (u'.setCell ⟨bo, i, none⟩ v) hd s bp bo B st M vI' vL' vO' vB' vC' vG' I' L' O' D' N' G' := by
  have k : Kp (fun j => v0.ownBlock = some j) u u' := (Kp.refl _ u).grown hg (fun j hj _ => hj)
  have hls := ls k
  have hh := h.hi
  have hn := h.ne
  have q : ∀ j, j < B → ¬ v0.ownBlock = some j := fun j hj hs => by have := hlo j hs; omega
  have k2 := Kp.set u' ⟨bo, i, none⟩ v
  have c1 := (h.c.kp k (q _ hh.2.1)).set_same i v
  rw [hc] at c1
  exact ⟨(h.h.kp k (q _ (by omega))).kp k2 (by simp; omega), (h.r.kp k (q _ (by omega))).kp k2 (by simp; omega), (h.p.kp k (q _ hh.1)).kp k2 (by simp; omega), c1, hls.low k2 (fun j e => by have e2 : j = bo := e; omega), hn,
    ⟨hh.1, hh.2.1, by rw [show (u'.setCell ⟨bo, i, none⟩ v).heap.size = u'.heap.size from by simp [World.setCell]]; exact Nat.le_trans hh.2.2 k.size⟩, (h.kp.trans k (fun j hj hs => by have := hlo j hs; omega)).trans k2 (fun j hj e => by have e2 : j = bo := e; omega)⟩
theorem RS.grown {vL' : Value} {L' : List (Int × Int × Int)} (h : RS w u hd s bp bo B st M vI vL vO vB vC vG I L O D N G) (hg : u.grownBy u' vL.ownBlock) (hO : OwnK u' B 59 3 vL' (L'.map tri)) :
    RS w (u'.setCell ⟨bo, 2, none⟩ vL') hd s bp bo B st M vI vL' vO vB vC vG I L' O D N G :=
  h.grow hg (fun j hj => (h.ls.l.lt j hj).1) 2 vL' rfl (fun k => h.ls.putL k hO)
theorem RS.grownG {vG' : Value} {G' : List (Int × Int × Int)} (h : RS w u hd s bp bo B st M vI vL vO vB vC vG I L O D N G) (hg : u.grownBy u' vG.ownBlock) (hO : OwnK u' B 61 3 vG' (G'.map tri)) :
    RS w (u'.setCell ⟨bo, 6, none⟩ vG') hd s bp bo B st M vI vL vO vB vC vG' I L O D N G' :=
  h.grow hg (fun j hj => (h.ls.g.lt j hj).1) 6 vG' rfl (fun k => h.ls.putG k hO)

/-- the result is laid -/
theorem RS.fin (h : RS w u hd s bp bo B st M vI vL vO vB vC vG I L O D N G) (y0 y1 y2 y3 y4 y5 y6 y7 y8 : Value) :
    Blk (set9 u (w.heap.size + 1) y0 y1 y2 y3 y4 y5 y6 y7 y8) (w.heap.size + 1) #[y0, y1, y2, y3, y4, y5, y6, y7, y8] 27 ∧ Kp (fun _ => False) w (set9 u (w.heap.size + 1) y0 y1 y2 y3 y4 y5 y6 y7 y8) ∧
    LsO (set9 u (w.heap.size + 1) y0 y1 y2 y3 y4 y5 y6 y7 y8) B vI vL vO vB vC vG I L O D N G := by
  have hn := h.ne
  have hh := h.hi
  have hk := Kp.set9 u (w.heap.size + 1) y0 y1 y2 y3 y4 y5 y6 y7 y8
  exact ⟨Blk.set9 h.r y0 y1 y2 y3 y4 y5 y6 y7 y8, h.kp.trans hk (fun i hi e => by omega), h.ls.low hk (fun j e => by omega)⟩
end

/-- what holds while all is well, or the end of it all -/
def Goes (R : Circ × Nat × Nat) (st : Nat × Nat) (X : Prop) : Prop := (st.2 = 0 ∧ X) ∨ (st.2 ≠ 0 ∧ R.2 = st)
theorem Goes.imp {R : Circ × Nat × Nat} {st : Nat × Nat} {X Y : Prop} (h : Goes R st X) (f : st.2 = 0 → X → Y) : Goes R st Y := h.elim (fun h => .inl ⟨h.1, f h.1 h.2⟩) .inr

end Go.Proofs.YtckmdcmkjmpiaaaGreatDoor

/-
  latchetref13.Read of any text. (Printed by mkascrefr.py.)
-/
namespace Go.Proofs.YtckmdcmkjmpiaaaGreatDoor
open Go.RowKit

theorem ref_four (w : World) (c c1 : Array Value) (t t1 : TypeId) : Blk ((w.alloc (.cells c t)).alloc (.cells c1 t1)) w.heap.size c t ∧
    Blk ((w.alloc (.cells c t)).alloc (.cells c1 t1)) (w.heap.size + 1) c1 t1 ∧ Kp (fun _ => False) w ((w.alloc (.cells c t)).alloc (.cells c1 t1)) ∧ ((w.alloc (.cells c t)).alloc (.cells c1 t1)).heap.size = w.heap.size + 2 := by
  have key : ∀ (u : World) (c : Array Value) (t : TypeId) (n : Nat), u.heap.size = n → Blk (u.alloc (.cells c t)) n c t := fun u c t n h => by subst h; exact Blk.new u c t
  exact ⟨(Blk.new w _ _).alloc _, key _ _ _ _ (by simp), ((Kp.refl _ w).alloc _).alloc _, by simp⟩
theorem ref_start {w wz : World} {hd : Array Value} {s : ByteArray} {p : Nat} {M : Int} (h : Blk wz w.heap.size hd 42 ∧ Blk wz (w.heap.size + 1) zc9 27 ∧ Kp (fun _ => False) w wz ∧ wz.heap.size = w.heap.size + 2) {u : World} {bp bo : Nat}
    (hp : Blk u bp #[.string s, .int .i64 (p : Nat), .int .i64 0] 94) (ho : Blk u bo #[.int .i64 M, .slice none 0 0, .slice none 0 0, .slice none 0 0, .slice none 0 0, .slice none 0 0, .slice none 0 0, .slice none 0 0, .string ⟨#[]⟩] 27)
    (hk : Kp (fun _ => False) wz u) (hs : u.heap.size = w.heap.size + 4) (hn : bo ≠ bp) (h1 : w.heap.size + 2 ≤ bp) (h2 : w.heap.size + 2 ≤ bo) :
    RS w u hd s bp bo (w.heap.size + 4) (p, 0) M (.slice none 0 0) (.slice none 0 0) (.slice none 0 0) (.slice none 0 0) (.slice none 0 0) (.slice none 0 0) [] [] [] [] [] [] := by
  have l1 := hp.lt
  have l2 := ho.lt
  exact ⟨h.1.kp hk (fun h => h), h.2.1.kp hk (fun h => h), hp, ho, ⟨Own.nil _ _ _, OwnK.nil _ _ _ _, Own.nil _ _ _, Own.nil _ _ _, Own.nil _ _ _, OwnK.nil _ _ _ _⟩, ⟨hn, by omega, by omega⟩, ⟨by omega, by omega, by omega⟩, h.2.2.1.trans hk (fun _ _ h => h.elim)⟩
theorem ref_blk2 (w : World) (c c1 : Array Value) (t t1 : TypeId) : Blk ((w.alloc (.cells c t)).alloc (.cells c1 t1)).drew w.heap.size c t ∧ Blk ((w.alloc (.cells c t)).alloc (.cells c1 t1)).drew (w.heap.size + 1) c1 t1 ∧ Kp (fun _ => False) w ((w.alloc (.cells c t)).alloc (.cells c1 t1)).drew ∧ ((w.alloc (.cells c t)).alloc (.cells c1 t1)).drew.heap.size = w.heap.size + 2 := by
  obtain ⟨a, b, c, d⟩ := ref_four w c c1 t t1
  exact ⟨a.drew, b.drew, c.drew, d⟩
theorem ref_wrap {M : Nat} (h : M ≤ 16777216) : IntKind.i64.wrap (IntKind.i64.wrap (2 * (M : Int)) + 1) = 2 * (M : Int) + 1 := by unfold IntKind.wrap; simp [IntKind.signed, IntKind.bits]; omega

theorem Goes.lits {R : Circ × Nat × Nat} {X : Prop} {s : ByteArray} {top : Int} {m : Nat} {st t : Nat × Nat} {O : List Int} (h : Goes R st X) (hO : rdLits s top m [] st = (O, t)) (stop : X → t.2 ≠ 0 → R.2 = t) : Goes R t X := by
  by_cases h0 : st.2 = 0
  · have hX : X := h.elim (fun h => h.2) (fun h => absurd h0 h.1)
    by_cases ht : t.2 = 0
    · exact .inl ⟨ht, hX⟩
    · exact .inr ⟨ht, stop hX ht⟩
  · have e : t = st := by have := rdLits_stay (s := s) (top := top) (m := m) (L := []) h0; rw [hO] at this; exact this
    subst e
    exact .inr ⟨h0, h.elim (fun h => absurd h.1 h0) (fun h => h.2)⟩

set_option maxRecDepth 100000 in
set_option maxHeartbeats 16000000 in
theorem ref13_Read (s : ByteArray) (p : Nat) (bin : Bool) (M nI nL nO nA nB nC : Nat) (w : World) (hs : s.size ≤ 1000000) (hp : p ≤ s.size) (hM : M ≤ 16777216) (hI : nI ≤ 16777216) (hL : nL ≤ 16777216) (hO : nO ≤ 16777216) (hA : nA ≤ 16777216) (hBd : nB ≤ 16777216) (hC : nC ≤ 16777216) :
    Calls Tryz.prog 18 #[.string s, .int .i64 (p : Nat), .agg (hdA bin M nI nL nO nA nB nC)] w fun e w' => BinReadP (rdA s (M : Int) nI nL nO nA nB nC (p, 0)) w e w' := by
  have d1 : (decide ((p : Int) < 0) || decide ((s.size : Int) < (p : Int))) = false := by simp; omega
  have d2 : decide ((p : Int) < 0) = false := by simp
  have d3 : decide (s.size < p) = false := by simp; omega
  have HIl := Lib.hid (show (Tryz.prog.info? 59).map (fun i => (i.zero, i.size, i.bytes)) = some (some (.agg #[.int .i64 0, .int .i64 0, .int .i64 0]), 3, 24) by kernel_rfl)
  have HIg := Lib.hid (show (Tryz.prog.info? 61).map (fun i => (i.zero, i.size, i.bytes)) = some (some (.agg #[.int .i64 0, .int .i64 0, .int .i64 0]), 3, 24) by kernel_rfl)
  obtain ⟨R, hR⟩ : ∃ R, rdA s (M : Int) nI nL nO nA nB nC (p, 0) = R := ⟨_, rfl⟩
  rw [hR]
  have HR := Lib.hid hR
  have HNm := Lib.hid (And.intro hs (And.intro hp (And.intro hM (And.intro hI (And.intro hL (And.intro hO (And.intro hA (And.intro hBd hC))))))))
  obtain ⟨wz, hwz⟩ : ∃ wz : World, wz = (w.alloc (.cells (hdA bin M nI nL nO nA nB nC) 42)).alloc (.cells zc9 27) := ⟨_, rfl⟩
  have HB := Lib.hid (ref_four w (hdA bin M nI nL nO nA nB nC) zc9 42 27)
  rw [show (w.alloc (.cells (hdA bin M nI nL nO nA nB nC) 42)).alloc (.cells zc9 27) = wz from hwz.symm] at HB
  have HZ := Lib.hid hwz
  have HLit := Lib.hid (fun (x y : Nat) (ok : Nat → Bool) (hok : ∀ c, ok c = (c == x || c == y)) (q e bp : Nat) (u : World) (hq : q ≤ s.size) (hL : PL u bp s (q, e)) => ref13_Lit s bp q e x y (2 * (M : Int) + 1) ok u hs hq hok hL)
  have HLits := Lib.hid (fun (many q e bp : Nat) (hm : many ≤ 16777216) (hq : q ≤ s.size) (u : World) (hL : PL u bp s (q, e)) => ref13_lits s bp many (q, e) (2 * (M : Int) + 1) u hs hq (by omega) hL)
  clear hwz hR hs hp hM hI hL hO hA hBd hC
  unfold hdA
  go_enter Tryz.func18, Tryz.ntmps18
  go_upto_region 3 with fail
  rw [show (w.alloc (.cells #[.bool bin, .int .i64 (M : Nat), .int .i64 (nI : Nat), .int .i64 (nL : Nat), .int .i64 (nO : Nat), .int .i64 (nA : Nat), .int .i64 (nB : Nat), .int .i64 (nC : Nat)] 42)).alloc (.cells #[.int .i64 0, .slice none 0 0, .slice none 0 0, .slice none 0 0, .slice none 0 0, .slice none 0 0, .slice none 0 0, .slice none 0 0, .string ⟨#[]⟩] 27) = wz from HZ.out.symm]
  go_cut [9, 10, 11] from 36 to 46 (fun s9 s10 s11 wx => ∃ bp bo, s9 = .pointer (some ⟨bp, 0, none⟩) ∧ s10 = .pointer (some ⟨bo, 0, none⟩) ∧ s11 = .int .i64 (2 * (M : Int) + 1) ∧ RS w wx (hdA bin M nI nL nO nA nB nC) s bp bo (w.heap.size + 4) (p, 0) (M : Int) (.slice none 0 0) (.slice none 0 0) (.slice none 0 0) (.slice none 0 0) (.slice none 0 0) (.slice none 0 0) [] [] [] [] [] [])
  case first =>
    have HH := Lib.hid (fun u (hK : Kp (fun j => w.heap.size + 2 ≤ j) wz u) => (HB.out.1.kp hK (by omega)).cell (i := 1) (v := .int .i64 (M : Nat)) rfl)
    have h1 := HH.out _ (Kp.refl _ _)
    have HW := Lib.hid (HB.out.2.2.2)
    clear d1 d2 d3 HZ
    go_region_held3 (fun u => u.cell? ⟨w.heap.size, 1, none⟩ = some (.int .i64 (M : Nat))) (exact HH.out _ (by repeat (with_reducible first | exact Kp.refl _ _ | apply Kp.alloc | apply Kp.drew | (refine Kp.setCell ?_ (fun _ => ?_) _ <;> first | (simp; omega) | skip)))) (fail)
    all_goals go_wp2_with fail
    all_goals go_meet
    all_goals first
      | (refine ⟨_, _, rfl, rfl, by rw [ref_wrap HNm.out.2.2.1], ref_start HB.out (ref_blk2 _ _ _ _ _).1 (ref_blk2 _ _ _ _ _).2.1 (ref_blk2 _ _ _ _ _).2.2.1 ?_ ?_ ?_ ?_⟩ <;> first | (rw [(ref_blk2 _ _ _ _ _).2.2.2]; have := HW.out; omega) | (have := HW.out; omega))
      | (refine ⟨_, _, rfl, rfl, by rw [ref_wrap HNm.out.2.2.1], ref_start HB.out (ref_blk2 _ _ _ _ _).2.1 (ref_blk2 _ _ _ _ _).1 (ref_blk2 _ _ _ _ _).2.2.1 ?_ ?_ ?_ ?_⟩ <;> first | (rw [(ref_blk2 _ _ _ _ _).2.2.2]; have := HW.out; omega) | (have := HW.out; omega))
  case rest =>
  obtain ⟨bp, bo, rfl, rfl, rfl, hR⟩ := hcut
  have HX := Lib.hid hR
  have h2 : wc.cell? ⟨w.heap.size, 2, none⟩ = some (.int .i64 (nI : Nat)) := hR.h.cell rfl
  clear hR d1 d2 d3 HB HZ
  obtain ⟨I1, tI, hI⟩ : ∃ I t, rdLits s (2 * (M : Int) + 1) nI [] (p, 0) = (I, t) := ⟨_, _, rfl⟩
  obtain ⟨qI, eI⟩ := tI
  have HQI := Lib.hid (show qI ≤ s.size by have := rdLits_le (s := s) (top := 2 * (M : Int) + 1) (m := nI) (L := []) (st := (p, 0)) HNm.out.2.1; rw [hI] at this; exact this)
  have HCall := Lib.hid (HLits.out nI p 0 bp HNm.out.2.2.2.1 HNm.out.2.1 _ HX.out.p)
  rw [hI] at HCall
  have HI := Lib.hid hI
  clear hI
  go_wp2_with fail
  refine HCall.out.mono ?_
  rintro o w1 ⟨v, I, rfl, hO1, hP1, hK1, hEq⟩
  have HEqI := Lib.hid (show eI = 0 → I = I1 from hEq)
  have hx := HX.out.rd hK1 hP1
  have c1 := hx.c.cell (i := 1) (v := .slice none 0 0) rfl
  have f1 := Blk.free hx.c 1
  obtain ⟨ia, ic, ev, -⟩ := hO1.form
  rw [iv_length] at ev
  subst ev
  have hO2 := hO1.mono (show w.heap.size + 4 ≤ _ from HX.out.hi.2.2)
  have HXI := Lib.hid (hx.set 1 _ rfl ⟨hO2, hx.ls.l, hx.ls.o, hx.ls.d, hx.ls.n, hx.ls.g⟩)
  clear hx hK1 hP1 HCall hO1 hO2 hEq h2
  have HGI := Lib.hid (show Goes R (qI, eI) (rdLits s (2 * (M : Int) + 1) nI [] (p, 0) = (I, (qI, eI))) from by
    by_cases h0 : eI = 0
    · exact .inl ⟨h0, by rw [HEqI.out h0]; exact HI.out⟩
    · exact .inr ⟨h0, by rw [← HR.out]; exact rdA_sI (t := (qI, eI)) (by rw [HI.out]) h0⟩)
  clear HX
  go_upto_region 5 with fail
  clear c1 f1
  obtain ⟨wa, hwa⟩ : ∃ wa, wa = w1.setCell ⟨bo, 1, none⟩ (.slice ia I.length ic) := ⟨_, rfl⟩
  rw [← hwa] at HXI ⊢
  clear hwa
  go_wp2_with fail
  go_loopw [12] (fun v12 wr => ∃ (k : Nat) (L : List (Int × Int × Int)) (q e : Nat) (vL : Value), v12 = .int .i64 k ∧ k ≤ nL ∧ L.length = k ∧ q ≤ s.size ∧ RS w wr (hdA bin M nI nL nO nA nB nC) s bp bo (w.heap.size + 4) (q, e) (M : Int) (.slice ia I.length ic) vL (.slice none 0 0) (.slice none 0 0) (.slice none 0 0) (.slice none 0 0) I L [] [] [] [] ∧ Goes R (q, e) (rdLits s (2 * (M : Int) + 1) nI [] (p, 0) = (I, (qI, eI)) ∧ rdLatsA s (2 * (M : Int) + 1) nL [] (qI, eI) = rdLatsA s (2 * (M : Int) + 1) (nL - k) L (q, e))) (fun v12 _ => nL - (intOf v12).toNat)
  case atStart => exact ⟨0, [], qI, eI, _, rfl, by omega, rfl, HQI.out, HXI.out, HGI.out.imp (fun _ h => ⟨h, rfl⟩)⟩
  case round =>
    obtain ⟨k, L, q, e, vL, rfl, hk, hLn, hq, hA, hG⟩ := hrel
    obtain ⟨wp, rfl⟩ : ∃ wp : World, wp = wr := ⟨_, rfl⟩
    obtain ⟨la, lc, el, -⟩ := hA.ls.l.form
    rw [List.length_map] at el
    subst el
    have l3 : wp.cell? ⟨w.heap.size, 3, none⟩ = some (.int .i64 (nL : Nat)) := hA.h.cell rfl
    have le : wp.cell? ⟨bp, 2, none⟩ = some (.int .i64 (e : Nat)) := Blk.cell hA.p rfl
    have HA := Lib.hid hA
    have HLn := Lib.hid hLn
    have HQ := Lib.hid hq
    have HG := Lib.hid hG
    clear hA hLn hq hG
    have hbk : nL ≤ 16777216 := HNm.out.2.2.2.2.1
    go_upto_region 6 with fail
    go_cut [63] from 53 to 63 (fun s63 wx => s63 = .bool (decide (k < nL ∧ e = 0)) ∧ wx = wp)
    case first =>
      by_cases h1 : k < nL
      · by_cases h2 : e = 0
        · subst h2
          have t9 : decide (k < nL ∧ (0 : Nat) = 0) = true := by simp [h1]
          go_wp2_with fail
          go_meet
          case rel => exact ⟨by rw [t9], rfl⟩
        · have t8 : ((e : Int) == 0) = false := by rw [beq_eq_false_iff_ne]; omega
          have t9 : decide (k < nL ∧ e = 0) = false := by simp [h2]
          go_wp2_with fail
          go_meet
          case rel => exact ⟨by rw [t9], rfl⟩
      · have t9 : decide (k < nL ∧ e = 0) = false := by simp [h1]
        go_wp2_with fail
        go_meet
        case rel => exact ⟨by rw [t9], rfl⟩
    case rest =>
    obtain ⟨rfl, rfl⟩ := hcut
    obtain ⟨wp, rfl⟩ : ∃ wp : World, wp = wc := ⟨_, rfl⟩
    by_cases hgo : k < nL ∧ e = 0
    · have t9 : decide (k < nL ∧ e = 0) = true := by simp only [hgo, and_self, decide_true]
      rw [t9]
      obtain ⟨hlt, rfl⟩ := hgo
      obtain ⟨j, hj⟩ : ∃ j, nL - k = j + 1 := ⟨nL - k - 1, by omega⟩
      have HJ := Lib.hid (show nL - (k + 1) = j by omega)
      have hE := HG.out.elim (fun h => h.2) (fun h => absurd rfl h.1)
      rw [hj] at hE
      have HE := Lib.hid hE
      clear hE hj HG t9 le
      have HA0 := Lib.hid (HA.out.kp0 ((Kp.refl _ wp).alloc (.cells #[.int .i64 0, .int .i64 0, .int .i64 0] 59)))
      have HX0 := Lib.hid (Blk.new wp #[.int .i64 0, .int .i64 0, .int .i64 0] 59)
      obtain ⟨n1, c1, p1, e1, hr1⟩ : ∃ n c z e, rdL s (2 * (M : Int) + 1) ok32 (q, 0) = (n, c, z, e) := ⟨_, _, _, _, rfl⟩
      have HR1 := Lib.hid hr1
      have HQ1 := Lib.hid (show p1 ≤ s.size by have := rdL_le (s := s) (top := 2 * (M : Int) + 1) (ok := ok32) (st := (q, 0)) HQ.out; rw [hr1] at this; exact this)
      have HC1 := Lib.hid (HLit.out 32 32 ok32 ok32_xy q 0 bp _ HQ.out HA0.out.p)
      rw [hr1] at HC1
      unfold litP at HC1
      simp only at HC1
      obtain ⟨m1, hm1⟩ : ∃ m, (if e1 = 0 then n1 else 0) = m := ⟨_, rfl⟩
      rw [hm1] at HC1
      have HM1 := Lib.hid hm1
      clear hr1 hm1
      go_wp2_with fail
      refine HC1.out.mono ?_
      rintro o w1 ⟨rfl, hP1, hK1⟩
      have HA1 := Lib.hid (HA0.out.rd hK1 hP1)
      have HX1 := Lib.hid (HX0.out.kp hK1 (by have := HA.out.p; have := Blk.lt this; omega))
      clear hK1 hP1 HC1
      obtain ⟨n2, c2, p2, e2, hr2⟩ : ∃ n c z e, rdL s (2 * (M : Int) + 1) okB (p1, e1) = (n, c, z, e) := ⟨_, _, _, _, rfl⟩
      have HR2 := Lib.hid hr2
      have HQ2 := Lib.hid (show p2 ≤ s.size by have := rdL_le (s := s) (top := 2 * (M : Int) + 1) (ok := okB) (st := (p1, e1)) HQ1.out; rw [hr2] at this; exact this)
      have HC2 := Lib.hid (HLit.out 32 10 okB okB_xy p1 e1 bp _ HQ1.out HA1.out.p)
      rw [hr2] at HC2
      unfold litP at HC2
      simp only at HC2
      obtain ⟨m2, hm2⟩ : ∃ m, (if e2 = 0 then n2 else 0) = m := ⟨_, rfl⟩
      rw [hm2] at HC2
      have HM2 := Lib.hid hm2
      clear hr2 hm2
      go_wp2_with fail
      refine HC2.out.mono ?_
      rintro o w2 ⟨rfl, hP2, hK2⟩
      have HA2 := Lib.hid (HA1.out.rd hK2 hP2)
      have HX2 := Lib.hid (HX1.out.kp hK2 (by have := HA.out.p; have := Blk.lt this; omega))
      clear hK2 hP2 HC2
      have x0 := HX2.out.cell (i := 0) (v := .int .i64 0) rfl
      have x1 := HX2.out.cell (i := 1) (v := .int .i64 0) rfl
      have g0 := HX2.out.free 0
      have g1 := HX2.out.free 1
      have HX2s := Lib.hid ((HX2.out.set_same 0 (.int .i64 (m1 : Nat))).set_same 1 (.int .i64 (m2 : Nat)))
      have HA2s := Lib.hid (RS.fresh HA.out (RS.fresh HA.out HA2.out (Kp.set w2 ⟨wp.heap.size, 0, none⟩ (.int .i64 (m1 : Nat))) (fun j e => Nat.le_of_eq e.symm)) (Kp.set _ ⟨wp.heap.size, 1, none⟩ (.int .i64 (m2 : Nat))) (fun j e => Nat.le_of_eq e.symm))
      by_cases hc : c2 = 32
      · subst hc
        have he2 : e2 = 0 := Classical.byContradiction fun h => absurd ((rdL_c HR2.out).1 h) (by decide)
        subst he2
        have he1 : e1 = 0 := by have := rdL_ok (s := s) (top := 2 * (M : Int) + 1) (ok := okB) (st := (p1, e1)) (by rw [HR2.out]); exact this
        subst he1
        have hm1 : n1 = m1 := by have := HM1.out; rwa [if_pos rfl] at this
        have hm2 : n2 = m2 := by have := HM2.out; rwa [if_pos rfl] at this
        subst hm1 hm2
        clear HM1 HM2
        go_upto_region 13 with fail
        obtain ⟨wv, hwv⟩ : ∃ wv, wv = (w2.setCell ⟨wp.heap.size, 0, none⟩ (.int .i64 (n1 : Nat))).setCell ⟨wp.heap.size, 1, none⟩ (.int .i64 (n2 : Nat)) := ⟨_, rfl⟩
        rw [← hwv] at HX2s HA2s ⊢
        clear hwv x0 x1 g0 g1 HX2 HA2
        obtain ⟨n3, c3, p3, e3, hr3⟩ : ∃ n c z e, rdL s (2 * (M : Int) + 1) ok10 (p2, 0) = (n, c, z, e) := ⟨_, _, _, _, rfl⟩
        have HR3 := Lib.hid hr3
        have HQ3 := Lib.hid (show p3 ≤ s.size by have := rdL_le (s := s) (top := 2 * (M : Int) + 1) (ok := ok10) (st := (p2, 0)) HQ2.out; rw [hr3] at this; exact this)
        have HC3 := Lib.hid (HLit.out 10 10 ok10 ok10_xy p2 0 bp _ HQ2.out HA2s.out.p)
        rw [hr3] at HC3
        unfold litP at HC3
        simp only at HC3
        obtain ⟨m3, hm3⟩ : ∃ m, (if e3 = 0 then n3 else 0) = m := ⟨_, rfl⟩
        rw [hm3] at HC3
        have HM3 := Lib.hid hm3
        clear hr3 hm3
        go_wp2_with fail
        refine HC3.out.mono ?_
        rintro o w3 ⟨rfl, hP3, hK3⟩
        have HA3 := Lib.hid (HA2s.out.rd hK3 hP3)
        have HX3 := Lib.hid (HX2s.out.kp hK3 (by have := HA.out.p; have := Blk.lt this; omega))
        clear hK3 hP3 HC3
        have x2 := HX3.out.cell (i := 2) (v := .int .i64 0) rfl
        have g2 := HX3.out.free 2
        have HX3s := Lib.hid (show Blk (w3.setCell ⟨wp.heap.size, 2, none⟩ (.int .i64 (m3 : Nat))) wp.heap.size #[.int .i64 (n1 : Nat), .int .i64 (n2 : Nat), .int .i64 (m3 : Nat)] 59 from HX3.out.set_same 2 (.int .i64 (m3 : Nat)))
        have HA3s := Lib.hid (RS.fresh HA.out HA3.out (Kp.set w3 ⟨wp.heap.size, 2, none⟩ (.int .i64 (m3 : Nat))) (fun j e => Nat.le_of_eq e.symm))
        have HG9 := Lib.hid (show Goes R (p3, e3) (rdLits s (2 * (M : Int) + 1) nI [] (p, 0) = (I, (qI, eI)) ∧ rdLatsA s (2 * (M : Int) + 1) nL [] (qI, eI) = rdLatsA s (2 * (M : Int) + 1) j (L ++ [((n1 : Int), (n2 : Int), (m3 : Int))]) (p3, e3)) from by
          by_cases h3 : e3 = 0
          · have hm3 := HM3.out
            rw [if_pos h3] at hm3
            subst hm3
            exact .inl ⟨h3, HE.out.1, by rw [HE.out.2]; exact rdLatsA_g3 HR1.out HR2.out rfl rfl HR3.out h3⟩
          · exact .inr ⟨h3, by rw [← HR.out]; exact rdA_sL (t := (p3, e3)) HE.out.1 (by rw [HE.out.2]; exact rdLatsA_s3 HR1.out HR2.out rfl rfl HR3.out h3) h3⟩)
        clear HX3 HA3 HM3
        obtain ⟨wx, hwx⟩ : ∃ wx, wx = w3.setCell ⟨wp.heap.size, 2, none⟩ (.int .i64 (m3 : Nat)) := ⟨_, rfl⟩
        rw [← hwx] at HA3s HX3s
        have HWx := Lib.hid hwx
        clear hwx
        go_upto_region 15 with fail
        rw [← HWx.out]
        clear HWx
        have z0 := HX3s.out.cell (i := 0) (v := .int .i64 (n1 : Nat)) rfl
        have z1 := HX3s.out.cell (i := 1) (v := .int .i64 (n2 : Nat)) rfl
        have z2 := HX3s.out.cell (i := 2) (v := .int .i64 (m3 : Nat)) rfl
        have o2 := HA3s.out.c.cell (i := 2) (v := .slice la L.length lc) rfl
        have lo := HA3s.out.c.lt
        have HNew := Lib.hid (Blk.new wx #[.int .i64 (n1 : Nat), .int .i64 (n2 : Nat), .int .i64 (m3 : Nat)] 59)
        have HB8 := Lib.hid (HA3s.out.kp0 ((Kp.refl _ wx).alloc (.cells #[.int .i64 (n1 : Nat), .int .i64 (n2 : Nat), .int .i64 (m3 : Nat)] 59)))
        go_wp2_with (at_builtin; refine wpList_appendK rfl _ _ 23 59 rfl Tryz.underlying23 HIl.out rfl (by decide) HB8.out.ls.l rfl wx.heap.size [.int .i64 (n1 : Nat), .int .i64 (n2 : Nat), .int .i64 (m3 : Nat)] rfl rfl ?n0 ?m0 ?n1 ?n2 ?n3 ?_)
        case n0 => exact fun j u hj => HNew.out.cell (i := j) (by simpa using hj)
        case m0 => intro u hu; simp at hu; rcases hu with rfl | rfl | rfl <;> rfl
        case n1 => rw [List.length_map, HLn.out]; omega
        case n2 => rw [List.length_map, HLn.out]; unfold maxLen; omega
        case n3 => exact HB8.out.hi.2.2
        intro v' w9 hO9 hg9 hat9
        have hk9 : Kp (fun j => (.slice la L.length lc : Value).ownBlock = some j) _ w9 := (Kp.refl _ _).grown hg9 (fun j hj _ => hj)
        have hput := HB8.out.grown (L' := L ++ [((n1 : Int), (n2 : Int), (m3 : Int))]) hg9 (by rw [List.map_append]; exact hO9)
        have hcb := HB8.out.c.kp hk9 (fun h => by have := (HB8.out.ls.l.lt _ h).1; have := HB8.out.hi; have := HB8.out.kp.size; omega)
        obtain ⟨la', lc', ev, -⟩ := hO9.form
        rw [List.length_append, List.length_map, List.length_singleton] at ev
        subst ev
        have o2 := hcb.cell (i := 2) (v := .slice la L.length lc) rfl
        have f2 := hcb.free 2
        have HF := Lib.hid hput
        clear hO9 hg9 hat9 hk9 hput hcb HNew HB8 z0 z1 z2
        go_wp2_with fail
        go_roundw
        case rel => exact ⟨k + 1, L ++ [((n1 : Int), (n2 : Int), (m3 : Int))], p3, e3, _, by go_num, by omega, by rw [List.length_append, HLn.out]; rfl, HQ3.out, HF.out, by rw [HJ.out]; exact HG9.out⟩
        case measure => simp [intOf]; omega
      · have hcq : ((c2 : Int) == 32) = false := by rw [beq_eq_false_iff_ne]; omega
        have HG9 := Lib.hid (show Goes R (p2, e2) (rdLits s (2 * (M : Int) + 1) nI [] (p, 0) = (I, (qI, eI)) ∧ rdLatsA s (2 * (M : Int) + 1) nL [] (qI, eI) = rdLatsA s (2 * (M : Int) + 1) j (L ++ [((m1 : Int), (m2 : Int), 0)]) (p2, e2)) from by
          by_cases h2 : e2 = 0
          · have he1 : e1 = 0 := by have := rdL_ok (s := s) (top := 2 * (M : Int) + 1) (ok := okB) (st := (p1, e1)) (by rw [HR2.out]; exact h2); exact this
            have hm1 := HM1.out
            rw [if_pos he1] at hm1
            have hm2 := HM2.out
            rw [if_pos h2] at hm2
            subst hm1 hm2
            exact .inl ⟨h2, HE.out.1, by rw [HE.out.2]; exact rdLatsA_g2 HR1.out HR2.out h2 hc⟩
          · exact .inr ⟨h2, by rw [← HR.out]; exact rdA_sL (t := (p2, e2)) HE.out.1 (by rw [HE.out.2]; exact rdLatsA_s2 HR1.out HR2.out h2) h2⟩)
        clear HM1 HM2 hc
        obtain ⟨wx, hwx⟩ : ∃ wx, wx = (w2.setCell ⟨wp.heap.size, 0, none⟩ (.int .i64 (m1 : Nat))).setCell ⟨wp.heap.size, 1, none⟩ (.int .i64 (m2 : Nat)) := ⟨_, rfl⟩
        rw [← hwx] at HA2s HX2s
        have HWx := Lib.hid hwx
        clear hwx
        go_upto_region 15 with fail
        rw [← HWx.out]
        clear HWx
        have z0 := HX2s.out.cell (i := 0) (v := .int .i64 (m1 : Nat)) rfl
        have z1 := HX2s.out.cell (i := 1) (v := .int .i64 (m2 : Nat)) rfl
        have z2 := HX2s.out.cell (i := 2) (v := .int .i64 0) rfl
        have o2 := HA2s.out.c.cell (i := 2) (v := .slice la L.length lc) rfl
        have lo := HA2s.out.c.lt
        have HNew := Lib.hid (Blk.new wx #[.int .i64 (m1 : Nat), .int .i64 (m2 : Nat), .int .i64 0] 59)
        have HB8 := Lib.hid (HA2s.out.kp0 ((Kp.refl _ wx).alloc (.cells #[.int .i64 (m1 : Nat), .int .i64 (m2 : Nat), .int .i64 0] 59)))
        go_wp2_with (at_builtin; refine wpList_appendK rfl _ _ 23 59 rfl Tryz.underlying23 HIl.out rfl (by decide) HB8.out.ls.l rfl wx.heap.size [.int .i64 (m1 : Nat), .int .i64 (m2 : Nat), .int .i64 0] rfl rfl ?n0 ?m0 ?n1 ?n2 ?n3 ?_)
        case n0 => exact fun j u hj => HNew.out.cell (i := j) (by simpa using hj)
        case m0 => intro u hu; simp at hu; rcases hu with rfl | rfl | rfl <;> rfl
        case n1 => rw [List.length_map, HLn.out]; omega
        case n2 => rw [List.length_map, HLn.out]; unfold maxLen; omega
        case n3 => exact HB8.out.hi.2.2
        intro v' w9 hO9 hg9 hat9
        have hk9 : Kp (fun j => (.slice la L.length lc : Value).ownBlock = some j) _ w9 := (Kp.refl _ _).grown hg9 (fun j hj _ => hj)
        have hput := HB8.out.grown (L' := L ++ [((m1 : Int), (m2 : Int), 0)]) hg9 (by rw [List.map_append]; exact hO9)
        have hcb := HB8.out.c.kp hk9 (fun h => by have := (HB8.out.ls.l.lt _ h).1; have := HB8.out.hi; have := HB8.out.kp.size; omega)
        obtain ⟨la', lc', ev, -⟩ := hO9.form
        rw [List.length_append, List.length_map, List.length_singleton] at ev
        subst ev
        have o2 := hcb.cell (i := 2) (v := .slice la L.length lc) rfl
        have f2 := hcb.free 2
        have HF := Lib.hid hput
        clear hO9 hg9 hat9 hk9 hput hcb HNew HB8 z0 z1 z2
        go_wp2_with fail
        go_roundw
        case rel => exact ⟨k + 1, L ++ [((m1 : Int), (m2 : Int), 0)], p2, e2, _, by go_num, by omega, by rw [List.length_append, HLn.out]; rfl, HQ2.out, HF.out, by rw [HJ.out]; exact HG9.out⟩
        case measure => simp [intOf]; omega
    · have t9 : decide (k < nL ∧ e = 0) = false := by simp only [hgo, decide_false]
      rw [t9]
      have HGL := Lib.hid (show Goes R (q, e) (rdLits s (2 * (M : Int) + 1) nI [] (p, 0) = (I, (qI, eI)) ∧ rdLatsA s (2 * (M : Int) + 1) nL [] (qI, eI) = (L, (q, e))) from HG.out.imp (fun h0 h => ⟨h.1, by
        have hk2 : nL - k = 0 := by have h00 : e = 0 := h0; omega
        rw [h.2, hk2]; rfl⟩))
      clear HG t9 hgo l3 le
      have hh4 : wp.cell? ⟨w.heap.size, 4, none⟩ = some (.int .i64 (nO : Nat)) := HA.out.h.cell rfl
      obtain ⟨O1, tO, hO⟩ : ∃ I t, rdLits s (2 * (M : Int) + 1) nO [] (q, e) = (I, t) := ⟨_, _, rfl⟩
      obtain ⟨qO, eO⟩ := tO
      have HQO := Lib.hid (show qO ≤ s.size by have := rdLits_le (s := s) (top := 2 * (M : Int) + 1) (m := nO) (L := []) (st := (q, e)) HQ.out; rw [hO] at this; exact this)
      have HCall := Lib.hid (HLits.out nO q e bp HNm.out.2.2.2.2.2.1 HQ.out _ HA.out.p)
      rw [hO] at HCall
      have HO := Lib.hid hO
      clear hO
      go_wp2_with fail
      refine HCall.out.mono ?_
      rintro o w1 ⟨v, O, rfl, hO1, hP1, hK1, hEq⟩
      have HEqO := Lib.hid (show eO = 0 → O = O1 from hEq)
      have hx := HA.out.rd hK1 hP1
      have c1 := hx.c.cell (i := 3) (v := .slice none 0 0) rfl
      have f1 := Blk.free hx.c 3
      obtain ⟨oa, oc, ev, -⟩ := hO1.form
      rw [iv_length] at ev
      subst ev
      have hO2 := hO1.mono (show w.heap.size + 4 ≤ _ from HA.out.hi.2.2)
      have HXO := Lib.hid (hx.set 3 _ rfl ⟨hx.ls.i, hx.ls.l, hO2, hx.ls.d, hx.ls.n, hx.ls.g⟩)
      clear hx hK1 hP1 HCall hO1 hO2 hEq hh4
      have HGO := Lib.hid (show Goes R (qO, eO) (rdLits s (2 * (M : Int) + 1) nI [] (p, 0) = (I, (qI, eI)) ∧ rdLatsA s (2 * (M : Int) + 1) nL [] (qI, eI) = (L, (q, e)) ∧ rdLits s (2 * (M : Int) + 1) nO [] (q, e) = (O, (qO, eO))) from by
        have h1 := Goes.lits HGL.out HO.out (fun h h0 => by rw [← HR.out]; exact rdA_sO (t := (qO, eO)) h.1 h.2 (by rw [HO.out]) h0)
        exact h1.imp (fun h0 h => ⟨h.1, h.2, by rw [HEqO.out h0]; exact HO.out⟩))
      go_upto_region 17 with fail
      obtain ⟨wO, hwO⟩ : ∃ wa, wa = w1.setCell ⟨bo, 3, none⟩ (.slice oa O.length oc) := ⟨_, rfl⟩
      rw [← hwO] at HXO ⊢
      clear hwO c1 f1
      have hh6 : wO.cell? ⟨w.heap.size, 6, none⟩ = some (.int .i64 (nB : Nat)) := HXO.out.h.cell rfl
      obtain ⟨D1, tD, hD⟩ : ∃ I t, rdLits s (2 * (M : Int) + 1) nB [] (qO, eO) = (I, t) := ⟨_, _, rfl⟩
      obtain ⟨qD, eD⟩ := tD
      have HQD := Lib.hid (show qD ≤ s.size by have := rdLits_le (s := s) (top := 2 * (M : Int) + 1) (m := nB) (L := []) (st := (qO, eO)) HQO.out; rw [hD] at this; exact this)
      have HCall := Lib.hid (HLits.out nB qO eO bp HNm.out.2.2.2.2.2.2.2.1 HQO.out _ HXO.out.p)
      rw [hD] at HCall
      have HD := Lib.hid hD
      clear hD
      go_wp2_with fail
      refine HCall.out.mono ?_
      rintro o w1 ⟨v, D, rfl, hO1, hP1, hK1, hEq⟩
      have HEqD := Lib.hid (show eD = 0 → D = D1 from hEq)
      have hx := HXO.out.rd hK1 hP1
      have c1 := hx.c.cell (i := 4) (v := .slice none 0 0) rfl
      have f1 := Blk.free hx.c 4
      obtain ⟨da, dc, ev, -⟩ := hO1.form
      rw [iv_length] at ev
      subst ev
      have hO2 := hO1.mono (show w.heap.size + 4 ≤ _ from HXO.out.hi.2.2)
      have HXD := Lib.hid (hx.set 4 _ rfl ⟨hx.ls.i, hx.ls.l, hx.ls.o, hO2, hx.ls.n, hx.ls.g⟩)
      clear hx hK1 hP1 HCall hO1 hO2 hEq hh6
      have HGD := Lib.hid (show Goes R (qD, eD) (rdLits s (2 * (M : Int) + 1) nI [] (p, 0) = (I, (qI, eI)) ∧ rdLatsA s (2 * (M : Int) + 1) nL [] (qI, eI) = (L, (q, e)) ∧ rdLits s (2 * (M : Int) + 1) nO [] (q, e) = (O, (qO, eO)) ∧ rdLits s (2 * (M : Int) + 1) nB [] (qO, eO) = (D, (qD, eD))) from by
        have h1 := Goes.lits HGO.out HD.out (fun h h0 => by rw [← HR.out]; exact rdA_sB (t := (qD, eD)) h.1 h.2.1 h.2.2 (by rw [HD.out]) h0)
        exact h1.imp (fun h0 h => ⟨h.1, h.2.1, h.2.2, by rw [HEqD.out h0]; exact HD.out⟩))
      go_upto_region 18 with fail
      obtain ⟨wD, hwD⟩ : ∃ wa, wa = w1.setCell ⟨bo, 4, none⟩ (.slice da D.length dc) := ⟨_, rfl⟩
      rw [← hwD] at HXD ⊢
      clear hwD c1 f1
      have hh7 : wD.cell? ⟨w.heap.size, 7, none⟩ = some (.int .i64 (nC : Nat)) := HXD.out.h.cell rfl
      obtain ⟨N1, tN, hN⟩ : ∃ I t, rdLits s (2 * (M : Int) + 1) nC [] (qD, eD) = (I, t) := ⟨_, _, rfl⟩
      obtain ⟨qN, eN⟩ := tN
      have HQN := Lib.hid (show qN ≤ s.size by have := rdLits_le (s := s) (top := 2 * (M : Int) + 1) (m := nC) (L := []) (st := (qD, eD)) HQD.out; rw [hN] at this; exact this)
      have HCall := Lib.hid (HLits.out nC qD eD bp HNm.out.2.2.2.2.2.2.2.2 HQD.out _ HXD.out.p)
      rw [hN] at HCall
      have HN := Lib.hid hN
      clear hN
      go_wp2_with fail
      refine HCall.out.mono ?_
      rintro o w1 ⟨v, N, rfl, hO1, hP1, hK1, hEq⟩
      have HEqN := Lib.hid (show eN = 0 → N = N1 from hEq)
      have hx := HXD.out.rd hK1 hP1
      have c1 := hx.c.cell (i := 5) (v := .slice none 0 0) rfl
      have f1 := Blk.free hx.c 5
      obtain ⟨na, nc, ev, -⟩ := hO1.form
      rw [iv_length] at ev
      subst ev
      have hO2 := hO1.mono (show w.heap.size + 4 ≤ _ from HXD.out.hi.2.2)
      have HXN := Lib.hid (hx.set 5 _ rfl ⟨hx.ls.i, hx.ls.l, hx.ls.o, hx.ls.d, hO2, hx.ls.g⟩)
      clear hx hK1 hP1 HCall hO1 hO2 hEq hh7
      have HGN := Lib.hid (show Goes R (qN, eN) (rdLits s (2 * (M : Int) + 1) nI [] (p, 0) = (I, (qI, eI)) ∧ rdLatsA s (2 * (M : Int) + 1) nL [] (qI, eI) = (L, (q, e)) ∧ rdLits s (2 * (M : Int) + 1) nO [] (q, e) = (O, (qO, eO)) ∧ rdLits s (2 * (M : Int) + 1) nB [] (qO, eO) = (D, (qD, eD)) ∧ rdLits s (2 * (M : Int) + 1) nC [] (qD, eD) = (N, (qN, eN))) from by
        have h1 := Goes.lits HGD.out HN.out (fun h h0 => by rw [← HR.out]; exact rdA_sC (t := (qN, eN)) h.1 h.2.1 h.2.2.1 h.2.2.2 (by rw [HN.out]) h0)
        exact h1.imp (fun h0 h => ⟨h.1, h.2.1, h.2.2.1, h.2.2.2, by rw [HEqN.out h0]; exact HN.out⟩))
      go_upto_region 19 with fail
      obtain ⟨wN, hwN⟩ : ∃ wa, wa = w1.setCell ⟨bo, 5, none⟩ (.slice na N.length nc) := ⟨_, rfl⟩
      rw [← hwN] at HXN ⊢
      clear hwN c1 f1
      go_wp2_with fail
      go_loopw [20] (fun v20 wr => ∃ (k : Nat) (G : List (Int × Int × Int)) (qq ee : Nat) (vG : Value), v20 = .int .i64 k ∧ k ≤ nA ∧ G.length = k ∧ qq ≤ s.size ∧ RS w wr (hdA bin M nI nL nO nA nB nC) s bp bo (w.heap.size + 4) (qq, ee) (M : Int) (.slice ia I.length ic) (.slice la L.length lc) (.slice oa O.length oc) (.slice da D.length dc) (.slice na N.length nc) vG I L O D N G ∧ Goes R (qq, ee) ((rdLits s (2 * (M : Int) + 1) nI [] (p, 0) = (I, (qI, eI)) ∧ rdLatsA s (2 * (M : Int) + 1) nL [] (qI, eI) = (L, (q, e)) ∧ rdLits s (2 * (M : Int) + 1) nO [] (q, e) = (O, (qO, eO)) ∧ rdLits s (2 * (M : Int) + 1) nB [] (qO, eO) = (D, (qD, eD)) ∧ rdLits s (2 * (M : Int) + 1) nC [] (qD, eD) = (N, (qN, eN))) ∧ rdGatesA s (2 * (M : Int) + 1) nA [] (qN, eN) = rdGatesA s (2 * (M : Int) + 1) (nA - k) G (qq, ee))) (fun v20 _ => nA - (intOf v20).toNat)
      case atStart => exact ⟨0, [], qN, eN, _, rfl, by omega, rfl, HQN.out, HXN.out, HGN.out.imp (fun _ h => ⟨h, rfl⟩)⟩
      case round =>
        clear hbk
        obtain ⟨k, G, qq, ee, vG, rfl, hk, hGn, hq, hA, hG⟩ := hrel
        obtain ⟨wp, rfl⟩ : ∃ wp : World, wp = wr := ⟨_, rfl⟩
        obtain ⟨ga, gc, el, -⟩ := hA.ls.g.form
        rw [List.length_map] at el
        subst el
        have l5 : wp.cell? ⟨w.heap.size, 5, none⟩ = some (.int .i64 (nA : Nat)) := hA.h.cell rfl
        have le : wp.cell? ⟨bp, 2, none⟩ = some (.int .i64 (ee : Nat)) := Blk.cell hA.p rfl
        have HA := Lib.hid hA
        have HGn := Lib.hid hGn
        have HQ := Lib.hid hq
        have HG := Lib.hid hG
        clear hA hGn hq hG HXN HXO HXD HXI
        have hbk : nA ≤ 16777216 := HNm.out.2.2.2.2.2.2.1
        go_upto_region 20 with fail
        go_cut [127] from 117 to 127 (fun s63 wx => s63 = .bool (decide (k < nA ∧ ee = 0)) ∧ wx = wp)
        case first =>
          by_cases h1 : k < nA
          · by_cases h2 : ee = 0
            · subst h2
              have t9 : decide (k < nA ∧ (0 : Nat) = 0) = true := by simp [h1]
              go_wp2_with fail
              go_meet
              case rel => exact ⟨by rw [t9], rfl⟩
            · have t8 : ((ee : Int) == 0) = false := by rw [beq_eq_false_iff_ne]; omega
              have t9 : decide (k < nA ∧ ee = 0) = false := by simp [h2]
              go_wp2_with fail
              go_meet
              case rel => exact ⟨by rw [t9], rfl⟩
          · have t9 : decide (k < nA ∧ ee = 0) = false := by simp [h1]
            go_wp2_with fail
            go_meet
            case rel => exact ⟨by rw [t9], rfl⟩
        case rest =>
        obtain ⟨rfl, rfl⟩ := hcut
        obtain ⟨wp, rfl⟩ : ∃ wp : World, wp = wc := ⟨_, rfl⟩
        by_cases hgo : k < nA ∧ ee = 0
        · have t9 : decide (k < nA ∧ ee = 0) = true := by simp only [hgo, and_self, decide_true]
          rw [t9]
          obtain ⟨hlt, rfl⟩ := hgo
          obtain ⟨j, hj⟩ : ∃ j, nA - k = j + 1 := ⟨nA - k - 1, by omega⟩
          have HJ := Lib.hid (show nA - (k + 1) = j by omega)
          have hE := HG.out.elim (fun h => h.2) (fun h => absurd rfl h.1)
          rw [hj] at hE
          have HE := Lib.hid hE
          clear hE hj HG t9 le
          obtain ⟨n1, c1, p1, e1, hr1⟩ : ∃ n c z e, rdL s (2 * (M : Int) + 1) ok32 (qq, 0) = (n, c, z, e) := ⟨_, _, _, _, rfl⟩
          have HR1 := Lib.hid hr1
          have HQ1 := Lib.hid (show p1 ≤ s.size by have := rdL_le (s := s) (top := 2 * (M : Int) + 1) (ok := ok32) (st := (qq, 0)) HQ.out; rw [hr1] at this; exact this)
          have HC1 := Lib.hid (HLit.out 32 32 ok32 ok32_xy qq 0 bp _ HQ.out HA.out.p)
          rw [hr1] at HC1
          unfold litP at HC1
          simp only at HC1
          obtain ⟨m1, hm1⟩ : ∃ m, (if e1 = 0 then n1 else 0) = m := ⟨_, rfl⟩
          rw [hm1] at HC1
          have HM1 := Lib.hid hm1
          clear hr1 hm1
          go_wp2_with fail
          refine HC1.out.mono ?_
          rintro o w1 ⟨rfl, hP1, hK1⟩
          have HA1 := Lib.hid (HA.out.rd hK1 hP1)
          clear hK1 hP1 HC1
          obtain ⟨n2, c2, p2, e2, hr2⟩ : ∃ n c z e, rdL s (2 * (M : Int) + 1) ok32 (p1, e1) = (n, c, z, e) := ⟨_, _, _, _, rfl⟩
          have HR2 := Lib.hid hr2
          have HQ2 := Lib.hid (show p2 ≤ s.size by have := rdL_le (s := s) (top := 2 * (M : Int) + 1) (ok := ok32) (st := (p1, e1)) HQ1.out; rw [hr2] at this; exact this)
          have HC2 := Lib.hid (HLit.out 32 32 ok32 ok32_xy p1 e1 bp _ HQ1.out HA1.out.p)
          rw [hr2] at HC2
          unfold litP at HC2
          simp only at HC2
          obtain ⟨m2, hm2⟩ : ∃ m, (if e2 = 0 then n2 else 0) = m := ⟨_, rfl⟩
          rw [hm2] at HC2
          have HM2 := Lib.hid hm2
          clear hr2 hm2
          go_wp2_with fail
          refine HC2.out.mono ?_
          rintro o w2 ⟨rfl, hP2, hK2⟩
          have HA2 := Lib.hid (HA1.out.rd hK2 hP2)
          clear hK2 hP2 HC2
          obtain ⟨n3, c3, p3, e3, hr3⟩ : ∃ n c z e, rdL s (2 * (M : Int) + 1) ok10 (p2, e2) = (n, c, z, e) := ⟨_, _, _, _, rfl⟩
          have HR3 := Lib.hid hr3
          have HQ3 := Lib.hid (show p3 ≤ s.size by have := rdL_le (s := s) (top := 2 * (M : Int) + 1) (ok := ok10) (st := (p2, e2)) HQ2.out; rw [hr3] at this; exact this)
          have HC3 := Lib.hid (HLit.out 10 10 ok10 ok10_xy p2 e2 bp _ HQ2.out HA2.out.p)
          rw [hr3] at HC3
          unfold litP at HC3
          simp only at HC3
          obtain ⟨m3, hm3⟩ : ∃ m, (if e3 = 0 then n3 else 0) = m := ⟨_, rfl⟩
          rw [hm3] at HC3
          have HM3 := Lib.hid hm3
          clear hr3 hm3
          go_wp2_with fail
          refine HC3.out.mono ?_
          rintro o w3 ⟨rfl, hP3, hK3⟩
          have HA3 := Lib.hid (HA2.out.rd hK3 hP3)
          clear hK3 hP3 HC3
          have HG9 := Lib.hid (show Goes R (p3, e3) ((rdLits s (2 * (M : Int) + 1) nI [] (p, 0) = (I, (qI, eI)) ∧ rdLatsA s (2 * (M : Int) + 1) nL [] (qI, eI) = (L, (q, e)) ∧ rdLits s (2 * (M : Int) + 1) nO [] (q, e) = (O, (qO, eO)) ∧ rdLits s (2 * (M : Int) + 1) nB [] (qO, eO) = (D, (qD, eD)) ∧ rdLits s (2 * (M : Int) + 1) nC [] (qD, eD) = (N, (qN, eN))) ∧ rdGatesA s (2 * (M : Int) + 1) nA [] (qN, eN) = rdGatesA s (2 * (M : Int) + 1) j (G ++ [((m1 : Int), (m2 : Int), (m3 : Int))]) (p3, e3)) from by
            by_cases h3 : e3 = 0
            · have he2 : e2 = 0 := by have := rdL_ok (s := s) (top := 2 * (M : Int) + 1) (ok := ok10) (st := (p2, e2)) (by rw [HR3.out]; exact h3); exact this
              have he1 : e1 = 0 := by have := rdL_ok (s := s) (top := 2 * (M : Int) + 1) (ok := ok32) (st := (p1, e1)) (by rw [HR2.out]; exact he2); exact this
              have hm1 := HM1.out
              rw [if_pos he1] at hm1
              have hm2 := HM2.out
              rw [if_pos he2] at hm2
              have hm3 := HM3.out
              rw [if_pos h3] at hm3
              subst hm1 hm2 hm3
              exact .inl ⟨h3, HE.out.1, by rw [HE.out.2]; exact rdGatesA_g HR1.out HR2.out HR3.out h3⟩
            · exact .inr ⟨h3, by rw [← HR.out]; exact rdA_sG (t := (p3, e3)) HE.out.1.1 HE.out.1.2.1 HE.out.1.2.2.1 HE.out.1.2.2.2.1 HE.out.1.2.2.2.2 (by rw [HE.out.2]; exact rdGatesA_s3 HR1.out HR2.out HR3.out h3)⟩)
          clear HM1 HM2 HM3
          go_upto_region 25 with fail
          have o2 := HA3.out.c.cell (i := 6) (v := .slice ga G.length gc) rfl
          have lo := HA3.out.c.lt
          have HNew := Lib.hid (Blk.new w3 #[.int .i64 (m1 : Nat), .int .i64 (m2 : Nat), .int .i64 (m3 : Nat)] 61)
          have HB8 := Lib.hid (HA3.out.kp0 ((Kp.refl _ w3).alloc (.cells #[.int .i64 (m1 : Nat), .int .i64 (m2 : Nat), .int .i64 (m3 : Nat)] 61)))
          go_wp2_with (at_builtin; refine wpList_appendK rfl _ _ 24 61 rfl Tryz.underlying24 HIg.out rfl (by decide) HB8.out.ls.g rfl w3.heap.size [.int .i64 (m1 : Nat), .int .i64 (m2 : Nat), .int .i64 (m3 : Nat)] rfl rfl ?n0 ?m0 ?n1 ?n2 ?n3 ?_)
          case n0 => exact fun j u hj => HNew.out.cell (i := j) (by simpa using hj)
          case m0 => intro u hu; simp at hu; rcases hu with rfl | rfl | rfl <;> rfl
          case n1 => rw [List.length_map, HGn.out]; omega
          case n2 => rw [List.length_map, HGn.out]; unfold maxLen; omega
          case n3 => exact HB8.out.hi.2.2
          intro v' w9 hO9 hg9 hat9
          have hk9 : Kp (fun j => (.slice ga G.length gc : Value).ownBlock = some j) _ w9 := (Kp.refl _ _).grown hg9 (fun j hj _ => hj)
          have hput := HB8.out.grownG (G' := G ++ [((m1 : Int), (m2 : Int), (m3 : Int))]) hg9 (by rw [List.map_append]; exact hO9)
          have hcb := HB8.out.c.kp hk9 (fun h => by have := (HB8.out.ls.g.lt _ h).1; have := HB8.out.hi; have := HB8.out.kp.size; omega)
          obtain ⟨la', lc', ev, -⟩ := hO9.form
          rw [List.length_append, List.length_map, List.length_singleton] at ev
          subst ev
          have o2 := hcb.cell (i := 6) (v := .slice ga G.length gc) rfl
          have f2 := hcb.free 6
          have HF := Lib.hid hput
          clear hO9 hg9 hat9 hk9 hput hcb HNew HB8 
          go_wp2_with fail
          go_roundw
          case rel => exact ⟨k + 1, G ++ [((m1 : Int), (m2 : Int), (m3 : Int))], p3, e3, _, by go_num, by omega, by rw [List.length_append, HGn.out]; rfl, HQ3.out, HF.out, by rw [HJ.out]; exact HG9.out⟩
          case measure => simp [intOf]; omega
        · have t9 : decide (k < nA ∧ ee = 0) = false := by simp only [hgo, decide_false]
          rw [t9]
          have HGG := Lib.hid (show Goes R (qq, ee) (R = (⟨(M : Int), I, L, O, D, N, G⟩, (qq, ee))) from HG.out.imp (fun h0 h => by
            have hk2 : nA - k = 0 := by have h00 : ee = 0 := h0; omega
            have h5 := h.2
            rw [hk2] at h5
            rw [← HR.out]
            exact rdA_fin h.1.1 h.1.2.1 h.1.2.2.1 h.1.2.2.2.1 h.1.2.2.2.2 (show _ = (G, (qq, ee)) from h5)))
          clear HG t9 hgo l5
          have l1 : wp.cell? ⟨bp, 1, none⟩ = some (.int .i64 (qq : Nat)) := Blk.cell HA.out.p rfl
          have hzr : Blk wp (w.heap.size + 1) #[.int .i64 0, .slice none 0 0, .slice none 0 0, .slice none 0 0, .slice none 0 0, .slice none 0 0, .slice none 0 0, .slice none 0 0, .string ⟨#[]⟩] 27 := HA.out.r
          obtain ⟨z0, z1, z2, z3, z4, z5, z6, z7, z8⟩ := hzr.cells9
          have fc := hzr.free
          clear hzr
          have fc0 := fc 0
          have fc1 := fc 1
          have fc2 := fc 2
          have fc3 := fc 3
          have fc4 := fc 4
          have fc5 := fc 5
          have fc6 := fc 6
          have fc7 := fc 7
          have fc8 := fc 8
          clear fc
          have na1 : bp ≠ w.heap.size + 1 := by have := HA.out.ne; omega
          have na2 : w.heap.size + 1 ≠ bp := by have := HA.out.ne; omega
          have na3 : bo ≠ w.heap.size + 1 := by have := HA.out.ne; omega
          have na4 : w.heap.size + 1 ≠ bo := by have := HA.out.ne; omega
          by_cases he : ee = 0
          · subst he
            have HFi := Lib.hid (HGG.out.elim (fun h => h.2) (fun h => absurd rfl h.1))
            obtain ⟨o0, o1, o2, o3, o4, o5, o6, o7, o8⟩ := HA.out.c.cells9
            clear HGG
            go_upto_region 28 with fail
            go_region
            all_goals go_wp2_with fail
            all_goals
              have hF := HA.out.fin (.int .i64 (M : Int)) (.slice ia I.length ic) (.slice la L.length lc) (.slice oa O.length oc) (.slice da D.length dc) (.slice na N.length nc) (.slice ga G.length gc) (.slice none 0 0) (.string ⟨#[]⟩)
              unfold Go.Proofs.YtckmdcmkjmpiaaaGreatDoor.set9 at hF
              obtain ⟨hB, hK, hO⟩ := hF
              have hO := LsO.low hO ((Kp.refl (fun _ => False) _).drew) (fun _ h => h.elim)
              obtain ⟨s0, s1, s2, s3, s4, s5, s6, s7, s8⟩ := hB.drew.cells9
              rw [HFi.out]
              refine bodyPost_ret (v := .tuple #[.agg #[.int .i64 (M : Int), .slice ia I.length ic, .slice la L.length lc, .slice oa O.length oc, .slice da D.length dc, .slice na N.length nc, .slice ga G.length gc, .slice none 0 0, .string ⟨#[]⟩], .int .i64 (qq : Nat), .int .i64 0]) (by simp [results, Tryz.results18, go_sem, s0, s1, s2, s3, s4, s5, s6, s7, s8]) rfl ⟨.inr ⟨rfl, ⟨ia, ic, la, lc, oa, oc, da, dc, na, nc, ga, gc, none, 0, 0, ⟨#[]⟩⟩, rfl, ?_, rfl, rfl, rfl, rfl⟩, hK.drew⟩
              exact BKeep.mono (rdC_keep (B := w.heap.size + 4) ⟨ownForm hO.i, hO.l.form, ownForm hO.o, ownForm hO.d, ownForm hO.n, hO.g.form⟩) (by omega)
          · have q1 : ((ee : Int) != 0) = true := by simp; omega
            have HSt := Lib.hid (HGG.out.elim (fun h => absurd h.1 he) (fun h => h.2))
            have HE := Lib.hid he
            clear HGG he
            go_upto_region 27 with fail
            go_region
            all_goals go_wp2_with fail
            all_goals
              have hF := HA.out.fin (.int .i64 0) (.slice none 0 0) (.slice none 0 0) (.slice none 0 0) (.slice none 0 0) (.slice none 0 0) (.slice none 0 0) (.slice none 0 0) (.string ⟨#[]⟩)
              unfold Go.Proofs.YtckmdcmkjmpiaaaGreatDoor.set9 at hF
              obtain ⟨hB, hK, hO⟩ := hF
              obtain ⟨s0, s1, s2, s3, s4, s5, s6, s7, s8⟩ := hB.drew.cells9
              have h2 : R.2.2 ≠ 0 := by rw [HSt.out]; exact HE.out
              refine bodyPost_ret (v := .tuple #[.agg zc9, .int .i64 (qq : Nat), .int .i64 (ee : Nat)]) (by simp [results, Tryz.results18, go_sem, s0, s1, s2, s3, s4, s5, s6, s7, s8, zc9]) rfl ⟨.inl ⟨h2, by rw [HSt.out]⟩, hK.drew⟩
end Go.Proofs.YtckmdcmkjmpiaaaGreatDoor

/-
  latchetref14.delta: the next number by digits of seven bits, in bounds.
-/
namespace Go.Proofs.YtckmdcmkjmpiaaaGreatDoor
open Go.RowKit

theorem getT_nat {s : ByteArray} {p : Nat} (hp : p ≤ s.size) : getT s (p : Int) = getN s p := by
  unfold getT
  rw [if_neg (by omega), Int.toNat_natCast]
def deltaP (s : ByteArray) (b : Nat) (r : Nat × Nat × Nat) (w : World) (o : Ending) (w' : World) : Prop :=
  o = .returned (.int .i64 (r.1 : Nat)) ∧ PL w' b s r.2 ∧ Kp (fun j => j = b) w w'

set_option maxRecDepth 100000 in
set_option maxHeartbeats 4000000 in
theorem ref14_delta (s : ByteArray) (b p e : Nat) (least top : Int) (w : World) (hs : s.size ≤ 1000000) (hp : p ≤ s.size) (hB : PL w b s (p, e)) :
    Calls Tryz.prog 47 #[.pointer (some ⟨b, 0, none⟩), .int .i64 least, .int .i64 top] w (deltaP s b (rdG s least top (p, e)) w) := by
  have HB := Lib.hid hB
  have c0 : w.cell? ⟨b, 0, none⟩ = some (.string s) := Blk.cell hB rfl
  have c1 : w.cell? ⟨b, 1, none⟩ = some (.int .i64 (p : Nat)) := Blk.cell hB rfl
  have c2 : w.cell? ⟨b, 2, none⟩ = some (.int .i64 (e : Nat)) := Blk.cell hB rfl
  have f1 := Blk.free hB 1
  have f2 := Blk.free hB 2
  obtain ⟨F, hF1, hF2⟩ := still_class w
  have HF1 := Lib.hid hF1
  have HF2 := Lib.hid hF2
  have m0 : ∀ y, (F y).cell? ⟨b, 0, none⟩ = some (.string s) := fun y => Blk.cell (Blk.kp hB (hF1 y) (fun h => h)) rfl
  have m1 : ∀ y, (F y).cell? ⟨b, 1, none⟩ = some (.int .i64 (p : Nat)) := fun y => Blk.cell (Blk.kp hB (hF1 y) (fun h => h)) rfl
  have m2 : ∀ y, (F y).cell? ⟨b, 2, none⟩ = some (.int .i64 (e : Nat)) := fun y => Blk.cell (Blk.kp hB (hF1 y) (fun h => h)) rfl
  have g1 : ∀ y, (F y).frozen? ⟨b, 1, none⟩ = false := fun y => Blk.free (Blk.kp hB (hF1 y) (fun h => h)) 1
  have g2 : ∀ y, (F y).frozen? ⟨b, 2, none⟩ = false := fun y => Blk.free (Blk.kp hB (hF1 y) (fun h => h)) 2
  have HN := Lib.hid (fun y => (ref_Get s p (F y) (by omega)).mono (R' := fun e w' => e = .returned (tripV (getT s p)) ∧ Kp (fun _ => False) (F y) w') (fun e w' ⟨h1, h2⟩ => ⟨h1, h2 ▸ Kp.refl _ _⟩))
  rw [getT_nat hp] at HN
  clear hF1 hF2
  obtain ⟨n, q, e2, hN⟩ : ∃ n q e2, getN s p = (n, q, e2) := ⟨_, _, _, rfl⟩
  rw [hN] at HN
  unfold tripV at HN
  have hw : wrap64 (n : Int) = (n : Int) := by
    have h3 := getR_lt s p 5 0 0 rfl (by decide)
    have h4 : (getN s p).1 = n := by rw [hN]
    unfold getN at h4
    rw [h4] at h3
    unfold wrap64
    omega
  clear hB hs hp
  by_cases he : e = 0
  · subst he
    by_cases h2 : e2 = 0
    · subst h2
      by_cases h1 : (n : Int) < least
      · have HR := Lib.hid (show rdG s least top (p, 0) = (0, p, 5) by unfold rdG; simp [hN, h1])
        have t1 : decide ((n : Int) < least) = true := decide_eq_true h1
        clear hN h1
        go_enter Tryz.func47, Tryz.ntmps47
        go_upto_region 3 with fail
        refine wp_region_kept (by kernel_rfl) (by kernel_rfl) HF2.out ?_
        repeat (go_big_quiet_step (with_reducible first | exact Calls.still_of HF1.out HF2.out (HN.out _)))
        refine wpQuiet_nil ?_
        rintro wB ⟨z, rfl⟩
        go_wp2_with fail
        go_ret
        rw [HR.out]
        exact ⟨rfl, HB.out.err _ (HF1.out z)⟩
      · have t1 : decide ((n : Int) < least) = false := decide_eq_false h1
        by_cases h3 : top < (n : Int)
        · have HR := Lib.hid (show rdG s least top (p, 0) = (0, p, 5) by unfold rdG; simp [hN, h3])
          have t2 : decide (top < (n : Int)) = true := decide_eq_true h3
          clear hN h1 h3
          go_enter Tryz.func47, Tryz.ntmps47
          go_upto_region 3 with fail
          refine wp_region_kept (by kernel_rfl) (by kernel_rfl) HF2.out ?_
          repeat (go_big_quiet_step (with_reducible first | exact Calls.still_of HF1.out HF2.out (HN.out _)))
          refine wpQuiet_nil ?_
          rintro wB ⟨z, rfl⟩
          go_wp2_with fail
          go_ret
          rw [HR.out]
          exact ⟨rfl, HB.out.err _ (HF1.out z)⟩
        · have t2 : decide (top < (n : Int)) = false := decide_eq_false h3
          have HR := Lib.hid (show rdG s least top (p, 0) = (n, q, 0) by unfold rdG; simp [hN, h1, h3])
          clear hN h1 h3
          go_enter Tryz.func47, Tryz.ntmps47
          go_upto_region 3 with fail
          refine wp_region_kept (by kernel_rfl) (by kernel_rfl) HF2.out ?_
          repeat (go_big_quiet_step (with_reducible first | exact Calls.still_of HF1.out HF2.out (HN.out _)))
          refine wpQuiet_nil ?_
          rintro wB ⟨z, rfl⟩
          go_wp2_with fail
          go_ret
          rw [HR.out]
          exact ⟨by first | rfl | (show Ending.returned (Value.int .i64 (wrap64 (n : Int))) = _; rw [hw]), HB.out.at_ q (HF1.out z)⟩
    · have HR := Lib.hid (show rdG s least top (p, 0) = (0, p, e2) by unfold rdG; simp [hN, h2])
      have t1 : ((e2 : Int) == 0) = false := by rw [beq_eq_false_iff_ne]; omega
      have t2 : ((e2 : Int) != 0) = true := by simp; omega
      clear hN h2
      go_enter Tryz.func47, Tryz.ntmps47
      go_upto_region 3 with fail
      refine wp_region_kept (by kernel_rfl) (by kernel_rfl) HF2.out ?_
      repeat (go_big_quiet_step (with_reducible first | exact Calls.still_of HF1.out HF2.out (HN.out _)))
      refine wpQuiet_nil ?_
      rintro wB ⟨z, rfl⟩
      go_wp2_with fail
      go_ret
      rw [HR.out]
      exact ⟨rfl, HB.out.err _ (HF1.out z)⟩
  · have HR := Lib.hid (show rdG s least top (p, e) = (0, p, e) from rdG_stay he)
    have t1 : ((e : Int) != 0) = true := by simp; omega
    clear hN he
    go_enter Tryz.func47, Tryz.ntmps47
    go_wp2_with fail
    go_ret
    rw [HR.out]
    exact ⟨rfl, HB.out, Kp.refl _ _⟩

end Go.Proofs.YtckmdcmkjmpiaaaGreatDoor

/-
  latchetref14.Read of any text. (Printed by mkascrefb.py.)
-/
namespace Go.Proofs.YtckmdcmkjmpiaaaGreatDoor
open Go.RowKit

section
variable {s : ByteArray} {top : Int} {I j k : Nat} {L : List (Int × Int × Int)} {st t t2 t3 : Nat × Nat} {n c n2 c2 n3 c3 : Nat}
theorem rdLatsP_stay (h : st.2 ≠ 0) : (rdLatsP s top I j k L st).2 = st := by
  cases j with
  | zero => rfl
  | succ j =>
    rw [rdLatsP_succ, rdD_stay h]
    simp only
    rw [rdS_stay h]
    rfl
theorem rdLatsP_one (h1 : rdL s top okB st = (n, c, t)) : rdLatsP s top I (j + 1) k L st =
    if c = 32 then rdLatsP s top I j (k + 1) (L ++ [(2 * ((I + k : Nat) : Int) + 2, (n : Int), ((rdL s top ok10 t).1 : Int))]) (rdL s top ok10 t).2.2
    else if c = 0 then (L, t) else rdLatsP s top I j (k + 1) (L ++ [(2 * ((I + k : Nat) : Int) + 2, (n : Int), 0)]) t := by
  have e1 : (rdD s top st).1 = n := (Prod.mk.inj h1).1
  have e2 : rdS s (fun c => c == 32 || c == 10) (rdD s top st).2 = (c, t) := (Prod.mk.inj h1).2
  rw [rdLatsP_succ, e1, e2]
  rfl
theorem rdLatsP_st (h1 : rdL s top okB st = (n, c, t)) (ht : t.2 ≠ 0) : (rdLatsP s top I (j + 1) k L st).2 = t := by
  rw [rdLatsP_one h1, (rdL_c h1).1 ht]
  rfl
theorem rdLatsP_g2 (h1 : rdL s top okB st = (n, c, t)) (ht : t.2 = 0) (hc : c ≠ 32) : rdLatsP s top I (j + 1) k L st = rdLatsP s top I j (k + 1) (L ++ [(2 * ((I + k : Nat) : Int) + 2, (n : Int), 0)]) t := by
  have h2 : okB c = true := (rdL_c h1).2 ht
  have h3 : c ≠ 0 := by rintro rfl; exact absurd h2 (by decide)
  rw [rdLatsP_one h1, if_neg hc, if_neg h3]
theorem rdLatsP_g3 (h1 : rdL s top okB st = (n, c, t)) (hc : c = 32) (h3 : rdL s top ok10 t = (n3, c3, t3)) : rdLatsP s top I (j + 1) k L st = rdLatsP s top I j (k + 1) (L ++ [(2 * ((I + k : Nat) : Int) + 2, (n : Int), (n3 : Int))]) t3 := by
  rw [rdLatsP_one h1, if_pos hc, h3]
theorem rdGatesP_st (h1 : rdG s 1 (2 * ((I + k : Nat) : Int) + 2) st = (n, t)) (h2 : rdG s 0 (2 * ((I + k : Nat) : Int) + 2 - (n : Int)) t = (n2, t2)) (ht : t2.2 ≠ 0) : (rdGatesP s I (j + 1) k L st).2 = t2 := by
  rw [rdGatesP_succ, h1]
  simp only
  rw [h2]
  simp only
  rw [if_pos ht]
theorem rdGatesP_go (h1 : rdG s 1 (2 * ((I + k : Nat) : Int) + 2) st = (n, t)) (h2 : rdG s 0 (2 * ((I + k : Nat) : Int) + 2 - (n : Int)) t = (n2, t2)) (ht : t2.2 = 0) : rdGatesP s I (j + 1) k L st = rdGatesP s I j (k + 1) (L ++ [(2 * ((I + k : Nat) : Int) + 2, 2 * ((I + k : Nat) : Int) + 2 - (n : Int), 2 * ((I + k : Nat) : Int) + 2 - (n : Int) - (n2 : Int))]) t2 := by
  rw [rdGatesP_succ, h1]
  simp only
  rw [h2]
  simp only
  rw [if_neg (by simp [ht])]
end
section
variable {s : ByteArray} {M : Int} {nI nL nO nA nB nC : Nat} {st t t1 t2 t3 t4 t5 : Nat × Nat} {O D N : List Int} {L G : List (Int × Int × Int)}
theorem rdC_sO (hL : rdLatsP s (2 * M + 1) nI nL 0 [] st = (L, t2)) (h : (rdLits s (2 * M + 1) nO [] t2).2 = t) (ht : t.2 ≠ 0) : (rdC s M nI nL nO nA nB nC st).2 = t := by
  unfold rdC
  simp only [hL, h]
  rw [rdLits_stay (st := t) ht, rdLits_stay (st := t) ht, rdGatesP_stay ht]
theorem rdC_sB (hL : rdLatsP s (2 * M + 1) nI nL 0 [] st = (L, t2)) (hO : rdLits s (2 * M + 1) nO [] t2 = (O, t3)) (h : (rdLits s (2 * M + 1) nB [] t3).2 = t) (ht : t.2 ≠ 0) : (rdC s M nI nL nO nA nB nC st).2 = t := by
  unfold rdC
  simp only [hL, hO, h]
  rw [rdLits_stay (st := t) ht, rdGatesP_stay ht]
theorem rdC_sC (hL : rdLatsP s (2 * M + 1) nI nL 0 [] st = (L, t2)) (hO : rdLits s (2 * M + 1) nO [] t2 = (O, t3)) (hD : rdLits s (2 * M + 1) nB [] t3 = (D, t4)) (h : (rdLits s (2 * M + 1) nC [] t4).2 = t) (ht : t.2 ≠ 0) : (rdC s M nI nL nO nA nB nC st).2 = t := by
  unfold rdC
  simp only [hL, hO, hD, h]
  rw [rdGatesP_stay ht]
theorem rdC_sG (hL : rdLatsP s (2 * M + 1) nI nL 0 [] st = (L, t2)) (hO : rdLits s (2 * M + 1) nO [] t2 = (O, t3)) (hD : rdLits s (2 * M + 1) nB [] t3 = (D, t4)) (hN : rdLits s (2 * M + 1) nC [] t4 = (N, t5)) (h : (rdGatesP s (nI + nL) nA 0 [] t5).2 = t) : (rdC s M nI nL nO nA nB nC st).2 = t := by
  unfold rdC
  simp only [hL, hO, hD, hN, h]
theorem rdC_end (hL : rdLatsP s (2 * M + 1) nI nL 0 [] st = (L, t2)) (hO : rdLits s (2 * M + 1) nO [] t2 = (O, t3)) (hD : rdLits s (2 * M + 1) nB [] t3 = (D, t4)) (hN : rdLits s (2 * M + 1) nC [] t4 = (N, t5)) (h : rdGatesP s (nI + nL) nA 0 [] t5 = (G, t)) : rdC s M nI nL nO nA nB nC st = (⟨M, insP nI, L, O, D, N, G⟩, t) := by
  unfold rdC
  simp only [hL, hO, hD, hN, h]
end

set_option maxRecDepth 100000 in
set_option maxHeartbeats 16000000 in
theorem ref14_Read (s : ByteArray) (p : Nat) (bin : Bool) (M nI nL nO nA nB nC : Nat) (w : World) (hs : s.size ≤ 1000000) (hp : p ≤ s.size) (hM : M ≤ 16777216) (hI : nI ≤ 16777216) (hL : nL ≤ 16777216) (hO : nO ≤ 16777216) (hA : nA ≤ 16777216) (hBd : nB ≤ 16777216) (hC : nC ≤ 16777216) :
    Calls Tryz.prog 19 #[.string s, .int .i64 (p : Nat), .agg (hdA bin M nI nL nO nA nB nC)] w fun e w' => BinReadP (rdC s (M : Int) nI nL nO nA nB nC (p, 0)) w e w' := by
  have d1 : (decide ((p : Int) < 0) || decide ((s.size : Int) < (p : Int))) = false := by simp; omega
  have d2 : decide ((p : Int) < 0) = false := by simp
  have d3 : decide (s.size < p) = false := by simp; omega
  have HIl := Lib.hid (show (Tryz.prog.info? 59).map (fun i => (i.zero, i.size, i.bytes)) = some (some (.agg #[.int .i64 0, .int .i64 0, .int .i64 0]), 3, 24) by kernel_rfl)
  have HIg := Lib.hid (show (Tryz.prog.info? 61).map (fun i => (i.zero, i.size, i.bytes)) = some (some (.agg #[.int .i64 0, .int .i64 0, .int .i64 0]), 3, 24) by kernel_rfl)
  obtain ⟨R, hR⟩ : ∃ R, rdC s (M : Int) nI nL nO nA nB nC (p, 0) = R := ⟨_, rfl⟩
  rw [hR]
  have HR := Lib.hid hR
  have HNm := Lib.hid (And.intro hs (And.intro hp (And.intro hM (And.intro hI (And.intro hL (And.intro hO (And.intro hA (And.intro hBd hC))))))))
  obtain ⟨wz, hwz⟩ : ∃ wz : World, wz = (w.alloc (.cells (hdA bin M nI nL nO nA nB nC) 42)).alloc (.cells zc9 27) := ⟨_, rfl⟩
  have HB := Lib.hid (ref_four w (hdA bin M nI nL nO nA nB nC) zc9 42 27)
  rw [show (w.alloc (.cells (hdA bin M nI nL nO nA nB nC) 42)).alloc (.cells zc9 27) = wz from hwz.symm] at HB
  have HZ := Lib.hid hwz
  have HLit := Lib.hid (fun (x y : Nat) (ok : Nat → Bool) (hok : ∀ c, ok c = (c == x || c == y)) (q e bp : Nat) (u : World) (hq : q ≤ s.size) (hL : PL u bp s (q, e)) => ref13_Lit s bp q e x y (2 * (M : Int) + 1) ok u hs hq hok hL)
  have HDel := Lib.hid (fun (least top : Int) (q e bp : Nat) (u : World) (hq : q ≤ s.size) (hL : PL u bp s (q, e)) => ref14_delta s bp q e least top u hs hq hL)
  have HLits := Lib.hid (fun (many q e bp : Nat) (hm : many ≤ 16777216) (hq : q ≤ s.size) (u : World) (hL : PL u bp s (q, e)) => ref14_lits s bp many (q, e) (2 * (M : Int) + 1) u hs hq (by omega) hL)
  clear hwz hR hs hp hM hI hL hO hA hBd hC
  unfold hdA
  go_enter Tryz.func19, Tryz.ntmps19
  go_upto_region 3 with fail
  rw [show (w.alloc (.cells #[.bool bin, .int .i64 (M : Nat), .int .i64 (nI : Nat), .int .i64 (nL : Nat), .int .i64 (nO : Nat), .int .i64 (nA : Nat), .int .i64 (nB : Nat), .int .i64 (nC : Nat)] 42)).alloc (.cells #[.int .i64 0, .slice none 0 0, .slice none 0 0, .slice none 0 0, .slice none 0 0, .slice none 0 0, .slice none 0 0, .slice none 0 0, .string ⟨#[]⟩] 27) = wz from HZ.out.symm]
  go_cut [9, 10, 11] from 32 to 42 (fun s9 s10 s11 wx => ∃ bp bo, s9 = .pointer (some ⟨bp, 0, none⟩) ∧ s10 = .pointer (some ⟨bo, 0, none⟩) ∧ s11 = .int .i64 (2 * (M : Int) + 1) ∧ RS w wx (hdA bin M nI nL nO nA nB nC) s bp bo (w.heap.size + 4) (p, 0) (M : Int) (.slice none 0 0) (.slice none 0 0) (.slice none 0 0) (.slice none 0 0) (.slice none 0 0) (.slice none 0 0) [] [] [] [] [] [])
  case first =>
    have HH := Lib.hid (fun u (hK : Kp (fun j => w.heap.size + 2 ≤ j) wz u) => (HB.out.1.kp hK (by omega)).cell (i := 1) (v := .int .i64 (M : Nat)) rfl)
    have h1 := HH.out _ (Kp.refl _ _)
    have HW := Lib.hid (HB.out.2.2.2)
    clear d1 d2 d3 HZ
    go_region_held3 (fun u => u.cell? ⟨w.heap.size, 1, none⟩ = some (.int .i64 (M : Nat))) (exact HH.out _ (by repeat (with_reducible first | exact Kp.refl _ _ | apply Kp.alloc | apply Kp.drew | (refine Kp.setCell ?_ (fun _ => ?_) _ <;> first | (simp; omega) | skip)))) (fail)
    all_goals go_wp2_with fail
    all_goals go_meet
    all_goals first
      | (refine ⟨_, _, rfl, rfl, by rw [ref_wrap HNm.out.2.2.1], ref_start HB.out (ref_blk2 _ _ _ _ _).1 (ref_blk2 _ _ _ _ _).2.1 (ref_blk2 _ _ _ _ _).2.2.1 ?_ ?_ ?_ ?_⟩ <;> first | (rw [(ref_blk2 _ _ _ _ _).2.2.2]; have := HW.out; omega) | (have := HW.out; omega))
      | (refine ⟨_, _, rfl, rfl, by rw [ref_wrap HNm.out.2.2.1], ref_start HB.out (ref_blk2 _ _ _ _ _).2.1 (ref_blk2 _ _ _ _ _).1 (ref_blk2 _ _ _ _ _).2.2.1 ?_ ?_ ?_ ?_⟩ <;> first | (rw [(ref_blk2 _ _ _ _ _).2.2.2]; have := HW.out; omega) | (have := HW.out; omega))
  case rest =>
  obtain ⟨bp, bo, rfl, rfl, rfl, hR⟩ := hcut
  have HX := Lib.hid hR
  clear hR d1 d2 d3 HB HZ
  go_wp2_with fail
  go_loopw [12] (fun v12 wr => ∃ (k : Nat) (vI : Value), v12 = .int .i64 k ∧ k ≤ nI ∧ RS w wr (hdA bin M nI nL nO nA nB nC) s bp bo (w.heap.size + 4) (p, 0) (M : Int) vI (.slice none 0 0) (.slice none 0 0) (.slice none 0 0) (.slice none 0 0) (.slice none 0 0) (insP k) [] [] [] [] []) (fun v12 _ => nI - (intOf v12).toNat)
  case atStart => exact ⟨0, _, rfl, by omega, HX.out⟩
  case round =>
    obtain ⟨k, vI, rfl, hk, hA⟩ := hrel
    obtain ⟨wp, rfl⟩ : ∃ wp : World, wp = wr := ⟨_, rfl⟩
    obtain ⟨ia, ic, el, -⟩ := hA.ls.i.form
    rw [iv_length] at el
    have HKl := Lib.hid (show (insP k).length = k by simp [insP])
    subst el
    have h2 : wp.cell? ⟨w.heap.size, 2, none⟩ = some (.int .i64 (nI : Nat)) := hA.h.cell rfl
    have HA := Lib.hid hA
    clear hA HX
    have hbk : nI ≤ 16777216 := HNm.out.2.2.2.1
    by_cases hlt : k < nI
    · have o2 := HA.out.c.cell (i := 1) (v := .slice ia (insP k).length ic) rfl
      have lo := HA.out.c.lt
      have wint := wint_info
      have HNew := Lib.hid (Blk.new wp #[.int .i64 (2 * (k : Int) + 2)] 3)
      have HB8 := Lib.hid (HA.out.kp0 ((Kp.refl _ wp).alloc (.cells #[.int .i64 (2 * (k : Int) + 2)] 3)))
      go_upto_region 7 with fail
      go_wp2_with (at_builtin; refine wpList_append1_at rfl _ _ 22 3 rfl Tryz.underlying22 wint rfl HB8.out.ls.i rfl ⟨wp.heap.size, 0, none⟩ (.int .i64 (2 * (k : Int) + 2)) rfl (HNew.out.cell rfl) rfl ?d1 ?d2 ?d3 ?_)
      case d1 => rw [iv_length, HKl.out]; omega
      case d2 => rw [iv_length, HKl.out]; unfold maxLen; omega
      case d3 => exact HB8.out.hi.2.2
      intro v' w9 hO9 hg9 hat9
      have hk9 : Kp (fun j => (.slice ia (insP k).length ic : Value).ownBlock = some j) _ w9 := (Kp.refl _ _).grown hg9 (fun j hj _ => hj)
      have hins : insP (k + 1) = insP k ++ [2 * (k : Int) + 2] := by simp [insP, List.range_succ]
      have hO8 : Own w9 (w.heap.size + 4) 3 v' (iv (insP (k + 1))) := by rw [hins, iv_append]; exact hO9
      have hput := HB8.out.grow (v0 := .slice ia (insP k).length ic) (I' := insP (k + 1)) (L' := []) (O' := []) (D' := []) (N' := []) (G' := []) hg9 (fun j hj => (HB8.out.ls.i.lt j hj).1) 1 v' rfl (fun _ => ⟨hO8, OwnK.nil _ _ _ _, Own.nil _ _ _, Own.nil _ _ _, Own.nil _ _ _, OwnK.nil _ _ _ _⟩)
      have hcb := HB8.out.c.kp hk9 (fun h => by have := (HB8.out.ls.i.lt _ h).1; have := HB8.out.hi; omega)
      obtain ⟨la', lc', ev, -⟩ := hO8.form
      rw [iv_length] at ev
      subst ev
      have o2 := hcb.cell (i := 1) (v := .slice ia (insP k).length ic) rfl
      have f2 := hcb.free 1
      have HF := Lib.hid hput
      clear hO9 hg9 hat9 hk9 hput hcb HNew HB8 hO8 hins
      go_wp2_with fail
      go_roundw
      case rel => exact ⟨k + 1, _, by go_num, by omega, HF.out⟩
      case measure => simp [intOf]; omega
    · obtain rfl : nI = k := by omega
      obtain ⟨I, hI⟩ : ∃ I, insP nI = I := ⟨_, rfl⟩
      rw [hI] at HA HKl
      have HI := Lib.hid hI
      clear hI hlt hk
      go_upto_region 8 with fail
      clear hbk h2
      go_wp2_with fail
      go_loopw [13] (fun v13 wr => ∃ (k : Nat) (L : List (Int × Int × Int)) (q e : Nat) (vL : Value), v13 = .int .i64 k ∧ k ≤ nL ∧ L.length = k ∧ q ≤ s.size ∧ RS w wr (hdA bin M nI nL nO nA nB nC) s bp bo (w.heap.size + 4) (q, e) (M : Int) (.slice ia I.length ic) vL (.slice none 0 0) (.slice none 0 0) (.slice none 0 0) (.slice none 0 0) I L [] [] [] [] ∧ Goes R (q, e) (rdLatsP s (2 * (M : Int) + 1) nI nL 0 [] (p, 0) = rdLatsP s (2 * (M : Int) + 1) nI (nL - k) k L (q, e))) (fun v13 _ => nL - (intOf v13).toNat)
      case atStart => exact ⟨0, [], p, 0, _, rfl, by omega, rfl, HNm.out.2.1, HA.out, .inl ⟨rfl, rfl⟩⟩
      case round =>
        obtain ⟨k, L, q, e, vL, rfl, hk, hLn, hq, hA, hG⟩ := hrel
        obtain ⟨wp, rfl⟩ : ∃ wp : World, wp = wr := ⟨_, rfl⟩
        obtain ⟨la, lc, el, -⟩ := hA.ls.l.form
        rw [List.length_map] at el
        subst el
        have l2 : wp.cell? ⟨w.heap.size, 2, none⟩ = some (.int .i64 (nI : Nat)) := hA.h.cell rfl
        have l3 : wp.cell? ⟨w.heap.size, 3, none⟩ = some (.int .i64 (nL : Nat)) := hA.h.cell rfl
        have le : wp.cell? ⟨bp, 2, none⟩ = some (.int .i64 (e : Nat)) := Blk.cell hA.p rfl
        have HA := Lib.hid hA
        have HLn := Lib.hid hLn
        have HQ := Lib.hid hq
        have HG := Lib.hid hG
        clear hA hLn hq hG
        have hbk : nL ≤ 16777216 := HNm.out.2.2.2.2.1
        have hbi : nI ≤ 16777216 := HNm.out.2.2.2.1
        go_upto_region 9 with fail
        go_cut [67] from 57 to 67 (fun s63 wx => s63 = .bool (decide (k < nL ∧ e = 0)) ∧ wx = wp)
        case first =>
          by_cases h1 : k < nL
          · by_cases h2 : e = 0
            · subst h2
              have t9 : decide (k < nL ∧ (0 : Nat) = 0) = true := by simp [h1]
              go_wp2_with fail
              go_meet
              case rel => exact ⟨by rw [t9], rfl⟩
            · have t8 : ((e : Int) == 0) = false := by rw [beq_eq_false_iff_ne]; omega
              have t9 : decide (k < nL ∧ e = 0) = false := by simp [h2]
              go_wp2_with fail
              go_meet
              case rel => exact ⟨by rw [t9], rfl⟩
          · have t9 : decide (k < nL ∧ e = 0) = false := by simp [h1]
            go_wp2_with fail
            go_meet
            case rel => exact ⟨by rw [t9], rfl⟩
        case rest =>
        obtain ⟨rfl, rfl⟩ := hcut
        obtain ⟨wp, rfl⟩ : ∃ wp : World, wp = wc := ⟨_, rfl⟩
        by_cases hgo : k < nL ∧ e = 0
        · have t9 : decide (k < nL ∧ e = 0) = true := by simp only [hgo, and_self, decide_true]
          rw [t9]
          obtain ⟨hlt, rfl⟩ := hgo
          obtain ⟨j, hj⟩ : ∃ j, nL - k = j + 1 := ⟨nL - k - 1, by omega⟩
          have HJ := Lib.hid (show nL - (k + 1) = j by omega)
          have hE := HG.out.elim (fun h => h.2) (fun h => absurd rfl h.1)
          rw [hj] at hE
          have HE := Lib.hid hE
          obtain ⟨lt, hl⟩ : ∃ lt : Int, 2 * ((nI + k : Nat) : Int) + 2 = lt := ⟨_, rfl⟩
          clear hE hj HG t9 le
          go_upto_region 11 with fail
          go_cut [14] from 70 to 76 (fun s14 wx => s14 = .pointer (some ⟨wp.heap.size, 0, none⟩) ∧ wx = wp.alloc (.cells #[.int .i64 lt, .int .i64 0, .int .i64 0] 59))
          case first =>
            go_wp2_with fail
            go_meet
            case rel =>
              refine ⟨rfl, ?_⟩
              rw [← hl]
              first | rfl | (congr 4; go_num)
          case rest =>
          obtain ⟨rfl, rfl⟩ := hcut
          have HL := Lib.hid hl
          clear hl l2 l3
          have HA0 := Lib.hid (HA.out.kp0 ((Kp.refl _ wp).alloc (.cells #[.int .i64 lt, .int .i64 0, .int .i64 0] 59)))
          have HX0 := Lib.hid (Blk.new wp #[.int .i64 lt, .int .i64 0, .int .i64 0] 59)
          obtain ⟨n1, c1, p1, e1, hr1⟩ : ∃ n c z e, rdL s (2 * (M : Int) + 1) okB (q, 0) = (n, c, z, e) := ⟨_, _, _, _, rfl⟩
          have HR1 := Lib.hid hr1
          have HQ1 := Lib.hid (show p1 ≤ s.size by have := rdL_le (s := s) (top := 2 * (M : Int) + 1) (ok := okB) (st := (q, 0)) HQ.out; rw [hr1] at this; exact this)
          have HC1 := Lib.hid (HLit.out 32 10 okB okB_xy q 0 bp _ HQ.out HA0.out.p)
          rw [hr1] at HC1
          unfold litP at HC1
          simp only at HC1
          obtain ⟨m1, hm1⟩ : ∃ m, (if e1 = 0 then n1 else 0) = m := ⟨_, rfl⟩
          rw [hm1] at HC1
          have HM1 := Lib.hid hm1
          clear hr1 hm1
          go_wp2_with fail
          refine HC1.out.mono ?_
          rintro o w1 ⟨rfl, hP1, hK1⟩
          have HA1 := Lib.hid (HA0.out.rd hK1 hP1)
          have HX1 := Lib.hid (HX0.out.kp hK1 (by have := HA.out.p; have := Blk.lt this; omega))
          clear hK1 hP1 HC1
          have x1 := HX1.out.cell (i := 1) (v := .int .i64 0) rfl
          have g1 := HX1.out.free 1
          have HX1s := Lib.hid (show Blk (w1.setCell ⟨wp.heap.size, 1, none⟩ (.int .i64 (m1 : Nat))) wp.heap.size #[.int .i64 lt, .int .i64 (m1 : Nat), .int .i64 0] 59 from HX1.out.set_same 1 (.int .i64 (m1 : Nat)))
          have HA1s := Lib.hid (RS.fresh HA.out HA1.out (Kp.set w1 ⟨wp.heap.size, 1, none⟩ (.int .i64 (m1 : Nat))) (fun j e => Nat.le_of_eq e.symm))
          by_cases hc : c1 = 32
          · subst hc
            have he1 : e1 = 0 := Classical.byContradiction fun h => absurd ((rdL_c HR1.out).1 h) (by decide)
            subst he1
            have hm1 : n1 = m1 := by have := HM1.out; rwa [if_pos rfl] at this
            subst hm1
            clear HM1
            go_upto_region 15 with fail
            obtain ⟨wv, hwv⟩ : ∃ wv, wv = w1.setCell ⟨wp.heap.size, 1, none⟩ (.int .i64 (n1 : Nat)) := ⟨_, rfl⟩
            rw [← hwv] at HX1s HA1s ⊢
            clear hwv x1 g1 HX1 HA1
            obtain ⟨n3, c3, p3, e3, hr3⟩ : ∃ n c z e, rdL s (2 * (M : Int) + 1) ok10 (p1, 0) = (n, c, z, e) := ⟨_, _, _, _, rfl⟩
            have HR3 := Lib.hid hr3
            have HQ3 := Lib.hid (show p3 ≤ s.size by have := rdL_le (s := s) (top := 2 * (M : Int) + 1) (ok := ok10) (st := (p1, 0)) HQ1.out; rw [hr3] at this; exact this)
            have HC3 := Lib.hid (HLit.out 10 10 ok10 ok10_xy p1 0 bp _ HQ1.out HA1s.out.p)
            rw [hr3] at HC3
            unfold litP at HC3
            simp only at HC3
            obtain ⟨m3, hm3⟩ : ∃ m, (if e3 = 0 then n3 else 0) = m := ⟨_, rfl⟩
            rw [hm3] at HC3
            have HM3 := Lib.hid hm3
            clear hr3 hm3
            go_wp2_with fail
            refine HC3.out.mono ?_
            rintro o w3 ⟨rfl, hP3, hK3⟩
            have HA3 := Lib.hid (HA1s.out.rd hK3 hP3)
            have HX3 := Lib.hid (HX1s.out.kp hK3 (by have := HA.out.p; have := Blk.lt this; omega))
            clear hK3 hP3 HC3
            have x2 := HX3.out.cell (i := 2) (v := .int .i64 0) rfl
            have g2 := HX3.out.free 2
            have HX3s := Lib.hid (show Blk (w3.setCell ⟨wp.heap.size, 2, none⟩ (.int .i64 (m3 : Nat))) wp.heap.size #[.int .i64 lt, .int .i64 (n1 : Nat), .int .i64 (m3 : Nat)] 59 from HX3.out.set_same 2 (.int .i64 (m3 : Nat)))
            have HA3s := Lib.hid (RS.fresh HA.out HA3.out (Kp.set w3 ⟨wp.heap.size, 2, none⟩ (.int .i64 (m3 : Nat))) (fun j e => Nat.le_of_eq e.symm))
            have HG9 := Lib.hid (show Goes R (p3, e3) (rdLatsP s (2 * (M : Int) + 1) nI nL 0 [] (p, 0) = rdLatsP s (2 * (M : Int) + 1) nI j (k + 1) (L ++ [(lt, (n1 : Int), (m3 : Int))]) (p3, e3)) from by
              have h9 := rdLatsP_g3 (I := nI) (j := j) (k := k) (L := L) HR1.out rfl HR3.out
              rw [HL.out] at h9
              by_cases h3 : e3 = 0
              · have hm3 := HM3.out
                rw [if_pos h3] at hm3
                subst hm3
                exact .inl ⟨h3, by rw [HE.out]; exact h9⟩
              · exact .inr ⟨h3, by rw [← HR.out]; exact rdC_stop (t := (p3, e3)) (by rw [HE.out, h9]; exact rdLatsP_stay (st := (p3, e3)) h3) h3⟩)
            clear HX3 HA3 HM3
            obtain ⟨wx, hwx⟩ : ∃ wx, wx = w3.setCell ⟨wp.heap.size, 2, none⟩ (.int .i64 (m3 : Nat)) := ⟨_, rfl⟩
            rw [← hwx] at HA3s HX3s
            have HWx := Lib.hid hwx
            clear hwx
            go_upto_region 17 with fail
            rw [← HWx.out]
            clear HWx
            have z0 := HX3s.out.cell (i := 0) (v := .int .i64 lt) rfl
            have z1 := HX3s.out.cell (i := 1) (v := .int .i64 (n1 : Nat)) rfl
            have z2 := HX3s.out.cell (i := 2) (v := .int .i64 (m3 : Nat)) rfl
            have o2 := HA3s.out.c.cell (i := 2) (v := .slice la L.length lc) rfl
            have lo := HA3s.out.c.lt
            have HNew := Lib.hid (Blk.new wx #[.int .i64 lt, .int .i64 (n1 : Nat), .int .i64 (m3 : Nat)] 59)
            have HB8 := Lib.hid (HA3s.out.kp0 ((Kp.refl _ wx).alloc (.cells #[.int .i64 lt, .int .i64 (n1 : Nat), .int .i64 (m3 : Nat)] 59)))
            go_wp2_with (at_builtin; refine wpList_appendK rfl _ _ 23 59 rfl Tryz.underlying23 HIl.out rfl (by decide) HB8.out.ls.l rfl wx.heap.size [.int .i64 lt, .int .i64 (n1 : Nat), .int .i64 (m3 : Nat)] rfl rfl ?n0 ?m0 ?n1 ?n2 ?n3 ?_)
            case n0 => exact fun j u hj => HNew.out.cell (i := j) (by simpa using hj)
            case m0 => intro u hu; simp at hu; rcases hu with rfl | rfl | rfl <;> rfl
            case n1 => rw [List.length_map, HLn.out]; omega
            case n2 => rw [List.length_map, HLn.out]; unfold maxLen; omega
            case n3 => exact HB8.out.hi.2.2
            intro v' w9 hO9 hg9 hat9
            have hk9 : Kp (fun j => (.slice la L.length lc : Value).ownBlock = some j) _ w9 := (Kp.refl _ _).grown hg9 (fun j hj _ => hj)
            have hput := HB8.out.grown (L' := L ++ [((lt : Int), (n1 : Int), (m3 : Int))]) hg9 (by rw [List.map_append]; exact hO9)
            have hcb := HB8.out.c.kp hk9 (fun h => by have := (HB8.out.ls.l.lt _ h).1; have := HB8.out.hi; have := HB8.out.kp.size; omega)
            obtain ⟨la', lc', ev, -⟩ := hO9.form
            rw [List.length_append, List.length_map, List.length_singleton] at ev
            subst ev
            have o2 := hcb.cell (i := 2) (v := .slice la L.length lc) rfl
            have f2 := hcb.free 2
            have HF := Lib.hid hput
            clear hO9 hg9 hat9 hk9 hput hcb HNew HB8 z0 z1 z2
            go_wp2_with fail
            go_roundw
            case rel => exact ⟨k + 1, L ++ [(lt, (n1 : Int), (m3 : Int))], p3, e3, _, by go_num, by omega, by rw [List.length_append, HLn.out]; rfl, HQ3.out, HF.out, by rw [HJ.out]; exact HG9.out⟩
            case measure => simp [intOf]; omega
          · have hcq : ((c1 : Int) == 32) = false := by rw [beq_eq_false_iff_ne]; omega
            have HG9 := Lib.hid (show Goes R (p1, e1) (rdLatsP s (2 * (M : Int) + 1) nI nL 0 [] (p, 0) = rdLatsP s (2 * (M : Int) + 1) nI j (k + 1) (L ++ [(lt, (m1 : Int), 0)]) (p1, e1)) from by
              by_cases h2 : e1 = 0
              · have hm1 := HM1.out
                rw [if_pos h2] at hm1
                subst hm1
                have h9 := rdLatsP_g2 (I := nI) (j := j) (k := k) (L := L) HR1.out h2 hc
                rw [HL.out] at h9
                exact .inl ⟨h2, by rw [HE.out]; exact h9⟩
              · exact .inr ⟨h2, by rw [← HR.out]; exact rdC_stop (t := (p1, e1)) (by rw [HE.out]; exact rdLatsP_st HR1.out h2) h2⟩)
            clear HM1 hc
            obtain ⟨wx, hwx⟩ : ∃ wx, wx = w1.setCell ⟨wp.heap.size, 1, none⟩ (.int .i64 (m1 : Nat)) := ⟨_, rfl⟩
            rw [← hwx] at HA1s HX1s
            have HWx := Lib.hid hwx
            clear hwx
            go_upto_region 17 with fail
            rw [← HWx.out]
            clear HWx
            have z0 := HX1s.out.cell (i := 0) (v := .int .i64 lt) rfl
            have z1 := HX1s.out.cell (i := 1) (v := .int .i64 (m1 : Nat)) rfl
            have z2 := HX1s.out.cell (i := 2) (v := .int .i64 0) rfl
            have o2 := HA1s.out.c.cell (i := 2) (v := .slice la L.length lc) rfl
            have lo := HA1s.out.c.lt
            have HNew := Lib.hid (Blk.new wx #[.int .i64 lt, .int .i64 (m1 : Nat), .int .i64 0] 59)
            have HB8 := Lib.hid (HA1s.out.kp0 ((Kp.refl _ wx).alloc (.cells #[.int .i64 lt, .int .i64 (m1 : Nat), .int .i64 0] 59)))
            go_wp2_with (at_builtin; refine wpList_appendK rfl _ _ 23 59 rfl Tryz.underlying23 HIl.out rfl (by decide) HB8.out.ls.l rfl wx.heap.size [.int .i64 lt, .int .i64 (m1 : Nat), .int .i64 0] rfl rfl ?n0 ?m0 ?n1 ?n2 ?n3 ?_)
            case n0 => exact fun j u hj => HNew.out.cell (i := j) (by simpa using hj)
            case m0 => intro u hu; simp at hu; rcases hu with rfl | rfl | rfl <;> rfl
            case n1 => rw [List.length_map, HLn.out]; omega
            case n2 => rw [List.length_map, HLn.out]; unfold maxLen; omega
            case n3 => exact HB8.out.hi.2.2
            intro v' w9 hO9 hg9 hat9
            have hk9 : Kp (fun j => (.slice la L.length lc : Value).ownBlock = some j) _ w9 := (Kp.refl _ _).grown hg9 (fun j hj _ => hj)
            have hput := HB8.out.grown (L' := L ++ [((lt : Int), (m1 : Int), 0)]) hg9 (by rw [List.map_append]; exact hO9)
            have hcb := HB8.out.c.kp hk9 (fun h => by have := (HB8.out.ls.l.lt _ h).1; have := HB8.out.hi; have := HB8.out.kp.size; omega)
            obtain ⟨la', lc', ev, -⟩ := hO9.form
            rw [List.length_append, List.length_map, List.length_singleton] at ev
            subst ev
            have o2 := hcb.cell (i := 2) (v := .slice la L.length lc) rfl
            have f2 := hcb.free 2
            have HF := Lib.hid hput
            clear hO9 hg9 hat9 hk9 hput hcb HNew HB8 z0 z1 z2
            go_wp2_with fail
            go_roundw
            case rel => exact ⟨k + 1, L ++ [(lt, (m1 : Int), 0)], p1, e1, _, by go_num, by omega, by rw [List.length_append, HLn.out]; rfl, HQ1.out, HF.out, by rw [HJ.out]; exact HG9.out⟩
            case measure => simp [intOf]; omega
        · have t9 : decide (k < nL ∧ e = 0) = false := by simp only [hgo, decide_false]
          rw [t9]
          have HGL := Lib.hid (show Goes R (q, e) (rdLatsP s (2 * (M : Int) + 1) nI nL 0 [] (p, 0) = (L, (q, e))) from HG.out.imp (fun h0 h => by
            have hk2 : nL - k = 0 := by have h00 : e = 0 := h0; omega
            rw [h, hk2]; rfl))
          clear HG t9 hgo l2 l3 le
          have hh4 : wp.cell? ⟨w.heap.size, 4, none⟩ = some (.int .i64 (nO : Nat)) := HA.out.h.cell rfl
          obtain ⟨O1, tO, hO⟩ : ∃ I t, rdLits s (2 * (M : Int) + 1) nO [] (q, e) = (I, t) := ⟨_, _, rfl⟩
          obtain ⟨qO, eO⟩ := tO
          have HQO := Lib.hid (show qO ≤ s.size by have := rdLits_le (s := s) (top := 2 * (M : Int) + 1) (m := nO) (L := []) (st := (q, e)) HQ.out; rw [hO] at this; exact this)
          have HCall := Lib.hid (HLits.out nO q e bp HNm.out.2.2.2.2.2.1 HQ.out _ HA.out.p)
          rw [hO] at HCall
          have HO := Lib.hid hO
          clear hO
          go_wp2_with fail
          refine HCall.out.mono ?_
          rintro o w1 ⟨v, O, rfl, hO1, hP1, hK1, hEq⟩
          have HEqO := Lib.hid (show eO = 0 → O = O1 from hEq)
          have hx := HA.out.rd hK1 hP1
          have c1 := hx.c.cell (i := 3) (v := .slice none 0 0) rfl
          have f1 := Blk.free hx.c 3
          obtain ⟨oa, oc, ev, -⟩ := hO1.form
          rw [iv_length] at ev
          subst ev
          have hO2 := hO1.mono (show w.heap.size + 4 ≤ _ from HA.out.hi.2.2)
          have HXO := Lib.hid (hx.set 3 _ rfl ⟨hx.ls.i, hx.ls.l, hO2, hx.ls.d, hx.ls.n, hx.ls.g⟩)
          clear hx hK1 hP1 HCall hO1 hO2 hEq hh4
          have HGO := Lib.hid (show Goes R (qO, eO) (rdLatsP s (2 * (M : Int) + 1) nI nL 0 [] (p, 0) = (L, (q, e)) ∧ rdLits s (2 * (M : Int) + 1) nO [] (q, e) = (O, (qO, eO))) from by
            have h1 := Goes.lits HGL.out HO.out (fun h h0 => by rw [← HR.out]; exact rdC_sO (t := (qO, eO)) h (by rw [HO.out]) h0)
            exact h1.imp (fun h0 h => ⟨h, by rw [HEqO.out h0]; exact HO.out⟩))
          go_upto_region 19 with fail
          obtain ⟨wO, hwO⟩ : ∃ wa, wa = w1.setCell ⟨bo, 3, none⟩ (.slice oa O.length oc) := ⟨_, rfl⟩
          rw [← hwO] at HXO ⊢
          clear hwO c1 f1
          have hh6 : wO.cell? ⟨w.heap.size, 6, none⟩ = some (.int .i64 (nB : Nat)) := HXO.out.h.cell rfl
          obtain ⟨D1, tD, hD⟩ : ∃ I t, rdLits s (2 * (M : Int) + 1) nB [] (qO, eO) = (I, t) := ⟨_, _, rfl⟩
          obtain ⟨qD, eD⟩ := tD
          have HQD := Lib.hid (show qD ≤ s.size by have := rdLits_le (s := s) (top := 2 * (M : Int) + 1) (m := nB) (L := []) (st := (qO, eO)) HQO.out; rw [hD] at this; exact this)
          have HCall := Lib.hid (HLits.out nB qO eO bp HNm.out.2.2.2.2.2.2.2.1 HQO.out _ HXO.out.p)
          rw [hD] at HCall
          have HD := Lib.hid hD
          clear hD
          go_wp2_with fail
          refine HCall.out.mono ?_
          rintro o w1 ⟨v, D, rfl, hO1, hP1, hK1, hEq⟩
          have HEqD := Lib.hid (show eD = 0 → D = D1 from hEq)
          have hx := HXO.out.rd hK1 hP1
          have c1 := hx.c.cell (i := 4) (v := .slice none 0 0) rfl
          have f1 := Blk.free hx.c 4
          obtain ⟨da, dc, ev, -⟩ := hO1.form
          rw [iv_length] at ev
          subst ev
          have hO2 := hO1.mono (show w.heap.size + 4 ≤ _ from HXO.out.hi.2.2)
          have HXD := Lib.hid (hx.set 4 _ rfl ⟨hx.ls.i, hx.ls.l, hx.ls.o, hO2, hx.ls.n, hx.ls.g⟩)
          clear hx hK1 hP1 HCall hO1 hO2 hEq hh6
          have HGD := Lib.hid (show Goes R (qD, eD) (rdLatsP s (2 * (M : Int) + 1) nI nL 0 [] (p, 0) = (L, (q, e)) ∧ rdLits s (2 * (M : Int) + 1) nO [] (q, e) = (O, (qO, eO)) ∧ rdLits s (2 * (M : Int) + 1) nB [] (qO, eO) = (D, (qD, eD))) from by
            have h1 := Goes.lits HGO.out HD.out (fun h h0 => by rw [← HR.out]; exact rdC_sB (t := (qD, eD)) h.1 h.2 (by rw [HD.out]) h0)
            exact h1.imp (fun h0 h => ⟨h.1, h.2, by rw [HEqD.out h0]; exact HD.out⟩))
          go_upto_region 20 with fail
          obtain ⟨wD, hwD⟩ : ∃ wa, wa = w1.setCell ⟨bo, 4, none⟩ (.slice da D.length dc) := ⟨_, rfl⟩
          rw [← hwD] at HXD ⊢
          clear hwD c1 f1
          have hh7 : wD.cell? ⟨w.heap.size, 7, none⟩ = some (.int .i64 (nC : Nat)) := HXD.out.h.cell rfl
          obtain ⟨N1, tN, hN⟩ : ∃ I t, rdLits s (2 * (M : Int) + 1) nC [] (qD, eD) = (I, t) := ⟨_, _, rfl⟩
          obtain ⟨qN, eN⟩ := tN
          have HQN := Lib.hid (show qN ≤ s.size by have := rdLits_le (s := s) (top := 2 * (M : Int) + 1) (m := nC) (L := []) (st := (qD, eD)) HQD.out; rw [hN] at this; exact this)
          have HCall := Lib.hid (HLits.out nC qD eD bp HNm.out.2.2.2.2.2.2.2.2 HQD.out _ HXD.out.p)
          rw [hN] at HCall
          have HN := Lib.hid hN
          clear hN
          go_wp2_with fail
          refine HCall.out.mono ?_
          rintro o w1 ⟨v, N, rfl, hO1, hP1, hK1, hEq⟩
          have HEqN := Lib.hid (show eN = 0 → N = N1 from hEq)
          have hx := HXD.out.rd hK1 hP1
          have c1 := hx.c.cell (i := 5) (v := .slice none 0 0) rfl
          have f1 := Blk.free hx.c 5
          obtain ⟨na, nc, ev, -⟩ := hO1.form
          rw [iv_length] at ev
          subst ev
          have hO2 := hO1.mono (show w.heap.size + 4 ≤ _ from HXD.out.hi.2.2)
          have HXN := Lib.hid (hx.set 5 _ rfl ⟨hx.ls.i, hx.ls.l, hx.ls.o, hx.ls.d, hO2, hx.ls.g⟩)
          clear hx hK1 hP1 HCall hO1 hO2 hEq hh7
          have HGN := Lib.hid (show Goes R (qN, eN) (rdLatsP s (2 * (M : Int) + 1) nI nL 0 [] (p, 0) = (L, (q, e)) ∧ rdLits s (2 * (M : Int) + 1) nO [] (q, e) = (O, (qO, eO)) ∧ rdLits s (2 * (M : Int) + 1) nB [] (qO, eO) = (D, (qD, eD)) ∧ rdLits s (2 * (M : Int) + 1) nC [] (qD, eD) = (N, (qN, eN))) from by
            have h1 := Goes.lits HGD.out HN.out (fun h h0 => by rw [← HR.out]; exact rdC_sC (t := (qN, eN)) h.1 h.2.1 h.2.2 (by rw [HN.out]) h0)
            exact h1.imp (fun h0 h => ⟨h.1, h.2.1, h.2.2, by rw [HEqN.out h0]; exact HN.out⟩))
          go_upto_region 21 with fail
          obtain ⟨wN, hwN⟩ : ∃ wa, wa = w1.setCell ⟨bo, 5, none⟩ (.slice na N.length nc) := ⟨_, rfl⟩
          rw [← hwN] at HXN ⊢
          clear hwN c1 f1
          go_wp2_with fail
          go_loopw [19] (fun v20 wr => ∃ (k : Nat) (G : List (Int × Int × Int)) (qq ee : Nat) (vG : Value), v20 = .int .i64 k ∧ k ≤ nA ∧ G.length = k ∧ qq ≤ s.size ∧ RS w wr (hdA bin M nI nL nO nA nB nC) s bp bo (w.heap.size + 4) (qq, ee) (M : Int) (.slice ia I.length ic) (.slice la L.length lc) (.slice oa O.length oc) (.slice da D.length dc) (.slice na N.length nc) vG I L O D N G ∧ Goes R (qq, ee) ((rdLatsP s (2 * (M : Int) + 1) nI nL 0 [] (p, 0) = (L, (q, e)) ∧ rdLits s (2 * (M : Int) + 1) nO [] (q, e) = (O, (qO, eO)) ∧ rdLits s (2 * (M : Int) + 1) nB [] (qO, eO) = (D, (qD, eD)) ∧ rdLits s (2 * (M : Int) + 1) nC [] (qD, eD) = (N, (qN, eN))) ∧ rdGatesP s (nI + nL) nA 0 [] (qN, eN) = rdGatesP s (nI + nL) (nA - k) k G (qq, ee))) (fun v20 _ => nA - (intOf v20).toNat)
          case atStart => exact ⟨0, [], qN, eN, _, rfl, by omega, rfl, HQN.out, HXN.out, HGN.out.imp (fun _ h => ⟨h, rfl⟩)⟩
          case round =>
            clear hbk
            obtain ⟨k, G, qq, ee, vG, rfl, hk, hGn, hq, hA, hG⟩ := hrel
            obtain ⟨wp, rfl⟩ : ∃ wp : World, wp = wr := ⟨_, rfl⟩
            obtain ⟨ga, gc, el, -⟩ := hA.ls.g.form
            rw [List.length_map] at el
            subst el
            have l2 : wp.cell? ⟨w.heap.size, 2, none⟩ = some (.int .i64 (nI : Nat)) := hA.h.cell rfl
            have l3 : wp.cell? ⟨w.heap.size, 3, none⟩ = some (.int .i64 (nL : Nat)) := hA.h.cell rfl
            have l5 : wp.cell? ⟨w.heap.size, 5, none⟩ = some (.int .i64 (nA : Nat)) := hA.h.cell rfl
            have le : wp.cell? ⟨bp, 2, none⟩ = some (.int .i64 (ee : Nat)) := Blk.cell hA.p rfl
            have HA := Lib.hid hA
            have HGn := Lib.hid hGn
            have HQ := Lib.hid hq
            have HG := Lib.hid hG
            clear hA hGn hq hG HXN HXO HXD
            have hbk : nA ≤ 16777216 := HNm.out.2.2.2.2.2.2.1
            have hbl : nL ≤ 16777216 := HNm.out.2.2.2.2.1
            go_upto_region 22 with fail
            go_cut [129] from 119 to 129 (fun s63 wx => s63 = .bool (decide (k < nA ∧ ee = 0)) ∧ wx = wp)
            case first =>
              by_cases h1 : k < nA
              · by_cases h2 : ee = 0
                · subst h2
                  have t9 : decide (k < nA ∧ (0 : Nat) = 0) = true := by simp [h1]
                  go_wp2_with fail
                  go_meet
                  case rel => exact ⟨by rw [t9], rfl⟩
                · have t8 : ((ee : Int) == 0) = false := by rw [beq_eq_false_iff_ne]; omega
                  have t9 : decide (k < nA ∧ ee = 0) = false := by simp [h2]
                  go_wp2_with fail
                  go_meet
                  case rel => exact ⟨by rw [t9], rfl⟩
              · have t9 : decide (k < nA ∧ ee = 0) = false := by simp [h1]
                go_wp2_with fail
                go_meet
                case rel => exact ⟨by rw [t9], rfl⟩
            case rest =>
            obtain ⟨rfl, rfl⟩ := hcut
            obtain ⟨wp, rfl⟩ : ∃ wp : World, wp = wc := ⟨_, rfl⟩
            by_cases hgo : k < nA ∧ ee = 0
            · have t9 : decide (k < nA ∧ ee = 0) = true := by simp only [hgo, and_self, decide_true]
              rw [t9]
              obtain ⟨hlt, rfl⟩ := hgo
              obtain ⟨j, hj⟩ : ∃ j, nA - k = j + 1 := ⟨nA - k - 1, by omega⟩
              have HJ := Lib.hid (show nA - (k + 1) = j by omega)
              have hE := HG.out.elim (fun h => h.2) (fun h => absurd rfl h.1)
              rw [hj] at hE
              have HE := Lib.hid hE
              obtain ⟨lt, hl⟩ : ∃ lt : Int, 2 * ((nI + nL + k : Nat) : Int) + 2 = lt := ⟨_, rfl⟩
              have hl0 : 0 ≤ lt := by omega
              have hl1 : lt ≤ 200000000 := by omega
              clear hE hj HG t9 le
              go_upto_region 24 with fail
              go_cut [20] from 132 to 140 (fun s20 wx => s20 = .int .i64 lt ∧ wx = wp)
              case first =>
                go_wp2_with fail
                go_meet
                case rel =>
                  refine ⟨?_, rfl⟩
                  rw [← hl] <;> go_num
              case rest =>
              obtain ⟨rfl, rfl⟩ := hcut
              obtain ⟨wp, rfl⟩ : ∃ wp : World, wp = wc := ⟨_, rfl⟩
              have HL := Lib.hid hl
              clear hl l2 l3
              obtain ⟨n1, p1, e1, hr1⟩ : ∃ n z e, rdG s 1 lt (qq, 0) = (n, z, e) := ⟨_, _, _, rfl⟩
              have hb1 : (n1 : Int) ≤ lt := by have := (rdG_le (s := s) (least := 1) (st := (qq, 0)) HQ.out hl0).2; rw [hr1] at this; exact this
              have HQ1 := Lib.hid (show p1 ≤ s.size by have := (rdG_le (s := s) (least := 1) (st := (qq, 0)) HQ.out hl0).1; rw [hr1] at this; exact this)
              have HC1 := Lib.hid (HDel.out 1 lt qq 0 bp _ HQ.out HA.out.p)
              rw [hr1] at HC1
              have HR1 := Lib.hid hr1
              clear hr1
              obtain ⟨A, hA1⟩ : ∃ A : Int, lt - (n1 : Int) = A := ⟨_, rfl⟩
              have hA0 : 0 ≤ A := by omega
              have hAl : A ≤ 200000000 := by omega
              go_upto_region 25 with fail
              go_cut [21] from 141 to 145 (fun s21 wx => s21 = .int .i64 A ∧ RS w wx (hdA bin M nI nL nO nA nB nC) s bp bo (w.heap.size + 4) (p1, e1) (M : Int) (.slice ia I.length ic) (.slice la L.length lc) (.slice oa O.length oc) (.slice da D.length dc) (.slice na N.length nc) (.slice ga G.length gc) I L O D N G)
              case first =>
                go_wp2_with fail
                refine HC1.out.mono ?_
                rintro o w1 ⟨rfl, hP1, hK1⟩
                have HA1 := Lib.hid (HA.out.rd hK1 hP1)
                clear hP1 hK1
                go_wp2_with fail
                go_meet
                case rel =>
                  refine ⟨?_, HA1.out⟩
                  rw [← hA1] <;> go_num
              case rest =>
              obtain ⟨rfl, hA2⟩ := hcut
              have HA1 := Lib.hid hA2
              have HAe := Lib.hid hA1
              clear HC1 hA2 hA1 hb1
              obtain ⟨wq, rfl⟩ : ∃ wp : World, wp = wc := ⟨_, rfl⟩
              obtain ⟨n2, p2, e2, hr2⟩ : ∃ n z e, rdG s 0 A (p1, e1) = (n, z, e) := ⟨_, _, _, rfl⟩
              have hb2 : (n2 : Int) ≤ A := by have := (rdG_le (s := s) (least := 0) (st := (p1, e1)) HQ1.out hA0).2; rw [hr2] at this; exact this
              have HQ2 := Lib.hid (show p2 ≤ s.size by have := (rdG_le (s := s) (least := 0) (st := (p1, e1)) HQ1.out hA0).1; rw [hr2] at this; exact this)
              have HC2 := Lib.hid (HDel.out 0 A p1 e1 bp _ HQ1.out HA1.out.p)
              rw [hr2] at HC2
              have HR2 := Lib.hid hr2
              clear hr2
              obtain ⟨Bv, hB1⟩ : ∃ A2 : Int, A - (n2 : Int) = A2 := ⟨_, rfl⟩
              go_upto_region 26 with fail
              go_cut [22] from 146 to 150 (fun s21 wx => s21 = .int .i64 Bv ∧ RS w wx (hdA bin M nI nL nO nA nB nC) s bp bo (w.heap.size + 4) (p2, e2) (M : Int) (.slice ia I.length ic) (.slice la L.length lc) (.slice oa O.length oc) (.slice da D.length dc) (.slice na N.length nc) (.slice ga G.length gc) I L O D N G)
              case first =>
                go_wp2_with fail
                refine HC2.out.mono ?_
                rintro o w1 ⟨rfl, hP1, hK1⟩
                have HA2 := Lib.hid (HA1.out.rd hK1 hP1)
                clear hP1 hK1
                go_wp2_with fail
                go_meet
                case rel =>
                  refine ⟨?_, HA2.out⟩
                  rw [← hB1] <;> go_num
              case rest =>
              obtain ⟨rfl, hA2⟩ := hcut
              have HA3 := Lib.hid hA2
              have HBe := Lib.hid hB1
              clear HC2 hA2 hB1 hb2
              obtain ⟨w3, rfl⟩ : ∃ wp : World, wp = wc := ⟨_, rfl⟩
              have HG9 := Lib.hid (show Goes R (p2, e2) ((rdLatsP s (2 * (M : Int) + 1) nI nL 0 [] (p, 0) = (L, (q, e)) ∧ rdLits s (2 * (M : Int) + 1) nO [] (q, e) = (O, (qO, eO)) ∧ rdLits s (2 * (M : Int) + 1) nB [] (qO, eO) = (D, (qD, eD)) ∧ rdLits s (2 * (M : Int) + 1) nC [] (qD, eD) = (N, (qN, eN))) ∧ rdGatesP s (nI + nL) nA 0 [] (qN, eN) = rdGatesP s (nI + nL) j (k + 1) (G ++ [(lt, A, Bv)]) (p2, e2)) from by
                have h1 : rdG s 1 (2 * ((nI + nL + k : Nat) : Int) + 2) (qq, 0) = (n1, (p1, e1)) := by rw [HL.out]; exact HR1.out
                have h2 : rdG s 0 (2 * ((nI + nL + k : Nat) : Int) + 2 - (n1 : Int)) (p1, e1) = (n2, (p2, e2)) := by rw [HL.out, HAe.out]; exact HR2.out
                by_cases h3 : e2 = 0
                · have h9 := rdGatesP_go (j := j) (L := G) h1 h2 h3
                  rw [HL.out, HAe.out, HBe.out] at h9
                  exact .inl ⟨h3, HE.out.1, by rw [HE.out.2]; exact h9⟩
                · exact .inr ⟨h3, by rw [← HR.out]; exact rdC_sG (t := (p2, e2)) HE.out.1.1 HE.out.1.2.1 HE.out.1.2.2.1 HE.out.1.2.2.2 (by rw [HE.out.2]; exact rdGatesP_st h1 h2 h3)⟩)
              go_upto_region 27 with fail
              have o2 := HA3.out.c.cell (i := 6) (v := .slice ga G.length gc) rfl
              have lo := HA3.out.c.lt
              have HNew := Lib.hid (Blk.new w3 #[.int .i64 lt, .int .i64 A, .int .i64 Bv] 61)
              have HB8 := Lib.hid (HA3.out.kp0 ((Kp.refl _ w3).alloc (.cells #[.int .i64 lt, .int .i64 A, .int .i64 Bv] 61)))
              go_wp2_with (at_builtin; refine wpList_appendK rfl _ _ 24 61 rfl Tryz.underlying24 HIg.out rfl (by decide) HB8.out.ls.g rfl w3.heap.size [.int .i64 lt, .int .i64 A, .int .i64 Bv] rfl rfl ?n0 ?m0 ?n1 ?n2 ?n3 ?_)
              case n0 => exact fun j u hj => HNew.out.cell (i := j) (by simpa using hj)
              case m0 => intro u hu; simp at hu; rcases hu with rfl | rfl | rfl <;> rfl
              case n1 => rw [List.length_map, HGn.out]; omega
              case n2 => rw [List.length_map, HGn.out]; unfold maxLen; omega
              case n3 => exact HB8.out.hi.2.2
              intro v' w9 hO9 hg9 hat9
              have hk9 : Kp (fun j => (.slice ga G.length gc : Value).ownBlock = some j) _ w9 := (Kp.refl _ _).grown hg9 (fun j hj _ => hj)
              have hput := HB8.out.grownG (G' := G ++ [((lt : Int), (A : Int), (Bv : Int))]) hg9 (by rw [List.map_append]; exact hO9)
              have hcb := HB8.out.c.kp hk9 (fun h => by have := (HB8.out.ls.g.lt _ h).1; have := HB8.out.hi; have := HB8.out.kp.size; omega)
              obtain ⟨la', lc', ev, -⟩ := hO9.form
              rw [List.length_append, List.length_map, List.length_singleton] at ev
              subst ev
              have o2 := hcb.cell (i := 6) (v := .slice ga G.length gc) rfl
              have f2 := hcb.free 6
              have HF := Lib.hid hput
              clear hO9 hg9 hat9 hk9 hput hcb HNew HB8 
              go_wp2_with fail
              go_roundw
              case rel => exact ⟨k + 1, G ++ [(lt, A, Bv)], p2, e2, _, by go_num, by omega, by rw [List.length_append, HGn.out]; rfl, HQ2.out, HF.out, by rw [HJ.out]; exact HG9.out⟩
              case measure => simp [intOf]; omega
            · have t9 : decide (k < nA ∧ ee = 0) = false := by simp only [hgo, decide_false]
              rw [t9]
              have HGG := Lib.hid (show Goes R (qq, ee) (R = (⟨(M : Int), I, L, O, D, N, G⟩, (qq, ee))) from HG.out.imp (fun h0 h => by
                have hk2 : nA - k = 0 := by have h00 : ee = 0 := h0; omega
                have h5 := h.2
                rw [hk2] at h5
                rw [← HR.out, ← HI.out]
                exact rdC_end h.1.1 h.1.2.1 h.1.2.2.1 h.1.2.2.2 (show _ = (G, (qq, ee)) from h5)))
              clear HG t9 hgo l5 l2 l3
              have l1 : wp.cell? ⟨bp, 1, none⟩ = some (.int .i64 (qq : Nat)) := Blk.cell HA.out.p rfl
              have hzr : Blk wp (w.heap.size + 1) #[.int .i64 0, .slice none 0 0, .slice none 0 0, .slice none 0 0, .slice none 0 0, .slice none 0 0, .slice none 0 0, .slice none 0 0, .string ⟨#[]⟩] 27 := HA.out.r
              obtain ⟨z0, z1, z2, z3, z4, z5, z6, z7, z8⟩ := hzr.cells9
              have fc := hzr.free
              clear hzr
              have fc0 := fc 0
              have fc1 := fc 1
              have fc2 := fc 2
              have fc3 := fc 3
              have fc4 := fc 4
              have fc5 := fc 5
              have fc6 := fc 6
              have fc7 := fc 7
              have fc8 := fc 8
              clear fc
              have na1 : bp ≠ w.heap.size + 1 := by have := HA.out.ne; omega
              have na2 : w.heap.size + 1 ≠ bp := by have := HA.out.ne; omega
              have na3 : bo ≠ w.heap.size + 1 := by have := HA.out.ne; omega
              have na4 : w.heap.size + 1 ≠ bo := by have := HA.out.ne; omega
              by_cases he : ee = 0
              · subst he
                have HFi := Lib.hid (HGG.out.elim (fun h => h.2) (fun h => absurd rfl h.1))
                obtain ⟨o0, o1, o2, o3, o4, o5, o6, o7, o8⟩ := HA.out.c.cells9
                clear HGG
                go_upto_region 30 with fail
                go_region
                all_goals go_wp2_with fail
                all_goals
                  have hF := HA.out.fin (.int .i64 (M : Int)) (.slice ia I.length ic) (.slice la L.length lc) (.slice oa O.length oc) (.slice da D.length dc) (.slice na N.length nc) (.slice ga G.length gc) (.slice none 0 0) (.string ⟨#[]⟩)
                  unfold Go.Proofs.YtckmdcmkjmpiaaaGreatDoor.set9 at hF
                  obtain ⟨hB, hK, hO⟩ := hF
                  have hO := LsO.low hO ((Kp.refl (fun _ => False) _).drew) (fun _ h => h.elim)
                  obtain ⟨s0, s1, s2, s3, s4, s5, s6, s7, s8⟩ := hB.drew.cells9
                  rw [HFi.out]
                  refine bodyPost_ret (v := .tuple #[.agg #[.int .i64 (M : Int), .slice ia I.length ic, .slice la L.length lc, .slice oa O.length oc, .slice da D.length dc, .slice na N.length nc, .slice ga G.length gc, .slice none 0 0, .string ⟨#[]⟩], .int .i64 (qq : Nat), .int .i64 0]) (by simp [results, Tryz.results19, go_sem, s0, s1, s2, s3, s4, s5, s6, s7, s8]) rfl ⟨.inr ⟨rfl, ⟨ia, ic, la, lc, oa, oc, da, dc, na, nc, ga, gc, none, 0, 0, ⟨#[]⟩⟩, rfl, ?_, rfl, rfl, rfl, rfl⟩, hK.drew⟩
                  exact BKeep.mono (rdC_keep (B := w.heap.size + 4) ⟨ownForm hO.i, hO.l.form, ownForm hO.o, ownForm hO.d, ownForm hO.n, hO.g.form⟩) (by omega)
              · have q1 : ((ee : Int) != 0) = true := by simp; omega
                have HSt := Lib.hid (HGG.out.elim (fun h => absurd h.1 he) (fun h => h.2))
                have HE := Lib.hid he
                clear HGG he
                go_upto_region 29 with fail
                go_region
                all_goals go_wp2_with fail
                all_goals
                  have hF := HA.out.fin (.int .i64 0) (.slice none 0 0) (.slice none 0 0) (.slice none 0 0) (.slice none 0 0) (.slice none 0 0) (.slice none 0 0) (.slice none 0 0) (.string ⟨#[]⟩)
                  unfold Go.Proofs.YtckmdcmkjmpiaaaGreatDoor.set9 at hF
                  obtain ⟨hB, hK, hO⟩ := hF
                  obtain ⟨s0, s1, s2, s3, s4, s5, s6, s7, s8⟩ := hB.drew.cells9
                  have h2 : R.2.2 ≠ 0 := by rw [HSt.out]; exact HE.out
                  refine bodyPost_ret (v := .tuple #[.agg zc9, .int .i64 (qq : Nat), .int .i64 (ee : Nat)]) (by simp [results, Tryz.results19, go_sem, s0, s1, s2, s3, s4, s5, s6, s7, s8, zc9]) rfl ⟨.inl ⟨h2, by rw [HSt.out]⟩, hK.drew⟩
end Go.Proofs.YtckmdcmkjmpiaaaGreatDoor
