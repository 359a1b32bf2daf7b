/-
  binary.Read, at a place that is one of the text.
-/
import Derived.Test.YtmjcpapcmbgkjaaDoorM7
import Derived.Test.YtmjcpapcmbgkjaaDoorM6
import Derived.Test.YtmjcpapcmbgkjaaDoorM4
import Derived.Test.YtmjcpapcmbgkjaaDoorM5
import Derived.Laws.StructEq
import Derived.Test.YtmjcpapcmbgkjaaDoorM1
set_option linter.unusedVariables false
set_option linter.unusedSimpArgs false
namespace Go.Proofs.YtmjcpapcmbgkjaaDoor
open Go.RowKit

/-- what Read ends with -/
def BinReadP (r : Circ × Nat × Nat) (w : World) (e : Ending) (w' : World) : Prop :=
  ((r.2.2 ≠ 0 ∧ e = .returned (.tuple #[.agg zc9, .int .i64 (r.2.1 : Nat), .int .i64 (r.2.2 : Nat)])) ∨
   (r.2.2 = 0 ∧ ∃ V', e = .returned (.tuple #[.agg (cvals V' r.1), .int .i64 (r.2.1 : Nat), .int .i64 0]) ∧ CAt w' V' r.1 ∧ V'.ay = none ∧ V'.ny = 0 ∧ V'.cy = 0 ∧ V'.cm = ⟨#[]⟩)) ∧ Kp (fun _ => False) w w'

set_option maxRecDepth 100000 in
set_option maxHeartbeats 8000000 in
theorem bin_Read (s : ByteArray) (p : Nat) (bin : Bool) (M : Int) (nI nL nO nA nB nC : Nat) (w : World) (hs : s.size ≤ 1000000) (hp : p ≤ s.size) (hM0 : 0 ≤ M) (hM1 : M ≤ 16777216) (hI : nI ≤ 16777216) (hL : nL ≤ 16777216) (hO : nO ≤ 16777216) (hA : nA ≤ 16777216) (hBd : nB ≤ 16777216) (hC : nC ≤ 16777216) :
    Calls Tryd.prog 10 #[.string s, .int .i64 (p : Nat), .agg #[.bool bin, .int .i64 M, .int .i64 (nI : Nat), .int .i64 (nL : Nat), .int .i64 (nO : Nat), .int .i64 (nA : Nat), .int .i64 (nB : Nat), .int .i64 (nC : Nat)]] w fun e w' => BinReadP (rdC s M nI nL nO nA nB nC (p, 0)) w e w' := by
  obtain ⟨wz, hwz⟩ : ∃ wz : World, wz = (w.alloc (.cells #[.bool bin, .int .i64 M, .int .i64 (nI : Nat), .int .i64 (nL : Nat), .int .i64 (nO : Nat), .int .i64 (nA : Nat), .int .i64 (nB : Nat), .int .i64 (nC : Nat)] 38)).alloc (.cells #[.int .i64 0, .slice none 0 0, .slice none 0 0, .slice none 0 0, .slice none 0 0, .slice none 0 0, .slice none 0 0, .slice none 0 0, .string ⟨#[]⟩] 27) := ⟨_, rfl⟩
  have HK0 := Lib.hid (show Kp (fun _ => False) w wz by rw [hwz]; exact ((Kp.refl _ w).alloc _).alloc _)
  have HH0 := Lib.hid (show Blk wz w.heap.size #[.bool bin, .int .i64 M, .int .i64 (nI : Nat), .int .i64 (nL : Nat), .int .i64 (nO : Nat), .int .i64 (nA : Nat), .int .i64 (nB : Nat), .int .i64 (nC : Nat)] 38 by rw [hwz]; exact (Blk.new w _ _).alloc _)
  have HR0 := Lib.hid (show Blk wz (w.heap.size + 1) zc9 27 by rw [hwz]; exact two_blk _ _ _ _ _)
  have HSz := Lib.hid (show wz.heap.size = w.heap.size + 2 by rw [hwz]; simp)
  have HZ := Lib.hid hwz
  have g1 : decide ((p : Int) < 0) = false := by simp
  have g2 : decide ((s.size : Int) < (p : Int)) = false := by simp; omega
  obtain ⟨wt, hwt⟩ : ∃ wt : World, wt = wz.alloc (.cells #[.string s, .int .i64 (p : Nat), .int .i64 0] 66) := ⟨_, rfl⟩
  have HT0 := Lib.hid (show TX wt wz.heap.size s (p, 0) by rw [hwt]; exact Blk.new _ _ _)
  have HKt := Lib.hid (show Kp (fun _ => False) wz wt by rw [hwt]; exact (Kp.refl _ wz).alloc _)
  have HSt := Lib.hid (show wt.heap.size = w.heap.size + 3 by rw [hwt]; simp [HSz.out])
  have HCi := Lib.hid (bin_circuit s wz.heap.size (p, 0) bin M nI nL nO nA nB nC wt hs hp hM0 hM1 hI hL hO hA hBd hC HT0.out)
  have HZt := Lib.hid hwt
  obtain ⟨C9, p9, e9, hr⟩ : ∃ C q e, rdC s M nI nL nO nA nB nC (p, 0) = (C, q, e) := ⟨_, _, _, rfl⟩
  rw [hr] at HCi ⊢
  have HR := Lib.hid hr
  clear hwz hwt hr
  go_enter Tryd.func10, Tryd.ntmps10
  go_upto_region 1 with fail
  rw [← HZ.out]
  clear HZ
  go_upto_region 4 with fail
  rw [← HZt.out]
  clear HZt
  have h0 := (HH0.out.kp HKt.out (fun h => h)).cell (i := 0) (v := .bool bin) rfl
  have h1 := (HH0.out.kp HKt.out (fun h => h)).cell (i := 1) (v := .int .i64 M) rfl
  have h2 := (HH0.out.kp HKt.out (fun h => h)).cell (i := 2) (v := .int .i64 (nI : Nat)) rfl
  have h3 := (HH0.out.kp HKt.out (fun h => h)).cell (i := 3) (v := .int .i64 (nL : Nat)) rfl
  have h4 := (HH0.out.kp HKt.out (fun h => h)).cell (i := 4) (v := .int .i64 (nO : Nat)) rfl
  have h5 := (HH0.out.kp HKt.out (fun h => h)).cell (i := 5) (v := .int .i64 (nA : Nat)) rfl
  have h6 := (HH0.out.kp HKt.out (fun h => h)).cell (i := 6) (v := .int .i64 (nB : Nat)) rfl
  have h7 := (HH0.out.kp HKt.out (fun h => h)).cell (i := 7) (v := .int .i64 (nC : Nat)) rfl
  go_upto_region 5 with (go_at_call 23; with_reducible refine Calls.mono HCi.out ?_; rintro e w1 ⟨V', C', rfl, hy1, hy2, hy3, hy4, hT, hK, hG⟩; have HY := Lib.hid (And.intro hy1 (And.intro hy2 (And.intro hy3 hy4))); clear hy1 hy2 hy3 hy4; unfold cvals)
  obtain ⟨w2, hw2⟩ : ∃ w2 : World, w2 = w1.alloc (.cells #[.int .i64 C'.max, .slice V'.ai C'.ins.length V'.ci, .slice V'.al C'.lats.length V'.cl, .slice V'.ao C'.outs.length V'.co, .slice V'.ab C'.bads.length V'.cb, .slice V'.ac C'.cons.length V'.cc, .slice V'.ag C'.gates.length V'.cg, .slice V'.ay V'.ny V'.cy, .string V'.cm] 27) := ⟨_, rfl⟩
  rw [← hw2]
  have hk2 : Kp (fun _ => False) w1 w2 := by rw [hw2]; exact (Kp.refl _ w1).alloc _
  have HX2 := Lib.hid (show Blk w2 w1.heap.size #[.int .i64 C'.max, .slice V'.ai C'.ins.length V'.ci, .slice V'.al C'.lats.length V'.cl, .slice V'.ao C'.outs.length V'.co, .slice V'.ab C'.bads.length V'.cb, .slice V'.ac C'.cons.length V'.cc, .slice V'.ag C'.gates.length V'.cg, .slice V'.ay V'.ny V'.cy, .string V'.cm] 27 by rw [hw2]; exact Blk.new _ _ _)
  have HE2 := Lib.hid (bin_ended s wz.heap.size (p9, e9) w2 (hT.kp hk2 (fun h => h)))
  have hlt1 : wt.heap.size ≤ w1.heap.size := hK.size
  have HK2 := Lib.hid (((HK0.out.trans HKt.out (fun _ _ h => h)).trans hK (fun j hj e => by have := HSz.out; have e2 : j = wz.heap.size := e; omega)).trans hk2 (fun _ _ h => h))
  have HR2 := Lib.hid (show Blk w2 (w.heap.size + 1) zc9 27 from ((HR0.out.kp HKt.out (fun h => h)).kp hK (fun e => by have := HSz.out; have e2 : w.heap.size + 1 = wz.heap.size := e; omega)).kp hk2 (fun h => h))
  have HG := Lib.hid hG
  have Hk2 := Lib.hid hk2
  have HLt := Lib.hid hlt1
  clear hw2 hT hK hG hk2 h0 h1 h2 h3 h4 h5 h6 h7 HCi hlt1
  go_upto_region 6 with (go_at_call 24; with_reducible refine Calls.mono HE2.out ?_; rintro e w3 ⟨rfl, hK3⟩)
  have HK3 := Lib.hid (HK2.out.trans hK3 (fun _ _ h => h))
  have HR3 : Hid (Blk w3 (w.heap.size + 1) #[.int .i64 0, .slice none 0 0, .slice none 0 0, .slice none 0 0, .slice none 0 0, .slice none 0 0, .slice none 0 0, .slice none 0 0, .string ⟨#[]⟩] 27) := Lib.hid (HR2.out.kp hK3 (fun h => h))
  have HX3 := Lib.hid (HX2.out.kp hK3 (fun h => h))
  have Hk3 := Lib.hid (Hk2.out.trans hK3 (fun _ _ h => h))
  clear hK3 HE2 HR2 HX2 HK2
  by_cases he : e9 = 0
  · subst he
    obtain ⟨hCe, hkeep⟩ := HG.out rfl
    have HKeep := Lib.hid hkeep
    have HCe := Lib.hid hCe
    clear hkeep hCe
    obtain ⟨d0, d1, d2, d3, d4, d5, d6, d7, d8⟩ := Blk.cells9 HX3.out
    obtain ⟨z0, z1, z2, z3, z4, z5, z6, z7, z8⟩ := Blk.cells9 HR3.out
    have fr := Blk.free HR3.out
    have fr0 := fr 0
    have fr1 := fr 1
    have fr2 := fr 2
    have fr3 := fr 3
    have fr4 := fr 4
    have fr5 := fr 5
    have fr6 := fr 6
    have fr7 := fr 7
    have fr8 := fr 8
    clear fr
    have HBe := Lib.hid (Blk.set9 HR3.out (.int .i64 C'.max) (.slice V'.ai C'.ins.length V'.ci) (.slice V'.al C'.lats.length V'.cl) (.slice V'.ao C'.outs.length V'.co) (.slice V'.ab C'.bads.length V'.cb) (.slice V'.ac C'.cons.length V'.cc) (.slice V'.ag C'.gates.length V'.cg) (.slice V'.ay V'.ny V'.cy) (.string V'.cm))
    have HKe := Lib.hid (Kp.set9 w3 (w.heap.size + 1) (.int .i64 C'.max) (.slice V'.ai C'.ins.length V'.ci) (.slice V'.al C'.lats.length V'.cl) (.slice V'.ao C'.outs.length V'.co) (.slice V'.ab C'.bads.length V'.cb) (.slice V'.ac C'.cons.length V'.cc) (.slice V'.ag C'.gates.length V'.cg) (.slice V'.ay V'.ny V'.cy) (.string V'.cm))
    unfold Go.Proofs.YtmjcpapcmbgkjaaDoor.set9 at HBe HKe
    have HKf := Lib.hid (HK3.out.trans HKe.out (fun j hj e => by omega))
    go_wp2_with fail
    obtain ⟨s0, s1, s2, s3, s4, s5, s6, s7, s8⟩ := HBe.out.cells9
    exact bodyPost_ret (v := .tuple #[.agg #[.int .i64 C'.max, .slice V'.ai C'.ins.length V'.ci, .slice V'.al C'.lats.length V'.cl, .slice V'.ao C'.outs.length V'.co, .slice V'.ab C'.bads.length V'.cb, .slice V'.ac C'.cons.length V'.cc, .slice V'.ag C'.gates.length V'.cg, .slice V'.ay V'.ny V'.cy, .string V'.cm], .int .i64 (p9 : Nat), .int .i64 0]) (by simp [results, Tryd.results10, go_sem, s0, s1, s2, s3, s4, s5, s6, s7, s8]) rfl ⟨.inr ⟨rfl, V', by simp only [← HCe.out]; rfl, by simp only [← HCe.out]; exact HKeep.out (fun j => j = w.heap.size + 1) _ (fun j e => by have e2 : j = w.heap.size + 1 := e; have := HSt.out; omega) ((Hk3.out.mono (fun _ _ h => h.elim)).trans HKe.out (fun _ _ h => h)), HY.out⟩, HKf.out⟩
  · have q1 : ((e9 : Int) != 0) = true := by simp [he]
    have HHe := Lib.hid he
    clear he
    obtain ⟨z0, z1, z2, z3, z4, z5, z6, z7, z8⟩ := Blk.cells9 HR3.out
    have fr := Blk.free HR3.out
    have fr0 := fr 0
    have fr1 := fr 1
    have fr2 := fr 2
    have fr3 := fr 3
    have fr4 := fr 4
    have fr5 := fr 5
    have fr6 := fr 6
    have fr7 := fr 7
    have fr8 := fr 8
    clear fr
    have HBe := Lib.hid (Blk.set9 HR3.out (.int .i64 0) (.slice none 0 0) (.slice none 0 0) (.slice none 0 0) (.slice none 0 0) (.slice none 0 0) (.slice none 0 0) (.slice none 0 0) (.string ⟨#[]⟩))
    have HKe := Lib.hid (Kp.set9 w3 (w.heap.size + 1) (.int .i64 0) (.slice none 0 0) (.slice none 0 0) (.slice none 0 0) (.slice none 0 0) (.slice none 0 0) (.slice none 0 0) (.slice none 0 0) (.string ⟨#[]⟩))
    unfold Go.Proofs.YtmjcpapcmbgkjaaDoor.set9 at HBe HKe
    have HKf := Lib.hid (HK3.out.trans HKe.out (fun j hj e => by omega))
    go_wp2_with fail
    obtain ⟨s0, s1, s2, s3, s4, s5, s6, s7, s8⟩ := HBe.out.cells9
    exact bodyPost_ret (v := .tuple #[.agg #[.int .i64 0, .slice none 0 0, .slice none 0 0, .slice none 0 0, .slice none 0 0, .slice none 0 0, .slice none 0 0, .slice none 0 0, .string ⟨#[]⟩], .int .i64 (p9 : Nat), .int .i64 (e9 : Nat)]) (by simp [results, Tryd.results10, go_sem, s0, s1, s2, s3, s4, s5, s6, s7, s8]) rfl ⟨.inl ⟨HHe.out, rfl⟩, HKf.out⟩

end Go.Proofs.YtmjcpapcmbgkjaaDoor

/-
  A circuit's text in the short form is read back. No program in sight.
-/
namespace Go.Proofs.YtmjcpapcmbgkjaaDoor
open Go.RowKit

section
variable {s : ByteArray} {p : Nat}
theorem rdD_here {u : Nat} {c : UInt8} {r : List UInt8} {top : Int} (h : Here s p (Lib.itoa (u : Int) ++ c :: r)) (hc : ¬ (48 ≤ c.toNat ∧ c.toNat ≤ 57)) (hu : u < 1000000000) (ht : (u : Int) ≤ top) : rdD s top (p, 0) = (u, p + (Lib.itoa (u : Int)).length, 0) := by
  unfold rdD
  rw [if_neg (by simp)]
  simp only [h.nat hc hu]
  rw [if_neg (by simp), if_neg (by omega)]
theorem rdS_here {c : UInt8} {r : List UInt8} {ok : Nat → Bool} (h : Here s p (c :: r)) (hc : ok c.toNat = true) : rdS s ok (p, 0) = (c.toNat, p + 1, 0) := by
  obtain ⟨h1, h2⟩ := h.byte
  unfold rdS
  rw [if_neg (by simp)]
  simp only [h1]
  rw [if_neg (by omega), if_neg (by rw [hc]; simp)]
theorem rdG_here {n : Nat} {r : List UInt8} {least top : Int} (h : Here s p (numL 5 n ++ r)) (hn : n < 4294967296) (h0 : least ≤ (n : Int)) (h1 : (n : Int) ≤ top) : rdG s least top (p, 0) = (n, p + (numL 5 n).length, 0) := by
  unfold rdG
  rw [if_neg (by simp)]
  simp only [h.num hn]
  rw [if_neg (by simp), if_neg (by omega)]
end

theorem d10 : ¬ (48 ≤ (10 : UInt8).toNat ∧ (10 : UInt8).toNat ≤ 57) := by decide
theorem d32 : ¬ (48 ≤ (32 : UInt8).toNat ∧ (32 : UInt8).toNat ≤ 57) := by decide

theorem rdLits_back {s : ByteArray} {top : Int} (ht : top < 1000000000) : ∀ (T acc : List Int) (p : Nat), (∀ x ∈ T, 0 ≤ x ∧ x ≤ top) → Here s p (T.flatMap oneB) → rdLits s top T.length acc (p, 0) = (acc ++ T, p + (T.flatMap oneB).length, 0)
  | [], acc, p, _, _ => by simp [rdLits]
  | x :: T, acc, p, hb, h => by
    obtain ⟨hx0, hx1⟩ := hb x (by simp)
    obtain ⟨u, rfl⟩ : ∃ u : Nat, x = u := ⟨x.toNat, by omega⟩
    rw [List.flatMap_cons] at h
    have h1 : Here s p (Lib.itoa (u : Int) ++ 10 :: T.flatMap oneB) := by
      have e : oneB (u : Int) = Lib.itoa (u : Int) ++ [10] := rfl
      rw [e] at h
      simpa using h
    have h2 := h1.right
    have h3 := h.right
    have hd := rdD_here (top := top) h1 d10 (by omega) hx1
    have hs := rdS_here (ok := fun c => c == 10) h2 rfl
    rw [List.length_cons]
    unfold rdLits
    rw [hd]
    simp only
    rw [hs]
    simp only
    rw [if_neg (by decide)]
    have hlen : (oneB (u : Int)).length = (Lib.itoa (u : Int)).length + 1 := by unfold oneB; simp
    rw [show p + (Lib.itoa (u : Int)).length + 1 = p + (oneB (u : Int)).length by rw [hlen]; omega]
    rw [rdLits_back ht T _ _ (fun y hy => hb y (by simp [hy])) h3]
    rw [List.flatMap_cons, List.length_append]
    simp
    omega

theorem rdLatsP_back {s : ByteArray} {top : Int} {I : Nat} (ht : top < 1000000000) : ∀ (T : List (Int × Int × Int)) (k : Nat) (acc : List (Int × Int × Int)) (p : Nat), (∀ x ∈ T, 0 ≤ x.2.1 ∧ x.2.1 ≤ top ∧ 0 ≤ x.2.2 ∧ x.2.2 ≤ top) → (∀ i x, T[i]? = some x → x.1 = 2 * ((I + (k + i) : Nat) : Int) + 2) → Here s p (T.flatMap latB) →
    rdLatsP s top I T.length k acc (p, 0) = (acc ++ T, p + (T.flatMap latB).length, 0)
  | [], k, acc, p, _, _, _ => by simp [rdLatsP]
  | x :: T, k, acc, p, hb, hi, h => by
    obtain ⟨l, a, r⟩ := x
    obtain ⟨ha0, ha1, hr0, hr1⟩ := hb (l, a, r) (by simp)
    simp only at ha0 ha1 hr0 hr1
    have hl := hi 0 (l, a, r) rfl
    simp only [Nat.add_zero] at hl
    obtain ⟨u, rfl⟩ : ∃ u : Nat, a = u := ⟨a.toNat, by omega⟩
    obtain ⟨v, rfl⟩ : ∃ v : Nat, r = v := ⟨r.toNat, by omega⟩
    have hrest : ∀ acc q, Here s q (T.flatMap latB) → rdLatsP s top I T.length (k + 1) acc (q, 0) = (acc ++ T, q + (T.flatMap latB).length, 0) := fun acc q hq =>
      rdLatsP_back ht T (k + 1) acc q (fun y hy => hb y (by simp [hy])) (fun i x hx => by
        have := hi (i + 1) x (by simpa using hx)
        rw [this, show k + (i + 1) = k + 1 + i by omega]) hq
    rw [List.flatMap_cons] at h
    have h3 := h.right
    rw [List.length_cons, rdLatsP_succ, List.flatMap_cons, List.length_append]
    by_cases hv : v = 0
    · subst hv
      have e : latB (l, (u : Int), ((0 : Nat) : Int)) = Lib.itoa (u : Int) ++ [10] := by unfold latB lineB; simp
      rw [e] at h h3
      have h1 : Here s p (Lib.itoa (u : Int) ++ 10 :: T.flatMap latB) := by simpa using h
      have hd := rdD_here (top := top) h1 d10 (by omega) ha1
      have hs := rdS_here (ok := fun c => c == 32 || c == 10) h1.right rfl
      rw [hd]
      simp only
      rw [hs]
      simp only
      rw [if_neg (by decide), if_neg (by decide), e]
      have hlen : (Lib.itoa (u : Int) ++ [10] : List UInt8).length = (Lib.itoa (u : Int)).length + 1 := by simp
      rw [show p + (Lib.itoa (u : Int)).length + 1 = p + (Lib.itoa (u : Int) ++ [10] : List UInt8).length by rw [hlen]; omega, hrest _ _ h3, ← hl]
      simp
      omega
    · have e : latB (l, (u : Int), (v : Int)) = Lib.itoa (u : Int) ++ 32 :: (Lib.itoa (v : Int) ++ [10]) := by unfold latB lineB; rw [if_neg (by simpa using hv)]
      rw [e] at h h3
      have h1 : Here s p (Lib.itoa (u : Int) ++ 32 :: (Lib.itoa (v : Int) ++ 10 :: T.flatMap latB)) := by simpa using h
      have h2 := h1.right
      have h4 : Here s (p + (Lib.itoa (u : Int)).length + 1) (Lib.itoa (v : Int) ++ 10 :: T.flatMap latB) := by
        have : Here s (p + (Lib.itoa (u : Int)).length) ([32] ++ (Lib.itoa (v : Int) ++ 10 :: T.flatMap latB)) := by simpa using h2
        simpa using this.right
      have hd := rdD_here (top := top) h1 d32 (by omega) ha1
      have hs := rdS_here (ok := fun c => c == 32 || c == 10) h2 rfl
      have hd2 := rdD_here (top := top) h4 d10 (by omega) hr1
      have hs2 := rdS_here (ok := fun c => c == 10) h4.right rfl
      rw [hd]
      simp only
      rw [hs]
      simp only
      rw [if_pos (by decide), hd2]
      simp only
      rw [hs2]
      simp only
      rw [e]
      have hlen : (Lib.itoa (u : Int) ++ 32 :: (Lib.itoa (v : Int) ++ [10]) : List UInt8).length = (Lib.itoa (u : Int)).length + ((Lib.itoa (v : Int)).length + 2) := by simp
      rw [show p + (Lib.itoa (u : Int)).length + 1 + (Lib.itoa (v : Int)).length + 1 = p + (Lib.itoa (u : Int) ++ 32 :: (Lib.itoa (v : Int) ++ [10]) : List UInt8).length by rw [hlen]; omega, hrest _ _ h3, ← hl]
      simp
      omega

theorem rdGatesP_back {s : ByteArray} {I : Nat} : ∀ (T : List (Int × Int × Int)) (k : Nat) (acc : List (Int × Int × Int)) (p : Nat), (∀ x ∈ T, 0 ≤ x.2.2 ∧ x.2.2 ≤ x.2.1 ∧ x.2.1 < x.1 ∧ x.1 < 4294967296) → (∀ i x, T[i]? = some x → x.1 = 2 * ((I + (k + i) : Nat) : Int) + 2) → Here s p (T.flatMap gateB) →
    rdGatesP s I T.length k acc (p, 0) = (acc ++ T, p + (T.flatMap gateB).length, 0)
  | [], k, acc, p, _, _, _ => by simp [rdGatesP]
  | x :: T, k, acc, p, hb, hi, h => by
    obtain ⟨l, a, r⟩ := x
    obtain ⟨hb0, hb1, hb2, hb3⟩ := hb (l, a, r) (by simp)
    simp only at hb0 hb1 hb2 hb3
    have hl := hi 0 (l, a, r) rfl
    simp only [Nat.add_zero] at hl
    obtain ⟨u, hu⟩ : ∃ u : Nat, (l - a).toNat = u := ⟨_, rfl⟩
    obtain ⟨v, hv⟩ : ∃ v : Nat, (a - r).toNat = v := ⟨_, rfl⟩
    have eu : (u : Int) = l - a := by omega
    have ev : (v : Int) = a - r := by omega
    rw [List.flatMap_cons] at h
    have h3 := h.right
    have e : gateB (l, a, r) = numL 5 u ++ numL 5 v := by unfold gateB; rw [hu, hv]
    rw [e] at h h3
    have h1 : Here s p (numL 5 u ++ (numL 5 v ++ T.flatMap gateB)) := by simpa using h
    have hd := rdG_here (least := 1) (top := l) h1 (by omega) (by omega) (by omega)
    have hd2 := rdG_here (least := 0) (top := l - (u : Int)) h1.right (by omega) (by omega) (by omega)
    rw [List.length_cons, rdGatesP_succ, ← hl, hd]
    simp only
    rw [hd2]
    simp only
    rw [if_neg (by simp), List.flatMap_cons, List.length_append, e]
    rw [show p + (numL 5 u).length + (numL 5 v).length = p + (numL 5 u ++ numL 5 v).length by rw [List.length_append]; omega]
    rw [rdGatesP_back T (k + 1) _ _ (fun y hy => hb y (by simp [hy])) (fun i x hx => by
      have := hi (i + 1) x (by simpa using hx)
      rw [this, show k + (i + 1) = k + 1 + i by omega]) h3]
    rw [show l - (u : Int) = a by omega, show a - (v : Int) = r by omega]
    simp
    omega

theorem here_all (l : List UInt8) : Here ⟨l.toArray⟩ 0 l := ⟨[], by simp⟩

theorem insP_eq {C : Circ} (h : NormC C) : insP C.ins.length = C.ins := by
  apply List.ext_getElem?
  intro i
  unfold insP
  rw [List.getElem?_map]
  by_cases hi : i < C.ins.length
  · rw [List.getElem?_range hi, gi_some hi, h.i hi]; rfl
  · rw [List.getElem?_eq_none (by simpa using hi), List.getElem?_eq_none (by omega)]; rfl

/-- what is written is read -/
theorem rdC_back {C : Circ} (h : NormC C) : rdC ⟨(binB C).toArray⟩ C.max C.ins.length C.lats.length C.outs.length C.gates.length C.bads.length C.cons.length (0, 0) = (C, (binB C).length, 0) := by
  have hm0 := h.good.rng.max0
  have hm1 := h.good.rng.max1
  have hall := here_all (binB C)
  unfold binB at hall
  have a1 := hall.left.left.left.left
  have a2 := hall.left.left.left.right
  have a3 := hall.left.left.right
  have a4 := hall.left.right
  have a5 := hall.right
  rw [Nat.zero_add] at a2 a3 a4 a5
  have hu : ∀ l, l ∈ C.used → 0 ≤ l ∧ l ≤ 2 * C.max + 1 := h.good.rng.use
  have u1 : ∀ x ∈ C.outs, 0 ≤ x ∧ x ≤ 2 * C.max + 1 := fun x hx => hu x (by unfold Circ.used; simp [hx])
  have u2 : ∀ x ∈ C.bads, 0 ≤ x ∧ x ≤ 2 * C.max + 1 := fun x hx => hu x (by unfold Circ.used; simp [hx])
  have u3 : ∀ x ∈ C.cons, 0 ≤ x ∧ x ≤ 2 * C.max + 1 := fun x hx => hu x (by unfold Circ.used; simp [hx])
  have b1 := rdLatsP_back (s := ⟨(binB C).toArray⟩) (top := 2 * C.max + 1) (I := C.ins.length) (by omega) C.lats 0 [] 0 (fun x hx => by
      have q1 := hu x.2.1 (by unfold Circ.used; simp only [List.mem_append]; exact .inl (.inr (List.mem_map.2 ⟨x, hx, rfl⟩)))
      have q2 := h.good.rng.res x hx
      have q3 := h.good.rng.own x.1 (by unfold Circ.owned; simp only [List.mem_append]; exact .inl (.inr (List.mem_map.2 ⟨x, hx, rfl⟩)))
      refine ⟨q1.1, q1.2, ?_, ?_⟩ <;> rcases q2 with q2 | q2 | q2 <;> omega)
    (fun i x hx => by
      have hi : i < C.lats.length := (List.getElem?_eq_some_iff.1 hx).1
      have := h.l hi
      rw [g3_some hi] at hx
      rw [← Option.some.inj hx, this, Nat.zero_add]) a1
  have b2 := rdLits_back (s := ⟨(binB C).toArray⟩) (top := 2 * C.max + 1) (by omega) C.outs [] _ u1 a2
  have b3 := rdLits_back (s := ⟨(binB C).toArray⟩) (top := 2 * C.max + 1) (by omega) C.bads [] _ u2 a3
  have b4 := rdLits_back (s := ⟨(binB C).toArray⟩) (top := 2 * C.max + 1) (by omega) C.cons [] _ u3 a4
  have b5 := rdGatesP_back (s := ⟨(binB C).toArray⟩) (I := C.ins.length + C.lats.length) C.gates 0 [] _ (fun x hx => by
      have q1 := hu x.2.2 (by unfold Circ.used; simp only [List.mem_append]; exact .inr (List.mem_flatMap.2 ⟨x, hx, by simp⟩))
      have q2 := h.gate x hx
      have q3 := h.good.rng.own x.1 (by unfold Circ.owned; simp only [List.mem_append]; exact .inr (List.mem_map.2 ⟨x, hx, rfl⟩))
      omega)
    (fun i x hx => by
      have hi : i < C.gates.length := (List.getElem?_eq_some_iff.1 hx).1
      have := h.g hi
      rw [g3_some hi] at hx
      rw [← Option.some.inj hx, this, Nat.zero_add]) a5
  rw [Nat.zero_add] at b1
  rw [← List.length_append] at b2 b3 b4 b5
  rw [rdC_fin b1 b2 b3 b4 b5]
  rw [insP_eq h]
  simp [binB]

end Go.Proofs.YtmjcpapcmbgkjaaDoor

/-
  latchetref11.Same: of two circuits that hold the same. (Printed by mksame.py.)
-/
namespace Go.Proofs.YtmjcpapcmbgkjaaDoor
open Go.RowKit

theorem eqLatS (a b c : Int) (w : World) : (Op.equalIn 10000 51 (.agg #[.int .i64 a, .int .i64 b, .int .i64 c]) (.agg #[.int .i64 a, .int .i64 b, .int .i64 c])).run Tryd.prog w = .ok true w := by
  have u3 := Tryd.underlying3
  have a3 := Tryd.isAgg3
  have z3 := Tryd.sizeOf3
  have hS : Tryd.prog.underlying 51 = some (.struct (Tryd.prog.fieldsOf 51)) := by kernel_rfl
  have hp : Tryd.prog.stoodInHeld 51 = false := by kernel_rfl
  rw [show (10000 : Nat) = 9999 + 1 from rfl, run_equalIn_agg w 9999 51 _ _ hS hp]
  simp only [Program.fieldsOf, Tryd.underlying51]
  go_simp
  try simp
theorem eqGatS (a b c : Int) (w : World) : (Op.equalIn 10000 43 (.agg #[.int .i64 a, .int .i64 b, .int .i64 c]) (.agg #[.int .i64 a, .int .i64 b, .int .i64 c])).run Tryd.prog w = .ok true w := by
  have u3 := Tryd.underlying3
  have a3 := Tryd.isAgg3
  have z3 := Tryd.sizeOf3
  have hS : Tryd.prog.underlying 43 = some (.struct (Tryd.prog.fieldsOf 43)) := by kernel_rfl
  have hp : Tryd.prog.stoodInHeld 43 = false := by kernel_rfl
  rw [show (10000 : Nat) = 9999 + 1 from rfl, run_equalIn_agg w 9999 43 _ _ hS hp]
  simp only [Program.fieldsOf, Tryd.underlying43]
  go_simp
  try simp
theorem eqSymS (a b : Int) (s : ByteArray) (w : World) : (Op.equalIn 10000 73 (.agg #[.int .u8 a, .int .i64 b, .string s]) (.agg #[.int .u8 a, .int .i64 b, .string s])).run Tryd.prog w = .ok true w := by
  have u3 := Tryd.underlying3
  have a3 := Tryd.isAgg3
  have z3 := Tryd.sizeOf3
  have u5 := Tryd.underlying5
  have a5 := Tryd.isAgg5
  have z5 := Tryd.sizeOf5
  have u9 := Tryd.underlying9
  have a9 := Tryd.isAgg9
  have z9 := Tryd.sizeOf9
  have hS : Tryd.prog.underlying 73 = some (.struct (Tryd.prog.fieldsOf 73)) := by kernel_rfl
  have hp : Tryd.prog.stoodInHeld 73 = false := by kernel_rfl
  rw [show (10000 : Nat) = 9999 + 1 from rfl, run_equalIn_agg w 9999 73 _ _ hS hp]
  simp only [Program.fieldsOf, Tryd.underlying73]
  go_simp
  try simp

/-- the symbols in memory, of their kinds -/
def SymOK (w : World) (V : CV) : Prop := ∃ rows : List (List Value), RowAt w V.ay rows.flatten ∧ rows.length = V.ny ∧ ∀ (k : Nat) (r : List Value), rows[k]? = some r → ∃ (a b : Int) (s : ByteArray), r = [.int .u8 a, .int .i64 b, .string s]
theorem SymOK.kp {w w' : World} {V : CV} (h : SymOK w V) (k : Kp (fun _ => False) w w') : SymOK w' V := by
  obtain ⟨rows, h1, h2⟩ := h
  exact ⟨rows, h1.kp k (fun _ _ h => h), h2⟩
theorem SymOK.at {w : World} {V : CV} (h : SymOK w V) {k : Nat} (hk : k < V.ny) : ∃ (p off : Nat) (a b : Int) (s : ByteArray), V.ay = some ⟨p, off, none⟩ ∧ w.cell? ⟨p, off + k * 3, none⟩ = some (.int .u8 a) ∧ w.cell? ⟨p, off + k * 3 + 1, none⟩ = some (.int .i64 b) ∧ w.cell? ⟨p, off + k * 3 + 2, none⟩ = some (.string s) := by
  obtain ⟨rows, h1, h2, h3⟩ := h
  have hr : rows[k]? = some rows[k] := List.getElem?_eq_getElem (by omega)
  obtain ⟨a, b, s, e⟩ := h3 k _ hr
  rw [e] at hr
  have h4 : ∀ r ∈ rows, r.length = 3 := fun r hr => by
    obtain ⟨i, hi⟩ := List.mem_iff_getElem?.1 hr
    obtain ⟨_, _, _, rfl⟩ := h3 i r hi
    rfl
  obtain ⟨b0, off0, e0, c0⟩ := h1.cellAt h4 (j := k) (i := 0) hr rfl
  obtain ⟨b1, off1, e1, c1⟩ := h1.cellAt h4 (j := k) (i := 1) hr rfl
  obtain ⟨b2, off2, e2, c2⟩ := h1.cellAt h4 (j := k) (i := 2) hr rfl
  obtain ⟨rfl, rfl⟩ : b0 = b1 ∧ off0 = off1 := by rw [e0] at e1; simpa using e1
  obtain ⟨rfl, rfl⟩ : b0 = b2 ∧ off0 = off2 := by rw [e0] at e2; simpa using e2
  exact ⟨b0, off0, a, b, s, e0, c0, c1, c2⟩

theorem ints_same {a a' : Option Addr} {c c' : Nat} {l : List Int} {w : World} (h : IntsAt w a l) (h' : IntsAt w a' l) (hn : l.length ≤ 1000000) :
    ∀ u, Kp (fun _ => False) w u → Calls Tryd.prog 27 #[.slice a l.length c, .slice a' l.length c'] u fun e w' => e = .returned (.bool true) ∧ ∃ n, w' = u.drewN n := fun u hu => by
  have := ref_Ints a a' l.length l.length c c' l l u (RowAt.kp h hu (fun _ _ h => h)) (RowAt.kp h' hu (fun _ _ h => h)) rfl rfl (by omega)
  simpa using this

set_option maxRecDepth 100000 in
set_option maxHeartbeats 8000000 in
theorem ref11_Same (V V' : CV) (C : Circ) (w : World) (h : CAt w V C) (h' : CAt w V' C) (hf : CFew C 1000000) (hy : V'.ay = V.ay ∧ V'.ny = V.ny ∧ V'.cy = V.cy ∧ V'.cm = V.cm) (hs : SymOK w V) :
    Calls Tryd.prog 13 #[.agg (cvals V C), .agg (cvals V' C)] w fun e w' => e = .returned (.bool true) ∧ Kp (fun _ => False) w w' := by
  obtain ⟨y1, y2, y3, y4⟩ := hy
  unfold cvals
  rw [y1, y2, y3, y4]
  obtain ⟨wz, hwz⟩ : ∃ wz : World, wz = (w.alloc (.cells #[.int .i64 C.max, .slice V.ai C.ins.length V.ci, .slice V.al C.lats.length V.cl, .slice V.ao C.outs.length V.co, .slice V.ab C.bads.length V.cb, .slice V.ac C.cons.length V.cc, .slice V.ag C.gates.length V.cg, .slice V.ay V.ny V.cy, .string V.cm] 27)).alloc (.cells #[.int .i64 C.max, .slice V'.ai C.ins.length V'.ci, .slice V'.al C.lats.length V'.cl, .slice V'.ao C.outs.length V'.co, .slice V'.ab C.bads.length V'.cb, .slice V'.ac C.cons.length V'.cc, .slice V'.ag C.gates.length V'.cg, .slice V.ay V.ny V.cy, .string V.cm] 27) := ⟨_, rfl⟩
  have hK : Kp (fun _ => False) w wz := by rw [hwz]; exact ((Kp.refl _ w).alloc _).alloc _
  have hA : Blk wz w.heap.size #[.int .i64 C.max, .slice V.ai C.ins.length V.ci, .slice V.al C.lats.length V.cl, .slice V.ao C.outs.length V.co, .slice V.ab C.bads.length V.cb, .slice V.ac C.cons.length V.cc, .slice V.ag C.gates.length V.cg, .slice V.ay V.ny V.cy, .string V.cm] 27 := by rw [hwz]; exact (Blk.new w _ _).alloc _
  have hB : Blk wz (w.heap.size + 1) #[.int .i64 C.max, .slice V'.ai C.ins.length V'.ci, .slice V'.al C.lats.length V'.cl, .slice V'.ao C.outs.length V'.co, .slice V'.ab C.bads.length V'.cb, .slice V'.ac C.cons.length V'.cc, .slice V'.ag C.gates.length V'.cg, .slice V.ay V.ny V.cy, .string V.cm] 27 := by
    rw [hwz]
    have := Blk.new (w.alloc (.cells #[.int .i64 C.max, .slice V.ai C.ins.length V.ci, .slice V.al C.lats.length V.cl, .slice V.ao C.outs.length V.co, .slice V.ab C.bads.length V.cb, .slice V.ac C.cons.length V.cc, .slice V.ag C.gates.length V.cg, .slice V.ay V.ny V.cy, .string V.cm] 27)) #[.int .i64 C.max, .slice V'.ai C.ins.length V'.ci, .slice V'.al C.lats.length V'.cl, .slice V'.ao C.outs.length V'.co, .slice V'.ab C.bads.length V'.cb, .slice V'.ac C.cons.length V'.cc, .slice V'.ag C.gates.length V'.cg, .slice V.ay V.ny V.cy, .string V.cm] 27
    rwa [World.size_alloc] at this
  have HA := Lib.hid (h.kp hK)
  have HB := Lib.hid (h'.kp hK)
  have HS := Lib.hid (hs.kp hK)
  have HYm := Lib.hid h.fy.most
  have HYl := Lib.hid h.fy.le
  have HF := Lib.hid hf
  have HI := Lib.hid (ints_same (c := V.ci) (c' := V'.ci) HA.out.i HB.out.i hf.i)
  have HO := Lib.hid (ints_same (c := V.co) (c' := V'.co) HA.out.o HB.out.o hf.o)
  have HD := Lib.hid (ints_same (c := V.cb) (c' := V'.cb) HA.out.b HB.out.b hf.b)
  have HN := Lib.hid (ints_same (c := V.cc) (c' := V'.cc) HA.out.c HB.out.c hf.c)
  obtain ⟨a0, a1, a2, a3, a4, a5, a6, a7, a8⟩ := hA.cells9
  obtain ⟨b0, b1, b2, b3, b4, b5, b6, b7, b8⟩ := hB.cells9
  have HBA := Lib.hid hA
  have HBB := Lib.hid hB
  have HK := Lib.hid hK
  have HZ := Lib.hid hwz
  have q0 : ((C.max : Int) != C.max) = false := by simp
  have q2 : ((C.lats.length : Int) != (C.lats.length : Int)) = false := by simp
  have q3 : ((C.gates.length : Int) != (C.gates.length : Int)) = false := by simp
  have q4 : ((V.ny : Int) != (V.ny : Int)) = false := by simp
  clear h h' hf hs hK hA hB hwz y1 y2 y3 y4
  go_enter Tryd.func13, Tryd.ntmps13
  go_upto_region 1 with fail
  rw [← HZ.out]
  clear HZ
  go_wp2_with fail
  refine (HI.out _ (Kp.refl _ _)).mono ?_
  rintro e w' ⟨rfl, n1, rfl⟩
  go_wp2_with fail
  refine (HO.out _ ((Kp.refl _ _).drewN _)).mono ?_
  rintro e w' ⟨rfl, n2, rfl⟩
  go_wp2_with fail
  refine (HD.out _ ((Kp.refl _ _).drewN _)).mono ?_
  rintro e w' ⟨rfl, n3, rfl⟩
  go_wp2_with fail
  refine (HN.out _ ((Kp.refl _ _).drewN _)).mono ?_
  rintro e w' ⟨rfl, n4, rfl⟩
  obtain ⟨w4, hw4⟩ : ∃ w4 : World, w4 = (wz.drewN (n1 + n2 + n3)).drewN n4 := ⟨_, rfl⟩
  have hK4 : Kp (fun _ => False) wz w4 := by rw [hw4]; exact ((Kp.refl _ _).drewN _).drewN _
  rw [← hw4]
  clear a0 a1 a2 a3 a4 a5 a6 a7 a8 b0 b1 b2 b3 b4 b5 b6 b7 b8 HI HO HD HN q0 hw4
  have HA := Lib.hid (HA.out.kp hK4)
  have HB := Lib.hid (HB.out.kp hK4)
  have HS := Lib.hid (HS.out.kp hK4)
  have HBA := Lib.hid (HBA.out.kp hK4 (fun h => h))
  have HBB := Lib.hid (HBB.out.kp hK4 (fun h => h))
  have HK := Lib.hid (HK.out.trans hK4 (fun _ _ h => h))
  have HG := Lib.hid (show ∀ u, Kp (fun _ => False) w4 u → (u.cell? ⟨w.heap.size, 2, none⟩ = some (.slice V.al C.lats.length V.cl) ∧ u.cell? ⟨w.heap.size, 6, none⟩ = some (.slice V.ag C.gates.length V.cg) ∧ u.cell? ⟨w.heap.size, 7, none⟩ = some (.slice V.ay V.ny V.cy)) ∧ u.cell? ⟨w.heap.size + 1, 2, none⟩ = some (.slice V'.al C.lats.length V'.cl) ∧ u.cell? ⟨w.heap.size + 1, 6, none⟩ = some (.slice V'.ag C.gates.length V'.cg) ∧ u.cell? ⟨w.heap.size + 1, 7, none⟩ = some (.slice V.ay V.ny V.cy) from fun u hu =>
    ⟨⟨(HBA.out.kp hu (fun h => h)).cell rfl, (HBA.out.kp hu (fun h => h)).cell rfl, (HBA.out.kp hu (fun h => h)).cell rfl⟩, (HBB.out.kp hu (fun h => h)).cell rfl, (HBB.out.kp hu (fun h => h)).cell rfl, (HBB.out.kp hu (fun h => h)).cell rfl⟩)
  clear hK4 HBA HBB
  obtain ⟨⟨a2, a6, a7⟩, b2, b6, b7⟩ := HG.out w4 (Kp.refl _ _)
  go_wp2_with fail
  clear a2 a6 a7 b2 b6 b7 q2 q3 q4
  go_loopw [5] (fun v5 wr => ∃ k : Nat, v5 = .int .i64 k ∧ k ≤ C.lats.length ∧ Kp (fun _ => False) w4 wr) (fun v5 _ => C.lats.length - (intOf v5).toNat)
  case atStart => exact ⟨0, rfl, by omega, by first | exact Kp.refl _ _ | exact HKp.out⟩
  case round =>
    obtain ⟨k, rfl, hk, hkp⟩ := hrel
    try clear HKp
    obtain ⟨wp, rfl⟩ : ∃ wp : World, wp = wr := ⟨_, rfl⟩
    obtain ⟨⟨a2, a6, a7⟩, b2, b6, b7⟩ := HG.out wp hkp
    have HKp := Lib.hid hkp
    clear hkp
    by_cases hlt : k < C.lats.length
    · obtain ⟨b, off, ea, hE⟩ := HA.out.latCell hlt
      obtain ⟨e0, e1, e2⟩ := hE _ HKp.out
      obtain ⟨b', off', ea', hE'⟩ := HB.out.latCell hlt
      obtain ⟨f0, f1, f2⟩ := hE' _ HKp.out
      obtain ⟨x0, hx0⟩ : ∃ x, (g3 C.lats k).1 = x := ⟨_, rfl⟩
      obtain ⟨x1, hx1⟩ : ∃ x, (g3 C.lats k).2.1 = x := ⟨_, rfl⟩
      obtain ⟨x2, hx2⟩ : ∃ x, (g3 C.lats k).2.2 = x := ⟨_, rfl⟩
      rw [hx0] at e0 f0
      rw [hx1] at e1 f1
      rw [hx2] at e2 f2
      rw [ea] at a2 ⊢
      rw [ea'] at b2 ⊢
      clear hx0 hx1 hx2 hE hE' ea ea'
      have i0 : (0 : Int) ≤ (k : Int) := by omega
      have i2 : (k : Int) < (C.lats.length : Nat) := by omega
      have hq := fun u => eqLatS x0 x1 x2 u
      have hb : C.lats.length ≤ 1000000 := HF.out.l
      go_wp2_with fail
      go_quiet (fail)
      go_wp2_with fail
      go_roundw
      case rel => exact ⟨k + 1, by go_num, by omega, HKp.out.drewN _⟩
      case measure => simp [intOf]; omega
    · obtain rfl : k = C.lats.length := by omega
      go_wp2_with fail
      go_loopw [6] (fun v6 wr => ∃ k : Nat, v6 = .int .i64 k ∧ k ≤ C.gates.length ∧ Kp (fun _ => False) w4 wr) (fun v6 _ => C.gates.length - (intOf v6).toNat)
      case atStart => exact ⟨0, rfl, by omega, by first | exact Kp.refl _ _ | exact HKp.out⟩
      case round =>
        obtain ⟨k, rfl, hk, hkp⟩ := hrel
        try clear HKp
        obtain ⟨wp, rfl⟩ : ∃ wp : World, wp = wr := ⟨_, rfl⟩
        obtain ⟨⟨a2, a6, a7⟩, b2, b6, b7⟩ := HG.out wp hkp
        have HKp := Lib.hid hkp
        clear hkp
        by_cases hlt : k < C.gates.length
        · obtain ⟨b, off, ea, hE⟩ := HA.out.gateCell hlt
          obtain ⟨e0, e1, e2⟩ := hE _ HKp.out
          obtain ⟨b', off', ea', hE'⟩ := HB.out.gateCell hlt
          obtain ⟨f0, f1, f2⟩ := hE' _ HKp.out
          obtain ⟨x0, hx0⟩ : ∃ x, (g3 C.gates k).1 = x := ⟨_, rfl⟩
          obtain ⟨x1, hx1⟩ : ∃ x, (g3 C.gates k).2.1 = x := ⟨_, rfl⟩
          obtain ⟨x2, hx2⟩ : ∃ x, (g3 C.gates k).2.2 = x := ⟨_, rfl⟩
          rw [hx0] at e0 f0
          rw [hx1] at e1 f1
          rw [hx2] at e2 f2
          rw [ea] at a6 ⊢
          rw [ea'] at b6 ⊢
          clear hx0 hx1 hx2 hE hE' ea ea'
          have i0 : (0 : Int) ≤ (k : Int) := by omega
          have i2 : (k : Int) < (C.gates.length : Nat) := by omega
          have hq := fun u => eqGatS x0 x1 x2 u
          have hb : C.gates.length ≤ 1000000 := HF.out.g
          go_wp2_with fail
          go_quiet (fail)
          go_wp2_with fail
          go_roundw
          case rel => exact ⟨k + 1, by go_num, by omega, HKp.out.drewN _⟩
          case measure => simp [intOf]; omega
        · obtain rfl : k = C.gates.length := by omega
          go_wp2_with fail
          go_loopw [7] (fun v7 wr => ∃ k : Nat, v7 = .int .i64 k ∧ k ≤ V.ny ∧ Kp (fun _ => False) w4 wr) (fun v7 _ => V.ny - (intOf v7).toNat)
          case atStart => exact ⟨0, rfl, by omega, by first | exact Kp.refl _ _ | exact HKp.out⟩
          case round =>
            obtain ⟨k, rfl, hk, hkp⟩ := hrel
            try clear HKp
            obtain ⟨wp, rfl⟩ : ∃ wp : World, wp = wr := ⟨_, rfl⟩
            obtain ⟨⟨a2, a6, a7⟩, b2, b6, b7⟩ := HG.out wp hkp
            have HKp := Lib.hid hkp
            clear hkp
            by_cases hlt : k < V.ny
            · obtain ⟨b, off, x0, x1, x2, ea, e0, e1, e2⟩ := (HS.out.kp HKp.out).at hlt
              rw [ea] at a7 b7 ⊢
              clear ea
              have i0 : (0 : Int) ≤ (k : Int) := by omega
              have i2 : (k : Int) < (V.ny : Nat) := by omega
              have hq := fun u => eqSymS x0 x1 x2 u
              have hb : V.ny ≤ 9223372036854775807 := by have h1 := HYl.out; have h2 := HYm.out; unfold maxLen at h2; omega
              go_wp2_with fail
              go_quiet (fail)
              go_wp2_with fail
              go_roundw
              case rel => exact ⟨k + 1, by go_num, by omega, HKp.out.drewN _⟩
              case measure => simp [intOf]; omega
            · obtain rfl : k = V.ny := by omega
              go_wp2_with fail
              go_ret
              exact ⟨rfl, HK.out.trans HKp.out (fun _ _ h => h)⟩

end Go.Proofs.YtmjcpapcmbgkjaaDoor

/-
  latchetref13.HeadOf; latchetlaw14.lives.
-/
namespace Go.Proofs.YtmjcpapcmbgkjaaDoor
open Go.RowKit

theorem blk8 {w : World} {b : Nat} {x0 x1 x2 x3 x4 x5 x6 x7 : Value} {t : TypeId} (h : Blk w b #[x0, x1, x2, x3, x4, x5, x6, x7] t) :
    w.cell? ⟨b, 0, none⟩ = some x0 ∧ w.cell? ⟨b, 1, none⟩ = some x1 ∧ w.cell? ⟨b, 2, none⟩ = some x2 ∧ w.cell? ⟨b, 3, none⟩ = some x3 ∧ w.cell? ⟨b, 4, none⟩ = some x4 ∧ w.cell? ⟨b, 5, none⟩ = some x5 ∧ w.cell? ⟨b, 6, none⟩ = some x6 ∧ w.cell? ⟨b, 7, none⟩ = some x7 :=
  ⟨h.cell rfl, h.cell rfl, h.cell rfl, h.cell rfl, h.cell rfl, h.cell rfl, h.cell rfl, h.cell rfl⟩

/-- a circuit's head -/
def headV (C : Circ) : Value := .agg #[.bool true, .int .i64 C.max, .int .i64 (C.ins.length : Nat), .int .i64 (C.lats.length : Nat), .int .i64 (C.outs.length : Nat), .int .i64 (C.gates.length : Nat), .int .i64 (C.bads.length : Nat), .int .i64 (C.cons.length : Nat)]

theorem head_new (w : World) (c d : Array Value) (t u : TypeId) : Blk ((w.alloc (.cells c t)).alloc (.cells d u)) (w.heap.size + 1) d u := by
  have := Blk.new (w.alloc (.cells c t)) d u
  rwa [World.size_alloc] at this

set_option maxRecDepth 100000 in
set_option maxHeartbeats 2000000 in
theorem ref13_HeadOf (V : CV) (C : Circ) (w : World) :
    Calls Tryd.prog 11 #[.agg (cvals V C), .bool true] w fun e w' => e = .returned (headV C) ∧ Kp (fun _ => False) w w' := by
  have HK : Hid (∀ (c d : Array Value) (t u : TypeId), Kp (fun _ => False) w ((w.alloc (.cells c t)).alloc (.cells d u))) := Lib.hid (fun c d t u => ((Kp.refl _ w).alloc _).alloc _)
  obtain ⟨n1, hn1⟩ : ∃ n, C.ins.length = n := ⟨_, rfl⟩
  obtain ⟨n2, hn2⟩ : ∃ n, C.lats.length = n := ⟨_, rfl⟩
  obtain ⟨n3, hn3⟩ : ∃ n, C.outs.length = n := ⟨_, rfl⟩
  obtain ⟨n4, hn4⟩ : ∃ n, C.bads.length = n := ⟨_, rfl⟩
  obtain ⟨n5, hn5⟩ : ∃ n, C.cons.length = n := ⟨_, rfl⟩
  obtain ⟨n6, hn6⟩ : ∃ n, C.gates.length = n := ⟨_, rfl⟩
  obtain ⟨mx, hmx⟩ : ∃ n, C.max = n := ⟨_, rfl⟩
  unfold cvals headV
  rw [hn1, hn2, hn3, hn4, hn5, hn6, hmx]
  clear hn1 hn2 hn3 hn4 hn5 hn6 hmx
  go_enter Tryd.func11, Tryd.ntmps11
  go_wp2_with fail
  have hB := head_new w #[.int .i64 mx, .slice V.ai n1 V.ci, .slice V.al n2 V.cl, .slice V.ao n3 V.co, .slice V.ab n4 V.cb, .slice V.ac n5 V.cc, .slice V.ag n6 V.cg, .slice V.ay V.ny V.cy, .string V.cm] #[.bool true, .int .i64 mx, .int .i64 (n1 : Nat), .int .i64 (n2 : Nat), .int .i64 (n3 : Nat), .int .i64 (n6 : Nat), .int .i64 (n4 : Nat), .int .i64 (n5 : Nat)] 27 38
  obtain ⟨z0, z1, z2, z3, z4, z5, z6, z7⟩ := blk8 hB
  exact bodyPost_ret (v := .agg #[.bool true, .int .i64 mx, .int .i64 (n1 : Nat), .int .i64 (n2 : Nat), .int .i64 (n3 : Nat), .int .i64 (n6 : Nat), .int .i64 (n4 : Nat), .int .i64 (n5 : Nat)]) (by simp [results, Tryd.results11, go_sem, z0, z1, z2, z3, z4, z5, z6, z7]) rfl ⟨rfl, HK.out _ _ _ _⟩

/-- the example -/
def exC : Circ := ⟨3, [2, 4], [], [], [], [], [(6, 4, 2)]⟩
theorem exC_norm : NormC exC := by
  refine normC_iff.2 ⟨by decide +kernel, by decide +kernel, fun i hi => ?_, fun i hi => ?_⟩
  · have hi : i < 3 := hi
    match i, hi with
    | 0, _ => rfl
    | 1, _ => rfl
    | 2, _ => rfl
  · have hi : i < 1 := hi
    match i, hi with
    | 0, _ => decide
theorem exC_text : binB exC = [2, 2] := by decide +kernel
theorem exC_few : CFew exC 1000000 := ⟨by decide, by decide, by decide, by decide, by decide, by decide⟩
theorem exC_read : rdC ⟨#[2, 2]⟩ 3 2 0 0 1 0 0 (0, 0) = (exC, 2, 0) := by
  have := rdC_back exC_norm
  rw [exC_text] at this
  exact this

theorem bin_Write_yes (V : CV) (C : Circ) (w : World) (h : CAt w V C) (hf : CFew C 1000000) (hM : -9223372036854775808 ≤ C.max ∧ C.max ≤ 9223372036854775807) (ht : Tab w) (hN : NormC C) :
    Calls Tryd.prog 7 #[.agg (cvals V C)] w fun e w' => e = .returned (.tuple #[.string ⟨(binB C).toArray⟩, .bool true]) ∧ Kp (fun _ => False) w w' :=
  (bin_Write V C w h hf hM ht).mono (by
    rintro e w' ⟨⟨-, rfl⟩ | ⟨h, -⟩, hK⟩
    · exact ⟨rfl, hK⟩
    · exact absurd hN h)
theorem bin_Write_no (V : CV) (C : Circ) (w : World) (h : CAt w V C) (hf : CFew C 1000000) (hM : -9223372036854775808 ≤ C.max ∧ C.max ≤ 9223372036854775807) (ht : Tab w) (hN : ¬ NormC C) :
    Calls Tryd.prog 7 #[.agg (cvals V C)] w fun e w' => e = .returned (.tuple #[.string ⟨#[]⟩, .bool false]) ∧ Kp (fun _ => False) w w' :=
  (bin_Write V C w h hf hM ht).mono (by
    rintro e w' ⟨⟨h, -⟩ | ⟨-, rfl⟩, hK⟩
    · exact absurd h hN
    · exact ⟨rfl, hK⟩)

/-- what is written is read back -/
theorem bin_Read_back (C : Circ) (w : World) (hN : NormC C) (hf : CFew C 1000000) (hs : (binB C).length ≤ 1000000) :
    Calls Tryd.prog 10 #[.string ⟨(binB C).toArray⟩, .int .i64 0, headV C] w fun e w' => ∃ V', e = .returned (.tuple #[.agg (cvals V' C), .int .i64 ((binB C).length : Nat), .int .i64 0]) ∧ CAt w' V' C ∧ (V'.ay = none ∧ V'.ny = 0 ∧ V'.cy = 0 ∧ V'.cm = ⟨#[]⟩) ∧ Kp (fun _ => False) w w' := by
  have h := bin_Read ⟨(binB C).toArray⟩ 0 true C.max C.ins.length C.lats.length C.outs.length C.gates.length C.bads.length C.cons.length w (by show (binB C).toArray.size ≤ _; simpa using hs) (Nat.zero_le _) hN.good.rng.max0 hN.good.rng.max1 (Nat.le_trans hf.i (by decide)) (Nat.le_trans hf.l (by decide)) (Nat.le_trans hf.o (by decide)) (Nat.le_trans hf.g (by decide)) (Nat.le_trans hf.b (by decide)) (Nat.le_trans hf.c (by decide))
  rw [rdC_back hN] at h
  refine h.mono ?_
  rintro e w' ⟨⟨h0, -⟩ | ⟨-, V', rfl, hC, hy⟩, hK⟩
  · exact absurd rfl h0
  · exact ⟨V', rfl, hC, hy, hK⟩

def cx (V : CV) : Array Value := #[.int .i64 3, .slice V.ai 2 V.ci, .slice V.al 0 V.cl, .slice V.ao 0 V.co, .slice V.ab 0 V.cb, .slice V.ac 0 V.cc, .slice V.ag 1 V.cg, .slice none 0 0, .string ⟨#[]⟩]
theorem cx_eq {V : CV} (h : V.ay = none ∧ V.ny = 0 ∧ V.cy = 0 ∧ V.cm = ⟨#[]⟩) : cvals V exC = cx V := by
  obtain ⟨h1, h2, h3, h4⟩ := h
  unfold cvals cx
  rw [h1, h2, h3, h4]
  rfl
def exV (n : Nat) : CV := ⟨some ⟨n, 0, none⟩, 2, none, 0, none, 0, none, 0, none, 0, some ⟨n + 1, 0, none⟩, 1, none, 0, 0, ⟨#[]⟩⟩
theorem exV_at {w : World} {n : Nat} (h : Blk w n #[.int .i64 2, .int .i64 4] 3) (h' : Blk w (n + 1) #[.int .i64 6, .int .i64 4, .int .i64 2] 43) : CAt w (exV n) exC := by
  have hi : IntsAt w (some ⟨n, 0, none⟩) [2, 4] := by
    intro j v hj
    match j, hj with
    | 0, hj => exact ⟨n, 0, rfl, by rw [← hj]; exact h.cell (i := 0) rfl⟩
    | 1, hj => exact ⟨n, 0, rfl, by rw [← hj]; exact h.cell (i := 1) rfl⟩
    | j + 2, hj => cases hj
  have hg : RowAt w (some ⟨n + 1, 0, none⟩) ([((6 : Int), (4 : Int), (2 : Int))].map tri).flatten := by
    intro j v hj
    match j, hj with
    | 0, hj => exact ⟨n + 1, 0, rfl, by rw [← hj]; exact h'.cell (i := 0) rfl⟩
    | 1, hj => exact ⟨n + 1, 0, rfl, by rw [← hj]; exact h'.cell (i := 1) rfl⟩
    | 2, hj => exact ⟨n + 1, 0, rfl, by rw [← hj]; exact h'.cell (i := 2) rfl⟩
    | j + 3, hj => cases hj
  exact ⟨hi, RowAt.nil _ _, RowAt.nil _ _, RowAt.nil _ _, RowAt.nil _ _, hg,
    ⟨[], RowAt.nil _ _, rfl, (fun r h => by cases h), (fun r h => by cases h)⟩,
    ⟨Nat.le_refl _, (by simp [exV, maxLen]), (fun h => by cases h)⟩, ⟨Nat.le_refl _, (by simp [exV, maxLen]), fun _ => rfl⟩, ⟨Nat.le_refl _, (by simp [exV, maxLen]), fun _ => rfl⟩, ⟨Nat.le_refl _, (by simp [exV, maxLen]), fun _ => rfl⟩, ⟨Nat.le_refl _, (by simp [exV, maxLen]), fun _ => rfl⟩, ⟨Nat.le_refl _, (by simp [exV, maxLen]), (fun h => by cases h)⟩, ⟨Nat.le_refl _, (by simp [exV, maxLen]), fun _ => rfl⟩⟩
theorem exHead : headV exC = .agg #[.bool true, .int .i64 3, .int .i64 2, .int .i64 0, .int .i64 0, .int .i64 1, .int .i64 0, .int .i64 0] := rfl
theorem exWrite {w : World} (n : Nat) (h : CAt w (exV n) exC) (ht : Tab w) : Calls Tryd.prog 7 #[.agg (cx (exV n))] w fun e w' => e = .returned (.tuple #[.string ⟨#[2, 2]⟩, .bool true]) ∧ Kp (fun _ => False) w w' := by
  have := bin_Write_yes (exV n) exC w h exC_few ⟨by decide, by decide⟩ ht exC_norm
  rw [exC_text, cx_eq ⟨rfl, rfl, rfl, rfl⟩] at this
  exact this
theorem exRead (w : World) : Calls Tryd.prog 10 #[.string ⟨#[2, 2]⟩, .int .i64 0, .agg #[.bool true, .int .i64 3, .int .i64 2, .int .i64 0, .int .i64 0, .int .i64 1, .int .i64 0, .int .i64 0]] w fun e w' => ∃ V', e = .returned (.tuple #[.agg (cx V'), .int .i64 2, .int .i64 0]) ∧ CAt w' V' exC ∧ (V'.ay = none ∧ V'.ny = 0 ∧ V'.cy = 0 ∧ V'.cm = ⟨#[]⟩) ∧ Kp (fun _ => False) w w' := by
  have h := bin_Read_back exC w exC_norm exC_few (by rw [exC_text]; decide)
  rw [exC_text, exHead] at h
  refine h.mono ?_
  rintro e w' ⟨V', rfl, hC, hy, hK⟩
  exact ⟨V', by rw [cx_eq hy]; rfl, hC, hy, hK⟩
theorem exSame {w : World} (n : Nat) (V' : CV) (h : CAt w (exV n) exC) (h' : CAt w V' exC) (hy : V'.ay = none ∧ V'.ny = 0 ∧ V'.cy = 0 ∧ V'.cm = ⟨#[]⟩) : Calls Tryd.prog 13 #[.agg (cx (exV n)), .agg (cx V')] w fun e w' => e = .returned (.bool true) ∧ Kp (fun _ => False) w w' := by
  have := ref11_Same (exV n) V' exC w h h' exC_few hy ⟨[], RowAt.nil _ _, rfl, fun k r h => by cases h⟩
  rw [cx_eq ⟨rfl, rfl, rfl, rfl⟩, cx_eq hy] at this
  exact this

set_option maxRecDepth 100000 in
set_option maxHeartbeats 8000000 in
theorem law14_lives (w : World) (ht : Tab w) : Calls Tryd.prog 5 #[] w fun e w' => e = .returned (.bool true) ∧ Kp (fun _ => False) w w' := by
  obtain ⟨wz, hwz⟩ : ∃ wz : World, wz = ((w.alloc (.cells #[.int .i64 2, .int .i64 4] 3)).alloc (.cells #[.int .i64 6, .int .i64 4, .int .i64 2] 43)).alloc (.cells #[.int .i64 3, .slice (some ⟨w.heap.size, 0, none⟩) 2 2, .slice none 0 0, .slice none 0 0, .slice none 0 0, .slice none 0 0, .slice (some ⟨w.heap.size + 1, 0, none⟩) 1 1, .slice none 0 0, .string ⟨#[]⟩] 27) := ⟨_, rfl⟩
  have HK0 := Lib.hid (show Kp (fun _ => False) w wz by rw [hwz]; exact (((Kp.refl _ w).alloc _).alloc _).alloc _)
  have HC0 := Lib.hid (show Blk wz (w.heap.size + 1 + 1) #[.int .i64 3, .slice (some ⟨w.heap.size, 0, none⟩) 2 2, .slice none 0 0, .slice none 0 0, .slice none 0 0, .slice none 0 0, .slice (some ⟨w.heap.size + 1, 0, none⟩) 1 1, .slice none 0 0, .string ⟨#[]⟩] 27 by
    rw [hwz]
    have := Blk.new ((w.alloc (.cells #[.int .i64 2, .int .i64 4] 3)).alloc (.cells #[.int .i64 6, .int .i64 4, .int .i64 2] 43)) #[.int .i64 3, .slice (some ⟨w.heap.size, 0, none⟩) 2 2, .slice none 0 0, .slice none 0 0, .slice none 0 0, .slice none 0 0, .slice (some ⟨w.heap.size + 1, 0, none⟩) 1 1, .slice none 0 0, .string ⟨#[]⟩] 27
    rwa [World.size_alloc, World.size_alloc] at this)
  have HA := Lib.hid (show CAt wz (exV w.heap.size) exC from exV_at (by rw [hwz]; exact ((Blk.new w _ _).alloc _).alloc _) (by rw [hwz]; exact (head_new w _ _ _ _).alloc _))
  have HZ := Lib.hid hwz
  have HWr := Lib.hid (exWrite w.heap.size HA.out (ht.kp HK0.out))
  unfold cx exV at HWr
  obtain ⟨c0, c1, c2, c3, c4, c5, c6, c7, c8⟩ := Blk.cells9 HC0.out
  clear hwz ht
  go_enter Tryd.func5, Tryd.ntmps5
  go_upto_region 2 with fail
  rw [← HZ.out]
  clear HZ
  go_upto_region 3 with (go_at_call 7; with_reducible refine Calls.mono HWr.out ?_; rintro e w1 ⟨rfl, hK1⟩; have HK1 := Lib.hid hK1; clear hK1)
  clear c0 c1 c2 c3 c4 c5 c6 c7 c8 HWr
  have HRd := Lib.hid (exRead w1)
  go_upto_region 4 with (go_at_call 10; with_reducible refine Calls.mono HRd.out ?_; rintro e w2 ⟨V', rfl, hC, hy, hK2⟩; have HC2 := Lib.hid hC; have HY := Lib.hid hy; have HK2 := Lib.hid hK2; clear hC hy hK2; unfold cx)
  obtain ⟨w3, hw3⟩ : ∃ w3 : World, w3 = w2.alloc (.cells #[.int .i64 3, .slice V'.ai 2 V'.ci, .slice V'.al 0 V'.cl, .slice V'.ao 0 V'.co, .slice V'.ab 0 V'.cb, .slice V'.ac 0 V'.cc, .slice V'.ag 1 V'.cg, .slice none 0 0, .string ⟨#[]⟩] 27) := ⟨_, rfl⟩
  rw [← hw3]
  have hK3 : Kp (fun _ => False) w2 w3 := by rw [hw3]; exact (Kp.refl _ w2).alloc _
  have hD : Blk w3 w2.heap.size #[.int .i64 3, .slice V'.ai 2 V'.ci, .slice V'.al 0 V'.cl, .slice V'.ao 0 V'.co, .slice V'.ab 0 V'.cb, .slice V'.ac 0 V'.cc, .slice V'.ag 1 V'.cg, .slice none 0 0, .string ⟨#[]⟩] 27 := by rw [hw3]; exact Blk.new _ _ _
  have HK13 := Lib.hid ((HK1.out.trans HK2.out (fun _ _ h => h)).trans hK3 (fun _ _ h => h))
  have hC3 := HC0.out.kp HK13.out (fun h => h)
  have HSm := Lib.hid (exSame w.heap.size V' (HA.out.kp HK13.out) (HC2.out.kp hK3) HY.out)
  unfold cx exV at HSm
  obtain ⟨c0, c1, c2, c3, c4, c5, c6, c7, c8⟩ := Blk.cells9 hC3
  obtain ⟨d0, d1, d2, d3, d4, d5, d6, d7, d8⟩ := Blk.cells9 hD
  clear hw3 hD hC3 hK3 HRd
  have HKe := Lib.hid (HK0.out.trans HK13.out (fun _ _ h => h))
  go_wp2_with (go_at_call 13; with_reducible refine Calls.mono HSm.out ?_; rintro e w4 ⟨rfl, hK4⟩; have HK4 := Lib.hid (HKe.out.trans hK4 (fun _ _ h => h)); clear hK4)
  go_ret
  exact ⟨rfl, HK4.out⟩

end Go.Proofs.YtmjcpapcmbgkjaaDoor

/-
  latchetref14.line, Write. (Printed by mkrefwrite.py.)
-/
namespace Go.Proofs.YtmjcpapcmbgkjaaDoor
open Go.RowKit

set_option maxRecDepth 100000 in
set_option maxHeartbeats 1000000 in
theorem ref14_line (a b : Int) (w : World) (ha : 0 ≤ a ∧ a ≤ 6000001) (hb : 0 ≤ b ∧ b ≤ 6000001) :
    Calls Tryd.prog 25 #[.int .i64 a, .int .i64 b] w fun e w' => e = .returned (.string ⟨(lineB a b).toArray⟩) ∧ Kp (fun _ => False) w w' := by
  have hi1 := itoaLen (n := a) (by omega) (by omega)
  have hi2 := itoaLen (n := b) (by omega) (by omega)
  have HA := Lib.hid (fun u => ref_Dec a u (by omega) (by omega))
  have HB := Lib.hid (fun u => ref_Dec b u (by omega) (by omega))
  clear ha hb
  by_cases h : b = 0
  · have q : ((b : Int) == 0) = true := by simp [h]
    have HL := Lib.hid (show lineB a b = Lib.itoa a ++ [10] by unfold lineB; rw [if_pos h])
    clear h
    obtain ⟨T1, hT1⟩ : ∃ T, Lib.itoa a = T := ⟨_, rfl⟩
    rw [hT1] at HA HL hi1
    have hc : ¬ 9223372036854775807 < T1.length + 1 := by omega
    clear hT1 hi1 hi2
    go_enter Tryd.func25, Tryd.ntmps25
    go_wp2_with (go_at_call 40; refine (HA.out _).mono ?_; rintro e w1 ⟨rfl, hK1⟩; have HK1 := Lib.hid hK1; clear hK1)
    go_ret
    exact ⟨by rw [HL.out]; exact congrArg (fun x => Ending.returned (Value.string x)) (cat_bytes T1 [10]), HK1.out⟩
  · have q : ((b : Int) == 0) = false := by simp [h]
    have HL := Lib.hid (show lineB a b = Lib.itoa a ++ 32 :: (Lib.itoa b ++ [10]) by unfold lineB; rw [if_neg h])
    clear h
    obtain ⟨T1, hT1⟩ : ∃ T, Lib.itoa a = T := ⟨_, rfl⟩
    rw [hT1] at HA HL hi1
    obtain ⟨T2, hT2⟩ : ∃ T, Lib.itoa b = T := ⟨_, rfl⟩
    rw [hT2] at HB HL hi2
    have hc : ¬ 9223372036854775807 < T1.length + 1 := by omega
    have hc2 : ¬ 9223372036854775807 < T1.length + 1 + T2.length := by omega
    have hc3 : ¬ 9223372036854775807 < T1.length + 1 + T2.length + 1 := by omega
    clear hT1 hi1 hi2 hT2
    go_enter Tryd.func25, Tryd.ntmps25
    go_upto_region 3 with fail
    go_wp2_with (first
      | (go_at_call 40; refine (HA.out _).mono ?_; rintro e w1 ⟨rfl, hK1⟩; have HK1 := Lib.hid hK1; clear hK1 HA)
      | (go_at_call 40; refine (HB.out _).mono ?_; rintro e w2 ⟨rfl, hK2⟩; have HK2 := Lib.hid (HK1.out.trans hK2 (fun _ _ h => h)); clear hK2 HB))
    go_ret
    exact ⟨by rw [HL.out]; exact congrArg (fun x => Ending.returned (Value.string x)) (by rw [show (⟨#[32]⟩ : ByteArray) = ⟨([32] : List UInt8).toArray⟩ from rfl, show (⟨#[10]⟩ : ByteArray) = ⟨([10] : List UInt8).toArray⟩ from rfl, cat_bytes, cat_bytes, cat_bytes]; simp), HK2.out⟩

/-- what the document's Write keeps -/
structure RW (w wr : World) (V : CV) (C : Circ) : Prop where
  c : Blk wr w.heap.size (cvals V C) 27
  kp : Kp (fun _ => False) w wr
theorem RW.kp' {w wr w' : World} {V : CV} {C : Circ} (h : RW w wr V C) (k : Kp (fun _ => False) wr w') : RW w w' V C := ⟨h.c.kp k (fun h => h), h.kp.trans k (fun _ _ h => h)⟩

set_option maxRecDepth 100000 in
set_option maxHeartbeats 8000000 in
theorem ref14_Write (V : CV) (C : Circ) (w : World) (h : CAt w V C) (hf : CFew C 1000000) (hN : NormC C) :
    Calls Tryd.prog 12 #[.agg (cvals V C)] w fun e w' => e = .returned (.string ⟨(binB C).toArray⟩) ∧ Kp (fun _ => False) w w' := by
  have HA := Lib.hid h
  have HF := Lib.hid hf
  have HNn := Lib.hid hN
  obtain ⟨wz, hwz⟩ : ∃ wz : World, wz = w.alloc (.cells (cvals V C) 27) := ⟨_, rfl⟩
  have HW0 := Lib.hid (show RW w wz V C from ⟨by rw [hwz]; exact Blk.new w (cvals V C) _, by rw [hwz]; exact (Kp.refl _ w).alloc _⟩)
  have HZ := Lib.hid hwz
  have HWc := Lib.hid (show ∀ (u : World), RW w u V C → u.cell? ⟨w.heap.size, 2, none⟩ = some (.slice V.al C.lats.length V.cl) ∧ u.cell? ⟨w.heap.size, 3, none⟩ = some (.slice V.ao C.outs.length V.co) ∧ u.cell? ⟨w.heap.size, 4, none⟩ = some (.slice V.ab C.bads.length V.cb) ∧ u.cell? ⟨w.heap.size, 5, none⟩ = some (.slice V.ac C.cons.length V.cc) ∧ u.cell? ⟨w.heap.size, 6, none⟩ = some (.slice V.ag C.gates.length V.cg) from fun u h =>
    ⟨h.c.cell (i := 2) rfl, h.c.cell (i := 3) rfl, h.c.cell (i := 4) rfl, h.c.cell (i := 5) rfl, h.c.cell (i := 6) rfl⟩)
  clear h hwz hf hN
  unfold cvals at HZ ⊢
  go_enter Tryd.func12, Tryd.ntmps12
  go_upto_region 1 with fail
  rw [← HZ.out]
  clear HZ
  go_wp2_with fail
  go_loopw [3, 4] (fun v3 v4 wr => ∃ k : Nat, v4 = .int .i64 k ∧ k ≤ C.lats.length ∧ v3 = .string ⟨((C.lats.take k).flatMap latB).toArray⟩ ∧ RW w wr V C) (fun _ v4 _ => C.lats.length - (intOf v4).toNat)
  case atStart => exact ⟨0, rfl, by omega, rfl, HW0.out⟩
  case round =>
    obtain ⟨k, rfl, hk, rfl, hW⟩ := hrel
    obtain ⟨wp, rfl⟩ : ∃ wp : World, wp = wr := ⟨_, rfl⟩
    have HW := Lib.hid hW
    have HK := Lib.hid hk
    have hnl : C.lats.length ≤ 1000000 := HF.out.l
    clear hW
    by_cases hlt : k < C.lats.length
    · obtain ⟨b, off, ea, hE⟩ := HA.out.latCell hlt
      obtain ⟨c2, -⟩ := HWc.out _ HW.out
      have hr := norm_lat HNn.out HF.out hlt
      have hln := lats_len HNn.out HF.out k
      have hln2 := latB_len hr
      have hTk := flat_take latB (g3_some hlt)
      obtain ⟨x0, hx0⟩ : ∃ x, (g3 C.lats k).1 = x := ⟨_, rfl⟩
      obtain ⟨x1, hx1⟩ : ∃ x, (g3 C.lats k).2.1 = x := ⟨_, rfl⟩
      obtain ⟨x2, hx2⟩ : ∃ x, (g3 C.lats k).2.2 = x := ⟨_, rfl⟩
      have hg3 : g3 C.lats k = (x0, x1, x2) := by rw [← hx0, ← hx1, ← hx2]
      rw [hx0] at hE
      rw [hx1] at hE hr
      rw [hx2] at hE hr
      rw [hg3] at hTk hln2
      obtain ⟨l, hl⟩ : ∃ l, (C.lats.take k).flatMap latB = l := ⟨_, rfl⟩
      rw [hl] at hTk hln ⊢
      have hln2 : (lineB x1 x2).length ≤ 44 := hln2
      have HCat := Lib.hid (show ¬ 9223372036854775807 < l.length + (lineB x1 x2).length by omega)
      have HTk := Lib.hid (show (C.lats.take (k + 1)).flatMap latB = l ++ lineB x1 x2 from hTk)
      have HE := Lib.hid hE
      have HLi := Lib.hid (fun u => ref14_line x1 x2 u hr.1 hr.2)
      have HKp := Lib.hid HW.out.kp
      have HC0 := HW.out.c
      unfold cvals at HC0
      rw [ea] at HC0 c2 ⊢
      obtain ⟨nl, hnl2⟩ : ∃ n, C.lats.length = n := ⟨_, rfl⟩
      rw [hnl2] at HC0 hlt hnl c2 HK ⊢
      have HC := Lib.hid HC0
      have i0 : (0 : Int) ≤ (k : Int) := by omega
      have i2 : (k : Int) < (nl : Int) := by omega
      have HNl := Lib.hid hnl2
      have hk1 : k + 1 ≤ nl := by omega
      clear hx0 hx1 hx2 hE ea hg3 hl hln hln2 hTk HC0 hr hnl2 hk
      go_upto_region 5 with fail
      clear c2
      refine wp_region_loose (p := upTo 15) (V := atV [EqV ((.string ⟨l.toArray⟩)), EqV (.pointer (some ⟨w.heap.size, 2, none⟩)), EqV (.slice (some ⟨b, off, none⟩) nl V.cl), EqV ((.int .i64 (k : Nat))), EqV (.pointer (some ⟨b, off + k * 3, none⟩)), EqV (.pointer (some ⟨b, off + k * 3 + 1, none⟩)), EqV (.int .i64 x1), EqV (.pointer (some ⟨w.heap.size, 2, none⟩)), EqV (.slice (some ⟨b, off, none⟩) nl V.cl), EqV ((.int .i64 (k : Nat))), EqV (.pointer (some ⟨b, off + k * 3, none⟩)), EqV (.pointer (some ⟨b, off + k * 3 + 2, none⟩)), EqV (.int .i64 x2), EqV (.string ⟨(lineB x1 x2).toArray⟩), EqV (.string ((⟨l.toArray⟩ : ByteArray) ++ (⟨(lineB x1 x2).toArray⟩ : ByteArray)))]) (LP := #[true, true, true, true, true, true, true, true, true, true, true, true, true, true, true, false]) (K := 1) (by kernel_rfl) (by kernel_rfl) (atV_st ?hstL5) ?hstepL5 (by kernel_rfl) ?hLPL5 (by kernel_rfl) ?hendL5
      case hstL5 =>
        intro W h
        simp only [List.mem_cons, List.not_mem_nil, or_false] at h
        rcases h with rfl | rfl | rfl | rfl | rfl | rfl | rfl | rfl | rfl | rfl | rfl | rfl | rfl | rfl | rfl <;> first | exact EqV.st _ | exact EqV.st _
      case hLPL5 => exact upTo_spec (by kernel_rfl)
      case hstepL5 =>
        intro i o ho hp a u hk hoff hdep
        have e1 : a.tmps[1]?.getD undef = (.pointer (some ⟨w.heap.size, 0, none⟩)) := slot_at (hoff 1 (noDst_spec (by kernel_rfl)))
        have e3 : a.tmps[3]?.getD undef = (.string ⟨l.toArray⟩) := slot_at (hoff 3 (noDst_spec (by kernel_rfl)))
        have e4 : a.tmps[4]?.getD undef = (.int .i64 (k : Nat)) := slot_at (hoff 4 (noDst_spec (by kernel_rfl)))
        clear hoff
        match i, ho with
        | 0, ho =>
          obtain rfl := Option.some.inj ho
          refine lw_value (v := (.string ⟨l.toArray⟩)) (u' := u) ?_ (Kp.refl _ _) rfl
          go_simp
        | 1, ho =>
          obtain rfl := Option.some.inj ho
          refine lw_value (v := .pointer (some ⟨w.heap.size, 2, none⟩)) (u' := u) ?_ (Kp.refl _ _) rfl
          go_simp
        | 2, ho =>
          obtain rfl := Option.some.inj ho
          have e18 : a.tmps[18]?.getD undef = .pointer (some ⟨w.heap.size, 2, none⟩) := slot_at (hdep ⟨1, .data⟩ (by simp) rfl _ 18 rfl rfl)
          have d2 := (HC.out.kp hk (fun h => h)).cell (i := 2) (v := .slice (some ⟨b, off, none⟩) nl V.cl) rfl
          refine lw_value (v := .slice (some ⟨b, off, none⟩) nl V.cl) (u' := u) ?_ (Kp.refl _ _) rfl
          go_simp
        | 3, ho =>
          obtain rfl := Option.some.inj ho
          refine lw_value (v := (.int .i64 (k : Nat))) (u' := u) ?_ (Kp.refl _ _) rfl
          go_simp
        | 4, ho =>
          obtain rfl := Option.some.inj ho
          have e19 : a.tmps[19]?.getD undef = .slice (some ⟨b, off, none⟩) nl V.cl := slot_at (hdep ⟨2, .data⟩ (by simp) rfl _ 19 rfl rfl)
          have e20 : a.tmps[20]?.getD undef = (.int .i64 (k : Nat)) := slot_at (hdep ⟨3, .data⟩ (by simp) rfl _ 20 rfl rfl)
          refine lw_value (v := .pointer (some ⟨b, off + k * 3, none⟩)) (u' := u) ?_ (Kp.refl _ _) rfl
          go_simp
        | 5, ho =>
          obtain rfl := Option.some.inj ho
          have e21 : a.tmps[21]?.getD undef = .pointer (some ⟨b, off + k * 3, none⟩) := slot_at (hdep ⟨4, .data⟩ (by simp) rfl _ 21 rfl rfl)
          refine lw_value (v := .pointer (some ⟨b, off + k * 3 + 1, none⟩)) (u' := u) ?_ (Kp.refl _ _) rfl
          go_simp
        | 6, ho =>
          obtain rfl := Option.some.inj ho
          have e22 : a.tmps[22]?.getD undef = .pointer (some ⟨b, off + k * 3 + 1, none⟩) := slot_at (hdep ⟨5, .data⟩ (by simp) rfl _ 22 rfl rfl)
          have e1 := (HE.out u (HKp.out.trans hk (fun _ _ h => h))).2.1
          refine lw_value (v := .int .i64 x1) (u' := u) ?_ (Kp.refl _ _) rfl
          go_simp
        | 7, ho =>
          obtain rfl := Option.some.inj ho
          refine lw_value (v := .pointer (some ⟨w.heap.size, 2, none⟩)) (u' := u) ?_ (Kp.refl _ _) rfl
          go_simp
        | 8, ho =>
          obtain rfl := Option.some.inj ho
          have e24 : a.tmps[24]?.getD undef = .pointer (some ⟨w.heap.size, 2, none⟩) := slot_at (hdep ⟨7, .data⟩ (by simp) rfl _ 24 rfl rfl)
          have d2 := (HC.out.kp hk (fun h => h)).cell (i := 2) (v := .slice (some ⟨b, off, none⟩) nl V.cl) rfl
          refine lw_value (v := .slice (some ⟨b, off, none⟩) nl V.cl) (u' := u) ?_ (Kp.refl _ _) rfl
          go_simp
        | 9, ho =>
          obtain rfl := Option.some.inj ho
          refine lw_value (v := (.int .i64 (k : Nat))) (u' := u) ?_ (Kp.refl _ _) rfl
          go_simp
        | 10, ho =>
          obtain rfl := Option.some.inj ho
          have e25 : a.tmps[25]?.getD undef = .slice (some ⟨b, off, none⟩) nl V.cl := slot_at (hdep ⟨8, .data⟩ (by simp) rfl _ 25 rfl rfl)
          have e26 : a.tmps[26]?.getD undef = (.int .i64 (k : Nat)) := slot_at (hdep ⟨9, .data⟩ (by simp) rfl _ 26 rfl rfl)
          refine lw_value (v := .pointer (some ⟨b, off + k * 3, none⟩)) (u' := u) ?_ (Kp.refl _ _) rfl
          go_simp
        | 11, ho =>
          obtain rfl := Option.some.inj ho
          have e27 : a.tmps[27]?.getD undef = .pointer (some ⟨b, off + k * 3, none⟩) := slot_at (hdep ⟨10, .data⟩ (by simp) rfl _ 27 rfl rfl)
          refine lw_value (v := .pointer (some ⟨b, off + k * 3 + 2, none⟩)) (u' := u) ?_ (Kp.refl _ _) rfl
          go_simp
        | 12, ho =>
          obtain rfl := Option.some.inj ho
          have e28 : a.tmps[28]?.getD undef = .pointer (some ⟨b, off + k * 3 + 2, none⟩) := slot_at (hdep ⟨11, .data⟩ (by simp) rfl _ 28 rfl rfl)
          have e2 := (HE.out u (HKp.out.trans hk (fun _ _ h => h))).2.2
          refine lw_value (v := .int .i64 x2) (u' := u) ?_ (Kp.refl _ _) rfl
          go_simp
        | 13, ho =>
          obtain rfl := Option.some.inj ho
          have e23 : a.tmps[23]?.getD undef = .int .i64 x1 := slot_at (hdep ⟨6, .data⟩ (by simp) rfl _ 23 rfl rfl)
          have e29 : a.tmps[29]?.getD undef = .int .i64 x2 := slot_at (hdep ⟨12, .data⟩ (by simp) rfl _ 29 rfl rfl)
          refine lw_call (f := 25) (args := #[.int .i64 x1, .int .i64 x2]) ?_ ?_
          · go_simp
          · exact (HLi.out u).mono (by
              rintro e u' ⟨rfl, hK⟩
              exact ⟨_, rfl, hK, rfl⟩)
        | 14, ho =>
          obtain rfl := Option.some.inj ho
          have e17 : a.tmps[17]?.getD undef = (.string ⟨l.toArray⟩) := slot_at (hdep ⟨0, .data⟩ (by simp) rfl _ 17 rfl rfl)
          have e30 : a.tmps[30]?.getD undef = .string ⟨(lineB x1 x2).toArray⟩ := slot_at (hdep ⟨13, .data⟩ (by simp) rfl _ 30 rfl rfl)
          have hcat := HCat.out
          refine lw_value (v := .string ((⟨l.toArray⟩ : ByteArray) ++ (⟨(lineB x1 x2).toArray⟩ : ByteArray))) (u' := u) ?_ (Kp.refl _ _) rfl
          go_simp
        | n + 15, _ => exact absurd hp (by simp [upTo])
      case hendL5 =>
        intro a u hI
        have hsz : a.tmps.size = 107 := hI.size
        have hdf : a.defers = [] := hI.defers
        have f0 : a.tmps.getD 0 undef = _ := hI.off 0 (noDst_spec (p := upTo 15) (by kernel_rfl))
        have f1 : a.tmps.getD 1 undef = _ := hI.off 1 (noDst_spec (p := upTo 15) (by kernel_rfl))
        have f2 : a.tmps.getD 2 undef = _ := hI.off 2 (noDst_spec (p := upTo 15) (by kernel_rfl))
        have f3 : a.tmps.getD 3 undef = _ := hI.off 3 (noDst_spec (p := upTo 15) (by kernel_rfl))
        have f4 : a.tmps.getD 4 undef = _ := hI.off 4 (noDst_spec (p := upTo 15) (by kernel_rfl))
        have f5 : a.tmps.getD 5 undef = _ := hI.off 5 (noDst_spec (p := upTo 15) (by kernel_rfl))
        have f6 : a.tmps.getD 6 undef = _ := hI.off 6 (noDst_spec (p := upTo 15) (by kernel_rfl))
        have f7 : a.tmps.getD 7 undef = _ := hI.off 7 (noDst_spec (p := upTo 15) (by kernel_rfl))
        have f8 : a.tmps.getD 8 undef = _ := hI.off 8 (noDst_spec (p := upTo 15) (by kernel_rfl))
        have f9 : a.tmps.getD 9 undef = _ := hI.off 9 (noDst_spec (p := upTo 15) (by kernel_rfl))
        have f10 : a.tmps.getD 10 undef = _ := hI.off 10 (noDst_spec (p := upTo 15) (by kernel_rfl))
        have f11 : a.tmps.getD 11 undef = _ := hI.off 11 (noDst_spec (p := upTo 15) (by kernel_rfl))
        have f12 : a.tmps.getD 12 undef = _ := hI.off 12 (noDst_spec (p := upTo 15) (by kernel_rfl))
        have f13 : a.tmps.getD 13 undef = _ := hI.off 13 (noDst_spec (p := upTo 15) (by kernel_rfl))
        have f14 : a.tmps.getD 14 undef = _ := hI.off 14 (noDst_spec (p := upTo 15) (by kernel_rfl))
        have f15 : a.tmps.getD 15 undef = _ := hI.off 15 (noDst_spec (p := upTo 15) (by kernel_rfl))
        have f16 : a.tmps.getD 16 undef = _ := hI.off 16 (noDst_spec (p := upTo 15) (by kernel_rfl))
        have f32 : a.tmps.getD 32 undef = _ := hI.off 32 (noDst_spec (p := upTo 15) (by kernel_rfl))
        have f33 : a.tmps.getD 33 undef = _ := hI.off 33 (noDst_spec (p := upTo 15) (by kernel_rfl))
        have f34 : a.tmps.getD 34 undef = _ := hI.off 34 (noDst_spec (p := upTo 15) (by kernel_rfl))
        have f35 : a.tmps.getD 35 undef = _ := hI.off 35 (noDst_spec (p := upTo 15) (by kernel_rfl))
        have f36 : a.tmps.getD 36 undef = _ := hI.off 36 (noDst_spec (p := upTo 15) (by kernel_rfl))
        have f37 : a.tmps.getD 37 undef = _ := hI.off 37 (noDst_spec (p := upTo 15) (by kernel_rfl))
        have f38 : a.tmps.getD 38 undef = _ := hI.off 38 (noDst_spec (p := upTo 15) (by kernel_rfl))
        have f39 : a.tmps.getD 39 undef = _ := hI.off 39 (noDst_spec (p := upTo 15) (by kernel_rfl))
        have f40 : a.tmps.getD 40 undef = _ := hI.off 40 (noDst_spec (p := upTo 15) (by kernel_rfl))
        have f41 : a.tmps.getD 41 undef = _ := hI.off 41 (noDst_spec (p := upTo 15) (by kernel_rfl))
        have f42 : a.tmps.getD 42 undef = _ := hI.off 42 (noDst_spec (p := upTo 15) (by kernel_rfl))
        have f43 : a.tmps.getD 43 undef = _ := hI.off 43 (noDst_spec (p := upTo 15) (by kernel_rfl))
        have f44 : a.tmps.getD 44 undef = _ := hI.off 44 (noDst_spec (p := upTo 15) (by kernel_rfl))
        have f45 : a.tmps.getD 45 undef = _ := hI.off 45 (noDst_spec (p := upTo 15) (by kernel_rfl))
        have f46 : a.tmps.getD 46 undef = _ := hI.off 46 (noDst_spec (p := upTo 15) (by kernel_rfl))
        have f47 : a.tmps.getD 47 undef = _ := hI.off 47 (noDst_spec (p := upTo 15) (by kernel_rfl))
        have f48 : a.tmps.getD 48 undef = _ := hI.off 48 (noDst_spec (p := upTo 15) (by kernel_rfl))
        have f49 : a.tmps.getD 49 undef = _ := hI.off 49 (noDst_spec (p := upTo 15) (by kernel_rfl))
        have f50 : a.tmps.getD 50 undef = _ := hI.off 50 (noDst_spec (p := upTo 15) (by kernel_rfl))
        have f51 : a.tmps.getD 51 undef = _ := hI.off 51 (noDst_spec (p := upTo 15) (by kernel_rfl))
        have f52 : a.tmps.getD 52 undef = _ := hI.off 52 (noDst_spec (p := upTo 15) (by kernel_rfl))
        have f53 : a.tmps.getD 53 undef = _ := hI.off 53 (noDst_spec (p := upTo 15) (by kernel_rfl))
        have f54 : a.tmps.getD 54 undef = _ := hI.off 54 (noDst_spec (p := upTo 15) (by kernel_rfl))
        have f55 : a.tmps.getD 55 undef = _ := hI.off 55 (noDst_spec (p := upTo 15) (by kernel_rfl))
        have f56 : a.tmps.getD 56 undef = _ := hI.off 56 (noDst_spec (p := upTo 15) (by kernel_rfl))
        have f57 : a.tmps.getD 57 undef = _ := hI.off 57 (noDst_spec (p := upTo 15) (by kernel_rfl))
        have f58 : a.tmps.getD 58 undef = _ := hI.off 58 (noDst_spec (p := upTo 15) (by kernel_rfl))
        have f59 : a.tmps.getD 59 undef = _ := hI.off 59 (noDst_spec (p := upTo 15) (by kernel_rfl))
        have f60 : a.tmps.getD 60 undef = _ := hI.off 60 (noDst_spec (p := upTo 15) (by kernel_rfl))
        have f61 : a.tmps.getD 61 undef = _ := hI.off 61 (noDst_spec (p := upTo 15) (by kernel_rfl))
        have f62 : a.tmps.getD 62 undef = _ := hI.off 62 (noDst_spec (p := upTo 15) (by kernel_rfl))
        have f63 : a.tmps.getD 63 undef = _ := hI.off 63 (noDst_spec (p := upTo 15) (by kernel_rfl))
        have f64 : a.tmps.getD 64 undef = _ := hI.off 64 (noDst_spec (p := upTo 15) (by kernel_rfl))
        have f65 : a.tmps.getD 65 undef = _ := hI.off 65 (noDst_spec (p := upTo 15) (by kernel_rfl))
        have f66 : a.tmps.getD 66 undef = _ := hI.off 66 (noDst_spec (p := upTo 15) (by kernel_rfl))
        have f67 : a.tmps.getD 67 undef = _ := hI.off 67 (noDst_spec (p := upTo 15) (by kernel_rfl))
        have f68 : a.tmps.getD 68 undef = _ := hI.off 68 (noDst_spec (p := upTo 15) (by kernel_rfl))
        have f69 : a.tmps.getD 69 undef = _ := hI.off 69 (noDst_spec (p := upTo 15) (by kernel_rfl))
        have f70 : a.tmps.getD 70 undef = _ := hI.off 70 (noDst_spec (p := upTo 15) (by kernel_rfl))
        have f71 : a.tmps.getD 71 undef = _ := hI.off 71 (noDst_spec (p := upTo 15) (by kernel_rfl))
        have f72 : a.tmps.getD 72 undef = _ := hI.off 72 (noDst_spec (p := upTo 15) (by kernel_rfl))
        have f73 : a.tmps.getD 73 undef = _ := hI.off 73 (noDst_spec (p := upTo 15) (by kernel_rfl))
        have f74 : a.tmps.getD 74 undef = _ := hI.off 74 (noDst_spec (p := upTo 15) (by kernel_rfl))
        have f75 : a.tmps.getD 75 undef = _ := hI.off 75 (noDst_spec (p := upTo 15) (by kernel_rfl))
        have f76 : a.tmps.getD 76 undef = _ := hI.off 76 (noDst_spec (p := upTo 15) (by kernel_rfl))
        have f77 : a.tmps.getD 77 undef = _ := hI.off 77 (noDst_spec (p := upTo 15) (by kernel_rfl))
        have f78 : a.tmps.getD 78 undef = _ := hI.off 78 (noDst_spec (p := upTo 15) (by kernel_rfl))
        have f79 : a.tmps.getD 79 undef = _ := hI.off 79 (noDst_spec (p := upTo 15) (by kernel_rfl))
        have f80 : a.tmps.getD 80 undef = _ := hI.off 80 (noDst_spec (p := upTo 15) (by kernel_rfl))
        have f81 : a.tmps.getD 81 undef = _ := hI.off 81 (noDst_spec (p := upTo 15) (by kernel_rfl))
        have f82 : a.tmps.getD 82 undef = _ := hI.off 82 (noDst_spec (p := upTo 15) (by kernel_rfl))
        have f83 : a.tmps.getD 83 undef = _ := hI.off 83 (noDst_spec (p := upTo 15) (by kernel_rfl))
        have f84 : a.tmps.getD 84 undef = _ := hI.off 84 (noDst_spec (p := upTo 15) (by kernel_rfl))
        have f85 : a.tmps.getD 85 undef = _ := hI.off 85 (noDst_spec (p := upTo 15) (by kernel_rfl))
        have f86 : a.tmps.getD 86 undef = _ := hI.off 86 (noDst_spec (p := upTo 15) (by kernel_rfl))
        have f87 : a.tmps.getD 87 undef = _ := hI.off 87 (noDst_spec (p := upTo 15) (by kernel_rfl))
        have f88 : a.tmps.getD 88 undef = _ := hI.off 88 (noDst_spec (p := upTo 15) (by kernel_rfl))
        have f89 : a.tmps.getD 89 undef = _ := hI.off 89 (noDst_spec (p := upTo 15) (by kernel_rfl))
        have f90 : a.tmps.getD 90 undef = _ := hI.off 90 (noDst_spec (p := upTo 15) (by kernel_rfl))
        have f91 : a.tmps.getD 91 undef = _ := hI.off 91 (noDst_spec (p := upTo 15) (by kernel_rfl))
        have f92 : a.tmps.getD 92 undef = _ := hI.off 92 (noDst_spec (p := upTo 15) (by kernel_rfl))
        have f93 : a.tmps.getD 93 undef = _ := hI.off 93 (noDst_spec (p := upTo 15) (by kernel_rfl))
        have f94 : a.tmps.getD 94 undef = _ := hI.off 94 (noDst_spec (p := upTo 15) (by kernel_rfl))
        have f95 : a.tmps.getD 95 undef = _ := hI.off 95 (noDst_spec (p := upTo 15) (by kernel_rfl))
        have f96 : a.tmps.getD 96 undef = _ := hI.off 96 (noDst_spec (p := upTo 15) (by kernel_rfl))
        have f97 : a.tmps.getD 97 undef = _ := hI.off 97 (noDst_spec (p := upTo 15) (by kernel_rfl))
        have f98 : a.tmps.getD 98 undef = _ := hI.off 98 (noDst_spec (p := upTo 15) (by kernel_rfl))
        have f99 : a.tmps.getD 99 undef = _ := hI.off 99 (noDst_spec (p := upTo 15) (by kernel_rfl))
        have f100 : a.tmps.getD 100 undef = _ := hI.off 100 (noDst_spec (p := upTo 15) (by kernel_rfl))
        have f101 : a.tmps.getD 101 undef = _ := hI.off 101 (noDst_spec (p := upTo 15) (by kernel_rfl))
        have f102 : a.tmps.getD 102 undef = _ := hI.off 102 (noDst_spec (p := upTo 15) (by kernel_rfl))
        have f103 : a.tmps.getD 103 undef = _ := hI.off 103 (noDst_spec (p := upTo 15) (by kernel_rfl))
        have f104 : a.tmps.getD 104 undef = _ := hI.off 104 (noDst_spec (p := upTo 15) (by kernel_rfl))
        have f105 : a.tmps.getD 105 undef = _ := hI.off 105 (noDst_spec (p := upTo 15) (by kernel_rfl))
        have f106 : a.tmps.getD 106 undef = _ := hI.off 106 (noDst_spec (p := upTo 15) (by kernel_rfl))
        have f17 : a.tmps.getD 17 undef = (.string ⟨l.toArray⟩) := hI.val 0 _ 17 rfl rfl rfl
        have f18 : a.tmps.getD 18 undef = .pointer (some ⟨w.heap.size, 2, none⟩) := hI.val 1 _ 18 rfl rfl rfl
        have f19 : a.tmps.getD 19 undef = .slice (some ⟨b, off, none⟩) nl V.cl := hI.val 2 _ 19 rfl rfl rfl
        have f20 : a.tmps.getD 20 undef = (.int .i64 (k : Nat)) := hI.val 3 _ 20 rfl rfl rfl
        have f21 : a.tmps.getD 21 undef = .pointer (some ⟨b, off + k * 3, none⟩) := hI.val 4 _ 21 rfl rfl rfl
        have f22 : a.tmps.getD 22 undef = .pointer (some ⟨b, off + k * 3 + 1, none⟩) := hI.val 5 _ 22 rfl rfl rfl
        have f23 : a.tmps.getD 23 undef = .int .i64 x1 := hI.val 6 _ 23 rfl rfl rfl
        have f24 : a.tmps.getD 24 undef = .pointer (some ⟨w.heap.size, 2, none⟩) := hI.val 7 _ 24 rfl rfl rfl
        have f25 : a.tmps.getD 25 undef = .slice (some ⟨b, off, none⟩) nl V.cl := hI.val 8 _ 25 rfl rfl rfl
        have f26 : a.tmps.getD 26 undef = (.int .i64 (k : Nat)) := hI.val 9 _ 26 rfl rfl rfl
        have f27 : a.tmps.getD 27 undef = .pointer (some ⟨b, off + k * 3, none⟩) := hI.val 10 _ 27 rfl rfl rfl
        have f28 : a.tmps.getD 28 undef = .pointer (some ⟨b, off + k * 3 + 2, none⟩) := hI.val 11 _ 28 rfl rfl rfl
        have f29 : a.tmps.getD 29 undef = .int .i64 x2 := hI.val 12 _ 29 rfl rfl rfl
        have f30 : a.tmps.getD 30 undef = .string ⟨(lineB x1 x2).toArray⟩ := hI.val 13 _ 30 rfl rfl rfl
        have f31 : a.tmps.getD 31 undef = .string ((⟨l.toArray⟩ : ByteArray) ++ (⟨(lineB x1 x2).toArray⟩ : ByteArray)) := hI.val 14 _ 31 rfl rfl rfl
        have ha : a = ⟨#[a.tmps.getD 0 undef, a.tmps.getD 1 undef, a.tmps.getD 2 undef, a.tmps.getD 3 undef, a.tmps.getD 4 undef, a.tmps.getD 5 undef, a.tmps.getD 6 undef, a.tmps.getD 7 undef, a.tmps.getD 8 undef, a.tmps.getD 9 undef, a.tmps.getD 10 undef, a.tmps.getD 11 undef, a.tmps.getD 12 undef, a.tmps.getD 13 undef, a.tmps.getD 14 undef, a.tmps.getD 15 undef, a.tmps.getD 16 undef, a.tmps.getD 17 undef, a.tmps.getD 18 undef, a.tmps.getD 19 undef, a.tmps.getD 20 undef, a.tmps.getD 21 undef, a.tmps.getD 22 undef, a.tmps.getD 23 undef, a.tmps.getD 24 undef, a.tmps.getD 25 undef, a.tmps.getD 26 undef, a.tmps.getD 27 undef, a.tmps.getD 28 undef, a.tmps.getD 29 undef, a.tmps.getD 30 undef, a.tmps.getD 31 undef, a.tmps.getD 32 undef, a.tmps.getD 33 undef, a.tmps.getD 34 undef, a.tmps.getD 35 undef, a.tmps.getD 36 undef, a.tmps.getD 37 undef, a.tmps.getD 38 undef, a.tmps.getD 39 undef, a.tmps.getD 40 undef, a.tmps.getD 41 undef, a.tmps.getD 42 undef, a.tmps.getD 43 undef, a.tmps.getD 44 undef, a.tmps.getD 45 undef, a.tmps.getD 46 undef, a.tmps.getD 47 undef, a.tmps.getD 48 undef, a.tmps.getD 49 undef, a.tmps.getD 50 undef, a.tmps.getD 51 undef, a.tmps.getD 52 undef, a.tmps.getD 53 undef, a.tmps.getD 54 undef, a.tmps.getD 55 undef, a.tmps.getD 56 undef, a.tmps.getD 57 undef, a.tmps.getD 58 undef, a.tmps.getD 59 undef, a.tmps.getD 60 undef, a.tmps.getD 61 undef, a.tmps.getD 62 undef, a.tmps.getD 63 undef, a.tmps.getD 64 undef, a.tmps.getD 65 undef, a.tmps.getD 66 undef, a.tmps.getD 67 undef, a.tmps.getD 68 undef, a.tmps.getD 69 undef, a.tmps.getD 70 undef, a.tmps.getD 71 undef, a.tmps.getD 72 undef, a.tmps.getD 73 undef, a.tmps.getD 74 undef, a.tmps.getD 75 undef, a.tmps.getD 76 undef, a.tmps.getD 77 undef, a.tmps.getD 78 undef, a.tmps.getD 79 undef, a.tmps.getD 80 undef, a.tmps.getD 81 undef, a.tmps.getD 82 undef, a.tmps.getD 83 undef, a.tmps.getD 84 undef, a.tmps.getD 85 undef, a.tmps.getD 86 undef, a.tmps.getD 87 undef, a.tmps.getD 88 undef, a.tmps.getD 89 undef, a.tmps.getD 90 undef, a.tmps.getD 91 undef, a.tmps.getD 92 undef, a.tmps.getD 93 undef, a.tmps.getD 94 undef, a.tmps.getD 95 undef, a.tmps.getD 96 undef, a.tmps.getD 97 undef, a.tmps.getD 98 undef, a.tmps.getD 99 undef, a.tmps.getD 100 undef, a.tmps.getD 101 undef, a.tmps.getD 102 undef, a.tmps.getD 103 undef, a.tmps.getD 104 undef, a.tmps.getD 105 undef, a.tmps.getD 106 undef], a.defers⟩ := act_list a 107 hsz
        rw [hdf, f0, f1, f2, f3, f4, f5, f6, f7, f8, f9, f10, f11, f12, f13, f14, f15, f16, f17, f18, f19, f20, f21, f22, f23, f24, f25, f26, f27, f28, f29, f30, f31, f32, f33, f34, f35, f36, f37, f38, f39, f40, f41, f42, f43, f44, f45, f46, f47, f48, f49, f50, f51, f52, f53, f54, f55, f56, f57, f58, f59, f60, f61, f62, f63, f64, f65, f66, f67, f68, f69, f70, f71, f72, f73, f74, f75, f76, f77, f78, f79, f80, f81, f82, f83, f84, f85, f86, f87, f88, f89, f90, f91, f92, f93, f94, f95, f96, f97, f98, f99, f100, f101, f102, f103, f104, f105, f106] at ha
        have hku := hI.kp
        clear hI hsz hdf f0 f1 f2 f3 f4 f5 f6 f7 f8 f9 f10 f11 f12 f13 f14 f15 f16 f17 f18 f19 f20 f21 f22 f23 f24 f25 f26 f27 f28 f29 f30 f31 f32 f33 f34 f35 f36 f37 f38 f39 f40 f41 f42 f43 f44 f45 f46 f47 f48 f49 f50 f51 f52 f53 f54 f55 f56 f57 f58 f59 f60 f61 f62 f63 f64 f65 f66 f67 f68 f69 f70 f71 f72 f73 f74 f75 f76 f77 f78 f79 f80 f81 f82 f83 f84 f85 f86 f87 f88 f89 f90 f91 f92 f93 f94 f95 f96 f97 f98 f99 f100 f101 f102 f103 f104 f105 f106 
        subst ha
        refine wpAny_tail 15 rfl (by kernel_rfl) ?_
        simp only [List.drop_succ_cons, List.drop_zero]
        have HWu := Lib.hid (HW.out.kp' hku)
        clear hku
        have hcat : (⟨l.toArray⟩ : ByteArray) ++ (⟨(lineB x1 x2).toArray⟩ : ByteArray) = ⟨((C.lats.take (k + 1)).flatMap latB).toArray⟩ := by rw [HTk.out]; exact cat_bytes _ _
        rw [hcat]
        clear hcat
        simp only [Array.getD_eq_getD_getElem?, List.getElem?_toArray, List.getElem?_cons_zero, List.getElem?_cons_succ, Option.getD_some]
        go_wp2_with fail
        go_roundw
        case rel => exact ⟨k + 1, by go_num, hk1, rfl, HWu.out⟩
        case measure => simp [intOf]; omega
    · obtain rfl : k = C.lats.length := by omega
      obtain ⟨c2, -⟩ := HWc.out _ HW.out
      rw [show ((C.lats.take C.lats.length).flatMap latB) = wtx C 0 by rw [wtx_zero, List.take_length]]
      clear hk HK
      go_wp2_with fail
      obtain ⟨wa0, rfl⟩ : ∃ wq : World, wq = wp := ⟨_, rfl⟩
      have HWt := Lib.hid (show (wtx C 0).length ≤ 110000000 from by have := wtx_len HNn.out HF.out 0; omega)
      have HSu := Lib.hid (show wtx C (0 + 1) = wtx C 0 ++ (C.outs).flatMap oneB from wtx_succ C 0)
      have hn0 : (C.outs).length ≤ 1000000 := HF.out.o
      obtain ⟨t, ht⟩ : ∃ t, wtx C 0 = t := ⟨_, rfl⟩
      rw [ht] at HWt HSu ⊢
      clear ht
      go_loopw [3, 5] (fun v3 v5 wr => ∃ k : Nat, v5 = .int .i64 k ∧ k ≤ (C.outs).length ∧ v3 = .string ⟨(t ++ ((C.outs).take k).flatMap oneB).toArray⟩ ∧ RW w wr V C) (fun _ v5 _ => (C.outs).length - (intOf v5).toNat)
      case atStart => exact ⟨0, rfl, by omega, by simp, HW.out⟩
      case round =>
        obtain ⟨k, rfl, hk, rfl, hW⟩ := hrel
        obtain ⟨wp, rfl⟩ : ∃ wp : World, wp = wr := ⟨_, rfl⟩
        clear HW c2
        have HW := Lib.hid hW
        clear hW
        obtain ⟨-, c3, c4, c5, c6⟩ := HWc.out _ HW.out
        by_cases hlt : k < (C.outs).length
        · obtain ⟨b, off, ea, e0⟩ := (show IntsAt wp V.ao (C.outs) from RowAt.kp HA.out.o HW.out.kp (fun _ _ h => h)).get hlt
          have hxm := norm_wl HNn.out HF.out (k := 0) (show gi (C.outs) k ∈ wl C 0 from List.mem_of_getElem? (gi_some hlt))
          have hTk := flat_take oneB (gi_some hlt)
          have hlj := wl_len HNn.out HF.out 0 k
          have hlj : (((C.outs).take k).flatMap oneB).length ≤ 22000000 := hlj
          obtain ⟨x, hx⟩ : ∃ x, gi (C.outs) k = x := ⟨_, rfl⟩
          rw [hx] at e0 hxm hTk
          have hlx := oneB_len hxm
          obtain ⟨m, hm⟩ : ∃ m, ((C.outs).take k).flatMap oneB = m := ⟨_, rfl⟩
          rw [hm] at hTk hlj ⊢
          have hl0 : lineB x 0 = oneB x := rfl
          have HTk := Lib.hid hTk
          obtain ⟨q, hq⟩ : ∃ q, t ++ m = q := ⟨_, rfl⟩
          have HLi := Lib.hid (fun u => ref14_line x 0 u hxm (by omega))
          rw [hl0] at HLi
          obtain ⟨T1, hT1⟩ : ∃ T, oneB x = T := ⟨_, rfl⟩
          rw [hT1] at HLi HTk hlx
          have HQ := Lib.hid (show t ++ ((C.outs).take (k + 1)).flatMap oneB = q ++ T1 by rw [HTk.out, ← hq, List.append_assoc])
          have hqc : ¬ 9223372036854775807 < q.length + T1.length := by have := HWt.out; rw [← hq, List.length_append]; omega
          rw [hq]
          rw [ea] at c3 ⊢
          clear hx hm hT1 hTk hlj hxm hl0 hlx hq
          have i0 : (0 : Int) ≤ (k : Int) := by omega
          have i2 : (k : Int) < ((C.outs).length : Int) := by omega
          go_wp2_with (go_at_call 25; refine (HLi.out _).mono ?_; rintro e w5 ⟨rfl, hK5⟩; have HW5 := Lib.hid (HW.out.kp' hK5); clear hK5)
          go_roundw
          case rel => exact ⟨k + 1, by go_num, by omega, by rw [HQ.out]; exact congrArg Value.string (cat_bytes _ _), HW5.out⟩
          case measure => simp [intOf]; omega
        · obtain rfl : k = (C.outs).length := by omega
          rw [show t ++ ((C.outs).take (C.outs).length).flatMap oneB = wtx C 1 by rw [HSu.out, List.take_length]]
          clear HSu HWt hk
          go_wp2_with fail
          obtain ⟨wa1, rfl⟩ : ∃ wq : World, wq = wp := ⟨_, rfl⟩
          have HWt := Lib.hid (show (wtx C 1).length ≤ 110000000 from by have := wtx_len HNn.out HF.out 1; omega)
          have HSu := Lib.hid (show wtx C (1 + 1) = wtx C 1 ++ (C.bads).flatMap oneB from wtx_succ C 1)
          have hn1 : (C.bads).length ≤ 1000000 := HF.out.b
          obtain ⟨t, ht⟩ : ∃ t, wtx C 1 = t := ⟨_, rfl⟩
          rw [ht] at HWt HSu ⊢
          clear ht
          go_loopw [3, 6] (fun v3 v6 wr => ∃ k : Nat, v6 = .int .i64 k ∧ k ≤ (C.bads).length ∧ v3 = .string ⟨(t ++ ((C.bads).take k).flatMap oneB).toArray⟩ ∧ RW w wr V C) (fun _ v6 _ => (C.bads).length - (intOf v6).toNat)
          case atStart => exact ⟨0, rfl, by omega, by simp, HW.out⟩
          case round =>
            obtain ⟨k, rfl, hk, rfl, hW⟩ := hrel
            obtain ⟨wp, rfl⟩ : ∃ wp : World, wp = wr := ⟨_, rfl⟩
            clear HW c3
            have HW := Lib.hid hW
            clear hW
            obtain ⟨-, c3, c4, c5, c6⟩ := HWc.out _ HW.out
            by_cases hlt : k < (C.bads).length
            · obtain ⟨b, off, ea, e0⟩ := (show IntsAt wp V.ab (C.bads) from RowAt.kp HA.out.b HW.out.kp (fun _ _ h => h)).get hlt
              have hxm := norm_wl HNn.out HF.out (k := 1) (show gi (C.bads) k ∈ wl C 1 from List.mem_of_getElem? (gi_some hlt))
              have hTk := flat_take oneB (gi_some hlt)
              have hlj := wl_len HNn.out HF.out 1 k
              have hlj : (((C.bads).take k).flatMap oneB).length ≤ 22000000 := hlj
              obtain ⟨x, hx⟩ : ∃ x, gi (C.bads) k = x := ⟨_, rfl⟩
              rw [hx] at e0 hxm hTk
              have hlx := oneB_len hxm
              obtain ⟨m, hm⟩ : ∃ m, ((C.bads).take k).flatMap oneB = m := ⟨_, rfl⟩
              rw [hm] at hTk hlj ⊢
              have hl0 : lineB x 0 = oneB x := rfl
              have HTk := Lib.hid hTk
              obtain ⟨q, hq⟩ : ∃ q, t ++ m = q := ⟨_, rfl⟩
              have HLi := Lib.hid (fun u => ref14_line x 0 u hxm (by omega))
              rw [hl0] at HLi
              obtain ⟨T1, hT1⟩ : ∃ T, oneB x = T := ⟨_, rfl⟩
              rw [hT1] at HLi HTk hlx
              have HQ := Lib.hid (show t ++ ((C.bads).take (k + 1)).flatMap oneB = q ++ T1 by rw [HTk.out, ← hq, List.append_assoc])
              have hqc : ¬ 9223372036854775807 < q.length + T1.length := by have := HWt.out; rw [← hq, List.length_append]; omega
              rw [hq]
              rw [ea] at c4 ⊢
              clear hx hm hT1 hTk hlj hxm hl0 hlx hq
              have i0 : (0 : Int) ≤ (k : Int) := by omega
              have i2 : (k : Int) < ((C.bads).length : Int) := by omega
              go_wp2_with (go_at_call 25; refine (HLi.out _).mono ?_; rintro e w5 ⟨rfl, hK5⟩; have HW5 := Lib.hid (HW.out.kp' hK5); clear hK5)
              go_roundw
              case rel => exact ⟨k + 1, by go_num, by omega, by rw [HQ.out]; exact congrArg Value.string (cat_bytes _ _), HW5.out⟩
              case measure => simp [intOf]; omega
            · obtain rfl : k = (C.bads).length := by omega
              rw [show t ++ ((C.bads).take (C.bads).length).flatMap oneB = wtx C 2 by rw [HSu.out, List.take_length]]
              clear HSu HWt hk
              go_wp2_with fail
              obtain ⟨wa2, rfl⟩ : ∃ wq : World, wq = wp := ⟨_, rfl⟩
              have HWt := Lib.hid (show (wtx C 2).length ≤ 110000000 from by have := wtx_len HNn.out HF.out 2; omega)
              have HSu := Lib.hid (show wtx C (2 + 1) = wtx C 2 ++ (C.cons).flatMap oneB from wtx_succ C 2)
              have hn2 : (C.cons).length ≤ 1000000 := HF.out.c
              obtain ⟨t, ht⟩ : ∃ t, wtx C 2 = t := ⟨_, rfl⟩
              rw [ht] at HWt HSu ⊢
              clear ht
              go_loopw [3, 7] (fun v3 v7 wr => ∃ k : Nat, v7 = .int .i64 k ∧ k ≤ (C.cons).length ∧ v3 = .string ⟨(t ++ ((C.cons).take k).flatMap oneB).toArray⟩ ∧ RW w wr V C) (fun _ v7 _ => (C.cons).length - (intOf v7).toNat)
              case atStart => exact ⟨0, rfl, by omega, by simp, HW.out⟩
              case round =>
                obtain ⟨k, rfl, hk, rfl, hW⟩ := hrel
                obtain ⟨wp, rfl⟩ : ∃ wp : World, wp = wr := ⟨_, rfl⟩
                clear HW c4
                have HW := Lib.hid hW
                clear hW
                obtain ⟨-, c3, c4, c5, c6⟩ := HWc.out _ HW.out
                by_cases hlt : k < (C.cons).length
                · obtain ⟨b, off, ea, e0⟩ := (show IntsAt wp V.ac (C.cons) from RowAt.kp HA.out.c HW.out.kp (fun _ _ h => h)).get hlt
                  have hxm := norm_wl HNn.out HF.out (k := 2) (show gi (C.cons) k ∈ wl C 2 from List.mem_of_getElem? (gi_some hlt))
                  have hTk := flat_take oneB (gi_some hlt)
                  have hlj := wl_len HNn.out HF.out 2 k
                  have hlj : (((C.cons).take k).flatMap oneB).length ≤ 22000000 := hlj
                  obtain ⟨x, hx⟩ : ∃ x, gi (C.cons) k = x := ⟨_, rfl⟩
                  rw [hx] at e0 hxm hTk
                  have hlx := oneB_len hxm
                  obtain ⟨m, hm⟩ : ∃ m, ((C.cons).take k).flatMap oneB = m := ⟨_, rfl⟩
                  rw [hm] at hTk hlj ⊢
                  have hl0 : lineB x 0 = oneB x := rfl
                  have HTk := Lib.hid hTk
                  obtain ⟨q, hq⟩ : ∃ q, t ++ m = q := ⟨_, rfl⟩
                  have HLi := Lib.hid (fun u => ref14_line x 0 u hxm (by omega))
                  rw [hl0] at HLi
                  obtain ⟨T1, hT1⟩ : ∃ T, oneB x = T := ⟨_, rfl⟩
                  rw [hT1] at HLi HTk hlx
                  have HQ := Lib.hid (show t ++ ((C.cons).take (k + 1)).flatMap oneB = q ++ T1 by rw [HTk.out, ← hq, List.append_assoc])
                  have hqc : ¬ 9223372036854775807 < q.length + T1.length := by have := HWt.out; rw [← hq, List.length_append]; omega
                  rw [hq]
                  rw [ea] at c5 ⊢
                  clear hx hm hT1 hTk hlj hxm hl0 hlx hq
                  have i0 : (0 : Int) ≤ (k : Int) := by omega
                  have i2 : (k : Int) < ((C.cons).length : Int) := by omega
                  go_wp2_with (go_at_call 25; refine (HLi.out _).mono ?_; rintro e w5 ⟨rfl, hK5⟩; have HW5 := Lib.hid (HW.out.kp' hK5); clear hK5)
                  go_roundw
                  case rel => exact ⟨k + 1, by go_num, by omega, by rw [HQ.out]; exact congrArg Value.string (cat_bytes _ _), HW5.out⟩
                  case measure => simp [intOf]; omega
                · obtain rfl : k = (C.cons).length := by omega
                  rw [show t ++ ((C.cons).take (C.cons).length).flatMap oneB = wtx C 3 by rw [HSu.out, List.take_length]]
                  clear HSu HWt hk
                  go_wp2_with fail
                  obtain ⟨wa3, rfl⟩ : ∃ wq : World, wq = wp := ⟨_, rfl⟩
                  have HWt := Lib.hid (show (wtx C 3).length ≤ 110000000 from wtx_len HNn.out HF.out 3)
                  have HAll := Lib.hid (wtx_all C)
                  have hng : C.gates.length ≤ 1000000 := HF.out.g
                  obtain ⟨t, ht⟩ : ∃ t, wtx C 3 = t := ⟨_, rfl⟩
                  rw [ht] at HWt HAll ⊢
                  clear ht
                  go_loopw [3, 8] (fun v3 v8 wr => ∃ k : Nat, v8 = .int .i64 k ∧ k ≤ C.gates.length ∧ v3 = .string ⟨(t ++ (C.gates.take k).flatMap gateB).toArray⟩ ∧ RW w wr V C) (fun _ v8 _ => C.gates.length - (intOf v8).toNat)
                  case atStart => exact ⟨0, rfl, by omega, by simp, HW.out⟩
                  case round =>
                    obtain ⟨j, rfl, hj, rfl, hW⟩ := hrel
                    obtain ⟨wp, rfl⟩ : ∃ wp : World, wp = wr := ⟨_, rfl⟩
                    clear HW c3 c4 c5 c6
                    have HW := Lib.hid hW
                    clear hW
                    obtain ⟨-, -, -, -, c6⟩ := HWc.out _ HW.out
                    by_cases hlt2 : j < C.gates.length
                    · obtain ⟨b, off, ea, hE⟩ := HA.out.gateCell hlt2
                      obtain ⟨e0, e1, e2⟩ := hE _ HW.out.kp
                      have hr := norm_gate HNn.out HF.out hlt2
                      have hlj := gates_len HF.out j
                      have hTk := flat_take gateB (g3_some hlt2)
                      obtain ⟨x0, hx0⟩ : ∃ x, (g3 C.gates j).1 = x := ⟨_, rfl⟩
                      obtain ⟨x1, hx1⟩ : ∃ x, (g3 C.gates j).2.1 = x := ⟨_, rfl⟩
                      obtain ⟨x2, hx2⟩ : ∃ x, (g3 C.gates j).2.2 = x := ⟨_, rfl⟩
                      have hg3 : g3 C.gates j = (x0, x1, x2) := by rw [← hx0, ← hx1, ← hx2]
                      rw [hx0] at e0 hr
                      rw [hx1] at e1 hr
                      rw [hx2] at e2 hr
                      rw [hg3] at hTk
                      obtain ⟨m, hm⟩ : ∃ m, (C.gates.take j).flatMap gateB = m := ⟨_, rfl⟩
                      rw [hm] at hTk hlj ⊢
                      obtain ⟨u1, hu1⟩ : ∃ u, (x0 - x1).toNat = u := ⟨_, rfl⟩
                      obtain ⟨u2, hu2⟩ : ∃ u, (x1 - x2).toNat = u := ⟨_, rfl⟩
                      have hTk2 : (C.gates.take (j + 1)).flatMap gateB = m ++ (numL 5 u1 ++ numL 5 u2) := by rw [hTk, ← hu1, ← hu2]; rfl
                      have HS := Lib.hid (show x0 - x1 = (u1 : Nat) ∧ x1 - x2 = (u2 : Nat) ∧ u1 ≤ 6000001 ∧ u2 ≤ 6000001 by omega)
                      have HNu1 := Lib.hid (show u1 < 4294967296 by have := HS.out; omega)
                      have HNu2 := Lib.hid (show u2 < 4294967296 by have := HS.out; omega)
                      have hn1 := numL_length 5 u1
                      have hn2 := numL_length 5 u2
                      obtain ⟨l, hl⟩ : ∃ q, t ++ m = q := ⟨_, rfl⟩
                      have HTk := Lib.hid (show t ++ (C.gates.take (j + 1)).flatMap gateB = l ++ (numL 5 u1 ++ numL 5 u2) by rw [hTk2, ← hl, List.append_assoc])
                      have HCat := Lib.hid (show (¬ 9223372036854775807 < l.length + (numL 5 u1).length) ∧ ¬ 9223372036854775807 < l.length + (numL 5 u1).length + (numL 5 u2).length by have := HWt.out; rw [← hl, List.length_append]; omega)
                      rw [hl]
                      rw [ea] at c6 ⊢
                      have i0 : (0 : Int) ≤ (j : Int) := by omega
                      have i2 : (j : Int) < (C.gates.length : Int) := by omega
                      obtain ⟨wv, hwv⟩ : ∃ wv : World, wv = wp.alloc (.cells #[.int .i64 x0, .int .i64 x1, .int .i64 x2] 43) := ⟨_, rfl⟩
                      have HWv := Lib.hid (HW.out.kp' (by rw [hwv]; exact (Kp.refl _ wp).alloc _ : Kp (fun _ => False) wp wv))
                      have HX := Lib.hid (show Blk wv wp.heap.size #[.int .i64 x0, .int .i64 x1, .int .i64 x2] 43 by rw [hwv]; exact Blk.new _ _ _)
                      have HZv := Lib.hid hwv
                      clear hx0 hx1 hx2 hE ea hwv hg3 hm hu1 hu2 hTk hlj hn1 hn2 hr hTk2 hl
                      go_upto_region 22 with fail
                      rw [← HZv.out]
                      clear HZv e0 e1 e2 c6
                      refine wp_region_loose (p := upTo 17) (V := atV [EqV ((.string ⟨l.toArray⟩)), EqV (.pointer (some ⟨wp.heap.size, 0, none⟩)), EqV (.int .i64 x0), EqV (.pointer (some ⟨wp.heap.size, 1, none⟩)), EqV (.int .i64 x1), EqV (.int .i64 (u1 : Nat)), EqV (.int .u32 (u1 : Nat)), EqV (.string ⟨(numL 5 u1).toArray⟩), EqV (.string ((⟨l.toArray⟩ : ByteArray) ++ (⟨(numL 5 u1).toArray⟩ : ByteArray))), EqV (.pointer (some ⟨wp.heap.size, 1, none⟩)), EqV (.int .i64 x1), EqV (.pointer (some ⟨wp.heap.size, 2, none⟩)), EqV (.int .i64 x2), EqV (.int .i64 (u2 : Nat)), EqV (.int .u32 (u2 : Nat)), EqV (.string ⟨(numL 5 u2).toArray⟩), EqV (.string (((⟨l.toArray⟩ : ByteArray) ++ (⟨(numL 5 u1).toArray⟩ : ByteArray)) ++ (⟨(numL 5 u2).toArray⟩ : ByteArray)))]) (LP := #[true, true, true, true, true, true, true, true, true, true, true, true, true, true, true, true, true, false]) (K := 1) (by kernel_rfl) (by kernel_rfl) (atV_st ?hstL22) ?hstepL22 (by kernel_rfl) ?hLPL22 (by kernel_rfl) ?hendL22
                      case hstL22 =>
                        intro W h
                        simp only [List.mem_cons, List.not_mem_nil, or_false] at h
                        rcases h with rfl | rfl | rfl | rfl | rfl | rfl | rfl | rfl | rfl | rfl | rfl | rfl | rfl | rfl | rfl | rfl | rfl <;> first | exact EqV.st _ | exact EqV.st _
                      case hLPL22 => exact upTo_spec (by kernel_rfl)
                      case hstepL22 =>
                        intro i o ho hp a u hk hoff hdep
                        have e3 : a.tmps[3]?.getD undef = (.string ⟨l.toArray⟩) := slot_at (hoff 3 (noDst_spec (by kernel_rfl)))
                        have e9 : a.tmps[9]?.getD undef = (.pointer (some ⟨wp.heap.size, 0, none⟩)) := slot_at (hoff 9 (noDst_spec (by kernel_rfl)))
                        clear hoff
                        match i, ho with
                        | 0, ho =>
                          obtain rfl := Option.some.inj ho
                          refine lw_value (v := (.string ⟨l.toArray⟩)) (u' := u) ?_ (Kp.refl _ _) rfl
                          go_simp
                        | 1, ho =>
                          obtain rfl := Option.some.inj ho
                          refine lw_value (v := .pointer (some ⟨wp.heap.size, 0, none⟩)) (u' := u) ?_ (Kp.refl _ _) rfl
                          go_simp
                        | 2, ho =>
                          obtain rfl := Option.some.inj ho
                          have e90 : a.tmps[90]?.getD undef = .pointer (some ⟨wp.heap.size, 0, none⟩) := slot_at (hdep ⟨1, .data⟩ (by simp) rfl _ 90 rfl rfl)
                          have c0 := (HX.out.kp hk (fun h => h)).cell (i := 0) (v := .int .i64 x0) rfl
                          refine lw_value (v := .int .i64 x0) (u' := u) ?_ (Kp.refl _ _) rfl
                          go_simp
                        | 3, ho =>
                          obtain rfl := Option.some.inj ho
                          refine lw_value (v := .pointer (some ⟨wp.heap.size, 1, none⟩)) (u' := u) ?_ (Kp.refl _ _) rfl
                          go_simp
                        | 4, ho =>
                          obtain rfl := Option.some.inj ho
                          have e92 : a.tmps[92]?.getD undef = .pointer (some ⟨wp.heap.size, 1, none⟩) := slot_at (hdep ⟨3, .data⟩ (by simp) rfl _ 92 rfl rfl)
                          have c1 := (HX.out.kp hk (fun h => h)).cell (i := 1) (v := .int .i64 x1) rfl
                          refine lw_value (v := .int .i64 x1) (u' := u) ?_ (Kp.refl _ _) rfl
                          go_simp
                        | 5, ho =>
                          obtain rfl := Option.some.inj ho
                          have e91 : a.tmps[91]?.getD undef = .int .i64 x0 := slot_at (hdep ⟨2, .data⟩ (by simp) rfl _ 91 rfl rfl)
                          have e93 : a.tmps[93]?.getD undef = .int .i64 x1 := slot_at (hdep ⟨4, .data⟩ (by simp) rfl _ 93 rfl rfl)
                          obtain ⟨s1, s2, s3, s4⟩ := HS.out
                          refine lw_value (v := .int .i64 (u1 : Nat)) (u' := u) ?_ (Kp.refl _ _) rfl
                          go_simp
                          exact IntWalk.i64_in _ (by omega)
                        | 6, ho =>
                          obtain rfl := Option.some.inj ho
                          have e94 : a.tmps[94]?.getD undef = .int .i64 (u1 : Nat) := slot_at (hdep ⟨5, .data⟩ (by simp) rfl _ 94 rfl rfl)
                          obtain ⟨s1, s2, s3, s4⟩ := HS.out
                          refine lw_value (v := .int .u32 (u1 : Nat)) (u' := u) ?_ (Kp.refl _ _) rfl
                          go_simp
                          exact IntWalk.u32_in _ (by omega)
                        | 7, ho =>
                          obtain rfl := Option.some.inj ho
                          have e95 : a.tmps[95]?.getD undef = .int .u32 (u1 : Nat) := slot_at (hdep ⟨6, .data⟩ (by simp) rfl _ 95 rfl rfl)
                          refine lw_call (f := 26) (args := #[.int .u32 (u1 : Nat)]) ?_ ?_
                          · go_simp
                          · exact (ref_Num u1 u HNu1.out).mono (by
                              rintro e u' ⟨rfl, hK⟩
                              exact ⟨_, rfl, hK, rfl⟩)
                        | 8, ho =>
                          obtain rfl := Option.some.inj ho
                          have e89 : a.tmps[89]?.getD undef = (.string ⟨l.toArray⟩) := slot_at (hdep ⟨0, .data⟩ (by simp) rfl _ 89 rfl rfl)
                          have e96 : a.tmps[96]?.getD undef = .string ⟨(numL 5 u1).toArray⟩ := slot_at (hdep ⟨7, .data⟩ (by simp) rfl _ 96 rfl rfl)
                          have hcat := HCat.out.1
                          refine lw_value (v := .string ((⟨l.toArray⟩ : ByteArray) ++ (⟨(numL 5 u1).toArray⟩ : ByteArray))) (u' := u) ?_ (Kp.refl _ _) rfl
                          go_simp
                        | 9, ho =>
                          obtain rfl := Option.some.inj ho
                          refine lw_value (v := .pointer (some ⟨wp.heap.size, 1, none⟩)) (u' := u) ?_ (Kp.refl _ _) rfl
                          go_simp
                        | 10, ho =>
                          obtain rfl := Option.some.inj ho
                          have e98 : a.tmps[98]?.getD undef = .pointer (some ⟨wp.heap.size, 1, none⟩) := slot_at (hdep ⟨9, .data⟩ (by simp) rfl _ 98 rfl rfl)
                          have c1 := (HX.out.kp hk (fun h => h)).cell (i := 1) (v := .int .i64 x1) rfl
                          refine lw_value (v := .int .i64 x1) (u' := u) ?_ (Kp.refl _ _) rfl
                          go_simp
                        | 11, ho =>
                          obtain rfl := Option.some.inj ho
                          refine lw_value (v := .pointer (some ⟨wp.heap.size, 2, none⟩)) (u' := u) ?_ (Kp.refl _ _) rfl
                          go_simp
                        | 12, ho =>
                          obtain rfl := Option.some.inj ho
                          have e100 : a.tmps[100]?.getD undef = .pointer (some ⟨wp.heap.size, 2, none⟩) := slot_at (hdep ⟨11, .data⟩ (by simp) rfl _ 100 rfl rfl)
                          have c2 := (HX.out.kp hk (fun h => h)).cell (i := 2) (v := .int .i64 x2) rfl
                          refine lw_value (v := .int .i64 x2) (u' := u) ?_ (Kp.refl _ _) rfl
                          go_simp
                        | 13, ho =>
                          obtain rfl := Option.some.inj ho
                          have e99 : a.tmps[99]?.getD undef = .int .i64 x1 := slot_at (hdep ⟨10, .data⟩ (by simp) rfl _ 99 rfl rfl)
                          have e101 : a.tmps[101]?.getD undef = .int .i64 x2 := slot_at (hdep ⟨12, .data⟩ (by simp) rfl _ 101 rfl rfl)
                          obtain ⟨s1, s2, s3, s4⟩ := HS.out
                          refine lw_value (v := .int .i64 (u2 : Nat)) (u' := u) ?_ (Kp.refl _ _) rfl
                          go_simp
                          exact IntWalk.i64_in _ (by omega)
                        | 14, ho =>
                          obtain rfl := Option.some.inj ho
                          have e102 : a.tmps[102]?.getD undef = .int .i64 (u2 : Nat) := slot_at (hdep ⟨13, .data⟩ (by simp) rfl _ 102 rfl rfl)
                          obtain ⟨s1, s2, s3, s4⟩ := HS.out
                          refine lw_value (v := .int .u32 (u2 : Nat)) (u' := u) ?_ (Kp.refl _ _) rfl
                          go_simp
                          exact IntWalk.u32_in _ (by omega)
                        | 15, ho =>
                          obtain rfl := Option.some.inj ho
                          have e103 : a.tmps[103]?.getD undef = .int .u32 (u2 : Nat) := slot_at (hdep ⟨14, .data⟩ (by simp) rfl _ 103 rfl rfl)
                          refine lw_call (f := 26) (args := #[.int .u32 (u2 : Nat)]) ?_ ?_
                          · go_simp
                          · exact (ref_Num u2 u HNu2.out).mono (by
                              rintro e u' ⟨rfl, hK⟩
                              exact ⟨_, rfl, hK, rfl⟩)
                        | 16, ho =>
                          obtain rfl := Option.some.inj ho
                          have e97 : a.tmps[97]?.getD undef = .string ((⟨l.toArray⟩ : ByteArray) ++ (⟨(numL 5 u1).toArray⟩ : ByteArray)) := slot_at (hdep ⟨8, .data⟩ (by simp) rfl _ 97 rfl rfl)
                          have e104 : a.tmps[104]?.getD undef = .string ⟨(numL 5 u2).toArray⟩ := slot_at (hdep ⟨15, .data⟩ (by simp) rfl _ 104 rfl rfl)
                          have hcat := HCat.out.2
                          refine lw_value (v := .string (((⟨l.toArray⟩ : ByteArray) ++ (⟨(numL 5 u1).toArray⟩ : ByteArray)) ++ (⟨(numL 5 u2).toArray⟩ : ByteArray))) (u' := u) ?_ (Kp.refl _ _) rfl
                          go_simp
                        | n + 17, _ => exact absurd hp (by simp [upTo])
                      case hendL22 =>
                        intro a u hI
                        have hsz : a.tmps.size = 107 := hI.size
                        have hdf : a.defers = [] := hI.defers
                        have f0 : a.tmps.getD 0 undef = _ := hI.off 0 (noDst_spec (p := upTo 17) (by kernel_rfl))
                        have f1 : a.tmps.getD 1 undef = _ := hI.off 1 (noDst_spec (p := upTo 17) (by kernel_rfl))
                        have f2 : a.tmps.getD 2 undef = _ := hI.off 2 (noDst_spec (p := upTo 17) (by kernel_rfl))
                        have f3 : a.tmps.getD 3 undef = _ := hI.off 3 (noDst_spec (p := upTo 17) (by kernel_rfl))
                        have f4 : a.tmps.getD 4 undef = _ := hI.off 4 (noDst_spec (p := upTo 17) (by kernel_rfl))
                        have f5 : a.tmps.getD 5 undef = _ := hI.off 5 (noDst_spec (p := upTo 17) (by kernel_rfl))
                        have f6 : a.tmps.getD 6 undef = _ := hI.off 6 (noDst_spec (p := upTo 17) (by kernel_rfl))
                        have f7 : a.tmps.getD 7 undef = _ := hI.off 7 (noDst_spec (p := upTo 17) (by kernel_rfl))
                        have f8 : a.tmps.getD 8 undef = _ := hI.off 8 (noDst_spec (p := upTo 17) (by kernel_rfl))
                        have f9 : a.tmps.getD 9 undef = _ := hI.off 9 (noDst_spec (p := upTo 17) (by kernel_rfl))
                        have f10 : a.tmps.getD 10 undef = _ := hI.off 10 (noDst_spec (p := upTo 17) (by kernel_rfl))
                        have f11 : a.tmps.getD 11 undef = _ := hI.off 11 (noDst_spec (p := upTo 17) (by kernel_rfl))
                        have f12 : a.tmps.getD 12 undef = _ := hI.off 12 (noDst_spec (p := upTo 17) (by kernel_rfl))
                        have f13 : a.tmps.getD 13 undef = _ := hI.off 13 (noDst_spec (p := upTo 17) (by kernel_rfl))
                        have f14 : a.tmps.getD 14 undef = _ := hI.off 14 (noDst_spec (p := upTo 17) (by kernel_rfl))
                        have f15 : a.tmps.getD 15 undef = _ := hI.off 15 (noDst_spec (p := upTo 17) (by kernel_rfl))
                        have f16 : a.tmps.getD 16 undef = _ := hI.off 16 (noDst_spec (p := upTo 17) (by kernel_rfl))
                        have f17 : a.tmps.getD 17 undef = _ := hI.off 17 (noDst_spec (p := upTo 17) (by kernel_rfl))
                        have f18 : a.tmps.getD 18 undef = _ := hI.off 18 (noDst_spec (p := upTo 17) (by kernel_rfl))
                        have f19 : a.tmps.getD 19 undef = _ := hI.off 19 (noDst_spec (p := upTo 17) (by kernel_rfl))
                        have f20 : a.tmps.getD 20 undef = _ := hI.off 20 (noDst_spec (p := upTo 17) (by kernel_rfl))
                        have f21 : a.tmps.getD 21 undef = _ := hI.off 21 (noDst_spec (p := upTo 17) (by kernel_rfl))
                        have f22 : a.tmps.getD 22 undef = _ := hI.off 22 (noDst_spec (p := upTo 17) (by kernel_rfl))
                        have f23 : a.tmps.getD 23 undef = _ := hI.off 23 (noDst_spec (p := upTo 17) (by kernel_rfl))
                        have f24 : a.tmps.getD 24 undef = _ := hI.off 24 (noDst_spec (p := upTo 17) (by kernel_rfl))
                        have f25 : a.tmps.getD 25 undef = _ := hI.off 25 (noDst_spec (p := upTo 17) (by kernel_rfl))
                        have f26 : a.tmps.getD 26 undef = _ := hI.off 26 (noDst_spec (p := upTo 17) (by kernel_rfl))
                        have f27 : a.tmps.getD 27 undef = _ := hI.off 27 (noDst_spec (p := upTo 17) (by kernel_rfl))
                        have f28 : a.tmps.getD 28 undef = _ := hI.off 28 (noDst_spec (p := upTo 17) (by kernel_rfl))
                        have f29 : a.tmps.getD 29 undef = _ := hI.off 29 (noDst_spec (p := upTo 17) (by kernel_rfl))
                        have f30 : a.tmps.getD 30 undef = _ := hI.off 30 (noDst_spec (p := upTo 17) (by kernel_rfl))
                        have f31 : a.tmps.getD 31 undef = _ := hI.off 31 (noDst_spec (p := upTo 17) (by kernel_rfl))
                        have f32 : a.tmps.getD 32 undef = _ := hI.off 32 (noDst_spec (p := upTo 17) (by kernel_rfl))
                        have f33 : a.tmps.getD 33 undef = _ := hI.off 33 (noDst_spec (p := upTo 17) (by kernel_rfl))
                        have f34 : a.tmps.getD 34 undef = _ := hI.off 34 (noDst_spec (p := upTo 17) (by kernel_rfl))
                        have f35 : a.tmps.getD 35 undef = _ := hI.off 35 (noDst_spec (p := upTo 17) (by kernel_rfl))
                        have f36 : a.tmps.getD 36 undef = _ := hI.off 36 (noDst_spec (p := upTo 17) (by kernel_rfl))
                        have f37 : a.tmps.getD 37 undef = _ := hI.off 37 (noDst_spec (p := upTo 17) (by kernel_rfl))
                        have f38 : a.tmps.getD 38 undef = _ := hI.off 38 (noDst_spec (p := upTo 17) (by kernel_rfl))
                        have f39 : a.tmps.getD 39 undef = _ := hI.off 39 (noDst_spec (p := upTo 17) (by kernel_rfl))
                        have f40 : a.tmps.getD 40 undef = _ := hI.off 40 (noDst_spec (p := upTo 17) (by kernel_rfl))
                        have f41 : a.tmps.getD 41 undef = _ := hI.off 41 (noDst_spec (p := upTo 17) (by kernel_rfl))
                        have f42 : a.tmps.getD 42 undef = _ := hI.off 42 (noDst_spec (p := upTo 17) (by kernel_rfl))
                        have f43 : a.tmps.getD 43 undef = _ := hI.off 43 (noDst_spec (p := upTo 17) (by kernel_rfl))
                        have f44 : a.tmps.getD 44 undef = _ := hI.off 44 (noDst_spec (p := upTo 17) (by kernel_rfl))
                        have f45 : a.tmps.getD 45 undef = _ := hI.off 45 (noDst_spec (p := upTo 17) (by kernel_rfl))
                        have f46 : a.tmps.getD 46 undef = _ := hI.off 46 (noDst_spec (p := upTo 17) (by kernel_rfl))
                        have f47 : a.tmps.getD 47 undef = _ := hI.off 47 (noDst_spec (p := upTo 17) (by kernel_rfl))
                        have f48 : a.tmps.getD 48 undef = _ := hI.off 48 (noDst_spec (p := upTo 17) (by kernel_rfl))
                        have f49 : a.tmps.getD 49 undef = _ := hI.off 49 (noDst_spec (p := upTo 17) (by kernel_rfl))
                        have f50 : a.tmps.getD 50 undef = _ := hI.off 50 (noDst_spec (p := upTo 17) (by kernel_rfl))
                        have f51 : a.tmps.getD 51 undef = _ := hI.off 51 (noDst_spec (p := upTo 17) (by kernel_rfl))
                        have f52 : a.tmps.getD 52 undef = _ := hI.off 52 (noDst_spec (p := upTo 17) (by kernel_rfl))
                        have f53 : a.tmps.getD 53 undef = _ := hI.off 53 (noDst_spec (p := upTo 17) (by kernel_rfl))
                        have f54 : a.tmps.getD 54 undef = _ := hI.off 54 (noDst_spec (p := upTo 17) (by kernel_rfl))
                        have f55 : a.tmps.getD 55 undef = _ := hI.off 55 (noDst_spec (p := upTo 17) (by kernel_rfl))
                        have f56 : a.tmps.getD 56 undef = _ := hI.off 56 (noDst_spec (p := upTo 17) (by kernel_rfl))
                        have f57 : a.tmps.getD 57 undef = _ := hI.off 57 (noDst_spec (p := upTo 17) (by kernel_rfl))
                        have f58 : a.tmps.getD 58 undef = _ := hI.off 58 (noDst_spec (p := upTo 17) (by kernel_rfl))
                        have f59 : a.tmps.getD 59 undef = _ := hI.off 59 (noDst_spec (p := upTo 17) (by kernel_rfl))
                        have f60 : a.tmps.getD 60 undef = _ := hI.off 60 (noDst_spec (p := upTo 17) (by kernel_rfl))
                        have f61 : a.tmps.getD 61 undef = _ := hI.off 61 (noDst_spec (p := upTo 17) (by kernel_rfl))
                        have f62 : a.tmps.getD 62 undef = _ := hI.off 62 (noDst_spec (p := upTo 17) (by kernel_rfl))
                        have f63 : a.tmps.getD 63 undef = _ := hI.off 63 (noDst_spec (p := upTo 17) (by kernel_rfl))
                        have f64 : a.tmps.getD 64 undef = _ := hI.off 64 (noDst_spec (p := upTo 17) (by kernel_rfl))
                        have f65 : a.tmps.getD 65 undef = _ := hI.off 65 (noDst_spec (p := upTo 17) (by kernel_rfl))
                        have f66 : a.tmps.getD 66 undef = _ := hI.off 66 (noDst_spec (p := upTo 17) (by kernel_rfl))
                        have f67 : a.tmps.getD 67 undef = _ := hI.off 67 (noDst_spec (p := upTo 17) (by kernel_rfl))
                        have f68 : a.tmps.getD 68 undef = _ := hI.off 68 (noDst_spec (p := upTo 17) (by kernel_rfl))
                        have f69 : a.tmps.getD 69 undef = _ := hI.off 69 (noDst_spec (p := upTo 17) (by kernel_rfl))
                        have f70 : a.tmps.getD 70 undef = _ := hI.off 70 (noDst_spec (p := upTo 17) (by kernel_rfl))
                        have f71 : a.tmps.getD 71 undef = _ := hI.off 71 (noDst_spec (p := upTo 17) (by kernel_rfl))
                        have f72 : a.tmps.getD 72 undef = _ := hI.off 72 (noDst_spec (p := upTo 17) (by kernel_rfl))
                        have f73 : a.tmps.getD 73 undef = _ := hI.off 73 (noDst_spec (p := upTo 17) (by kernel_rfl))
                        have f74 : a.tmps.getD 74 undef = _ := hI.off 74 (noDst_spec (p := upTo 17) (by kernel_rfl))
                        have f75 : a.tmps.getD 75 undef = _ := hI.off 75 (noDst_spec (p := upTo 17) (by kernel_rfl))
                        have f76 : a.tmps.getD 76 undef = _ := hI.off 76 (noDst_spec (p := upTo 17) (by kernel_rfl))
                        have f77 : a.tmps.getD 77 undef = _ := hI.off 77 (noDst_spec (p := upTo 17) (by kernel_rfl))
                        have f78 : a.tmps.getD 78 undef = _ := hI.off 78 (noDst_spec (p := upTo 17) (by kernel_rfl))
                        have f79 : a.tmps.getD 79 undef = _ := hI.off 79 (noDst_spec (p := upTo 17) (by kernel_rfl))
                        have f80 : a.tmps.getD 80 undef = _ := hI.off 80 (noDst_spec (p := upTo 17) (by kernel_rfl))
                        have f81 : a.tmps.getD 81 undef = _ := hI.off 81 (noDst_spec (p := upTo 17) (by kernel_rfl))
                        have f82 : a.tmps.getD 82 undef = _ := hI.off 82 (noDst_spec (p := upTo 17) (by kernel_rfl))
                        have f83 : a.tmps.getD 83 undef = _ := hI.off 83 (noDst_spec (p := upTo 17) (by kernel_rfl))
                        have f84 : a.tmps.getD 84 undef = _ := hI.off 84 (noDst_spec (p := upTo 17) (by kernel_rfl))
                        have f85 : a.tmps.getD 85 undef = _ := hI.off 85 (noDst_spec (p := upTo 17) (by kernel_rfl))
                        have f86 : a.tmps.getD 86 undef = _ := hI.off 86 (noDst_spec (p := upTo 17) (by kernel_rfl))
                        have f87 : a.tmps.getD 87 undef = _ := hI.off 87 (noDst_spec (p := upTo 17) (by kernel_rfl))
                        have f88 : a.tmps.getD 88 undef = _ := hI.off 88 (noDst_spec (p := upTo 17) (by kernel_rfl))
                        have f106 : a.tmps.getD 106 undef = _ := hI.off 106 (noDst_spec (p := upTo 17) (by kernel_rfl))
                        have f89 : a.tmps.getD 89 undef = (.string ⟨l.toArray⟩) := hI.val 0 _ 89 rfl rfl rfl
                        have f90 : a.tmps.getD 90 undef = .pointer (some ⟨wp.heap.size, 0, none⟩) := hI.val 1 _ 90 rfl rfl rfl
                        have f91 : a.tmps.getD 91 undef = .int .i64 x0 := hI.val 2 _ 91 rfl rfl rfl
                        have f92 : a.tmps.getD 92 undef = .pointer (some ⟨wp.heap.size, 1, none⟩) := hI.val 3 _ 92 rfl rfl rfl
                        have f93 : a.tmps.getD 93 undef = .int .i64 x1 := hI.val 4 _ 93 rfl rfl rfl
                        have f94 : a.tmps.getD 94 undef = .int .i64 (u1 : Nat) := hI.val 5 _ 94 rfl rfl rfl
                        have f95 : a.tmps.getD 95 undef = .int .u32 (u1 : Nat) := hI.val 6 _ 95 rfl rfl rfl
                        have f96 : a.tmps.getD 96 undef = .string ⟨(numL 5 u1).toArray⟩ := hI.val 7 _ 96 rfl rfl rfl
                        have f97 : a.tmps.getD 97 undef = .string ((⟨l.toArray⟩ : ByteArray) ++ (⟨(numL 5 u1).toArray⟩ : ByteArray)) := hI.val 8 _ 97 rfl rfl rfl
                        have f98 : a.tmps.getD 98 undef = .pointer (some ⟨wp.heap.size, 1, none⟩) := hI.val 9 _ 98 rfl rfl rfl
                        have f99 : a.tmps.getD 99 undef = .int .i64 x1 := hI.val 10 _ 99 rfl rfl rfl
                        have f100 : a.tmps.getD 100 undef = .pointer (some ⟨wp.heap.size, 2, none⟩) := hI.val 11 _ 100 rfl rfl rfl
                        have f101 : a.tmps.getD 101 undef = .int .i64 x2 := hI.val 12 _ 101 rfl rfl rfl
                        have f102 : a.tmps.getD 102 undef = .int .i64 (u2 : Nat) := hI.val 13 _ 102 rfl rfl rfl
                        have f103 : a.tmps.getD 103 undef = .int .u32 (u2 : Nat) := hI.val 14 _ 103 rfl rfl rfl
                        have f104 : a.tmps.getD 104 undef = .string ⟨(numL 5 u2).toArray⟩ := hI.val 15 _ 104 rfl rfl rfl
                        have f105 : a.tmps.getD 105 undef = .string (((⟨l.toArray⟩ : ByteArray) ++ (⟨(numL 5 u1).toArray⟩ : ByteArray)) ++ (⟨(numL 5 u2).toArray⟩ : ByteArray)) := hI.val 16 _ 105 rfl rfl rfl
                        have ha : a = ⟨#[a.tmps.getD 0 undef, a.tmps.getD 1 undef, a.tmps.getD 2 undef, a.tmps.getD 3 undef, a.tmps.getD 4 undef, a.tmps.getD 5 undef, a.tmps.getD 6 undef, a.tmps.getD 7 undef, a.tmps.getD 8 undef, a.tmps.getD 9 undef, a.tmps.getD 10 undef, a.tmps.getD 11 undef, a.tmps.getD 12 undef, a.tmps.getD 13 undef, a.tmps.getD 14 undef, a.tmps.getD 15 undef, a.tmps.getD 16 undef, a.tmps.getD 17 undef, a.tmps.getD 18 undef, a.tmps.getD 19 undef, a.tmps.getD 20 undef, a.tmps.getD 21 undef, a.tmps.getD 22 undef, a.tmps.getD 23 undef, a.tmps.getD 24 undef, a.tmps.getD 25 undef, a.tmps.getD 26 undef, a.tmps.getD 27 undef, a.tmps.getD 28 undef, a.tmps.getD 29 undef, a.tmps.getD 30 undef, a.tmps.getD 31 undef, a.tmps.getD 32 undef, a.tmps.getD 33 undef, a.tmps.getD 34 undef, a.tmps.getD 35 undef, a.tmps.getD 36 undef, a.tmps.getD 37 undef, a.tmps.getD 38 undef, a.tmps.getD 39 undef, a.tmps.getD 40 undef, a.tmps.getD 41 undef, a.tmps.getD 42 undef, a.tmps.getD 43 undef, a.tmps.getD 44 undef, a.tmps.getD 45 undef, a.tmps.getD 46 undef, a.tmps.getD 47 undef, a.tmps.getD 48 undef, a.tmps.getD 49 undef, a.tmps.getD 50 undef, a.tmps.getD 51 undef, a.tmps.getD 52 undef, a.tmps.getD 53 undef, a.tmps.getD 54 undef, a.tmps.getD 55 undef, a.tmps.getD 56 undef, a.tmps.getD 57 undef, a.tmps.getD 58 undef, a.tmps.getD 59 undef, a.tmps.getD 60 undef, a.tmps.getD 61 undef, a.tmps.getD 62 undef, a.tmps.getD 63 undef, a.tmps.getD 64 undef, a.tmps.getD 65 undef, a.tmps.getD 66 undef, a.tmps.getD 67 undef, a.tmps.getD 68 undef, a.tmps.getD 69 undef, a.tmps.getD 70 undef, a.tmps.getD 71 undef, a.tmps.getD 72 undef, a.tmps.getD 73 undef, a.tmps.getD 74 undef, a.tmps.getD 75 undef, a.tmps.getD 76 undef, a.tmps.getD 77 undef, a.tmps.getD 78 undef, a.tmps.getD 79 undef, a.tmps.getD 80 undef, a.tmps.getD 81 undef, a.tmps.getD 82 undef, a.tmps.getD 83 undef, a.tmps.getD 84 undef, a.tmps.getD 85 undef, a.tmps.getD 86 undef, a.tmps.getD 87 undef, a.tmps.getD 88 undef, a.tmps.getD 89 undef, a.tmps.getD 90 undef, a.tmps.getD 91 undef, a.tmps.getD 92 undef, a.tmps.getD 93 undef, a.tmps.getD 94 undef, a.tmps.getD 95 undef, a.tmps.getD 96 undef, a.tmps.getD 97 undef, a.tmps.getD 98 undef, a.tmps.getD 99 undef, a.tmps.getD 100 undef, a.tmps.getD 101 undef, a.tmps.getD 102 undef, a.tmps.getD 103 undef, a.tmps.getD 104 undef, a.tmps.getD 105 undef, a.tmps.getD 106 undef], a.defers⟩ := act_list a 107 hsz
                        rw [hdf, f0, f1, f2, f3, f4, f5, f6, f7, f8, f9, f10, f11, f12, f13, f14, f15, f16, f17, f18, f19, f20, f21, f22, f23, f24, f25, f26, f27, f28, f29, f30, f31, f32, f33, f34, f35, f36, f37, f38, f39, f40, f41, f42, f43, f44, f45, f46, f47, f48, f49, f50, f51, f52, f53, f54, f55, f56, f57, f58, f59, f60, f61, f62, f63, f64, f65, f66, f67, f68, f69, f70, f71, f72, f73, f74, f75, f76, f77, f78, f79, f80, f81, f82, f83, f84, f85, f86, f87, f88, f89, f90, f91, f92, f93, f94, f95, f96, f97, f98, f99, f100, f101, f102, f103, f104, f105, f106] at ha
                        have hku := hI.kp
                        clear hI hsz hdf f0 f1 f2 f3 f4 f5 f6 f7 f8 f9 f10 f11 f12 f13 f14 f15 f16 f17 f18 f19 f20 f21 f22 f23 f24 f25 f26 f27 f28 f29 f30 f31 f32 f33 f34 f35 f36 f37 f38 f39 f40 f41 f42 f43 f44 f45 f46 f47 f48 f49 f50 f51 f52 f53 f54 f55 f56 f57 f58 f59 f60 f61 f62 f63 f64 f65 f66 f67 f68 f69 f70 f71 f72 f73 f74 f75 f76 f77 f78 f79 f80 f81 f82 f83 f84 f85 f86 f87 f88 f89 f90 f91 f92 f93 f94 f95 f96 f97 f98 f99 f100 f101 f102 f103 f104 f105 f106 
                        subst ha
                        refine wpAny_tail 17 rfl (by kernel_rfl) ?_
                        simp only [List.drop_succ_cons, List.drop_zero]
                        have HWu := Lib.hid (HWv.out.kp' hku)
                        clear hku
                        have hcat : (⟨l.toArray⟩ : ByteArray) ++ (⟨(numL 5 u1).toArray⟩ : ByteArray) ++ (⟨(numL 5 u2).toArray⟩ : ByteArray) = ⟨(t ++ (C.gates.take (j + 1)).flatMap gateB).toArray⟩ := by rw [HTk.out, cat_bytes, cat_bytes, List.append_assoc]
                        rw [hcat]
                        clear hcat
                        simp only [Array.getD_eq_getD_getElem?, List.getElem?_toArray, List.getElem?_cons_zero, List.getElem?_cons_succ, Option.getD_some]
                        go_wp2_with fail
                        go_roundw
                        case rel => exact ⟨j + 1, by go_num, by omega, rfl, HWu.out⟩
                        case measure => simp [intOf]; omega
                    · obtain rfl : j = C.gates.length := by omega
                      rw [show t ++ (C.gates.take C.gates.length).flatMap gateB = binB C by rw [HAll.out, List.take_length]]
                      go_wp2_with fail
                      go_ret
                      exact ⟨rfl, HW.out.kp⟩

end Go.Proofs.YtmjcpapcmbgkjaaDoor

/-
  latchetlaw11.Few. (Printed by mkfew.py.)
-/
namespace Go.Proofs.YtmjcpapcmbgkjaaDoor
open Go Go.RowKit

structure FewP (V : CV) (C : Circ) (m : Nat) : Prop where
  i : C.ins.length ≤ m
  l : C.lats.length ≤ m
  g : C.gates.length ≤ m
  o : C.outs.length ≤ m
  b : C.bads.length ≤ m
  c : C.cons.length ≤ m
  y : V.ny ≤ m
  t : V.cm.size ≤ 300

theorem FewP.few {V : CV} {C : Circ} {m k : Nat} (h : FewP V C m) (hk : m ≤ k) : CFew C k := ⟨Nat.le_trans h.i hk, Nat.le_trans h.l hk, Nat.le_trans h.o hk, Nat.le_trans h.b hk, Nat.le_trans h.c hk, Nat.le_trans h.g hk⟩

set_option maxRecDepth 100000 in
set_option maxHeartbeats 4000000 in
theorem law11_Few (V : CV) (C : Circ) (m : Nat) (w : World) :
    Calls Tryd.prog 4 #[.agg (cvals V C), .int .i64 m] w fun e w' => ∃ r : Bool, e = .returned (.bool r) ∧ (r = true ↔ FewP V C m) ∧ Kp (fun _ => False) w w' := by
  obtain ⟨wz, hwz⟩ : ∃ wz : World, wz = w.alloc (.cells (cvals V C) 27) := ⟨_, rfl⟩
  have HK0 := Lib.hid (show Kp (fun _ => False) w wz by rw [hwz]; exact (Kp.refl _ w).alloc _)
  obtain ⟨ni, hni⟩ : ∃ n, C.ins.length = n := ⟨_, rfl⟩
  obtain ⟨nl, hnl⟩ : ∃ n, C.lats.length = n := ⟨_, rfl⟩
  obtain ⟨no, hno⟩ : ∃ n, C.outs.length = n := ⟨_, rfl⟩
  obtain ⟨nb, hnb⟩ : ∃ n, C.bads.length = n := ⟨_, rfl⟩
  obtain ⟨nc, hnc⟩ : ∃ n, C.cons.length = n := ⟨_, rfl⟩
  obtain ⟨ng, hng⟩ : ∃ n, C.gates.length = n := ⟨_, rfl⟩
  obtain ⟨ny, hny⟩ : ∃ n, V.ny = n := ⟨_, rfl⟩
  obtain ⟨cm, hcm⟩ : ∃ s, V.cm = s := ⟨_, rfl⟩
  have HF := Lib.hid (show FewP V C m ↔ ni ≤ m ∧ nl ≤ m ∧ ng ≤ m ∧ no ≤ m ∧ nb ≤ m ∧ nc ≤ m ∧ ny ≤ m ∧ cm.size ≤ 300 from ⟨fun ⟨h1, h2, h3, h4, h5, h6, h7, h8⟩ => ⟨hni ▸ h1, hnl ▸ h2, hng ▸ h3, hno ▸ h4, hnb ▸ h5, hnc ▸ h6, hny ▸ h7, hcm ▸ h8⟩, fun ⟨h1, h2, h3, h4, h5, h6, h7, h8⟩ => ⟨hni ▸ h1, hnl ▸ h2, hng ▸ h3, hno ▸ h4, hnb ▸ h5, hnc ▸ h6, hny ▸ h7, hcm ▸ h8⟩⟩)
  have HC0 : Hid (Blk wz w.heap.size #[.int .i64 C.max, .slice V.ai ni V.ci, .slice V.al nl V.cl, .slice V.ao no V.co, .slice V.ab nb V.cb, .slice V.ac nc V.cc, .slice V.ag ng V.cg, .slice V.ay ny V.cy, .string cm] 27) := Lib.hid (by
    have h := Blk.new w (cvals V C) 27
    rw [← hwz] at h
    unfold cvals at h
    rw [hni, hnl, hno, hnb, hnc, hng, hny, hcm] at h
    exact h)
  obtain ⟨d0, d1, d2, d3, d4, d5, d6, d7, d8⟩ := Blk.cells9 HC0.out
  have HZ := Lib.hid hwz
  clear hni hnl hno hnb hnc hng hny hcm hwz
  by_cases h0 : ni ≤ m
  case neg =>
    have HNo := Lib.hid (show ¬ (ni ≤ m ∧ nl ≤ m ∧ ng ≤ m ∧ no ≤ m ∧ nb ≤ m ∧ nc ≤ m ∧ ny ≤ m ∧ cm.size ≤ 300) from fun h => h0 h.1)
    go_enter Tryd.func4, Tryd.ntmps4
    go_upto_region 1 with fail
    rw [← HZ.out]
    clear HZ
    go_wp2_with fail
    go_ret
    exact ⟨false, rfl, ⟨fun h => (by cases h), fun h => absurd (HF.out.1 h) HNo.out⟩, HK0.out⟩
  by_cases h1 : nl ≤ m
  case neg =>
    have HNo := Lib.hid (show ¬ (ni ≤ m ∧ nl ≤ m ∧ ng ≤ m ∧ no ≤ m ∧ nb ≤ m ∧ nc ≤ m ∧ ny ≤ m ∧ cm.size ≤ 300) from fun h => h1 h.2.1)
    go_enter Tryd.func4, Tryd.ntmps4
    go_upto_region 1 with fail
    rw [← HZ.out]
    clear HZ
    go_wp2_with fail
    go_ret
    exact ⟨false, rfl, ⟨fun h => (by cases h), fun h => absurd (HF.out.1 h) HNo.out⟩, HK0.out⟩
  by_cases h2 : ng ≤ m
  case neg =>
    have HNo := Lib.hid (show ¬ (ni ≤ m ∧ nl ≤ m ∧ ng ≤ m ∧ no ≤ m ∧ nb ≤ m ∧ nc ≤ m ∧ ny ≤ m ∧ cm.size ≤ 300) from fun h => h2 h.2.2.1)
    go_enter Tryd.func4, Tryd.ntmps4
    go_upto_region 1 with fail
    rw [← HZ.out]
    clear HZ
    go_wp2_with fail
    go_ret
    exact ⟨false, rfl, ⟨fun h => (by cases h), fun h => absurd (HF.out.1 h) HNo.out⟩, HK0.out⟩
  by_cases h3 : no ≤ m
  case neg =>
    have HNo := Lib.hid (show ¬ (ni ≤ m ∧ nl ≤ m ∧ ng ≤ m ∧ no ≤ m ∧ nb ≤ m ∧ nc ≤ m ∧ ny ≤ m ∧ cm.size ≤ 300) from fun h => h3 h.2.2.2.1)
    go_enter Tryd.func4, Tryd.ntmps4
    go_upto_region 1 with fail
    rw [← HZ.out]
    clear HZ
    go_wp2_with fail
    go_ret
    exact ⟨false, rfl, ⟨fun h => (by cases h), fun h => absurd (HF.out.1 h) HNo.out⟩, HK0.out⟩
  by_cases h4 : nb ≤ m
  case neg =>
    have HNo := Lib.hid (show ¬ (ni ≤ m ∧ nl ≤ m ∧ ng ≤ m ∧ no ≤ m ∧ nb ≤ m ∧ nc ≤ m ∧ ny ≤ m ∧ cm.size ≤ 300) from fun h => h4 h.2.2.2.2.1)
    go_enter Tryd.func4, Tryd.ntmps4
    go_upto_region 1 with fail
    rw [← HZ.out]
    clear HZ
    go_wp2_with fail
    go_ret
    exact ⟨false, rfl, ⟨fun h => (by cases h), fun h => absurd (HF.out.1 h) HNo.out⟩, HK0.out⟩
  by_cases h5 : nc ≤ m
  case neg =>
    have HNo := Lib.hid (show ¬ (ni ≤ m ∧ nl ≤ m ∧ ng ≤ m ∧ no ≤ m ∧ nb ≤ m ∧ nc ≤ m ∧ ny ≤ m ∧ cm.size ≤ 300) from fun h => h5 h.2.2.2.2.2.1)
    go_enter Tryd.func4, Tryd.ntmps4
    go_upto_region 1 with fail
    rw [← HZ.out]
    clear HZ
    go_wp2_with fail
    go_ret
    exact ⟨false, rfl, ⟨fun h => (by cases h), fun h => absurd (HF.out.1 h) HNo.out⟩, HK0.out⟩
  by_cases h6 : ny ≤ m
  case neg =>
    have HNo := Lib.hid (show ¬ (ni ≤ m ∧ nl ≤ m ∧ ng ≤ m ∧ no ≤ m ∧ nb ≤ m ∧ nc ≤ m ∧ ny ≤ m ∧ cm.size ≤ 300) from fun h => h6 h.2.2.2.2.2.2.1)
    go_enter Tryd.func4, Tryd.ntmps4
    go_upto_region 1 with fail
    rw [← HZ.out]
    clear HZ
    go_wp2_with fail
    go_ret
    exact ⟨false, rfl, ⟨fun h => (by cases h), fun h => absurd (HF.out.1 h) HNo.out⟩, HK0.out⟩
  by_cases h7 : cm.size ≤ 300
  case neg =>
    have HNo := Lib.hid (show ¬ (ni ≤ m ∧ nl ≤ m ∧ ng ≤ m ∧ no ≤ m ∧ nb ≤ m ∧ nc ≤ m ∧ ny ≤ m ∧ cm.size ≤ 300) from fun h => h7 h.2.2.2.2.2.2.2)
    have hd : decide ((cm.size : Int) ≤ 300) = false := decide_eq_false (by omega)
    go_enter Tryd.func4, Tryd.ntmps4
    go_upto_region 1 with fail
    rw [← HZ.out]
    clear HZ
    go_wp2_with fail
    go_ret
    exact ⟨false, rfl, ⟨fun h => (by cases h), fun h => absurd (HF.out.1 h) HNo.out⟩, HK0.out⟩
  have HY := Lib.hid (show ni ≤ m ∧ nl ≤ m ∧ ng ≤ m ∧ no ≤ m ∧ nb ≤ m ∧ nc ≤ m ∧ ny ≤ m ∧ cm.size ≤ 300 from ⟨h0, h1, h2, h3, h4, h5, h6, h7⟩)
  have hd : decide ((cm.size : Int) ≤ 300) = true := decide_eq_true (by omega)
  go_enter Tryd.func4, Tryd.ntmps4
  go_upto_region 1 with fail
  rw [← HZ.out]
  clear HZ
  go_wp2_with fail
  go_ret
  exact ⟨true, rfl, ⟨fun _ => HF.out.2 HY.out, fun _ => rfl⟩, HK0.out⟩

end Go.Proofs.YtmjcpapcmbgkjaaDoor
