/-
  latchetref22.Close: all that is said.
-/
import Derived.Test.YthconjhldjaldaaGreatDoorM4
import Derived.Test.YthconjhldjaldaaGreatDoorRows
import Derived.ProofKit
import Derived.Deep.SlicePairs
import Derived.Deep.Grids
import Derived.Lib.SmallJoins
import Derived.Test.YthconjhldjaldaaGreatDoorM1
import Derived.Test.YthconjhldjaldaaGreatDoorM2
import Derived.Lib.LaidTab
import Derived.Stop.LaidErr
set_option linter.unusedVariables false
set_option linter.unusedSimpArgs false
namespace Go.Proofs.YthconjhldjaldaaGreatDoor
open Go.RowKit

/-- no value is known -/
def freeV (k : Nat) : List Int := 0 :: List.replicate k 2
theorem freeV_succ (k : Nat) : freeV (k + 1) = freeV k ++ [2] := by unfold freeV; rw [List.replicate_succ', List.cons_append]
theorem freeV_len (k : Nat) : (freeV k).length = k + 1 := by simp [freeV]
theorem freeV_at {k i : Nat} (h0 : 1 ≤ i) (h1 : i ≤ k) : gi (freeV k) i = 2 := by
  unfold gi freeV
  obtain ⟨j, rfl⟩ : ∃ j, i = j + 1 := ⟨i - 1, by omega⟩
  simp [show j < k by omega]
theorem freeV_tv (n : Nat) : TV n (freeV n) := ⟨freeV_len n, rfl, fun k hk => by
  by_cases h : k = 0
  · subst h; exact .inl rfl
  · exact .inr (.inr (freeV_at (by omega) hk))⟩
theorem freeV_told (n : Nat) (K : List (List Int)) : Told n (freeV n) K := by
  intro x hx h
  by_cases h2 : 2 ≤ x
  · unfold KnL at hx
    have e : gi (freeV n) (x / 2).toNat = 2 := freeV_at (by omega) (by omega)
    unfold vlit at h
    rw [e] at h
    split at h <;> exact absurd h (by decide)
  · have : x = 0 ∨ x = 1 := by have := hx.1; omega
    rcases this with rfl | rfl
    · exact absurd h (by unfold vlit; simp [gi, freeV])
    · exact .one

/-- the literals, one a clause -/
def ones (l : List Int) : List (List Int) := l.map fun x => [x]
theorem ones_len (l : List Int) : (ones l).length = l.length := List.length_map ..
theorem ones_take {l : List Int} {k : Nat} (h : k < l.length) : ones (l.take (k + 1)) = ones (l.take k) ++ [[gi l k]] := by
  rw [List.take_succ_eq_append_getElem h]
  unfold ones gi
  rw [List.map_append, List.getElem?_eq_getElem h]; rfl
theorem close_conf {n : Nat} {N : List (Int × Int)} {l : List Int} {K : List (List Int)} (h : N.length = n) : UConf (ones l ++ (gatesQ N (3 * n) ++ K)) ↔ UConf (allK N l K) := by
  subst h
  refine UConf.congr fun c => ?_
  unfold allK
  rw [List.mem_append, List.mem_append, List.mem_append, List.mem_append, gatesQ_of, or_assoc]
  rfl

set_option maxRecDepth 100000 in
set_option maxHeartbeats 4000000 in
theorem ref22_Close (an : Option Addr) (n cn : Nat) (N : List (Int × Int)) (al : Option Addr) (ml cl : Nat) (l : List Int) (ak : Option Addr) (mk ck : Nat) (K : List (List Int)) (w : World)
    (hrn : RowAt w an (N.map pr2).flatten) (hnn : N.length = n) (hn : n ≤ 100000) (hN : GoodN N) (hrl : RowAt w al (iv l)) (hll : l.length = ml) (hol : SlOK al ml cl) (hml : ml ≤ 100000) (hl : KnC n l) (hK : Cls w ak mk K) (hmk : mk ≤ 100000) (hKn : ∀ c ∈ K, KnC n c) (hKl : ∀ c ∈ K, c.length ≤ 1000000) :
    Calls Tryz.prog 41 #[.slice an n cn, .slice al ml cl, .slice ak mk ck] w fun e w' => ∃ (v : Value) (b : Bool), e = .returned (.tuple #[v, .bool b]) ∧ (b = false ↔ UConf (allK N l K)) ∧ Kp (fun _ => False) w w' := by
  have HI := Lib.hid (show (Tryz.prog.info? 3).map (fun i => (i.zero, i.size, i.bytes)) = some (some (.int .i64 0), 1, 8) by kernel_rfl)
  have HIr := Lib.hid (show (Tryz.prog.info? 23).map (fun i => (i.zero, i.size, i.bytes)) = some (some (.slice none 0 0), 1, 24) by kernel_rfl)
  have HO0 := Lib.hid (show Own (w.alloc (.cells #[.int .i64 0] 3)) w.heap.size 3 (.slice (some ⟨w.heap.size, 0, none⟩) 1 1) (iv (freeV 0)) from Own.lit (cs := [.int .i64 0]) (Blk.new w #[.int .i64 0] 3) (Nat.le_refl _) (by decide))
  have HK0 := Lib.hid ((Kp.refl (fun _ => False) w).alloc (.cells #[.int .i64 0] 3))
  have HKnw := Lib.hid (fun u (hu : Kp (fun _ => False) w u) => (ref22_Known an n cn al ml cl l u (by omega) (hrl.kp hu (fun _ _ h => h)) hll (by omega)).mono (R' := fun e w' => e = .returned (.bool true) ∧ u = w') (by rintro e w' ⟨rfl, h⟩; rw [knB_iff.2 hl]; exact ⟨rfl, h⟩))
  have HAll := Lib.hid (fun u (hu : Kp (fun _ => False) w u) => ref22_All an n cn N ak mk ck K w u hu (hrn.kp hu (fun _ _ h => h)) hnn (by omega) hN hK (by omega) hKn hKl)
  have HUn := Lib.hid (fun u av mv cv (V0 : List Int) a2 m2 c2 (hrv : RowAt u av (iv V0)) (hov : SlOK av mv cv) (hV : TV n V0) (hmv : n + 1 = mv) (hT : Told n V0 (ones l ++ (gatesQ N (3 * n) ++ K))) (hc : Cls u a2 m2 (ones l ++ (gatesQ N (3 * n) ++ K))) (hm2 : m2 ≤ 1000000) =>
    ref22_Units av mv cv V0 n a2 m2 c2 (ones l ++ (gatesQ N (3 * n) ++ K)) u hrv hov hV hmv (by omega) hT hc (by omega)
      (fun c hc => by
        rcases List.mem_append.1 hc with hc | hc
        · obtain ⟨x, hx, rfl⟩ := List.mem_map.1 hc
          intro y hy; simp at hy; rw [hy]; exact hl x hx
        · rcases List.mem_append.1 hc with hc | hc
          · rw [← hnn] at hc ⊢; exact gates_kn hN c ((gatesQ_of c).1 hc)
          · exact hKn c hc)
      (fun c hc => by
        rcases List.mem_append.1 hc with hc | hc
        · obtain ⟨x, hx, rfl⟩ := List.mem_map.1 hc
          simp
        · rcases List.mem_append.1 hc with hc | hc
          · rw [← hnn] at hc
            obtain ⟨j, _, _, i, _, rfl⟩ := gates_mem.1 ((gatesQ_of c).1 hc)
            unfold gcl
            split
            · simp
            · split <;> simp
          · exact hKl c hc))
  have HRl := Lib.hid hrl
  have HLl := Lib.hid hll
  have HLk := Lib.hid hK.len
  have HGl := Lib.hid (gatesQ_len N (3 * n))
  have hle := hol.le
  have hlm := hol.most
  have HNn := Lib.hid hnn
  clear hrn hnn hN hrl hll hol hl hK hKn hKl
  go_enter Tryz.func41, Tryz.ntmps41
  go_wp2_with fail
  go_loopw [8, 9] (fun v8 v9 wr => ∃ k : Nat, v9 = .int .i64 ((k + 1 : Nat) : Int) ∧ k ≤ n ∧ Own wr w.heap.size 3 v8 (iv (freeV k)) ∧ Kp (fun _ => False) w wr) (fun _ v9 _ => n + 1 - (intOf v9).toNat)
  case atStart => exact ⟨0, rfl, Nat.zero_le _, HO0.out, HK0.out⟩
  case round =>
    clear HO0 HK0
    obtain ⟨k, rfl, hk, hO, hK⟩ := hrel
    have HO := Lib.hid hO
    have HK := Lib.hid hK
    clear hO hK
    obtain ⟨wp, rfl⟩ : ∃ wp : World, wp = wr := ⟨_, rfl⟩
    obtain ⟨k1, hk1⟩ : ∃ k1, k1 = k + 1 := ⟨_, rfl⟩
    have HK1 := Lib.hid hk1
    rw [← hk1]
    by_cases hlt : k < n
    · have d1 : decide ((k1 : Int) ≤ (n : Int)) = true := by simp; omega
      have hnl : k1 ≤ n := by omega
      have HNw := Lib.hid (Blk.new wp #[.int .i64 2] 3)
      have HOl := Lib.hid (HO.out.alloc (.cells #[.int .i64 2] 3))
      have HSz := Lib.hid HK.out.size
      have wk : IntKind.i64.wrap ((k1 : Int) + 1) = ((k1 + 1 : Nat) : Int) := by rw [IntKind.wrap_i64]; omega
      go_wp2_with (at_builtin; refine wpList_append1 rfl _ _ 23 3 rfl Tryz.underlying23 HI.out rfl HOl.out rfl ⟨wp.heap.size, 0, none⟩ (.int .i64 2) rfl (HNw.out.cell rfl) rfl ?d1 ?d2 ?d3 ?_)
      case d1 => rw [iv_length, freeV_len]; omega
      case d2 => rw [iv_length, freeV_len]; unfold maxLen; omega
      case d3 => rw [World.size_alloc]; exact Nat.le_succ_of_le HSz.out
      intro v' w2 hO3 hg2
      have HO3 := Lib.hid (show Own w2 w.heap.size 3 v' (iv (freeV (k + 1))) by rw [freeV_succ]; rw [show iv (freeV k ++ [2]) = iv (freeV k) ++ [.int .i64 2] by simp [iv]]; exact hO3)
      have HK3 := Lib.hid (show Kp (fun _ => False) w w2 from (HK.out.alloc _).grown hg2 (fun j hj hl => by have := (HO.out.lt j hj).1; omega))
      clear hO3 hg2
      go_wp2_with fail
      go_roundw
      case rel => exact ⟨k + 1, by rw [← HK1.out]; go_num, hlt, HO3.out, HK3.out⟩
      case measure => simp [intOf]; omega
    · have hk' : k = n := by omega
      have d1 : decide ((k1 : Int) ≤ (n : Int)) = false := by simp; omega
      have hnl : ¬ k1 ≤ n := by omega
      have hnl2 : ¬ (k1 : Int) ≤ (n : Int) := by omega
      have HOf : Hid (Own wp w.heap.size 3 u8 (iv (freeV n))) := Lib.hid (by rw [← hk']; exact HO.out)
      have HKn2 := Lib.hid (HKnw.out wp HK.out)
      have HV0 : Hid (ClsV (fun j => j < w.heap.size) (wp.alloc (.cells #[] 23)) wp.heap.size (.slice (some ⟨wp.heap.size, 0, none⟩) 0 0) (ones (l.take 0)) []) := Lib.hid (ClsV.nil _ (Own.lit (cs := []) (Blk.new wp #[] 23) (Nat.le_refl _) (Nat.zero_le _)))
      have HKz := Lib.hid (HK.out.alloc (.cells #[] 23))
      have HKs := Lib.hid HK.out.size
      obtain ⟨a8, c8, e8, hl8, hm8, -, -⟩ := HOf.out.form
      rw [iv_length, freeV_len] at e8 hl8
      subst e8
      have HR8 : Hid (RowAt wp a8 (iv (freeV n))) := Lib.hid (by
        obtain ⟨a9, c9, e9, -, -, -, r9⟩ := HOf.out.form
        simp only [Value.slice.injEq] at e9
        rw [e9.1]; exact r9)
      have HS8 : Hid (SlOK a8 (n + 1) c8) := Lib.hid ⟨hl8, hm8, own_nilc HOf.out⟩
      obtain ⟨n1, hn1⟩ : ∃ n1, n1 = n + 1 := ⟨_, rfl⟩
      rw [← hn1] at HS8 HOf
      rw [← hn1]
      have HN1 := Lib.hid hn1
      clear HO hk' hlt hk1 HK1 hl8 hm8 hn1
      go_wp2_with (go_at_call 6; refine HKn2.out.mono ?_; rintro e w1 ⟨rfl, rfl⟩)
      have HKw := Lib.hid HK.out
      go_loopw [10, 11] (fun v10 v11 wr => ∃ (i : Nat) (vs : List Value), v11 = .int .i64 (i : Int) ∧ i ≤ ml ∧ ClsV (fun j => j < w.heap.size) wr wp.heap.size v10 (ones (l.take i)) vs ∧ Kp (fun _ => False) wp wr) (fun _ v11 _ => ml - (intOf v11).toNat)
      case atStart => exact ⟨0, [], rfl, Nat.zero_le _, HV0.out, (Kp.refl _ wp).alloc _⟩
      case round =>
        clear HV0 HKz
        obtain ⟨i, vs, rfl, hi, hV, hK⟩ := hrel
        have HV := Lib.hid hV
        have HK2 := Lib.hid hK
        clear hV hK
        obtain ⟨wq, rfl⟩ : ∃ wq : World, wq = wr := ⟨_, rfl⟩
        by_cases hlt : i < ml
        · have hil : i < l.length := by rw [HLl.out]; exact hlt
          obtain ⟨b, off, rfl, hcell⟩ := HRl.out i _ (iv_at hil)
          have HB := Lib.hid (World.block_lt_of_cell? w _ hcell)
          have HT := Lib.hid (ones_take hil)
          have HLen := Lib.hid (show vs.length ≤ ml by rw [HV.out.len, ones_len, List.length_take]; omega)
          have HRx : Hid (RowAt wq (some ⟨b, off + i, none⟩) (iv [gi l i])) := Lib.hid (fun j u hu => by
            match j, hu with
            | 0, hu =>
              simp [iv] at hu
              subst hu
              obtain ⟨b2, off2, e2, hc2⟩ := (HRl.out.kp (HKw.out.trans HK2.out (fun _ _ h => h)) (fun _ _ h => h)) i _ (iv_at hil)
              simp only [Option.some.injEq, Addr.mk.injEq, and_true] at e2
              obtain ⟨rfl, rfl⟩ := e2
              exact ⟨b, off + i, rfl, hc2⟩
            | j + 1, hu => simp [iv] at hu)
          have i0 : (0 : Int) ≤ (i : Int) := by omega
          have i1 : (i : Int) ≤ (cl : Int) := by omega
          have i2 : (i : Int) + 1 ≤ (cl : Int) := by omega
          have wi : IntKind.i64.wrap ((i : Int) + 1) = ((i + 1 : Nat) : Int) := by rw [IntKind.wrap_i64]; omega
          clear hcell hil
          have HVl := Lib.hid (HV.out.kp ((Kp.refl (fun _ => False) wq).alloc (.cells #[.slice (some ⟨b, off + i, none⟩) 1 (cl - i)] 23)))
          have HNw := Lib.hid (Blk.new wq #[.slice (some ⟨b, off + i, none⟩) 1 (cl - i)] 23)
          have HSz := Lib.hid HK2.out.size
          go_wp2_with (at_builtin; refine wpList_append1_at rfl _ _ 24 23 rfl Tryz.underlying24 HIr.out rfl HVl.out.own rfl ⟨wq.heap.size, 0, none⟩ (.slice (some ⟨b, off + i, none⟩) 1 (cl - i)) rfl (HNw.out.cell rfl) rfl ?d1 ?d2 ?d3 ?_)
          case d1 => have := HLen.out; omega
          case d2 => have := HLen.out; unfold maxLen; omega
          case d3 => have := HSz.out; first | omega | (rw [World.size_alloc]; omega)
          intro v' w2 hO3 hg2 hat2
          have HV3 := Lib.hid (show ClsV (fun j => j < w.heap.size) w2 wp.heap.size v' (ones (l.take (i + 1))) (vs ++ [.slice (some ⟨b, off + i, none⟩) 1 (cl - i)]) by
            rw [HT.out]
            refine ClsV.push HVl.out (HRx.out.kp ((Kp.refl (fun _ => False) wq).alloc _) (fun _ _ h => h)) (.inr fun p hp => ?_) hO3 hg2 (by rw [World.size_alloc]; exact hat2)
            simp only [Option.some.injEq] at hp
            subst hp
            have hb := HB.out
            have s1 := HKs.out
            have s2 := HSz.out
            refine ⟨by rw [World.size_alloc]; show b < _; omega, fun q => ?_, hb⟩
            have := (HV.out.own.lt _ q).1
            simp only at this
            omega)
          have HK3 := Lib.hid (show Kp (fun _ => False) wp w2 from (HK2.out.alloc _).grown hg2 (fun j hj hl => by have := (HV.out.own.lt j hj).1; omega))
          clear hO3 hg2 hat2
          go_wp2_with fail
          go_roundw
          case rel => exact ⟨i + 1, _, by go_num, hlt, HV3.out, HK3.out⟩
          case measure => simp [intOf]; omega
        · have hi' : i = ml := by omega
          have hno : decide ((i : Int) < (ml : Int)) = false := by simp; omega
          have HVf : Hid (ClsV (fun j => j < w.heap.size) wq wp.heap.size u10 (ones l) vs) := Lib.hid (by have := HV.out; rw [hi', ← HLl.out, List.take_length] at this; exact this)
          have HKq := Lib.hid (HKw.out.trans HK2.out (fun _ _ h => h))
          have HA := Lib.hid (HAll.out wq HKq.out)
          obtain ⟨a1, c1, e1, hn1, hr1⟩ := HVf.out.head
          have HOw := Lib.hid (fun u (hu : Kp (fun _ => False) wq u) => (HVf.out.kp hu).own)
          have HS2 := Lib.hid HK2.out.size
          have HLv := Lib.hid (show vs.length = ml by rw [HVf.out.len, ones_len, HLl.out])
          subst e1
          rw [ones_len, HLl.out] at HVf HOw
          rw [ones_len, HLl.out]
          obtain ⟨m2, hm2⟩ : ∃ m2, (gatesQ N (3 * n) ++ K).length = m2 := ⟨_, rfl⟩
          have HM2 := Lib.hid hm2
          have hm9 : m2 ≤ 600000 := by rw [← hm2, List.length_append, HLk.out]; have := HGl.out; omega
          clear hm2
          clear HV hi' hn1 hr1 HAll
          go_wp2_with (first
            | (go_at_call 68; refine HA.out.mono ?_; rintro e w1 ⟨⟨v2, vs2, rfl, hV2⟩, hK1⟩; obtain ⟨a2, c2, rfl, hn2, hr2⟩ := hV2.head; rw [HM2.out] at hV2 ⊢; have HL2 := Lib.hid (hV2.len.trans HM2.out); have HV2 := Lib.hid hV2; have HK1 := Lib.hid hK1; have HR2 := Lib.hid hr2; have HN2 := Lib.hid hn2; have HO1 := Lib.hid (HOw.out w1 hK1); clear hV2 hK1 hr2 hn2)
            | (at_builtin; refine wpList_appendAll rfl _ _ 24 23 rfl Tryz.underlying24 HIr.out rfl HO1.out rfl a2 m2 c2 vs2 rfl HL2.out HR2.out HN2.out HV2.out.one ?d1 ?d2 ?d3 ?_))
          case d1 => have := HLv.out; omega
          case d2 => have := HLv.out; unfold maxLen; omega
          case d3 => have := HK1.out.size; have := HS2.out; omega
          intro v3 w3 hO3 hg3
          obtain ⟨a3, c3, rfl, hok3, hc3⟩ := ClsV.join (HVf.out.kp HK1.out) HV2.out (fun j hj q => by
            have h1 := HVf.out.own.lt _ q
            have s1 := HKs.out
            rcases hj with hj | hj <;> omega) hO3 hg3
          have HK3 := Lib.hid (show Kp (fun _ => False) wp w3 from (HK2.out.trans HK1.out (fun _ _ h => h)).grown hg3 (fun j hj hl => by have := (HVf.out.own.lt j hj).1; omega))
          have HKf := Lib.hid (HKw.out.trans HK3.out (fun _ _ h => h))
          obtain ⟨m3, hm3⟩ : ∃ m3, (ones l ++ (gatesQ N (3 * n) ++ K)).length = m3 := ⟨_, rfl⟩
          rw [hm3] at hc3 ⊢
          have hm8 : m3 ≤ 1000000 := by rw [← hm3, List.length_append, ones_len, HLl.out, HM2.out]; omega
          have HUs := Lib.hid (HUn.out w3 a8 n1 c8 (freeV n) a3 m3 c3 (HR8.out.kp HK3.out (fun _ _ h => h)) HS8.out (freeV_tv n) HN1.out.symm (freeV_told n _) hc3 hm8)
          clear hok3 hc3 hO3 hg3 hm3 HUn
          go_wp2_with (go_at_call 67; refine HUs.out.mono ?_; rintro e w4 ⟨v, b, rfl, hb, hK4⟩; have HB := Lib.hid hb; have HK4 := Lib.hid hK4; clear hb hK4)
          exact bodyPost_ret (v := .tuple #[v, .bool b]) (by simp [results, Tryz.results41, go_sem]) rfl ⟨v, b, rfl, HB.out.trans (close_conf HNn.out), HKf.out.trans HK4.out (fun _ _ h => h)⟩

end Go.Proofs.YthconjhldjaldaaGreatDoor

/-
  latchetref27.Follows, latchetref29.Follows.
-/
namespace Go.Proofs.YthconjhldjaldaaGreatDoor
open Go.RowKit

set_option maxRecDepth 100000 in
set_option maxHeartbeats 4000000 in
theorem ref27_Follows (an : Option Addr) (n cn : Nat) (N : List (Int × Int)) (al : Option Addr) (ml cl : Nat) (l : List Int) (ak : Option Addr) (mk ck : Nat) (K : List (List Int)) (ac : Option Addr) (mc cc : Nat) (c : List Int) (w : World)
    (hrn : RowAt w an (N.map pr2).flatten) (hnn : N.length = n) (hn : n ≤ 100000) (hN : GoodN N) (hrl : RowAt w al (iv l)) (hll : l.length = ml) (hol : SlOK al ml cl) (hml : ml ≤ 40000) (hl : KnC n l) (hK : Cls w ak mk K) (hmk : mk ≤ 100000) (hKn : ∀ c ∈ K, KnC n c) (hKl : ∀ c ∈ K, c.length ≤ 1000000)
    (hrc : RowAt w ac (iv c)) (hlc : c.length = mc) (hmc : mc ≤ 40000) (hc : KnC n c) :
    Calls Tryz.prog 22 #[.slice an n cn, .slice al ml cl, .slice ak mk ck, .slice ac mc cc] w fun e w' => ∃ b : Bool, e = .returned (.bool b) ∧ (b = true ↔ Fol N l K c) ∧ Kp (fun _ => False) w w' := by
  have HI := Lib.hid (show (Tryz.prog.info? 3).map (fun i => (i.zero, i.size, i.bytes)) = some (some (.int .i64 0), 1, 8) by kernel_rfl)
  have HO0 := Lib.hid (show Own (w.alloc (.cells #[] 3)) w.heap.size 3 (.slice (some ⟨w.heap.size, 0, none⟩) 0 0) [] from Own.lit (cs := []) (Blk.new w #[] 3) (Nat.le_refl _) (Nat.zero_le _))
  have HRv := Lib.hid (hrl.kp ((Kp.refl (fun _ => False) w).alloc (.cells #[] 3)) (fun _ _ h => h))
  have HLv := Lib.hid (show (iv l).length = ml by rw [iv_length]; exact hll)
  have HNil := Lib.hid hol.nil
  have HNot := Lib.hid (fun x (hx : KnL n x) u => ref02_Not (hx.gl (by omega)) u)
  have HWk := Lib.hid (show KnC n (l ++ c.map ng) from fun x hx => by
    rcases List.mem_append.1 hx with hx | hx
    · exact hl x hx
    · obtain ⟨y, hy, rfl⟩ := List.mem_map.1 hx; exact (hc y hy).ng)
  obtain ⟨LL, hLL⟩ : ∃ LL, l ++ c.map ng = LL := ⟨_, rfl⟩
  obtain ⟨mw, hmw⟩ : ∃ mw, LL.length = mw := ⟨_, rfl⟩
  rw [hLL] at HWk
  have HLL := Lib.hid hLL
  have HMW := Lib.hid hmw
  have HClose := Lib.hid (fun (u : World) (hu : Kp (fun _ => False) w u) (a : Option Addr) (cap : Nat) (hr : RowAt u a (iv LL)) (ho : SlOK a mw cap) =>
    ref22_Close an n cn N a mw cap LL ak mk ck K u (hrn.kp hu (fun _ _ h => h)) hnn hn hN hr hmw ho (by rw [← hmw, ← hLL, List.length_append, List.length_map]; omega) HWk.out (hK.kp hu) hmk hKn hKl)
  have HRc := Lib.hid hrc
  have HLc := Lib.hid hlc
  have HC := Lib.hid hc
  have HLl := Lib.hid hll
  clear hrn hnn hN hrl hll hol hl hK hKn hKl hrc hlc hc HWk hLL hmw
  go_enter Tryz.func22, Tryz.ntmps22
  go_wp2_with (at_builtin; refine wpList_appendAll rfl _ _ 23 3 rfl Tryz.underlying23 HI.out rfl HO0.out rfl al ml cl (iv l) rfl HLv.out HRv.out HNil.out (fun u hu => by obtain ⟨x, _, rfl⟩ := List.mem_map.1 hu; rfl) (by simp; omega) (by unfold maxLen; simp; omega) (by simp) ?_)
  intro v' w1 hO hg
  have HO := Lib.hid (show Own w1 w.heap.size 3 v' (iv l) from hO)
  have HK1 := Lib.hid (show Kp (fun _ => False) w w1 from ((Kp.refl (fun _ => False) w).alloc _).grown hg (fun j hj hlt => by simp [Value.ownBlock] at hj; omega))
  clear hO hg HO0 HRv HLv HNil
  go_wp2_with fail
  go_loopw [9, 10] (fun v9 v18 wr => ∃ k : Nat, v18 = .int .i64 k ∧ k ≤ mc ∧ Own wr w.heap.size 3 v9 (iv (l ++ (c.take k).map ng)) ∧ Kp (fun _ => False) w wr) (fun _ v18 _ => mc - (intOf v18).toNat)
  case atStart => exact ⟨0, rfl, Nat.zero_le _, by simpa [iv] using HO.out, HK1.out⟩
  case round =>
    clear HO HK1
    obtain ⟨k, rfl, hk, hO, hK⟩ := hrel
    have HO := Lib.hid hO
    have HK := Lib.hid hK
    clear hO hK
    obtain ⟨wp, rfl⟩ : ∃ wp : World, wp = wr := ⟨_, rfl⟩
    obtain ⟨A, hA⟩ : ∃ A, l ++ (c.take k).map ng = A := ⟨_, rfl⟩
    have HA := Lib.hid hA
    rw [hA] at HO
    clear hA
    by_cases hlt : k < mc
    · have hkl : k < c.length := by rw [HLc.out]; exact hlt
      obtain ⟨b, off, rfl, hcell⟩ := (HRc.out.kp HK.out (fun _ _ h => h)) k _ (iv_at hkl)
      have HNt := Lib.hid (HNot.out _ (HC.out _ (gi_mem hkl)) wp)
      have HT := Lib.hid (show c.take (k + 1) = c.take k ++ [gi c k] by rw [List.take_succ_eq_append_getElem hkl]; unfold gi; rw [List.getElem?_eq_getElem hkl]; rfl)
      obtain ⟨x, hx⟩ : ∃ x, gi c k = x := ⟨_, rfl⟩
      rw [hx] at hcell HNt HT
      obtain ⟨y, hy⟩ : ∃ y, ng x = y := ⟨_, rfl⟩
      have HY := Lib.hid hy
      rw [hy] at HNt
      have i0 : (0 : Int) ≤ (k : Int) := by omega
      have i1 : (k : Int) < (mc : Int) := by omega
      have HLen := Lib.hid (show (iv A).length ≤ 800000 by rw [← HA.out, iv_length, List.length_append, List.length_map, List.length_take, HLl.out]; omega)
      have HNw := Lib.hid (Blk.new wp #[.int .i64 y] 3)
      have HOl := Lib.hid (HO.out.alloc (.cells #[.int .i64 y] 3))
      have HSz := Lib.hid HK.out.size
      clear hkl hx hy
      go_wp2_with (first
        | (go_at_call 40; refine HNt.out.mono ?_; rintro e w1 ⟨rfl, rfl⟩)
        | (at_builtin; refine wpList_append1 rfl _ _ 23 3 rfl Tryz.underlying23 HI.out rfl HOl.out rfl ⟨wp.heap.size, 0, none⟩ (.int .i64 y) rfl (HNw.out.cell rfl) rfl ?d1 ?d2 ?d3 ?_))
      case d1 => have := HLen.out; omega
      case d2 => have := HLen.out; unfold maxLen; omega
      case d3 => have := HSz.out; first | omega | (rw [World.size_alloc]; omega)
      intro v' w2 hO3 hg2
      have HO3 := Lib.hid (show Own w2 w.heap.size 3 v' (iv (l ++ (c.take (k + 1)).map ng)) by
        rw [HT.out, List.map_append, ← List.append_assoc, HA.out]
        show Own w2 w.heap.size _ _ (iv (A ++ [ng x]))
        rw [HY.out, show iv (A ++ [y]) = iv A ++ [.int .i64 y] by simp [iv]]
        exact hO3)
      have HK3 := Lib.hid (show Kp (fun _ => False) w w2 from (HK.out.alloc _).grown hg2 (fun j hj hl => by have := (HO.out.lt j hj).1; omega))
      clear hO3 hg2
      go_wp2_with fail
      go_roundw
      case rel => exact ⟨k + 1, by go_num, hlt, HO3.out, HK3.out⟩
      case measure => simp [intOf]; omega
    · have hk' : k = mc := by omega
      have hno : decide ((k : Int) < (mc : Int)) = false := by simp; omega
      have HOf := Lib.hid (show Own wp w.heap.size 3 u9 (iv LL) by have := HO.out; rw [← HA.out, hk', ← HLc.out, List.take_length, HLL.out] at this; exact this)
      obtain ⟨a9, c9, e9, h91, h92, -, hr9⟩ := HOf.out.form
      have hnil9 := fun q => own_nilc (e9 ▸ HOf.out) q
      rw [iv_length, HMW.out] at e9 h91
      subst e9
      have HCs := Lib.hid (HClose.out wp HK.out a9 c9 hr9 ⟨h91, h92, hnil9⟩)
      clear hr9 HO HOf h91 h92 hnil9
      go_wp2_with (go_at_call 41; refine HCs.out.mono ?_; rintro e w3 ⟨v, b, rfl, hb, hK3⟩; have HB := Lib.hid hb; have HK3 := Lib.hid hK3; clear hb hK3)
      go_ret
      refine ⟨_, rfl, ?_, HK.out.trans HK3.out (fun _ _ h => h)⟩
      rw [Bool.not_eq_true', HB.out, ← HLL.out]
      exact Iff.rfl

set_option maxRecDepth 100000 in
theorem ref29_Follows (an : Option Addr) (n cn : Nat) (N : List (Int × Int)) (al : Option Addr) (ml cl : Nat) (l : List Int) (ak : Option Addr) (mk ck : Nat) (K : List (List Int)) (ac : Option Addr) (mc cc : Nat) (c : List Int) (w : World)
    (hrn : RowAt w an (N.map pr2).flatten) (hnn : N.length = n) (hn : n ≤ 100000) (hN : GoodN N) (hrl : RowAt w al (iv l)) (hll : l.length = ml) (hol : SlOK al ml cl) (hml : ml ≤ 40000) (hl : KnC n l) (hK : Cls w ak mk K) (hmk : mk ≤ 100000) (hKn : ∀ c ∈ K, KnC n c) (hKl : ∀ c ∈ K, c.length ≤ 1000000)
    (hrc : RowAt w ac (iv c)) (hlc : c.length = mc) (hmc : mc ≤ 40000) (hc : KnC n c) :
    Calls Tryz.prog 10 #[.slice an n cn, .slice al ml cl, .slice ak mk ck, .slice ac mc cc] w fun e w' => ∃ b : Bool, e = .returned (.bool b) ∧ (b = true ↔ Fol N l K c) ∧ Kp (fun _ => False) w w' := by
  have HF := Lib.hid (ref27_Follows an n cn N al ml cl l ak mk ck K ac mc cc c w hrn hnn hn hN hrl hll hol hml hl hK hmk hKn hKl hrc hlc hmc hc)
  clear hrn hnn hN hrl hll hol hl hK hKn hKl hrc hlc hc
  go_enter Tryz.func10, Tryz.ntmps10
  go_wp2_with (go_at_call 22; refine HF.out.mono ?_; rintro e w3 ⟨b, rfl, hb, hK3⟩; have HB := Lib.hid hb; have HK3 := Lib.hid hK3; clear hb hK3)
  go_ret
  exact ⟨b, rfl, HB.out, HK3.out⟩

end Go.Proofs.YthconjhldjaldaaGreatDoor

/-
  How a net, clauses and lines that came in are opened.
-/
namespace Go.Proofs.YthconjhldjaldaaGreatDoor
open Go.RowKit Go.ChangeShapes Go.WideShapes Go.ChangeAt Go.Joins Go.Deep

/-- a row of ints among the cells of what came in -/
theorem ints_inB {H : Type} {enc : TypeId × Value → H} {W : World} {fuel : Nat} {v : Value} {x : DataW H × List MemPlace}
    (h : DataW.trod enc Tryz.prog W 0 (fun _ => true) true fuel 23 [v] = some x) : ∃ c : List Int, IntsSl W v c ∧ ∀ x ∈ c, okI x := by
  rcases open_ints Tryz.underlying23 Tryz.underlying3 (by kernel_rfl) h with ⟨hcs, _⟩ | ⟨a, len, cap, zs, hcs, _, hl, hm, hz, _, hcell, hwz⟩
  · simp at hcs
    subst hcs
    exact ⟨[], ⟨none, 0, rfl, Nat.le_refl _, by simp [maxLen], fun _ => rfl, RowAt.nil _ _⟩, fun x hx => by cases hx⟩
  · simp at hcs
    subst hcs
    simp only [if_true] at hz
    refine ⟨zs.take len, ⟨some a, cap, ?_, ?_, hm, (fun h => by cases h), ?_⟩, fun x hx => ?_⟩
    · rw [List.length_take, hz]; congr 1; omega
    · rw [List.length_take, hz]; omega
    · intro j u hu
      rw [List.getElem?_map, List.getElem?_take] at hu
      split at hu
      · rename_i hj
        have h0 := hcell 0 (by omega)
        have hs : a.spot = none := by
          have := World.cell?_spot h0
          simpa [Addr.add] using this
        obtain ⟨b, off, spot⟩ := a
        simp only at hs
        subst hs
        refine ⟨b, off, rfl, ?_⟩
        have hc := hcell j (by omega)
        rw [add_plain'] at hc
        rw [hc]
        rw [List.getElem?_eq_getElem (by omega)] at hu
        simp only [Option.map_some] at hu
        rw [← hu]
        simp [List.getD, List.getElem?_eq_getElem (show j < zs.length by omega)]
      · simp at hu
    · have := hwz x (List.mem_of_mem_take hx)
      simp [Lit.wf, IntKind.min, IntKind.max, IntKind.signed, IntKind.bits] at this
      unfold okI
      omega

/-- a net that came in -/
def NodesArg (W : World) (v : Value) : Prop := ∃ (N : List (Int × Int)) (a : Option Addr) (n cap : Nat), v = .slice a n cap ∧ N.length = n ∧ SlOK a n cap ∧ RowAt W a (N.map pr2).flatten

set_option maxRecDepth 100000 in
theorem open_nodesArg {H : Type} {enc : TypeId × Value → H} {W : World} {base : Nat} {v : Value} {d : DataW H} {ps : List MemPlace}
    (hv : Value.okWide Tryz.prog W .any base 22 v) (h : DataW.Trod enc Tryz.prog W 0 (fun _ => true) true 22 v d ps) : NodesArg W v := by
  obtain ⟨a0, len0, cap0, rfl⟩ := okWide_slice Tryz.underlying22 hv
  obtain ⟨fuel, hf⟩ := h
  rcases open_slice_pairs Tryz.underlying22 Tryz.underlying43 (by kernel_rfl) (by kernel_rfl) (by kernel_rfl) (by kernel_rfl) (by kernel_rfl) hf with ⟨hcs, _⟩ | ⟨a, len, cap, m, n, V0, V1, D0, D1, P0, P1, hcs, _, hl, hm, hmm, _, hx⟩
  · simp [Value.cells] at hcs
    obtain ⟨rfl, rfl, rfl⟩ := hcs
    exact ⟨[], none, 0, 0, rfl, rfl, ⟨Nat.le_refl _, by simp [maxLen], fun _ => rfl⟩, RowAt.nil _ _⟩
  · simp [Value.cells] at hcs
    obtain ⟨rfl, rfl, rfl⟩ := hcs
    simp only [if_true] at hmm
    subst hmm
    have hb : ∀ i, i < len0 → ∃ f, V0 i = .int .i64 f := by
      intro i hi
      obtain ⟨f, e, _⟩ := DataW.trod_int Tryz.underlying3 (hx i (by omega)).2.2.1
      simp at e
      exact ⟨f, e⟩
    have hi : ∀ i, i < len0 → ∃ f, V1 i = .int .i64 f := by
      intro i hi
      obtain ⟨f, e, _⟩ := DataW.trod_int Tryz.underlying3 (hx i (by omega)).2.2.2
      simp at e
      exact ⟨f, e⟩
    obtain ⟨F, hF⟩ := choose_lt hb
    obtain ⟨C, hC⟩ := choose_lt hi
    refine ⟨(List.range len0).map (fun i => (F i, C i)), some a, len0, m, rfl, by simp, ⟨hl, hm, fun h => by cases h⟩, ?_⟩
    intro j u hu
    have hlen : (((List.range len0).map (fun i => (F i, C i))).map pr2).flatten.length = len0 * 2 := by
      rw [flat_length (pr2_len _)]; simp
    have hj : j < len0 * 2 := by rw [← hlen]; exact (List.getElem?_eq_some_iff.1 hu).1
    have hr : (((List.range len0).map (fun i => (F i, C i))).map pr2)[j / 2]? = some [.int .i64 (F (j / 2)), .int .i64 (C (j / 2))] := by
      have : j / 2 < len0 := by omega
      simp [this, pr2]
    obtain ⟨q0, q1, _, _⟩ := hx (j / 2) (by omega)
    have hs : a.spot = none := by
      have := World.cell?_spot (hx 0 (by omega)).1
      simpa [Addr.add] using this
    obtain ⟨b, off, spot⟩ := a
    simp only at hs
    subst hs
    refine ⟨b, off, rfl, ?_⟩
    rw [add_plain'] at q0 q1
    by_cases hp : j % 2 = 0
    · have h0 := flat_at (pr2_len _) hr (i := 0) rfl
      rw [show j / 2 * 2 + 0 = j by omega, hu] at h0
      rw [show off + j = off + j / 2 * 2 by omega, q0, hF (j / 2) (by omega)]
      simpa using h0.symm
    · have h0 := flat_at (pr2_len _) hr (i := 1) rfl
      rw [show j / 2 * 2 + 1 = j by omega, hu] at h0
      rw [show off + j = off + (j / 2 * 2 + 1) by omega, q1, hC (j / 2) (by omega)]
      simpa using h0.symm

/-- clauses that came in -/
def ClsArg (W : World) (v : Value) : Prop := ∃ (K : List (List Int)) (a : Option Addr) (m cap : Nat), v = .slice a m cap ∧ SlOK a m cap ∧ Cls W a m K

set_option maxRecDepth 100000 in
theorem open_clsArg {H : Type} {enc : TypeId × Value → H} {W : World} {base : Nat} {v : Value} {d : DataW H} {ps : List MemPlace}
    (hv : Value.okWide Tryz.prog W .any base 24 v) (h : DataW.Trod enc Tryz.prog W 0 (fun _ => true) true 24 v d ps) : ClsArg W v := by
  obtain ⟨a0, len0, cap0, rfl⟩ := okWide_slice Tryz.underlying24 hv
  obtain ⟨fuel, hf⟩ := h
  rcases open_slice1 Tryz.underlying24 (by kernel_rfl) hf with ⟨hcs, _⟩ | ⟨a, len, cap, m, n, V, D, Pl, hcs, _, hl, hm, hmm, _, hx⟩
  · simp [Value.cells] at hcs
    obtain ⟨rfl, rfl, rfl⟩ := hcs
    exact ⟨[], none, 0, 0, rfl, ⟨Nat.le_refl _, by simp [maxLen], fun _ => rfl⟩, rfl, [], RowAt.nil _ _, rfl, fun k hk => absurd hk (Nat.not_lt_zero k)⟩
  · simp [Value.cells] at hcs
    obtain ⟨rfl, rfl, rfl⟩ := hcs
    simp only [if_true] at hmm
    subst hmm
    have hi : ∀ i, i < len0 → ∃ c, IntsSl W (V i) c ∧ ∀ x ∈ c, okI x := fun i hi => ints_inB (hx i (by omega)).2
    obtain ⟨C, hC⟩ := choose_lt hi
    have hk : ∀ k, k < len0 → kc ((List.range len0).map C) k = C k := fun k hk => by unfold kc; simp [hk]
    refine ⟨(List.range len0).map C, some a, len0, m, rfl, ⟨hl, hm, fun h => by cases h⟩, by simp, (List.range len0).map V, ?_, by simp, fun k hk2 => ?_⟩
    · intro j u hu
      rw [List.getElem?_map] at hu
      have hj : j < len0 := by
        rcases Nat.lt_or_ge j len0 with h | h
        · exact h
        · rw [List.getElem?_eq_none (by simpa using h)] at hu; cases hu
      rw [List.getElem?_range hj] at hu
      simp only [Option.map_some, Option.some.injEq] at hu
      have h0 := (hx 0 (by omega)).1
      have hs : a.spot = none := by
        have := World.cell?_spot h0
        simpa [Addr.add] using this
      obtain ⟨b, off, spot⟩ := a
      simp only at hs
      subst hs
      refine ⟨b, off, rfl, ?_⟩
      have hc := (hx j (by omega)).1
      rw [add_plain'] at hc
      rw [hc, hu]
    · obtain ⟨⟨b, c, e, _, _, _, r⟩, _⟩ := hC k hk2
      rw [hk k hk2]
      exact ⟨b, c, by rw [List.getElem?_map, List.getElem?_range hk2]; simp [e], r⟩

end Go.Proofs.YthconjhldjaldaaGreatDoor

/-
  How a slice of ints that came in is opened.
-/
namespace Go.Proofs.YthconjhldjaldaaGreatDoor
open Go.RowKit Go.ChangeShapes Go.WideShapes Go.ChangeAt

set_option maxRecDepth 100000 in
theorem open_intsArg {H : Type} {enc : TypeId × Value → H} {W : World} {base : Nat} {v : Value} {d : DataW H} {ps : List MemPlace}
    (hv : Value.okWide Tryz.prog W .any base 23 v) (h : DataW.Trod enc Tryz.prog W 0 (fun _ => true) true 23 v d ps) : IntsArg W v := by
  obtain ⟨a0, len0, cap0, rfl⟩ := okWide_slice Tryz.underlying23 hv
  obtain ⟨fuel, hf⟩ := h
  rcases open_ints Tryz.underlying23 Tryz.underlying3 (by kernel_rfl) hf with ⟨hcs, _⟩ | ⟨a, len, cap, zs, hcs, _, hl, hm, hz, _, hcell, hwz⟩
  · simp [Value.cells] at hcs
    obtain ⟨rfl, rfl, rfl⟩ := hcs
    exact ⟨none, 0, 0, [], rfl, rfl, by omega, by simp [maxLen], fun _ => rfl, RowAt.nil _ _, fun x hx => by cases hx⟩
  · simp [Value.cells] at hcs
    obtain ⟨rfl, rfl, rfl⟩ := hcs
    simp only [if_true] at hz
    refine ⟨some a, len0, cap0, zs.take len0, rfl, by simp; omega, hl, hm, (fun h => by cases h), ?_, fun x hx => ?_⟩
    · intro j u hu
      rw [List.getElem?_map, List.getElem?_take] at hu
      split at hu
      · rename_i hj
        have h0 := hcell 0 (by omega)
        have hs : a.spot = none := by
          have := World.cell?_spot h0
          simpa [Addr.add] using this
        obtain ⟨b, off, spot⟩ := a
        simp only at hs
        subst hs
        refine ⟨b, off, rfl, ?_⟩
        have hc := hcell j (by omega)
        rw [add_plain'] at hc
        rw [hc]
        rw [List.getElem?_eq_getElem (by omega)] at hu
        simp only [Option.map_some] at hu
        rw [← hu]
        simp [List.getD, List.getElem?_eq_getElem (show j < zs.length by omega)]
      · simp at hu
    · have := hwz x (List.mem_of_mem_take hx)
      simp [Lit.wf, IntKind.min, IntKind.max, IntKind.signed, IntKind.bits] at this
      omega

end Go.Proofs.YthconjhldjaldaaGreatDoor

/-
  How a slice of bools that came in is opened.
-/
namespace Go.Proofs.YthconjhldjaldaaGreatDoor
open Go.RowKit Go.ChangeShapes Go.WideShapes Go.ChangeAt Go.Deep

/-- a slice of bools that came in -/
def BoolsArg (w : World) (v : Value) : Prop :=
  ∃ (a : Option Addr) (len cap : Nat) (l : List Bool), v = .slice a len cap ∧ l.length = len ∧ len ≤ cap ∧ cap ≤ maxLen ∧ (a = none → cap = 0) ∧ RowAt w a (l.map Value.bool)

set_option maxRecDepth 100000 in
theorem open_boolsArg {H : Type} {enc : TypeId × Value → H} {W : World} {base : Nat} {v : Value} {d : DataW H} {ps : List MemPlace}
    (hv : Value.okWide Tryz.prog W .any base 25 v) (h : DataW.Trod enc Tryz.prog W 0 (fun _ => true) true 25 v d ps) : BoolsArg W v := by
  obtain ⟨a0, len0, cap0, rfl⟩ := okWide_slice Tryz.underlying25 hv
  obtain ⟨fuel, hf⟩ := h
  rcases open_bools Tryz.underlying25 Tryz.underlying4 (by kernel_rfl) hf with ⟨hcs, _⟩ | ⟨a, len, cap, B, hcs, _, hl, hm, _, hcell⟩
  · simp [Value.cells] at hcs
    obtain ⟨rfl, rfl, rfl⟩ := hcs
    exact ⟨none, 0, 0, [], rfl, rfl, by omega, by simp [maxLen], fun _ => rfl, RowAt.nil _ _⟩
  · simp [Value.cells] at hcs
    obtain ⟨rfl, rfl, rfl⟩ := hcs
    refine ⟨some a, len0, cap0, (List.range len0).map B, rfl, by simp, hl, hm, (fun h => by cases h), ?_⟩
    intro j u hu
    rw [List.getElem?_map, List.getElem?_map] at hu
    have hj : j < len0 := by
      rcases Nat.lt_or_ge j len0 with h | h
      · exact h
      · rw [List.getElem?_eq_none (by simpa using h)] at hu; cases hu
    rw [List.getElem?_range hj] at hu
    simp only [Option.map_some, Option.some.injEq] at hu
    have h0 := hcell 0 (by omega)
    have hs : a.spot = none := by
      have := World.cell?_spot h0
      simpa [Addr.add] using this
    obtain ⟨b, off, spot⟩ := a
    simp only at hs
    subst hs
    refine ⟨b, off, rfl, ?_⟩
    have hc := hcell j (by omega)
    rw [add_plain'] at hc
    rw [hc, hu]

end Go.Proofs.YthconjhldjaldaaGreatDoor

/-
  latchetlaw29.RupFollows.
-/
namespace Go.Proofs.YthconjhldjaldaaGreatDoor
open Go.RowKit

/-- truths as numbers -/
def bnum (l : List Bool) : List Int := l.map fun b => if b = true then 1 else 0
theorem bnum_len (l : List Bool) : (bnum l).length = l.length := List.length_map ..
theorem bnum_at {l : List Bool} {k : Nat} (h : k < l.length) : gi (bnum l) k = if vb l k = true then 1 else 0 := by
  unfold gi bnum vb
  rw [List.getElem?_map, List.getElem?_eq_getElem h]; rfl
theorem bnum_take {l : List Bool} {k : Nat} (h : k < l.length) : bnum (l.take (k + 1)) = bnum (l.take k) ++ [if vb l k = true then 1 else 0] := by
  rw [List.take_succ_eq_append_getElem h]
  unfold bnum vb
  rw [List.map_append, List.getElem?_eq_getElem h]; rfl
theorem bnum_tv {N : List (Int × Int)} {ins : List Bool} {n : Nat} (h : N.length = n) : TV n (bnum (valsOf N ins)) := by
  subst h
  have hl := valsOf_len N ins
  refine ⟨by rw [bnum_len, hl], ?_, fun k hk => ?_⟩
  · rw [bnum_at (by omega), valsOf_zero]; rfl
  · rw [bnum_at (by omega)]
    split
    · exact .inr (.inl rfl)
    · exact .inl rfl
theorem bnum_lit {N : List (Int × Int)} {ins : List Bool} {x : Int} (hx : KnL N.length x) : vlit (bnum (valsOf N ins)) x = 1 ↔ litN (valsOf N ins) x = true := by
  have hl := valsOf_len N ins
  have hv := hx.var
  unfold vlit litN
  rw [bnum_at (by omega)]
  by_cases e : x % 2 = 1
  · rw [if_pos e, decide_eq_true e]
    cases vb (valsOf N ins) (x / 2).toNat <;> simp [flp]
  · rw [if_neg e, decide_eq_false e]
    cases vb (valsOf N ins) (x / 2).toNat <;> simp
theorem bnum_cl {N : List (Int × Int)} {ins : List Bool} {c : List Int} (hc : KnC N.length c) : clv (bnum (valsOf N ins)) c = 1 ↔ mcl (valsOf N ins) c := by
  rw [clv_one_iff]
  constructor
  · rintro ⟨x, hx, h⟩; exact ⟨x, hx, (bnum_lit (hc x hx)).1 h⟩
  · rintro ⟨x, hx, h⟩; exact ⟨x, hx, (bnum_lit (hc x hx)).2 h⟩

set_option maxRecDepth 100000 in
set_option maxHeartbeats 8000000 in
theorem rupFollows_walk (w : World) (v0 : Value) (h0 : NodesArg w v0) (v1 : Value) (h1 : IntsArg w v1) (v2 : Value) (h2 : ClsArg w v2) (v3 : Value) (h3 : IntsArg w v3) (v4 : Value) (h4 : BoolsArg w v4) (ht : Tab w) :
    Calls Tryz.prog 3 #[v0, v1, v2, v3, v4] w fun e w' => e = .returned (.bool true) ∧ Below w.heap.size w w' := by
  obtain ⟨N, an, n, cn, rfl, hnn, hon, hrn⟩ := h0
  obtain ⟨al, ml, cl, l, rfl, hll, hl1, hl2, hl3, hrl, -⟩ := h1
  obtain ⟨K, ak, mk, ck, rfl, hok, hK⟩ := h2
  obtain ⟨ac, mc, cc, c, rfl, hlc, hc1, hc2, hc3, hrc, -⟩ := h3
  obtain ⟨ai, mi, ci, ins, rfl, hli, hi1, hi2, hi3, hri⟩ := h4
  have hol : SlOK al ml cl := ⟨hl1, hl2, hl3⟩
  have hmaxl : maxLen ≤ 9223372036854775807 := by unfold maxLen; omega
  have HLv := Lib.hid (fun u (hu : Kp (fun _ => False) w u) => rup_lives u (ht.kp hu))
  have HLv0 := Lib.hid (rup_lives w ht)
  have hmk9 : mk ≤ 9223372036854775807 := by have h7 := hok.le; have h8 := hok.most; omega
  obtain ⟨bs, hbs⟩ : ∃ b : Bool, b = true ↔ (n : Int) ≤ 30 ∧ GoodN N := by
    by_cases h : (n : Int) ≤ 30 ∧ GoodN N
    · exact ⟨true, fun _ => h, fun _ => rfl⟩
    · exact ⟨false, fun q => (by cases q), fun q => absurd q h⟩
  have HSm := Lib.hid ((law07_Small an n cn N 30 w hrn hnn (by omega)).mono (R' := fun e w' => e = .returned (.bool bs) ∧ w = w') (by
    rintro e w' ⟨b, rfl, hb, h⟩
    have : b = bs := by rw [Bool.eq_iff_iff, hb, hbs]
    rw [this]; exact ⟨rfl, h⟩))
  cases bs with
  | false =>
    clear hrn hrl hK hrc hri hnn hon hll hok hlc hli hol hbs
    go_enter Tryz.func3, Tryz.ntmps3
    go_wp2_with (first
      | (go_at_call 5; refine HSm.out.mono ?_; rintro e w' ⟨rfl, rfl⟩)
      | (go_at_call 8; refine HLv0.out.mono ?_; rintro e w9 ⟨rfl, hK9⟩; have HK9 := Lib.hid hK9; clear hK9))
    go_ret
    exact ⟨rfl, HK9.out.below (Nat.le_refl _) (fun _ _ h => h)⟩
  | true =>
  obtain ⟨hn30, hN⟩ := hbs.1 rfl
  clear hbs
  by_cases hml : ml ≤ 20
  case neg =>
    have dml : decide (20 < (ml : Int)) = true := by simp; omega
    clear hrn hrl hK hrc hri hnn hon hll hok hlc hli hol
    go_enter Tryz.func3, Tryz.ntmps3
    go_wp2_with (first
      | (go_at_call 5; refine HSm.out.mono ?_; rintro e w' ⟨rfl, rfl⟩)
      | (go_at_call 8; refine HLv0.out.mono ?_; rintro e w9 ⟨rfl, hK9⟩; have HK9 := Lib.hid hK9; clear hK9))
    go_ret
    exact ⟨rfl, HK9.out.below (Nat.le_refl _) (fun _ _ h => h)⟩
  have dml : decide (20 < (ml : Int)) = false := by simp; omega
  have HKl := Lib.hid (ref22_Known an n cn al ml cl l w (by omega) hrl hll (by omega))
  have HKc := Lib.hid (ref22_Known an n cn ac mc cc c w (by omega) hrc hlc (by omega))
  obtain ⟨bl, hbl⟩ : ∃ b, knB n l = b := ⟨_, rfl⟩
  obtain ⟨bc, hbc⟩ : ∃ b, knB n c = b := ⟨_, rfl⟩
  rw [hbl] at HKl
  rw [hbc] at HKc
  cases bl with
  | false =>
    clear hrn hrl hK hrc hri hnn hon hll hok hlc hli hol hbl hbc HKc
    go_enter Tryz.func3, Tryz.ntmps3
    go_wp2_with (first
      | (go_at_call 5; refine HSm.out.mono ?_; rintro e w' ⟨rfl, rfl⟩)
      | (go_at_call 6; refine HKl.out.mono ?_; rintro e w' ⟨rfl, rfl⟩; clear HKl)
      | (go_at_call 8; refine HLv0.out.mono ?_; rintro e w9 ⟨rfl, hK9⟩; have HK9 := Lib.hid hK9; clear hK9))
    go_ret
    exact ⟨rfl, HK9.out.below (Nat.le_refl _) (fun _ _ h => h)⟩
  | true =>
  cases bc with
  | false =>
    clear hrn hrl hK hrc hri hnn hon hll hok hlc hli hol hbl hbc
    go_enter Tryz.func3, Tryz.ntmps3
    go_wp2_with (first
      | (go_at_call 5; refine HSm.out.mono ?_; rintro e w' ⟨rfl, rfl⟩)
      | (go_at_call 6; refine HKl.out.mono ?_; rintro e w' ⟨rfl, rfl⟩; clear HKl)
      | (go_at_call 6; refine HKc.out.mono ?_; rintro e w' ⟨rfl, rfl⟩; clear HKc)
      | (go_at_call 8; refine HLv0.out.mono ?_; rintro e w9 ⟨rfl, hK9⟩; have HK9 := Lib.hid hK9; clear hK9))
    go_ret
    exact ⟨rfl, HK9.out.below (Nat.le_refl _) (fun _ _ h => h)⟩
  | true =>
  have hkl := knB_iff.1 hbl
  have hkc := knB_iff.1 hbc
  clear hbl hbc
  by_cases hmc : mc ≤ 20
  case neg =>
    have dmc : decide (20 < (mc : Int)) = true := by simp; omega
    clear hrn hrl hK hrc hri hnn hon hll hok hlc hli hol hkl hkc
    go_enter Tryz.func3, Tryz.ntmps3
    go_wp2_with (first
      | (go_at_call 5; refine HSm.out.mono ?_; rintro e w' ⟨rfl, rfl⟩)
      | (go_at_call 6; refine HKl.out.mono ?_; rintro e w' ⟨rfl, rfl⟩; clear HKl)
      | (go_at_call 6; refine HKc.out.mono ?_; rintro e w' ⟨rfl, rfl⟩; clear HKc)
      | (go_at_call 8; refine HLv0.out.mono ?_; rintro e w9 ⟨rfl, hK9⟩; have HK9 := Lib.hid hK9; clear hK9))
    go_ret
    exact ⟨rfl, HK9.out.below (Nat.le_refl _) (fun _ _ h => h)⟩
  have dmc : decide (20 < (mc : Int)) = false := by simp; omega
  obtain ⟨bf, hbf⟩ : ∃ b : Bool, b = true ↔ FewK mk 20 K := by
    by_cases h : FewK mk 20 K
    · exact ⟨true, fun _ => h, fun _ => rfl⟩
    · exact ⟨false, fun q => (by cases q), fun q => absurd q h⟩
  have HFw := Lib.hid ((law22_Few ak mk ck K 20 w hK hmk9).mono (R' := fun e w' => e = .returned (.bool bf) ∧ w = w') (by
    rintro e w' ⟨⟨b, rfl, hb⟩, h⟩
    have : b = bf := by rw [Bool.eq_iff_iff, hb, hbf]
    rw [this]; exact ⟨rfl, h⟩))
  cases bf with
  | false =>
    clear hrn hrl hK hrc hri hnn hon hll hok hlc hli hol hbf hkl hkc
    go_enter Tryz.func3, Tryz.ntmps3
    go_wp2_with (first
      | (go_at_call 5; refine HSm.out.mono ?_; rintro e w' ⟨rfl, rfl⟩)
      | (go_at_call 6; refine HKl.out.mono ?_; rintro e w' ⟨rfl, rfl⟩; clear HKl)
      | (go_at_call 6; refine HKc.out.mono ?_; rintro e w' ⟨rfl, rfl⟩; clear HKc)
      | (go_at_call 7; refine HFw.out.mono ?_; rintro e w' ⟨rfl, rfl⟩)
      | (go_at_call 8; refine HLv0.out.mono ?_; rintro e w9 ⟨rfl, hK9⟩; have HK9 := Lib.hid hK9; clear hK9))
    go_ret
    exact ⟨rfl, HK9.out.below (Nat.le_refl _) (fun _ _ h => h)⟩
  | true =>
  obtain ⟨hmk, hkl20⟩ := hbf.1 rfl
  clear hbf

  obtain ⟨fb, hfb⟩ : ∃ b : Bool, b = true ↔ Fol N l K c := by
    by_cases h : Fol N l K c
    · exact ⟨true, fun _ => h, fun _ => rfl⟩
    · exact ⟨false, fun q => (by cases q), fun q => absurd q h⟩
  have HFb := Lib.hid hfb
  have HF1 := Lib.hid (fun (hKn : ∀ c ∈ K, KnC n c) => (rup_Follows an n cn N al ml cl l ak mk ck K ac mc cc c w hrn hnn hon (by omega) hN hrl hll hol (by omega) hkl hK (by omega) hKn (fun c hc => by have := hkl20 c hc; omega) hrc hlc (by omega) hkc).mono (R' := fun e w' => e = .returned (.bool fb) ∧ Kp (fun _ => False) w w') (by
    rintro e w' ⟨b, rfl, hb, h⟩
    have : b = fb := by rw [Bool.eq_iff_iff, hb, hfb]
    rw [this]; exact ⟨rfl, h⟩))
  have HF2 := Lib.hid (fun (hKn : ∀ c ∈ K, KnC n c) (u : World) (hu : Kp (fun _ => False) w u) => (ref29_Follows an n cn N al ml cl l ak mk ck K ac mc cc c u (hrn.kp hu (fun _ _ h => h)) hnn (by omega) hN (hrl.kp hu (fun _ _ h => h)) hll hol (by omega) hkl (hK.kp hu) (by omega) hKn (fun c hc => by have := hkl20 c hc; omega) (hrc.kp hu (fun _ _ h => h)) hlc (by omega) hkc).mono (R' := fun e w' => e = .returned (.bool fb) ∧ Kp (fun _ => False) u w') (by
    rintro e w' ⟨b, rfl, hb, h⟩
    have : b = fb := by rw [Bool.eq_iff_iff, hb, hfb]
    rw [this]; exact ⟨rfl, h⟩))
  have HVs := Lib.hid (fun (u : World) (hu : Kp (fun _ => False) w u) => ref07_Values an n cn N ai mi ci ins u (hrn.kp hu (fun _ _ h => h)) hnn (by omega) hN (hri.kp hu (fun _ _ h => h)) hli (by omega))
  have HSo := Lib.hid (fun (h : Fol N l K c) (hKn : ∀ c ∈ K, KnC n c) (h1 : ∀ x ∈ l, litN (valsOf N ins) x = true) (h2 : ∀ d ∈ K, clv (bnum (valsOf N ins)) d = 1) => show clv (bnum (valsOf N ins)) c = 1 from by
    subst hnn
    exact (bnum_cl hkc).2 (h.so hN hkl hKn hkc h1 (fun d hd => (bnum_cl (hKn d hd)).1 (h2 d hd))))
  have HTV := Lib.hid (bnum_tv (ins := ins) hnn)
  have HVl := Lib.hid (show (valsOf N ins).length = n + 1 by rw [valsOf_len, hnn])
  obtain ⟨M, hM⟩ : ∃ M, valsOf N ins = M := ⟨_, rfl⟩
  rw [hM] at HSo HTV HVl
  simp only [hM] at HVs
  have HKn1 := Lib.hid (fun i (hi : i < mk) => show ∃ b off d cc, ak = some ⟨b, off, none⟩ ∧ w.cell? ⟨b, off + i, none⟩ = some (.slice d (kc K i).length cc) ∧ Calls Tryz.prog 6 #[.slice an n cn, .slice d (kc K i).length cc] w (fun e w' => e = .returned (.bool (knB n (kc K i))) ∧ w = w') from by
    obtain ⟨b, off, d, cc, e, hc, hr⟩ := hK.at hi
    exact ⟨b, off, d, cc, e, hc, ref22_Known an n cn d _ cc (kc K i) w (by omega) hr rfl (by have := hkl20 _ (kc_mem (by rw [hK.len]; exact hi)); omega)⟩)
  have HCV := Lib.hid (fun (u : World) (hu : Kp (fun _ => False) w u) i (hi : i < mk) (hkn : KnC n (kc K i)) (av : Option Addr) (cv : Nat) (hrv : RowAt u av (iv (bnum M))) => show ∃ b off d cc, ak = some ⟨b, off, none⟩ ∧ u.cell? ⟨b, off + i, none⟩ = some (.slice d (kc K i).length cc) ∧ Calls Tryz.prog 12 #[.slice av (n + 1) cv, .slice d (kc K i).length cc] u (fun e w' => e = .returned (.int .i64 (clv (bnum M) (kc K i))) ∧ u = w') from by
    obtain ⟨b, off, d, cc, e, hc, hr⟩ := (hK.kp hu).at hi
    exact ⟨b, off, d, cc, e, hc, ref20_Value av (n + 1) cv (bnum M) n d _ cc (kc K i) u hrv HTV.out rfl (by omega) hr rfl (by have := hkl20 _ (kc_mem (by rw [hK.len]; exact hi)); omega) hkn⟩)
  have HCc := Lib.hid (fun (u : World) (hu : Kp (fun _ => False) w u) (av : Option Addr) (cv : Nat) (hrv : RowAt u av (iv (bnum M))) => ref20_Value av (n + 1) cv (bnum M) n ac mc cc c u hrv HTV.out rfl (by omega) (hrc.kp hu (fun _ _ h => h)) hlc (by omega) hkc)
  have HAl := Lib.hid (fun (u : World) (hu : Kp (fun _ => False) w u) (av : Option Addr) (cv : Nat) (hrv : RowAt u av (bv M)) => ref27_All av (n + 1) cv M al ml cl l u hrv HVl.out (by omega) (hrl.kp hu (fun _ _ h => h)) hll (by omega) (fun x hx => ⟨(hkl x hx).1, by have := (hkl x hx).2; have := (hkl x hx).1; omega⟩))
  have HKlen := Lib.hid hK.len
  have HI := Lib.hid (show (Tryz.prog.info? 3).map (fun i => (i.zero, i.size, i.bytes)) = some (some (.int .i64 0), 1, 8) by kernel_rfl)
  clear hrn hrl hK hrc hri hnn hon hll hok hlc hli hol hN hkl hkc hkl20 hfb hM
  go_enter Tryz.func3, Tryz.ntmps3
  go_upto_region 3 with (first
    | (go_at_call 5; refine HSm.out.mono ?_; rintro e w' ⟨rfl, rfl⟩)
    | (go_at_call 6; refine HKl.out.mono ?_; rintro e w' ⟨rfl, rfl⟩; clear HKl)
    | (go_at_call 6; refine HKc.out.mono ?_; rintro e w' ⟨rfl, rfl⟩; clear HKc)
    | (go_at_call 7; refine HFw.out.mono ?_; rintro e w' ⟨rfl, rfl⟩))
  go_wp2_with fail
  go_loop [11] (fun v11 => ∃ i : Nat, v11 = .int .i64 (i : Int) ∧ i ≤ mk ∧ ∀ j, j < i → KnC n (kc K j)) (fun v11 => mk - (intOf v11).toNat)
  case atStart => exact ⟨0, rfl, Nat.zero_le _, fun j hj => absurd hj (Nat.not_lt_zero j)⟩
  case round =>
    obtain ⟨i, rfl, hi, hG⟩ := hrel
    have HG := Lib.hid hG
    clear hG
    by_cases hlt : i < mk
    · obtain ⟨b, off, dd, c9, rfl, hcell, hkn⟩ := HKn1.out i hlt
      have HKi := Lib.hid hkn
      obtain ⟨y, hy⟩ : ∃ y, (kc K i).length = y := ⟨_, rfl⟩
      rw [hy] at hcell HKi
      obtain ⟨z, hz⟩ : ∃ z, knB n (kc K i) = z := ⟨_, rfl⟩
      rw [hz] at HKi
      have HZ := Lib.hid hz
      have i0 : (0 : Int) ≤ (i : Int) := by omega
      have i1 : (i : Int) < (mk : Int) := by omega
      clear hkn hy hz
      cases z with
      | false =>
        go_wp2_with (first
          | (go_at_call 6; refine HKi.out.mono ?_; rintro e w' ⟨rfl, rfl⟩)
          | (go_at_call 8; refine HLv0.out.mono ?_; rintro e w9 ⟨rfl, hK9⟩; have HK9 := Lib.hid hK9; clear hK9))
        go_ret
        exact ⟨rfl, HK9.out.below (Nat.le_refl _) (fun _ _ h => h)⟩
      | true =>
        go_wp2_with (go_at_call 6; refine HKi.out.mono ?_; rintro e w' ⟨rfl, rfl⟩)
        go_round
        case rel => exact ⟨i + 1, by go_num, hlt, fun j hj => by
          by_cases e : j = i
          · rw [e]; exact knB_iff.1 HZ.out
          · exact HG.out j (by omega)⟩
        case measure => simp [intOf]; omega
    · have hi' : i = mk := by omega
      have hno : decide ((i : Int) < (mk : Int)) = false := by simp; omega
      have HKn : Hid (∀ c ∈ K, KnC n c) := Lib.hid (fun c hc => by
        obtain ⟨j, hj, rfl⟩ := mem_kc hc
        exact HG.out j (by rw [HKlen.out] at hj; omega))
      have HF1k := Lib.hid (HF1.out HKn.out)
      have HF2k := Lib.hid (HF2.out HKn.out)
      have hbb : (fb != fb) = false := by simp
      clear HF1 HF2 HKn1 HG hi'
      go_upto_region 11 with (first
        | (go_at_call 9; refine HF1k.out.mono ?_; rintro e w1 ⟨rfl, hK1⟩; have HK1 := Lib.hid hK1; have HF2w := Lib.hid (HF2k.out w1 hK1); clear hK1 HF2k)
        | (go_at_call 10; refine HF2w.out.mono ?_; rintro e w2 ⟨rfl, hK2⟩; have HK2 := Lib.hid (HK1.out.trans hK2 (fun _ _ h => h)); clear hK2))
      have HKa := Lib.hid (HK2.out.alloc (.cells #[] 3))
      have HO0 := Lib.hid (show Own (w2.alloc (.cells #[] 3)) w2.heap.size 3 (.slice (some ⟨w2.heap.size, 0, none⟩) 0 0) (iv (bnum (M.take 0))) from Own.lit (cs := []) (Blk.new w2 #[] 3) (Nat.le_refl _) (Nat.zero_le _))
      have HV2 := Lib.hid (HVs.out _ HKa.out)
      have HSz2 := Lib.hid HK2.out.size
      clear HVs HF1k hbb
      go_upto_region 12 with (go_at_call 11; refine HV2.out.mono ?_; rintro e w3 ⟨v14, rfl, hO3, hK3⟩; obtain ⟨a14, c14, e14, -, -, hb14, hr14⟩ := hO3.form; rw [bv_length, HVl.out] at e14; subst e14; have HM3 := Lib.hid hr14; have HB14 := Lib.hid (fun p (hp : a14 = some p) => show p.block ≠ w2.heap.size from (by obtain ⟨g, rfl, h1, -⟩ := hb14 p hp; rw [World.size_alloc] at h1; intro e; simp only at e; omega)); have HK3 := Lib.hid hK3; have HO3 := Lib.hid (HO0.out.kp hK3 (fun _ _ h => h)); clear hO3 hr14 hK3 hb14)
      have HKw := Lib.hid (HKa.out.trans HK3.out (fun _ _ h => h))
      obtain ⟨n1, hn1⟩ : ∃ n1, n + 1 = n1 := ⟨_, rfl⟩
      rw [hn1] at HVl
      simp only [hn1] at HCV HCc HAl
      rw [hn1]
      have hn9 : n1 ≤ 31 := by omega
      have HSz3 := Lib.hid (show w2.heap.size ≤ w3.heap.size by have := HK3.out.size; rw [World.size_alloc] at this; omega)
      clear HK3 HKa HO0
      go_wp2_with fail
      go_loopw [13, 15] (fun v13 v15 wr => ∃ k : Nat, v15 = .int .i64 (k : Int) ∧ k ≤ n1 ∧ Own wr w2.heap.size 3 v13 (iv (bnum (M.take k))) ∧ Kp (fun j => j = w2.heap.size) w3 wr ∧ ∀ j, v13.ownBlock = some j → j = w2.heap.size ∨ w3.heap.size ≤ j) (fun _ v15 _ => n1 - (intOf v15).toNat)
      case atStart => exact ⟨0, rfl, Nat.zero_le _, HO3.out, Kp.refl _ _, fun j hj => by simp [Value.ownBlock] at hj; exact .inl hj.symm⟩
      case round =>
        clear HO3
        obtain ⟨k, rfl, hk, hO, hK, hw⟩ := hrel
        have HO := Lib.hid hO
        have HWh := Lib.hid hw
        have HK := Lib.hid hK
        clear hO hK hw
        obtain ⟨wp, rfl⟩ : ∃ wp : World, wp = wr := ⟨_, rfl⟩
        by_cases hlt2 : k < n1
        · have hkm : k < M.length := by rw [HVl.out]; exact hlt2
          obtain ⟨bm, om, rfl, hcm⟩ := (HM3.out.kp HK.out (fun p hp e => HB14.out p hp e)) k _ (bv_at hkm)
          have HT := Lib.hid (bnum_take hkm)
          obtain ⟨x, hx⟩ : ∃ x, vb M k = x := ⟨_, rfl⟩
          rw [hx] at hcm HT
          have HLen := Lib.hid (show (iv (bnum (M.take k))).length ≤ 31 by rw [iv_length, bnum_len, List.length_take]; omega)
          have HSz := Lib.hid (show w2.heap.size ≤ wp.heap.size by have := HK.out.size; have := HSz3.out; omega)
          have k0 : (0 : Int) ≤ (k : Int) := by omega
          have k1 : (k : Int) < (n1 : Int) := by omega
          clear hx hkm
          cases x with
          | true =>
            have HNw := Lib.hid (Blk.new wp #[.int .i64 1] 3)
            have HOl := Lib.hid (HO.out.alloc (.cells #[.int .i64 1] 3))
            go_wp2_with (at_builtin; refine wpList_append1_at rfl _ _ 23 3 rfl Tryz.underlying23 HI.out rfl HOl.out rfl ⟨wp.heap.size, 0, none⟩ (.int .i64 1) rfl (HNw.out.cell rfl) rfl ?d1 ?d2 ?d3 ?_)
            case d1 => have := HLen.out; omega
            case d2 => have := HLen.out; unfold maxLen; omega
            case d3 => have := HSz.out; first | omega | (rw [World.size_alloc]; omega)
            intro v' w5 hO5 hg5 hat5
            have HO5 := Lib.hid (show Own w5 w2.heap.size 3 v' (iv (bnum (M.take (k + 1)))) by
              rw [HT.out]
              simpa [iv] using hO5)
            have HK5 := Lib.hid (show Kp (fun j => j = w2.heap.size) w3 w5 from (HK.out.alloc _).grown hg5 (fun j hj hl => by rcases HWh.out j hj with e | e; exact e; omega))
            have HW5 := Lib.hid (show ∀ j, v'.ownBlock = some j → j = w2.heap.size ∨ w3.heap.size ≤ j from fun j hj => by
              rcases hat5 with e | e
              · rw [e] at hj; exact HWh.out j hj
              · rw [e] at hj; simp at hj; have := HK.out.size; omega)
            clear hO5 hg5 hat5
            go_wp2_with fail
            go_roundw
            case rel => exact ⟨k + 1, by go_num, hlt2, HO5.out, HK5.out, HW5.out⟩
            case measure => simp [intOf]; omega
          | false =>
            have HNw := Lib.hid (Blk.new wp #[.int .i64 0] 3)
            have HOl := Lib.hid (HO.out.alloc (.cells #[.int .i64 0] 3))
            go_wp2_with (at_builtin; refine wpList_append1_at rfl _ _ 23 3 rfl Tryz.underlying23 HI.out rfl HOl.out rfl ⟨wp.heap.size, 0, none⟩ (.int .i64 0) rfl (HNw.out.cell rfl) rfl ?d1 ?d2 ?d3 ?_)
            case d1 => have := HLen.out; omega
            case d2 => have := HLen.out; unfold maxLen; omega
            case d3 => have := HSz.out; first | omega | (rw [World.size_alloc]; omega)
            intro v' w5 hO5 hg5 hat5
            have HO5 := Lib.hid (show Own w5 w2.heap.size 3 v' (iv (bnum (M.take (k + 1)))) by
              rw [HT.out]
              simpa [iv] using hO5)
            have HK5 := Lib.hid (show Kp (fun j => j = w2.heap.size) w3 w5 from (HK.out.alloc _).grown hg5 (fun j hj hl => by rcases HWh.out j hj with e | e; exact e; omega))
            have HW5 := Lib.hid (show ∀ j, v'.ownBlock = some j → j = w2.heap.size ∨ w3.heap.size ≤ j from fun j hj => by
              rcases hat5 with e | e
              · rw [e] at hj; exact HWh.out j hj
              · rw [e] at hj; simp at hj; have := HK.out.size; omega)
            clear hO5 hg5 hat5
            go_wp2_with fail
            go_roundw
            case rel => exact ⟨k + 1, by go_num, hlt2, HO5.out, HK5.out, HW5.out⟩
            case measure => simp [intOf]; omega
        · have hk' : k = n1 := by omega
          have hno2 : decide ((k : Int) < (n1 : Int)) = false := by simp; omega
          have HOf : Hid (Own wp w2.heap.size 3 u13 (iv (bnum M))) := Lib.hid (by have := HO.out; rw [hk', ← HVl.out, List.take_length] at this; exact this)
          obtain ⟨a13, c13, e13, -, -, -, hr13⟩ := HOf.out.form
          rw [iv_length, bnum_len, HVl.out] at e13
          subst e13
          have HKp := Lib.hid (HKw.out.trans HK.out (fun j hj e => by have := HSz2.out; omega))
          have HR13 := Lib.hid hr13
          have HMp := Lib.hid (HM3.out.kp HK.out (fun p hp e => HB14.out p hp e))
          have HLp := Lib.hid (HLv.out wp HKp.out)
          have HCi := Lib.hid (fun i hi hkn => HCV.out wp HKp.out i hi hkn a13 c13 HR13.out)
          have HCp := Lib.hid (HCc.out wp HKp.out a13 c13 HR13.out)
          have HAp := Lib.hid (HAl.out wp HKp.out a14 c14 HMp.out)
          clear HO HOf hr13 HCV HCc HAl HLv HLv0 hlt hk'
          go_wp2_with fail
          go_loop [16] (fun v16 => ∃ i : Nat, v16 = .int .i64 (i : Int) ∧ i ≤ mk ∧ ∀ j, j < i → clv (bnum M) (kc K j) = 1) (fun v16 => mk - (intOf v16).toNat)
          case atStart => exact ⟨0, rfl, Nat.zero_le _, fun j hj => absurd hj (Nat.not_lt_zero j)⟩
          case round =>
            obtain ⟨q, rfl, hq, hG⟩ := hrel
            have HG := Lib.hid hG
            clear hG
            by_cases hlt3 : q < mk
            · obtain ⟨b, off, dd, c9, rfl, hcell, hcv⟩ := HCi.out q hlt3 (HKn.out _ (kc_mem (by rw [HKlen.out]; exact hlt3)))
              have HCq := Lib.hid hcv
              obtain ⟨y, hy⟩ : ∃ y, (kc K q).length = y := ⟨_, rfl⟩
              rw [hy] at hcell HCq
              obtain ⟨z, hz⟩ : ∃ z, clv (bnum M) (kc K q) = z := ⟨_, rfl⟩
              rw [hz] at HCq
              have HZ := Lib.hid hz
              have q0 : (0 : Int) ≤ (q : Int) := by omega
              have q1 : (q : Int) < (mk : Int) := by omega
              clear hcv hy hz
              by_cases h1 : z = 1
              · subst h1
                go_wp2_with (go_at_call 12; refine HCq.out.mono ?_; rintro e w' ⟨rfl, rfl⟩)
                go_round
                case rel => exact ⟨q + 1, by go_num, hlt3, fun j hj => by
                  by_cases e : j = q
                  · rw [e]; exact HZ.out
                  · exact HG.out j (by omega)⟩
                case measure => simp [intOf]; omega
              · have z1 : (z != 1) = true := by simp [h1]
                clear h1
                go_wp2_with (first
                  | (go_at_call 12; refine HCq.out.mono ?_; rintro e w' ⟨rfl, rfl⟩)
                  | (go_at_call 8; refine HLp.out.mono ?_; rintro e w9 ⟨rfl, hK9⟩; have HK9 := Lib.hid hK9; clear hK9))
                go_ret
                exact ⟨rfl, (HKp.out.trans HK9.out (fun _ _ h => h)).below (Nat.le_refl _) (fun _ _ h => h)⟩
            · have hq' : q = mk := by omega
              have hno3 : decide ((q : Int) < (mk : Int)) = false := by simp; omega
              have HAllK : Hid (∀ d ∈ K, clv (bnum M) d = 1) := Lib.hid (fun d hd => by
                obtain ⟨j, hj, rfl⟩ := mem_kc hd
                exact HG.out j (by rw [HKlen.out] at hj; omega))
              cases fb with
              | false =>
                go_wp2_with (go_at_call 8; refine HLp.out.mono ?_; rintro e w9 ⟨rfl, hK9⟩; have HK9 := Lib.hid hK9; clear hK9)
                go_ret
                exact ⟨rfl, (HKp.out.trans HK9.out (fun _ _ h => h)).below (Nat.le_refl _) (fun _ _ h => h)⟩
              | true =>
                obtain ⟨y, hy⟩ : ∃ y, l.all (litN M) = y := ⟨_, rfl⟩
                rw [hy] at HAp
                have HYl := Lib.hid hy
                clear hy
                cases y with
                | false =>
                  go_wp2_with (first
                    | (go_at_call 13; refine HAp.out.mono ?_; rintro e w' ⟨rfl, rfl⟩)
                    | (go_at_call 8; refine HLp.out.mono ?_; rintro e w9 ⟨rfl, hK9⟩; have HK9 := Lib.hid hK9; clear hK9))
                  go_ret
                  exact ⟨rfl, (HKp.out.trans HK9.out (fun _ _ h => h)).below (Nat.le_refl _) (fun _ _ h => h)⟩
                | true =>
                  have HC1 := HSo.out (HFb.out.1 rfl) HKn.out (List.all_eq_true.1 HYl.out) HAllK.out
                  rw [HC1] at HCp
                  clear HC1
                  go_wp2_with (first
                    | (go_at_call 13; refine HAp.out.mono ?_; rintro e w' ⟨rfl, rfl⟩)
                    | (go_at_call 12; refine HCp.out.mono ?_; rintro e w' ⟨rfl, rfl⟩)
                    | (go_at_call 8; refine HLp.out.mono ?_; rintro e w9 ⟨rfl, hK9⟩; have HK9 := Lib.hid hK9; clear hK9))
                  go_ret
                  exact ⟨rfl, (HKp.out.trans HK9.out (fun _ _ h => h)).below (Nat.le_refl _) (fun _ _ h => h)⟩

end Go.Proofs.YthconjhldjaldaaGreatDoor

/-
  The package-level variables that the rows list: a world that holds them, and the table of powers of ten out of a row's list.
-/
namespace Go.Proofs.YthconjhldjaldaaGreatDoor
open Go.RowKit

noncomputable def low : Nat := (World.holding Tryz.prog default ⟨#[], #[], []⟩).heap.size

def putCells (g : Nat) (cs : Array Value) (w : World) : World :=
  { w with heap := w.heap.modify g fun
      | .cells _ t frozen => .cells cs t frozen
      | o => o }

def tab32 : Array Value := #[0, 1, 28, 2, 29, 14, 24, 3, 30, 22, 20, 15, 25, 17, 4, 8, 31, 27, 13, 23, 21, 19, 16, 7, 26, 12, 18, 6, 11, 5, 10, 9].map (Value.int .u8)
def tab64 : Array Value := #[0, 1, 56, 2, 57, 49, 28, 3, 61, 58, 42, 50, 38, 29, 17, 4, 62, 47, 59, 36, 45, 43, 51, 22, 53, 39, 33, 30, 24, 18, 12, 5, 63, 55, 48, 27, 60, 41, 37, 16, 46, 35, 44, 21, 52, 32, 23, 11, 54, 26, 40, 15, 34, 20, 31, 10, 25, 14, 19, 9, 13, 8, 7, 6].map (Value.int .u8)
def tabPow : Array Value := (Lib.pow10Tab.map (Value.int .u64)).toArray

theorem gPowType : (Tryz.prog.globals[1]?).map (·.type) = some 147 := by kernel_rfl
theorem cells64 : Tryz.prog.cellsOf 128 = 1 := by kernel_rfl
theorem cellsPow : Tryz.prog.cellsOf 147 = 20 := by kernel_rfl

theorem tab_of_laid {W : World} {x y : String × DataW Unit} {r : List (String × DataW Unit)}
    (h : laidMet Tryz.prog (x :: y :: ("internal/strconv.uint64pow10", Rows.laid_internal_strconv_uint64pow10) :: r) W) : Tab W :=
  Lib.tabIs_of_head (zs := Lib.pow10Tab) gPow gPowType Tryz.underlying147 Tryz.underlying128 cells64 cellsPow (laidMet.tail (laidMet.tail h))

end Go.Proofs.YthconjhldjaldaaGreatDoor

/-
  A world that holds the three tables that the rows list.
-/
namespace Go.Proofs.YthconjhldjaldaaGreatDoor
open Go.RowKit

noncomputable def laidWorld3 (os : Os) : World :=
  putCells 3 tab64 (putCells 2 tab32 (putCells 1 tabPow
      (World.holding Tryz.prog os ⟨#[], #[], []⟩)))

end Go.Proofs.YthconjhldjaldaaGreatDoor
