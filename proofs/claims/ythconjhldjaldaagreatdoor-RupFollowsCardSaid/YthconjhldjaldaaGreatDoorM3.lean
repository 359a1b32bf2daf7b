/-
  trail.New.
-/
import Derived.Test.YthconjhldjaldaaGreatDoorM2
import Derived.Test.YthconjhldjaldaaGreatDoorM1
import Derived.Test.YthconjhldjaldaaGreatDoorRows
import Derived.Maps.Views
import Derived.Maps.OwnSet
import Derived.Maps.StringElems
import Derived.DeepKeys4
import Derived.Lib.ItoaNum
import Derived.RegionTactic
import Derived.ChangeAlike
import Derived.Defers
import Derived.Tactics2
import Derived.Shelf.Strings.Builder1
import Derived.Shelf.Strings.Builder2
import Derived.Shelf.Strings.OnBuilder
import Derived.Shelf.Small.Wraps
import Derived.Shelf.Strconv.Itoa0
import Derived.Shelf.Strconv.Itoa1
import Derived.Shelf.LaysM
import Derived.Shelf.Strconv.Itoa2
import Derived.Shelf.Strconv.Itoa3
import Derived.Shelf.Sort.Plain
import Derived.Shelf.Slices.Equal
import Derived.Ground.Names2Prog
import Derived.Shelf.Slices.Clone
import Derived.Shelf.Slices.CompactI
import Derived.Shelf.Slices.SearchI
import Derived.Shelf.Slices.Cells
import Derived.Test.YthconjhldjaldaaGreatDoorProg
import Derived.Lib.Builder
import Derived.Lib.AppendStr
import Derived.WalkKit
import Derived.Lib.Join
import Derived.Sort.Grow
set_option linter.unusedVariables false
set_option linter.unusedSimpArgs false
namespace Go.Proofs.YthconjhldjaldaaGreatDoor
open Go.RowKit

/-- the first k variables open -/
def vK (n k : Nat) : List Int := (List.range (n + 1)).map fun j => if 1 ≤ j ∧ j ≤ k then 2 else 0
theorem vK_len (n k : Nat) : (vK n k).length = n + 1 := by simp [vK]
theorem vK_at {n k j : Nat} (h : j ≤ n) : gi (vK n k) j = if 1 ≤ j ∧ j ≤ k then 2 else 0 := by
  unfold gi vK
  rw [List.getElem?_map, List.getElem?_range (by omega)]
  rfl
theorem vK_succ {n k : Nat} (h : k < n) : (vK n k).set (k + 1) 2 = vK n (k + 1) := by
  apply List.ext_getElem
  · simp [vK]
  · intro i h1 h2
    simp only [vK, List.getElem_set, List.getElem_map, List.getElem_range]
    by_cases e : k + 1 = i
    · rw [if_pos e, if_pos (by omega)]
    · rw [if_neg e]
      by_cases q : 1 ≤ i ∧ i ≤ k
      · rw [if_pos q, if_pos (by omega)]
      · rw [if_neg q, if_neg (by omega)]
theorem vK_zero (n : Nat) : vK n 0 = List.replicate (n + 1) 0 := by
  apply List.ext_getElem
  · simp [vK]
  · intro i h1 h2
    simp only [vK, List.getElem_map, List.getElem_range, List.getElem_replicate]
    rw [if_neg (by omega)]
theorem opn_all {V : List Int} : ∀ k, (∀ j, 1 ≤ j → j ≤ k → gi V j = 2) → opn V k = k
  | 0, _ => rfl
  | k + 1, h => by
    unfold opn
    rw [opn_all k fun j h1 h2 => h j h1 (by omega), h (k + 1) (by omega) (Nat.le_refl _), if_pos rfl]
theorem vK_ok (n : Nat) : TrOK n (vK n n) [] := by
  refine ⟨⟨vK_len n n, by rw [vK_at (Nat.zero_le _), if_neg (by omega)], fun k hk => ?_⟩, ?_, fun x hx => by cases hx⟩
  · rw [vK_at hk]
    split
    · exact .inr (.inr rfl)
    · exact .inl rfl
  · rw [opn_all n fun j h1 h2 => by rw [vK_at h2, if_pos ⟨h1, h2⟩]]
    simp

theorem made_ints0 (n : Nat) : madeCells #[.int .i64 0] n = ints (List.replicate n 0) := by
  apply Array.ext
  · simp [madeCells, ints]
  · intro i h1 h2
    simp [madeCells, ints, Nat.mod_one]
theorem tris_rep : ∀ n : Nat, (tris (List.replicate n ((0 : Int), (0 : Int), (0 : Int)))).toList = List.replicate (n * 3) (.int .i64 0)
  | 0 => rfl
  | n + 1 => by
    have ih := tris_rep n
    unfold tris at *
    simp only [List.replicate_succ, List.map_cons, List.flatten_cons] at ih ⊢
    rw [ih, show (n + 1) * 3 = n * 3 + 1 + 1 + 1 by omega]
    rfl
theorem made_marks (n : Nat) : madeCells #[.int .i64 0, .int .i64 0, .int .i64 0] (n * 3) = tris (List.replicate n (0, 0, 0)) := by
  apply Array.toList_inj.1
  rw [tris_rep]
  apply List.ext_getElem
  · simp [madeCells]
  · intro i h1 h2
    have h3 : i % 3 = 0 ∨ i % 3 = 1 ∨ i % 3 = 2 := by omega
    rcases h3 with e | e | e <;> simp [madeCells, e]

/-- what a trail knows of no variable -/
def noMarks (n : Nat) : List (Int × Int × Int) := (List.replicate (n + 1) ((0 : Int), (0 : Int), (0 : Int))).set 0 (0, -1, -1)

set_option maxRecDepth 100000 in
set_option maxHeartbeats 4000000 in
theorem trail_New (n : Nat) (hn : n ≤ 900000) (D : Nat → Prop) (w : World) (hD : ∀ j, w.heap.size ≤ j → D j) :
    Calls Tryz.prog 31 #[.int .i64 n] w fun e w' => ∃ p g0 g1, e = .returned (.pointer (some ⟨p, 0, none⟩)) ∧ w.heap.size ≤ p ∧ TrAt w' D p g0 g1 n (.slice none 0 0) (.slice none 0 0) (vK n n) (noMarks n) [] [] ∧ Kp (fun _ => False) w w' := by
  obtain ⟨i0, hi, hz0, hz1, hz2⟩ := info_parts (show (Tryz.prog.info? 3).map (fun i => (i.zero, i.size, i.bytes)) = some (some (.int .i64 0), 1, 8) by kernel_rfl)
  have hmk : ∀ u : World, (Instr.makeSlice 23 (.int .i64 ((n : Int) + 1)) (.int .i64 ((n : Int) + 1))).run Tryz.prog u =
      .ok (.slice (some ⟨u.heap.size, 0, none⟩) (n + 1) (n + 1)) (u.alloc (.cells (madeCells #[.int .i64 0] (n + 1)) 3)) := fun u => by
    have h := run_make (P := Tryz.prog) u 23 3 i0 (.int .i64 0) Tryz.underlying23 hi hz0 .i64 .i64 ((n + 1 : Nat) : Int) ((n + 1 : Nat) : Int) (by omega) (Int.le_refl _) (by rw [hz2]; omega) (by omega)
    simpa [hz1, Value.cells] using h
  clear hi hz0 hz1 hz2 i0
  obtain ⟨i0, hi, hz0, hz1, hz2⟩ := info_parts (show (Tryz.prog.info? 84).map (fun i => (i.zero, i.size, i.bytes)) = some (some (.agg #[.int .i64 0, .int .i64 0, .int .i64 0]), 3, 24) by kernel_rfl)
  have hmm : ∀ u : World, (Instr.makeSlice 80 (.int .i64 ((n : Int) + 1)) (.int .i64 ((n : Int) + 1))).run Tryz.prog u =
      .ok (.slice (some ⟨u.heap.size, 0, none⟩) (n + 1) (n + 1)) (u.alloc (.cells (madeCells #[.int .i64 0, .int .i64 0, .int .i64 0] ((n + 1) * 3)) 84)) := fun u => by
    have h := run_make (P := Tryz.prog) u 80 84 i0 (.agg #[.int .i64 0, .int .i64 0, .int .i64 0]) Tryz.underlying80 hi hz0 .i64 .i64 ((n + 1 : Nat) : Int) ((n + 1 : Nat) : Int) (by omega) (Int.le_refl _) (by rw [hz2]; omega) (by omega)
    simpa [hz1, Value.cells] using h
  clear hi hz0 hz1 hz2 i0
  have dg1 : decide ((n : Int) < 0) = false := by simp
  have dg2 : decide ((1048576 : Int) < (n : Int)) = false := by simp; omega
  have HDD := Lib.hid hD
  clear hD
  go_enter Tryz.func31, Tryz.ntmps31
  go_upto_region 3 with fail
  go_cut [3] from 11 to 18 (fun s3 wx => ∃ g0 g1, s3 = .pointer (some ⟨w.heap.size + 1 + 1, 0, none⟩) ∧ g0 ≠ w.heap.size + 1 + 1 ∧ g1 ≠ w.heap.size + 1 + 1 ∧ g0 ≠ g1 ∧ w.heap.size ≤ g0 ∧ w.heap.size ≤ g1 ∧ Blk wx (w.heap.size + 1 + 1) #[.slice (some ⟨g0, 0, none⟩) (n + 1) (n + 1), .slice (some ⟨g1, 0, none⟩) (n + 1) (n + 1), .slice none 0 0, .slice none 0 0] 82 ∧ Blk wx g0 (ints (vK n 0)) 3 ∧ Blk wx g1 (tris (List.replicate (n + 1) (0, 0, 0))) 84 ∧ Kp (fun _ => False) w wx)
  case first =>
    go_region
    all_goals go_wp2_with fail
    all_goals go_meet
    all_goals
      obtain ⟨b0, b1, b2⟩ := new3 w _ _ _ _ _ _
      first
      | (refine ⟨w.heap.size, w.heap.size + 1, rfl, by omega, by omega, by omega, by omega, by omega, b2, ?_, ?_, ((((Kp.refl _ w).alloc _).alloc _).alloc _).drew⟩
         · rw [vK_zero, ← made_ints0]; exact b0
         · rw [← made_marks]; exact b1)
      | (refine ⟨w.heap.size + 1, w.heap.size, rfl, by omega, by omega, by omega, by omega, by omega, b2, ?_, ?_, ((((Kp.refl _ w).alloc _).alloc _).alloc _).drew⟩
         · rw [vK_zero, ← made_ints0]; exact b1
         · rw [← made_marks]; exact b0)
  case rest =>
  obtain ⟨g0, g1, rfl, n0, n1, n2, n3, n4, hB, hB0, hB1, hK⟩ := hcut
  obtain ⟨p, hp⟩ : ∃ p, w.heap.size + 1 + 1 = p := ⟨_, rfl⟩
  rw [hp] at n0 n1 hB
  obtain ⟨m, hm⟩ : ∃ m : Nat, n + 1 = m := ⟨_, rfl⟩
  rw [hm] at hB
  have HP := Lib.hid hp
  have HM := Lib.hid hm
  have HN := Lib.hid (And.intro n0 (And.intro n1 (And.intro n2 (And.intro n3 n4))))
  rw [hp]
  clear hmk hmm hp n3 n4
  go_wp2_with fail
  go_loopw [4] (fun v4 wr => ∃ k : Nat, k ≤ n ∧ v4 = .int .i64 ((k + 1 : Nat) : Int) ∧ Blk wr p #[.slice (some ⟨g0, 0, none⟩) m m, .slice (some ⟨g1, 0, none⟩) m m, .slice none 0 0, .slice none 0 0] 82 ∧ Blk wr g0 (ints (vK n k)) 3 ∧ Blk wr g1 (tris (List.replicate m (0, 0, 0))) 84 ∧ Kp (fun _ => False) w wr) (fun v4 _ => n + 1 - (intOf v4).toNat)
  case atStart => exact ⟨0, Nat.zero_le _, rfl, hB, hB0, by rw [← hm]; exact hB1, hK⟩
  case round =>
    clear hB hB0 hB1 hK
    obtain ⟨k, hk, rfl, hB, hB0, hB1, hK⟩ := hrel
    have c0 : wr.cell? ⟨p, 0, none⟩ = some (.slice (some ⟨g0, 0, none⟩) m m) := hB.cell (i := 0) rfl
    by_cases hlt : k < n
    · have d1 : decide (((k + 1 : Nat) : Int) ≤ (n : Int)) = true := by simp; omega
      have e0 : wr.cell? ⟨g0, k + 1, none⟩ = some (.int .i64 (gi (vK n k) (k + 1))) := hB0.cell (ints_at (by rw [vK_len]; omega))
      have f0 := hB0.free (k + 1)
      have HR := Lib.hid (show Blk (wr.setCell ⟨g0, k + 1, none⟩ (.int .i64 2)) p #[.slice (some ⟨g0, 0, none⟩) m m, .slice (some ⟨g1, 0, none⟩) m m, .slice none 0 0, .slice none 0 0] 82 ∧ Blk (wr.setCell ⟨g0, k + 1, none⟩ (.int .i64 2)) g0 (ints (vK n (k + 1))) 3 ∧ Blk (wr.setCell ⟨g0, k + 1, none⟩ (.int .i64 2)) g1 (tris (List.replicate m (0, 0, 0))) 84 ∧ Kp (fun _ => False) w (wr.setCell ⟨g0, k + 1, none⟩ (.int .i64 2)) from by
        refine ⟨hB.set_other (p := ⟨g0, k + 1, none⟩) (fun e => n0 e.symm) _, ?_, hB1.set_other (p := ⟨g0, k + 1, none⟩) (fun e => n2 e.symm) _, hK.setCell (p := ⟨g0, k + 1, none⟩) (fun h => by have := HN.out.2.2.2.1; simp at h; omega) _⟩
        rw [← vK_succ hlt, ← ints_set]
        exact hB0.set_same (k + 1) _)
      obtain ⟨k1, hk1⟩ : ∃ k1 : Nat, k + 1 = k1 := ⟨_, rfl⟩
      have HK1 := Lib.hid hk1
      rw [hk1] at d1 e0 f0 HR
      have hle : k1 ≤ n := by omega
      have i0 : (0 : Int) ≤ (k1 : Int) := by omega
      have i1 : (k1 : Int) < (m : Int) := by omega
      rw [hk1]
      clear hB hB0 hB1 hK hk1 hlt hm n0 n1 n2
      go_wp2_with fail
      go_roundw
      case rel => exact ⟨k1, hle, by go_num, HR.out⟩
      case measure => have := HK1.out; simp [intOf]; omega
    · have d1 : decide (((k + 1 : Nat) : Int) ≤ (n : Int)) = false := by simp; omega
      have hkn : k = n := by omega
      subst hkn
      have hno : ¬ k + 1 ≤ k := by omega
      have c1 : wr.cell? ⟨p, 1, none⟩ = some (.slice (some ⟨g1, 0, none⟩) m m) := hB.cell (i := 1) rfl
      have m0 : (0 : Int) < (m : Int) := by omega
      have hs := tris_size (List.replicate m ((0 : Int), (0 : Int), (0 : Int)))
      rw [List.length_replicate] at hs
      obtain ⟨y0, e0⟩ : ∃ y, wr.cell? ⟨g1, 0, none⟩ = some y := ⟨_, hB1.cell (Array.getElem?_eq_getElem (by omega))⟩
      obtain ⟨y1, e1⟩ : ∃ y, wr.cell? ⟨g1, 1, none⟩ = some y := ⟨_, hB1.cell (Array.getElem?_eq_getElem (by omega))⟩
      obtain ⟨y2, e2⟩ : ∃ y, wr.cell? ⟨g1, 2, none⟩ = some y := ⟨_, hB1.cell (Array.getElem?_eq_getElem (by omega))⟩
      have f0 := hB1.free 0
      have f1 := hB1.free 1
      have f2 := hB1.free 2
      have HS := Lib.hid (And.intro hB (And.intro hB0 (And.intro hB1 hK)))
      clear hB hB0 hB1 hK hs hlt hk hm
      go_wp2_with fail
      go_ret
      obtain ⟨hB, hB0, hB1, hK⟩ := HS.out
      have hg := HN.out
      have hP := HP.out
      have hM := HM.out
      subst hM
      refine ⟨p, g0, g1, rfl, by omega, ⟨((hB.set_other (p := ⟨g1, 0, none⟩) (fun e => n1 e.symm) _).set_other (p := ⟨g1, 1, none⟩) (fun e => n1 e.symm) _).set_other (p := ⟨g1, 2, none⟩) (fun e => n1 e.symm) _, ((hB0.set_other (p := ⟨g1, 0, none⟩) n2 _).set_other (p := ⟨g1, 1, none⟩) n2 _).set_other (p := ⟨g1, 2, none⟩) n2 _, ?_, Own.nil _ _ _, Own.nil _ _ _, vK_len _ _, by simp [noMarks], ⟨HDD.out _ (by omega), HDD.out _ (by omega), HDD.out _ (by omega)⟩, ⟨fun e => n0 e.symm, fun e => n1 e.symm, n2⟩, (fun j hj => by cases hj), (fun j hj => by cases hj), (fun j hj => by cases hj)⟩, ?_⟩
      · have := ((hB1.set_same 0 (.int .i64 0)).set_same 1 (.int .i64 (-1))).set_same 2 (.int .i64 (-1))
        have e := tris_put (List.replicate (k + 1) (0, 0, 0)) 0 0 (-1) (-1) (by simp)
        rw [show 0 * 3 = 0 from rfl] at e
        simp only [Nat.zero_add] at e
        rw [e] at this
        exact this
      · exact ((hK.setCell (p := ⟨g1, 0, none⟩) (fun h => by simp at h; omega) _).setCell (p := ⟨g1, 1, none⟩) (fun h => by simp at h; omega) _).setCell (p := ⟨g1, 2, none⟩) (fun h => by simp at h; omega) _

end Go.Proofs.YthconjhldjaldaaGreatDoor

/-
  imply.Close: all that a net's gates, and clauses, say.
-/
namespace Go.Proofs.YthconjhldjaldaaGreatDoor
open Go.RowKit

/-- clause k -/
def kc (K : List (List Int)) (k : Nat) : List Int := K[k]?.getD []
theorem kc_mem {K : List (List Int)} {k : Nat} (h : k < K.length) : kc K k ∈ K := by unfold kc; rw [List.getElem?_eq_getElem h]; exact List.getElem_mem h
theorem mem_kc {K : List (List Int)} {c : List Int} (h : c ∈ K) : ∃ k, k < K.length ∧ kc K k = c := by
  obtain ⟨i, hi, e⟩ := List.mem_iff_getElem.1 h
  exact ⟨i, hi, by unfold kc; rw [List.getElem?_eq_getElem hi, ← e]; rfl⟩
/-- clauses at a place -/
structure Cls (w : World) (a : Option Addr) (m : Nat) (K : List (List Int)) : Prop where
  len : K.length = m
  row : ∃ vs : List Value, RowAt w a vs ∧ vs.length = m ∧ ∀ k, k < m → ∃ b c, vs[k]? = some (.slice b (kc K k).length c) ∧ RowAt w b (iv (kc K k))
theorem Cls.kp {w w' : World} {a : Option Addr} {m : Nat} {K : List (List Int)} (h : Cls w a m K) (k : Kp (fun _ => False) w w') : Cls w' a m K := by
  obtain ⟨h1, vs, h2, h3, h4⟩ := h
  refine ⟨h1, vs, h2.kp k (fun _ _ h => h), h3, fun i hi => ?_⟩
  obtain ⟨b, c, e, r⟩ := h4 i hi
  exact ⟨b, c, e, r.kp k (fun _ _ h => h)⟩
theorem Cls.at {w : World} {a : Option Addr} {m : Nat} {K : List (List Int)} (h : Cls w a m K) {k : Nat} (hk : k < m) : ∃ b off d c, a = some ⟨b, off, none⟩ ∧ w.cell? ⟨b, off + k, none⟩ = some (.slice d (kc K k).length c) ∧ RowAt w d (iv (kc K k)) := by
  obtain ⟨h1, vs, h2, h3, h4⟩ := h
  obtain ⟨d, c, e, r⟩ := h4 k hk
  obtain ⟨b, off, ea, hc⟩ := h2 k _ e
  exact ⟨b, off, d, c, ea, hc, r⟩

/-- what Close leaves -/
def CloseP (w : World) (n : Nat) (K : List (List Int)) (e : Ending) (w' : World) : Prop :=
  ((∃ v V, e = .returned (.tuple #[v, .bool true]) ∧ Own w' w.heap.size 3 v (iv V) ∧ TV n V ∧ Told n V K ∧ ∀ c ∈ K, Done V c) ∨ (UConf K ∧ e = .returned (.tuple #[.slice none 0 0, .bool false]))) ∧ Kp (fun _ => False) w w'

/-- how long the list of a trail is -/
def trLen (w : World) (p : Nat) : Nat := match w.cell? ⟨p, 2, none⟩ with | some (.slice _ n _) => n | _ => 0
theorem TrS.trLen {w : World} {D : Nat → Prop} {p g0 g1 n : Nat} {v3 : Value} {E : List Int} {I : List Int → List (Int × Int × Int) → List Int → Prop} {V : List Int} {M : List (Int × Int × Int)} {L : List Int} (h : TrS w D p g0 g1 n v3 E I V M L) : trLen w p = L.length := by
  obtain ⟨v2, hT⟩ := h.tr
  obtain ⟨a, c, rfl, -⟩ := hT.list.form
  have := hT.blk.cell (i := 2) (v := .slice a (iv L).length c) rfl
  unfold Go.Proofs.YthconjhldjaldaaGreatDoor.trLen
  rw [this, iv_length]

theorem gates_in {N : List (Int × Int)} {want : List Int} {more : List (List Int)} {j k : Nat} (hj : j < N.length) (h0 : 0 ≤ (g2 N j).1) (hk : k < 3) : gclN N j k ∈ allK N want more := by
  unfold allK
  exact List.mem_append.2 (.inl (List.mem_append.2 (.inr (gates_mem.2 ⟨j, hj, h0, k, hk, rfl⟩))))
theorem told_inv {N : List (Int × Int)} {want : List Int} {more : List (List Int)} {n : Nat} {E : List Int} (hN : GoodN N) (hn : N.length = n) : InvG n N E (fun V _ _ => Told n V (allK N want more)) := by
  subst hn
  intro V M L j k l hj h0 hk hok hI hl
  exact hI.set hok.tv (gates_in hj h0 hk) (gcl_kn hN hj h0 k) hl

set_option maxRecDepth 100000 in
set_option maxHeartbeats 16000000 in
theorem imply_Close (an : Option Addr) (n cn : Nat) (N : List (Int × Int)) (al : Option Addr) (ml cl : Nat) (l : List Int) (ak : Option Addr) (mk ck : Nat) (K : List (List Int)) (w : World)
    (hrn : RowAt w an (N.map pr2).flatten) (hnn : N.length = n) (hon : SlOK an n cn) (hn : n ≤ 900000) (hN : GoodN N) (hrl : RowAt w al (iv l)) (hll : l.length = ml) (hml : ml ≤ 1000000) (hl : KnC n l) (hK : Cls w ak mk K) (hmk : mk ≤ 1000000) (hKn : ∀ c ∈ K, KnC n c) (hKl : ∀ c ∈ K, c.length ≤ 1000000) :
    Calls Tryz.prog 21 #[.slice an n cn, .slice al ml cl, .slice ak mk ck] w (CloseP w n (allK N l K)) := by
  have HNew := Lib.hid (trail_New n hn (fun j => w.heap.size ≤ j) w (fun j h => h))
  have HRul := Lib.hid (fun u (hu : Kp (fun _ => False) w u) => imply_New an n cn N u (hrn.kp hu (fun _ _ h => h)) hnn hon hn hN)
  have HKn := Lib.hid (fun u (hu : Kp (fun _ => False) w u) => (imply_known an n cn al ml cl l u (hrl.kp hu (fun _ _ h => h)) hll hml (fun x hx => by have := (hl x hx).2; omega)).mono (R' := fun e w' => e = .returned (.bool true) ∧ Kp (fun _ => False) u w') (by rintro e w' ⟨rfl, h⟩; rw [knB_iff.2 hl]; exact ⟨rfl, h⟩))
  have HRn := Lib.hid hrn
  have HNn := Lib.hid hnn
  have HN := Lib.hid hN
  have HRl := Lib.hid hrl
  have HLl := Lib.hid hll
  have HL := Lib.hid hl
  have HK := Lib.hid hK
  have HKK := Lib.hid hKn
  have HKl := Lib.hid hKl
  have HKall := Lib.hid (show ∀ c ∈ allK N l K, KnC n c from hnn ▸ allK_kn hN (by rw [hnn]; exact hl) (by rw [hnn]; exact hKn))
  clear hrn hnn hon hN hrl hll hl hK hKn hKl
  go_enter Tryz.func21, Tryz.ntmps21
  go_upto_region 2 with (first
    | (go_at_call 31; refine HNew.out.mono ?_; rintro e w1 ⟨p, g0, g1, rfl, hp, hT, hK1⟩; have HT := Lib.hid hT; have HK1 := Lib.hid hK1; have HRul1 := Lib.hid (HRul.out w1 hK1); clear hT hK1)
    | (go_at_call 32; refine HRul1.out.mono ?_; rintro e w2 ⟨pr, na, nc, g, R, rfl, hR, hK2⟩; have HRu := Lib.hid hR; have HK2 := Lib.hid hK2; clear hR hK2))
  obtain ⟨D, hD⟩ : ∃ D : Nat → Prop, D = fun j => (w.heap.size ≤ j ∧ j < w1.heap.size) ∨ w2.heap.size ≤ j := ⟨_, rfl⟩
  have hs1 := HK1.out.size
  have hs2 := HK2.out.size
  have HDn := Lib.hid (show ∀ j, w2.heap.size ≤ j → D j from fun j h => by rw [hD]; exact .inr h)
  have HDl := Lib.hid (show ∀ j, D j → j < w1.heap.size ∨ w2.heap.size ≤ j from fun j h => by rw [hD] at h; rcases h with h | h; exact .inl h.2; exact .inr h)
  have HDw := Lib.hid (show ∀ j, D j → w.heap.size ≤ j from fun j h => by rw [hD] at h; rcases h with h | h; exact h.1; omega)
  have HTr := Lib.hid (show TrS w2 D p g0 g1 n (.slice none 0 0) [] (fun V _ _ => Told n V (allK N l K)) (vK n n) (noMarks n) [] from
    (TrS.kp (w := w1) ⟨⟨_, HT.out.mono (fun j h1 h2 => by rw [hD]; exact .inl ⟨h2, h1⟩)⟩, vK_ok n, fun x hx e => by
      have h2 : ∀ x, KnL n x → vlit (vK n n) x = 1 → x = 1 := fun x hx e => by
        by_cases q : 2 ≤ x
        · have gq : gi (vK n n) (x / 2).toNat = 2 := by rw [vK_at hx.var, if_pos (by have := hx.1; have := hx.var; omega)]
          unfold vlit at e
          rw [gq] at e
          split at e <;> exact absurd e (by decide)
        · have hx0 := hx.1
          have : x = 0 ∨ x = 1 := by omega
          rcases this with rfl | rfl
          · rw [vlit_zero (vK_ok n).tv] at e; exact absurd e (by decide)
          · rfl
      rw [h2 x hx e]
      exact .one⟩ HK2.out))
  have HK0 := Lib.hid (show Kp (fun _ => False) w w2 from HK1.out.trans HK2.out (fun _ _ h => h))
  have HKn2 := Lib.hid (HKn.out w2 HK0.out)
  clear HT HNew HRul HRul1 hD HKn
  go_upto_region 4 with (go_at_call 33; refine HKn2.out.mono ?_; rintro e w3 ⟨rfl, hK3⟩; have HK3 := Lib.hid hK3; clear hK3)
  -- the literals that are to be so
  have HKf := Lib.hid (show ∀ u, Kp D w2 u → Kp (fun _ => False) w u from fun u k => HK0.out.trans k (fun j hj h => by have := HDw.out j h; omega))
  have HTr3 := Lib.hid (HTr.out.kp HK3.out)
  have HK3D := Lib.hid (show Kp D w2 w3 from HK3.out.mono (fun _ _ h => h.elim))
  clear HTr HKn2 HK3 hs1 hs2 hp
  go_wp2_with fail
  go_loopw [32] (fun v32 wr => ∃ (i : Nat) (V : List Int) (M : List (Int × Int × Int)) (L : List Int), v32 = .int .i64 i ∧ i ≤ ml ∧ TrS wr D p g0 g1 n (.slice none 0 0) [] (fun V _ _ => Told n V (allK N l K)) V M L ∧ Kp D w2 wr ∧ ∀ i', i' < i → vlit V (gi l i') = 1) (fun v32 _ => ml - (intOf v32).toNat)
  case atStart => exact ⟨0, _, _, _, rfl, Nat.zero_le _, HTr3.out, HK3D.out, fun i hi => absurd hi (Nat.not_lt_zero i)⟩
  case round =>
    obtain ⟨i, V, M, L, rfl, hi, hT, hKr, hS⟩ := hrel
    clear HTr3 HK3D
    have HT := Lib.hid hT
    have HKr := Lib.hid hKr
    have HS := Lib.hid hS
    clear hT hKr hS
    obtain ⟨wp, rfl⟩ : ∃ wp : World, wp = wr := ⟨_, rfl⟩
    by_cases hlt : i < ml
    · have hil : i < l.length := by rw [HLl.out]; exact hlt
      obtain ⟨b, off, rfl, hcell⟩ := (HRl.out.kp (HKf.out wp HKr.out) (fun _ _ h => h)) i _ (iv_at hil)
      have hxm := gi_mem hil
      have hx := HL.out _ hxm
      obtain ⟨x, hxx⟩ : ∃ x, gi l i = x := ⟨_, rfl⟩
      rw [hxx] at hcell hxm hx
      have HXX := Lib.hid hxx
      have HXM := Lib.hid hxm
      have HX := Lib.hid hx
      have i0 : (0 : Int) ≤ (i : Int) := by omega
      have i1 : (i : Int) < (ml : Int) := by omega
      obtain ⟨v2, hTr⟩ := HT.out.tr
      have HTt := Lib.hid hTr
      clear hil hxm hxx hx hTr
      rcases HT.out.ok.tv.vlit HX.out with hz | ho | hf
      · have HSt := Lib.hid (trail_Set_zero HTt.out HT.out.ok.tv hn HX.out (-1) hz)
        have HCf := Lib.hid (show UConf (allK N l K) from HT.out.inv.conf HT.out.ok.tv (c := [x]) (by unfold allK; exact List.mem_append.2 (.inl (List.mem_append.2 (.inl (List.mem_map.2 ⟨x, HXM.out, rfl⟩))))) (fun y hy => by simp at hy; rw [hy]; exact HX.out) (fun y hy => by simp at hy; rw [hy]; exact hz))
        clear hz
        go_wp2_with (go_at_call 34; refine HSt.out.mono ?_; rintro e w4 ⟨rfl, rfl⟩)
        exact bodyPost_ret (v := .tuple #[.slice none 0 0, .bool false]) (by simp [results, Tryz.results21, go_sem]) rfl ⟨.inr ⟨HCf.out, rfl⟩, HKf.out _ HKr.out⟩
      · have HSt := Lib.hid (trail_Set_one HTt.out HT.out.ok.tv hn HX.out (-1) ho)
        have HO := Lib.hid ho
        clear ho
        go_wp2_with (go_at_call 34; refine HSt.out.mono ?_; rintro e w4 ⟨rfl, rfl⟩)
        go_roundw
        case rel => exact ⟨i + 1, V, M, L, by go_num, hlt, HT.out, HKr.out, fun i' hi' => by by_cases q : i' = i; rw [q, HXX.out]; exact HO.out; exact HS.out i' (by omega)⟩
        case measure => simp [intOf]; omega
      · have HSt := Lib.hid (trail_Set_free HTt.out (fun j hj => HDn.out j (Nat.le_trans HKr.out.size hj)) HT.out.ok.tv hn HX.out (-1) hf HT.out.ok.len)
        have HEx := Lib.hid (show Ext n V L (vset V x) (L ++ [x]) from Ext.set HT.out.ok.tv HX.out hf)
        have HOk := Lib.hid (HT.out.ok.set HX.out hf)
        have HIn := Lib.hid (show Told n (vset V x) (allK N l K) from HT.out.inv.set HT.out.ok.tv (c := [x]) (by unfold allK; exact List.mem_append.2 (.inl (List.mem_append.2 (.inl (List.mem_map.2 ⟨x, HXM.out, rfl⟩))))) (fun y hy => by simp at hy; rw [hy]; exact HX.out) ⟨List.mem_cons_self .., hf, fun y hy hn => by simp at hy; exact absurd hy hn⟩)
        have HOne := Lib.hid (show vlit (vset V x) x = 1 by rw [vlit_set HT.out.ok.tv HX.out HX.out, if_pos rfl])
        clear hf
        go_wp2_with (go_at_call 34; refine HSt.out.mono ?_; rintro e w4 ⟨v2', rfl, hT4, hK4⟩; have HT4 := Lib.hid hT4; have HK4 := Lib.hid hK4; clear hT4 hK4)
        go_roundw
        case rel =>
          refine ⟨i + 1, _, _, _, by go_num, hlt, ⟨⟨_, HT4.out⟩, HOk.out, HIn.out⟩, HKr.out.trans HK4.out (fun _ _ h => h), fun i' hi' => ?_⟩
          by_cases q : i' = i
          · rw [q, HXX.out]; exact HOne.out
          · obtain ⟨_, -, h1, -⟩ := HEx.out
            have := HS.out i' (by omega)
            rw [h1 _ (HL.out _ (gi_mem (by rw [HLl.out]; omega))) (by rw [this]; decide), this]
        case measure => simp [intOf]; omega
    · have hil : i = ml := by omega
      subst hil
      have hno : decide ((i : Int) < (i : Int)) = false := by simp
      have HW := Lib.hid (show ∀ x ∈ l, vlit V x = 1 from fun x hx => by obtain ⟨i', h1, rfl⟩ := mem_gi hx; exact HS.out i' (by rw [← HLl.out]; exact h1))
      clear HS
      -- each gate once
      go_wp2_with fail
      go_loopw [43] (fun v43 wr => ∃ (k : Nat) (V : List Int) (M : List (Int × Int × Int)) (L : List Int), v43 = .int .i64 k ∧ k ≤ n ∧ TrS wr D p g0 g1 n (.slice none 0 0) [] (fun V _ _ => Told n V (allK N l K)) V M L ∧ Kp D w2 wr ∧ (∀ x ∈ l, vlit V x = 1) ∧ ∀ j, j < k → LookG N V L 0 j) (fun v43 _ => n - (intOf v43).toNat)
      case atStart => exact ⟨0, _, _, _, rfl, Nat.zero_le _, HT.out, HKr.out, HW.out, fun i hi => absurd hi (Nat.not_lt_zero i)⟩
      case round =>
        clear HT HKr HW hno hlt
        obtain ⟨k, V, M, L, rfl, hk, hT, hKr, hW, hG⟩ := hrel
        have HT := Lib.hid hT
        have HKr := Lib.hid hKr
        have HW := Lib.hid hW
        have HG := Lib.hid hG
        clear hT hKr hW hG
        obtain ⟨wq, rfl⟩ : ∃ wq : World, wq = wr := ⟨_, rfl⟩
        by_cases hlt : k < n
        · have hkl : k < N.length := by rw [HNn.out]; exact hlt
          obtain ⟨b, off, rfl, c0, -⟩ := pr2_cells (HRn.out.kp (HKf.out wq HKr.out) (fun _ _ h => h)) hkl
          have i0 : (0 : Int) ≤ (k : Int) := by omega
          have i1 : (k : Int) < (n : Int) := by omega
          have hkb : (k : Int) ≤ 900000 := by omega
          have HGt := Lib.hid (fun h0 => rules_gate (HRu.out.kpS HKr.out HDl.out) HT.out HN.out hn (told_inv HN.out HNn.out) (fun j hj => HDn.out j (Nat.le_trans HKr.out.size hj)) HDl.out hlt h0)
          have HA := Lib.hid (show (g2 N k).1 < 0 → ∀ V L i, LookG N V L i k from fun h V L i h0 => absurd h (by omega))
          obtain ⟨y, hy⟩ : ∃ y, (g2 N k).1 = y := ⟨_, rfl⟩
          have HYY := Lib.hid hy
          rw [hy] at c0
          simp only [hy] at HGt HA
          clear hkl hy
          by_cases hy0 : 0 ≤ y
          · have HGt2 := Lib.hid (HGt.out hy0)
            clear HGt HA
            go_upto_if 59 with (go_at_call 35
                                refine HGt2.out.mono ?_
                                rintro e w4 ⟨V4, M4, L4, hT4, hE4, hK4, hA⟩
                                have HT4 := Lib.hid hT4
                                have HE4 := Lib.hid hE4
                                have HK4 := Lib.hid hK4
                                obtain ⟨rr, rfl, hrr⟩ : ∃ rr : Int, e = .returned (.int .i64 rr) ∧ ((rr = -1 ∧ ∀ k', k' < 3 → Look V4 L4 L.length (gclN N k k')) ∨ ∃ k' : Nat, k' < 3 ∧ rr = 3 * ((k : Int) + 1) + k' ∧ AllNo V4 (gclN N k k')) := by
                                  rcases hA with ⟨rfl, h⟩ | ⟨k', hk', rfl, h⟩
                                  · exact ⟨_, rfl, .inl ⟨rfl, h⟩⟩
                                  · exact ⟨_, rfl, .inr ⟨k', hk', rfl, h⟩⟩
                                have HRR := Lib.hid hrr
                                clear hT4 hE4 hK4 hA hrr)
            rcases HRR.out with ⟨rfl, hL4⟩ | ⟨k', hk', hrr, hz⟩
            · have HL4 := Lib.hid hL4
              clear hL4 HRR
              go_wp2_with fail
              go_roundw
              case rel =>
                refine ⟨k + 1, V4, M4, L4, by go_num, hlt, HT4.out, HKr.out.trans HK4.out (fun _ _ h => h), fun x hx => ?_, fun j' hj' => ?_⟩
                · obtain ⟨_, -, h1, -⟩ := HE4.out
                  have := HW.out x hx
                  rw [h1 _ (HL.out x hx) (by rw [this]; decide), this]
                · by_cases e : j' = k
                  · subst e; exact fun _ k' hk' => (HL4.out k' hk').mono (Nat.zero_le _)
                  · exact (HG.out j' (by omega)).ext HN.out (by rw [HNn.out]; omega) (by rw [HNn.out]; exact HE4.out) (Nat.zero_le _)
              case measure => simp [intOf]; omega
            · have r1 : 0 ≤ rr := by omega
              have HCf := Lib.hid (show UConf (allK N l K) from HT4.out.inv.conf HT4.out.ok.tv (gates_in (by rw [HNn.out]; exact hlt) (by rw [HYY.out]; exact hy0) hk') (HKall.out _ (gates_in (by rw [HNn.out]; exact hlt) (by rw [HYY.out]; exact hy0) hk')) hz)
              clear hk' hrr hz HRR
              go_wp2_with fail
              exact bodyPost_ret (v := .tuple #[.slice none 0 0, .bool false]) (by simp [results, Tryz.results21, go_sem]) rfl ⟨.inr ⟨HCf.out, rfl⟩, HKf.out _ (HKr.out.trans HK4.out (fun _ _ h => h))⟩
          · have hy1 : decide (0 ≤ y) = false := by simp; omega
            have HA2 := Lib.hid (HA.out (by omega))
            clear HGt HA
            go_wp2_with fail
            go_roundw
            case rel => exact ⟨k + 1, V, M, L, by go_num, hlt, HT.out, HKr.out, HW.out, fun j' hj' => by by_cases e : j' = k; rw [e]; exact HA2.out V L 0; exact HG.out j' (by omega)⟩
            case measure => simp [intOf]; omega
        · have hkn : k = n := by omega
          have hno : decide ((k : Int) < (n : Int)) = false := by simp; omega
          have HGG := Lib.hid (show ∀ j, j < n → LookG N V L 0 j from fun j hj => HG.out j (by omega))
          clear HG hkn
          -- until nothing more is said
          clear HRn HRl HLl
          go_wp2_with fail
          go_loopw [10, 14] (fun v10 v14 wr => ∃ (f : Nat) (V : List Int) (M : List (Int × Int × Int)) (L : List Int) (d : Bool), v10 = .int .i64 f ∧ v14 = .bool d ∧ f ≤ L.length ∧ TrS wr D p g0 g1 n (.slice none 0 0) [] (fun V _ _ => Told n V (allK N l K)) V M L ∧ Kp D w2 wr ∧ (∀ x ∈ l, vlit V x = 1) ∧ (∀ j, j < n → LookG N V L f j) ∧ (d = true → (∀ j, j < n → LookG N V L L.length j) ∧ ∀ c ∈ K, Done V c)) (fun _ v14 wr => 2 * (n - trLen wr p) + (match v14 with | .bool true => 0 | _ => 1))
          case atStart => exact ⟨0, _, _, _, false, rfl, rfl, Nat.zero_le _, HT.out, HKr.out, HW.out, HGG.out, fun h => by cases h⟩
          case round =>
            clear HT HKr HW HGG hno hlt hk
            obtain ⟨f, V, M, L, d, rfl, rfl, hf, hT, hKr, hW, hG, hD⟩ := hrel
            have HT := Lib.hid hT
            have HKr := Lib.hid hKr
            have HW := Lib.hid hW
            have HG := Lib.hid hG
            have HDd := Lib.hid hD
            have HTl := Lib.hid hT.trLen
            clear hT hKr hW hG hD
            obtain ⟨wa, rfl⟩ : ∃ wa : World, wa = wr := ⟨_, rfl⟩
            cases d with
            | true =>
              obtain ⟨v2, hTr⟩ := HT.out.tr
              have HVs := Lib.hid (trail_Values hTr hn)
              have HF := Lib.hid (show ∀ c ∈ allK N l K, Done V c from by
                obtain ⟨h1, h2⟩ := HDd.out rfl
                intro c hc
                unfold allK at hc
                rcases List.mem_append.1 hc with hc | hc
                · rcases List.mem_append.1 hc with hc | hc
                  · obtain ⟨x, hx, rfl⟩ := List.mem_map.1 hc
                    exact .inl ⟨x, List.mem_cons_self .., HW.out x hx⟩
                  · obtain ⟨j, hj, h0, k', hk', rfl⟩ := gates_mem.1 hc
                    exact (h1 j (by rw [← HNn.out]; exact hj) h0 k' hk').fin (Nat.le_refl _)
                · exact h2 c hc)
              clear hTr HDd
              go_wp2_with (go_at_call 37; refine HVs.out.mono ?_; rintro e w5 ⟨vv, rfl, hO, hK5⟩; have HO := Lib.hid hO; have HK5 := Lib.hid hK5; clear hO hK5)
              exact bodyPost_ret (v := .tuple #[vv, .bool true]) (by simp [results, Tryz.results21, go_sem]) rfl ⟨.inl ⟨vv, V, rfl, HO.out.mono (HKf.out _ HKr.out).size, HT.out.ok.tv, HT.out.inv, HF.out⟩, (HKf.out _ HKr.out).trans HK5.out (fun _ _ h => h)⟩
            | false =>
              have HRun := Lib.hid (rules_Run (HRu.out.kpS HKr.out HDl.out) HT.out HN.out hn (told_inv HN.out HNn.out) (fun j hj => HDn.out j (Nat.le_trans HKr.out.size hj)) HDl.out hf HG.out)
              clear HDd hf HG
              go_upto_region 20 with (go_at_call 36
                                      refine HRun.out.mono ?_
                                      rintro e w4 ⟨V1, M1, L1, hT1, hE1, hK1, hA⟩
                                      have HT1 := Lib.hid hT1
                                      have HE1 := Lib.hid hE1
                                      have HK4 := Lib.hid hK1
                                      obtain ⟨f1, rr, rfl, hrr⟩ : ∃ (f1 : Nat) (rr : Int), e = .returned (.tuple #[.int .i64 (f1 : Int), .int .i64 rr]) ∧ ((rr = -1 ∧ f1 = L1.length ∧ ∀ j, j < n → LookG N V1 L1 L1.length j) ∨ (0 ≤ rr ∧ UConf (allK N l K))) := by
                                        rcases hA with ⟨rfl, h⟩ | ⟨f2, j, k', hj, hk', h0, rfl, h⟩
                                        · exact ⟨_, _, rfl, .inl ⟨rfl, rfl, h⟩⟩
                                        · exact ⟨_, _, rfl, .inr ⟨by omega, HT1.out.inv.conf HT1.out.ok.tv (gates_in (by rw [HNn.out]; exact hj) h0 hk') (HKall.out _ (gates_in (by rw [HNn.out]; exact hj) h0 hk')) h⟩⟩
                                      have HRR := Lib.hid hrr
                                      clear hT1 hE1 hK1 hA hrr)
              rcases HRR.out with ⟨rfl, hf1, hL1⟩ | ⟨hr0, hcf⟩
              · have HF1 := Lib.hid hf1
                have HL1 := Lib.hid hL1
                obtain ⟨v2, hTr⟩ := HT1.out.tr
                have HVs := Lib.hid (trail_Values hTr hn)
                clear hf1 hL1 HRR hTr HRun
                go_upto_region 24 with (go_at_call 37; refine HVs.out.mono ?_; rintro e w5 ⟨vv, rfl, hO, hK5⟩; have HO := Lib.hid hO; have HK5 := Lib.hid hK5; clear hO hK5)
                have HK24 := Lib.hid (show Kp D w2 w5 from (HKr.out.trans HK4.out (fun _ _ h => h)).trans HK5.out (fun _ _ h => h.elim))
                have HT5 := Lib.hid (HT1.out.shrink HK5.out)
                obtain ⟨D3, hD3⟩ : ∃ D3, D3 = cutD D w4 w5 := ⟨_, rfl⟩
                rw [← hD3] at HT5
                have HD3 := Lib.hid (show ∀ j, D3 j → D j from fun j h => by rw [hD3] at h; exact h.1)
                have HD3n := Lib.hid (show ∀ j, w5.heap.size ≤ j → D3 j from fun j h => by rw [hD3]; exact ⟨HDn.out j (Nat.le_trans HK24.out.size h), .inr h⟩)
                obtain ⟨va, vc, ev, -, -, hvb, hvr⟩ := HO.out.form
                have HVr := Lib.hid hvr
                have HVf := Lib.hid (show ∀ ad, va = some ad → ¬ D3 ad.block from fun ad had h => by
                  obtain ⟨gg, rfl, h1, h2⟩ := hvb ad had
                  rw [hD3] at h
                  rcases h.2 with e | e <;> simp only at e <;> omega)
                rw [iv_length, HT1.out.ok.tv.len] at ev
                subst ev
                have HW1 := Lib.hid (show ∀ x ∈ l, vlit V1 x = 1 from fun x hx => by
                  obtain ⟨_, -, h1, -⟩ := HE1.out
                  have := HW.out x hx
                  rw [h1 _ (HL.out x hx) (by rw [this]; decide), this])
                have HV1 := Lib.hid HT1.out.ok.tv
                have HLn1 := Lib.hid HE1.out.len
                obtain ⟨mv, hmv⟩ : ∃ mv : Nat, n + 1 = mv := ⟨_, rfl⟩
                have HMV := Lib.hid hmv
                rw [hmv]
                clear hvb hvr hD3 hmv HVs HO HW HE1 HT1
                go_wp2_with fail
                go_loopw [14, 76] (fun v14 v76 wr => ∃ (i : Nat) (d : Bool) (V3 : List Int) (M3 : List (Int × Int × Int)) (L3 : List Int), v76 = .int .i64 i ∧ v14 = .bool d ∧ i ≤ mk ∧ TrS wr D3 p g0 g1 n (.slice none 0 0) [] (fun V _ _ => Told n V (allK N l K)) V3 M3 L3 ∧ Kp D3 w5 wr ∧ Ext n V1 L1 V3 L3 ∧ (d = true → V3 = V1 ∧ L3 = L1 ∧ ∀ i', i' < i → Done V1 (kc K i')) ∧ (d = false → L1.length < L3.length)) (fun _ v76 _ => mk - (intOf v76).toNat)
                case atStart => exact ⟨0, true, _, _, _, rfl, rfl, Nat.zero_le _, HT5.out, Kp.refl _ _, Ext.refl _ _ _, fun _ => ⟨rfl, rfl, fun i hi => absurd hi (Nat.not_lt_zero i)⟩, fun h => by cases h⟩
                case round =>
                  obtain ⟨i, d, V3, M3, L3, rfl, rfl, hi, hT3, hK3, hE3, hd1, hd2⟩ := hrel
                  have HT3 := Lib.hid hT3
                  have HK3 := Lib.hid hK3
                  have HE3 := Lib.hid hE3
                  have HDt := Lib.hid hd1
                  have HDf := Lib.hid hd2
                  clear hT3 hK3 hE3 hd1 hd2 HT5
                  obtain ⟨wy, rfl⟩ : ∃ wy : World, wy = wr := ⟨_, rfl⟩
                  have HKy := Lib.hid (show Kp D w2 wy from HK24.out.trans HK3.out (fun j _ h => HD3.out j h))
                  by_cases hlt : i < mk
                  · have hik : i < K.length := by rw [HK.out.len]; exact hlt
                    obtain ⟨kb, ko, ka, kcp, rfl, hcell, hrow⟩ := (HK.out.kp (HKf.out wy HKy.out)).at hlt
                    have hcm := kc_mem hik
                    obtain ⟨c, hc⟩ : ∃ c, kc K i = c := ⟨_, rfl⟩
                    have HCi := Lib.hid hc
                    rw [hc] at hcell hrow hcm
                    have hcn := HKK.out c hcm
                    have hcl := HKl.out c hcm
                    have HCm := Lib.hid (show c ∈ allK N l K by unfold allK; exact List.mem_append.2 (.inr hcm))
                    obtain ⟨cm, hcm2⟩ : ∃ cm, c.length = cm := ⟨_, rfl⟩
                    rw [hcm2] at hcell
                    have HKn := Lib.hid ((imply_known an n cn ka cm kcp c wy hrow hcm2 (by omega) (fun x hx => by have := (hcn x hx).2; omega)).mono (R' := fun e w' => e = .returned (.bool true) ∧ Kp (fun _ => False) wy w') (by rintro e w' ⟨rfl, h⟩; rw [knB_iff.2 hcn]; exact ⟨rfl, h⟩))
                    have HVal := Lib.hid (fun u (hu : Kp (fun _ => False) wy u) => clause_Value va mv vc V1 n ka cm kcp c u ((HVr.out.kp HK3.out HVf.out).kp hu (fun _ _ h => h)) HV1.out HMV.out hn (hrow.kp hu (fun _ _ h => h)) hcm2 (by omega) hcn)
                    have HUn := Lib.hid (fun u (hu : Kp (fun _ => False) wy u) => clause_Unit va mv vc V1 n ka cm kcp c u ((HVr.out.kp HK3.out HVf.out).kp hu (fun _ _ h => h)) HV1.out HMV.out hn (hrow.kp hu (fun _ _ h => h)) hcm2 (by omega) hcn)
                    have i0 : (0 : Int) ≤ (i : Int) := by omega
                    have i1 : (i : Int) < (mk : Int) := by omega
                    have HHn := Lib.hid hcn
                    clear hik hc hcm hcl hcm2 hrow
                    rcases clause_ways HV1.out hcn with hz | ⟨x, hx⟩ | hd
                    · have HCf := Lib.hid (show UConf (allK N l K) from HT3.out.inv.conf HT3.out.ok.tv HCm.out HHn.out (fun y hy => by
                        obtain ⟨_, -, h1, -⟩ := HE3.out
                        have := hz y hy
                        rw [h1 _ (HHn.out y hy) (by rw [this]; decide), this]))
                      have HVz := Lib.hid (fun u hu => (HVal.out u hu).mono (R' := fun e w' => e = .returned (.int .i64 0) ∧ u = w') (by rintro e w' ⟨rfl, h⟩; rw [clv_zero hz]; exact ⟨rfl, h⟩))
                      clear HVal HUn hz hcn
                      go_wp2_with (first
                        | (go_at_call 33; refine HKn.out.mono ?_; rintro e w6 ⟨rfl, hK6⟩; have HVz1 := Lib.hid (HVz.out w6 hK6); have HK6 := Lib.hid hK6; clear hK6)
                        | (go_at_call 38; refine HVz1.out.mono ?_; rintro e w7 ⟨rfl, rfl⟩))
                      exact bodyPost_ret (v := .tuple #[.slice none 0 0, .bool false]) (by simp [results, Tryz.results21, go_sem]) rfl ⟨.inr ⟨HCf.out, rfl⟩, (HKf.out _ HKy.out).trans HK6.out (fun _ _ h => h)⟩
                    · have hnz : clv V1 c ≠ 0 := fun e => by
                        have := (clv_zero_iff HV1.out hcn).1 e x hx.1
                        rw [hx.2.1] at this
                        exact absurd this (by decide)
                      obtain ⟨cv, hcv⟩ : ∃ cv, clv V1 c = cv := ⟨_, rfl⟩
                      rw [hcv] at hnz
                      simp only [hcv] at HVal
                      have hb : (cv == 0) = false := by simp [hnz]
                      have hxk := hcn x hx.1
                      have HXX := Lib.hid hx
                      have HXK := Lib.hid hxk
                      have HUx := Lib.hid (fun u hu => (HUn.out u hu).mono (R' := fun e w' => e = .returned (.tuple #[.int .i64 x, .bool true]) ∧ u = w') (by
                        rintro e w' ⟨⟨l', hl', rfl⟩ | ⟨hno, -⟩, h⟩
                        · rw [hx.uniq hl']; exact ⟨rfl, h⟩
                        · exact absurd hx (hno x)))
                      obtain ⟨v2, hTr⟩ := HT3.out.tr
                      have HTr := Lib.hid hTr
                      clear HUn hnz hcn hx hxk hTr hcv
                      rcases HT3.out.ok.tv.vlit HXK.out with hz | ho | hf
                      · have HCf := Lib.hid (show UConf (allK N l K) from HT3.out.inv.conf HT3.out.ok.tv HCm.out HHn.out (fun y hy => by
                          by_cases q : y = x
                          · rw [q]; exact hz
                          · obtain ⟨_, -, h1, -⟩ := HE3.out
                            have := HXX.out.2.2 y hy q
                            rw [h1 _ (HHn.out y hy) (by rw [this]; decide), this]))
                        have HSt := Lib.hid (fun u (hu : Kp (fun _ => False) wy u) => trail_Set_zero (HTr.out.kp hu) HT3.out.ok.tv hn HXK.out (-1) hz)
                        clear hz
                        go_wp2_with (first
                          | (go_at_call 33; refine HKn.out.mono ?_; rintro e w6 ⟨rfl, hK6⟩; have HVz1 := Lib.hid (HVal.out w6 hK6); have HUx1 := Lib.hid (HUx.out w6 hK6); have HSt1 := Lib.hid (HSt.out w6 hK6); have HK6 := Lib.hid hK6; clear hK6)
                          | (go_at_call 38; refine HVz1.out.mono ?_; rintro e w7 ⟨rfl, rfl⟩)
                          | (go_at_call 39; refine HUx1.out.mono ?_; rintro e w7 ⟨rfl, rfl⟩)
                          | (go_at_call 34; refine HSt1.out.mono ?_; rintro e w7 ⟨rfl, rfl⟩))
                        exact bodyPost_ret (v := .tuple #[.slice none 0 0, .bool false]) (by simp [results, Tryz.results21, go_sem]) rfl ⟨.inr ⟨HCf.out, rfl⟩, (HKf.out _ HKy.out).trans HK6.out (fun _ _ h => h)⟩
                      · have HSt := Lib.hid (fun u (hu : Kp (fun _ => False) wy u) => trail_Set_one (HTr.out.kp hu) HT3.out.ok.tv hn HXK.out (-1) ho)
                        have HDd := Lib.hid (show d = false from by
                          cases d with
                          | false => rfl
                          | true =>
                            have h := (HDt.out rfl).1
                            rw [h, HXX.out.2.1] at ho
                            exact absurd ho (by decide))
                        clear ho
                        go_wp2_with (first
                          | (go_at_call 33; refine HKn.out.mono ?_; rintro e w6 ⟨rfl, hK6⟩; have HVz1 := Lib.hid (HVal.out w6 hK6); have HUx1 := Lib.hid (HUx.out w6 hK6); have HSt1 := Lib.hid (HSt.out w6 hK6); have HK6 := Lib.hid hK6; clear hK6)
                          | (go_at_call 38; refine HVz1.out.mono ?_; rintro e w7 ⟨rfl, rfl⟩)
                          | (go_at_call 39; refine HUx1.out.mono ?_; rintro e w7 ⟨rfl, rfl⟩)
                          | (go_at_call 34; refine HSt1.out.mono ?_; rintro e w7 ⟨rfl, rfl⟩))
                        go_roundw
                        case rel => exact ⟨i + 1, d, V3, M3, L3, by go_num, rfl, hlt, HT3.out.kp HK6.out, HK3.out.trans HK6.out (fun _ _ h => h.elim), HE3.out, (fun e => by rw [HDd.out] at e; cases e), HDf.out⟩
                        case measure => simp [intOf]; omega
                      · have HSt := Lib.hid (fun u (hu : Kp (fun _ => False) wy u) => trail_Set_free (HTr.out.kp hu) (fun j hj => HD3n.out j (Nat.le_trans HK3.out.size (Nat.le_trans hu.size hj))) HT3.out.ok.tv hn HXK.out (-1) hf HT3.out.ok.len)
                        have HEx := Lib.hid (show Ext n V3 L3 (vset V3 x) (L3 ++ [x]) from Ext.set HT3.out.ok.tv HXK.out hf)
                        have HOk := Lib.hid (HT3.out.ok.set HXK.out hf)
                        have HIn := Lib.hid (show Told n (vset V3 x) (allK N l K) from HT3.out.inv.set HT3.out.ok.tv HCm.out HHn.out ⟨HXX.out.1, hf, fun y hy q => by
                          obtain ⟨_, -, h1, -⟩ := HE3.out
                          have := HXX.out.2.2 y hy q
                          rw [h1 _ (HHn.out y hy) (by rw [this]; decide), this]⟩)
                        clear hf
                        go_wp2_with (first
                          | (go_at_call 33; refine HKn.out.mono ?_; rintro e w6 ⟨rfl, hK6⟩; have HVz1 := Lib.hid (HVal.out w6 hK6); have HUx1 := Lib.hid (HUx.out w6 hK6); have HSt1 := Lib.hid (HSt.out w6 hK6); have HK6 := Lib.hid hK6; clear hK6)
                          | (go_at_call 38; refine HVz1.out.mono ?_; rintro e w7 ⟨rfl, rfl⟩)
                          | (go_at_call 39; refine HUx1.out.mono ?_; rintro e w7 ⟨rfl, rfl⟩)
                          | (go_at_call 34; refine HSt1.out.mono ?_; rintro e w7 ⟨v2', rfl, hT7, hK7⟩; have HT7 := Lib.hid hT7; have HK7 := Lib.hid hK7; clear hT7 hK7))
                        go_roundw
                        case rel => exact ⟨i + 1, false, _, _, _, by go_num, rfl, hlt, ⟨⟨_, HT7.out⟩, HOk.out, HIn.out⟩, (HK3.out.trans HK6.out (fun _ _ h => h.elim)).trans HK7.out (fun _ _ h => h), HE3.out.trans HEx.out, (fun e => by cases e), (fun _ => by have := HE3.out.len; rw [List.length_append, List.length_singleton]; omega)⟩
                        case measure => simp [intOf]; omega
                    · have hnz : clv V1 c ≠ 0 := fun e => by
                        have hz := (clv_zero_iff HV1.out hcn).1 e
                        rcases hd with ⟨x, hx, e⟩ | ⟨x, hx, _, _, _, e, _⟩
                        · have := hz x hx; rw [e] at this; exact absurd this (by decide)
                        · have := hz x hx; rw [e] at this; exact absurd this (by decide)
                      obtain ⟨cv, hcv⟩ : ∃ cv, clv V1 c = cv := ⟨_, rfl⟩
                      rw [hcv] at hnz
                      simp only [hcv] at HVal
                      have hb : (cv == 0) = false := by simp [hnz]
                      have HUx := Lib.hid (fun u hu => (HUn.out u hu).mono (R' := fun e w' => e = .returned (.tuple #[.int .i64 0, .bool false]) ∧ u = w') (by
                        rintro e w' ⟨⟨l', hl', rfl⟩ | ⟨-, rfl⟩, h⟩
                        · exact (hl'.not_done hd).elim
                        · exact ⟨rfl, h⟩))
                      have HDd := Lib.hid hd
                      clear HUn hnz hcn hd hcv
                      go_wp2_with (first
                        | (go_at_call 33; refine HKn.out.mono ?_; rintro e w6 ⟨rfl, hK6⟩; have HVz1 := Lib.hid (HVal.out w6 hK6); have HUx1 := Lib.hid (HUx.out w6 hK6); have HK6 := Lib.hid hK6; clear hK6)
                        | (go_at_call 38; refine HVz1.out.mono ?_; rintro e w7 ⟨rfl, rfl⟩)
                        | (go_at_call 39; refine HUx1.out.mono ?_; rintro e w7 ⟨rfl, rfl⟩))
                      go_roundw
                      case rel =>
                        refine ⟨i + 1, d, V3, M3, L3, by go_num, rfl, hlt, HT3.out.kp HK6.out, HK3.out.trans HK6.out (fun _ _ h => h.elim), HE3.out, fun e => ?_, HDf.out⟩
                        obtain ⟨h1, h2, h3⟩ := HDt.out e
                        refine ⟨h1, h2, fun i' hi' => ?_⟩
                        by_cases q : i' = i
                        · rw [q, HCi.out]; exact HDd.out
                        · exact h3 i' (by omega)
                      case measure => simp [intOf]; omega
                  · have him : i = mk := by omega
                    have hno : decide ((i : Int) < (mk : Int)) = false := by simp; omega
                    have HEnd := Lib.hid (show TrS wy D p g0 g1 n (.slice none 0 0) [] (fun V _ _ => Told n V (allK N l K)) V3 M3 L3 from HT3.out.mono (fun j _ h => HD3.out j h))
                    have HTl3 := Lib.hid HT3.out.trLen
                    have HLn3 := Lib.hid HT3.out.ok.len
                    have HAll := Lib.hid (show d = true → ∀ c ∈ K, Done V3 c from fun e c hc => by
                      obtain ⟨h1, h2, h3⟩ := HDt.out e
                      obtain ⟨i', hi', rfl⟩ := mem_kc hc
                      rw [h1]
                      exact h3 i' (by rw [him, ← HK.out.len]; exact hi'))
                    have HLk3 := Lib.hid (show ∀ j, j < n → LookG N V3 L3 L1.length j from fun j hj => (HL1.out j hj).ext HN.out (by rw [HNn.out]; exact hj) (by rw [HNn.out]; exact HE3.out) (Nat.le_refl _))
                    have HW3 := Lib.hid (show ∀ x ∈ l, vlit V3 x = 1 from fun x hx => by
                      obtain ⟨_, -, h1, -⟩ := HE3.out
                      have := HW1.out x hx
                      rw [h1 _ (HL.out x hx) (by rw [this]; decide), this])
                    clear him
                    go_wp2_with fail
                    go_roundw
                    case rel =>
                      refine ⟨f1, V3, M3, L3, d, rfl, rfl, by rw [HF1.out]; exact HE3.out.len, HEnd.out, HKy.out, HW3.out, by rw [HF1.out]; exact HLk3.out, fun e => ⟨?_, HAll.out e⟩⟩
                      obtain ⟨h1, h2, -⟩ := HDt.out e
                      rw [h2]; exact h2 ▸ HLk3.out
                    case measure =>
                      have h1 := HTl3.out
                      have h2 := HTl.out
                      have h3 := HLn3.out
                      have h4 := HLn1.out
                      have h5 := HE3.out.len
                      rw [h1, h2]
                      cases d with
                      | true => simp; omega
                      | false => have := HDf.out rfl; simp; omega
              · have HCf := Lib.hid hcf
                clear hcf HRR HRun
                go_wp2_with fail
                exact bodyPost_ret (v := .tuple #[.slice none 0 0, .bool false]) (by simp [results, Tryz.results21, go_sem]) rfl ⟨.inr ⟨HCf.out, rfl⟩, HKf.out _ (HKr.out.trans HK4.out (fun _ _ h => h))⟩

end Go.Proofs.YthconjhldjaldaaGreatDoor

/-
  Clauses in a slice of the call's own, whose rows lie elsewhere: it may grow.
-/
namespace Go.Proofs.YthconjhldjaldaaGreatDoor
open Go.RowKit

/-- v owns the headers vs, which lead to the clauses K, in blocks of which P holds -/
structure ClsV (P : Nat → Prop) (w : World) (base : Nat) (v : Value) (K : List (List Int)) (vs : List Value) : Prop where
  own : Own w base 23 v vs
  len : vs.length = K.length
  row : ∀ k, k < K.length → ∃ b c, vs[k]? = some (.slice b (kc K k).length c) ∧ RowAt w b (iv (kc K k)) ∧ (kc K k = [] ∨ ∀ p, b = some p → p.block < w.heap.size ∧ v.ownBlock ≠ some p.block ∧ P p.block)

theorem kc_append_lt {K L : List (List Int)} {k : Nat} (h : k < K.length) : kc (K ++ L) k = kc K k := by unfold kc; rw [List.getElem?_append_left h]
theorem kc_append_ge {K L : List (List Int)} {k : Nat} (h : K.length ≤ k) : kc (K ++ L) k = kc L (k - K.length) := by unfold kc; rw [List.getElem?_append_right h]
theorem kc_last (K : List (List Int)) (c : List Int) : kc (K ++ [c]) K.length = c := by rw [kc_append_ge (Nat.le_refl _), Nat.sub_self]; rfl
theorem RowAt.empty {w : World} {a : Option Addr} {l : List Int} (h : l = []) : RowAt w a (iv l) := by subst h; exact RowAt.nil w a

section
variable {P : Nat → Prop} {w w' w2 : World} {base : Nat} {v v' : Value} {K : List (List Int)} {vs : List Value}

theorem ClsV.nil (w : World) {base : Nat} {v : Value} (h : Own w base 23 v []) : ClsV P w base v [] [] := ⟨h, rfl, fun k hk => absurd hk (Nat.not_lt_zero k)⟩

theorem ClsV.cls (h : ClsV P w base v K vs) : ∃ a c, v = .slice a K.length c ∧ SlOK a K.length c ∧ Cls w a K.length K := by
  obtain ⟨a, c, e, h1, h2, h3, h4⟩ := h.own.form
  have hnil := fun q => own_nilc (e ▸ h.own) q
  rw [h.len] at e h1
  exact ⟨a, c, e, ⟨by omega, by omega, hnil⟩, rfl, vs, h4, h.len, fun k hk => by
    obtain ⟨b, c, e, r, _⟩ := h.row k hk
    exact ⟨b, c, e, r⟩⟩

theorem ClsV.head (h : ClsV P w base v K vs) : ∃ a c, v = .slice a K.length c ∧ (a = none → c = 0) ∧ RowAt w a vs := by
  obtain ⟨a, c, e, h1, h2, h3, h4⟩ := h.own.form
  have hnil := fun q => own_nilc (e ▸ h.own) q
  rw [h.len] at e
  exact ⟨a, c, e, hnil, h4⟩
theorem ClsV.one (h : ClsV P w base v K vs) : ∀ u ∈ vs, u.oneCell' = true := by
  intro u hu
  obtain ⟨k, hk, rfl⟩ := List.mem_iff_getElem.1 hu
  obtain ⟨b, c, e, _⟩ := h.row k (by rw [← h.len]; exact hk)
  rw [List.getElem?_eq_getElem hk] at e
  simp at e
  rw [e]; rfl

theorem ClsV.kpS {S : Nat → Prop} (h : ClsV P w base v K vs) (k : Kp S w w') (h1 : ∀ j, v.ownBlock = some j → ¬ S j) (h2 : ∀ j, P j → ¬ S j) : ClsV P w' base v K vs := by
  refine ⟨h.own.kp k h1, h.len, fun i hi => ?_⟩
  obtain ⟨b, c, e, r, q⟩ := h.row i hi
  rcases q with q | q
  · exact ⟨b, c, e, .empty q, .inl q⟩
  · exact ⟨b, c, e, r.kp k (fun p hp => h2 _ (q p hp).2.2), .inr fun p hp => ⟨Nat.lt_of_lt_of_le (q p hp).1 k.size, (q p hp).2⟩⟩
theorem ClsV.kp (h : ClsV P w base v K vs) (k : Kp (fun _ => False) w w') : ClsV P w' base v K vs := h.kpS k (fun _ _ h => h) (fun _ _ h => h)
theorem ClsV.mono {P' : Nat → Prop} (h : ClsV P w base v K vs) (hp : ∀ j, P j → P' j) : ClsV P' w base v K vs :=
  ⟨h.own, h.len, fun k hk => by
    obtain ⟨b, c, e, r, q⟩ := h.row k hk
    exact ⟨b, c, e, r, q.imp id fun q p hp2 => ⟨(q p hp2).1, (q p hp2).2.1, hp _ (q p hp2).2.2⟩⟩⟩

theorem ClsV.push {b : Option Addr} {cap : Nat} {c : List Int} (h : ClsV P w base v K vs) (hr : RowAt w b (iv c)) (hb : c = [] ∨ ∀ p, b = some p → p.block < w.heap.size ∧ v.ownBlock ≠ some p.block ∧ P p.block)
    (hO : Own w2 base 23 v' (vs ++ [.slice b c.length cap])) (hg : w.grownBy w2 v.ownBlock) (hat : v'.ownBlock = v.ownBlock ∨ v'.ownBlock = some w.heap.size) : ClsV P w2 base v' (K ++ [c]) (vs ++ [.slice b c.length cap]) := by
  have hk : Kp (fun j => v.ownBlock = some j) w w2 := (Kp.refl _ w).grown hg (fun j hj _ => hj)
  have one : ∀ (b : Option Addr) (c : List Int), RowAt w b (iv c) → (c = [] ∨ ∀ p, b = some p → p.block < w.heap.size ∧ v.ownBlock ≠ some p.block ∧ P p.block) → RowAt w2 b (iv c) ∧ (c = [] ∨ ∀ p, b = some p → p.block < w2.heap.size ∧ v'.ownBlock ≠ some p.block ∧ P p.block) := by
    intro b c hr hb
    rcases hb with hb | hb
    · exact ⟨.empty hb, .inl hb⟩
    · refine ⟨hr.kp hk (fun p hp => (hb p hp).2.1), .inr fun p hp => ?_⟩
      obtain ⟨q1, q2, q3⟩ := hb p hp
      refine ⟨Nat.lt_of_lt_of_le q1 hk.size, ?_, q3⟩
      rcases hat with e | e <;> rw [e]
      · exact q2
      · intro q; simp at q; omega
  refine ⟨hO, by rw [List.length_append, List.length_append, h.len]; rfl, fun k hkl => ?_⟩
  rw [List.length_append, List.length_singleton] at hkl
  by_cases e : k < K.length
  · obtain ⟨b', c', e1, r1, q1⟩ := h.row k e
    rw [kc_append_lt e]
    obtain ⟨r2, q2⟩ := one b' _ r1 q1
    exact ⟨b', c', by rw [List.getElem?_append_left (by rw [h.len]; exact e)]; exact e1, r2, q2⟩
  · have : k = K.length := by omega
    subst this
    rw [kc_last]
    obtain ⟨r2, q2⟩ := one b c hr hb
    exact ⟨b, cap, by rw [List.getElem?_append_right (by rw [h.len]; exact Nat.le_refl _), h.len, Nat.sub_self]; rfl, r2, q2⟩

/-- two of them, one behind the other -/
theorem ClsV.join {P2 : Nat → Prop} {base2 : Nat} {v2 : Value} {K2 : List (List Int)} {vs2 : List Value} (h : ClsV P w base v K vs) (h2 : ClsV P2 w base2 v2 K2 vs2) (hp : ∀ j, P2 j → v.ownBlock ≠ some j)
    (hO : Own w2 base 23 v' (vs ++ vs2)) (hg : w.grownBy w2 v.ownBlock) : ∃ a c, v' = .slice a (K ++ K2).length c ∧ SlOK a (K ++ K2).length c ∧ Cls w2 a (K ++ K2).length (K ++ K2) := by
  have hk : Kp (fun j => v.ownBlock = some j) w w2 := (Kp.refl _ w).grown hg (fun j hj _ => hj)
  obtain ⟨a, c, e, h1, h2', h3, h4⟩ := hO.form
  have hnil := fun q => own_nilc (e ▸ hO) q
  have hlen : (vs ++ vs2).length = (K ++ K2).length := by rw [List.length_append, List.length_append, h.len, h2.len]
  rw [hlen] at e h1
  refine ⟨a, c, e, ⟨by omega, by omega, hnil⟩, rfl, vs ++ vs2, h4, hlen, fun k hkl => ?_⟩
  rw [List.length_append] at hkl
  by_cases q : k < K.length
  · obtain ⟨b', c', e1, r1, q1⟩ := h.row k q
    rw [kc_append_lt q]
    refine ⟨b', c', by rw [List.getElem?_append_left (by rw [h.len]; exact q)]; exact e1, ?_⟩
    rcases q1 with q1 | q1
    · exact .empty q1
    · exact r1.kp hk (fun p hp => (q1 p hp).2.1)
  · obtain ⟨b', c', e1, r1, q1⟩ := h2.row (k - K.length) (by omega)
    rw [kc_append_ge (by omega)]
    refine ⟨b', c', by rw [List.getElem?_append_right (by rw [h.len]; omega), h.len]; exact e1, ?_⟩
    rcases q1 with q1 | q1
    · exact .empty q1
    · exact r1.kp hk (fun p hp2 => hp _ (q1 p hp2).2.2)
end

end Go.Proofs.YthconjhldjaldaaGreatDoor

/-
  slices.Equal of ints; slices.Clone, slices.Delete, slices.IndexFunc of clauses.
-/
namespace Go.Proofs.YthconjhldjaldaaGreatDoor
open Go.RowKit Go.Sort

theorem ints_Equal (a b : Option Addr) (n c m d : Nat) (l r : List Int) (w : World) (ha : RowAt w a (iv l)) (hb : RowAt w b (iv r)) (hl : l.length = n) (hr : r.length = m) (hn : n ≤ 9223372036854775807) (hm : m ≤ 9223372036854775807) :
    Calls Tryz.prog 54 #[.slice a n c, .slice b m d] w fun e w' => e = .returned (.bool (l == r)) ∧ ∃ q, w' = w.drewN q := by
  by_cases hnm : n = m
  · subst hnm
    by_cases h0 : n = 0
    · subst h0
      have e1 : l = [] := List.eq_nil_of_length_eq_zero hl
      have e2 : r = [] := List.eq_nil_of_length_eq_zero hr
      subst e1 e2
      exact (Tryz.slices_Equal_int_empty a b c 0 d w hm).mono fun e w' h => ⟨h.1, 0, h.2⟩
    · obtain ⟨b1, o1, rfl, -⟩ := ha 0 _ (iv_at (by omega))
      obtain ⟨b2, o2, rfl, -⟩ := hb 0 _ (iv_at (by omega))
      have cells : ∀ (b1 o1 : Nat) (l : List Int), RowAt w (some ⟨b1, o1, none⟩) (iv l) → ∀ j, j < l.length → w.cell? ⟨b1, o1 + j, none⟩ = some (.int .i64 (l.getD j 0)) := by
        intro b1 o1 l ha j hj
        obtain ⟨b, o, e, hc⟩ := ha j _ (iv_at hj)
        simp only [Option.some.injEq, Addr.mk.injEq, and_true] at e
        obtain ⟨rfl, rfl⟩ := e
        rw [hc]
        unfold gi
        rw [List.getD_eq_getElem?_getD]
      refine (Tryz.slices_Equal_int b1 o1 n c b2 o2 n d l r w (by omega) (by omega) hn hm (cells _ _ _ ha) (cells _ _ _ hb)).mono ?_
      rintro e w' ⟨h1, h2⟩
      have t1 : l.take n = l := by rw [← hl, List.take_length]
      have t2 : r.take n = r := by rw [← hr, List.take_length]
      rw [t1, t2] at h1
      exact ⟨h1, h2⟩
  · have e : (l == r) = false := by
      rw [beq_eq_false_iff_ne]
      intro e
      exact hnm (by rw [← hl, ← hr, e])
    rw [e]
    exact (Tryz.slices_Equal_int_lens a b n c m d w hnm).mono fun e w' h => ⟨h.1, 0, h.2⟩

/-- header k, or an empty one's -/
def hdr (vs : List Value) (k : Nat) : Value := vs[k]?.getD (.slice none 0 0)
theorem range_get {m j : Nat} (h : j < m) : (List.range m)[j]! = j := by simp [h]

section
variable {P : Nat → Prop} {w w' : World} {base : Nat} {v : Value} {K : List (List Int)} {vs : List Value}

theorem ClsV.hdr (h : ClsV P w base v K vs) (k : Nat) : ∃ a c, hdr vs k = .slice a (kc K k).length c ∧ RowAt w a (iv (kc K k)) := by
  by_cases hk : k < K.length
  · obtain ⟨b, c, e, r, _⟩ := h.row k hk
    exact ⟨b, c, by unfold Go.Proofs.YthconjhldjaldaaGreatDoor.hdr; rw [e]; rfl, r⟩
  · have e : kc K k = [] := by unfold kc; rw [List.getElem?_eq_none (by omega)]; rfl
    refine ⟨none, 0, ?_, .empty e⟩
    rw [e]
    unfold Go.Proofs.YthconjhldjaldaaGreatDoor.hdr
    rw [List.getElem?_eq_none (by rw [h.len]; omega)]; rfl
theorem ClsV.hdr_one (h : ClsV P w base v K vs) (k : Nat) : (Go.Proofs.YthconjhldjaldaaGreatDoor.hdr vs k).oneCell' = true := by
  obtain ⟨a, c, e, _⟩ := h.hdr k
  rw [e]; rfl

theorem mem_first {K : List (List Int)} {c : List Int} (hc : c ∈ K) : K.idxOf c < K.length ∧ kc K (K.idxOf c) = c ∧ (∀ i, i < K.idxOf c → kc K i ≠ c) ∧ K.eraseIdx (K.idxOf c) = K.erase c := by
  have h1 : K.idxOf c < K.length := List.idxOf_lt_length_iff.2 hc
  refine ⟨h1, ?_, fun i hi => ?_, (List.erase_eq_eraseIdx_of_idxOf rfl).symm⟩
  · unfold kc
    rw [List.getElem?_eq_getElem h1, List.getElem_idxOf h1]; rfl
  · unfold kc
    rw [List.getElem?_eq_getElem (by omega)]
    have := List.not_of_lt_findIdx (p := (· == c)) (xs := K) hi
    simpa using this

/-- the place of a clause that is there -/
theorem rows_IndexFunc (h : ClsV P w base v K vs) {pb : Nat} {ac : Option Addr} {mc cc : Nat} {c : List Int} (hp : w.cell? ⟨pb, 0, none⟩ = some (.slice ac mc cc)) (hr : RowAt w ac (iv c)) (hl : c.length = mc) (hm : mc ≤ 1000000) (hc : c ∈ K) (hK : K.length ≤ 1000000) (hKl : ∀ c ∈ K, c.length ≤ 1000000) :
    Calls Tryz.prog 52 #[v, .func (.func 53) #[] #[.pointer (some ⟨pb, 0, none⟩)]] w fun e w' => e = .returned (.int .i64 (K.idxOf c)) ∧ ∃ q, w' = w.drewN q := by
  obtain ⟨h1, h2, h3, -⟩ := mem_first hc
  obtain ⟨g, cap, rfl, -, -⟩ := h.own.leads (by rw [h.len]; omega)
  have hB : ∀ {W : World} {b off : Nat} {u : Value}, Below w.heap.size w W → w.cell? ⟨b, off, none⟩ = some u → W.cell? ⟨b, off, none⟩ = some u := fun hW hq => by
    have hlt := World.block_lt_of_cell? w _ hq
    exact (World.cell?_of_block (w := w) (w' := _) (a := ⟨_, _, none⟩) (hW.block _ hlt)).trans hq
  have hRow : ∀ {W : World} {a : Option Addr} {l : List Int}, Below w.heap.size w W → RowAt w a (iv l) → RowAt W a (iv l) := fun hW hr => hr.kp (Kp.of_below hW (fun _ => False)) (fun _ _ h => h)
  have hW0 : ∀ k, (kc K k).length ≤ 1000000 := fun k => by
    by_cases hk : k < K.length
    · exact hKl _ (kc_mem hk)
    · unfold kc; rw [List.getElem?_eq_none (by omega)]; simp
  have hPd : PredAt Tryz.prog 53 #[.pointer (some ⟨pb, 0, none⟩)] (Go.Proofs.YthconjhldjaldaaGreatDoor.hdr vs) (fun k => kc K k == c) w := by
    intro W k hW
    obtain ⟨a, c2, e, hra⟩ := h.hdr k
    have HE := Lib.hid (ints_Equal a ac _ c2 mc cc (kc K k) c W (hRow hW hra) (hRow hW hr) rfl hl (by have := hW0 k; omega) (by omega))
    have hcell := hB hW hp
    show Calls Tryz.prog 53 #[Go.Proofs.YthconjhldjaldaaGreatDoor.hdr vs k, .pointer (some ⟨pb, 0, none⟩)] W fun e w' => e = .returned (.bool (kc K k == c)) ∧ ∃ q, w' = W.drewN q
    rw [e]
    obtain ⟨x, hx⟩ : ∃ x, (kc K k == c) = x := ⟨_, rfl⟩
    obtain ⟨mk, hmk⟩ : ∃ mk, (kc K k).length = mk := ⟨_, rfl⟩
    rw [hx, hmk] at HE
    rw [hx, hmk]
    clear h h1 h2 h3 hp hr hl hc hKl hB hRow hW hra e hx hmk hW0
    go_enter Tryz.func53, Tryz.ntmps53
    go_wp2_with (go_at_call 54; refine HE.out.mono ?_; rintro e w1 ⟨rfl, q, rfl⟩)
    go_ret
    exact ⟨rfl, q, rfl⟩
  have hr2 := Tryz.slices_IndexFunc_f52 (Go.Proofs.YthconjhldjaldaaGreatDoor.hdr vs) (fun k => kc K k == c) 53 #[.pointer (some ⟨pb, 0, none⟩)] (enters_of Tryz.func53 (by kernel_rfl) rfl) g 0 vs.length cap (List.range vs.length) w hPd (by simp) (by rw [h.len]; omega) (fun j hj => by
    have hj2 : j < vs.length := by simpa using hj
    rw [range_get hj2, Nat.zero_add]
    have := h.own.cell (j := j) (List.getElem?_eq_getElem hj2)
    rw [this]
    unfold Go.Proofs.YthconjhldjaldaaGreatDoor.hdr
    rw [List.getElem?_eq_getElem hj2]; rfl)
  refine hr2.mono ?_
  rintro e w' ⟨h5, h6⟩
  refine ⟨?_, h6⟩
  rw [h5]
  have hlt : K.idxOf c < vs.length := by rw [h.len]; exact h1
  rw [Lib.idxBy_hit (fun _ y => kc K y == c) (List.range vs.length) vs.length (K.idxOf c) default hlt (by simp) (by rw [range_get hlt]; simpa using h2) (fun j hj => by rw [range_get (by omega)]; simpa using h3 j hj)]

/-- a clone of clauses -/
theorem rows_Clone (h : ClsV P w base v K vs) (h0 : 0 < K.length) (hK : K.length ≤ 1000000) :
    Calls Tryz.prog 56 #[v] w fun e w' => (∃ v', e = .returned v' ∧ ClsV P w' w.heap.size v' K vs) ∧ Kp (fun _ => False) w w' := by
  obtain ⟨g, cap, rfl, -, -⟩ := h.own.leads (by rw [h.len]; exact h0)
  obtain ⟨i0, hi, hz0, hz1, hz2⟩ := info_parts (show (Tryz.prog.info? 23).map (fun i => (i.zero, i.size, i.bytes)) = some (some (.slice none 0 0), 1, 24) by kernel_rfl)
  refine (Tryz.slices_Clone_f56 i0 _ 1 24 hi hz0 hz1 hz2 rfl (by decide) (fun u => Tryz.sizeOf23 u) g 0 vs.length cap vs w (by omega) (by rw [h.len]; unfold maxLen; omega) (by rw [h.len]; omega) (fun j u hu => by rw [Nat.zero_add]; exact h.own.cell hu) h.one).mono ?_
  rintro e w' ⟨v', rfl, h1, -, h2⟩
  have k := Kp.of_below h2 (fun _ => False)
  refine ⟨⟨v', rfl, h1, h.len, fun i hi => ?_⟩, k⟩
  obtain ⟨b, c, e, r, q⟩ := h.row i hi
  rcases q with q | q
  · exact ⟨b, c, e, .empty q, .inl q⟩
  · refine ⟨b, c, e, r.kp k (fun _ _ h => h), .inr fun p hp => ⟨Nat.lt_of_lt_of_le (q p hp).1 k.size, fun e => ?_, (q p hp).2.2⟩⟩
    have := (World.ownsRow.lt h1 _ e).1
    have := (q p hp).1
    omega

theorem kc_erase {K : List (List Int)} {k j : Nat} : kc (K.eraseIdx k) j = kc K (if j < k then j else j + 1) := by
  unfold kc
  rw [List.getElem?_eraseIdx]
  split <;> rfl

/-- a clause less -/
theorem rows_Delete (h : ClsV P w base v K vs) {k : Nat} (hk : k < K.length) (hK : K.length ≤ 1000000) :
    Calls Tryz.prog 55 #[v, .int .i64 (k : Int), .int .i64 ((k + 1 : Nat) : Int)] w fun e w' => (∃ v', e = .returned v' ∧ ClsV P w' base v' (K.eraseIdx k) (vs.eraseIdx k)) ∧ Kp (fun j => v.ownBlock = some j) w w' := by
  have hlen := h.len
  have hkv : k < vs.length := by rw [hlen]; exact hk
  obtain ⟨-, hn | ⟨g, cap, cur, rfl, hb, hg, h1, h2, h3, h4⟩⟩ := h.own
  · omega
  obtain ⟨i0, hi, -, hz1, -⟩ := info_parts (show (Tryz.prog.info? 23).map (fun i => (i.zero, i.size, i.bytes)) = some (some (.slice none 0 0), 1, 24) by kernel_rfl)
  have hd := Tryz.slices_Delete (Go.Proofs.YthconjhldjaldaaGreatDoor.hdr vs) h.hdr_one vs.length (fun u => by
    have e : Go.Proofs.YthconjhldjaldaaGreatDoor.hdr vs vs.length = .slice none 0 0 := by unfold Go.Proofs.YthconjhldjaldaaGreatDoor.hdr; rw [List.getElem?_eq_none (Nat.le_refl _)]; rfl
    rw [e]
    exact Tryz.zeroValue23 u) i0 hi hz1 g 0 cap k (k + 1) (List.range vs.length).toArray w (fun j hj => by
      have hj2 : j < vs.length := by simpa using hj
      rw [Nat.zero_add]
      refine ⟨?_, h.own.free j⟩
      rw [h.own.cell (j := j) (List.getElem?_eq_getElem hj2)]
      unfold Go.Proofs.YthconjhldjaldaaGreatDoor.hdr
      simp [hj2]) (by simpa using h1) (by unfold maxLen at h2; omega) (Nat.le_succ _) (by simp; omega)
  obtain ⟨D, hD⟩ : ∃ D, ((List.range vs.length).toArray.toList.take k ++ (List.range vs.length).toArray.toList.drop (k + 1) ++ List.replicate (k + 1 - k) vs.length).toArray = D := ⟨_, rfl⟩
  rw [hD] at hd
  have hDe : D = ((List.range vs.length).eraseIdx k ++ [vs.length]).toArray := by
    rw [← hD, List.eraseIdx_eq_take_drop_succ, Nat.add_sub_cancel_left]; rfl
  have hel : ((List.range vs.length).eraseIdx k).length = vs.length - 1 := by rw [List.length_eraseIdx]; simp [hkv]
  have hsz : D.size = vs.length := by
    rw [hDe, List.size_toArray, List.length_append, hel, List.length_singleton]; omega
  have hDj : ∀ j, j < vs.length - 1 → D[j]! = if j < k then j else j + 1 := by
    intro j hj
    have hs : D[j]? = some (if j < k then j else j + 1) := by
      rw [hDe, List.getElem?_toArray, List.getElem?_append_left (by omega), List.getElem?_eraseIdx]
      by_cases q : j < k
      · rw [if_pos q, if_pos q, List.getElem?_range (by omega)]
      · rw [if_neg q, if_neg q, List.getElem?_range (by omega)]
    rw [getElem!_def, hs]
  have hcl : (vs.eraseIdx k).length = vs.length - 1 := by rw [List.length_eraseIdx, if_pos hkv]
  have hcg : ∀ j, j < vs.length - 1 → (vs.eraseIdx k)[j]? = some (Go.Proofs.YthconjhldjaldaaGreatDoor.hdr vs (if j < k then j else j + 1)) := by
    intro j hj
    unfold Go.Proofs.YthconjhldjaldaaGreatDoor.hdr
    rw [List.getElem?_eraseIdx]
    by_cases q : j < k
    · rw [if_pos q, if_pos q, List.getElem?_eq_getElem (show j < vs.length by omega)]; rfl
    · rw [if_neg q, if_neg q, List.getElem?_eq_getElem (show j + 1 < vs.length by omega)]; rfl
  rw [show (List.range vs.length).toArray.size = vs.length by rw [List.size_toArray, List.length_range]] at hd
  refine (hd.mono ?_)
  rintro e w' ⟨rfl, q, rfl⟩
  have hg2 : (putRow (Go.Proofs.YthconjhldjaldaaGreatDoor.hdr vs) (Sort.ahead w q) g 0 D).heap[g]? = some (.cells (putCells (Go.Proofs.YthconjhldjaldaaGreatDoor.hdr vs) 0 D cur) 23 (0, 0)) := by
    show ((Sort.ahead w q).heap.modify g (onCells (putCells (Go.Proofs.YthconjhldjaldaaGreatDoor.hdr vs) 0 D)))[g]? = _
    rw [Array.getElem?_modify, if_pos rfl]
    show (w.heap[g]?).map _ = _
    rw [hg]; rfl
  have kp : Kp (fun j => (Value.slice (some ⟨g, 0, none⟩) vs.length cap).ownBlock = some j) w (putRow (Go.Proofs.YthconjhldjaldaaGreatDoor.hdr vs) (Sort.ahead w q) g 0 D) := by
    refine ⟨rfl, rfl, rfl, by rw [size_putRow]; exact Nat.le_refl _, fun j _ hj => ?_⟩
    show ((Sort.ahead w q).heap.modify g (onCells (putCells (Go.Proofs.YthconjhldjaldaaGreatDoor.hdr vs) 0 D)))[j]? = _
    rw [Array.getElem?_modify, if_neg (fun e => hj (by subst e; rfl))]
    rfl
  refine ⟨⟨_, rfl, ?_, ?_, fun i hi => ?_⟩, kp⟩
  · refine ⟨by rw [Nat.mul_one], .inr ⟨g, cap, putCells (Go.Proofs.YthconjhldjaldaaGreatDoor.hdr vs) 0 D cur, ?_, hb, hg2, by omega, h2, by simpa [putCells] using h3, ?_⟩⟩
    · rw [hcl, show k + 1 - k = 1 by omega]
    · rw [hcl, Nat.mul_one]
      apply List.ext_getElem?
      intro j
      rw [List.getElem?_take]
      by_cases hj : j < vs.length - 1
      · rw [if_pos hj, hcg j hj, Array.getElem?_toList]
        unfold putCells
        have hjc : j < cur.size := by rw [h3]; omega
        rw [Array.getElem?_mapIdx, Array.getElem?_eq_getElem hjc]
        simp only [Option.map_some]
        rw [if_pos ⟨Nat.zero_le _, by omega⟩, Nat.sub_zero, hDj j hj]
      · rw [if_neg hj, List.getElem?_eq_none (by omega)]
  · rw [hcl, List.length_eraseIdx, if_pos hk, hlen]
  · rw [List.length_eraseIdx, if_pos hk] at hi
    rw [kc_erase]
    obtain ⟨b, c, e, r, q2⟩ := h.row (if i < k then i else i + 1) (by split <;> omega)
    refine ⟨b, c, ?_, ?_⟩
    · rw [List.getElem?_eraseIdx]
      by_cases q3 : i < k
      · simp only [q3, if_true] at e ⊢; exact e
      · simp only [q3, if_false] at e ⊢; exact e
    · rcases q2 with q2 | q2
      · exact ⟨.empty q2, .inl q2⟩
      · exact ⟨r.kp kp (fun p hp => (q2 p hp).2.1), .inr fun p hp => ⟨Nat.lt_of_lt_of_le (q2 p hp).1 kp.size, (q2 p hp).2⟩⟩

end

end Go.Proofs.YthconjhldjaldaaGreatDoor

/-
  A map from texts to numbers, of the call's own.
-/
namespace Go.Proofs.YthconjhldjaldaaGreatDoor
open Go.RowKit
open Go.Maps (Keyed)

theorem txt_keyed : Keyed Tryz.prog 9 :=
  Maps.string_keyed Tryz.underlying9

theorem txt_key {k : ByteArray} (hk : k.size ≤ maxLen) : keyOf Tryz.prog 9 (.string k) = some (.string k.data.toList) := by
  unfold keyOf
  rw [Tryz.underlying9]
  simp only
  unfold mapKey
  rw [Tryz.underlying9]
  simp [hk]

/-- block b is a map in which F tells what stands by each key, or 0 -/
def TMap (w : World) (b n : Nat) (F : ByteArray → Int) : Prop :=
  ∃ D : DataW Unit, w.ownsMap Tryz.prog 9 (plainElem Tryz.prog 3) b n D ∧ Maps.IsMap D ∧
    ∀ k l, keyOf Tryz.prog 9 (.string k) = some l → D.atKey l (.lit (.int .i64 0)) = .lit (.int .i64 (F k))

theorem TMap.made (w : World) : TMap (w.alloc (.map #[] 0)) w.heap.size 0 (fun _ => 0) :=
  ⟨.map [], World.ownsMap_made _ _ _ _, Maps.isMap_empty, fun k l _ => by simp [DataW.atKey]⟩

theorem TMap.lt {w : World} {b n : Nat} {F : ByteArray → Int} (h : TMap w b n F) : b < w.heap.size := by
  obtain ⟨D, h, _⟩ := h
  exact h.lt

theorem TMap.kp {S : Nat → Prop} {w w' : World} {b n : Nat} {F : ByteArray → Int} (h : TMap w b n F) (k : Kp S w w') (hS : ¬ S b) : TMap w' b n F := by
  have hb := h.lt
  obtain ⟨D, ⟨es, clock, h1, h2⟩, h3⟩ := h
  exact ⟨D, ⟨es, clock, (k.block b hb hS).trans h1, h2⟩, h3⟩

theorem TMap.look {w : World} {b n : Nat} {F : ByteArray → Int} (h : TMap w b n F) {k : ByteArray} (hk : k.size ≤ maxLen) :
    (Instr.lookup 54 (.map (some b)) (.string k) false).run Tryz.prog w = .ok (.int .i64 (F k)) w := by
  obtain ⟨D, h1, _, h2⟩ := h
  have hl := txt_key hk
  obtain ⟨v, ps, hr, hv⟩ := h1.lookup txt_keyed Tryz.underlying54 (Tryz.zeroValue3 w) (plainElem_int Tryz.underlying3 (q := .i64) (a := 0) (by decide)) hl
  rw [h2 k _ hl] at hv
  obtain ⟨c, rfl, hc, _⟩ := plainElem_int_inv Tryz.underlying3 hv
  simp only [Prod.mk.injEq, DataW.lit.injEq, Lit.int.injEq, true_and] at hc
  rw [← hc.1] at hr
  exact hr

theorem TMap.put {w : World} {b n : Nat} {F : ByteArray → Int} (h : TMap w b n F) (hn : n < maxLen) {k : ByteArray} {v : Int} (hk : k.size ≤ maxLen) (hv : -9223372036854775808 ≤ v ∧ v ≤ 9223372036854775807) :
    ∃ w', (Instr.mapUpdate 54 (.map (some b)) (.string k) (.int .i64 v)).run Tryz.prog w = .ok () w' ∧ TMap w' b (n + 1) (fun x => if x = k then v else F x) ∧ Kp (· = b) w w' := by
  obtain ⟨D, h1, hD, h2⟩ := h
  have hl := txt_key hk
  have hw : (Lit.int .i64 v).wf = true := by simp [Lit.wf, IntKind.min, IntKind.max, IntKind.signed, IntKind.bits]; omega
  obtain ⟨w', hr, h3, hg⟩ := h1.update txt_keyed Tryz.underlying54 hn hl (plainElem_int Tryz.underlying3 hw)
  refine ⟨w', hr, ⟨_, h3, hD.put _ _, fun k' l' hl' => ?_⟩, (Kp.refl _ w).grown hg (fun j hj _ => by simpa using hj.symm)⟩
  by_cases e : k' = k
  · subst e
    obtain rfl := Option.some.inj (hl.symm.trans hl')
    rw [Maps.atKey_put_same hD (txt_keyed.key hl)]
    show _ = DataW.lit (Lit.int .i64 (if k' = k' then v else F k'))
    rw [if_pos rfl]
  · have hne : l' ≠ .string k.data.toList := by
      intro e2
      subst e2
      have := txt_keyed.inj hl' hl
      simp at this
      exact e this
    rw [Maps.atKey_put_other hne, h2 k' l' hl']
    show _ = DataW.lit (Lit.int .i64 (if k' = k then v else F k'))
    rw [if_neg e]

end Go.Proofs.YthconjhldjaldaaGreatDoor

/-
  Symbols and a comment behind a circuit: what is read. No program in sight.
-/
namespace Go.Proofs.YthconjhldjaldaaGreatDoor
open Go.RowKit

structure Hd where
  bin : Bool
  m : Int
  i : Int
  l : Int
  o : Int
  a : Int
  b : Int
  c : Int

/-- how many there are of a kind -/
def cnt (h : Hd) (k : Nat) : Int := if k = 105 then h.i else if k = 108 then h.l else if k = 111 then h.o else if k = 98 then h.b else if k = 99 then h.c else 0

section
variable {h : Hd} {s : ByteArray} {p n en er nx f : Nat} {nm : ByteArray}
end

end Go.Proofs.YthconjhldjaldaaGreatDoor

/-
  Numerals: a number's digits, and the number that digits stand for, there and back. No program in sight.
-/
namespace Go.Proofs.YthconjhldjaldaaGreatDoor
open Go.RowKit

theorem dd_one {u : Nat} (h : u < 10) : Lib.decDigits u = [UInt8.ofNat (48 + u)] := Lib.decDigits_one h
theorem dd_more {u : Nat} (h : ¬ u < 10) : Lib.decDigits u = Lib.decDigits (u / 10) ++ [UInt8.ofNat (48 + u % 10)] := by
  conv => lhs; rw [Lib.decDigits, dif_neg h]

theorem dd_byte {d : Nat} (h : d < 10) : (UInt8.ofNat (48 + d)).toNat = 48 + d := by
  rw [UInt8.toNat_ofNat']; omega

theorem dd_digit : ∀ (u : Nat), ∀ b ∈ Lib.decDigits u, 48 ≤ b.toNat ∧ b.toNat ≤ 57 := by
  intro u
  induction u using Nat.strongRecOn with
  | _ u ih =>
    intro b hb
    by_cases h : u < 10
    · rw [dd_one h] at hb
      simp only [List.mem_singleton] at hb
      subst hb
      rw [dd_byte h]; omega
    · rw [dd_more h] at hb
      rcases List.mem_append.1 hb with hb | hb
      · exact ih (u / 10) (by omega) b hb
      · simp only [List.mem_singleton] at hb
        subst hb
        rw [dd_byte (by omega)]; omega

theorem dd_pos (u : Nat) : 0 < (Lib.decDigits u).length := by
  by_cases h : u < 10
  · rw [dd_one h]; simp
  · rw [dd_more h]; simp

theorem dd_head : ∀ (u : Nat), 0 < u → ∃ b r, Lib.decDigits u = b :: r ∧ b.toNat ≠ 48 := by
  intro u
  induction u using Nat.strongRecOn with
  | _ u ih =>
    intro h0
    by_cases h : u < 10
    · exact ⟨_, [], dd_one h, by rw [dd_byte h]; omega⟩
    · obtain ⟨b, r, e, hb⟩ := ih (u / 10) (by omega) (by omega)
      exact ⟨b, r ++ [UInt8.ofNat (48 + u % 10)], by rw [dd_more h, e]; rfl, hb⟩

theorem dd_len : ∀ (k u : Nat), u < 10 ^ (k + 1) → (Lib.decDigits u).length ≤ k + 1
  | 0, u, h => by rw [dd_one (by simpa using h)]; simp
  | k + 1, u, h => by
    by_cases hu : u < 10
    · rw [dd_one hu]; simp
    · rw [dd_more hu]
      have := dd_len k (u / 10) (by rw [Nat.pow_succ] at h; omega)
      simp; omega

theorem decFrom_snoc : ∀ (l : List UInt8) (acc : Nat) (b : UInt8), Lib.decFrom acc (l ++ [b]) = match Lib.decFrom acc l with
    | some n => match Lib.digitVal b with
      | some d => some (n * 10 + d)
      | none => none
    | none => none
  | [], acc, b => by
    simp only [List.nil_append, Lib.decFrom]
    cases Lib.digitVal b <;> rfl
  | c :: l, acc, b => by
    rw [List.cons_append]
    simp only [Lib.decFrom]
    cases Lib.digitVal c with
    | none => rfl
    | some d => exact decFrom_snoc l _ b

theorem digitVal_of {d : Nat} (h : d < 10) : Lib.digitVal (UInt8.ofNat (48 + d)) = some d := by
  unfold Lib.digitVal
  rw [dd_byte h, if_pos ⟨by omega, by omega⟩, show 48 + d - 48 = d by omega]

theorem dd_from : ∀ (u : Nat), Lib.decFrom 0 (Lib.decDigits u) = some u := by
  intro u
  induction u using Nat.strongRecOn with
  | _ u ih =>
    by_cases h : u < 10
    · rw [dd_one h]
      simp only [Lib.decFrom, digitVal_of h]
      simp
    · rw [dd_more h, decFrom_snoc, ih (u / 10) (by omega), digitVal_of (by omega)]
      simp only [Option.some.injEq]; omega

/-- a numeral is read as its number -/
theorem natN_dec {s : ByteArray} {p u : Nat} (hu : u < 1000000000) (hp : p + (Lib.decDigits u).length ≤ s.size)
    (hs : (s.data.toList.drop p).take (Lib.decDigits u).length = Lib.decDigits u) (he : p + (Lib.decDigits u).length = s.size ∨ ¬ isDig s (p + (Lib.decDigits u).length)) :
    natN s p = (u, p + (Lib.decDigits u).length, 0) := by
  have hpos := dd_pos u
  have hlen : (Lib.decDigits u).length ≤ 9 := dd_len 8 u (by omega)
  obtain ⟨n, hn⟩ : ∃ n, (Lib.decDigits u).length = n := ⟨_, rfl⟩
  rw [hn] at hpos hlen hp hs he ⊢
  have hbyte : ∀ j b, (Lib.decDigits u)[j]? = some b → bt s (p + j) = b.toNat := by
    intro j b hb
    have hj : j < n := by rw [← hn]; exact (List.getElem?_eq_some_iff.1 hb).1
    rw [← hs, List.getElem?_take, if_pos hj, List.getElem?_drop] at hb
    obtain ⟨c, hc, hc2⟩ := byte_at (s := s) (i := p + j) (by omega)
    rw [hb] at hc
    rw [← hc2, Option.some.inj hc]
  have hd : ∀ j, j < n → isDig s (p + j) := by
    intro j hj
    have hj' : j < (Lib.decDigits u).length := by omega
    have := dd_digit u _ (List.getElem_mem hj')
    have hb := hbyte j _ (List.getElem?_eq_getElem hj')
    unfold isDig
    rw [hb]; exact this
  have hend : endOf s p = p + n := endOf_is (by omega) hp (fun k h1 h2 => by have := hd (k - p) (by omega); rwa [show p + (k - p) = k by omega] at this) he
  unfold natN
  rw [if_neg (by omega), hend, if_neg ?_, if_neg (by omega), show p + n - p = n by omega]
  · have h1 := word_dec (s := s) (i := p) n hp hd
    rw [hs, dd_from] at h1
    rw [← Option.some.inj h1]
  · rintro (h | ⟨h1, h2⟩)
    · omega
    · have hu10 : ¬ u < 10 := by intro h; rw [dd_one h] at hn; simp at hn; omega
      obtain ⟨b, r, e, hb⟩ := dd_head u (by omega)
      have := hbyte 0 b (by rw [e]; rfl)
      rw [Nat.add_zero] at this
      omega

theorem itoa_nat (u : Nat) : Lib.itoa (u : Int) = Lib.decDigits u := by unfold Lib.itoa; rw [if_neg (by omega), Int.toNat_natCast]

end Go.Proofs.YthconjhldjaldaaGreatDoor

/-
  A derivation's lines and their text, there and back. No program in sight.
-/
namespace Go.Proofs.YthconjhldjaldaaGreatDoor
open Go.RowKit

/-- a good literal's text -/
def lt (x : Nat) : List UInt8 := if x % 2 = 1 then 33 :: Lib.decDigits (x / 2) else Lib.decDigits (x / 2)

theorem list_size (s : ByteArray) : s.data.toList.length = s.size := by simp

theorem negW_iff (w : ByteArray) : negW w = true ↔ ∃ r, w.data.toList = 33 :: r := by
  unfold negW
  rw [decide_eq_true_iff]
  constructor
  · rintro ⟨h0, h1⟩
    obtain ⟨b, hb, hb2⟩ := byte_at h0
    cases hl : w.data.toList with
    | nil => rw [hl] at hb; simp at hb
    | cons c r =>
      rw [hl] at hb
      simp at hb
      subst hb
      refine ⟨r, ?_⟩
      have : c = 33 := UInt8.toNat_inj.1 (by rw [hb2, h1]; rfl)
      rw [this]
  · rintro ⟨r, h⟩
    have h0 : w.data.toList[0]? = some 33 := by rw [h]; rfl
    exact bt_is.1 h0

theorem digW_pos {w : ByteArray} {r : List UInt8} (h : w.data.toList = 33 :: r) : (digW w).data.toList = r := by
  unfold digW
  rw [if_pos ((negW_iff w).2 ⟨r, h⟩), Lib.extract_to_end, h]; rfl

theorem digW_neg {w : ByteArray} (h : ¬ negW w = true) : digW w = w := by
  unfold digW; rw [if_neg h]

theorem text_litR {w : ByteArray} {x : Nat} (hx : x ≤ 33554433) (h : w.data.toList = lt x) : litR w = some x := by
  have key : ∀ v : Nat, v ≤ 16777216 → (digW w).data.toList = Lib.decDigits v → natN (digW w) 0 = (v, (digW w).size, 0) := by
    intro v hv hd
    have hl : (Lib.decDigits v).length = (digW w).size := by rw [← hd, list_size]
    have := natN_dec (s := digW w) (p := 0) (u := v) (by omega) (by rw [hl]; omega) (by rw [List.drop_zero, hd, List.take_length]) (.inl (by rw [hl]; omega))
    rw [this, hl, Nat.zero_add]
  unfold lt at h
  unfold litR
  by_cases ho : x % 2 = 1
  · rw [if_pos ho] at h
    have hn : negW w = true := (negW_iff w).2 ⟨_, h⟩
    rw [key (x / 2) (by omega) (digW_pos h), if_pos ⟨rfl, rfl, by simp only; omega⟩, if_pos hn]
    simp only [Option.some.injEq]; omega
  · rw [if_neg ho] at h
    have hn : ¬ negW w = true := by
      intro hn
      obtain ⟨r, hr⟩ := (negW_iff w).1 hn
      have := dd_digit (x / 2) 33 (by rw [← h, hr]; simp)
      simp at this
    rw [key (x / 2) (by omega) (by rw [digW_neg hn]; exact h), if_pos ⟨rfl, rfl, by simp only; omega⟩, if_neg hn]
    simp only [Option.some.injEq]; omega

theorem jn_flat : ∀ (a : List UInt8) (r : List (List UInt8)), jn (a :: r) = a ++ r.flatMap (fun x => 32 :: x)
  | a, [] => by simp [jn]
  | a, b :: r => by
    rw [jn_cons (by simp), jn_flat b r, List.flatMap_cons]; simp

theorem flat_words : ∀ (a : List UInt8) (r : List (List UInt8)), (∀ b ∈ a, b ≠ 32) → (∀ x ∈ r, ∀ b ∈ x, b ≠ 32) → wordsF (a ++ r.flatMap (fun x => 32 :: x)) = a :: r
  | a, [], ha, _ => by rw [List.flatMap_nil, List.append_nil]; exact words_none ha
  | a, b :: r, ha, hr => by
    rw [List.flatMap_cons, List.cons_append, words_app _ ha, flat_words b r (hr b (by simp)) (fun x hx => hr x (by simp [hx]))]

theorem lt_byte (x : Nat) : ∀ b ∈ lt x, b ≠ 32 ∧ b ≠ 10 := by
  intro b hb
  unfold lt at hb
  have key : ∀ v, b ∈ Lib.decDigits v → b ≠ 32 ∧ b ≠ 10 := by
    intro v hv
    have := dd_digit v b hv
    constructor <;> (rintro rfl; simp at this)
  split at hb
  · rcases List.mem_cons.1 hb with rfl | hb
    · decide
    · exact key _ hb
  · exact key _ hb

end Go.Proofs.YthconjhldjaldaaGreatDoor

/-
  lit.Read and the reference's: the literal of a text.
-/
namespace Go.Proofs.YthconjhldjaldaaGreatDoor
open Go.RowKit

end Go.Proofs.YthconjhldjaldaaGreatDoor

/-
  clause.Read and deriv.line: a clause of a text, a line of a text.
-/
namespace Go.Proofs.YthconjhldjaldaaGreatDoor
open Go.RowKit

/-- the library's MaxLen has some value -/
def ML (w : World) : Prop := ∃ m, w.cell? ⟨0, 0, none⟩ = some (.int .i64 m)

theorem ML.kp {w w' : World} (h : ML w) (k : Kp (fun _ => False) w w') : ML w' := by
  obtain ⟨m, h⟩ := h
  have hlt := World.block_lt_of_cell? w _ h
  exact ⟨m, (World.cell?_of_block (w := w) (w' := w') (k.block _ hlt (fun h => h))).trans h⟩

def nums (l : List Nat) : List Value := l.map (fun (n : Nat) => Value.int .i64 (n : Int))

end Go.Proofs.YthconjhldjaldaaGreatDoor

/-
  deriv.line.
-/
namespace Go.Proofs.YthconjhldjaldaaGreatDoor
open Go.RowKit

end Go.Proofs.YthconjhldjaldaaGreatDoor

/-
  deriv.Read.
-/
namespace Go.Proofs.YthconjhldjaldaaGreatDoor
open Go.RowKit

/-- lines as rows of two cells -/
def lrows (rs : List (Bool × Value)) : List (List Value) := rs.map (fun r => [.bool r.1, r.2])

/-- the clauses of lines lie in blocks of their own -/
def Lns (w : World) (base : Nat) (rs : List (Bool × Value)) (L : List (Bool × List Nat)) : Prop :=
  rs.length = L.length ∧ ∀ (k : Nat) (r : Bool × Value) (x : Bool × List Nat), rs[k]? = some r → L[k]? = some x → r.1 = x.1 ∧ Own w base 3 r.2 (nums x.2)

theorem Lns.nil (w : World) (base : Nat) : Lns w base [] [] := ⟨rfl, fun k r x h => by simp at h⟩

theorem Lns.kp {S : Nat → Prop} {w w' : World} {base : Nat} {rs : List (Bool × Value)} {L : List (Bool × List Nat)} (h : Lns w base rs L) (k : Kp S w w') (hS : ∀ r ∈ rs, ∀ j, r.2.ownBlock = some j → ¬ S j) : Lns w' base rs L :=
  ⟨h.1, fun i r x hr hx => ⟨(h.2 i r x hr hx).1, (h.2 i r x hr hx).2.kp k (hS r (List.mem_of_getElem? hr))⟩⟩

theorem Lns.mono {w : World} {base b' : Nat} {rs : List (Bool × Value)} {L : List (Bool × List Nat)} (h : Lns w base rs L) (hb : b' ≤ base) : Lns w b' rs L :=
  ⟨h.1, fun i r x hr hx => ⟨(h.2 i r x hr hx).1, (h.2 i r x hr hx).2.mono hb⟩⟩

/-- each clause's block, if it has one, is a block of ints -/
theorem Lns.block {w : World} {base : Nat} {rs : List (Bool × Value)} {L : List (Bool × List Nat)} (h : Lns w base rs L) {r : Bool × Value} (hr : r ∈ rs) {j : Nat} (hj : r.2.ownBlock = some j) : base ≤ j ∧ ∃ c, Blk w j c 3 := by
  obtain ⟨k, hk⟩ := List.mem_iff_getElem?.1 hr
  have hkl := (List.getElem?_eq_some_iff.1 hk).1
  have hO := (h.2 k r _ hk (List.getElem?_eq_getElem (by rw [← h.1]; exact hkl))).2
  rcases hO.2 with ⟨hv, _⟩ | ⟨g, cap, cur, hv, hb, hg, _⟩
  · rw [hv] at hj; cases hj
  · rw [hv] at hj
    have e : g = j := by simpa [Value.ownBlock] using hj
    subst e
    exact ⟨hb, cur, hg⟩

theorem OwnK.blk {w : World} {base k : Nat} {e : TypeId} {v : Value} {rows : List (List Value)} (h : OwnK w base e k v rows) {j : Nat} (hj : v.ownBlock = some j) : base ≤ j ∧ ∃ c, Blk w j c e := by
  rcases h.own.2 with ⟨hv, _⟩ | ⟨g, cap, cur, hv, hb, hg, _⟩
  · rw [hv] at hj; cases hj
  · rw [hv] at hj
    have e : g = j := by simpa [Value.ownBlock] using hj
    subst e
    exact ⟨hb, cur, hg⟩

end Go.Proofs.YthconjhldjaldaaGreatDoor

/-
  The library's contracts at this dump, as the kit's own tool lays them.
-/
namespace Go.Proofs
open Go.Shelf
end Go.Proofs

/-
  strings.Builder: copyCheck, WriteByte, WriteString at this dump, over the kit's own predicate (Lib.IsBuilder).
-/
namespace Go.Proofs.YthconjhldjaldaaGreatDoor
open Go.RowKit

end Go.Proofs.YthconjhldjaldaaGreatDoor

/-
  strings.Builder: WriteByte, WriteString, with a sharper word on what is written.
-/
namespace Go.Proofs.YthconjhldjaldaaGreatDoor
open Go.RowKit

end Go.Proofs.YthconjhldjaldaaGreatDoor

/-
  octet.Bits and the reference's: truths of signs.
-/
namespace Go.Proofs.YthconjhldjaldaaGreatDoor
open Go.RowKit

end Go.Proofs.YthconjhldjaldaaGreatDoor

/-
  The reference's Bits.
-/
namespace Go.Proofs.YthconjhldjaldaaGreatDoor
open Go.RowKit

end Go.Proofs.YthconjhldjaldaaGreatDoor

/-
  octet.Text, the reference's Text and Same: signs of truths.
-/
namespace Go.Proofs.YthconjhldjaldaaGreatDoor
open Go.RowKit

/-- the truth at a place -/
def tb (l : List Bool) (k : Nat) : Bool := l[k]?.getD false
end Go.Proofs.YthconjhldjaldaaGreatDoor

/-
  clause.Text.
-/
namespace Go.Proofs.YthconjhldjaldaaGreatDoor
open Go.RowKit

def ltxt (l : Int) : ByteArray := ⟨(litText l).toArray⟩

theorem join_jn : ∀ xs : List (List UInt8), Lib.join xs [32] = jn xs
  | [] => rfl
  | a :: r => by
    rw [jn_flat, Lib.join_cons]
    unfold Lib.joinTail
    rw [List.flatMap]
    rfl

theorem jn_len : ∀ {xs : List (List UInt8)} {m : Nat}, (∀ x ∈ xs, x.length ≤ m) → (jn xs).length ≤ (m + 1) * xs.length
  | [], m, _ => by simp [jn]
  | a :: r, m, h => by
    rw [jn_flat, List.length_append, List.length_cons]
    have h1 := h a (by simp)
    have h2 : ∀ (r : List (List UInt8)), (∀ x ∈ r, x.length ≤ m) → (r.flatMap (fun x => 32 :: x)).length ≤ (m + 1) * r.length := by
      intro r
      induction r with
      | nil => intro _; simp
      | cons b r ih =>
        intro h
        have h3 := h b (by simp)
        have h4 := ih (fun x hx => h x (by simp [hx]))
        rw [List.flatMap_cons, List.length_append, List.length_cons, List.length_cons, Nat.mul_succ]
        omega
    have := h2 r (fun x hx => h x (by simp [hx]))
    rw [Nat.mul_succ]; omega

theorem made_strs (n : Nat) : madeCells #[.string .empty] n = (strs (List.replicate n .empty)).toArray := by
  apply Array.ext
  · simp [madeCells, strs]
  · intro i h1 h2
    simp [madeCells, strs, Nat.mod_one]

theorem strs_set (L : List ByteArray) (k : Nat) (x : ByteArray) : (strs L).toArray.setIfInBounds k (.string x) = (strs (L.set k x)).toArray := by simp [strs, List.map_set]
theorem strs_at {L : List ByteArray} {k : Nat} {x : ByteArray} (h : L[k]? = some x) : (strs L).toArray[k]? = some (.string x) := by simp [strs, h]

set_option maxRecDepth 100000 in
set_option maxHeartbeats 2000000 in
theorem clause_Text (a : Option Addr) (cap : Nat) (l : List Int) (n : Nat) (w : World) (hr : IntsAt w a l) (hln : l.length = n) (hn : n ≤ 100000) (ht : Tab w) :
    Calls Tryz.prog 51 #[.slice a n cap] w fun e w' => e = .returned (.string ⟨(jn (l.map litText)).toArray⟩) ∧ Kp (fun _ => False) w w' := by
  obtain ⟨i0, hi, hz0, hz1, hz2⟩ := info_parts strInfo
  have hmk : ∀ u : World, (Instr.makeSlice 96 (.int .i64 (n : Int)) (.int .i64 (n : Int))).run Tryz.prog u =
      .ok (.slice (some ⟨u.heap.size, 0, none⟩) n n) (u.alloc (.cells (madeCells #[.string .empty] n) 9)) := fun u => by
    have h := run_make (P := Tryz.prog) u 96 9 i0 (.string .empty) Tryz.underlying96 hi hz0 .i64 .i64 (n : Int) (n : Int) (by omega) (Int.le_refl _) (by rw [hz2]; omega) (by omega)
    simpa [hz1, Value.cells] using h
  clear hi hz0 hz1 hz2 i0
  have hmade := Lib.hid (made_strs n)
  have HT := Lib.hid ht; clear ht
  have HR := Lib.hid hr; clear hr
  have HLN := Lib.hid hln; clear hln
  go_enter Tryz.func51, Tryz.ntmps51
  go_wp2_with fail
  go_loopw [11] (fun i wr => ∃ (k : Nat) (L : List ByteArray), k ≤ n ∧ i = .int .i64 k ∧ L.length = n ∧ (∀ j, j < k → L[j]? = some (ltxt (gi l j))) ∧ Blk wr w.heap.size (strs L).toArray 9 ∧ Kp (fun _ => False) w wr) (fun i _ => n - (intOf i).toNat)
  case atStart => exact ⟨0, List.replicate n .empty, Nat.zero_le _, rfl, by simp, fun j hj => by omega, by rw [← hmade.out]; exact Blk.new _ _ _, (Kp.refl _ _).alloc _⟩
  case round =>
    obtain ⟨k, L, hk, rfl, hL, hJ, hB, hK⟩ := hrel
    have HL := Lib.hid hL; clear hL
    have HJ := Lib.hid hJ; clear hJ
    have HB := Lib.hid hB; clear hB
    by_cases hlt : k < n
    · have hd : decide ((k : Int) < (n : Int)) = true := by simp; omega
      obtain ⟨b, off, rfl, hc⟩ := (show IntsAt wr a l from HR.out.kp hK (fun _ _ h => h)).get (j := k) (by rw [HLN.out]; exact hlt)
      obtain ⟨x, hx⟩ : ∃ x, gi l k = x := ⟨_, rfl⟩
      rw [hx] at hc
      have HX := Lib.hid hx; clear hx
      have HTx := Lib.hid (lit_Text x wr (HT.out.kp hK))
      obtain ⟨x0, hx0⟩ : ∃ x0, L[k]? = some x0 := ⟨_, List.getElem?_eq_getElem (by rw [HL.out]; exact hlt)⟩
      have HX0 := Lib.hid hx0; clear hx0
      go_wp2_with fail
      refine HTx.out.mono ?_
      rintro e w2 ⟨rfl, hK2⟩
      have hB2 := HB.out.kp hK2 (fun h => h)
      have hK3 := hK.trans hK2 (fun _ _ h => h)
      have c0 := hB2.cell (i := k) (strs_at HX0.out)
      have f0 := hB2.free k
      have HRel := Lib.hid (show ∃ (k' : Nat) (L : List ByteArray), k' ≤ n ∧ Value.int .i64 ((k : Int) + 1) = .int .i64 k' ∧ L.length = n ∧ (∀ j, j < k' → L[j]? = some (ltxt (gi l j))) ∧ Blk (w2.setCell ⟨w.heap.size, k, none⟩ (.string ⟨(litText x).toArray⟩)) w.heap.size (strs L).toArray 9 ∧ Kp (fun _ => False) w (w2.setCell ⟨w.heap.size, k, none⟩ (.string ⟨(litText x).toArray⟩)) from
        ⟨k + 1, L.set k (ltxt x), by omega, by go_num, by rw [List.length_set, HL.out], fun j hj => by
            by_cases e : j = k
            · subst e; rw [List.getElem?_set_self (by rw [HL.out]; exact hlt), HX.out]
            · rw [List.getElem?_set_ne (fun h => e h.symm)]; exact HJ.out j (by omega),
          by rw [← strs_set]; exact hB2.set_same k _, hK3.setCell (p := ⟨w.heap.size, k, none⟩) (by simp) _⟩)
      clear hB2 hK2 hK3
      go_wp2_with fail
      go_roundw
      case rel => exact HRel.out
      case measure => simp [intOf]; omega
    · have hd : decide ((k : Int) < (n : Int)) = false := by simp; omega
      have e : L = l.map ltxt := by
        apply List.ext_getElem?
        intro j
        by_cases hj : j < n
        · rw [HJ.out j (by omega), List.getElem?_map]
          have hj2 : j < l.length := by rw [HLN.out]; exact hj
          rw [List.getElem?_eq_getElem hj2]
          simp [gi, List.getElem?_eq_getElem hj2]
        · rw [List.getElem?_eq_none (by rw [HL.out]; omega), List.getElem?_eq_none (by rw [List.length_map, HLN.out]; omega)]
      subst e
      have ej : (l.map ltxt).map (·.data.toList) = l.map litText := by rw [List.map_map]; apply List.map_congr_left; intro z _; simp [ltxt]
      have hlt2 : w.heap.size < wr.heap.size := HB.out.lt
      have HJn := Lib.hid (Tryz.strings_Join w.heap.size 0 n (l.map ltxt) ⟨#[32]⟩ wr (fun j x hx => by rw [Nat.zero_add]; exact HB.out.cell (strs_at hx)) hlt2 (by rw [List.length_map, HLN.out]; omega) (by rw [List.length_map, HLN.out]; exact Nat.le_refl _)
        (by rw [ej, show (⟨#[32]⟩ : ByteArray).data.toList = [32] from rfl, join_jn]; have := jn_len (xs := l.map litText) (m := 23) (fun x hx => by obtain ⟨z, _, rfl⟩ := List.mem_map.1 hx; exact litSize z); rw [List.length_map, HLN.out] at this; omega))
      rw [ej, show (⟨#[32]⟩ : ByteArray).data.toList = [32] from rfl, join_jn, List.length_map, HLN.out] at HJn
      go_wp2_with fail
      refine HJn.out.mono ?_
      rintro e w2 ⟨rfl, hb⟩
      have hend := hK.trans (Kp.of_below hb (fun _ => False)) (fun _ _ h => h)
      go_wp2_with fail
      go_ret
      exact ⟨rfl, hend⟩

end Go.Proofs.YthconjhldjaldaaGreatDoor

/-
  Clauses in order, their texts, and which derivations are right. No program in sight.
-/
namespace Go.Proofs.YthconjhldjaldaaGreatDoor
open Go.RowKit

/-- a number among rising ones -/
def insD (x : Int) : List Int → List Int
  | [] => [x]
  | y :: r => if x < y then x :: y :: r else if x = y then y :: r else y :: insD x r
/-- numbers, rising, each once -/
def srtD (l : List Int) : List Int := l.foldr insD []
def Rising (s : List Int) : Prop := s.Pairwise (· < ·)
theorem insD_mem {x y : Int} : ∀ {s : List Int}, y ∈ insD x s ↔ y = x ∨ y ∈ s
  | [] => by simp [insD]
  | z :: r => by
    unfold insD
    split
    · simp
    · split
      · rename_i h; subst h; simp
      · rw [List.mem_cons, insD_mem, List.mem_cons]
        constructor
        · rintro (h | h | h)
          · exact .inr (.inl h)
          · exact .inl h
          · exact .inr (.inr h)
        · rintro (h | h | h)
          · exact .inr (.inl h)
          · exact .inl h
          · exact .inr (.inr h)
theorem insD_rising {x : Int} : ∀ {s : List Int}, Rising s → Rising (insD x s)
  | [], _ => by simp [insD, Rising]
  | z :: r, h => by
    unfold Rising at h
    rw [List.pairwise_cons] at h
    unfold insD
    split
    · rename_i hx
      unfold Rising
      rw [List.pairwise_cons, List.pairwise_cons]
      refine ⟨fun y hy => ?_, h⟩
      rcases List.mem_cons.1 hy with rfl | hy
      · exact hx
      · exact Int.lt_trans hx (h.1 y hy)
    · split
      · unfold Rising; rw [List.pairwise_cons]; exact h
      · unfold Rising
        rw [List.pairwise_cons]
        refine ⟨fun y hy => ?_, insD_rising h.2⟩
        rcases insD_mem.1 hy with rfl | hy
        · omega
        · exact h.1 y hy
theorem srtD_mem {y : Int} : ∀ {l : List Int}, y ∈ srtD l ↔ y ∈ l
  | [] => Iff.rfl
  | x :: r => by
    show y ∈ insD x (srtD r) ↔ _
    rw [insD_mem, srtD_mem, List.mem_cons]
theorem srtD_rising : ∀ (l : List Int), Rising (srtD l)
  | [] => List.Pairwise.nil
  | x :: r => insD_rising (srtD_rising r)
theorem rising_uniq : ∀ {s t : List Int}, Rising s → Rising t → (∀ x, x ∈ s ↔ x ∈ t) → s = t
  | [], [], _, _, _ => rfl
  | [], y :: t, _, _, h => absurd ((h y).2 (List.mem_cons_self ..)) (by simp)
  | x :: s, [], _, _, h => absurd ((h x).1 (List.mem_cons_self ..)) (by simp)
  | x :: s, y :: t, hs, ht, h => by
    unfold Rising at hs ht
    rw [List.pairwise_cons] at hs ht
    have e : x = y := by
      rcases List.mem_cons.1 ((h x).1 (List.mem_cons_self ..)) with e | e
      · exact e
      · rcases List.mem_cons.1 ((h y).2 (List.mem_cons_self ..)) with e2 | e2
        · exact e2.symm
        · have := ht.1 x e; have := hs.1 y e2; omega
    subst e
    rw [rising_uniq hs.2 ht.2 fun z => ?_]
    constructor
    · intro hz
      rcases List.mem_cons.1 ((h z).1 (List.mem_cons_of_mem _ hz)) with e | e
      · have := hs.1 z hz; omega
      · exact e
    · intro hz
      rcases List.mem_cons.1 ((h z).2 (List.mem_cons_of_mem _ hz)) with e | e
      · have := ht.1 z hz; omega
      · exact e
theorem srtD_id {s : List Int} (h : Rising s) : srtD s = s := rising_uniq (srtD_rising s) h fun _ => srtD_mem

/-- a literal and its inverse's are among some -/
def tiedB (s : List Int) : Bool := s.any fun x => gl x && decide (x % 2 = 1) && s.contains (x - 1)
/-- a clause in order, or none -/
def normC (l : List Int) : Option (List Int) :=
  if (srtD l).contains 1 || tiedB (srtD l) || (srtD l).any (fun x => !gl x) then none else some (if (srtD l).head? = some 0 then (srtD l).tail else srtD l)
theorem normC_nil : normC [] = some [] := rfl
theorem normC_good {l c : List Int} (h : normC l = some c) : Rising c ∧ (∀ x ∈ c, 2 ≤ x ∧ gl x = true) ∧ (∀ x, x ∈ c ↔ x ∈ l ∧ x ≠ 0) := by
  unfold normC at h
  split at h
  · cases h
  · rename_i hno
    simp only [Bool.or_eq_true, not_or, Bool.not_eq_true] at hno
    obtain ⟨⟨h1, h2⟩, h3⟩ := hno
    have hg : ∀ x ∈ srtD l, gl x = true := by
      intro x hx
      have := List.any_eq_false.1 h3 x hx
      simpa using this
    have h11 : (1 : Int) ∉ srtD l := by simpa using h1
    have hr := srtD_rising l
    have h0 : ∀ x ∈ srtD l, 0 ≤ x := fun x hx => by have := hg x hx; unfold gl at this; simp at this; omega
    simp only [Option.some.injEq] at h
    cases hs : srtD l with
    | nil =>
      rw [hs] at h
      simp at h
      subst h
      refine ⟨List.Pairwise.nil, fun x hx => (by cases hx), fun x => ⟨fun hx => (by cases hx), fun hx => ?_⟩⟩
      have := srtD_mem.2 hx.1
      rw [hs] at this; exact this
    | cons y r =>
      rw [hs] at h h0 hg h11 hr
      unfold Rising at hr
      rw [List.pairwise_cons] at hr
      by_cases e : y = 0
      · subst e
        simp at h
        subst h
        refine ⟨hr.2, fun x hx => ⟨?_, hg x (List.mem_cons_of_mem _ hx)⟩, fun x => ?_⟩
        · have a := hr.1 x hx
          have b : x ≠ 1 := fun q => h11 (by rw [← q]; exact List.mem_cons_of_mem _ hx)
          omega
        · rw [← srtD_mem (l := l), hs, List.mem_cons]
          constructor
          · intro hx; have := hr.1 x hx; exact ⟨.inr hx, by omega⟩
          · rintro ⟨hx | hx, hn⟩
            · exact absurd hx hn
            · exact hx
      · simp [e] at h
        subst h
        have hall : ∀ x ∈ y :: r, 2 ≤ x := by
          intro x hx
          have a := h0 x hx
          have b : x ≠ 1 := fun q => h11 (by rw [← q]; exact hx)
          have c : x ≠ 0 := by
            intro q
            rcases List.mem_cons.1 hx with q2 | q2
            · omega
            · have := hr.1 x q2; have := h0 y (List.mem_cons_self ..); omega
          omega
        refine ⟨List.pairwise_cons.2 hr, fun x hx => ⟨hall x hx, hg x hx⟩, fun x => ?_⟩
        rw [← srtD_mem (l := l), hs]
        exact ⟨fun hx => ⟨hx, by have := hall x hx; omega⟩, fun hx => hx.1⟩

/-- a clause's text -/
def ctxt (c : List Int) : List UInt8 := jn (c.map litText)
theorem litText_lt {x : Int} (h : gl x = true) : litText x = lt x.toNat := by
  have hx := h
  unfold gl at hx
  simp at hx
  unfold litText lt
  rw [if_pos h]
  have e : Lib.itoa (x / 2) = Lib.decDigits (x.toNat / 2) := by
    have : x / 2 = ((x.toNat / 2 : Nat) : Int) := by omega
    rw [this]
    exact itoa_nat _
  by_cases q : x % 2 = 1
  · rw [if_pos q, if_pos (by omega), e]
  · rw [if_neg q, if_neg (by omega), e]
theorem lt_inj {a b : Nat} (ha : a ≤ 33554433) (hb : b ≤ 33554433) (h : lt a = lt b) : a = b := by
  have e1 := text_litR (w := ⟨(lt a).toArray⟩) ha (by simp)
  have e2 := text_litR (w := ⟨(lt a).toArray⟩) hb (by simp [h])
  rw [e1] at e2
  exact Option.some.inj e2
theorem litText_inj {x y : Int} (hx : gl x = true) (hy : gl y = true) (h : litText x = litText y) : x = y := by
  rw [litText_lt hx, litText_lt hy] at h
  unfold gl at hx hy
  simp at hx hy
  have := lt_inj (by omega) (by omega) h
  omega
theorem litText_words {x : Int} (h : gl x = true) : ∀ b ∈ litText x, b ≠ 32 := fun b hb => (lt_byte x.toNat b (by rw [← litText_lt h]; exact hb)).1
theorem ctxt_words {x : Int} {r : List Int} (h : ∀ y ∈ x :: r, gl y = true) : wordsF (ctxt (x :: r)) = (x :: r).map litText := by
  unfold ctxt
  rw [List.map_cons, jn_flat]
  exact flat_words _ _ (litText_words (h x (List.mem_cons_self ..))) (fun z hz => by
    obtain ⟨y, hy, rfl⟩ := List.mem_map.1 hz
    exact litText_words (h y (List.mem_cons_of_mem _ hy)))
theorem itoa_ne {n : Int} (h0 : ¬ n < 0) : Lib.itoa n ≠ [] := by
  by_cases h : n < 10
  · rw [itoa_one h0 h]; simp
  · rw [itoa_more h]; simp
theorem litText_ne (x : Int) : litText x ≠ [] := by
  unfold litText
  split
  · rename_i hg
    unfold gl at hg
    simp at hg
    split
    · simp
    · exact itoa_ne (by omega)
  · simp
theorem map_litText_inj : ∀ {c d : List Int}, (∀ x ∈ c, gl x = true) → (∀ x ∈ d, gl x = true) → c.map litText = d.map litText → c = d
  | [], [], _, _, _ => rfl
  | [], y :: d, _, _, h => by simp at h
  | x :: c, [], _, _, h => by simp at h
  | x :: c, y :: d, hc, hd, h => by
    simp only [List.map_cons, List.cons.injEq] at h
    rw [litText_inj (hc x (List.mem_cons_self ..)) (hd y (List.mem_cons_self ..)) h.1, map_litText_inj (fun z hz => hc z (List.mem_cons_of_mem _ hz)) (fun z hz => hd z (List.mem_cons_of_mem _ hz)) h.2]
theorem ctxt_ne {x : Int} {r : List Int} : ctxt (x :: r) ≠ [] := by
  unfold ctxt
  rw [List.map_cons, jn_flat]
  intro h
  exact litText_ne x (List.append_eq_nil_iff.1 h).1
theorem ctxt_inj {c d : List Int} (hc : ∀ x ∈ c, gl x = true) (hd : ∀ x ∈ d, gl x = true) (h : ctxt c = ctxt d) : c = d := by
  cases c with
  | nil =>
    cases d with
    | nil => rfl
    | cons y d => exact absurd h.symm ctxt_ne
  | cons x c =>
    cases d with
    | nil => exact absurd h ctxt_ne
    | cons y d =>
      have := congrArg wordsF h
      rw [ctxt_words hc, ctxt_words hd] at this
      exact map_litText_inj hc hd this

open Classical in
/-- a line of a derivation: what is kept behind it, or what is wrong -/
noncomputable def rupL (N : List (Int × Int)) (want : List Int) (kept : List (List Int)) (x : Bool × List Int) : List (List Int) ⊕ Int :=
  match normC x.2 with
  | none => .inr 5
  | some c =>
    if ∃ y ∈ c, (N.length : Int) < y / 2 then .inr 5
    else if x.1 then (if c ∈ kept then .inl (kept.erase c) else .inr 9)
    else if Fol N want kept c then .inl (kept ++ [c]) else .inr 11
/-- does a line say that nothing can be so -/
def rupE (x : Bool × List Int) : Bool := !x.1 && (normC x.2 == some [])
/-- the place of the first line that is wrong, or how many there are, and what is wrong -/
noncomputable def rupG (N : List (Int × Int)) (want : List Int) : List (List Int) → Bool → Nat → List (Bool × List Int) → Nat × Int
  | _, done, i, [] => (i, if done then 0 else 3)
  | kept, done, i, x :: r => match rupL N want kept x with
    | .inr e => (i, e)
    | .inl k => rupG N want k (done || rupE x) (i + 1) r
noncomputable def rupCk (N : List (Int × Int)) (want : List Int) (L : List (Bool × List Int)) : Nat × Int := rupG N want [] false 0 L

end Go.Proofs.YthconjhldjaldaaGreatDoor

/-
  rup's shelf: put.
-/
namespace Go.Proofs.YthconjhldjaldaaGreatDoor
open Go.RowKit

/-- the text of a clause -/
def ctx (c : List Int) : ByteArray := ⟨(ctxt c).toArray⟩
/-- a clause of good literals -/
def GdC (c : List Int) : Prop := ∀ x ∈ c, gl x = true
theorem ctx_inj {c d : List Int} (hc : GdC c) (hd : GdC d) (h : ctx c = ctx d) : c = d := ctxt_inj hc hd (by
  have := congrArg (fun b => b.data.toList) h
  simpa [ctx] using this)
theorem ctx_size (c : List Int) (h : c.length ≤ 1000000) : (ctx c).size ≤ maxLen := by
  have := jn_len (xs := c.map litText) (m := 23) (fun x hx => by obtain ⟨z, _, rfl⟩ := List.mem_map.1 hx; exact litSize z)
  rw [List.length_map] at this
  show (ctxt c).toArray.size ≤ _
  rw [List.size_toArray]
  unfold ctxt maxLen
  omega

/-- a shelf at p, all of which lies from lo on, that bears K -/
structure ShAt (w : World) (lo p : Nat) (v : Value) (b n : Nat) (F : ByteArray → Int) (vs : List Value) (K : List (List Int)) : Prop where
  blk : Blk w p #[v, .map (some b)] 56
  row : ClsV (fun j => j ≠ p ∧ j ≠ b) w lo v K vs
  map : TMap w b n F
  lop : lo ≤ p
  lob : lo ≤ b
  pb : p ≠ b
  vp : v.ownBlock ≠ some p
  vb : v.ownBlock ≠ some b
  cnt : ∀ c, GdC c → F (ctx c) = (K.count c : Int)
  good : ∀ c ∈ K, GdC c

theorem ShAt.kp {w w' : World} {lo p b n : Nat} {v : Value} {F : ByteArray → Int} {vs : List Value} {K : List (List Int)} (h : ShAt w lo p v b n F vs K) (k : Kp (fun _ => False) w w') : ShAt w' lo p v b n F vs K :=
  ⟨h.blk.kp k (fun h => h), h.row.kp k, h.map.kp k (fun h => h), h.lop, h.lob, h.pb, h.vp, h.vb, h.cnt, h.good⟩

set_option maxRecDepth 100000 in
set_option maxHeartbeats 4000000 in
theorem shelf_put {w0 w : World} {lo p b n : Nat} {v : Value} {F : ByteArray → Int} {vs : List Value} {K : List (List Int)} (h : ShAt w0 lo p v b n F vs K) (h0 : Kp (fun _ => False) w0 w) (hn : n ≤ 1000000) (hK : K.length ≤ 1000000)
    {ac : Option Addr} {mc cc : Nat} {c : List Int} (hr : RowAt w ac (iv c)) (hl : c.length = mc) (hm : mc ≤ 100000) (hg : GdC c) (hf : ∀ q, ac = some q → w0.heap.size ≤ q.block ∧ q.block < w.heap.size) (ht : Tab w) :
    Calls Tryz.prog 28 #[.pointer (some ⟨p, 0, none⟩), .slice ac mc cc] w fun e w' => e = .returned (.tuple #[]) ∧ (∃ v' vs' F', ShAt w' lo p v' b (n + 1) F' vs' (K ++ [c])) ∧ Kp (fun j => lo ≤ j) w w' := by
  have HI := Lib.hid (show (Tryz.prog.info? 23).map (fun i => (i.zero, i.size, i.bytes)) = some (some (.slice none 0 0), 1, 24) by kernel_rfl)
  have HS := Lib.hid (h.kp h0)
  have HS0 := Lib.hid h
  have HBk := Lib.hid (h.kp h0).blk
  obtain ⟨s, hs⟩ : ∃ s, ctx c = s := ⟨_, rfl⟩
  have HSs := Lib.hid hs
  have HSz := Lib.hid (show s.size ≤ maxLen by rw [← hs]; exact ctx_size c (by omega))
  have HTxt := Lib.hid (fun u (hu : Kp (fun _ => False) w u) => show Calls Tryz.prog 51 #[.slice ac mc cc] u fun e w' => e = .returned (.string s) ∧ Kp (fun _ => False) u w' from by
    rw [← hs]
    exact clause_Text ac cc c mc u (hr.kp hu (fun _ _ h => h)) hl hm (ht.kp hu))
  have HR := Lib.hid hr
  have HL := Lib.hid hl
  have HG := Lib.hid hg
  have HF := Lib.hid hf
  have H0 := Lib.hid h0
  clear h hr hl hg hf ht hs h0
  go_enter Tryz.func28, Tryz.ntmps28
  go_upto_region 0 with fail
  refine wp_region_loose (p := upTo 6) (V := atV [EqV ((.pointer (some ⟨p, 0, none⟩))), EqV (.pointer (some ⟨p, 0, none⟩)), EqV (.pointer (some ⟨p, 1, none⟩)), EqV (.map (some b)), EqV ((.slice ac mc cc)), EqV (.string s)]) (LP := #[true, true, true, true, true, true, false, false, false]) (K := 3) (by kernel_rfl) (by kernel_rfl) (atV_st ?hstP0) ?hstepP0 (by kernel_rfl) ?hLPP0 (by kernel_rfl) ?hendP0
  case hstP0 =>
    intro W h
    simp only [List.mem_cons, List.not_mem_nil, or_false] at h
    rcases h with rfl | rfl | rfl | rfl | rfl | rfl <;> first | exact EqV.st _ | exact EqV.st _
  case hLPP0 => exact upTo_spec (by kernel_rfl)
  case hstepP0 =>
    intro i o ho hp a u hk hoff hdep
    have e0 : a.tmps[0]?.getD undef = (.pointer (some ⟨p, 0, none⟩)) := slot_at (hoff 0 (noDst_spec (by kernel_rfl)))
    have e1 : a.tmps[1]?.getD undef = (.slice ac mc cc) := slot_at (hoff 1 (noDst_spec (by kernel_rfl)))
    clear hoff
    match i, ho with
    | 0, ho =>
      obtain rfl := Option.some.inj ho
      refine lw_value (v := (.pointer (some ⟨p, 0, none⟩))) (u' := u) ?_ (Kp.refl _ _) rfl
      go_simp
    | 1, ho =>
      obtain rfl := Option.some.inj ho
      have e4 : a.tmps[4]?.getD undef = (.pointer (some ⟨p, 0, none⟩)) := slot_at (hdep ⟨0, .data⟩ (by simp) rfl _ 4 rfl rfl)
      refine lw_value (v := .pointer (some ⟨p, 0, none⟩)) (u' := u) ?_ (Kp.refl _ _) rfl
      go_simp
    | 2, ho =>
      obtain rfl := Option.some.inj ho
      have e5 : a.tmps[5]?.getD undef = .pointer (some ⟨p, 0, none⟩) := slot_at (hdep ⟨1, .data⟩ (by simp) rfl _ 5 rfl rfl)
      refine lw_value (v := .pointer (some ⟨p, 1, none⟩)) (u' := u) ?_ (Kp.refl _ _) rfl
      go_simp
    | 3, ho =>
      obtain rfl := Option.some.inj ho
      have e6 : a.tmps[6]?.getD undef = .pointer (some ⟨p, 1, none⟩) := slot_at (hdep ⟨2, .data⟩ (by simp) rfl _ 6 rfl rfl)
      have c1 := (HBk.out.kp hk (fun h => h)).cell (i := 1) (v := .map (some b)) rfl
      refine lw_value (v := .map (some b)) (u' := u) ?_ (Kp.refl _ _) rfl
      go_simp
    | 4, ho =>
      obtain rfl := Option.some.inj ho
      refine lw_value (v := (.slice ac mc cc)) (u' := u) ?_ (Kp.refl _ _) rfl
      go_simp
    | 5, ho =>
      obtain rfl := Option.some.inj ho
      have e8 : a.tmps[8]?.getD undef = (.slice ac mc cc) := slot_at (hdep ⟨4, .data⟩ (by simp) rfl _ 8 rfl rfl)
      refine lw_call (f := 51) (args := #[.slice ac mc cc]) ?_ ?_
      · go_simp
      · exact (HTxt.out u hk).mono (by rintro e u' ⟨rfl, hK⟩; exact ⟨_, rfl, hK, rfl⟩)
    | n + 6, _ => exact absurd hp (by simp [upTo])
  case hendP0 =>
    intro a u hI
    have hsz : a.tmps.size = 22 := hI.size
    have hdf : a.defers = [] := hI.defers
    have f0 : a.tmps.getD 0 undef = _ := hI.off 0 (noDst_spec (p := upTo 6) (by kernel_rfl))
    have f1 : a.tmps.getD 1 undef = _ := hI.off 1 (noDst_spec (p := upTo 6) (by kernel_rfl))
    have f2 : a.tmps.getD 2 undef = _ := hI.off 2 (noDst_spec (p := upTo 6) (by kernel_rfl))
    have f3 : a.tmps.getD 3 undef = _ := hI.off 3 (noDst_spec (p := upTo 6) (by kernel_rfl))
    have f10 : a.tmps.getD 10 undef = _ := hI.off 10 (noDst_spec (p := upTo 6) (by kernel_rfl))
    have f11 : a.tmps.getD 11 undef = _ := hI.off 11 (noDst_spec (p := upTo 6) (by kernel_rfl))
    have f12 : a.tmps.getD 12 undef = _ := hI.off 12 (noDst_spec (p := upTo 6) (by kernel_rfl))
    have f13 : a.tmps.getD 13 undef = _ := hI.off 13 (noDst_spec (p := upTo 6) (by kernel_rfl))
    have f14 : a.tmps.getD 14 undef = _ := hI.off 14 (noDst_spec (p := upTo 6) (by kernel_rfl))
    have f15 : a.tmps.getD 15 undef = _ := hI.off 15 (noDst_spec (p := upTo 6) (by kernel_rfl))
    have f16 : a.tmps.getD 16 undef = _ := hI.off 16 (noDst_spec (p := upTo 6) (by kernel_rfl))
    have f17 : a.tmps.getD 17 undef = _ := hI.off 17 (noDst_spec (p := upTo 6) (by kernel_rfl))
    have f18 : a.tmps.getD 18 undef = _ := hI.off 18 (noDst_spec (p := upTo 6) (by kernel_rfl))
    have f19 : a.tmps.getD 19 undef = _ := hI.off 19 (noDst_spec (p := upTo 6) (by kernel_rfl))
    have f20 : a.tmps.getD 20 undef = _ := hI.off 20 (noDst_spec (p := upTo 6) (by kernel_rfl))
    have f21 : a.tmps.getD 21 undef = _ := hI.off 21 (noDst_spec (p := upTo 6) (by kernel_rfl))
    have f4 : a.tmps.getD 4 undef = (.pointer (some ⟨p, 0, none⟩)) := hI.val 0 _ 4 rfl rfl rfl
    have f5 : a.tmps.getD 5 undef = .pointer (some ⟨p, 0, none⟩) := hI.val 1 _ 5 rfl rfl rfl
    have f6 : a.tmps.getD 6 undef = .pointer (some ⟨p, 1, none⟩) := hI.val 2 _ 6 rfl rfl rfl
    have f7 : a.tmps.getD 7 undef = .map (some b) := hI.val 3 _ 7 rfl rfl rfl
    have f8 : a.tmps.getD 8 undef = (.slice ac mc cc) := hI.val 4 _ 8 rfl rfl rfl
    have f9 : a.tmps.getD 9 undef = .string s := hI.val 5 _ 9 rfl rfl rfl
    have ha : a = ⟨#[a.tmps.getD 0 undef, a.tmps.getD 1 undef, a.tmps.getD 2 undef, a.tmps.getD 3 undef, a.tmps.getD 4 undef, a.tmps.getD 5 undef, a.tmps.getD 6 undef, a.tmps.getD 7 undef, a.tmps.getD 8 undef, a.tmps.getD 9 undef, a.tmps.getD 10 undef, a.tmps.getD 11 undef, a.tmps.getD 12 undef, a.tmps.getD 13 undef, a.tmps.getD 14 undef, a.tmps.getD 15 undef, a.tmps.getD 16 undef, a.tmps.getD 17 undef, a.tmps.getD 18 undef, a.tmps.getD 19 undef, a.tmps.getD 20 undef, a.tmps.getD 21 undef], a.defers⟩ := act_list a 22 hsz
    rw [hdf, f0, f1, f2, f3, f4, f5, f6, f7, f8, f9, f10, f11, f12, f13, f14, f15, f16, f17, f18, f19, f20, f21] at ha
    have hku := hI.kp
    clear hI hsz hdf f0 f1 f2 f3 f4 f5 f6 f7 f8 f9 f10 f11 f12 f13 f14 f15 f16 f17 f18 f19 f20 f21 
    subst ha
    refine wpAny_tail 6 rfl (by kernel_rfl) ?_
    simp only [List.drop_succ_cons, List.drop_zero]
    have HKu := Lib.hid hku
    have hM := HS.out.map.kp hku (fun h => h)
    have hlook := hM.look HSz.out
    have hFc : F s = (K.count c : Int) := by rw [← HSs.out]; exact HS.out.cnt c HG.out
    have hkl : (K.count c : Int) ≤ 1000000 := by have := List.count_le_length (a := c) (l := K); omega
    obtain ⟨y, hy⟩ : ∃ y : Nat, K.count c = y := ⟨_, rfl⟩
    rw [hy] at hFc hkl
    rw [hFc] at hlook
    obtain ⟨z, hz⟩ : ∃ z : Int, (y : Int) + 1 = z := ⟨_, rfl⟩
    have wy : IntKind.i64.wrap ((y : Int) + 1) = z := by rw [IntKind.wrap_i64]; omega
    obtain ⟨w2, hput, hM2, hK2⟩ := hM.put (by unfold maxLen; omega) (k := s) (v := z) HSz.out (by omega)
    have HZ := Lib.hid hz
    have HM2 := Lib.hid hM2
    have HK2 := Lib.hid hK2
    have HY := Lib.hid hy
    have hlo := HS.out.lob
    have hlp := HS.out.lop
    have HRow := Lib.hid ((HS.out.row.kp hku).kpS hK2 (fun j hj e => HS.out.vb (by rw [hj, e])) (fun j hj e => hj.2 e))
    have HBk2 := Lib.hid ((HBk.out.kp hku (fun h => h)).kp hK2 HS.out.pb)
    have c0 : w2.cell? ⟨p, 0, none⟩ = some v := HBk2.out.cell rfl
    have HVl := Lib.hid (HRow.out.kp ((Kp.refl (fun _ => False) w2).alloc (.cells #[.slice ac mc cc] 23)))
    have HNw := Lib.hid (Blk.new w2 #[.slice ac mc cc] 23)
    have HSl := Lib.hid (show vs.length ≤ 1000000 by rw [HRow.out.len]; exact hK)
    have HLo := Lib.hid (show lo ≤ w2.heap.size by have := HBk2.out.lt; omega)
    clear hM hFc hy hku hM2 hK2 hz
    simp only [Array.getD_eq_getD_getElem?, List.getElem?_toArray, List.getElem?_cons_zero, List.getElem?_cons_succ, Option.getD_some]
    go_wp2_with (at_builtin; refine wpList_append1_at rfl _ _ 24 23 rfl Tryz.underlying24 HI.out rfl HVl.out.own rfl ⟨w2.heap.size, 0, none⟩ (.slice ac mc cc) rfl (HNw.out.cell rfl) rfl ?d1 ?d2 ?d3 ?_)
    case d1 => have := HSl.out; omega
    case d2 => have := HSl.out; unfold maxLen; omega
    case d3 => have := HLo.out; first | omega | (rw [World.size_alloc]; omega)
    intro v' w3 hO3 hg3 hat3
    have hs0 := HBk2.out.lt
    have hat : v'.ownBlock ≠ some p ∧ v'.ownBlock ≠ some b := by
      have hb := HM2.out.lt
      rcases hat3 with e | e
      · rw [e]; exact ⟨HS.out.vp, HS.out.vb⟩
      · rw [e]; exact ⟨fun q => by simp at q; omega, fun q => by simp at q; omega⟩
    have HR3 := Lib.hid (show ClsV (fun j => j ≠ p ∧ j ≠ b) w3 lo v' (K ++ [c]) (vs ++ [.slice ac mc cc]) by
      have e : (Value.slice ac mc cc) = .slice ac c.length cc := by rw [HL.out]
      rw [e] at hO3 ⊢
      by_cases hc0 : c = []
      · exact ClsV.push HVl.out (.empty hc0) (.inl hc0) hO3 hg3 (by rw [World.size_alloc]; exact hat3)
      · have hne : ∀ q, ac = some q → q.block ≠ p ∧ q.block ≠ b ∧ v.ownBlock ≠ some q.block := fun q hq => by
          have f1 := (HF.out q hq).1
          have f2 := HS0.out.blk.lt
          have f3 := HS0.out.map.lt
          refine ⟨by omega, by omega, fun e => ?_⟩
          have := (HS0.out.row.own.lt _ e).2
          omega
        refine ClsV.push HVl.out ((((HR.out.kp HKu.out (fun _ _ h => h)).kp HK2.out (fun q hq e => (hne q hq).2.1 e))).kp ((Kp.refl (fun _ => False) w2).alloc _) (fun _ _ h => h)) (.inr fun q hq => ?_) hO3 hg3 (by rw [World.size_alloc]; exact hat3)
        have s1 := HKu.out.size
        have s2 := HK2.out.size
        exact ⟨by rw [World.size_alloc]; have := (HF.out q hq).2; omega, (hne q hq).2.2, (hne q hq).1, (hne q hq).2.1⟩)
    have hK3 : Kp (fun j => v.ownBlock = some j) w2 w3 := ((Kp.refl _ w2).alloc _).grown hg3 (fun j hj _ => hj)
    have HB3 := Lib.hid (HBk2.out.kp hK3 (fun e => HS.out.vp e))
    have HM3 := Lib.hid (HM2.out.kp hK3 (fun e => HS.out.vb e))
    have HAt := Lib.hid hat
    have HK3 := Lib.hid (show Kp (fun j => lo ≤ j) w w3 from ((HKu.out.mono (fun _ _ h => h.elim)).trans HK2.out (fun j _ e => by subst e; exact hlo)).trans hK3 (fun j _ e => by have := (HS.out.row.own.lt _ e).1; exact this))
    have c3 : w3.cell? ⟨p, 0, none⟩ = some v := HB3.out.cell rfl
    have f3 := HB3.out.free 0
    obtain ⟨a4, m4, c4, rfl⟩ : ∃ a m c, v' = .slice a m c := by
      obtain ⟨a, c, e, -⟩ := HR3.out.own.form
      exact ⟨a, _, c, e⟩
    clear hO3 hg3 hat3 hat hK3 c0
    go_wp2_with fail
    first | go_end0 | skip
    refine ⟨rfl, ⟨_, _, _, HB3.out.set_same 0 _, HR3.out.kpS (Kp.set w3 ⟨p, 0, none⟩ _) (fun j hj e => HAt.out.1 (by rw [hj, e])) (fun j hj e => hj.1 e), HM3.out.kp (Kp.set w3 ⟨p, 0, none⟩ _) (fun e => HS.out.pb e.symm), hlp, hlo, HS.out.pb, HAt.out.1, HAt.out.2, fun d hd => ?_, fun d hd => ?_⟩, HK3.out.setCell (fun _ => hlp) _⟩
    · show (if ctx d = s then z else F (ctx d)) = _
      rw [← HSs.out, List.count_append]
      by_cases e : d = c
      · subst e
        rw [if_pos rfl, List.count_singleton_self, HY.out, ← HZ.out]; omega
      · rw [if_neg (fun q => e (ctx_inj hd HG.out q)), HS.out.cnt d hd, List.count_singleton, if_neg (by simpa using fun q => e q.symm)]; omega
    · rcases List.mem_append.1 hd with hd | hd
      · exact HS.out.good d hd
      · simp at hd; rw [hd]; exact HG.out

end Go.Proofs.YthconjhldjaldaaGreatDoor

/-
  rup's shelf: drop.
-/
namespace Go.Proofs.YthconjhldjaldaaGreatDoor
open Go.RowKit

theorem ClsV.base {P : Nat → Prop} {w : World} {base lo : Nat} {v : Value} {K : List (List Int)} {vs : List Value} (h : ClsV P w base v K vs) (hl : lo ≤ base) : ClsV P w lo v K vs := ⟨h.own.mono hl, h.len, h.row⟩

set_option maxRecDepth 100000 in
set_option maxHeartbeats 4000000 in
theorem shelf_drop {w0 w : World} {lo p b n : Nat} {v : Value} {F : ByteArray → Int} {vs : List Value} {K : List (List Int)} (h : ShAt w0 lo p v b n F vs K) (h0 : Kp (fun _ => False) w0 w) (hn : n ≤ 1000000) (hK : K.length ≤ 1000000) (hKl : ∀ c ∈ K, c.length ≤ 1000000)
    {ac : Option Addr} {mc cc : Nat} {c : List Int} (hr : RowAt w ac (iv c)) (hl : c.length = mc) (hm : mc ≤ 100000) (hg : GdC c) (hf : ∀ q, ac = some q → w0.heap.size ≤ q.block ∧ q.block < w.heap.size) (ht : Tab w) :
    Calls Tryz.prog 27 #[.pointer (some ⟨p, 0, none⟩), .slice ac mc cc] w fun e w' => ((c ∉ K ∧ e = .returned (.bool false)) ∨ (c ∈ K ∧ e = .returned (.bool true) ∧ ∃ v' vs' F', ShAt w' lo p v' b (n + 1) F' vs' (K.erase c))) ∧ Kp (fun j => j = p ∨ j = b) w w' := by
  obtain ⟨W1, hW1⟩ : ∃ W1, w.alloc (.cells #[.slice ac mc cc] 23) = W1 := ⟨_, rfl⟩
  have k1 : Kp (fun _ => False) w W1 := by rw [← hW1]; exact (Kp.refl _ w).alloc _
  have HBx := Lib.hid (show Blk W1 w.heap.size #[.slice ac mc cc] 23 by rw [← hW1]; exact Blk.new w _ _)
  have HW := Lib.hid hW1
  have HS := Lib.hid ((h.kp h0).kp k1)
  have HBk := Lib.hid HS.out.blk
  have hplt := h.blk.lt
  have hblt := h.map.lt
  have hz0 := h0.size
  have HPl := Lib.hid (show p < w.heap.size by omega)
  have HBl := Lib.hid (show b < w.heap.size by omega)
  obtain ⟨s, hs⟩ : ∃ s, ctx c = s := ⟨_, rfl⟩
  have HSs := Lib.hid hs
  have HSz := Lib.hid (show s.size ≤ maxLen by rw [← hs]; exact ctx_size c (by omega))
  have HTxt := Lib.hid (show Calls Tryz.prog 51 #[.slice ac mc cc] W1 fun e w' => e = .returned (.string s) ∧ Kp (fun _ => False) W1 w' from by
    rw [← hs]
    exact clause_Text ac cc c mc W1 (hr.kp k1 (fun _ _ h => h)) hl hm (ht.kp k1))
  have HR := Lib.hid (hr.kp k1 (fun _ _ h => h))
  have HF := Lib.hid (fun q (hq : ac = some q) => show q.block ≠ b from fun e => by have := (hf q hq).1; omega)
  have HL := Lib.hid hl
  have HG := Lib.hid hg
  have HKl := Lib.hid hKl
  have HK1 := Lib.hid k1
  have b0 : W1.cell? ⟨w.heap.size, 0, none⟩ = some (.slice ac mc cc) := HBx.out.cell rfl
  clear h hr hl hg hf ht hs h0 k1 hKl hplt hblt hz0 hW1
  obtain ⟨y, hy⟩ : ∃ y : Nat, K.count c = y := ⟨_, rfl⟩
  have hFc : F s = (y : Int) := by rw [← HSs.out, ← hy]; exact HS.out.cnt c HG.out
  have hyl : y ≤ 1000000 := by have := List.count_le_length (a := c) (l := K); omega
  by_cases hmem : c ∈ K
  · have hy0 : 0 < y := by rw [← hy]; exact List.count_pos_iff.2 hmem
    have HM := Lib.hid hmem
    have HY := Lib.hid hy
    obtain ⟨z, hz⟩ : ∃ z : Int, (y : Int) - 1 = z := ⟨_, rfl⟩
    have wy : IntKind.i64.wrap ((y : Int) - 1) = z := by rw [IntKind.wrap_i64]; omega
    have HZ := Lib.hid hz
    have yne : ((y : Int) == 0) = false := by simp; omega
    obtain ⟨f1, f2, f3, f4⟩ := mem_first hmem
    obtain ⟨k, hk⟩ : ∃ k, K.idxOf c = k := ⟨_, rfl⟩
    rw [hk] at f1 f2 f3 f4
    have HKk := Lib.hid hk
    have HE := Lib.hid f4
    have HKlt := Lib.hid f1
    have hk1 : k ≤ 1000000 := by omega
    obtain ⟨z1, hz1⟩ : ∃ z1 : Int, (k : Int) + 1 = z1 := ⟨_, rfl⟩
    have wk : IntKind.i64.wrap ((k : Int) + 1) = z1 := by rw [IntKind.wrap_i64]; omega
    have HZ1 := Lib.hid (show ((k + 1 : Nat) : Int) = z1 by omega)
    clear hz hz1 hk f1 f2 f3 f4 hy hmem
    go_enter Tryz.func27, Tryz.ntmps27
    go_upto_region 1 with fail
    rw [HW.out]
    clear HW
    go_upto_region 2 with (go_at_call 51; refine HTxt.out.mono ?_; rintro e w1 ⟨rfl, hK1⟩; have HKa := Lib.hid hK1; clear hK1)
    have HS1 := Lib.hid (HS.out.kp HKa.out)
    have c1 : w1.cell? ⟨p, 1, none⟩ = some (.map (some b)) := HS1.out.blk.cell rfl
    have hlook := HS1.out.map.look HSz.out
    rw [hFc] at hlook
    obtain ⟨w2, hput, hM2, hK2⟩ := HS1.out.map.put (by unfold maxLen; omega) (k := s) (v := z) HSz.out (by have := HZ.out; omega)
    have HM2 := Lib.hid hM2
    have HK2 := Lib.hid hK2
    have HRow := Lib.hid (HS1.out.row.kpS hK2 (fun j hj e => HS1.out.vb (by rw [hj, e])) (fun j hj e => hj.2 e))
    have HBk2 := Lib.hid (HS1.out.blk.kp hK2 HS1.out.pb)
    have HBx2 := Lib.hid ((HBx.out.kp HKa.out (fun h => h)).kp hK2 (fun e => by have := HBl.out; omega))
    have c2 : w2.cell? ⟨p, 0, none⟩ = some v := HBk2.out.cell rfl
    have c3 : w2.cell? ⟨w.heap.size, 0, none⟩ = some (.slice ac mc cc) := HBx2.out.cell rfl
    have HR2 : Hid (RowAt w2 ac (iv c)) := Lib.hid ((HR.out.kp HKa.out (fun _ _ h => h)).kp HK2.out (fun q hq e => HF.out q hq e))
    have HIx := Lib.hid (rows_IndexFunc HRow.out c3 HR2.out HL.out (by omega) HM.out hK HKl.out)
    rw [HKk.out] at HIx
    have HCl := Lib.hid (fun q => rows_Clone (w := w2.drewN q) (HRow.out.kp ((Kp.refl (fun _ => False) w2).drewN q)) (by have := HKlt.out; omega) hK)
    have HDe := Lib.hid (fun (w3 : World) base (v2 : Value) (h : ClsV (fun j => j ≠ p ∧ j ≠ b) w3 base v2 K vs) => rows_Delete h HKlt.out hK)
    rw [HZ1.out] at HDe
    clear hM2 hK2
    go_upto_region 6 with (go_at_call 52; refine HIx.out.mono ?_; rintro e w3 ⟨rfl, q, rfl⟩)
    go_wp2_with (first
      | (go_at_call 56; refine (HCl.out q).mono ?_; rintro e w4 ⟨⟨v2, rfl, hV2⟩, hK4⟩; have HV2 := Lib.hid hV2; have HK4 := Lib.hid hK4; have HD2 := Lib.hid (HDe.out w4 _ v2 hV2); clear hV2 hK4)
      | (go_at_call 55; refine HD2.out.mono ?_; rintro e w5 ⟨⟨v3, rfl, hV3⟩, hK5⟩; obtain ⟨a3, m3, c3, rfl⟩ : (∃ a m c, v3 = .slice a m c) := (by obtain ⟨a, c, e, -⟩ := hV3.own.form; exact ⟨a, _, c, e⟩); have HV3 := Lib.hid hV3; have HK5 := Lib.hid hK5; have c5 := (((HBk2.out.kp ((Kp.refl (fun _ => False) w2).drewN q) (fun h => h)).kp HK4.out (fun h => h)).kp hK5 (fun e => by have h1 := (HV2.out.own.lt _ e).1; have h2 := HBk2.out.lt; exact absurd h1 (Nat.not_le.2 h2))).cell (i := 0) rfl; have f5 := (((HBk2.out.kp ((Kp.refl (fun _ => False) w2).drewN q) (fun h => h)).kp HK4.out (fun h => h)).kp hK5 (fun e => by have h1 := (HV2.out.own.lt _ e).1; have h2 := HBk2.out.lt; exact absurd h1 (Nat.not_le.2 h2))).free 0; clear hV3 hK5))
    go_ret
    have g2 : p < w2.heap.size ∧ b < w2.heap.size := ⟨HBk2.out.lt, HM2.out.lt⟩
    have o3 : ∀ j, (Value.slice a3 m3 c3).ownBlock = some j → w2.heap.size ≤ j := fun j hj => (HV3.out.own.lt _ hj).1
    have kq : Kp (fun _ => False) w2 (w2.drewN q) := (Kp.refl _ w2).drewN q
    have o2 : ∀ j, v2.ownBlock = some j → w2.heap.size ≤ j := fun j hj => (HV2.out.own.lt _ hj).1
    have hB5 := ((HBk2.out.kp kq (fun h => h)).kp HK4.out (fun h => h)).kp HK5.out (fun e => by have := o2 _ e; omega)
    have hM5 := ((HM2.out.kp kq (fun h => h)).kp HK4.out (fun h => h)).kp HK5.out (fun e => by have := o2 _ e; omega)
    refine ⟨.inr ⟨HM.out, rfl, _, vs.eraseIdx k, _, hB5.set_same 0 _, ?_, hM5.kp (Kp.set w5 ⟨p, 0, none⟩ _) (fun e => HS1.out.pb e.symm), HS1.out.lop, HS1.out.lob, HS1.out.pb, fun e => by have := o3 _ e; omega, fun e => by have := o3 _ e; omega, fun d hd => ?_, fun d hd => HS1.out.good d (List.mem_of_mem_erase hd)⟩, ?_⟩
    · rw [← HE.out]
      exact (HV3.out.base (by have := HS1.out.lop; show lo ≤ w2.heap.size; omega)).kpS (Kp.set w5 ⟨p, 0, none⟩ _) (fun j hj e => by have h3 := o3 _ hj; have h4 := g2.1; have e2 : j = p := e; omega) (fun j hj e => hj.1 e)
    · show (if ctx d = s then z else F (ctx d)) = _
      rw [← HSs.out, List.count_erase]
      by_cases e : d = c
      · subst e
        rw [if_pos rfl, HY.out, ← HZ.out]; simp; omega
      · rw [if_neg (fun q => e (ctx_inj hd HG.out q)), HS1.out.cnt d hd, if_neg (by simpa using fun q => e q.symm)]; simp
    · exact ((((HK1.out.trans HKa.out (fun _ _ h => h)).mono (fun _ _ h => h.elim)).trans HK2.out (fun j _ e => .inr e)).trans (((kq.trans HK4.out (fun _ _ h => h)).mono (T := fun j => j = p ∨ j = b) (fun _ _ h => h.elim)).trans HK5.out (fun j hj e => by have := o2 _ e; omega)) (fun _ _ h => h)).setCell (fun _ => .inl rfl) _
  · have hy0 : y = 0 := by rw [← hy]; exact List.count_eq_zero.2 hmem
    subst hy0
    have HN := Lib.hid hmem
    clear hmem hy
    go_enter Tryz.func27, Tryz.ntmps27
    go_upto_region 1 with fail
    rw [HW.out]
    clear HW
    go_upto_region 2 with (go_at_call 51; refine HTxt.out.mono ?_; rintro e w1 ⟨rfl, hK1⟩; have HKa := Lib.hid hK1; clear hK1)
    have HS1 := Lib.hid (HS.out.kp HKa.out)
    have c1 : w1.cell? ⟨p, 1, none⟩ = some (.map (some b)) := HS1.out.blk.cell rfl
    have hlook : (Instr.lookup 54 (.map (some b)) (.string s) false).run Tryz.prog w1 = .ok (.int .i64 0) w1 := by
      have := HS1.out.map.look HSz.out
      rw [hFc] at this; exact this
    go_wp2_with fail
    go_ret
    exact ⟨.inl ⟨HN.out, rfl⟩, (HK1.out.trans HKa.out (fun _ _ h => h)).mono (fun _ _ h => h.elim)⟩

end Go.Proofs.YthconjhldjaldaaGreatDoor

/-
  A line of a derivation, case by case.
-/
namespace Go.Proofs.YthconjhldjaldaaGreatDoor
open Go.RowKit

section
variable {N : List (Int × Int)} {want : List Int} {K K' : List (List Int)} {x : Bool × List Int} {c : List Int}
theorem rupG_err {d : Bool} {i : Nat} {r : List (Bool × List Int)} {e : Int} (h : rupL N want K x = .inr e) : rupG N want K d i (x :: r) = (i, e) := by rw [rupG, h]
theorem rupG_ok {d : Bool} {i : Nat} {r : List (Bool × List Int)} (h : rupL N want K x = .inl K') : rupG N want K d i (x :: r) = rupG N want K' (d || rupE x) (i + 1) r := by rw [rupG, h]
theorem rupL_none (h : normC x.2 = none) : rupL N want K x = .inr 5 := by unfold rupL; rw [h]
theorem rupL_big (h : normC x.2 = some c) (hb : ∃ y ∈ c, (N.length : Int) < y / 2) : rupL N want K x = .inr 5 := by unfold rupL; rw [h]; simp only; rw [if_pos hb]
theorem rupL_gone (h : normC x.2 = some c) (hb : ¬ ∃ y ∈ c, (N.length : Int) < y / 2) (hf : x.1 = true) (hc : c ∉ K) : rupL N want K x = .inr 9 := by unfold rupL; rw [h]; simp only; rw [if_neg hb, if_pos hf, if_neg hc]
theorem rupL_drop (h : normC x.2 = some c) (hb : ¬ ∃ y ∈ c, (N.length : Int) < y / 2) (hf : x.1 = true) (hc : c ∈ K) : rupL N want K x = .inl (K.erase c) := by
  unfold rupL; rw [h]; simp only; rw [if_neg hb, if_pos hf, if_pos hc]
theorem rupL_not (h : normC x.2 = some c) (hb : ¬ ∃ y ∈ c, (N.length : Int) < y / 2) (hf : x.1 = false) (hc : ¬ Fol N want K c) : rupL N want K x = .inr 11 := by unfold rupL; rw [h]; simp only; rw [if_neg hb, hf, if_neg (by decide), if_neg hc]
theorem rupL_put (h : normC x.2 = some c) (hb : ¬ ∃ y ∈ c, (N.length : Int) < y / 2) (hf : x.1 = false) (hc : Fol N want K c) : rupL N want K x = .inl (K ++ [c]) := by unfold rupL; rw [h]; simp only; rw [if_neg hb, hf, if_neg (by decide), if_pos hc]
end

/-- a rising clause's last literal is its greatest -/
theorem rising_last {c : List Int} {k : Nat} (hr : Rising c) (hk : c.length = k + 1) : ∀ y ∈ c, y ≤ gi c k := by
  intro y hy
  obtain ⟨i, hi, rfl⟩ := mem_gi hy
  by_cases e : i = k
  · rw [e]; exact Int.le_refl _
  · have := List.pairwise_iff_getElem.1 hr i k hi (by omega) (by omega)
    unfold gi
    rw [List.getElem?_eq_getElem hi, List.getElem?_eq_getElem (by omega)]
    exact Int.le_of_lt this

theorem insD_len {x : Int} : ∀ s : List Int, (insD x s).length ≤ s.length + 1
  | [] => by simp [insD]
  | z :: r => by
    have := insD_len (x := x) r
    unfold insD
    split
    · simp
    · split
      · simp
      · simp; exact this
theorem srtD_len : ∀ l : List Int, (srtD l).length ≤ l.length
  | [] => Nat.le_refl _
  | x :: r => by
    have h1 := insD_len (x := x) (srtD r)
    have h2 := srtD_len r
    show (insD x (srtD r)).length ≤ _
    rw [List.length_cons]; omega
theorem normC_len {l c : List Int} (h : normC l = some c) : c.length ≤ l.length := by
  have hs := srtD_len l
  unfold normC at h
  split at h
  · cases h
  · simp only [Option.some.injEq] at h
    rw [← h]
    split
    · rw [List.length_tail]; omega
    · exact hs

/-- what is kept is well known -/
structure KeptOK (n : Nat) (m : Nat) (K : List (List Int)) : Prop where
  kn : ∀ c ∈ K, KnC n c
  le : ∀ c ∈ K, c.length ≤ m
theorem KeptOK.nil (n m : Nat) : KeptOK n m [] := ⟨fun c h => (by cases h), fun c h => (by cases h)⟩
theorem KeptOK.erase {n m : Nat} {K : List (List Int)} (h : KeptOK n m K) (c : List Int) : KeptOK n m (K.erase c) := ⟨fun d hd => h.kn d (List.mem_of_mem_erase hd), fun d hd => h.le d (List.mem_of_mem_erase hd)⟩
theorem KeptOK.put {n m : Nat} {K : List (List Int)} (h : KeptOK n m K) {c : List Int} (h1 : KnC n c) (h2 : c.length ≤ m) : KeptOK n m (K ++ [c]) :=
  ⟨fun d hd => by
    rcases List.mem_append.1 hd with hd | hd
    · exact h.kn d hd
    · simp at hd; rw [hd]; exact h1, fun d hd => by
    rcases List.mem_append.1 hd with hd | hd
    · exact h.le d hd
    · simp at hd; rw [hd]; exact h2⟩

theorem drop_li {L : List (Bool × List Int)} {i : Nat} {x : Bool × List Int} (h : L[i]? = some x) : L.drop i = x :: L.drop (i + 1) := by
  obtain ⟨hi, e⟩ := List.getElem?_eq_some_iff.1 h
  rw [List.drop_eq_getElem_cons hi, e]

end Go.Proofs.YthconjhldjaldaaGreatDoor

/-
  rup.Follows.
-/
namespace Go.Proofs.YthconjhldjaldaaGreatDoor
open Go.RowKit

theorem CloseP.fol {w w' : World} {n : Nat} {K : List (List Int)} {e : Ending} (h : CloseP w n K e w') (hK : ∀ c ∈ K, KnC n c) : ∃ (v : Value) (b : Bool), e = .returned (.tuple #[v, .bool b]) ∧ (b = false ↔ UConf K) ∧ Kp (fun _ => False) w w' := by
  obtain ⟨⟨v, V, rfl, -, h1, -, h2⟩ | ⟨h1, rfl⟩, hk⟩ := h
  · exact ⟨v, true, rfl, ⟨fun h => (by cases h), fun h => absurd h (Done.no_conf h1 hK h2)⟩, hk⟩
  · exact ⟨_, false, rfl, ⟨fun _ => h1, fun _ => rfl⟩, hk⟩

set_option maxRecDepth 100000 in
set_option maxHeartbeats 4000000 in
theorem rup_Follows (an : Option Addr) (n cn : Nat) (N : List (Int × Int)) (al : Option Addr) (ml cl : Nat) (l : List Int) (ak : Option Addr) (mk ck : Nat) (K : List (List Int)) (ac : Option Addr) (mc cc : Nat) (c : List Int) (w : World)
    (hrn : RowAt w an (N.map pr2).flatten) (hnn : N.length = n) (hon : SlOK an n cn) (hn : n ≤ 900000) (hN : GoodN N) (hrl : RowAt w al (iv l)) (hll : l.length = ml) (hol : SlOK al ml cl) (hml : ml ≤ 400000) (hl : KnC n l) (hK : Cls w ak mk K) (hmk : mk ≤ 1000000) (hKn : ∀ c ∈ K, KnC n c) (hKl : ∀ c ∈ K, c.length ≤ 1000000)
    (hrc : RowAt w ac (iv c)) (hlc : c.length = mc) (hmc : mc ≤ 400000) (hc : KnC n c) :
    Calls Tryz.prog 9 #[.slice an n cn, .slice al ml cl, .slice ak mk ck, .slice ac mc cc] w fun e w' => ∃ b : Bool, e = .returned (.bool b) ∧ (b = true ↔ Fol N l K c) ∧ Kp (fun _ => False) w w' := by
  have HI := Lib.hid (show (Tryz.prog.info? 3).map (fun i => (i.zero, i.size, i.bytes)) = some (some (.int .i64 0), 1, 8) by kernel_rfl)
  have HCl := Lib.hid (clone_ints al ml cl l w hrl hll hol (by omega))
  have HNot := Lib.hid (fun x (hx : KnL n x) u => lit_Not (hx.gl (by omega)) u)
  have HWk := Lib.hid (show KnC n (l ++ c.map ng) from fun x hx => by
    rcases List.mem_append.1 hx with hx | hx
    · exact hl x hx
    · obtain ⟨y, hy, rfl⟩ := List.mem_map.1 hx; exact (hc y hy).ng)
  obtain ⟨LL, hLL⟩ : ∃ LL, l ++ c.map ng = LL := ⟨_, rfl⟩
  obtain ⟨mw, hmw⟩ : ∃ mw, LL.length = mw := ⟨_, rfl⟩
  rw [hLL] at HWk
  have HLL := Lib.hid hLL
  have HMW := Lib.hid hmw
  have HClose := Lib.hid (fun (u : World) (hu : Kp (fun _ => False) w u) (a : Option Addr) (cap : Nat) (hr : RowAt u a (iv LL)) =>
    (imply_Close an n cn N a mw cap LL ak mk ck K u (hrn.kp hu (fun _ _ h => h)) hnn hon hn hN hr hmw (by rw [← hmw, ← hLL, List.length_append, List.length_map]; omega) HWk.out (hK.kp hu) hmk hKn hKl).mono (fun e w' h => h.fol (hnn ▸ allK_kn hN (by rw [hnn]; exact HWk.out) (by rw [hnn]; exact hKn))))
  have HRc := Lib.hid hrc
  have HLc := Lib.hid hlc
  have HC := Lib.hid hc
  have HLl := Lib.hid hll
  clear hrn hnn hon hN hrl hll hol hl hK hKn hKl hrc hlc hc HWk hLL hmw
  go_enter Tryz.func9, Tryz.ntmps9
  go_wp2_with (go_at_call 19; refine HCl.out.mono ?_; rintro e w1 ⟨v9, rfl, hO, hK1⟩; have HO := Lib.hid hO; have HK1 := Lib.hid hK1; clear hO hK1)
  go_loopw [9, 18] (fun v9 v18 wr => ∃ k : Nat, v18 = .int .i64 k ∧ k ≤ mc ∧ Own wr w.heap.size 3 v9 (iv (l ++ (c.take k).map ng)) ∧ Kp (fun _ => False) w wr) (fun _ v18 _ => mc - (intOf v18).toNat)
  case atStart => exact ⟨0, rfl, Nat.zero_le _, by simpa [iv] using HO.out, HK1.out⟩
  case round =>
    clear HO HK1
    obtain ⟨k, rfl, hk, hO, hK⟩ := hrel
    have HO := Lib.hid hO
    have HK := Lib.hid hK
    clear hO hK
    obtain ⟨wp, rfl⟩ : ∃ wp : World, wp = wr := ⟨_, rfl⟩
    obtain ⟨A, hA⟩ : ∃ A, l ++ (c.take k).map ng = A := ⟨_, rfl⟩
    have HA := Lib.hid hA
    rw [hA] at HO
    clear hA
    by_cases hlt : k < mc
    · have hkl : k < c.length := by rw [HLc.out]; exact hlt
      obtain ⟨b, off, rfl, hcell⟩ := (HRc.out.kp HK.out (fun _ _ h => h)) k _ (iv_at hkl)
      have HNt := Lib.hid (HNot.out _ (HC.out _ (gi_mem hkl)) wp)
      have HT := Lib.hid (show c.take (k + 1) = c.take k ++ [gi c k] by rw [List.take_succ_eq_append_getElem hkl]; unfold gi; rw [List.getElem?_eq_getElem hkl]; rfl)
      obtain ⟨x, hx⟩ : ∃ x, gi c k = x := ⟨_, rfl⟩
      rw [hx] at hcell HNt HT
      obtain ⟨y, hy⟩ : ∃ y, ng x = y := ⟨_, rfl⟩
      have HY := Lib.hid hy
      rw [hy] at HNt
      have i0 : (0 : Int) ≤ (k : Int) := by omega
      have i1 : (k : Int) < (mc : Int) := by omega
      have HLen := Lib.hid (show (iv A).length ≤ 800000 by rw [← HA.out, iv_length, List.length_append, List.length_map, List.length_take, HLl.out]; omega)
      have HNw := Lib.hid (Blk.new wp #[.int .i64 y] 3)
      have HOl := Lib.hid (HO.out.alloc (.cells #[.int .i64 y] 3))
      have HSz := Lib.hid HK.out.size
      clear hkl hx hy
      go_wp2_with (first
        | (go_at_call 20; refine HNt.out.mono ?_; rintro e w1 ⟨rfl, rfl⟩)
        | (at_builtin; refine wpList_append1 rfl _ _ 23 3 rfl Tryz.underlying23 HI.out rfl HOl.out rfl ⟨wp.heap.size, 0, none⟩ (.int .i64 y) rfl (HNw.out.cell rfl) rfl ?d1 ?d2 ?d3 ?_))
      case d1 => have := HLen.out; omega
      case d2 => have := HLen.out; unfold maxLen; omega
      case d3 => rw [World.size_alloc]; exact Nat.le_succ_of_le HSz.out
      intro v' w2 hO3 hg2
      have HO3 := Lib.hid (show Own w2 w.heap.size 3 v' (iv (l ++ (c.take (k + 1)).map ng)) by
        rw [HT.out, List.map_append, ← List.append_assoc, HA.out]
        show Own w2 w.heap.size _ _ (iv (A ++ [ng x]))
        rw [HY.out, show iv (A ++ [y]) = iv A ++ [.int .i64 y] by simp [iv]]
        exact hO3)
      have HK3 := Lib.hid (show Kp (fun _ => False) w w2 from (HK.out.alloc _).grown hg2 (fun j hj hl => by have := (HO.out.lt j hj).1; omega))
      clear hO3 hg2
      go_wp2_with fail
      go_roundw
      case rel => exact ⟨k + 1, by go_num, hlt, HO3.out, HK3.out⟩
      case measure => simp [intOf]; omega
    · have hk' : k = mc := by omega
      have hno : decide ((k : Int) < (mc : Int)) = false := by simp; omega
      have HOf := Lib.hid (show Own wp w.heap.size 3 u9 (iv LL) by have := HO.out; rw [← HA.out, hk', ← HLc.out, List.take_length, HLL.out] at this; exact this)
      obtain ⟨a9, c9, e9, -, -, -, hr9⟩ := HOf.out.form
      rw [iv_length, HMW.out] at e9
      subst e9
      have HCs := Lib.hid (HClose.out wp HK.out a9 c9 hr9)
      clear hr9 HO HOf
      go_wp2_with (go_at_call 21; refine HCs.out.mono ?_; rintro e w3 ⟨v, b, rfl, hb, hK3⟩; have HB := Lib.hid hb; have HK3 := Lib.hid hK3; clear hb hK3)
      go_ret
      refine ⟨_, rfl, ?_, HK.out.trans HK3.out (fun _ _ h => h)⟩
      rw [Bool.not_eq_true', HB.out, ← HLL.out]
      exact Iff.rfl

end Go.Proofs.YthconjhldjaldaaGreatDoor

/-
  From the library's sorted rows to owned rows.
-/
namespace Go.Proofs.YthconjhldjaldaaGreatDoor
open Go.RowKit

theorem own_holds {α : Type} [Inhabited α] {enc : α → Value} {w : World} {base : Nat} {e : TypeId} {g n cap : Nat} {d : Array α}
    (h : Own w base e (.slice (some ⟨g, 0, none⟩) n cap) (d.toList.map enc)) : Sort.Holds enc w g 0 d := by
  intro j hj
  refine ⟨?_, by simpa using h.free j⟩
  have := h.cell (j := j) (u := enc d[j]!) (by
    rw [List.getElem?_map, Array.getElem?_toList, Array.getElem?_eq_getElem hj, getElem!_pos d j hj]; rfl)
  simpa using this

theorem own_sorted {α : Type} [Inhabited α] {enc : α → Value} {w : World} {base : Nat} {e : TypeId} {g n cap m : Nat} {d d' : Array α} {os : Array Obj}
    (h : Own w base e (.slice (some ⟨g, 0, none⟩) n cap) (d.toList.map enc)) (hs : d'.size = d.size) :
    Own (Sort.grow (Sort.putRow enc (Sort.ahead w m) g 0 d') os) base e (.slice (some ⟨g, 0, none⟩) n cap) (d'.toList.map enc) ∧
    Kp (· = g) w (Sort.grow (Sort.putRow enc (Sort.ahead w m) g 0 d') os) := by
  obtain ⟨h1, h2⟩ := h
  rcases h2 with ⟨h3, _⟩ | ⟨g', cap', cur, hv, hb, hg, hnc, hcm, hcs, htake⟩
  · cases h3
  · simp only [Value.slice.injEq, Option.some.injEq, Addr.mk.injEq, and_true] at hv
    obtain ⟨rfl, hn, rfl⟩ := hv
    subst hn
    have hlt : g < w.heap.size := (Array.getElem?_eq_some_iff.1 hg).1
    have hheap : ∀ k, k < w.heap.size → (Sort.grow (Sort.putRow enc (Sort.ahead w m) g 0 d') os).heap[k]? = (w.heap.modify g (Sort.onCells (Sort.putCells enc 0 d')))[k]? := by
      intro k hk
      show (w.heap.modify g (Sort.onCells (Sort.putCells enc 0 d')) ++ os)[k]? = _
      rw [Array.getElem?_append_left (by simpa using hk)]
    refine ⟨⟨by simp, .inr ⟨g, cap, Sort.putCells enc 0 d' cur, by simp [hs], hb, ?_, by simpa [hs] using hnc, hcm, by simpa [Sort.putCells] using hcs, ?_⟩⟩, ⟨rfl, rfl, rfl, ?_, ?_⟩⟩
    · rw [hheap g hlt, Array.getElem?_modify, if_pos rfl, hg]
      rfl
    · simp only [List.length_map, Array.length_toList, Nat.mul_one] at htake hnc hcs ⊢
      apply List.ext_getElem?
      intro i
      rw [List.getElem?_take]
      by_cases hi : i < d'.size
      · rw [if_pos hi]
        have hic : i < cur.size := by omega
        rw [Array.getElem?_toList, List.getElem?_map, Array.getElem?_toList, Array.getElem?_eq_getElem hi]
        unfold Sort.putCells
        rw [Array.getElem?_mapIdx, Array.getElem?_eq_getElem hic]
        simp only [Option.map_some]
        rw [if_pos ⟨Nat.zero_le _, by omega⟩, Nat.sub_zero, getElem!_pos d' i hi]
      · rw [if_neg hi, List.getElem?_eq_none (by simpa using hi)]
    · show w.heap.size ≤ (w.heap.modify g _ ++ os).size
      simp
    · intro k hk hne
      rw [hheap k hk, Array.getElem?_modify, if_neg (fun e => hne e.symm)]

end Go.Proofs.YthconjhldjaldaaGreatDoor
