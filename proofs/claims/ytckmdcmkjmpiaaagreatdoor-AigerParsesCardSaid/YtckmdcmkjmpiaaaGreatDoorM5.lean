/-
  latchetref13.ReadHead: what it computes: the head with which a text begins.
-/
import Derived.Test.YtckmdcmkjmpiaaaGreatDoorM4
set_option linter.unusedVariables false
set_option linter.unusedSimpArgs false
namespace Go.Proofs.YtckmdcmkjmpiaaaGreatDoor
open Go.RowKit

def hnums (l : List Nat) : List Value := l.map (fun (n : Nat) => Value.int .i64 (n : Int))
theorem hnums_length (l : List Nat) : (hnums l).length = l.length := by simp [hnums]
theorem hnums_snoc (l : List Nat) (x : Nat) : hnums (l ++ [x]) = hnums l ++ [.int .i64 (x : Int)] := by simp [hnums]
theorem hintInfo : (Tryz.prog.info? 3).map (fun i => (i.zero, i.size, i.bytes)) = some (some (.int .i64 0), 1, 8) := by kernel_rfl
theorem hnums_get (l : List Nat) (k : Nat) (hk : k < l.length + 2) : (hnums l ++ [.int .i64 0, .int .i64 0])[k]? = some (.int .i64 (nth l k)) := by
  rcases Nat.lt_or_ge k l.length with h | h
  · rw [List.getElem?_append_left (by rw [hnums_length]; exact h)]
    unfold hnums nth
    rw [List.getElem?_map, List.getElem?_eq_getElem h]; rfl
  · rw [List.getElem?_append_right (by rw [hnums_length]; exact h), hnums_length, nth_ge h]
    rcases (show k - l.length = 0 ∨ k - l.length = 1 by omega) with e | e <;> rw [e] <;> rfl

theorem own_of {w : World} {base g : Nat} {e : TypeId} {cs : List Value} (h : Blk w g cs.toArray e) (hg : base ≤ g) (hn : cs.length ≤ maxLen) : Own w base e (.slice (some ⟨g, 0, none⟩) cs.length cs.length) cs :=
  ⟨by simp, .inr ⟨g, cs.length, cs.toArray, rfl, hg, h, Nat.le_refl _, hn, by simp, by simp⟩⟩

theorem natT_nat {s : ByteArray} {p : Nat} (hp : p ≤ s.size) : natT s (p : Int) = natN s p := by
  unfold natT
  rw [if_neg (by omega), Int.toNat_natCast]

/-- what the reference's ReadHead answers -/
def RHeadP (s : ByteArray) (w : World) (o : Ending) (w' : World) : Prop :=
  o = .returned (.tuple #[headV (headT s).1 (headT s).2.1, .int .i64 (headT s).2.2.1, .int .i64 (headT s).2.2.2]) ∧ Kp (fun _ => False) w w'

/-- the cut text is a head's beginning or not -/
theorem isHead_cut (s : ByteArray) (_h4 : 4 ≤ s.size) : ((s.extract 0 4).toList = [97, 97, 103, 32] ∨ (s.extract 0 4).toList = [97, 105, 103, 32]) ↔ isHead s := by
  rw [← isHead_pre, Lib.extract_toList]
  unfold Lib.hasPrefix
  rw [List.isPrefixOf_iff_prefix, List.isPrefixOf_iff_prefix, List.drop_zero]
  have e : ∀ l : List UInt8, l.length = 4 → (List.take (4 - 0) s.data.toList = l ↔ l <+: s.data.toList) := fun l hl => by
    rw [List.prefix_iff_eq_take, hl]; exact ⟨fun h => h.symm, fun h => h.symm⟩
  rw [e _ rfl, e _ rfl]

theorem own_cells7 {w : World} {base g m c : Nat} {L : List Nat} (h : Own w base 3 (.slice (some ⟨g, 0, none⟩) m c) (hnums L ++ [.int .i64 0, .int .i64 0])) (h5 : 5 ≤ L.length) :
    w.cell? ⟨g, 0, none⟩ = some (.int .i64 (nth L 0)) ∧ w.cell? ⟨g, 1, none⟩ = some (.int .i64 (nth L 1)) ∧ w.cell? ⟨g, 2, none⟩ = some (.int .i64 (nth L 2)) ∧ w.cell? ⟨g, 3, none⟩ = some (.int .i64 (nth L 3)) ∧
    w.cell? ⟨g, 4, none⟩ = some (.int .i64 (nth L 4)) ∧ w.cell? ⟨g, 5, none⟩ = some (.int .i64 (nth L 5)) ∧ w.cell? ⟨g, 6, none⟩ = some (.int .i64 (nth L 6)) :=
  ⟨h.cell (hnums_get L 0 (by omega)), h.cell (hnums_get L 1 (by omega)), h.cell (hnums_get L 2 (by omega)), h.cell (hnums_get L 3 (by omega)), h.cell (hnums_get L 4 (by omega)), h.cell (hnums_get L 5 (by omega)), h.cell (hnums_get L 6 (by omega))⟩

theorem refHead_end {s : ByteArray} {w wz : World} {b : Bool} {L : List Nat} {P E : Nat} (hT : headT s = (b, L, P, E)) {tmps : Array Value}
    (ht2 : tmps[2]? = some (.pointer (some ⟨w.heap.size, 0, none⟩))) {P' E' : Int} (hP : P' = P) (hE : E' = E) (ht3 : tmps[3]? = some (.int .i64 P')) (ht4 : tmps[4]? = some (.int .i64 E'))
    (h0 : Blk wz w.heap.size (headC b L) 42) (hk : Kp (fun _ => False) w wz) :
    bodyPost Tryz.prog Tryz.f17 (fun o w' => RHeadP s w o w') Exit.ret { tmps := tmps, defers := [] } wz := by
  subst hP hE
  obtain ⟨z0, z1, z2, z3, z4, z5, z6, z7⟩ := h0.cells8
  refine bodyPost_ret (v := .tuple #[headV b L, .int .i64 P, .int .i64 E]) ?_ rfl ?_
  · simp [results, Tryz.results17, go_sem, ht2, ht3, ht4, z0, z1, z2, z3, z4, z5, z6, z7, headV]
  · unfold RHeadP
    rw [hT]
    exact ⟨rfl, hk⟩

set_option maxRecDepth 100000 in
set_option maxHeartbeats 8000000 in
theorem ref_ReadHead_no (s : ByteArray) (w : World) (hI : ¬ isHead s) :
    Calls Tryz.prog 17 #[.string s] w fun o w' => RHeadP s w o w' := by
  have HT := Lib.hid (show headT s = (false, [], 0, 2) by unfold headT; rw [if_pos hI])
  have HE := Lib.hid (isHead_cut s)
  have HB := Lib.hid (Blk.new w #[.bool false, .int .i64 0, .int .i64 0, .int .i64 0, .int .i64 0, .int .i64 0, .int .i64 0, .int .i64 0] 42)
  by_cases h4 : 4 ≤ s.size
  · have d4 : decide ((s.size : Int) < 4) = false := by simp; omega
    have c1 : ((s.extract 0 4).toList == [97, 97, 103, 32]) = false := by
      rw [beq_eq_false_iff_ne]; exact fun h => hI ((HE.out h4).1 (.inl h))
    have c2 : ((s.extract 0 4).toList == [97, 105, 103, 32]) = false := by
      rw [beq_eq_false_iff_ne]; exact fun h => hI ((HE.out h4).1 (.inr h))
    have h5 : (4 : Int) ≤ (s.size : Int) := by omega
    clear hI
    go_enter Tryz.func17, Tryz.ntmps17
    go_wp2_with fail
    refine refHead_end (P := 0) (E := 2) (P' := 0) (E' := 2) HT.out ?_ rfl rfl ?_ ?_ HB.out ((Kp.refl _ w).alloc _) <;> rfl
  · have d4 : decide ((s.size : Int) < 4) = true := by simp; omega
    clear hI
    go_enter Tryz.func17, Tryz.ntmps17
    go_wp2_with fail
    refine refHead_end (P := 0) (E := 2) (P' := 0) (E' := 2) HT.out ?_ rfl rfl ?_ ?_ HB.out ((Kp.refl _ w).alloc _) <;> rfl

set_option maxRecDepth 100000 in
set_option maxHeartbeats 8000000 in
theorem ref_ReadHead_yes (s : ByteArray) (w : World) (hI : isHead s) (hs : s.size ≤ 2000000) :
    Calls Tryz.prog 17 #[.string s] w fun o w' => RHeadP s w o w' := by
  have HI := Lib.hid hI
  have HNat := Lib.hid (fun (p : Nat) (u : World) => ref_Nat s p u (by omega))
  have h4 := hI.1
  have HB0 := Lib.hid (Blk.new w #[.bool false, .int .i64 0, .int .i64 0, .int .i64 0, .int .i64 0, .int .i64 0, .int .i64 0, .int .i64 0] 42)
  have d4 : decide ((s.size : Int) < 4) = false := by simp; omega
  have h5 : (4 : Int) ≤ (s.size : Int) := by omega
  have HC := Lib.hid ((isHead_cut s h4).2 hI)
  clear hI
  go_enter Tryz.func17, Tryz.ntmps17
  go_upto_region 1 with fail
  go_cut [23] from 11 to 23 (fun s23 wx => s23 = .bool false ∧ wx = w.alloc (.cells #[.bool false, .int .i64 0, .int .i64 0, .int .i64 0, .int .i64 0, .int .i64 0, .int .i64 0, .int .i64 0] 42))
  case first =>
    by_cases h1 : (s.extract 0 4).toList = [97, 97, 103, 32]
    · have c1 : ((s.extract 0 4).toList == [97, 97, 103, 32]) = true := by rw [h1]; rfl
      clear h1
      go_wp2_with fail
      go_meet
      case rel => exact ⟨rfl, rfl⟩
    · have c1 : ((s.extract 0 4).toList == [97, 97, 103, 32]) = false := by rw [beq_eq_false_iff_ne]; exact h1
      have c2 : ((s.extract 0 4).toList == [97, 105, 103, 32]) = true := by rw [HC.out.resolve_left h1]; rfl
      clear h1
      go_wp2_with fail
      go_meet
      case rel => exact ⟨rfl, rfl⟩
  case rest =>
  obtain ⟨rfl, rfl⟩ := hcut
  clear d4 h5
  go_wp2_with fail
  go_loopw [5, 6] (fun v5 v6 wr => ∃ p l, v6 = .int .i64 (p : Nat) ∧ l.length ≤ 8 ∧ p ≤ s.size ∧ (∀ j, nth l j ≤ 16777216) ∧ headL s (9 - l.length) p l = headL s 9 4 [] ∧ Blk wr w.heap.size #[.bool false, .int .i64 0, .int .i64 0, .int .i64 0, .int .i64 0, .int .i64 0, .int .i64 0, .int .i64 0] 42 ∧
      Own wr (w.heap.size + 1) 3 v5 (hnums l) ∧ Kp (fun _ => False) w wr) (fun _ v6 _ => s.size - (intOf v6).toNat)
  case atStart =>
    refine ⟨4, [], rfl, by simp, by omega, fun j => by rw [nth_ge (by simp)]; omega, rfl, HB0.out.alloc _, ?_, (((Kp.refl _ w).alloc _).alloc _)⟩
    have hb : Blk ((w.alloc (.cells #[.bool false, .int .i64 0, .int .i64 0, .int .i64 0, .int .i64 0, .int .i64 0, .int .i64 0, .int .i64 0] 42)).alloc (.cells #[] 3)) (w.heap.size + 1) #[] 3 := by
      have := Blk.new (w.alloc (.cells #[.bool false, .int .i64 0, .int .i64 0, .int .i64 0, .int .i64 0, .int .i64 0, .int .i64 0, .int .i64 0] 42)) #[] 3
      rwa [World.size_alloc] at this
    exact own_of (cs := []) hb (Nat.le_refl _) (by simp)
  case round =>
    obtain ⟨p, l, rfl, hl, hp, hb, hrun, hB, hO, hK⟩ := hrel
    obtain ⟨k, hk⟩ : ∃ k, l.length = k := ⟨_, rfl⟩
    obtain ⟨va, vc, hv, hlc, _, _, _⟩ := hO.form
    subst hv
    have HB := Lib.hid hB
    have HO := Lib.hid hO
    have HK := Lib.hid hK
    have HRUN := Lib.hid hrun
    have HBD := Lib.hid hb
    have HL := Lib.hid hk
    rw [hnums_length, hk] at HO ⊢
    have hk8 : k ≤ 8 := by omega
    clear hB hO hK hrun hb hlc hl hk
    have HNp := Lib.hid (fun u => HNat.out p u)
    rw [natT_nat hp] at HNp
    obtain ⟨n, hn⟩ : ∃ n, (natN s p).1 = n := ⟨_, rfl⟩
    obtain ⟨q, hq⟩ : ∃ q, (natN s p).2.1 = q := ⟨_, rfl⟩
    obtain ⟨e, he⟩ : ∃ e, (natN s p).2.2 = e := ⟨_, rfl⟩
    obtain ⟨E, hE⟩ : ∃ E, numE s p (if 7 ≤ k then 0 else 16777216) = E := ⟨_, rfl⟩
    unfold tripI at HNp
    rw [hn, hq, he] at HNp
    have HN := Lib.hid (And.intro hn (And.intro hq (And.intro he hE)))
    have HEE := Lib.hid (show E = if e ≠ 0 then e else if (if 7 ≤ k then 0 else 16777216) < n then 5 else 0 by rw [← hE]; unfold numE; rw [hn, he])
    clear hn hq he hE
    go_wp2_with fail
    refine (HNp.out _).mono ?_
    rintro o w' ⟨rfl, rfl⟩
    go_upto_region 5 with fail
    obtain ⟨wa, rfl⟩ : ∃ wa : World, wa = wr := ⟨_, rfl⟩
    go_cut [47] from 33 to 47 (fun s47 wx => s47 = .bool (decide (e = 0 ∧ E ≠ 0)) ∧ wx = wa)
    case first =>
      have HG : ∀ b : Bool, b = decide (e = 0 ∧ E ≠ 0) → Value.bool b = Value.bool (decide (e = 0 ∧ E ≠ 0)) := fun b h => by rw [h]
      have HG := Lib.hid HG
      by_cases he : e = 0
      · have t1 : ((e : Int) == 0) = true := by rw [beq_iff_eq]; omega
        have he2 := Lib.hid he
        clear he
        by_cases g1 : 16777216 < n
        · have t2 : decide ((16777216 : Int) < (n : Int)) = true := by simp; omega
          have HZ := Lib.hid (show true = decide (e = 0 ∧ E ≠ 0) by symm; rw [decide_eq_true_iff]; refine ⟨he2.out, ?_⟩; rw [HEE.out, if_neg (by simpa using he2.out), if_pos (by split <;> omega)]; omega)
          clear g1
          go_wp2_with fail
          go_meet
          case rel => exact ⟨HG.out _ HZ.out, rfl⟩
        · have t2 : decide ((16777216 : Int) < (n : Int)) = false := by simp; omega
          by_cases g2 : 7 ≤ k
          · have t3 : decide ((6 : Int) < (k : Int)) = true := by simp; omega
            by_cases g3 : 0 < n
            · have t4 : decide (0 < n) = true := by simp; omega
              have HZ := Lib.hid (show true = decide (e = 0 ∧ E ≠ 0) by symm; rw [decide_eq_true_iff]; refine ⟨he2.out, ?_⟩; rw [HEE.out, if_neg (by simpa using he2.out), if_pos (by rw [if_pos g2]; exact g3)]; omega)
              clear g1 g2 g3
              go_wp2_with fail
              go_meet
              case rel => exact ⟨HG.out _ (by first | exact HZ.out | (rw [t4]; exact HZ.out)), rfl⟩
            · have t4 : decide (0 < n) = false := by simp; omega
              have HZ := Lib.hid (show false = decide (e = 0 ∧ E ≠ 0) by symm; rw [decide_eq_false_iff_not]; rintro ⟨_, h⟩; rw [HEE.out, if_neg (by simpa using he2.out), if_neg (by rw [if_pos g2]; exact g3)] at h; exact h rfl)
              clear g1 g2 g3
              go_wp2_with fail
              go_meet
              case rel => exact ⟨HG.out _ (by first | exact HZ.out | (rw [t4]; exact HZ.out)), rfl⟩
          · have t3 : decide ((6 : Int) < (k : Int)) = false := by simp; omega
            have HZ := Lib.hid (show false = decide (e = 0 ∧ E ≠ 0) by symm; rw [decide_eq_false_iff_not]; rintro ⟨_, h⟩; rw [HEE.out, if_neg (by simpa using he2.out), if_neg (by rw [if_neg g2]; exact g1)] at h; exact h rfl)
            clear g1 g2
            go_wp2_with fail
            go_meet
            case rel => exact ⟨HG.out _ HZ.out, rfl⟩
      · have t1 : ((e : Int) == 0) = false := by rw [beq_eq_false_iff_ne]; omega
        have HZ := Lib.hid (show false = decide (e = 0 ∧ E ≠ 0) by symm; rw [decide_eq_false_iff_not]; exact fun h => he h.1)
        clear he
        go_wp2_with fail
        go_meet
        case rel => exact ⟨HG.out _ HZ.out, rfl⟩
    case rest =>
    obtain ⟨rfl, rfl⟩ := hcut
    obtain ⟨z0, z1, z2, z3, z4, z5, z6, z7⟩ := HB.out.cells8
    have zf := HB.out.free
    have f0 := zf 0
    have f1 := zf 1
    have f2 := zf 2
    have f3 := zf 3
    have f4 := zf 4
    have f5 := zf 5
    have f6 := zf 6
    have f7 := zf 7
    clear zf
    have HSet := Lib.hid (HB.out.set8 (.bool false) (.int .i64 0) (.int .i64 0) (.int .i64 0) (.int .i64 0) (.int .i64 0) (.int .i64 0) (.int .i64 0))
    have HKS := Lib.hid (HK.out.set8 (b := w.heap.size) (by simp) (.bool false) (.int .i64 0) (.int .i64 0) (.int .i64 0) (.int .i64 0) (.int .i64 0) (.int .i64 0) (.int .i64 0))
    by_cases hE0 : E = 0
    · have he : e = 0 := by
        by_cases h : e = 0
        · exact h
        · have := HEE.out
          rw [if_pos h] at this
          omega
      have hD : decide (e = 0 ∧ E ≠ 0) = false := by rw [decide_eq_false_iff_not]; exact fun h => h.2 hE0
      have t2 : ((e : Int) != 0) = false := by rw [he]; rfl
      have HN0 := Lib.hid (show numE s p (if 7 ≤ k then 0 else 16777216) = 0 by rw [HN.out.2.2.2]; exact hE0)
      obtain ⟨hpq, hqs, hnt⟩ := numE_ok hp HN.out.1 HN.out.2.1 HN0.out
      have hnt2 : n ≤ 16777216 := by split at hnt <;> omega
      have HSt := Lib.hid (stepH_sign (k := k) rfl HN.out.1 HN.out.2.1 HN0.out)
      clear he hE0 hnt z0 z1 z2 z3 z4 z5 z6 z7 f0 f1 f2 f3 f4 f5 f6 f7 HSet HKS
      rw [hD]
      clear hD
      go_wp2_with (at_builtin; refine wpList_append1 rfl _ _ 22 3 rfl Tryz.underlying22 hintInfo rfl (HO.out.alloc _) rfl ⟨wc.heap.size, 0, none⟩ (.int .i64 (n : Int)) rfl ?c1 rfl ?c2 ?c3 ?c4 ?_)
      case c1 => simp
      case c2 => rw [hnums_length, HL.out]; omega
      case c3 => rw [hnums_length, HL.out]; unfold maxLen; omega
      case c4 => have := HK.out.size; have := HB.out.lt; simp; omega
      intro v3 w3 hO3 hg3
      have hK3 : Kp (fun j => (Value.slice va k vc).ownBlock = some j) wc w3 := ((Kp.refl _ wc).alloc _).grown hg3 (fun j hj _ => hj)
      have hown := fun j (h : (Value.slice va k vc).ownBlock = some j) => (HO.out.lt j h).1
      have HB3 := Lib.hid (HB.out.kp hK3 (fun h => by have := hown _ h; omega))
      have hO4 : Own w3 (w.heap.size + 1) 3 v3 (hnums (l ++ [n])) := by rw [hnums_snoc]; exact hO3
      have HK3 := Lib.hid (HK.out.trans hK3 (fun j hj h => by have := hown j h; omega))
      obtain ⟨a3, c3, hv3, _, _, _, _⟩ := hO4.form
      subst hv3
      obtain ⟨m, hm⟩ : ∃ m, (l ++ [n]).length = m := ⟨_, rfl⟩
      rw [hnums_length, hm] at hO4 ⊢
      have hmk : m = k + 1 := by rw [← hm, List.length_append, HL.out]; rfl
      have HM := Lib.hid (And.intro hm hmk)
      have HO4 := Lib.hid hO4
      clear hO3 hg3 hK3 hown hO4 hm hmk HB HO HK
      obtain ⟨z0, z1, z2, z3, z4, z5, z6, z7⟩ := HB3.out.cells8
      have zf := HB3.out.free
      have f0 := zf 0
      have f1 := zf 1
      have f2 := zf 2
      have f3 := zf 3
      have f4 := zf 4
      have f5 := zf 5
      have f6 := zf 6
      have f7 := zf 7
      clear zf
      by_cases hqe : q = s.size
      · have t3 : ((q : Int) == (s.size : Int)) = true := by rw [beq_iff_eq]; omega
        rw [if_pos hqe] at HSt
        have HT := Lib.hid (headT_bad HI.out (HRUN.out.symm.trans (headL_stop_ HL.out hk8 HSt.out (by decide))) (by decide))
        clear hqe
        have HSet := Lib.hid (HB3.out.set8 (.bool false) (.int .i64 0) (.int .i64 0) (.int .i64 0) (.int .i64 0) (.int .i64 0) (.int .i64 0) (.int .i64 0))
        have HKS := Lib.hid (HK3.out.set8 (b := w.heap.size) (by simp) (.bool false) (.int .i64 0) (.int .i64 0) (.int .i64 0) (.int .i64 0) (.int .i64 0) (.int .i64 0) (.int .i64 0))
        go_wp2_with fail
        refine refHead_end HT.out ?_ rfl rfl ?_ ?_ HSet.out HKS.out <;> rfl
      · have t3 : ((q : Int) == (s.size : Int)) = false := by rw [beq_eq_false_iff_ne]; omega
        rw [if_neg hqe] at HSt
        have hlt : q < s.size := by omega
        have l1 : (q : Int) < (s.size : Int) := by omega
        have hb := bt_eq hlt
        clear hqe
        by_cases hF : bt s q = 10 ∧ 4 ≤ k
        · have e10 : ((bt s q : Int) == 10) = true := by rw [beq_iff_eq]; omega
          have d4 : decide ((4 : Int) < (m : Int)) = true := by have := HM.out.2; simp; omega
          rw [if_pos hF] at HSt
          have HHL := Lib.hid (HRUN.out.symm.trans (headL_fin_ HL.out hk8 HSt.out))
          have hk4 := hF.2
          clear hF
          have HBL := Lib.hid (nth_bound HBD.out n hnt2 (Nat.le_refl _))
          obtain ⟨L, hL⟩ : ∃ L, l ++ [n] = L := ⟨_, rfl⟩
          rw [hL] at HO4 HHL HBL
          have HLm := Lib.hid (show L.length = m by rw [← hL]; exact HM.out.1)
          have HM2 := Lib.hid HM.out.2
          clear hL HM
          have hm5 : 5 ≤ m := by have := HM2.out; omega
          have hm9 : m ≤ 9 := by have := HM2.out; omega
          go_wp2_with (at_builtin; refine wpList_appendAll rfl _ _ 22 3 rfl Tryz.underlying22 hintInfo rfl (HO4.out.alloc _) rfl (some ⟨w3.heap.size, 0, none⟩) 2 2 [.int .i64 0, .int .i64 0] rfl rfl ?r1 (fun h => by cases h) ?r2 ?c2 ?c3 ?c4 ?_)
          case r1 => exact (Blk.new w3 #[Value.int .i64 0, Value.int .i64 0] 3).rowAt (n := 2) rfl
          case r2 => intro u hu; simp at hu; subst hu; rfl
          case c2 => rw [hnums_length, HLm.out]; omega
          case c3 => rw [hnums_length, HLm.out]; unfold maxLen; omega
          case c4 => have := HK3.out.size; have := HB3.out.lt; simp; omega
          intro v5 w5 hO5 hg5
          have hK5 : Kp (fun j => (Value.slice a3 m c3).ownBlock = some j) w3 w5 := ((Kp.refl _ w3).alloc _).grown hg5 (fun j hj _ => hj)
          have hown5 := fun j (h : (Value.slice a3 m c3).ownBlock = some j) => (HO4.out.lt j h).1
          have HB5 := Lib.hid (HB3.out.kp hK5 (fun h => by have := hown5 _ h; omega))
          have HK5 := Lib.hid (HK3.out.trans hK5 (fun j hj h => by have := hown5 j h; omega))
          obtain ⟨g, c5, hv5, hgb, hgl⟩ := hO5.leads (by simp)
          subst hv5
          obtain ⟨m5, hm5e⟩ : ∃ m5, (hnums L ++ [Value.int .i64 0, Value.int .i64 0]).length = m5 := ⟨_, rfl⟩
          rw [hm5e] at hO5 ⊢
          have hm7 : 7 ≤ m5 := by rw [← hm5e, List.length_append, hnums_length, HLm.out]; simp; omega
          have HO5 := Lib.hid hO5
          have HL5 := Lib.hid (show 5 ≤ L.length by rw [HLm.out]; exact hm5)
          clear hO5 hg5 hK5 hown5 HB3 HK3 HO4 z0 z1 z2 z3 z4 z5 z6 z7 f0 f1 f2 f3 f4 f5 f6 f7 hm5e t3 e10 d4 l1 hb hgb hlt
          have i0 : (0 : Int) < (m5 : Int) := by omega
          have j0 : 0 < m5 := by omega
          have i1 : (1 : Int) < (m5 : Int) := by omega
          have i2 : (2 : Int) < (m5 : Int) := by omega
          have i3 : (3 : Int) < (m5 : Int) := by omega
          have i4 : (4 : Int) < (m5 : Int) := by omega
          have i5 : (5 : Int) < (m5 : Int) := by omega
          have i6 : (6 : Int) < (m5 : Int) := by omega
          have l1 : (1 : Int) < (s.size : Int) := by omega
          have hb1 := bt_eq (s := s) (i := 1) (by omega)
          obtain ⟨bb, hbb⟩ : ∃ bb, ((bt s 1 : Int) == 105) = bb := ⟨_, rfl⟩
          have HBB := Lib.hid (show decide (bt s 1 = 105) = bb by rw [← hbb]; exact (int_beq (bt s 1) 105).symm)
          go_upto_region 17 with fail
          obtain ⟨wb, rfl⟩ : ∃ wb : World, wb = w5 := ⟨_, rfl⟩
          go_cut [10] from 89 to 113 (fun s10 wx => ∃ nb, s10 = .pointer (some ⟨nb, 0, none⟩) ∧ w.heap.size < nb ∧ Kp (fun _ => False) w wx ∧ Blk wx w.heap.size #[.bool false, .int .i64 0, .int .i64 0, .int .i64 0, .int .i64 0, .int .i64 0, .int .i64 0, .int .i64 0] 42 ∧ Blk wx nb (headC bb L) 42)
          case first =>
            go_region_held3 (fun u => u.cell? ⟨g, 0, none⟩ = some (.int .i64 (nth L 0)) ∧ u.cell? ⟨g, 1, none⟩ = some (.int .i64 (nth L 1)) ∧ u.cell? ⟨g, 2, none⟩ = some (.int .i64 (nth L 2)) ∧ u.cell? ⟨g, 3, none⟩ = some (.int .i64 (nth L 3)) ∧ u.cell? ⟨g, 4, none⟩ = some (.int .i64 (nth L 4)) ∧ u.cell? ⟨g, 5, none⟩ = some (.int .i64 (nth L 5)) ∧ u.cell? ⟨g, 6, none⟩ = some (.int .i64 (nth L 6))) (first | exact own_cells7 HO5.out HL5.out | exact own_cells7 HO5.out.drew HL5.out | exact own_cells7 (HO5.out.alloc _) HL5.out | exact own_cells7 (HO5.out.drew.alloc _) HL5.out | exact own_cells7 (HO5.out.alloc _).drew HL5.out) (fail)
            all_goals go_wp2_with fail
            all_goals go_meet
            all_goals exact ⟨_, rfl, HB5.out.lt, (HK5.out.alloc _).drew, (HB5.out.alloc _).drew, (Blk.new wb _ _).drew⟩
          case rest =>
          obtain ⟨nb, rfl, hnb, hK6, hB6, hN6⟩ := hcut
          have HK6 := Lib.hid hK6
          have HB6 := Lib.hid hB6
          obtain ⟨z0, z1, z2, z3, z4, z5, z6, z7⟩ := hB6.cells8
          obtain ⟨y0, y1, y2, y3, y4, y5, y6, y7⟩ := hN6.cells8
          have zf := hB6.free
          have f0 := zf 0
          have f1 := zf 1
          have f2 := zf 2
          have f3 := zf 3
          have f4 := zf 4
          have f5 := zf 5
          have f6 := zf 6
          have f7 := zf 7
          have k0 := HBL.out 0
          have k1 := HBL.out 1
          have k2 := HBL.out 2
          have k4 := HBL.out 4
          clear zf hK6 hB6 hN6 i0 i1 i2 i3 i4 i5 i6 l1 hb1 hbb
          by_cases C1 : nth L 0 < nth L 1 + nth L 2 + nth L 4
          · have t1 : decide ((nth L 0 : Int) < (nth L 1 : Int) + (nth L 2 : Int) + (nth L 4 : Int)) = true := by simp; omega
            have HT := Lib.hid (headT_sum HI.out HHL.out HBB.out (.inl C1))
            clear C1
            go_wp2_with fail
            refine refHead_end (P := 4) (E := 5) (P' := 4) (E' := 5) HT.out ?_ rfl rfl ?_ ?_ (HB6.out.set8 (.bool false) (.int .i64 0) (.int .i64 0) (.int .i64 0) (.int .i64 0) (.int .i64 0) (.int .i64 0) (.int .i64 0)) (HK6.out.set8 (b := w.heap.size) (by simp) (.bool false) (.int .i64 0) (.int .i64 0) (.int .i64 0) (.int .i64 0) (.int .i64 0) (.int .i64 0) (.int .i64 0)) <;> rfl
          · have t1 : decide ((nth L 0 : Int) < (nth L 1 : Int) + (nth L 2 : Int) + (nth L 4 : Int)) = false := by simp; omega
            cases bb with
            | false =>
              have HT := Lib.hid (headT_ok HI.out HHL.out HBB.out (fun h => by rcases h with h | ⟨h, _⟩; exact C1 h; cases h))
              clear C1
              go_wp2_with fail
              refine refHead_end (P := q + 1) (E := 0) (P' := (q : Int) + 1) (E' := 0) HT.out ?_ rfl rfl ?_ ?_ (HB6.out.set8 (.bool false) (.int .i64 (nth L 0)) (.int .i64 (nth L 1)) (.int .i64 (nth L 2)) (.int .i64 (nth L 3)) (.int .i64 (nth L 4)) (.int .i64 (nth L 5)) (.int .i64 (nth L 6))) (HK6.out.set8 (b := w.heap.size) (by simp) (.bool false) (.int .i64 (nth L 0)) (.int .i64 (nth L 1)) (.int .i64 (nth L 2)) (.int .i64 (nth L 3)) (.int .i64 (nth L 4)) (.int .i64 (nth L 5)) (.int .i64 (nth L 6))) <;> rfl
            | true =>
              by_cases C2 : nth L 1 + nth L 2 + nth L 4 < nth L 0
              · have t2 : decide ((nth L 1 : Int) + (nth L 2 : Int) + (nth L 4 : Int) < (nth L 0 : Int)) = true := by simp; omega
                have HT := Lib.hid (headT_sum HI.out HHL.out HBB.out (.inr ⟨rfl, C2⟩))
                clear C1 C2
                go_wp2_with fail
                refine refHead_end (P := 4) (E := 5) (P' := 4) (E' := 5) HT.out ?_ rfl rfl ?_ ?_ (HB6.out.set8 (.bool false) (.int .i64 0) (.int .i64 0) (.int .i64 0) (.int .i64 0) (.int .i64 0) (.int .i64 0) (.int .i64 0)) (HK6.out.set8 (b := w.heap.size) (by simp) (.bool false) (.int .i64 0) (.int .i64 0) (.int .i64 0) (.int .i64 0) (.int .i64 0) (.int .i64 0) (.int .i64 0)) <;> rfl
              · have t2 : decide ((nth L 1 : Int) + (nth L 2 : Int) + (nth L 4 : Int) < (nth L 0 : Int)) = false := by simp; omega
                have HT := Lib.hid (headT_ok HI.out HHL.out HBB.out (fun h => by rcases h with h | ⟨_, h⟩; exact C1 h; exact C2 h))
                clear C1 C2
                go_wp2_with fail
                refine refHead_end (P := q + 1) (E := 0) (P' := (q : Int) + 1) (E' := 0) HT.out ?_ rfl rfl ?_ ?_ (HB6.out.set8 (.bool true) (.int .i64 (nth L 0)) (.int .i64 (nth L 1)) (.int .i64 (nth L 2)) (.int .i64 (nth L 3)) (.int .i64 (nth L 4)) (.int .i64 (nth L 5)) (.int .i64 (nth L 6))) (HK6.out.set8 (b := w.heap.size) (by simp) (.bool true) (.int .i64 (nth L 0)) (.int .i64 (nth L 1)) (.int .i64 (nth L 2)) (.int .i64 (nth L 3)) (.int .i64 (nth L 4)) (.int .i64 (nth L 5)) (.int .i64 (nth L 6))) <;> rfl
        · rw [if_neg hF] at HSt
          by_cases hM : bt s q = 32 ∧ k < 8
          · have e10 : ((bt s q : Int) == 10) = false := by rw [beq_eq_false_iff_ne]; omega
            have e32 : ((bt s q : Int) != 32) = false := by have := hM.1; rw [this]; rfl
            have e9 : ((m : Int) == 9) = false := by have := HM.out.2; rw [beq_eq_false_iff_ne]; omega
            rw [if_pos hM] at HSt
            have HRR := Lib.hid ((headL_more_ HL.out hk8 HSt.out).trans HRUN.out)
            have hk7 := hM.2
            clear hF hM
            go_wp2_with fail
            go_roundw
            case rel =>
              refine ⟨q + 1, l ++ [n], by go_num, by rw [HM.out.1, HM.out.2]; omega, by omega, nth_bound HBD.out n hnt2 (Nat.le_refl _), HRR.out, HB3.out, HO4.out, HK3.out⟩
            case measure => simp [intOf]; omega
          · rw [if_neg hM] at HSt
            have HT := Lib.hid (headT_bad HI.out (HRUN.out.symm.trans (headL_stop_ HL.out hk8 HSt.out (by decide))) (by decide))
            by_cases hB10 : bt s q = 10
            · have e10 : ((bt s q : Int) == 10) = true := by rw [beq_iff_eq]; omega
              have d4 : decide ((4 : Int) < (m : Int)) = false := by have := HM.out.2; simp; omega
              have e32 : ((bt s q : Int) != 32) = true := by rw [bne_iff_ne]; omega
              clear hF hM hB10
              have HSet := Lib.hid (HB3.out.set8 (.bool false) (.int .i64 0) (.int .i64 0) (.int .i64 0) (.int .i64 0) (.int .i64 0) (.int .i64 0) (.int .i64 0))
              have HKS := Lib.hid (HK3.out.set8 (b := w.heap.size) (by simp) (.bool false) (.int .i64 0) (.int .i64 0) (.int .i64 0) (.int .i64 0) (.int .i64 0) (.int .i64 0) (.int .i64 0))
              go_wp2_with fail
              refine refHead_end HT.out ?_ rfl rfl ?_ ?_ HSet.out HKS.out <;> rfl
            · have e10 : ((bt s q : Int) == 10) = false := by rw [beq_eq_false_iff_ne]; omega
              by_cases hB32 : bt s q = 32
              · have e32 : ((bt s q : Int) != 32) = false := by rw [hB32]; rfl
                have e9 : ((m : Int) == 9) = true := by have := HM.out.2; rw [beq_iff_eq]; omega
                clear hF hM hB10 hB32
                have HSet := Lib.hid (HB3.out.set8 (.bool false) (.int .i64 0) (.int .i64 0) (.int .i64 0) (.int .i64 0) (.int .i64 0) (.int .i64 0) (.int .i64 0))
                have HKS := Lib.hid (HK3.out.set8 (b := w.heap.size) (by simp) (.bool false) (.int .i64 0) (.int .i64 0) (.int .i64 0) (.int .i64 0) (.int .i64 0) (.int .i64 0) (.int .i64 0))
                go_wp2_with fail
                refine refHead_end HT.out ?_ rfl rfl ?_ ?_ HSet.out HKS.out <;> rfl
              · have e32 : ((bt s q : Int) != 32) = true := by rw [bne_iff_ne]; omega
                clear hF hM hB10 hB32
                have HSet := Lib.hid (HB3.out.set8 (.bool false) (.int .i64 0) (.int .i64 0) (.int .i64 0) (.int .i64 0) (.int .i64 0) (.int .i64 0) (.int .i64 0))
                have HKS := Lib.hid (HK3.out.set8 (b := w.heap.size) (by simp) (.bool false) (.int .i64 0) (.int .i64 0) (.int .i64 0) (.int .i64 0) (.int .i64 0) (.int .i64 0) (.int .i64 0))
                go_wp2_with fail
                refine refHead_end HT.out ?_ rfl rfl ?_ ?_ HSet.out HKS.out <;> rfl
    · have HT := Lib.hid (headT_bad HI.out (HRUN.out.symm.trans (headL_stop_ HL.out hk8 (stepH_num rfl HN.out.2.2.2 hE0) hE0)) hE0)
      by_cases he : e = 0
      · have hD : decide (e = 0 ∧ E ≠ 0) = true := by rw [decide_eq_true_iff]; exact ⟨he, hE0⟩
        have hE5 : (5 : Int) = (E : Int) := by
          have := HEE.out
          rw [if_neg (by simpa using he)] at this
          by_cases hh : (if 7 ≤ k then 0 else 16777216) < n
          · rw [if_pos hh] at this; omega
          · rw [if_neg hh] at this; exact absurd this hE0
        have HE5 := Lib.hid hE5
        clear he hE0 hE5
        rw [hD]
        go_wp2_with fail
        refine refHead_end HT.out ?_ rfl HE5.out ?_ ?_ HSet.out HKS.out <;> rfl
      · have hD : decide (e = 0 ∧ E ≠ 0) = false := by rw [decide_eq_false_iff_not]; exact fun h => he h.1
        have t1 : ((e : Int) == 0) = false := by rw [beq_eq_false_iff_ne]; omega
        have hE5 : (e : Int) = (E : Int) := by
          have := HEE.out
          rw [if_pos (by simpa using he)] at this
          omega
        have HE5 := Lib.hid hE5
        clear hE0 hE5
        rw [hD]
        have t2 : ((e : Int) != 0) = true := by rw [bne_iff_ne]; omega
        clear t1 he hD
        go_wp2_with fail
        refine refHead_end HT.out ?_ rfl HE5.out ?_ ?_ HSet.out HKS.out <;> rfl

end Go.Proofs.YtckmdcmkjmpiaaaGreatDoor

/-
  latchetref13's literals: the reference reads the same.
-/
namespace Go.Proofs.YtckmdcmkjmpiaaaGreatDoor
open Go.RowKit

/-- the reference's place in a text -/
def PL (u : World) (b : Nat) (s : ByteArray) (st : Nat × Nat) : Prop := Blk u b #[.string s, .int .i64 (st.1 : Nat), .int .i64 (st.2 : Nat)] 94
def litP (s : ByteArray) (b : Nat) (r : Nat × Nat × Nat × Nat) (w : World) (o : Ending) (w' : World) : Prop :=
  o = .returned (.tuple #[.int .i64 ((if r.2.2.2 = 0 then r.1 else 0 : Nat) : Nat), .int .u8 (r.2.1 : Nat)]) ∧ PL w' b s r.2.2 ∧ Kp (fun j => j = b) w w'

theorem PL.at_ {u u' : World} {b : Nat} {s : ByteArray} {p e : Nat} (q : Nat) (h : PL u b s (p, e)) (k : Kp (fun _ => False) u u') : PL (u'.setCell ⟨b, 1, none⟩ (.int .i64 (q : Nat))) b s (q, e) ∧ Kp (fun j => j = b) u (u'.setCell ⟨b, 1, none⟩ (.int .i64 (q : Nat))) :=
  ⟨(Blk.kp h k (fun h => h)).set_same 1 _, (k.mono (fun _ _ h => h.elim)).trans (Kp.set u' ⟨b, 1, none⟩ _) (fun _ _ h => h)⟩
theorem PL.err {u u' : World} {b : Nat} {s : ByteArray} {p e : Nat} (q : Nat) (h : PL u b s (p, e)) (k : Kp (fun _ => False) u u') : PL (u'.setCell ⟨b, 2, none⟩ (.int .i64 (q : Nat))) b s (p, q) ∧ Kp (fun j => j = b) u (u'.setCell ⟨b, 2, none⟩ (.int .i64 (q : Nat))) :=
  ⟨(Blk.kp h k (fun h => h)).set_same 2 _, (k.mono (fun _ _ h => h.elim)).trans (Kp.set u' ⟨b, 2, none⟩ _) (fun _ _ h => h)⟩
theorem PL.at1 {u : World} {b : Nat} {s : ByteArray} {p e : Nat} (q : Nat) (h : PL u b s (p, e)) : PL (u.setCell ⟨b, 1, none⟩ (.int .i64 (q : Nat))) b s (q, e) ∧ Kp (fun j => j = b) u (u.setCell ⟨b, 1, none⟩ (.int .i64 (q : Nat))) :=
  ⟨Blk.set_same h 1 _, Kp.set u ⟨b, 1, none⟩ _⟩
theorem PL.err1 {u : World} {b : Nat} {s : ByteArray} {p e : Nat} (q : Nat) (h : PL u b s (p, e)) : PL (u.setCell ⟨b, 2, none⟩ (.int .i64 (q : Nat))) b s (p, q) ∧ Kp (fun j => j = b) u (u.setCell ⟨b, 2, none⟩ (.int .i64 (q : Nat))) :=
  ⟨Blk.set_same h 2 _, Kp.set u ⟨b, 2, none⟩ _⟩

set_option maxRecDepth 100000 in
set_option maxHeartbeats 4000000 in
theorem ref13_Lit (s : ByteArray) (b p e x y : Nat) (top : Int) (ok : Nat → Bool) (w : World) (hs : s.size ≤ 1000000) (hp : p ≤ s.size) (hok : ∀ c, ok c = (c == x || c == y)) (hB : PL w b s (p, e)) :
    Calls Tryz.prog 45 #[.pointer (some ⟨b, 0, none⟩), .int .i64 top, .int .u8 (x : Nat), .int .u8 (y : Nat)] w (litP s b (rdL s top ok (p, e)) w) := by
  have HB := Lib.hid hB
  have c0 : w.cell? ⟨b, 0, none⟩ = some (.string s) := Blk.cell hB rfl
  have c1 : w.cell? ⟨b, 1, none⟩ = some (.int .i64 (p : Nat)) := Blk.cell hB rfl
  have c2 : w.cell? ⟨b, 2, none⟩ = some (.int .i64 (e : Nat)) := Blk.cell hB rfl
  have f1 := Blk.free hB 1
  have f2 := Blk.free hB 2
  obtain ⟨F, hF1, hF2⟩ := still_class w
  have HF1 := Lib.hid hF1
  have HF2 := Lib.hid hF2
  have m0 : ∀ y, (F y).cell? ⟨b, 0, none⟩ = some (.string s) := fun y => Blk.cell (Blk.kp hB (hF1 y) (fun h => h)) rfl
  have m1 : ∀ y, (F y).cell? ⟨b, 1, none⟩ = some (.int .i64 (p : Nat)) := fun y => Blk.cell (Blk.kp hB (hF1 y) (fun h => h)) rfl
  have m2 : ∀ y, (F y).cell? ⟨b, 2, none⟩ = some (.int .i64 (e : Nat)) := fun y => Blk.cell (Blk.kp hB (hF1 y) (fun h => h)) rfl
  have g1 : ∀ y, (F y).frozen? ⟨b, 1, none⟩ = false := fun y => Blk.free (Blk.kp hB (hF1 y) (fun h => h)) 1
  have g2 : ∀ y, (F y).frozen? ⟨b, 2, none⟩ = false := fun y => Blk.free (Blk.kp hB (hF1 y) (fun h => h)) 2
  have HN := Lib.hid (fun y => (ref_Nat s p (F y) (by omega)).mono (R' := fun e w' => e = .returned (tripI (natT s p)) ∧ Kp (fun _ => False) (F y) w') (fun e w' ⟨h1, h2⟩ => ⟨h1, h2 ▸ Kp.refl _ _⟩))
  rw [natT_nat hp] at HN
  clear hF1 hF2
  obtain ⟨n, q, e2, hN⟩ : ∃ n q e2, natN s p = (n, q, e2) := ⟨_, _, _, rfl⟩
  rw [hN] at HN
  unfold tripI at HN
  have HP := Lib.hid hp
  have HS := Lib.hid hs
  clear hB hs hp
  by_cases he : e = 0
  · subst he
    by_cases h2 : e2 = 0
    · subst h2
      by_cases ht : top < (n : Int)
      · have HR := Lib.hid (show rdL s top ok (p, 0) = (0, 0, p, 5) by unfold rdL rdD; simp [hN, ht, rdS])
        have t1 : decide (top < (n : Int)) = true := decide_eq_true ht
        clear hN ht hok
        go_enter Tryz.func45, Tryz.ntmps45
        go_upto_region 3 with fail
        refine wp_region_kept (by kernel_rfl) (by kernel_rfl) HF2.out ?_
        repeat (go_big_quiet_step (with_reducible first | exact Calls.still_of HF1.out HF2.out (HN.out _)))
        refine wpQuiet_nil ?_
        rintro wB ⟨z, rfl⟩
        go_wp2_with fail
        go_ret2
        rw [HR.out]
        exact ⟨rfl, HB.out.err _ (HF1.out z)⟩
      · have t1 : decide (top < (n : Int)) = false := decide_eq_false ht
        have hD : rdD s top (p, 0) = (n, q, 0) := by unfold rdD; simp [hN, ht]
        have hq : q ≤ s.size := by have := rdD_le (s := s) (top := top) (st := (p, 0)) HP.out; rw [hD] at this; exact this
        clear hN ht
        by_cases hz : q = s.size
        · have HR := Lib.hid (show rdL s top ok (p, 0) = (n, 0, q, 3) by unfold rdL; rw [hD]; unfold rdS; simp [hz])
          have t2 : ((q : Int) == (s.size : Int)) = true := by rw [beq_iff_eq]; omega
          clear hD hz hq hok
          go_enter Tryz.func45, Tryz.ntmps45
          go_upto_region 3 with fail
          refine wp_region_kept (by kernel_rfl) (by kernel_rfl) HF2.out ?_
          repeat (go_big_quiet_step (with_reducible first | exact Calls.still_of HF1.out HF2.out (HN.out _)))
          refine wpQuiet_nil ?_
          rintro wB ⟨z, rfl⟩
          go_wp2_with fail
          go_ret2
          rw [HR.out]
          have h1 := HB.out.at_ q (HF1.out z)
          have h2 := h1.1.err1 3
          exact ⟨rfl, h2.1, h1.2.trans h2.2 (fun _ _ h => h)⟩
        · have hlt : q < s.size := by omega
          have t2 : ((q : Int) == (s.size : Int)) = false := by rw [beq_eq_false_iff_ne]; omega
          have l1 : (q : Int) < (s.size : Int) := by omega
          have hb := bt_eq hlt
          obtain ⟨c, hc⟩ : ∃ c, bt s q = c := ⟨_, rfl⟩
          rw [hc] at hb
          have hk := hok c
          cases ho : ok c with
          | true =>
            have HR := Lib.hid (show rdL s top ok (p, 0) = (n, c, q + 1, 0) by unfold rdL; rw [hD]; unfold rdS; simp [hz, hc, ho])
            have hbs : q ≤ 1000000 := by have := HS.out; omega
            rw [ho] at hk
            have hxy : c = x ∨ c = y := by simpa using hk.symm
            clear hD hz hq hok hk ho
            by_cases h1 : c = x
            · have t3 : ((c : Int) != (x : Int)) = false := by simp [h1]
              clear h1 hxy
              go_enter Tryz.func45, Tryz.ntmps45
              go_upto_region 3 with fail
              refine wp_region_kept (by kernel_rfl) (by kernel_rfl) HF2.out ?_
              repeat (go_big_quiet_step (with_reducible first | exact Calls.still_of HF1.out HF2.out (HN.out _)))
              refine wpQuiet_nil ?_
              rintro wB ⟨z, rfl⟩
              go_wp2_with fail
              go_ret2
              rw [HR.out]
              have h1 := HB.out.at_ q (HF1.out z)
              have h2 := h1.1.at1 (q + 1)
              exact ⟨rfl, h2.1, h1.2.trans h2.2 (fun _ _ h => h)⟩
            · have t3 : ((c : Int) != (x : Int)) = true := by simp; omega
              have t4 : ((c : Int) != (y : Int)) = false := by simp; omega
              clear h1 hxy
              go_enter Tryz.func45, Tryz.ntmps45
              go_upto_region 3 with fail
              refine wp_region_kept (by kernel_rfl) (by kernel_rfl) HF2.out ?_
              repeat (go_big_quiet_step (with_reducible first | exact Calls.still_of HF1.out HF2.out (HN.out _)))
              refine wpQuiet_nil ?_
              rintro wB ⟨z, rfl⟩
              go_wp2_with fail
              go_ret2
              rw [HR.out]
              have h1 := HB.out.at_ q (HF1.out z)
              have h2 := h1.1.at1 (q + 1)
              exact ⟨rfl, h2.1, h1.2.trans h2.2 (fun _ _ h => h)⟩
          | false =>
            have HR := Lib.hid (show rdL s top ok (p, 0) = (n, 0, q, 2) by unfold rdL; rw [hD]; unfold rdS; simp [hz, hc, ho])
            rw [ho] at hk
            have hxy : c ≠ x ∧ c ≠ y := by simpa using hk.symm
            have t3 : ((c : Int) != (x : Int)) = true := by simp; omega
            have t4 : ((c : Int) != (y : Int)) = true := by simp; omega
            clear hD hz hq hok hk ho hxy
            go_enter Tryz.func45, Tryz.ntmps45
            go_upto_region 3 with fail
            refine wp_region_kept (by kernel_rfl) (by kernel_rfl) HF2.out ?_
            repeat (go_big_quiet_step (with_reducible first | exact Calls.still_of HF1.out HF2.out (HN.out _)))
            refine wpQuiet_nil ?_
            rintro wB ⟨z, rfl⟩
            go_wp2_with fail
            go_ret2
            rw [HR.out]
            have h1 := HB.out.at_ q (HF1.out z)
            have h2 := h1.1.err1 2
            exact ⟨rfl, h2.1, h1.2.trans h2.2 (fun _ _ h => h)⟩
    · have HR := Lib.hid (show rdL s top ok (p, 0) = (0, 0, p, e2) by unfold rdL rdD; simp [hN, h2, rdS])
      have t1 : ((e2 : Int) == 0) = false := by rw [beq_eq_false_iff_ne]; omega
      have t2 : ((e2 : Int) != 0) = true := by simp; omega
      clear hN h2 hok
      go_enter Tryz.func45, Tryz.ntmps45
      go_upto_region 3 with fail
      refine wp_region_kept (by kernel_rfl) (by kernel_rfl) HF2.out ?_
      repeat (go_big_quiet_step (with_reducible first | exact Calls.still_of HF1.out HF2.out (HN.out _)))
      refine wpQuiet_nil ?_
      rintro wB ⟨z, rfl⟩
      go_wp2_with fail
      go_ret2
      rw [HR.out]
      have h9 : ((if e2 = 0 then (0 : Nat) else 0 : Nat) : Int) = 0 := by split <;> rfl
      refine ⟨?_, HB.out.err _ (HF1.out z)⟩
      simp only [h9]
      rfl
  · have HR := Lib.hid (show rdL s top ok (p, e) = (0, 0, p, e) from rdL_stay he)
    have t1 : ((e : Int) != 0) = true := by simp; omega
    clear hN hok he
    go_enter Tryz.func45, Tryz.ntmps45
    go_wp2_with fail
    go_ret2
    rw [HR.out]
    have h9 : ((if e = 0 then (0 : Nat) else 0 : Nat) : Int) = 0 := by split <;> rfl
    refine ⟨?_, HB.out, Kp.refl _ _⟩
    simp only [h9]
    rfl

end Go.Proofs.YtckmdcmkjmpiaaaGreatDoor
