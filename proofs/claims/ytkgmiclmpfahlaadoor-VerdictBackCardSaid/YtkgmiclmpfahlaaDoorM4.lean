/-
  verdict.Write.
-/
import Derived.Test.YtkgmiclmpfahlaaDoorM3
import Derived.Test.YtkgmiclmpfahlaaDoorM2
import Derived.Test.YtkgmiclmpfahlaaDoorM1
import Derived.Deep.CutBlock
import Derived.Test.YtkgmiclmpfahlaaDoorRows
import Derived.ProofKit
import Derived.OpenShut
import Derived.Deep.Grids
import Derived.Lib.SmallJoins
import Derived.Deep.QuietTactic
import Derived.BigQuiet
import Derived.Lib.LaidTab
import Derived.Stop.LaidErr
import Derived.Shelf.Vars
import GoSem.PinnedTables
namespace Go.Proofs.YtkgmiclmpfahlaaDoor
open Go.RowKit

/-- the kinds' words lie in their variable -/
def Wds (w : World) : Prop := ∀ k, k < 6 → w.cell? ⟨0, k, none⟩ = some (.string ⟨(vword k).toArray⟩)

theorem Wds.kp {w w' : World} (h : Wds w) (k : Kp (fun _ => False) w w') : Wds w' := fun i hi =>
  (World.cell?_of_block (w := w) (w' := w') (a := ⟨0, i, none⟩) (k.block _ (World.block_lt_of_cell? w _ (h i hi)) (fun h => h))).trans (h i hi)

set_option maxRecDepth 100000 in
set_option maxHeartbeats 4000000 in
theorem verdict_Write_bad (kind step spent at_ err prop : Int) (a2 a3 : Option Addr) (n2 c2 n3 c3 : Nat) (w : World) (h : kind < 0 ∨ 5 < kind) :
    Calls Tryd.prog 7 #[.agg #[.int .i64 kind, .int .i64 step, .int .i64 spent, .int .i64 at_, .int .i64 err, .slice a2 n2 c2, .slice a3 n3 c3], .int .i64 prop] w
      fun e w' => e = .returned (.string ⟨#[]⟩) ∧ Kp (fun _ => False) w w' := by
  have h3 : (decide (kind < 0) = true) ∨ (decide (kind < 0) = false ∧ decide (6 ≤ kind) = true) := by
    by_cases k1 : kind < 0
    · exact .inl (by simpa using k1)
    · exact .inr ⟨by simpa using k1, decide_eq_true (by omega)⟩
  have k0 := (Blk.new w #[.int .i64 kind, .int .i64 step, .int .i64 spent, .int .i64 at_, .int .i64 err, .slice a2 n2 c2, .slice a3 n3 c3] 28).cell (i := 0) rfl
  clear h
  rcases h3 with g1 | ⟨g1, g2⟩
  all_goals
    go_enter Tryd.func7, Tryd.ntmps7
    go_wp2_with fail
    go_ret
    exact ⟨rfl, (Kp.refl _ _).alloc _⟩

set_option maxRecDepth 100000 in
set_option maxHeartbeats 8000000 in
theorem verdict_Write_good (kind step spent at_ err prop : Int) (v2 v3 : Value) (start : List Bool) (ins : List (List Bool)) (w : World) (k0 : 0 ≤ kind) (k5 : kind ≤ 5)
    (b1 : -9223372036854775808 ≤ step ∧ step ≤ 9223372036854775807) (b2 : -9223372036854775808 ≤ spent ∧ spent ≤ 9223372036854775807) (b3 : -9223372036854775808 ≤ at_ ∧ at_ ≤ 9223372036854775807) (b4 : -9223372036854775808 ≤ err ∧ err ≤ 9223372036854775807) (p1 : prop ≤ 9223372036854775807)
    (hs : BoolsSl w v2 start) (hi : GridSl w v3 ins) (hsh : shortP start ins 40) (ht : Tab w) (hwd : Wds w) :
    Calls Tryd.prog 7 #[.agg #[.int .i64 kind, .int .i64 step, .int .i64 spent, .int .i64 at_, .int .i64 err, v2, v3], .int .i64 prop] w
      fun e w' => e = .returned (.string ⟨(vtext kind step spent at_ err prop start ins).toArray⟩) ∧ Kp (fun _ => False) w w' := by
  have HS0 := Lib.hid hs
  have HI0 := Lib.hid hi
  have HSh := Lib.hid hsh
  have HP1 := Lib.hid p1
  have HT := Lib.hid ht
  have HWd := Lib.hid hwd
  clear ht hwd
  obtain ⟨a2, c2, rfl, _⟩ := hs
  obtain ⟨a3, c3, rfl, _⟩ := hi
  obtain ⟨n2, hn2⟩ : ∃ n, start.length = n := ⟨_, rfl⟩
  obtain ⟨n3, hn3⟩ : ∃ n, ins.length = n := ⟨_, rfl⟩
  rw [hn2] at HS0 ⊢
  rw [hn3] at HI0 ⊢
  clear hn2 hn3 hsh p1
  have g1 : decide (kind < 0) = false := decide_eq_false (by omega)
  have g2 : decide (6 ≤ kind) = false := decide_eq_false (by omega)
  have hB := Blk.new w #[.int .i64 kind, .int .i64 step, .int .i64 spent, .int .i64 at_, .int .i64 err, .slice a2 n2 c2, .slice a3 n3 c3] 28
  have q := (Kp.refl (fun _ => False) w).alloc (.cells #[.int .i64 kind, .int .i64 step, .int .i64 spent, .int .i64 at_, .int .i64 err, .slice a2 n2 c2, .slice a3 n3 c3] 28)
  obtain ⟨W1, hW1⟩ : ∃ W1, w.alloc (.cells #[.int .i64 kind, .int .i64 step, .int .i64 spent, .int .i64 at_, .int .i64 err, .slice a2 n2 c2, .slice a3 n3 c3] 28) = W1 := ⟨_, rfl⟩
  have hsz1 : w.heap.size + 1 ≤ W1.heap.size := by rw [← hW1]; simp
  rw [hW1] at hB q
  have HB := Lib.hid hB
  have HQ := Lib.hid q
  have c0 := hB.cell (i := 0) rfl
  have hwk := HWd.out.kp q kind.toNat (by omega)
  rw [show ((kind.toNat : Nat)) = kind.toNat from rfl] at hwk
  clear hB q
  have HX := Lib.hid (show vtext kind step spent at_ err prop start ins = vline kind.toNat step at_ err ++ vspent spent ++ (if kind = 2 then witText 1 prop start ins else []) by unfold vtext; rw [if_neg (by omega)])
  obtain ⟨tx, htx⟩ : ∃ f : Int → List UInt8, Lib.itoa = f := ⟨_, rfl⟩
  have HD : Hid (∀ n u, (n = step ∨ n = spent ∨ n = at_ ∨ n = err) → Tab u → Calls Tryd.prog 14 #[.int .i64 n] u fun e w' => e = .returned (.string ⟨(tx n).toArray⟩) ∧ Kp (fun _ => False) u w') := Lib.hid (fun n u h t => by
    rw [← htx]
    exact octet_Dec n u (by rcases h with rfl | rfl | rfl | rfl <;> omega) (by rcases h with rfl | rfl | rfl | rfl <;> omega) t)
  have l1 := itoaLen b1.1 b1.2
  have l2 := itoaLen b2.1 b2.2
  have l3 := itoaLen b3.1 b3.2
  have l4 := itoaLen b4.1 b4.2
  have HVl := Lib.hid (show vline kind.toNat step at_ err = vword kind.toNat ++ (if kind.toNat = 0 then 32 :: Lib.itoa err ++ 32 :: Lib.itoa at_ else if kind.toNat = 1 then [] else 32 :: Lib.itoa step) from rfl)
  have HVs := Lib.hid (show vspent spent = [10, 115, 112, 101, 110, 116, 32] ++ Lib.itoa spent ++ [10] from rfl)
  rw [htx] at l1 l2 l3 l4 HVl HVs
  clear htx b1 b2 b3 b4
  have hwl := vword_len kind.toNat
  obtain ⟨wd, hwd⟩ : ∃ t, vword kind.toNat = t := ⟨_, rfl⟩
  rw [hwd] at hwl HVl hwk
  clear hwd
  have hlt0 := HB.out.lt
  go_enter Tryd.func7, Tryd.ntmps7
  go_upto_region 3 with (fail)
  go_cut [5] (fun s5 wx => Own wx (w.heap.size + 1) 9 s5 (strs [(⟨wd.toArray⟩ : ByteArray)]) ∧ Kp (fun _ => False) w wx ∧ Blk wx w.heap.size #[.int .i64 kind, .int .i64 step, .int .i64 spent, .int .i64 at_, .int .i64 err, .slice a2 n2 c2, .slice a3 n3 c3] 28)
  case first =>
    clear HX HVl HVs HD
    go_wp2_with fail
    go_meet
    case rel => exact ⟨own_strs (L := [(⟨wd.toArray⟩ : ByteArray)]) (Blk.new W1 _ _) (by omega) (by simp [maxLen]), HQ.out.alloc _, HB.out.alloc _⟩
  case rest =>
    obtain ⟨ho, hq, hb⟩ := hcut
    have HO1 := Lib.hid ho
    have HQ1 := Lib.hid hq
    have HB1 := Lib.hid hb
    have d0 := hb.cell (i := 0) rfl
    have hsz2 : w.heap.size + 1 ≤ wc.heap.size := by
      obtain ⟨g, cp, _, h1, h2⟩ := ho.leads (by rw [strs_length]; simp)
      omega
    clear ho hq hb c0 hlt0 hwk
    go_upto_block 0 with (fail)
    obtain ⟨wa, rfl⟩ : ∃ wa : World, wa = wc := ⟨_, rfl⟩
    go_cut [5] (fun s5 wx => Own wx (w.heap.size + 1) 9 s5 (strs ((⟨wd.toArray⟩ : ByteArray) :: (if kind = 0 then [⟨(tx err).toArray⟩, ⟨(tx at_).toArray⟩] else if kind = 1 then [] else [⟨(tx step).toArray⟩]))) ∧ Kp (fun _ => False) w wx ∧ Blk wx w.heap.size #[.int .i64 kind, .int .i64 step, .int .i64 spent, .int .i64 at_, .int .i64 err, .slice a2 n2 c2, .slice a3 n3 c3] 28)
    case first =>
      clear HX HVl HVs
      by_cases hk : kind = 0
      · have e0 : ((kind : Int) == 0) = true := by simp [hk]
        have HIf := Lib.hid (show (if kind = 0 then [(⟨(tx err).toArray⟩ : ByteArray), ⟨(tx at_).toArray⟩] else if kind = 1 then [] else [⟨(tx step).toArray⟩]) = [⟨(tx err).toArray⟩, ⟨(tx at_).toArray⟩] from if_pos hk)
        clear hk
        have b3 := HB1.out.drew.cell (i := 3) rfl
        have b4 := HB1.out.drew.cell (i := 4) rfl
        obtain ⟨a5, c5, E5, -⟩ := HO1.out.form
        rw [strs_length] at E5
        simp only [List.length_cons, List.length_nil, Nat.zero_add] at E5
        subst E5
        go_wp2_with fail
        go_region_held3 (fun w' => w'.cell? ⟨w.heap.size, 3, none⟩ = some (.int .i64 at_) ∧ w'.cell? ⟨w.heap.size, 4, none⟩ = some (.int .i64 err)) (first | exact ⟨z3, z4⟩ | exact ⟨b3, b4⟩ | exact ⟨(HBk.out.alloc _).cell (i := 3) rfl, (HBk.out.alloc _).cell (i := 4) rfl⟩) ((first
            | (go_at_call 14
               refine (HD.out _ _ (by first | exact .inr (.inr (.inl rfl)) | exact .inr (.inr (.inr rfl))) (by first | exact HT.out.kp HKk.out | exact HT.out.kp HQ1.out.drew)).mono ?_
               rintro e wk ⟨rfl, hKk⟩
               first
                 | have HOk := Lib.hid (HOk.out.kp hKk (fun _ _ h => h))
                 | have HOk := Lib.hid (HO1.out.drew.kp hKk (fun _ _ h => h))
               first
                 | have HKk := Lib.hid (HKk.out.trans hKk (fun _ _ h => h))
                 | have HKk := Lib.hid (HQ1.out.drew.trans hKk (fun _ _ h => h))
               first
                 | have HBk := Lib.hid (HBk.out.kp hKk (fun h => h))
                 | have HBk := Lib.hid (HB1.out.drew.kp hKk (fun h => h))
               have z3 := HBk.out.cell (i := 3) rfl
               have z4 := HBk.out.cell (i := 4) rfl
               clear hKk)
            | (refine step_appendAllK (by rfl) _ _ 43 9 (by rfl) Tryd.underlying43 strInfo rfl (by decide) (HOk.out.alloc _).rows (by rfl) (some ⟨wk.heap.size, 0, none⟩) 2 2 [[.string ⟨(tx err).toArray⟩], [.string ⟨(tx at_).toArray⟩]] (by rfl) (by simp) (by rfl) ((Blk.new wk #[.string ⟨(tx err).toArray⟩, .string ⟨(tx at_).toArray⟩] 9).rowAt (n := 2) rfl) (by simp) (by simp [Value.oneCell']) (by simp [strs]) (by simp [strs, maxLen]) (by simp; have := HBk.out.lt; omega) ?_
               intro v1 w1 hO1 hg1 _
               have hO2 : Own w1 (w.heap.size + 1) 9 v1 (strs [(⟨wd.toArray⟩ : ByteArray), ⟨(tx err).toArray⟩, ⟨(tx at_).toArray⟩]) := OwnK.row hO1
               have HO2 := Lib.hid hO2
               have hlo := fun j (e : (Value.slice a5 1 c5).ownBlock = some j) => (HOk.out.lt j e).1
               have HKz := Lib.hid ((HKk.out.alloc (.cells #[.string ⟨(tx err).toArray⟩, .string ⟨(tx at_).toArray⟩] 9)).grown hg1 (fun j hj hl => by have := hlo j hj; omega))
               have HBz := Lib.hid ((HBk.out.alloc (.cells #[.string ⟨(tx err).toArray⟩, .string ⟨(tx at_).toArray⟩] 9)).kp ((Kp.refl (fun j => (Value.slice a5 1 c5).ownBlock = some j) _).grown hg1 (fun j hj _ => hj)) (fun h => by have := hlo _ h; omega))
               have z3 := HBz.out.cell (i := 3) rfl
               have z4 := HBz.out.cell (i := 4) rfl
               clear hO1 hO2 hg1 hlo)))
        all_goals go_wp2_with fail
        all_goals go_meet
        all_goals exact ⟨by rw [HIf.out]; exact HO2.out, HKz.out, HBz.out⟩
      · have e0 : ((kind : Int) == 0) = false := by simpa using hk
        by_cases hk1 : kind = 1
        · have e1 : ((kind : Int) == 1) = true := by simp [hk1]
          have HIf := Lib.hid (show (if kind = 0 then [(⟨(tx err).toArray⟩ : ByteArray), ⟨(tx at_).toArray⟩] else if kind = 1 then [] else [⟨(tx step).toArray⟩]) = [] from (if_neg hk).trans (if_pos hk1))
          clear hk hk1
          go_wp2_with fail
          go_meet
          case rel => exact ⟨by rw [HIf.out]; exact HO1.out, HQ1.out, HB1.out⟩
        · have e1 : ((kind : Int) == 1) = false := by simpa using hk1
          have HIf := Lib.hid (show (if kind = 0 then [(⟨(tx err).toArray⟩ : ByteArray), ⟨(tx at_).toArray⟩] else if kind = 1 then [] else [⟨(tx step).toArray⟩]) = [⟨(tx step).toArray⟩] from (if_neg hk).trans (if_neg hk1))
          clear hk hk1
          have b1 := HB1.out.cell (i := 1) rfl
          go_wp2_with fail
          refine (HD.out _ _ (.inl rfl) (HT.out.kp HQ1.out)).mono ?_
          rintro e wk ⟨rfl, hKk⟩
          have HOk := Lib.hid (HO1.out.kp hKk (fun _ _ h => h))
          have HKk := Lib.hid (HQ1.out.trans hKk (fun _ _ h => h))
          have HBk := Lib.hid (HB1.out.kp hKk (fun h => h))
          have hltk := HBk.out.lt
          clear hKk
          go_wp2_with (at_builtin; refine wpList_append1 rfl _ _ 43 9 rfl Tryd.underlying43 strInfo rfl (HOk.out.alloc _) rfl ⟨wk.heap.size, 0, none⟩ (.string ⟨(tx step).toArray⟩) rfl ?c1 rfl ?c2 ?c3 ?c4 ?_)
          case c1 => simp
          case c2 => simp [strs]
          case c3 => simp [strs, maxLen]
          case c4 => simp; omega
          intro v1 w1 hO2 hg1
          have HO2 := Lib.hid hO2
          have hlo := fun j (e : u5.ownBlock = some j) => (HOk.out.lt j e).1
          have HKz := Lib.hid ((HKk.out.alloc (.cells #[.string ⟨(tx step).toArray⟩] 9)).grown hg1 (fun j hj hl => by have := hlo j hj; omega))
          have HBz := Lib.hid ((HBk.out.alloc (.cells #[.string ⟨(tx step).toArray⟩] 9)).kp ((Kp.refl (fun j => u5.ownBlock = some j) _).grown hg1 (fun j hj _ => hj)) (fun h => by have := hlo _ h; omega))
          clear hO2 hg1 hlo
          go_wp2_with fail
          go_meet
          case rel => exact ⟨by rw [HIf.out]; exact HO2.out, HKz.out, HBz.out⟩
    case rest =>
      obtain ⟨ho, hq, hb⟩ := hcut
      have HO2 := Lib.hid ho
      have HQ2 := Lib.hid hq
      have HB2 := Lib.hid hb
      clear ho hq hb d0 HO1 HQ1 HB1 hsz2
      obtain ⟨L, hL⟩ : ∃ L, ((⟨wd.toArray⟩ : ByteArray) :: (if kind = 0 then [⟨(tx err).toArray⟩, ⟨(tx at_).toArray⟩] else if kind = 1 then [] else [⟨(tx step).toArray⟩])) = L := ⟨_, rfl⟩
      have hLl : 1 ≤ L.length ∧ L.length ≤ 3 := by
        rw [← hL]
        split
        · simp
        · split <;> simp
      have HJ0 : Hid (Lib.join (L.map (·.data.toList)) [32] = vline kind.toNat step at_ err) := by
        show _ = _
        rw [HVl.out, ← hL]
        by_cases z0 : kind = 0
        · rw [if_pos z0, if_pos (show kind.toNat = 0 by omega)]; simp [Lib.join_cons, Lib.joinTail]
        · rw [if_neg z0, if_neg (show ¬ kind.toNat = 0 by omega)]
          by_cases z1 : kind = 1
          · rw [if_pos z1, if_pos (show kind.toNat = 1 by omega)]; simp [Lib.join_cons, Lib.joinTail]
          · rw [if_neg z1, if_neg (show ¬ kind.toNat = 1 by omega)]; simp [Lib.join_cons, Lib.joinTail]
      have hvl : (vline kind.toNat step at_ err).length ≤ 90 := by
        rw [HVl.out]
        split
        · simp; omega
        · split <;> simp <;> omega
      rw [hL] at HO2
      clear hL HVl
      obtain ⟨lj, hlj⟩ : ∃ t, vline kind.toNat step at_ err = t := ⟨_, rfl⟩
      rw [hlj] at HJ0 HX hvl
      clear hlj
      obtain ⟨g5, c5, E5, -, -⟩ := HO2.out.leads (by rw [strs_length]; omega)
      rw [strs_length] at E5
      obtain ⟨m5, hm5⟩ : ∃ m, L.length = m := ⟨_, rfl⟩
      have HJn : Hid (∀ u, Own u (w.heap.size + 1) 9 (.slice (some ⟨g5, 0, none⟩) m5 c5) (strs L) → Calls Tryd.prog 15 #[.slice (some ⟨g5, 0, none⟩) m5 c5, .string ⟨#[32]⟩] u fun e w' => e = .returned (.string ⟨lj.toArray⟩) ∧ Kp (fun _ => False) u w') := by
        intro u hO
        obtain ⟨a', c', e, hc, _⟩ := hO.form
        simp only [Value.slice.injEq] at e
        obtain ⟨_, _, rfl⟩ := e
        rw [strs_length] at hc
        obtain ⟨g', cap', e', _, hg⟩ := hO.leads (by rw [strs_length]; omega)
        simp only [Value.slice.injEq, Option.some.injEq, Addr.mk.injEq] at e'
        obtain ⟨⟨rfl, _, _⟩, _, _⟩ := e'
        have h := Tryd.strings_Join g5 0 c5 L ⟨#[32]⟩ u (fun j x hx => by rw [Nat.zero_add]; exact hO.cell (by simp [strs, hx])) hg (by omega) hc (by rw [show (⟨#[32]⟩ : ByteArray).data.toList = [32] from rfl, HJ0.out]; omega)
        rw [show (⟨#[32]⟩ : ByteArray).data.toList = [32] from rfl, HJ0.out, hm5] at h
        refine h.mono ?_
        rintro e w' ⟨rfl, hb⟩
        exact ⟨rfl, Kp.of_below hb _⟩
      rw [hm5] at E5
      clear hm5 hLl
      subst E5
      have HC : Hid ((((⟨lj.toArray⟩ : ByteArray) ++ ⟨#[10, 115, 112, 101, 110, 116, 32]⟩) ++ ⟨(tx spent).toArray⟩) ++ ⟨#[10]⟩ = ⟨(lj ++ vspent spent).toArray⟩) := by
        show _ = _
        rw [HVs.out, show (⟨#[10, 115, 112, 101, 110, 116, 32]⟩ : ByteArray) = ⟨[10, 115, 112, 101, 110, 116, 32].toArray⟩ from rfl, show (⟨#[10]⟩ : ByteArray) = ⟨[10].toArray⟩ from rfl, cat_bytes, cat_bytes, cat_bytes]
        simp
      have hls : (vspent spent).length ≤ 50 := by rw [HVs.out]; simp; omega
      have m1 : ¬ 9223372036854775807 < lj.length + 7 := by omega
      have m2 : ¬ 9223372036854775807 < lj.length + 7 + (tx spent).length := by omega
      have m3 : ¬ 9223372036854775807 < lj.length + 7 + (tx spent).length + 1 := by omega
      obtain ⟨ls, hls2⟩ : ∃ t, vspent spent = t := ⟨_, rfl⟩
      rw [hls2] at HC HX hls
      clear hls2 HVs
      obtain ⟨wb, rfl⟩ : ∃ wb : World, wb = wc := ⟨_, rfl⟩
      go_upto_region 9 with (fail)
      go_cut [6] (fun s6 wx => s6 = .string ⟨(lj ++ ls).toArray⟩ ∧ Kp (fun _ => False) w wx ∧ Blk wx w.heap.size #[.int .i64 kind, .int .i64 step, .int .i64 spent, .int .i64 at_, .int .i64 err, .slice a2 n2 c2, .slice a3 n3 c3] 28)
      case first =>
        clear HX
        have b2 := HB2.out.drew.cell (i := 2) rfl
        go_region_held3 (fun w' => w'.cell? ⟨w.heap.size, 2, none⟩ = some (.int .i64 spent)) (first | exact z2 | exact b2) ((first
          | (go_at_call 14
             refine (HD.out _ _ (.inr (.inl rfl)) (by first | exact HT.out.kp HKk.out | exact HT.out.kp HQ2.out.drew)).mono ?_
             rintro e wk ⟨rfl, hKk⟩
             first
               | have HOk := Lib.hid (HOk.out.kp hKk (fun _ _ h => h))
               | have HOk := Lib.hid (HO2.out.drew.kp hKk (fun _ _ h => h))
             first
               | have HKk := Lib.hid (HKk.out.trans hKk (fun _ _ h => h))
               | have HKk := Lib.hid (HQ2.out.drew.trans hKk (fun _ _ h => h))
             first
               | have HBk := Lib.hid (HBk.out.kp hKk (fun h => h))
               | have HBk := Lib.hid (HB2.out.drew.kp hKk (fun h => h))
             have z2 := HBk.out.cell (i := 2) rfl
             clear hKk)
          | (go_at_call 15
             refine (HJn.out _ (by first | exact HOk.out | exact HO2.out.drew)).mono ?_
             rintro e wk ⟨rfl, hKk⟩
             first
               | have HOk := Lib.hid (HOk.out.kp hKk (fun _ _ h => h))
               | have HOk := Lib.hid (HO2.out.drew.kp hKk (fun _ _ h => h))
             first
               | have HKk := Lib.hid (HKk.out.trans hKk (fun _ _ h => h))
               | have HKk := Lib.hid (HQ2.out.drew.trans hKk (fun _ _ h => h))
             first
               | have HBk := Lib.hid (HBk.out.kp hKk (fun h => h))
               | have HBk := Lib.hid (HB2.out.drew.kp hKk (fun h => h))
             have z2 := HBk.out.cell (i := 2) rfl
             clear hKk)))
        all_goals go_wp2_with fail
        all_goals go_meet
        all_goals exact ⟨congrArg Value.string HC.out, HKk.out, HBk.out⟩
      case rest =>
        obtain ⟨rfl, hq, hb⟩ := hcut
        have HKk := Lib.hid hq
        have g0 := hb.cell (i := 0) rfl
        have g5' := hb.cell (i := 5) rfl
        have g6' := hb.cell (i := 6) rfl
        have g1' := hb.cell (i := 1) rfl
        have g2' := hb.cell (i := 2) rfl
        have g3' := hb.cell (i := 3) rfl
        have g4' := hb.cell (i := 4) rfl
        clear hq hb HO2 HQ2 HB2 HJn
        by_cases hk : kind = 2
        · have e2 : ((kind : Int) == 2) = true := by simp [hk]
          rw [if_pos hk] at HX
          have HWt := Lib.hid (fun u => verdict_Witness kind step spent at_ err prop a2 a3 n2 c2 n3 c3 u)
          have HVw := Lib.hid (show vwit kind prop (.slice a2 n2 c2) (.slice a3 n3 c3) = .agg #[.int .i64 1, .int .i64 prop, .slice a2 n2 c2, .slice a3 n3 c3] by unfold vwit; rw [if_pos hk])
          rw [HVw.out] at HWt
          clear hk
          go_wp2_with fail
          refine (HWt.out _).mono ?_
          rintro e w7 ⟨rfl, hK7⟩
          have HK7 := Lib.hid (HKk.out.trans hK7 (fun _ _ h => h))
          clear hK7
          have HWr := Lib.hid (wit_Write_any 1 prop (.slice a2 n2 c2) (.slice a3 n3 c3) start ins w7 HP1.out (HS0.out.kp HK7.out) (HI0.out.kp HK7.out) HSh.out (HT.out.kp HK7.out))
          have hwl2 := witText_len (kind := 1) HP1.out HSh.out
          obtain ⟨wt, hwt⟩ : ∃ t, witText 1 prop start ins = t := ⟨_, rfl⟩
          rw [hwt] at HWr HX hwl2
          clear hwt
          go_wp2_with fail
          refine HWr.out.mono ?_
          rintro e w8 ⟨rfl, hK8⟩
          have HK8 := Lib.hid (HK7.out.trans hK8 (fun _ _ h => h))
          clear hK8
          have m4 : ¬ 9223372036854775807 < lj.length + ls.length + wt.length := by omega
          go_wp2_with fail
          go_ret
          exact ⟨congrArg (fun x => Ending.returned (Value.string x)) ((cat_bytes (lj ++ ls) wt).trans (by rw [HX.out])), HK8.out⟩
        · have e2 : ((kind : Int) == 2) = false := by simpa using hk
          rw [if_neg hk, List.append_nil] at HX
          clear hk
          go_wp2_with fail
          go_ret
          exact ⟨congrArg (fun x => Ending.returned (Value.string x)) (by rw [HX.out]), HKk.out⟩

end Go.Proofs.YtkgmiclmpfahlaaDoor

/-
  verdict.numbers of a line whose words behind the first are numerals.
-/
namespace Go.Proofs.YtkgmiclmpfahlaaDoor
open Go.RowKit

/-- the words behind the first are these numbers -/
def numW (ws : List ByteArray) (us : List Nat) : Prop := ws.length = us.length + 1 ∧ ∀ i x, ws[i + 1]? = some x → natN x 0 = (us[i]?.getD 0, x.size, 0)

def uints (us : List Nat) : List Value := us.map (fun (u : Nat) => Value.int .i64 (u : Int))

theorem uints_succ {us : List Nat} {k : Nat} (h : k < us.length) : uints (us.take (k + 1)) = uints (us.take k) ++ [.int .i64 ((us[k]?.getD 0 : Nat) : Int)] := by
  unfold uints
  rw [List.take_succ_eq_append_getElem h, List.map_append]
  simp [List.getElem?_eq_getElem h]

set_option maxRecDepth 100000 in
set_option maxHeartbeats 4000000 in
theorem verdict_numbers (s : ByteArray) (us : List Nat) (w : World) (hs : s.size ≤ 100000) (hm : ML w) (hw : numW (wordsB s) us) (hu : us.length ≤ 1000) :
    Calls Tryd.prog 21 #[.string s] w fun e w' => ∃ v, e = .returned (.tuple #[v, .bool true]) ∧ Own w' w.heap.size 3 v (uints us) ∧ Kp (fun _ => False) w w' := by
  obtain ⟨m, hm⟩ := hm
  have HW := Lib.hid (octet_Words s m w hs hm); clear hm
  have HSZ := Lib.hid (fun b h => word_size (s := s) (b := b) h)
  obtain ⟨ws, hws⟩ : ∃ ws, wordsB s = ws := ⟨_, rfl⟩
  rw [hws] at HW HSZ hw
  clear hws
  obtain ⟨hl, hx⟩ := hw
  have HX := Lib.hid hx
  clear hx
  obtain ⟨n, hn⟩ : ∃ n, us.length = n := ⟨_, rfl⟩
  have HN := Lib.hid hn
  rw [hn] at hl hu
  clear hn
  go_enter Tryd.func21, Tryd.ntmps21
  go_wp2_with fail
  refine HW.out.mono ?_
  rintro e w1 ⟨vw, rfl, hO, hK⟩
  obtain ⟨g, cap, rfl, hg1, hg2⟩ := hO.leads (by rw [strs_length, hl]; omega)
  obtain ⟨a', c', e', hc1, hc2, _⟩ := hO.form
  simp only [Value.slice.injEq] at e'
  obtain ⟨e1', _, rfl⟩ := e'
  subst e1'
  rw [strs_length, hl] at hc1
  have HO := Lib.hid hO
  have HK1 := Lib.hid hK
  have hsz := hK.size
  rw [strs_length, hl]
  clear hO hK
  have hcm : cap ≤ 9223372036854775807 := by unfold maxLen at hc2; omega
  have u1 : (1 : Int) ≤ ((n + 1 : Nat) : Int) := by omega
  have u2 : ((n + 1 : Nat) : Int) ≤ (cap : Int) := by omega
  have hcell : Hid (∀ wr k x, Kp (fun _ => False) w1 wr → ws[k + 1]? = some x → wr.cell? ⟨g, 1 + k, none⟩ = some (.string x)) := by
    intro wr k x hk hx
    have := (HO.out.kp hk (fun _ _ h => h)).cell (j := k + 1) (u := .string x) (by simp [strs, hx])
    rwa [Nat.add_comm] at this
  have hfin : Hid (∀ (v : Value) (k : Nat) (wr : World), ¬ k < n → k ≤ n → Own wr w1.heap.size 3 v (uints (us.take k)) → Kp (fun _ => False) w1 wr → Own wr w.heap.size 3 v (uints us) ∧ Kp (fun _ => False) w wr) := by
    intro v k wr h1 h2 h3 h4
    rw [List.take_of_length_le (by rw [HN.out]; omega)] at h3
    exact ⟨h3.mono hsz, HK1.out.trans h4 (fun _ _ h => h)⟩
  by_cases hcap : cap = 1
  · have hn0 : n = 0 := by omega
    subst hn0
    subst hcap
    go_wp2_with fail
    go_loopw [4, 14] (fun v4 v14 wr => v14 = .int .i64 ((0 : Nat) : Int) ∧ v4 = .slice none 0 0 ∧ wr = w1) (fun v14 _ _ => 0)
    case atStart => exact ⟨rfl, rfl, rfl⟩
    case round =>
      obtain ⟨rfl, rfl, rfl⟩ := hrel
      go_wp2_with fail
      go_ret2
      exact ⟨_, rfl, hfin.out _ 0 _ (by omega) (by omega) (Own.nil _ _ _) (Kp.refl _ _)⟩
  · have hn1 : (1 : Int) < (cap : Int) := by omega
    go_wp2_with fail
    go_loopw [4, 14] (fun v4 v14 wr => ∃ k : Nat, v14 = .int .i64 k ∧ k ≤ n ∧ Own wr w1.heap.size 3 v4 (uints (us.take k)) ∧ Kp (fun _ => False) w1 wr) (fun _ v14 _ => n - (intOf v14).toNat)
    case atStart => exact ⟨0, rfl, Nat.zero_le _, Own.nil _ _ _, Kp.refl _ _⟩
    case round =>
      obtain ⟨k, rfl, hk, ho, hK⟩ := hrel
      have HOk := Lib.hid ho; clear ho
      have HKk := Lib.hid hK; clear hK
      by_cases hlt : k < n
      · obtain ⟨x, hx⟩ : ∃ x, ws[k + 1]? = some x := ⟨_, List.getElem?_eq_getElem (by omega)⟩
        have hc := hcell.out wr k x HKk.out hx
        have hxs := HSZ.out x (List.mem_of_getElem? hx)
        have hN := octet_Nat_in x 0 wr (by omega) (Nat.zero_le _)
        rw [HX.out k x hx] at hN
        rw [show (((0 : Nat) : Int)) = 0 from rfl] at hN
        have HNt := Lib.hid hN; clear hN
        have HSu := Lib.hid (uints_succ (us := us) (k := k) (by rw [HN.out]; exact hlt))
        obtain ⟨u, hu'⟩ : ∃ u, us[k]?.getD 0 = u := ⟨_, rfl⟩
        rw [hu'] at HNt HSu
        clear hu' hx
        have dd : decide ((k : Int) < (n : Int)) = true := decide_eq_true (by omega)
        have i0 : (0 : Int) ≤ (k : Int) := by omega
        have i1 : (k : Int) < (n : Int) := by omega
        have q1 : ((x.size : Int) != (x.size : Int)) = false := by simp
        go_wp2_with fail
        refine HNt.out.mono ?_
        rintro e w2 ⟨rfl, hK2⟩
        have HO2 := Lib.hid (HOk.out.kp hK2 (fun _ _ h => h))
        have HK2 := Lib.hid (HKk.out.trans hK2 (fun _ _ h => h))
        have hs2 := HK2.out.size
        clear hK2
        unfold tripI
        have htl : (us.take k).length ≤ 1000 := by rw [List.length_take]; omega
        go_wp2_with (at_builtin; refine wpList_append1 rfl _ _ 50 3 rfl Tryd.underlying50 intInfo rfl (HO2.out.alloc _) rfl ⟨w2.heap.size, 0, none⟩ (.int .i64 (u : Int)) rfl ?c1 rfl ?c2 ?c3 ?c4 ?_)
        case c1 => simp
        case c2 => simp only [uints, List.length_map]; omega
        case c3 => simp only [uints, List.length_map]; unfold maxLen; omega
        case c4 => simp; omega
        intro v3 w3 hO3 hg3
        rw [← HSu.out] at hO3
        have HO3 := Lib.hid hO3
        have HK3 := Lib.hid ((HK2.out.alloc (.cells #[.int .i64 (u : Int)] 3)).grown hg3 (fun j hj hl => by have := (HO2.out.lt j hj).1; omega))
        clear hO3 hg3
        go_wp2_with fail
        go_roundw
        case rel => exact ⟨k + 1, by go_num, by omega, HO3.out, HK3.out⟩
        case measure => simp [intOf]; omega
      · have dd : decide ((k : Int) < (n : Int)) = false := decide_eq_false (by omega)
        have hend := hfin.out _ k _ hlt hk HOk.out HKk.out
        have HE := Lib.hid hend; clear hend
        go_wp2_with fail
        go_ret2
        exact ⟨_, rfl, HE.out⟩

end Go.Proofs.YtkgmiclmpfahlaaDoor

/-
  A good verdict's text: its lines, their words and numbers. No program in sight.
-/
namespace Go.Proofs.YtkgmiclmpfahlaaDoor
open Go.RowKit

theorem dec_word {x : ByteArray} {u : Nat} (h : x.data.toList = Lib.decDigits u) (hu : u < 1000000000) : natN x 0 = (u, x.size, 0) := by
  have hz : x.size = (Lib.decDigits u).length := by rw [← list_size, h]
  have := natN_dec (s := x) (p := 0) hu (by omega) (by rw [List.drop_zero, h]; exact List.take_length) (.inl (by omega))
  rw [this, hz, Nat.zero_add]

theorem numW_of {s : ByteArray} {w0 : List UInt8} {us : List Nat} (h : s.data.toList = w0 ++ (us.map Lib.decDigits).flatMap (fun x => 32 :: x)) (h0 : ∀ b ∈ w0, b ≠ 32) (hu : ∀ u ∈ us, u < 1000000000) :
    numW (wordsB s) us ∧ (wordsB s)[0]? = some ⟨w0.toArray⟩ := by
  have hd : (wordsB s).map (·.data.toList) = w0 :: us.map Lib.decDigits := by
    rw [wordsB_data, h]
    refine flat_words _ _ h0 (fun x hx b hb => ?_)
    obtain ⟨u, _, rfl⟩ := List.mem_map.1 hx
    intro e
    have := dd_digit u b hb
    rw [e] at this
    simp at this
  refine ⟨⟨?_, fun i x hx => ?_⟩, ?_⟩
  · have := congrArg List.length hd
    simpa using this
  · have h1 := congrArg (fun l => l[i + 1]?) hd
    simp only [List.getElem?_map, List.getElem?_cons_succ, hx, Option.map_some] at h1
    cases hi : us[i]? with
    | none => rw [hi] at h1; cases h1
    | some u =>
      rw [hi] at h1
      simp only [Option.map_some, Option.some.injEq] at h1
      exact dec_word h1 (hu u (List.mem_of_getElem? hi))
  · have h1 := congrArg (fun l => l[0]?) hd
    simp only [List.getElem?_map, List.getElem?_cons_zero] at h1
    obtain ⟨x, hx, hx2⟩ := Option.map_eq_some_iff.1 h1
    rw [hx]
    congr 1
    exact ba_ext hx2

/-- the numbers of a first line -/
def vnums (kind step at_ err : Nat) : List Nat := if kind = 0 then [err, at_] else if kind = 1 then [] else [step]

theorem vword_blank (k : Nat) : ∀ b ∈ vword k, b ≠ 32 ∧ b ≠ 10 := by
  unfold vword
  split <;> decide

theorem vline_words (kind step at_ err : Nat) : vline kind (step : Int) (at_ : Int) (err : Int) = vword kind ++ ((vnums kind step at_ err).map Lib.decDigits).flatMap (fun x => 32 :: x) := by
  unfold vline vnums
  by_cases h0 : kind = 0
  · rw [if_pos h0, if_pos h0, itoa_nat, itoa_nat]; simp
  · rw [if_neg h0, if_neg h0]
    by_cases h1 : kind = 1
    · rw [if_pos h1, if_pos h1]; simp
    · rw [if_neg h1, if_neg h1, itoa_nat]; simp

theorem dd_no10 (u : Nat) : ∀ b ∈ Lib.decDigits u, b ≠ 10 := by
  intro b hb e
  have := dd_digit u b hb
  rw [e] at this
  simp at this

theorem vline_no10 (kind step at_ err : Nat) : ∀ b ∈ vline kind (step : Int) (at_ : Int) (err : Int), b ≠ 10 := by
  rw [vline_words]
  intro b hb
  rcases List.mem_append.1 hb with h | h
  · exact (vword_blank kind b h).2
  · obtain ⟨x, hx, hb⟩ := List.mem_flatMap.1 h
    obtain ⟨u, _, rfl⟩ := List.mem_map.1 hx
    rcases List.mem_cons.1 hb with rfl | hb
    · decide
    · exact dd_no10 u b hb

def vl2 (spent : Nat) : List UInt8 := [115, 112, 101, 110, 116] ++ ([spent].map Lib.decDigits).flatMap (fun x => 32 :: x)

theorem vspent_line (spent : Nat) : vspent (spent : Int) = 10 :: (vl2 spent ++ [10]) := by
  unfold vspent vl2
  rw [itoa_nat]; simp

theorem vl2_no10 (spent : Nat) : ∀ b ∈ vl2 spent, b ≠ 10 := by
  intro b hb
  unfold vl2 at hb
  simp only [List.map_cons, List.map_nil, List.flatMap_cons, List.flatMap_nil, List.append_nil, List.mem_append, List.mem_cons] at hb
  rcases hb with (rfl | rfl | rfl | rfl | rfl | h) | rfl | h
  · decide
  · decide
  · decide
  · decide
  · decide
  · cases h
  · decide
  · exact dd_no10 spent b h

/-- the two lines of a good verdict's text -/
theorem vtext_lines {S : ByteArray} {kind step spent at_ err : Nat} {prop : Int} {start : List Bool} {ins : List (List Bool)} (hk : kind ≤ 5) (hS : S.data.toList = vtext kind step spent at_ err prop start ins) :
    lineT S ((0 : Nat) : Int) = (⟨(vline kind step at_ err).toArray⟩, (vline kind step at_ err).length + 1, 0) ∧
    lineT S (((vline kind step at_ err).length + 1 : Nat) : Int) = (⟨(vl2 spent).toArray⟩, (vline kind step at_ err).length + 1 + (vl2 spent).length + 1, 0) ∧
    (vline kind step at_ err).length + 1 + (vl2 spent).length + 1 ≤ S.size ∧
    S.data.toList.drop ((vline kind step at_ err).length + 1 + (vl2 spent).length + 1) = (if (kind : Int) = 2 then witText 1 prop start ins else []) := by
  have hT : S.data.toList = vline kind step at_ err ++ 10 :: (vl2 spent ++ 10 :: (if (kind : Int) = 2 then witText 1 prop start ins else [])) := by
    rw [hS]
    unfold vtext
    rw [if_neg (by omega), Int.toNat_natCast, vspent_line]
    simp
  have hlen := congrArg List.length hT
  rw [list_size] at hlen
  simp only [List.length_append, List.length_cons] at hlen
  have h1 := lineT_text (s := S) (p := 0) (Nat.zero_le _) (vline_no10 kind step at_ err) (by rw [List.drop_zero]; exact hT)
  rw [Nat.zero_add] at h1
  have hd1 : S.data.toList.drop ((vline kind step at_ err).length + 1) = vl2 spent ++ 10 :: (if (kind : Int) = 2 then witText 1 prop start ins else []) := by
    rw [hT, show ∀ r, vline kind step at_ err ++ 10 :: r = (vline kind step at_ err ++ [10]) ++ r from fun r => by simp, List.drop_left' (by simp)]
  have h2 := lineT_text (s := S) (p := (vline kind step at_ err).length + 1) (by omega) (vl2_no10 spent) hd1
  refine ⟨h1, h2, by omega, ?_⟩
  rw [show (vline kind step at_ err).length + 1 + (vl2 spent).length + 1 = (vline kind step at_ err).length + 1 + ((vl2 spent).length + 1) by omega, ← List.drop_drop, hd1,
    show ∀ r, vl2 spent ++ 10 :: r = (vl2 spent ++ [10]) ++ r from fun r => by simp, List.drop_left' (by simp)]

end Go.Proofs.YtkgmiclmpfahlaaDoor

/-
  latchetlaw18.WitReads: its walk.
-/
namespace Go.Proofs.YtkgmiclmpfahlaaDoor
open Go.RowKit Go.Shelf

end Go.Proofs.YtkgmiclmpfahlaaDoor

/-
  verdict.Read of a good verdict's text.
-/
namespace Go.Proofs.YtkgmiclmpfahlaaDoor
open Go.RowKit Go.Shelf

def wordF (k : Nat) : ByteArray := ⟨(vword k).toArray⟩

set_option maxRecDepth 100000 in
theorem idx6 (k : Nat) (hk : k < 6) (x0 x1 x2 x3 x4 x5 : ByteArray) (h : ∀ i, i < 6 → [x0, x1, x2, x3, x4, x5][i]? = some (wordF i)) (w : World) :
    (Instr.index 42 (.agg #[.string x0, .string x1, .string x2, .string x3, .string x4, .string x5]) (.int .i64 (k : Int))).run Tryd.prog w = .ok (.string (wordF k)) w := by
  have e0 := h 0 (by omega)
  have e1 := h 1 (by omega)
  have e2 := h 2 (by omega)
  have e3 := h 3 (by omega)
  have e4 := h 4 (by omega)
  have e5 := h 5 (by omega)
  simp at e0 e1 e2 e3 e4 e5
  subst e0 e1 e2 e3 e4 e5
  match k, hk with
  | 0, _ => rfl
  | 1, _ => rfl
  | 2, _ => rfl
  | 3, _ => rfl
  | 4, _ => rfl
  | 5, _ => rfl

theorem wordF_eq (k kind : Nat) (hk : k < 6) (hk2 : kind < 6) : ((wordF k).toList == (wordF kind).toList) = decide (k = kind) := by
  unfold wordF
  rw [Lib.toList_data, Lib.toList_data]
  have : ∀ k ∈ List.range 6, ∀ j ∈ List.range 6, ((vword k) == (vword j)) = decide (k = j) := by decide +kernel
  exact this k (List.mem_range.2 hk) kind (List.mem_range.2 hk2)

/-- what is right of a verdict -/
structure VGood (kind step spent at_ err prop : Nat) (start : List Bool) (ins : List (List Bool)) (la inp : Nat) : Prop where
  hk : kind ≤ 5
  hstep : step < 1000000000
  hspent : spent < 1000000000
  hat : at_ < 1000000000
  herr : err ≤ 11
  hprop : prop < 1000000000
  z0 : kind = 0 → 1 ≤ err ∧ step = 0
  n0 : kind ≠ 0 → at_ = 0 ∧ err = 0
  z1 : kind = 1 → step = 0
  z2 : kind = 2 → ins ≠ [] ∧ start.length = la ∧ (∀ x ∈ ins, x.length = inp)
  n2 : kind ≠ 2 → start = [] ∧ ins = [] ∧ prop = 0
  sh : shortP start ins 40

theorem feedl_len : ∀ L : List (List UInt8), L.length ≤ (L.flatMap (fun l => l ++ [10])).length
  | [] => by simp
  | x :: r => by
    have := feedl_len r
    simp only [List.flatMap_cons, List.length_append, List.length_cons, List.length_nil]
    omega

theorem wit_back {S : ByteArray} {p prop la inp : Nat} {start : List Bool} {ins : List (List Bool)} (hp : p ≤ S.size) (hS : S.data.toList.drop p = witText 1 prop start ins) (hprop : prop < 1000000000)
    (h : ins ≠ [] ∧ start.length = la ∧ (∀ x ∈ ins, x.length = inp)) : witT (S.extract p S.size) la inp = .ok ⟨1, prop, start, ins⟩ := by
  have hd : (S.extract p S.size).data.toList = witText (1 : Nat) prop start ins := by
    rw [show (((1 : Nat) : Int)) = 1 from rfl, ← hS, ByteArray.data_extract, Array.toList_extract, List.extract_eq_take_drop]
    apply List.take_of_length_le
    rw [List.length_drop, list_size]
    omega
  refine text_witT hd (by omega) hprop (fun _ => h) (fun h => absurd rfl h) ?_
  have hl := congrArg List.length hd
  rw [list_size] at hl
  rw [hl]
  unfold witText
  rw [if_neg (by omega)]
  refine Nat.le_trans ?_ (feedl_len _)
  unfold witLines
  rw [if_pos (by rfl : ((1 : Nat) : Int) = 1)]
  simp only [List.length_append, List.length_cons, List.length_map, List.length_nil]
  omega

theorem Blk.cells7 {w : World} {b : Nat} {x0 x1 x2 x3 x4 x5 x6 : Value} {t : TypeId} (h : Blk w b #[x0, x1, x2, x3, x4, x5, x6] t) :
    w.cell? ⟨b, 0, none⟩ = some x0 ∧ w.cell? ⟨b, 1, none⟩ = some x1 ∧ w.cell? ⟨b, 2, none⟩ = some x2 ∧ w.cell? ⟨b, 3, none⟩ = some x3 ∧ w.cell? ⟨b, 4, none⟩ = some x4 ∧ w.cell? ⟨b, 5, none⟩ = some x5 ∧ w.cell? ⟨b, 6, none⟩ = some x6 :=
  ⟨h.cell rfl, h.cell rfl, h.cell rfl, h.cell rfl, h.cell rfl, h.cell rfl, h.cell rfl⟩

theorem Blk.set7 {w : World} {b : Nat} {x0 x1 x2 x3 x4 x5 x6 : Value} {t : TypeId} (h : Blk w b #[x0, x1, x2, x3, x4, x5, x6] t) (y0 y1 y2 y3 y4 y5 y6 : Value) :
    Blk (((((((w.setCell ⟨b, 0, none⟩ y0).setCell ⟨b, 1, none⟩ y1).setCell ⟨b, 2, none⟩ y2).setCell ⟨b, 3, none⟩ y3).setCell ⟨b, 4, none⟩ y4).setCell ⟨b, 5, none⟩ y5).setCell ⟨b, 6, none⟩ y6) b #[y0, y1, y2, y3, y4, y5, y6] t := by
  have h7 := ((((((h.set_same 0 y0).set_same 1 y1).set_same 2 y2).set_same 3 y3).set_same 4 y4).set_same 5 y5).set_same 6 y6
  simpa only [List.setIfInBounds_toArray, List.set_cons_zero, List.set_cons_succ] using h7

theorem Kp.set7 {S : Nat → Prop} {a w : World} (h : Kp S a w) {b : Nat} (hb : b < a.heap.size → S b) (y0 y1 y2 y3 y4 y5 y6 : Value) :
    Kp S a (((((((w.setCell ⟨b, 0, none⟩ y0).setCell ⟨b, 1, none⟩ y1).setCell ⟨b, 2, none⟩ y2).setCell ⟨b, 3, none⟩ y3).setCell ⟨b, 4, none⟩ y4).setCell ⟨b, 5, none⟩ y5).setCell ⟨b, 6, none⟩ y6) :=
  ((((((h.setCell (p := ⟨b, 0, none⟩) hb y0).setCell (p := ⟨b, 1, none⟩) hb y1).setCell (p := ⟨b, 2, none⟩) hb y2).setCell (p := ⟨b, 3, none⟩) hb y3).setCell (p := ⟨b, 4, none⟩) hb y4).setCell (p := ⟨b, 5, none⟩) hb y5).setCell (p := ⟨b, 6, none⟩) hb y6

set_option maxRecDepth 100000 in
set_option maxHeartbeats 8000000 in
theorem verdict_Read_own (S : ByteArray) (kind step spent at_ err prop : Nat) (start : List Bool) (ins : List (List Bool)) (la inp : Nat) (w : World) (hG : VGood kind step spent at_ err prop start ins la inp)
    (hS : S.data.toList = vtext kind step spent at_ err prop start ins) (hz : S.size ≤ 100000) (ht : Tab w) (hm : ML w) (hwd : Wds w) :
    Calls Tryd.prog 12 #[.string S, .int .i64 la, .int .i64 inp] w fun e w' =>
      (∃ v2 v3 rows, e = .returned (.tuple #[.agg #[.int .i64 kind, .int .i64 step, .int .i64 spent, .int .i64 at_, .int .i64 err, v2, v3], .int .i64 prop, .int .i64 0]) ∧ Own w' w.heap.size 4 v2 (start.map Value.bool) ∧ OwnRows w' w.heap.size v3 rows ins) ∧ Kp (fun _ => False) w w' := by
  have HG := Lib.hid hG
  have HT := Lib.hid ht
  have HM := Lib.hid hm
  have HWd := Lib.hid hwd
  have HS := Lib.hid hS
  clear ht hm hwd
  obtain ⟨t1, t2, t3, t4⟩ := vtext_lines hG.hk hS
  have hk5 := hG.hk
  have g1 : decide ((la : Int) < 0) = false := decide_eq_false (by omega)
  have g2 : decide ((inp : Int) < 0) = false := decide_eq_false (by omega)
  have hN1 := numW_of (s := ⟨(vline kind step at_ err).toArray⟩) (w0 := vword kind) (us := vnums kind step at_ err) (vline_words kind step at_ err) (fun b h => (vword_blank kind b h).1) (by
    intro u hu
    have := hG.hstep
    have := hG.hat
    have := hG.herr
    unfold vnums at hu
    split at hu
    · simp at hu; omega
    · split at hu
      · cases hu
      · simp at hu; omega)
  have hN2 := numW_of (s := ⟨(vl2 spent).toArray⟩) (w0 := [115, 112, 101, 110, 116]) (us := [spent]) rfl (by decide) (by intro u hu; simp at hu; have := hG.hspent; omega)
  have HLn1 := Lib.hid (fun u => octet_Line_in S 0 u (by omega) (Nat.zero_le _))
  have HLn2 := Lib.hid (fun u => octet_Line_in S ((vline kind step at_ err).length + 1) u (by omega) (by omega))
  rw [t1] at HLn1
  rw [t2] at HLn2
  have hsz1 : (⟨(vline kind step at_ err).toArray⟩ : ByteArray).size ≤ 100000 := by rw [← list_size]; simp only; omega
  have hsz2 : (⟨(vl2 spent).toArray⟩ : ByteArray).size ≤ 100000 := by rw [← list_size]; simp only; omega
  have hvl : (vnums kind step at_ err).length ≤ 2 := by unfold vnums; split; simp; split <;> simp
  have HNu1 := Lib.hid (fun u hu => verdict_numbers ⟨(vline kind step at_ err).toArray⟩ (vnums kind step at_ err) u hsz1 hu hN1.1 (by omega))
  have HNu2 := Lib.hid (fun u hu => verdict_numbers ⟨(vl2 spent).toArray⟩ [spent] u hsz2 hu hN2.1 (by simp))
  have HW0 := Lib.hid hN1.2
  have HWo := Lib.hid (fun m u hm => octet_Words ⟨(vline kind step at_ err).toArray⟩ m u hsz1 hm)
  have HRest := Lib.hid t4
  have HWsz := Lib.hid (show 1 ≤ (wordsB ⟨(vline kind step at_ err).toArray⟩).length by have := hN1.1.1; omega)
  have hend := t3
  clear t1 t2 t3 t4 hN1 hN2 hS hsz1 hsz2 hG
  obtain ⟨A, hA⟩ : ∃ A : ByteArray, (⟨(vline kind step at_ err).toArray⟩ : ByteArray) = A := ⟨_, rfl⟩
  obtain ⟨B, hB⟩ : ∃ B : ByteArray, (⟨(vl2 spent).toArray⟩ : ByteArray) = B := ⟨_, rfl⟩
  obtain ⟨p1, hp1⟩ : ∃ p, (vline kind step at_ err).length + 1 = p := ⟨_, rfl⟩
  rw [hp1] at HLn1 HLn2 HRest hend
  obtain ⟨p2, hp2⟩ : ∃ p, p1 + (vl2 spent).length + 1 = p := ⟨_, rfl⟩
  rw [hp2] at HLn2 HRest hend
  rw [hA] at HLn1 HNu1 HW0 HWo HWsz
  rw [hB] at HLn2 HNu2
  rw [show (((0 : Nat) : Int)) = 0 from rfl] at HLn1
  unfold lineV at HLn1 HLn2
  simp only at HLn1 HLn2
  clear hA hB hp1 hp2
  obtain ⟨us, hus⟩ : ∃ us, vnums kind step at_ err = us := ⟨_, rfl⟩
  have HUs := Lib.hid hus
  rw [hus] at HNu1 hvl
  clear hus
  go_enter Tryd.func12, Tryd.ntmps12
  have hBa := (Blk.new w #[.int .i64 0, .int .i64 0, .int .i64 0, .int .i64 0, .int .i64 0, .slice none 0 0, .slice none 0 0] 28).alloc (.cells #[.int .i64 0, .int .i64 0, .int .i64 0, .int .i64 0, .int .i64 0, .slice none 0 0, .slice none 0 0] 28)
  have hBb := Blk.new (w.alloc (.cells #[.int .i64 0, .int .i64 0, .int .i64 0, .int .i64 0, .int .i64 0, .slice none 0 0, .slice none 0 0] 28)) #[.int .i64 0, .int .i64 0, .int .i64 0, .int .i64 0, .int .i64 0, .slice none 0 0, .slice none 0 0] 28
  rw [World.size_alloc] at hBb
  have q := ((Kp.refl (fun _ => False) w).alloc (.cells #[.int .i64 0, .int .i64 0, .int .i64 0, .int .i64 0, .int .i64 0, .slice none 0 0, .slice none 0 0] 28)).alloc (.cells #[.int .i64 0, .int .i64 0, .int .i64 0, .int .i64 0, .int .i64 0, .slice none 0 0, .slice none 0 0] 28)
  go_wp2_with fail
  refine (HLn1.out _).mono ?_
  rintro e w' ⟨rfl, hw⟩
  subst hw
  obtain ⟨W1, hW1⟩ : ∃ W1, (w.alloc (.cells #[.int .i64 0, .int .i64 0, .int .i64 0, .int .i64 0, .int .i64 0, .slice none 0 0, .slice none 0 0] 28)).alloc (.cells #[.int .i64 0, .int .i64 0, .int .i64 0, .int .i64 0, .int .i64 0, .slice none 0 0, .slice none 0 0] 28) = W1 := ⟨_, rfl⟩
  rw [hW1] at hBa hBb q ⊢
  have HBa := Lib.hid hBa
  have HBb := Lib.hid hBb
  have HQ := Lib.hid q
  clear hBa hBb q hW1
  go_wp2_with fail
  refine (HLn2.out _).mono ?_
  rintro e w' ⟨rfl, hw⟩
  subst hw
  go_wp2_with fail
  refine (HNu1.out _ (HM.out.kp HQ.out)).mono ?_
  rintro e w2 ⟨v1, rfl, hO1, hK1⟩
  have HQ2 := Lib.hid (HQ.out.trans hK1 (fun _ _ h => h))
  have HBa2 := Lib.hid (HBa.out.kp hK1 (fun h => h))
  have HBb2 := Lib.hid (HBb.out.kp hK1 (fun h => h))
  have HO1 := Lib.hid hO1
  clear hK1 hO1 HBa HBb HQ
  go_wp2_with fail
  refine (HNu2.out _ (HM.out.kp HQ2.out)).mono ?_
  rintro e w3 ⟨v2, rfl, hO2, hK2⟩
  have HQ3 := Lib.hid (HQ2.out.trans hK2 (fun _ _ h => h))
  have HBa3 := Lib.hid (HBa2.out.kp hK2 (fun h => h))
  have HBb3 := Lib.hid (HBb2.out.kp hK2 (fun h => h))
  have HO13 := Lib.hid (HO1.out.kp hK2 (fun _ _ h => h))
  obtain ⟨g2', c2', rfl, q1, q2⟩ := hO2.leads (by simp [uints])
  have s0 := hO2.cell (j := 0) (u := .int .i64 spent) (by simp [uints])
  have hwc := fun k (hk : k < 6) => HWd.out.kp HQ3.out k hk
  have x0 := hwc 0 (by omega)
  have x1 := hwc 1 (by omega)
  have x2 := hwc 2 (by omega)
  have x3 := hwc 3 (by omega)
  have x4 := hwc 4 (by omega)
  have x5 := hwc 5 (by omega)
  have lt0 : (0 : Nat) < w3.heap.size := World.block_lt_of_cell? w3 _ x0
  simp only [show (uints [spent]).length = 1 by simp [uints]]
  clear hK2 hO2 HBa2 HBb2 HQ2 HO1 hwc
  go_wp2_with fail
  have HBa4 := Lib.hid (HBa3.out.alloc (.cells #[.int .i64 (-1), .int .i64 0, .int .i64 spent, .int .i64 0, .int .i64 0, .slice none 0 0, .slice none 0 0] 28))
  have HBb4 := Lib.hid (HBb3.out.alloc (.cells #[.int .i64 (-1), .int .i64 0, .int .i64 spent, .int .i64 0, .int .i64 0, .slice none 0 0, .slice none 0 0] 28))
  have HO14 := Lib.hid (HO13.out.alloc (.cells #[.int .i64 (-1), .int .i64 0, .int .i64 spent, .int .i64 0, .int .i64 0, .slice none 0 0, .slice none 0 0] 28))
  have HQ4 := Lib.hid (HQ3.out.alloc (.cells #[.int .i64 (-1), .int .i64 0, .int .i64 spent, .int .i64 0, .int .i64 0, .slice none 0 0, .slice none 0 0] 28))
  have HBv := Lib.hid (Blk.new w3 #[.int .i64 (-1), .int .i64 0, .int .i64 spent, .int .i64 0, .int .i64 0, .slice none 0 0, .slice none 0 0] 28)
  have hOlt := HO13.out.lt
  have hblt := HBb3.out.lt
  obtain ⟨bv, hbv⟩ : ∃ b, w3.heap.size = b := ⟨_, rfl⟩
  obtain ⟨W4, hW4⟩ : ∃ W4, w3.alloc (.cells #[.int .i64 (-1), .int .i64 0, .int .i64 spent, .int .i64 0, .int .i64 0, .slice none 0 0, .slice none 0 0] 28) = W4 := ⟨_, rfl⟩
  rw [hbv] at HBv hOlt hblt ⊢
  rw [hW4] at HBa4 HBb4 HO14 HQ4 HBv ⊢
  have HOlt := Lib.hid hOlt
  clear hbv hW4 hOlt HBa3 HBb3 HO13 HQ3 s0 x0 x1 x2 x3 x4 x5 lt0
  have hdx := fun (k : Nat) (hk : k < 6) => idx6 k hk ⟨(vword 0).toArray⟩ ⟨(vword 1).toArray⟩ ⟨(vword 2).toArray⟩ ⟨(vword 3).toArray⟩ ⟨(vword 4).toArray⟩ ⟨(vword 5).toArray⟩ (by
    intro i hi
    match i, hi with
    | 0, _ => rfl
    | 1, _ => rfl
    | 2, _ => rfl
    | 3, _ => rfl
    | 4, _ => rfl
    | 5, _ => rfl)
  have HDx := Lib.hid hdx
  clear hdx
  go_loopw [83] (fun v83 wr => ∃ k : Nat, v83 = .int .i64 k ∧ k ≤ 6 ∧ Blk wr bv #[.int .i64 (if kind < k then (kind : Int) else -1), .int .i64 0, .int .i64 spent, .int .i64 0, .int .i64 0, .slice none 0 0, .slice none 0 0] 28 ∧ Kp (fun j => j = bv) W4 wr) (fun v83 _ => 6 - (intOf v83).toNat)
  case atStart => exact ⟨0, rfl, by omega, HBv.out, Kp.refl _ _⟩
  case round =>
    obtain ⟨k, rfl, hk, hB, hK⟩ := hrel
    have HB := Lib.hid hB; clear hB
    have HK := Lib.hid hK; clear hK
    have HQr := Lib.hid (show Kp (fun _ => False) w wr from HQ4.out.trans HK.out (fun j h e => by omega))
    by_cases hlt : k < 6
    · have dd : decide ((k : Int) < 6) = true := decide_eq_true (by omega)
      have i0 : (0 : Int) ≤ (k : Int) := by omega
      have i1 : (k : Int) < 6 := by omega
      have hdk := HDx.out k hlt wr
      go_wp2_with fail
      obtain ⟨m, hm'⟩ := HM.out.kp HQr.out
      refine (HWo.out m wr hm').mono ?_
      rintro e wt ⟨vw, rfl, hOw, hKw⟩
      clear hm'
      obtain ⟨gw, cw, rfl, gl1, gl2⟩ := hOw.leads (by simp only [strs, List.length_map]; have := HWsz.out; omega)
      have sw := hOw.cell (j := 0) (u := .string (wordF kind)) (by simp only [strs, List.getElem?_map, HW0.out]; rfl)
      have gp : (0 : Int) < ((strs (wordsB A)).length : Int) := by simp only [strs, List.length_map]; have := HWsz.out; omega
      obtain ⟨nw, hnw⟩ : ∃ n, (strs (wordsB A)).length = n := ⟨_, rfl⟩
      rw [hnw] at gp hOw ⊢
      clear hnw hOw gl1 gl2
      have HBt := Lib.hid (HB.out.kp hKw (fun h => h))
      have HKt := Lib.hid (HK.out.trans hKw (fun _ _ h => h.elim))
      have c0 := HBt.out.cell (i := 0) rfl
      have f0 := HBt.out.free 0
      clear hKw HB HK HQr
      have qe := wordF_eq k kind hlt (by omega)
      by_cases kk : k = kind
      · rw [decide_eq_true kk] at qe
        go_wp2_with fail
        go_roundw
        case rel =>
          refine ⟨k + 1, by go_num, by omega, ?_, HKt.out.setCell (p := ⟨bv, 0, none⟩) (fun _ => rfl) _⟩
          rw [if_pos (by omega)]
          subst kk
          exact HBt.out.set_same 0 (.int .i64 k)
        case measure => simp [intOf]; omega
      · rw [decide_eq_false kk] at qe
        go_wp2_with fail
        go_roundw
        case rel =>
          refine ⟨k + 1, by go_num, by omega, ?_, HKt.out⟩
          rw [show (if kind < k + 1 then (kind : Int) else -1) = if kind < k then (kind : Int) else -1 by
            by_cases h : kind < k
            · rw [if_pos h, if_pos (by omega)]
            · rw [if_neg h, if_neg (by omega)]]
          exact HBt.out
        case measure => simp [intOf]; omega
    · have dd : decide ((k : Int) < 6) = false := decide_eq_false (by omega)
      obtain rfl : k = 6 := by omega
      rw [if_pos (by omega)] at HB
      clear HDx HWo HW0 HWsz HNu1 HNu2 HLn1 HLn2 hlt hk
      have HOr := Lib.hid (HO14.out.kp HK.out (fun j h e => by have := (HOlt.out j h).2; omega))
      have HBar := Lib.hid (HBa4.out.kp HK.out (by omega))
      have HBbr := Lib.hid (HBb4.out.kp HK.out (by omega))
      clear HK HO14 HBa4 HBb4 HBv
      go_upto_block 2 with (fail)
      obtain ⟨wa, rfl⟩ : ∃ wa : World, wa = wr := ⟨_, rfl⟩
      go_cut [96] (fun _ wx => Kp (fun j => j = bv) wa wx ∧ Blk wx bv #[.int .i64 kind, .int .i64 step, .int .i64 spent, .int .i64 at_, .int .i64 err, .slice none 0 0, .slice none 0 0] 28)
      case first =>
        have b0 := HB.out.cell (i := 0) rfl
        have hU := HUs.out
        unfold vnums at hU
        have hG := HG.out
        by_cases k0 : kind = 0
        · have hstep := (hG.z0 k0).2
          have herr := (hG.z0 k0).1
          have herr2 := hG.herr
          rw [if_pos (by omega)] at hU
          subst hU k0 hstep
          clear hG HUs
          have bq : ((((0 : Nat) : Int)) == 0) = true := rfl
          obtain ⟨g, c, rfl, gl1, gl2⟩ := HOr.out.leads (by simp [uints])
          have hl := HOlt.out g rfl
          have s0 := HOr.out.cell (j := 0) (u := .int .i64 err) (by simp [uints])
          have s1 := HOr.out.cell (j := 1) (u := .int .i64 at_) (by simp [uints])
          simp only [show (uints [err, at_]).length = 2 by simp [uints]] at *
          have d1 : decide ((err : Int) ≥ 1) = true := decide_eq_true (by omega)
          have d2 : decide ((err : Int) ≤ 11) = true := decide_eq_true (by omega)
          have d3 : decide ((1 : Int) ≤ (err : Int)) = true := decide_eq_true (by omega)
          have hO4 := HOr.out.set_other (p := ⟨bv, 4, none⟩) (fun j hj => by have := (HOlt.out j hj).2; simp only; omega) (.int .i64 err)
          have hB4 := HB.out.set_same 4 (.int .i64 err)
          have hE : Kp (fun j => j = bv) wa ((wa.setCell ⟨bv, 4, none⟩ (.int .i64 err)).setCell ⟨bv, 3, none⟩ (.int .i64 at_)) :=
            ((Kp.refl (fun j => j = bv) wa).setCell (p := ⟨bv, 4, none⟩) (fun _ => rfl) _).setCell (p := ⟨bv, 3, none⟩) (fun _ => rfl) _
          have hBE : Blk ((wa.setCell ⟨bv, 4, none⟩ (.int .i64 err)).setCell ⟨bv, 3, none⟩ (.int .i64 at_)) bv #[.int .i64 ((0 : Nat) : Int), .int .i64 ((0 : Nat) : Int), .int .i64 spent, .int .i64 at_, .int .i64 err, .slice none 0 0, .slice none 0 0] 28 := hB4.set_same 3 (.int .i64 at_)
          have HE := Lib.hid hE
          have HBE := Lib.hid hBE
          have b4 := HB.out.cell (i := 4) rfl
          have f4 := HB.out.free 4
          have b34 := hB4.cell (i := 3) rfl
          have f34 := hB4.free 3
          have s14 := hO4.cell (j := 1) (u := .int .i64 at_) (by simp [uints])
          have z4 := hO4.cell (j := 0) (u := .int .i64 err) (by simp [uints])
          clear hE hBE hO4 hB4
          go_wp2_with fail
          go_region
          all_goals go_wp2_with fail
          all_goals go_meet
          all_goals first | exact ⟨HE.out, HBE.out⟩ | exact ⟨HE.out.drew, HBE.out.drew⟩
        · by_cases k1 : kind = 1
          · rw [if_neg (by omega), if_pos (by omega)] at hU
            have hstep := hG.z1 k1
            obtain ⟨hat, herr⟩ := hG.n0 k0
            subst hU k1 hstep hat herr
            clear hG HUs
            obtain ⟨av, cv, rfl, -⟩ := HOr.out.form
            simp only [show (uints []).length = 0 by simp [uints]] at *
            have q0 : ((((1 : Nat) : Int)) == 0) = false := rfl
            have q1 : decide ((((1 : Nat) : Int)) > 1) = false := rfl
            have q2 : ((((1 : Nat) : Int)) != 1) = false := rfl
            go_wp2_with fail
            go_meet
            case rel => exact ⟨Kp.refl _ _, HB.out⟩
          · rw [if_neg (by omega), if_neg (by omega)] at hU
            obtain ⟨hat, herr⟩ := hG.n0 k0
            subst hU hat herr
            clear hG HUs
            obtain ⟨g, c, rfl, gl1, gl2⟩ := HOr.out.leads (by simp [uints])
            have s0 := HOr.out.cell (j := 0) (u := .int .i64 step) (by simp [uints])
            simp only [show (uints [step]).length = 1 by simp [uints]] at *
            have q0 : ((kind : Int) == 0) = false := by simp; omega
            have q1 : decide ((kind : Int) > 1) = true := decide_eq_true (by omega)
            have q2 : decide ((1 : Int) < (kind : Int)) = true := decide_eq_true (by omega)
            have b1 := HB.out.cell (i := 1) rfl
            have f1 := HB.out.free 1
            go_wp2_with fail
            go_meet
            case rel => exact ⟨(Kp.refl (fun j => j = bv) _).setCell (p := ⟨bv, 1, none⟩) (fun _ => rfl) _, HB.out.set_same 1 (.int .i64 step)⟩
      case rest =>
        obtain ⟨hq, hb⟩ := hcut
        have HQc := Lib.hid (show Kp (fun _ => False) w wc from HQr.out.trans hq (fun j h e => by omega))
        have HOc := Lib.hid (HOr.out.kp hq (fun j h e => by have := (HOlt.out j h).2; omega))
        have HBac := Lib.hid (HBar.out.kp hq (by omega))
        have HBbc := Lib.hid (HBbr.out.kp hq (by omega))
        have HBc := Lib.hid hb
        clear hq hb HQr HOr HBar HBbr HB
        have c0 := HBc.out.cell (i := 0) rfl
        go_upto_if 150 with (fail)
        obtain ⟨wb, rfl⟩ : ∃ wb : World, wb = wc := ⟨_, rfl⟩
        go_cut [21] (fun v21 wx => ∃ v5 v6, v21 = .int .i64 (prop : Int) ∧ Kp (fun j => j = bv) wb wx ∧ Blk wx bv #[.int .i64 kind, .int .i64 step, .int .i64 spent, .int .i64 at_, .int .i64 err, v5, v6] 28 ∧ ∃ n rows, bv < n ∧ Own wx n 4 v5 (start.map Value.bool) ∧ OwnRows wx n v6 rows ins)
        case first =>
          have hG := HG.out
          by_cases k2 : kind = 2
          · have q : ((kind : Int) == 2) = true := by subst k2; rfl
            have hR := HRest.out
            rw [if_pos (by omega)] at hR
            have hWt := wit_back hend hR hG.hprop (hG.z2 k2)
            have hsz : (S.extract p2 S.size).size ≤ 100000 := by rw [ByteArray.size_extract]; omega
            have hRd := fun u hu => wit_Read_own (S.extract p2 S.size) la inp u hsz hu (by omega) (by omega)
            rw [hWt] at hRd
            unfold WReadQ at hRd
            simp only [WitO.w, WitO.at_, WitO.e] at hRd
            have HRd := Lib.hid hRd
            have i0 : (0 : Int) ≤ (p2 : Int) := by omega
            have i1 : (p2 : Int) ≤ (S.size : Int) := by omega
            clear hRd hWt hR hG hsz
            go_wp2_with fail
            refine (HRd.out _ (HM.out.kp HQc.out)).mono ?_
            rintro e wd ⟨⟨v5, v6, rows, rfl, h5, h6⟩, hK⟩
            have hbw := HBc.out.lt
            obtain ⟨nq, hnq⟩ : ∃ n, wb.heap.size = n := ⟨_, rfl⟩
            rw [hnq] at h5 h6 hbw
            obtain ⟨p5, c5, rfl, -⟩ := h5.form
            obtain ⟨p6, c6, rfl, -⟩ := h6.own.form
            obtain ⟨n5, hn5⟩ : ∃ n, (start.map Value.bool).length = n := ⟨_, rfl⟩
            obtain ⟨n6, hn6⟩ : ∃ n, rows.length = n := ⟨_, rfl⟩
            rw [hn5] at h5 ⊢
            rw [hn6] at h6 ⊢
            have HBd := Lib.hid (HBc.out.kp hK (fun h => h))
            have HKd := Lib.hid hK
            have H5 := Lib.hid h5
            have H6 := Lib.hid h6
            have Hbw := Lib.hid hbw
            clear hK h5 h6 hnq hbw HQc HOc HBac HBbc HBc c0 i0 i1 hend hvl HRest HRd HUs hk5 HOlt hblt hn5 hn6
            go_upto_region 27 with (fail)
            have hBq := Blk.new wd #[.int .i64 1, .int .i64 prop, .slice p5 n5 c5, .slice p6 n6 c6] 34
            have hB5 := HBd.out.alloc (.cells #[.int .i64 1, .int .i64 prop, .slice p5 n5 c5, .slice p6 n6 c6] 34)
            have hO5 := H5.out.kpS ((Kp.refl (fun _ => False) wd).alloc (.cells #[.int .i64 1, .int .i64 prop, .slice p5 n5 c5, .slice p6 n6 c6] 34)) (fun _ h => h.elim)
            have hO6 := H6.out.kpS ((Kp.refl (fun _ => False) wd).alloc (.cells #[.int .i64 1, .int .i64 prop, .slice p5 n5 c5, .slice p6 n6 c6] 34)) (fun _ h => h.elim)
            have hK5 := ((HKd.out.alloc (.cells #[.int .i64 1, .int .i64 prop, .slice p5 n5 c5, .slice p6 n6 c6] 34)).mono (T := fun j => j = bv) (fun _ _ h => h.elim))
            have hne : bv ≠ wd.heap.size := by have := HBd.out.lt; omega
            obtain ⟨bq, hbq⟩ : ∃ b, wd.heap.size = b := ⟨_, rfl⟩
            obtain ⟨W5, hW5⟩ : ∃ W5, wd.alloc (.cells #[.int .i64 1, .int .i64 prop, .slice p5 n5 c5, .slice p6 n6 c6] 34) = W5 := ⟨_, rfl⟩
            rw [hW5] at hBq hB5 hO5 hO6 hK5 ⊢
            rw [hbq] at hBq hne ⊢
            have hE : Kp (fun j => j = bv) W5 ((W5.setCell ⟨bv, 5, none⟩ (.slice p5 n5 c5)).setCell ⟨bv, 6, none⟩ (.slice p6 n6 c6)) :=
              ((Kp.refl (fun j => j = bv) W5).setCell (p := ⟨bv, 5, none⟩) (fun _ => rfl) _).setCell (p := ⟨bv, 6, none⟩) (fun _ => rfl) _
            have hBE : Blk ((W5.setCell ⟨bv, 5, none⟩ (.slice p5 n5 c5)).setCell ⟨bv, 6, none⟩ (.slice p6 n6 c6)) bv #[.int .i64 kind, .int .i64 step, .int .i64 spent, .int .i64 at_, .int .i64 err, .slice p5 n5 c5, .slice p6 n6 c6] 28 :=
              (hB5.set_same 5 (.slice p5 n5 c5)).set_same 6 (.slice p6 n6 c6)
            have HEK := Lib.hid (hK5.trans hE (fun _ _ h => h))
            have HEB := Lib.hid hBE
            have HE5 := Lib.hid (hO5.kpS hE (fun _ h => h ▸ Hbw.out))
            have HE6 := Lib.hid (hO6.kpS hE (fun _ h => h ▸ Hbw.out))
            have HSq := Lib.hid (fun (u : World) (h : Blk u bq #[.int .i64 1, .int .i64 prop, .slice p5 n5 c5, .slice p6 n6 c6] 34) => (⟨h.cell rfl, h.cell rfl, h.cell rfl⟩ : u.cell? ⟨bq, 1, none⟩ = some (.int .i64 prop) ∧ u.cell? ⟨bq, 2, none⟩ = some (.slice p5 n5 c5) ∧ u.cell? ⟨bq, 3, none⟩ = some (.slice p6 n6 c6)))
            have HBq := Lib.hid hBq
            have HBq2 := Lib.hid ((hBq.set_other (p := ⟨bv, 5, none⟩) hne.symm (.slice p5 n5 c5)).set_other (p := ⟨bv, 6, none⟩) hne.symm (.slice p6 n6 c6))
            obtain ⟨b0, b1, b2, b3, b4, b5, b6⟩ := hB5.cells7
            have f5 := hB5.free
            clear hBq hB5 hO5 hO6 hK5 hE hBE hbq hW5 HBd HKd H5 H6 b0 b1 b2 b3 b4
            go_region_held3 (fun u => u.cell? ⟨bq, 1, none⟩ = some (.int .i64 prop) ∧ u.cell? ⟨bq, 2, none⟩ = some (.slice p5 n5 c5) ∧ u.cell? ⟨bq, 3, none⟩ = some (.slice p6 n6 c6)) (first | exact HSq.out _ HBq.out | exact HSq.out _ HBq.out.drew | exact HSq.out _ HBq2.out | exact HSq.out _ HBq2.out.drew) (fail)
            all_goals go_wp2_with fail
            all_goals go_meet
            all_goals first | exact ⟨_, _, rfl, HEK.out, HEB.out, nq, rows, Hbw.out, HE5.out, HE6.out⟩ | exact ⟨_, _, rfl, HEK.out.drew, HEB.out.drew, nq, rows, Hbw.out, HE5.out.kpS (Kp.refl (fun _ => False) _).drew (fun _ h => h.elim), HE6.out.kpS (Kp.refl (fun _ => False) _).drew (fun _ h => h.elim)⟩
          · have q : ((kind : Int) == 2) = false := by simp; omega
            obtain ⟨e1, e2, e3⟩ := hG.n2 k2
            subst e1 e2 e3
            clear hG
            go_wp2_with fail
            go_meet
            case rel => exact ⟨_, _, rfl, Kp.refl _ _, HBc.out, bv + 1, [], Nat.lt_succ_self _, Own.nil _ _ _, ⟨Own.nil _ _ _, rfl, fun i r x h => by cases h⟩⟩
        case rest =>
          obtain ⟨v5, v6, rfl, hq, hb, nq, rows, hnq, ho5, ho6⟩ := hcut
          have hs5 := own_boolsSl ho5
          have hs6 := own_gridSl ho6
          have HQd := Lib.hid (show Kp (fun _ => False) w wc from HQc.out.trans hq (fun j h e => by omega))
          have HBad := Lib.hid (HBac.out.kp hq (by omega))
          have HBd := Lib.hid hb
          have H5 := Lib.hid ho5
          have H6 := Lib.hid ho6
          have Hnq := Lib.hid (show w.heap.size < nq by omega)
          have hG := HG.out
          have hWr := verdict_Write_good kind step spent at_ err prop v5 v6 start ins wc (by omega) (by omega) (by have := hG.hstep; omega) (by have := hG.hspent; omega) (by have := hG.hat; omega) (by have := hG.herr; omega) (by have := hG.hprop; omega) hs5 hs6 hG.sh (HT.out.kp HQd.out) (HWd.out.kp HQd.out)
          rw [show (⟨(vtext kind step spent at_ err prop start ins).toArray⟩ : ByteArray) = S by rw [← HS.out]] at hWr
          have HWr := Lib.hid hWr
          have b0 := hb.cell (i := 0) rfl
          have b1 := hb.cell (i := 1) rfl
          have b2 := hb.cell (i := 2) rfl
          have b3 := hb.cell (i := 3) rfl
          have b4 := hb.cell (i := 4) rfl
          have b5 := hb.cell (i := 5) rfl
          have b6 := hb.cell (i := 6) rfl
          have qS : (S.toList != S.toList) = false := by simp
          clear hWr hG hq hb hs5 hs6 ho5 ho6 hnq HRest HS
          go_wp2_with fail
          refine HWr.out.mono ?_
          rintro e wd ⟨rfl, hK⟩
          have HQe := Lib.hid (HQd.out.trans hK (fun _ _ h => h))
          have HBae := Lib.hid (HBad.out.kp hK (fun h => h))
          have HBe := Lib.hid (HBd.out.kp hK (fun h => h))
          have H5e := Lib.hid (H5.out.kpS hK (fun _ h => h.elim))
          have H6e := Lib.hid (H6.out.kpS hK (fun _ h => h.elim))
          clear hK b0 b1 b2 b3 b4 b5 b6
          obtain ⟨p5, c5, rfl, -⟩ := H5e.out.form
          obtain ⟨p6, c6, rfl, -⟩ := H6e.out.own.form
          obtain ⟨n5, hn5⟩ : ∃ n, (start.map Value.bool).length = n := ⟨_, rfl⟩
          obtain ⟨n6, hn6⟩ : ∃ n, rows.length = n := ⟨_, rfl⟩
          rw [hn5] at H5e HBe
          rw [hn6] at H6e HBe
          clear HQd HBad HBd H5 H6 HG HT HM HWd HUs hk5 g1 g2 hend hvl HOlt hblt HQc HOc HBac HBbc HBc c0 HWr hn5 hn6
          have HEq := Lib.hid (HBae.out.set7 (.int .i64 kind) (.int .i64 step) (.int .i64 spent) (.int .i64 at_) (.int .i64 err) (.slice p5 n5 c5) (.slice p6 n6 c6))
          have HEk := Lib.hid ((HQe.out.set7 (b := w.heap.size) (fun h => absurd h (Nat.lt_irrefl _)) (.int .i64 kind) (.int .i64 step) (.int .i64 spent) (.int .i64 at_) (.int .i64 err) (.slice p5 n5 c5) (.slice p6 n6 c6)))
          have HEk2 := Lib.hid (((Kp.refl (fun j => j = w.heap.size) wd).set7 (b := w.heap.size) (fun _ => rfl) (.int .i64 kind) (.int .i64 step) (.int .i64 spent) (.int .i64 at_) (.int .i64 err) (.slice p5 n5 c5) (.slice p6 n6 c6)))
          go_upto_region 30 with (fail)
          obtain ⟨b0, b1, b2, b3, b4, b5, b6⟩ := HBe.out.cells7
          obtain ⟨a0, a1, a2, a3, a4, a5, a6⟩ := HBae.out.cells7
          have f0 := HBae.out.free
          go_wp2_with fail
          obtain ⟨d0, d1, d2, d3, d4, d5, d6⟩ := HEq.out.cells7
          exact bodyPost_ret (v := .tuple #[.agg #[.int .i64 kind, .int .i64 step, .int .i64 spent, .int .i64 at_, .int .i64 err, .slice p5 n5 c5, .slice p6 n6 c6], .int .i64 prop, .int .i64 0]) (by simp [results, Tryd.results12, go_sem, d0, d1, d2, d3, d4, d5, d6]) rfl
            ⟨⟨_, _, rows, rfl, (H5e.out.kpS HEk2.out (fun _ h => h ▸ Hnq.out)).mono (Nat.le_of_lt Hnq.out), (H6e.out.kpS HEk2.out (fun _ h => h ▸ Hnq.out)).mono (Nat.le_of_lt Hnq.out)⟩, HEk.out⟩

theorem verdict_Read_good (S : ByteArray) (kind step spent at_ err prop : Nat) (start : List Bool) (ins : List (List Bool)) (la inp : Nat) (w : World) (hG : VGood kind step spent at_ err prop start ins la inp)
    (hS : S.data.toList = vtext kind step spent at_ err prop start ins) (hz : S.size ≤ 100000) (ht : Tab w) (hm : ML w) (hwd : Wds w) :
    Calls Tryd.prog 12 #[.string S, .int .i64 la, .int .i64 inp] w fun e w' =>
      (∃ v2 v3, e = .returned (.tuple #[.agg #[.int .i64 kind, .int .i64 step, .int .i64 spent, .int .i64 at_, .int .i64 err, v2, v3], .int .i64 prop, .int .i64 0]) ∧ BoolsSl w' v2 start ∧ GridSl w' v3 ins) ∧ Kp (fun _ => False) w w' :=
  (verdict_Read_own S kind step spent at_ err prop start ins la inp w hG hS hz ht hm hwd).mono fun _ _ ⟨⟨v2, v3, _, e, h2, h3⟩, hk⟩ => ⟨⟨v2, v3, e, own_boolsSl h2, own_gridSl h3⟩, hk⟩

end Go.Proofs.YtkgmiclmpfahlaaDoor

/-
  latchetref40.Same of equal verdicts; latchetlaw40.lives.
-/
namespace Go.Proofs.YtkgmiclmpfahlaaDoor
open Go.RowKit

set_option maxRecDepth 100000 in
set_option maxHeartbeats 4000000 in
theorem ref40_Same (kind step spent at_ err : Int) (v5 v6 x5 x6 : Value) (start : List Bool) (ins : List (List Bool)) (w : World) (h5 : BoolsSl w v5 start) (h6 : GridSl w v6 ins) (k5 : BoolsSl w x5 start) (k6 : GridSl w x6 ins) (hn : ins.length ≤ 1000000) :
    Calls Tryd.prog 13 #[.agg #[.int .i64 kind, .int .i64 step, .int .i64 spent, .int .i64 at_, .int .i64 err, v5, v6], .agg #[.int .i64 kind, .int .i64 step, .int .i64 spent, .int .i64 at_, .int .i64 err, x5, x6]] w
      fun e w' => e = .returned (.bool true) ∧ Kp (fun _ => False) w w' := by
  have q := ((Kp.refl (fun _ => False) w).alloc (.cells #[.int .i64 kind, .int .i64 step, .int .i64 spent, .int .i64 at_, .int .i64 err, v5, v6] 28)).alloc (.cells #[.int .i64 kind, .int .i64 step, .int .i64 spent, .int .i64 at_, .int .i64 err, x5, x6] 28)
  have hB1 := (Blk.new w #[.int .i64 kind, .int .i64 step, .int .i64 spent, .int .i64 at_, .int .i64 err, v5, v6] 28).alloc (.cells #[.int .i64 kind, .int .i64 step, .int .i64 spent, .int .i64 at_, .int .i64 err, x5, x6] 28)
  have hB2 := Blk.new (w.alloc (.cells #[.int .i64 kind, .int .i64 step, .int .i64 spent, .int .i64 at_, .int .i64 err, v5, v6] 28)) #[.int .i64 kind, .int .i64 step, .int .i64 spent, .int .i64 at_, .int .i64 err, x5, x6] 28
  rw [World.size_alloc] at hB2
  have HS := Lib.hid (ref18_SameI 0 0 v5 v6 x5 x6 start ins _ (h5.kp q) (h6.kp q) (k5.kp q) (k6.kp q) hn)
  obtain ⟨a5, c5, rfl, -⟩ := h5
  obtain ⟨a6, c6, rfl, -⟩ := h6
  obtain ⟨b5, d5, rfl, -⟩ := k5
  obtain ⟨b6, d6, rfl, -⟩ := k6
  obtain ⟨W1, hW1⟩ : ∃ W1, (w.alloc (.cells #[.int .i64 kind, .int .i64 step, .int .i64 spent, .int .i64 at_, .int .i64 err, .slice a5 start.length c5, .slice a6 ins.length c6] 28)).alloc (.cells #[.int .i64 kind, .int .i64 step, .int .i64 spent, .int .i64 at_, .int .i64 err, .slice b5 start.length d5, .slice b6 ins.length d6] 28) = W1 := ⟨_, rfl⟩
  rw [hW1] at hB1 hB2 q HS
  have HQ := Lib.hid q
  have e1 : (kind == kind) = true := by simp
  have e2 : (step == step) = true := by simp
  have e3 : (spent == spent) = true := by simp
  have e4 : (at_ == at_) = true := by simp
  have e5 : (err == err) = true := by simp
  obtain ⟨k0, k1, k2, k3, k4, k5, k6⟩ := hB1.cells7
  obtain ⟨m0, m1, m2, m3, m4, m5, m6⟩ := hB2.cells7
  clear q hB1 hB2 hn
  go_enter Tryd.func13, Tryd.ntmps13
  go_wp2_with fail
  refine HS.out.mono ?_
  rintro e w' ⟨rfl, hK⟩
  have HK := Lib.hid (HQ.out.trans hK (fun _ _ h => h))
  clear hK
  go_wp2_with fail
  go_ret
  exact ⟨rfl, HK.out⟩

def vlText : ByteArray := ⟨#[115, 97, 102, 101, 32, 51, 10, 115, 112, 101, 110, 116, 32, 49, 50, 10]⟩

theorem vl_good : VGood 3 3 12 0 0 0 [] [] 1 1 where
  hk := by omega
  hstep := by omega
  hspent := by omega
  hat := by omega
  herr := by omega
  hprop := by omega
  z0 := by omega
  n0 := by omega
  z1 := by omega
  z2 := by omega
  n2 := fun _ => ⟨rfl, rfl, rfl⟩
  sh := ⟨by simp, by simp, by simp⟩

set_option maxRecDepth 100000 in
set_option maxHeartbeats 4000000 in
theorem verdict_lives (w : World) (ht : Tab w) (hm : ML w) (hwd : Wds w) : Calls Tryd.prog 6 #[] w fun e w' => e = .returned (.bool true) ∧ Kp (fun _ => False) w w' := by
  have HRd := Lib.hid (verdict_Read_good vlText 3 3 12 0 0 0 [] [] 1 1 w vl_good (by decide +kernel) (by decide) ht hm hwd)
  rw [show (((3 : Nat)) : Int) = 3 from rfl, show (((12 : Nat)) : Int) = 12 from rfl, show (((0 : Nat)) : Int) = 0 from rfl, show (((1 : Nat)) : Int) = 1 from rfl] at HRd
  unfold vlText at HRd
  clear ht hm hwd
  go_enter Tryd.func6, Tryd.ntmps6
  go_wp2_with fail
  refine HRd.out.mono ?_
  rintro e w2 ⟨⟨v2, v3, rfl, h5, h6⟩, hK⟩
  have h5' := h5
  have h6' := h6
  obtain ⟨a2, c2, rfl, -⟩ := h5'
  obtain ⟨a3, c3, rfl, -⟩ := h6'
  have q := (Kp.refl (fun _ => False) w2).alloc (.cells #[.int .i64 3, .int .i64 3, .int .i64 12, .int .i64 0, .int .i64 0, .slice a2 0 c2, .slice a3 0 c3] 28)
  have HSm := Lib.hid (ref40_Same 3 3 12 0 0 (.slice a2 0 c2) (.slice a3 0 c3) (.slice none 0 0) (.slice none 0 0) [] [] _ (h5.kp q) (h6.kp q) ⟨none, 0, rfl, by simp, by simp [maxLen], fun _ => rfl, RowAt.nil _ _⟩ ⟨none, 0, rfl, by simp, by simp [maxLen], fun _ => rfl, ⟨[], RowAt.nil _ _, rfl, fun i r x h => by simp at h⟩⟩ (by simp))
  have HQ := Lib.hid (hK.trans q (fun _ _ h => h))
  simp only [List.length_nil] at h5 h6 ⊢
  clear h5 h6 q hK
  go_wp2_with fail
  refine HSm.out.mono ?_
  rintro e w3 ⟨rfl, hK3⟩
  have HK3 := Lib.hid (HQ.out.trans hK3 (fun _ _ h => h))
  clear hK3
  go_wp2_with fail
  go_ret
  exact ⟨rfl, HK3.out⟩

end Go.Proofs.YtkgmiclmpfahlaaDoor

/-
  How a witness that came in is opened.
-/
namespace Go.Proofs.YtkgmiclmpfahlaaDoor
open Go.RowKit Go.ChangeShapes Go.WideShapes Go.ChangeAt Go.Joins Go.Deep

theorem spot_none {W : World} {a : Addr} {u : Value} (h : W.cell? a = some u) : ∃ b off, a = ⟨b, off, none⟩ := by
  have hs : a.spot = none := World.cell?_spot h
  obtain ⟨b, off, spot⟩ := a
  simp only at hs
  subst hs
  exact ⟨b, off, rfl⟩

theorem rowAt_fn {W : World} {a : Addr} {n m : Nat} {B : Nat → Bool} (hn : n ≤ m) (hc : ∀ c, c < m → W.cell? (a.add c) = some (.bool (B c))) : RowAt W (some a) (((List.range n).map B).map Value.bool) := by
  intro j u hu
  rw [List.getElem?_map, List.getElem?_map] at hu
  have hj : j < n := by
    rcases Nat.lt_or_ge j n with h | h
    · exact h
    · rw [List.getElem?_eq_none (by simpa using h)] at hu; cases hu
  rw [List.getElem?_range hj] at hu
  simp only [Option.map_some, Option.some.injEq] at hu
  have h0 := hc 0 (by omega)
  obtain ⟨b, off, e⟩ := spot_none h0
  have e' : a = ⟨b, off, none⟩ := by simpa [Addr.add] using e
  subst e'
  refine ⟨b, off, rfl, ?_⟩
  have hj' := hc j (by omega)
  rw [add_plain'] at hj'
  rw [hj', hu]

set_option maxRecDepth 100000 in
theorem bools_in {H : Type} {enc : TypeId × Value → H} {W : World} {fuel : Nat} {v : Value} {x : DataW H × List MemPlace}
    (h : DataW.trod enc Tryd.prog W 0 (fun _ => true) true fuel 23 [v] = some x) : ∃ l : List Bool, BoolsSl W v l := by
  rcases open_bools Tryd.underlying23 Tryd.underlying4 (by kernel_rfl) h with ⟨hcs, _⟩ | ⟨a, len, cap, B, hcs, _, hl, hm, _, hcell⟩
  · simp at hcs
    subst hcs
    exact ⟨[], none, 0, rfl, Nat.le_refl _, by simp [maxLen], fun _ => rfl, RowAt.nil _ _⟩
  · simp at hcs
    subst hcs
    exact ⟨(List.range len).map B, some a, cap, by simp, by simpa using hl, hm, (fun h => by cases h), rowAt_fn hl hcell⟩

set_option maxRecDepth 100000 in
theorem grid_in {H : Type} {enc : TypeId × Value → H} {W : World} {fuel : Nat} {v : Value} {x : DataW H × List MemPlace}
    (h : DataW.trod enc Tryd.prog W 0 (fun _ => true) true fuel 24 [v] = some x) : ∃ L : List (List Bool), GridSl W v L := by
  rcases open_bool_rows Tryd.underlying24 Tryd.underlying23 Tryd.underlying4 (by kernel_rfl) (by kernel_rfl) h with ⟨hcs, _⟩ | ⟨a, len, cap, A, L, C, B, hcs, _, hl, hm, _, hx⟩
  · simp at hcs
    subst hcs
    exact ⟨[], none, 0, rfl, Nat.le_refl _, by simp [maxLen], fun _ => rfl, [], RowAt.nil _ _, rfl, fun k r x hr => by simp at hr⟩
  · simp at hcs
    subst hcs
    refine ⟨(List.range len).map (fun r => (List.range (L r)).map (B r)), some a, cap, by simp, by simpa using hl, hm, (fun h => by cases h), (List.range len).map (fun r => .slice (A r) (L r) (C r)), ?_, by simp, ?_⟩
    · intro j u hu
      rw [List.getElem?_map] at hu
      have hj : j < len := by
        rcases Nat.lt_or_ge j len with h | h
        · exact h
        · rw [List.getElem?_eq_none (by simpa using h)] at hu; cases hu
      rw [List.getElem?_range hj] at hu
      simp only [Option.map_some, Option.some.injEq] at hu
      have h0 := (hx 0 (by omega)).1
      obtain ⟨b, off, e⟩ := spot_none h0
      have e' : a = ⟨b, off, none⟩ := by simpa [Addr.add] using e
      subst e'
      refine ⟨b, off, rfl, ?_⟩
      have hj' := (hx j (by omega)).1
      rw [add_plain'] at hj'
      rw [hj', hu]
    · intro k r x hr hx2
      rw [List.getElem?_map] at hr hx2
      have hk : k < len := by
        rcases Nat.lt_or_ge k len with h | h
        · exact h
        · rw [List.getElem?_eq_none (by simpa using h)] at hr; cases hr
      rw [List.getElem?_range hk] at hr hx2
      simp only [Option.map_some, Option.some.injEq] at hr hx2
      subst hr hx2
      obtain ⟨_, q1, q2, q3, q4⟩ := hx k (by omega)
      refine ⟨A k, C k, by simp, by simpa using q1, q2, q3, ?_⟩
      cases hA : A k with
      | none =>
        have : L k = 0 := by have := q3 hA; omega
        rw [this]
        exact RowAt.nil _ _
      | some a' => exact rowAt_fn q1 (q4 a' hA).2

/-- a witness that came in -/
def WitArg (W : World) (v : Value) : Prop := ∃ (kind prop : Int) (v2 v3 : Value) (start : List Bool) (ins : List (List Bool)), v = .agg #[.int .i64 kind, .int .i64 prop, v2, v3] ∧ prop ≤ 9223372036854775807 ∧ BoolsSl W v2 start ∧ GridSl W v3 ins

theorem wit_cells : Tryd.prog.cellsOf 34 = 4 := by kernel_rfl
theorem run_cells : Tryd.prog.cellsOf 26 = 2 := by kernel_rfl
theorem int_cells : Tryd.prog.cellsOf 3 = 1 := by kernel_rfl
theorem bools_cells : Tryd.prog.cellsOf 23 = 1 := by kernel_rfl
theorem grid_cells : Tryd.prog.cellsOf 24 = 1 := by kernel_rfl

set_option maxRecDepth 100000 in
theorem open_witArg {H : Type} {enc : TypeId × Value → H} {W : World} {base : Nat} {v : Value} {d : DataW H} {ps : List MemPlace}
    (hv : Value.okWide Tryd.prog W .any base 34 v) (h : DataW.Trod enc Tryd.prog W 0 (fun _ => true) true 34 v d ps) : WitArg W v := by
  obtain ⟨cs, rfl, hsz⟩ := okWide_struct Tryd.underlying34 hv
  obtain ⟨l⟩ := cs
  match l, hsz.trans wit_cells with
  | [c0, c1, c2, c3], _ =>
    obtain ⟨fuel, hf⟩ := h
    obtain ⟨xs, n, _, _, _, hlen, hg⟩ := DataW.trod_struct Tryd.underlying34 hf
    have g0 : DataW.trod enc Tryd.prog W 0 (fun _ => true) true n 3 [c0] = xs[0]? := by simpa [Value.cells, int_cells, run_cells] using hg 0 _ rfl
    have g1 : DataW.trod enc Tryd.prog W 0 (fun _ => true) true n 3 [c1] = xs[1]? := by simpa [Value.cells, int_cells, run_cells] using hg 1 _ rfl
    have g2 : DataW.trod enc Tryd.prog W 0 (fun _ => true) true n 26 [c2, c3] = xs[2]? := by simpa [Value.cells, int_cells, run_cells] using hg 2 _ rfl
    match xs, hlen with
    | [y0, y1, y2], _ =>
      obtain ⟨x0, e0, _, _⟩ := DataW.trod_int Tryd.underlying3 g0
      obtain ⟨x1, e1, _, w1⟩ := DataW.trod_int Tryd.underlying3 g1
      obtain ⟨ys, m, _, _, _, hlen2, hg2⟩ := DataW.trod_struct Tryd.underlying26 g2
      have g3 : DataW.trod enc Tryd.prog W 0 (fun _ => true) true m 23 [c2] = ys[0]? := by simpa [bools_cells, grid_cells] using hg2 0 _ rfl
      have g4 : DataW.trod enc Tryd.prog W 0 (fun _ => true) true m 24 [c3] = ys[1]? := by simpa [bools_cells, grid_cells] using hg2 1 _ rfl
      match ys, hlen2 with
      | [z0, z1], _ =>
        obtain ⟨start, hs⟩ := bools_in g3
        obtain ⟨ins, hi⟩ := grid_in g4
        simp only [List.cons.injEq, and_true] at e0 e1
        subst e0 e1
        exact ⟨x0, x1, c2, c3, start, ins, rfl, (bounds_i64 w1).2, hs, hi⟩

end Go.Proofs.YtkgmiclmpfahlaaDoor

/-
  How a verdict that came in is opened.
-/
namespace Go.Proofs.YtkgmiclmpfahlaaDoor
open Go.RowKit Go.ChangeShapes Go.WideShapes Go.ChangeAt Go.Joins Go.Deep

def i64 (x : Int) : Prop := -9223372036854775808 ≤ x ∧ x ≤ 9223372036854775807

/-- a verdict that came in -/
def VerArg (W : World) (v : Value) : Prop := ∃ (kind step spent at_ err : Int) (v2 v3 : Value) (start : List Bool) (ins : List (List Bool)),
  v = .agg #[.int .i64 kind, .int .i64 step, .int .i64 spent, .int .i64 at_, .int .i64 err, v2, v3] ∧ i64 step ∧ i64 spent ∧ i64 at_ ∧ i64 err ∧ BoolsSl W v2 start ∧ GridSl W v3 ins

theorem ver_cells : Tryd.prog.cellsOf 28 = 7 := by kernel_rfl
theorem errno_cells : Tryd.prog.cellsOf 22 = 1 := by kernel_rfl

set_option maxRecDepth 100000 in
theorem open_verArg {H : Type} {enc : TypeId × Value → H} {W : World} {base : Nat} {v : Value} {d : DataW H} {ps : List MemPlace}
    (hv : Value.okWide Tryd.prog W .any base 28 v) (h : DataW.Trod enc Tryd.prog W 0 (fun _ => true) true 28 v d ps) : VerArg W v := by
  obtain ⟨cs, rfl, hsz⟩ := okWide_struct Tryd.underlying28 hv
  obtain ⟨l⟩ := cs
  match l, hsz.trans ver_cells with
  | [c0, c1, c2, c3, c4, c5, c6], _ =>
    obtain ⟨fuel, hf⟩ := h
    obtain ⟨xs, n, _, _, _, hlen, hg⟩ := DataW.trod_struct Tryd.underlying28 hf
    have g0 : DataW.trod enc Tryd.prog W 0 (fun _ => true) true n 3 [c0] = xs[0]? := by simpa [Value.cells, int_cells, run_cells, errno_cells] using hg 0 _ rfl
    have g1 : DataW.trod enc Tryd.prog W 0 (fun _ => true) true n 3 [c1] = xs[1]? := by simpa [Value.cells, int_cells, run_cells, errno_cells] using hg 1 _ rfl
    have g2 : DataW.trod enc Tryd.prog W 0 (fun _ => true) true n 3 [c2] = xs[2]? := by simpa [Value.cells, int_cells, run_cells, errno_cells] using hg 2 _ rfl
    have g3 : DataW.trod enc Tryd.prog W 0 (fun _ => true) true n 3 [c3] = xs[3]? := by simpa [Value.cells, int_cells, run_cells, errno_cells] using hg 3 _ rfl
    have g4 : DataW.trod enc Tryd.prog W 0 (fun _ => true) true n 22 [c4] = xs[4]? := by simpa [Value.cells, int_cells, run_cells, errno_cells] using hg 4 _ rfl
    have g5 : DataW.trod enc Tryd.prog W 0 (fun _ => true) true n 26 [c5, c6] = xs[5]? := by simpa [Value.cells, int_cells, run_cells, errno_cells] using hg 5 _ rfl
    match xs, hlen with
    | [y0, y1, y2, y3, y4, y5], _ =>
      obtain ⟨x0, e0, _, _⟩ := DataW.trod_int Tryd.underlying3 g0
      obtain ⟨x1, e1, _, w1⟩ := DataW.trod_int Tryd.underlying3 g1
      obtain ⟨x2, e2, _, w2⟩ := DataW.trod_int Tryd.underlying3 g2
      obtain ⟨x3, e3, _, w3⟩ := DataW.trod_int Tryd.underlying3 g3
      obtain ⟨x4, e4, _, w4⟩ := DataW.trod_int Tryd.underlying22 g4
      obtain ⟨ys, m, _, _, _, hlen2, hg2⟩ := DataW.trod_struct Tryd.underlying26 g5
      have g6 : DataW.trod enc Tryd.prog W 0 (fun _ => true) true m 23 [c5] = ys[0]? := by simpa [bools_cells, grid_cells] using hg2 0 _ rfl
      have g7 : DataW.trod enc Tryd.prog W 0 (fun _ => true) true m 24 [c6] = ys[1]? := by simpa [bools_cells, grid_cells] using hg2 1 _ rfl
      match ys, hlen2 with
      | [z0, z1], _ =>
        obtain ⟨start, hs⟩ := bools_in g6
        obtain ⟨ins, hi⟩ := grid_in g7
        simp only [List.cons.injEq, and_true] at e0 e1 e2 e3 e4
        subst e0 e1 e2 e3 e4
        exact ⟨x0, x1, x2, x3, x4, c5, c6, start, ins, rfl, bounds_i64 w1, bounds_i64 w2, bounds_i64 w3, bounds_i64 w4, hs, hi⟩

end Go.Proofs.YtkgmiclmpfahlaaDoor

/-
  latchetlaw40.VerdictWrites: its walk.
-/
namespace Go.Proofs.YtkgmiclmpfahlaaDoor
open Go.RowKit

theorem ver_Write_both (kind step spent at_ err prop : Int) (v2 v3 : Value) (start : List Bool) (ins : List (List Bool))
    (b1 : -9223372036854775808 ≤ step ∧ step ≤ 9223372036854775807) (b2 : -9223372036854775808 ≤ spent ∧ spent ≤ 9223372036854775807) (b3 : -9223372036854775808 ≤ at_ ∧ at_ ≤ 9223372036854775807) (b4 : -9223372036854775808 ≤ err ∧ err ≤ 9223372036854775807) (p1 : prop ≤ 9223372036854775807) (hsh : shortP start ins 40) :
    ∃ T : ByteArray, (∀ u, BoolsSl u v2 start → GridSl u v3 ins → Tab u → Wds u → Calls Tryd.prog 7 #[.agg #[.int .i64 kind, .int .i64 step, .int .i64 spent, .int .i64 at_, .int .i64 err, v2, v3], .int .i64 prop] u fun e w' => e = .returned (.string T) ∧ Kp (fun _ => False) u w')
      ∧ (∀ u, BoolsSl u v2 start → GridSl u v3 ins → Calls Tryd.prog 8 #[.agg #[.int .i64 kind, .int .i64 step, .int .i64 spent, .int .i64 at_, .int .i64 err, v2, v3], .int .i64 prop] u fun e w' => e = .returned (.string T) ∧ Kp (fun _ => False) u w') := by
  by_cases h : kind < 0 ∨ 5 < kind
  · refine ⟨⟨#[]⟩, fun u h2 h3 _ _ => ?_, fun u h2 h3 => ?_⟩
    · obtain ⟨a2, c2, rfl, -⟩ := h2
      obtain ⟨a3, c3, rfl, -⟩ := h3
      exact verdict_Write_bad kind step spent at_ err prop a2 a3 _ c2 _ c3 u h
    · obtain ⟨a2, c2, rfl, -⟩ := h2
      obtain ⟨a3, c3, rfl, -⟩ := h3
      exact ref40_Write_bad kind step spent at_ err prop a2 a3 _ c2 _ c3 u h
  · exact ⟨_, fun u h2 h3 ht hw => verdict_Write_good kind step spent at_ err prop v2 v3 start ins u (by omega) (by omega) b1 b2 b3 b4 p1 h2 h3 hsh ht hw,
      fun u h2 h3 => ref40_Write_good kind step spent at_ err prop v2 v3 start ins u (by omega) (by omega) b1 b2 b3 b4 p1 h2 h3 hsh⟩

theorem ver_Witness (kind step spent at_ err prop : Int) (v2 v3 : Value) (start : List Bool) (ins : List (List Bool)) (u : World) (h2 : BoolsSl u v2 start) (h3 : GridSl u v3 ins) :
    Calls Tryd.prog 10 #[.agg #[.int .i64 kind, .int .i64 step, .int .i64 spent, .int .i64 at_, .int .i64 err, v2, v3], .int .i64 prop] u fun e w' => e = .returned (vwit kind prop v2 v3) ∧ Kp (fun _ => False) u w' := by
  obtain ⟨a2, c2, rfl, -⟩ := h2
  obtain ⟨a3, c3, rfl, -⟩ := h3
  exact verdict_Witness kind step spent at_ err prop a2 a3 _ c2 _ c3 u

theorem ver_Witness_ref (kind step spent at_ err prop : Int) (v2 v3 : Value) (start : List Bool) (ins : List (List Bool)) (u : World) (h2 : BoolsSl u v2 start) (h3 : GridSl u v3 ins) :
    Calls Tryd.prog 11 #[.agg #[.int .i64 kind, .int .i64 step, .int .i64 spent, .int .i64 at_, .int .i64 err, v2, v3], .int .i64 prop] u fun e w' => e = .returned (vwit kind prop v2 v3) ∧ Kp (fun _ => False) u w' := by
  obtain ⟨a2, c2, rfl, -⟩ := h2
  obtain ⟨a3, c3, rfl, -⟩ := h3
  exact ref40_Witness kind step spent at_ err prop a2 a3 _ c2 _ c3 u

theorem bools_nil (u : World) : BoolsSl u (.slice none 0 0) [] := ⟨none, 0, rfl, by simp, by simp [maxLen], fun _ => rfl, RowAt.nil _ _⟩
theorem grid_nil (u : World) : GridSl u (.slice none 0 0) [] := ⟨none, 0, rfl, by simp, by simp [maxLen], fun _ => rfl, ⟨[], RowAt.nil _ _, rfl, fun i r x h => by simp at h⟩⟩

theorem vwit_Same (kind prop : Int) (v2 v3 : Value) (start : List Bool) (ins : List (List Bool)) (u : World) (h2 : BoolsSl u v2 start) (h3 : GridSl u v3 ins) (hn : ins.length ≤ 1000000) :
    Calls Tryd.prog 9 #[vwit kind prop v2 v3, vwit kind prop v2 v3] u fun e w' => e = .returned (.bool true) ∧ Kp (fun _ => False) u w' := by
  unfold vwit
  split
  · exact ref18_SameI 1 prop v2 v3 v2 v3 start ins u h2 h3 h2 h3 hn
  · split
    · exact ref18_SameI 0 prop _ _ _ _ [] [] u (bools_nil u) (grid_nil u) (bools_nil u) (grid_nil u) (by simp)
    · exact ref18_SameI 2 prop _ _ _ _ [] [] u (bools_nil u) (grid_nil u) (bools_nil u) (grid_nil u) (by simp)

theorem short_more {start : List Bool} {ins : List (List Bool)} {a b : Nat} (h : shortP start ins a) (hab : a ≤ b) : shortP start ins b := ⟨h.1, Nat.le_trans h.2.1 hab, h.2.2⟩

set_option maxRecDepth 100000 in
set_option maxHeartbeats 8000000 in
theorem verdictWrites_short (kind step spent at_ err prop : Int) (v2 v3 : Value) (start : List Bool) (ins : List (List Bool)) (w : World)
    (b1 : -9223372036854775808 ≤ step ∧ step ≤ 9223372036854775807) (b2 : -9223372036854775808 ≤ spent ∧ spent ≤ 9223372036854775807) (b3 : -9223372036854775808 ≤ at_ ∧ at_ ≤ 9223372036854775807) (b4 : -9223372036854775808 ≤ err ∧ err ≤ 9223372036854775807) (p1 : prop ≤ 9223372036854775807)
    (hs : BoolsSl w v2 start) (hi : GridSl w v3 ins) (hsh : shortP start ins 30) (ht : Tab w) (hm : ML w) (hwd : Wds w) :
    Calls Tryd.prog 3 #[.agg #[.int .i64 kind, .int .i64 step, .int .i64 spent, .int .i64 at_, .int .i64 err, v2, v3], .int .i64 prop] w fun e w' => e = .returned (.bool true) ∧ Below w.heap.size w w' := by
  obtain ⟨T, hT1, hT2⟩ := ver_Write_both kind step spent at_ err prop v2 v3 start ins b1 b2 b3 b4 p1 (short_more hsh (by omega))
  have HWr := Lib.hid (fun u (k : Kp (fun _ => False) w u) => hT1 u (hs.kp k) (hi.kp k) (ht.kp k) (hwd.kp k))
  have HRw := Lib.hid (fun u (k : Kp (fun _ => False) w u) => hT2 u (hs.kp k) (hi.kp k))
  have HWi := Lib.hid (fun u (k : Kp (fun _ => False) w u) => ver_Witness kind step spent at_ err prop v2 v3 start ins u (hs.kp k) (hi.kp k))
  have HRi := Lib.hid (fun u (k : Kp (fun _ => False) w u) => ver_Witness_ref kind step spent at_ err prop v2 v3 start ins u (hs.kp k) (hi.kp k))
  have HSm := Lib.hid (fun u (k : Kp (fun _ => False) w u) => vwit_Same kind prop v2 v3 start ins u (hs.kp k) (hi.kp k) (by have := hsh.2.1; omega))
  have HLv := Lib.hid (fun u (k : Kp (fun _ => False) w u) => verdict_lives u (ht.kp k) (hm.kp k) (hwd.kp k))
  have HSh := Lib.hid (fun u (k : Kp (fun _ => False) w u) => law17_Short v2 v3 start ins 30 u (hs.kp k) (hi.kp k))
  rw [show decide (shortP start ins 30) = true by simpa using hsh] at HSh
  rw [show (((30 : Nat)) : Int) = 30 from rfl] at HSh
  obtain ⟨V, hV⟩ : ∃ V, vwit kind prop v2 v3 = V := ⟨_, rfl⟩
  rw [hV] at HWi HRi HSm
  clear hV hT1 hT2 b1 b2 b3 b4 p1 ht hm hwd hsh
  obtain ⟨a2, c2, rfl, -⟩ := hs
  obtain ⟨a3, c3, rfl, -⟩ := hi
  have hB := Blk.new w #[.int .i64 kind, .int .i64 step, .int .i64 spent, .int .i64 at_, .int .i64 err, .slice a2 start.length c2, .slice a3 ins.length c3] 28
  have q := (Kp.refl (fun _ => False) w).alloc (.cells #[.int .i64 kind, .int .i64 step, .int .i64 spent, .int .i64 at_, .int .i64 err, .slice a2 start.length c2, .slice a3 ins.length c3] 28)
  obtain ⟨W1, hW1⟩ : ∃ W1, w.alloc (.cells #[.int .i64 kind, .int .i64 step, .int .i64 spent, .int .i64 at_, .int .i64 err, .slice a2 start.length c2, .slice a3 ins.length c3] 28) = W1 := ⟨_, rfl⟩
  rw [hW1] at hB q
  have HB := Lib.hid hB
  have HQ := Lib.hid q
  obtain ⟨_, _, _, _, _, k5, k6⟩ := hB.cells7
  clear hB q
  go_enter Tryd.func3, Tryd.ntmps3
  go_wp2_with fail
  refine (HSh.out _ HQ.out).mono ?_
  rintro e w2 ⟨rfl, hK⟩
  have HQ1 := Lib.hid (HQ.out.trans hK (fun _ _ h => h))
  have HB1 := Lib.hid (HB.out.kp hK (fun h => h))
  clear hK k5 k6 HQ HB HSh
  have gS : (T.toList == T.toList) = true := by simp
  obtain ⟨b0, b1, b2, b3, b4, b5, b6⟩ := HB1.out.drew.cells7
  go_wp2_with fail
  go_region_held3 (fun u => u.cell? ⟨w.heap.size, 0, none⟩ = some (.int .i64 kind) ∧ u.cell? ⟨w.heap.size, 1, none⟩ = some (.int .i64 step) ∧ u.cell? ⟨w.heap.size, 2, none⟩ = some (.int .i64 spent) ∧ u.cell? ⟨w.heap.size, 3, none⟩ = some (.int .i64 at_) ∧ u.cell? ⟨w.heap.size, 4, none⟩ = some (.int .i64 err) ∧ u.cell? ⟨w.heap.size, 5, none⟩ = some (.slice a2 start.length c2) ∧ u.cell? ⟨w.heap.size, 6, none⟩ = some (.slice a3 ins.length c3)) (first | exact ⟨z0, z1, z2, z3, z4, z5, z6⟩ | exact ⟨b0, b1, b2, b3, b4, b5, b6⟩) ((
    (first
      | (go_at_call 7; refine (HWr.out _ (by first | exact HKk.out | exact HQ1.out.drew)).mono ?_)
      | (go_at_call 8; refine (HRw.out _ (by first | exact HKk.out | exact HQ1.out.drew)).mono ?_)
      | (go_at_call 10; refine (HWi.out _ (by first | exact HKk.out | exact HQ1.out.drew)).mono ?_)
      | (go_at_call 11; refine (HRi.out _ (by first | exact HKk.out | exact HQ1.out.drew)).mono ?_)
      | (go_at_call 9; refine (HSm.out _ (by first | exact HKk.out | exact HQ1.out.drew)).mono ?_)
      | (go_at_call 6; refine (HLv.out _ (by first | exact HKk.out | exact HQ1.out.drew)).mono ?_))
    rintro e wk ⟨rfl, hKk⟩
    first
      | have HKk := Lib.hid (HKk.out.trans hKk (fun _ _ h => h))
      | have HKk := Lib.hid (HQ1.out.drew.trans hKk (fun _ _ h => h))
    first
      | have HBk := Lib.hid (HBk.out.kp hKk (fun h => h))
      | have HBk := Lib.hid (HB1.out.drew.kp hKk (fun h => h))
    obtain ⟨z0, z1, z2, z3, z4, z5, z6⟩ := HBk.out.cells7
    clear hKk))
  all_goals go_wp2_with fail
  all_goals go_ret
  all_goals exact ⟨rfl, HKk.out.below (Nat.le_refl _) (fun _ _ h => h)⟩

set_option maxRecDepth 100000 in
set_option maxHeartbeats 4000000 in
theorem verdictWrites_long (kind step spent at_ err prop : Int) (v2 v3 : Value) (start : List Bool) (ins : List (List Bool)) (w : World)
    (hs : BoolsSl w v2 start) (hi : GridSl w v3 ins) (hsh : ¬ shortP start ins 30) (ht : Tab w) (hm : ML w) (hwd : Wds w) :
    Calls Tryd.prog 3 #[.agg #[.int .i64 kind, .int .i64 step, .int .i64 spent, .int .i64 at_, .int .i64 err, v2, v3], .int .i64 prop] w fun e w' => e = .returned (.bool true) ∧ Below w.heap.size w w' := by
  have HLv := Lib.hid (fun u (k : Kp (fun _ => False) w u) => verdict_lives u (ht.kp k) (hm.kp k) (hwd.kp k))
  have HSh := Lib.hid (fun u (k : Kp (fun _ => False) w u) => law17_Short v2 v3 start ins 30 u (hs.kp k) (hi.kp k))
  rw [show decide (shortP start ins 30) = false by simpa using hsh] at HSh
  rw [show (((30 : Nat)) : Int) = 30 from rfl] at HSh
  clear ht hm hwd hsh
  obtain ⟨a2, c2, rfl, -⟩ := hs
  obtain ⟨a3, c3, rfl, -⟩ := hi
  have hB := Blk.new w #[.int .i64 kind, .int .i64 step, .int .i64 spent, .int .i64 at_, .int .i64 err, .slice a2 start.length c2, .slice a3 ins.length c3] 28
  have q := (Kp.refl (fun _ => False) w).alloc (.cells #[.int .i64 kind, .int .i64 step, .int .i64 spent, .int .i64 at_, .int .i64 err, .slice a2 start.length c2, .slice a3 ins.length c3] 28)
  obtain ⟨W1, hW1⟩ : ∃ W1, w.alloc (.cells #[.int .i64 kind, .int .i64 step, .int .i64 spent, .int .i64 at_, .int .i64 err, .slice a2 start.length c2, .slice a3 ins.length c3] 28) = W1 := ⟨_, rfl⟩
  rw [hW1] at hB q
  have HQ := Lib.hid q
  obtain ⟨_, _, _, _, _, k5, k6⟩ := hB.cells7
  clear hB q
  go_enter Tryd.func3, Tryd.ntmps3
  go_wp2_with fail
  refine (HSh.out _ HQ.out).mono ?_
  rintro e w2 ⟨rfl, hK2⟩
  have HQ2 := Lib.hid (HQ.out.trans hK2 (fun _ _ h => h))
  clear hK2
  go_wp2_with fail
  refine (HLv.out _ HQ2.out).mono ?_
  rintro e w3 ⟨rfl, hK3⟩
  have HQ3 := Lib.hid (HQ2.out.trans hK3 (fun _ _ h => h))
  clear hK3
  go_wp2_with fail
  go_ret
  exact ⟨rfl, HQ3.out.below (Nat.le_refl _) (fun _ _ h => h)⟩

theorem verdictWrites_walk (w : World) (v : Value) (hv : VerArg w v) (prop : Int) (wf : (Lit.int .i64 prop).wf = true) (ht : Tab w) (hwd : Wds w) (hm : ML w) :
    Calls Tryd.prog 3 #[v, .int .i64 prop] w fun e w' => e = .returned (.bool true) ∧ Below w.heap.size w w' := by
  obtain ⟨kind, step, spent, at_, err, v2, v3, start, ins, rfl, b1, b2, b3, b4, hs, hi⟩ := hv
  by_cases h : shortP start ins 30
  · exact verdictWrites_short kind step spent at_ err prop v2 v3 start ins w b1 b2 b3 b4 (bounds_i64 wf).2 hs hi h ht hm hwd
  · exact verdictWrites_long kind step spent at_ err prop v2 v3 start ins w hs hi h ht hm hwd

end Go.Proofs.YtkgmiclmpfahlaaDoor

/-
  latchetlaw40.VerdictBack: its walk.
-/
namespace Go.Proofs.YtkgmiclmpfahlaaDoor
open Go.RowKit

theorem and_1023 (n : Int) : bits .and .i64 n 1023 = n % 1024 := by
  have h127 : (BitVec.ofInt 64 1023).toNat = 2 ^ 10 - 1 := by decide
  have key : (BitVec.ofInt 64 n &&& BitVec.ofInt 64 1023).toNat = (n % ((2 ^ 64 : Nat) : Int)).toNat % 2 ^ 10 := by
    rw [BitVec.toNat_and, BitVec.toNat_ofInt, h127, Nat.and_two_pow_sub_one_eq_mod]
  show IntKind.i64.wrap ((BitVec.ofInt 64 n &&& BitVec.ofInt 64 1023).toNat : Nat) = n % 1024
  rw [key, IntKind.wrap_i64]
  omega

/-- what the law lets by -/
def backGood (kind step spent at_ : Int) (start : List Bool) (ins : List (List Bool)) : Prop := shortP start ins 30 ∧ 0 ≤ kind ∧ kind ≤ 5 ∧ 0 ≤ step ∧ 0 ≤ spent ∧ 0 ≤ at_ ∧ step ≤ 999999999 ∧ spent ≤ 999999999 ∧ at_ ≤ 999999999

set_option maxRecDepth 100000 in
set_option maxHeartbeats 8000000 in
theorem verdictBack_bad (kind step spent at_ err prop : Int) (v2 v3 : Value) (start : List Bool) (ins : List (List Bool)) (w : World)
    (hs : BoolsSl w v2 start) (hi : GridSl w v3 ins) (h : ¬ backGood kind step spent at_ start ins) (ht : Tab w) (hm : ML w) (hwd : Wds w) :
    Calls Tryd.prog 4 #[.agg #[.int .i64 kind, .int .i64 step, .int .i64 spent, .int .i64 at_, .int .i64 err, v2, v3], .int .u16 prop] w fun e w' => e = .returned (.bool true) ∧ Below w.heap.size w w' := by
  have HLv := Lib.hid (fun u (k : Kp (fun _ => False) w u) => verdict_lives u (ht.kp k) (hm.kp k) (hwd.kp k))
  have HSh := Lib.hid (fun u (k : Kp (fun _ => False) w u) => law17_Short v2 v3 start ins 30 u (hs.kp k) (hi.kp k))
  rw [show (((30 : Nat)) : Int) = 30 from rfl] at HSh
  obtain ⟨sh, hsh⟩ : ∃ b, decide (shortP start ins 30) = b := ⟨_, rfl⟩
  rw [hsh] at HSh
  clear ht hm hwd
  have h3 : (sh = false) ∨ (sh = true ∧ decide (kind < 0) = true) ∨ (sh = true ∧ decide (kind < 0) = false ∧ decide (5 < kind) = true) ∨ (sh = true ∧ decide (kind < 0) = false ∧ decide (5 < kind) = false ∧ decide (step < 0) = true) ∨ (sh = true ∧ decide (kind < 0) = false ∧ decide (5 < kind) = false ∧ decide (step < 0) = false ∧ decide (spent < 0) = true) ∨ (sh = true ∧ decide (kind < 0) = false ∧ decide (5 < kind) = false ∧ decide (step < 0) = false ∧ decide (spent < 0) = false ∧ decide (at_ < 0) = true) ∨ (sh = true ∧ decide (kind < 0) = false ∧ decide (5 < kind) = false ∧ decide (step < 0) = false ∧ decide (spent < 0) = false ∧ decide (at_ < 0) = false ∧ decide (999999999 < step) = true) ∨ (sh = true ∧ decide (kind < 0) = false ∧ decide (5 < kind) = false ∧ decide (step < 0) = false ∧ decide (spent < 0) = false ∧ decide (at_ < 0) = false ∧ decide (999999999 < step) = false ∧ decide (999999999 < spent) = true) ∨ (sh = true ∧ decide (kind < 0) = false ∧ decide (5 < kind) = false ∧ decide (step < 0) = false ∧ decide (spent < 0) = false ∧ decide (at_ < 0) = false ∧ decide (999999999 < step) = false ∧ decide (999999999 < spent) = false ∧ decide (999999999 < at_) = true) := by
    by_cases c0 : shortP start ins 30
    · by_cases c1 : kind < 0
      · exact .inr (.inl ⟨by rw [← hsh]; simpa using c0, decide_eq_true c1⟩)
      · by_cases c2 : 5 < kind
        · exact .inr (.inr (.inl ⟨by rw [← hsh]; simpa using c0, decide_eq_false c1, decide_eq_true c2⟩))
        · by_cases c3 : step < 0
          · exact .inr (.inr (.inr (.inl ⟨by rw [← hsh]; simpa using c0, decide_eq_false c1, decide_eq_false c2, decide_eq_true c3⟩)))
          · by_cases c4 : spent < 0
            · exact .inr (.inr (.inr (.inr (.inl ⟨by rw [← hsh]; simpa using c0, decide_eq_false c1, decide_eq_false c2, decide_eq_false c3, decide_eq_true c4⟩))))
            · by_cases c5 : at_ < 0
              · exact .inr (.inr (.inr (.inr (.inr (.inl ⟨by rw [← hsh]; simpa using c0, decide_eq_false c1, decide_eq_false c2, decide_eq_false c3, decide_eq_false c4, decide_eq_true c5⟩)))))
              · by_cases c6 : 999999999 < step
                · exact .inr (.inr (.inr (.inr (.inr (.inr (.inl ⟨by rw [← hsh]; simpa using c0, decide_eq_false c1, decide_eq_false c2, decide_eq_false c3, decide_eq_false c4, decide_eq_false c5, decide_eq_true c6⟩))))))
                · by_cases c7 : 999999999 < spent
                  · exact .inr (.inr (.inr (.inr (.inr (.inr (.inr (.inl ⟨by rw [← hsh]; simpa using c0, decide_eq_false c1, decide_eq_false c2, decide_eq_false c3, decide_eq_false c4, decide_eq_false c5, decide_eq_false c6, decide_eq_true c7⟩)))))))
                  · by_cases c8 : 999999999 < at_
                    · exact .inr (.inr (.inr (.inr (.inr (.inr (.inr (.inr (⟨by rw [← hsh]; simpa using c0, decide_eq_false c1, decide_eq_false c2, decide_eq_false c3, decide_eq_false c4, decide_eq_false c5, decide_eq_false c6, decide_eq_false c7, decide_eq_true c8⟩))))))))
                    · exact absurd ⟨c0, by omega, by omega, by omega, by omega, by omega, by omega, by omega, by omega⟩ h
    · exact .inl (by rw [← hsh]; simpa using c0)
  clear hsh h
  obtain ⟨a2, c2, rfl, -⟩ := hs
  obtain ⟨a3, c3, rfl, -⟩ := hi
  have hB := Blk.new w #[.int .i64 kind, .int .i64 step, .int .i64 spent, .int .i64 at_, .int .i64 err, .slice a2 start.length c2, .slice a3 ins.length c3] 28
  have q := (Kp.refl (fun _ => False) w).alloc (.cells #[.int .i64 kind, .int .i64 step, .int .i64 spent, .int .i64 at_, .int .i64 err, .slice a2 start.length c2, .slice a3 ins.length c3] 28)
  obtain ⟨W1, hW1⟩ : ∃ W1, w.alloc (.cells #[.int .i64 kind, .int .i64 step, .int .i64 spent, .int .i64 at_, .int .i64 err, .slice a2 start.length c2, .slice a3 ins.length c3] 28) = W1 := ⟨_, rfl⟩
  rw [hW1] at hB q
  have HQ := Lib.hid q
  have HB := Lib.hid hB
  obtain ⟨-, -, -, -, -, k5, k6⟩ := hB.cells7
  clear hB q
  rcases h3 with rfl | ⟨rfl, g0⟩ | ⟨rfl, g0, g1⟩ | ⟨rfl, g0, g1, g2⟩ | ⟨rfl, g0, g1, g2, g3⟩ | ⟨rfl, g0, g1, g2, g3, g4⟩ | ⟨rfl, g0, g1, g2, g3, g4, g5⟩ | ⟨rfl, g0, g1, g2, g3, g4, g5, g6⟩ | ⟨rfl, g0, g1, g2, g3, g4, g5, g6, g7⟩
  all_goals
    go_enter Tryd.func4, Tryd.ntmps4
    go_wp2_with fail
    refine (HSh.out _ HQ.out).mono ?_
    rintro e w2 ⟨rfl, hK2⟩
    have HQ2 := Lib.hid (HQ.out.trans hK2 (fun _ _ h => h))
    obtain ⟨z0, z1, z2, z3, z4, z5, z6⟩ := (HB.out.kp hK2 (fun h => h)).cells7
    clear hK2 k5 k6
    go_wp2_with fail
    refine (HLv.out _ HQ2.out).mono ?_
    rintro e w3 ⟨rfl, hK3⟩
    have HQ3 := Lib.hid (HQ2.out.trans hK3 (fun _ _ h => h))
    clear hK3
    go_wp2_with fail
    go_ret
    exact ⟨rfl, HQ3.out.below (Nat.le_refl _) (fun _ _ h => h)⟩

/-- what the law makes of the parts -/
theorem witText_len5 {kind prop : Int} {start : List Bool} {ins : List (List Bool)} (p1 : prop ≤ 9223372036854775807) (h : shortP start ins 40) : (witText kind prop start ins).length ≤ 5000 := by
  have hm := short_mem h
  obtain ⟨h1, h2, _⟩ := h
  unfold witText
  split
  · simp
  · rename_i hb
    have hk : (Lib.itoa kind).length ≤ 60 := by
      obtain ⟨u, rfl⟩ : ∃ u : Nat, kind = u := ⟨kind.toNat, by omega⟩
      rw [itoa_nat]
      have := dd_len 18 u (by omega)
      omega
    have hp : (Lib.itoa prop).length ≤ 60 := by
      obtain ⟨u, rfl⟩ : ∃ u : Nat, prop = u := ⟨prop.toNat, by omega⟩
      rw [itoa_nat]
      have := dd_len 18 u (by omega)
      omega
    have hf := feed_len (xs := witLines kind prop start ins) (m := 100) (by
      intro x hx
      unfold witLines at hx
      simp only [List.mem_append, List.mem_cons, List.not_mem_nil, or_false] at hx
      rcases hx with ((rfl | rfl) | hx) | rfl
      · omega
      · simp only [List.length_cons]; omega
      · split at hx
        · rcases List.mem_cons.1 hx with rfl | hx
          · rw [signs_length]; omega
          · obtain ⟨l, hl, rfl⟩ := List.mem_map.1 hx
            rw [signs_length]; have := hm l hl; omega
        · cases hx
      · simp)
    have hl : (witLines kind prop start ins).length ≤ 44 := by
      unfold witLines
      split <;> simp <;> omega
    have : (100 + 1) * (witLines kind prop start ins).length ≤ 101 * 44 := Nat.mul_le_mul_left _ hl
    omega

theorem vtext_size {kind step spent at_ err prop : Nat} {start : List Bool} {ins : List (List Bool)} {la inp : Nat} (h : VGood kind step spent at_ err prop start ins la inp) : (vtext kind step spent at_ err prop start ins).length ≤ 100000 := by
  have l1 := itoaLen (n := step) (by omega) (by have := h.hstep; omega)
  have l2 := itoaLen (n := spent) (by omega) (by have := h.hspent; omega)
  have l3 := itoaLen (n := at_) (by omega) (by have := h.hat; omega)
  have l4 := itoaLen (n := err) (by omega) (by have := h.herr; omega)
  have l5 := vword_len (kind : Int).toNat
  have l6 := witText_len5 (kind := 1) (prop := prop) (by have := h.hprop; omega) h.sh
  unfold vtext
  split
  · simp
  · unfold vline vspent
    have e1 : (if (kind : Int).toNat = 0 then 32 :: Lib.itoa (err : Int) ++ 32 :: Lib.itoa (at_ : Int) else if (kind : Int).toNat = 1 then [] else 32 :: Lib.itoa (step : Int)).length ≤ 50 := by
      split
      · simp only [List.cons_append, List.length_cons, List.length_append]; omega
      · split
        · simp
        · simp only [List.length_cons]; omega
    have e2 : (if (kind : Int) = 2 then witText 1 prop start ins else []).length ≤ 5000 := by
      split
      · exact l6
      · simp
    simp only [List.length_append, List.length_cons, List.length_nil]
    omega

def bkS (kind step : Nat) : Nat := if 1 < kind then step else 0
def bkZ (kind x : Nat) : Nat := if kind = 0 then x else 0
def bkP (kind prop : Nat) : Nat := if kind = 2 then prop else 0
def bkE (err : Int) : Nat := 1 + (err % 1024).toNat % 11

theorem bkE_le (err : Int) : 1 ≤ bkE err ∧ bkE err ≤ 11 := by unfold bkE; omega

theorem back_good {kind step spent at_ prop la inp : Nat} {err : Int} {start : List Bool} {ins : List (List Bool)} (hk : kind ≤ 5) (h1 : step ≤ 999999999) (h2 : spent ≤ 999999999) (h3 : at_ ≤ 999999999) (h4 : prop ≤ 65535) (hsh : shortP start ins 40)
    (h5 : kind = 2 → ins ≠ [] ∧ start.length = la ∧ (∀ x ∈ ins, x.length = inp)) (h6 : kind ≠ 2 → start = [] ∧ ins = []) : VGood kind (bkS kind step) spent (bkZ kind at_) (bkZ kind (bkE err)) (bkP kind prop) start ins la inp := by
  have hE := bkE_le err
  unfold bkS bkZ bkP
  refine ⟨hk, ?_, by omega, ?_, ?_, ?_, fun h => ?_, fun h => ?_, fun h => ?_, h5, fun h => ?_, hsh⟩
  · split <;> omega
  · split <;> omega
  · split <;> omega
  · split <;> omega
  · rw [if_pos h, if_neg (by omega)]; exact ⟨hE.1, rfl⟩
  · rw [if_neg h, if_neg h]; exact ⟨rfl, rfl⟩
  · rw [if_neg (by omega)]
  · rw [if_neg h]; exact ⟨(h6 h).1, (h6 h).2, rfl⟩

/-- what stands in the cells ahead of the text -/
structure BackSt (kind step spent at_ : Nat) (err : Int) (prop : Nat) (w wx : World) (b inp : Nat) (v5 v6 : Value) (start : List Bool) (ins : List (List Bool)) : Prop where
  good : VGood kind (bkS kind step) spent (bkZ kind at_) (bkZ kind (bkE err)) (bkP kind prop) start ins start.length inp
  kp : Kp (fun _ => False) w wx
  blk : Blk wx b #[.int .i64 kind, .int .i64 (bkS kind step), .int .i64 spent, .int .i64 (bkZ kind at_), .int .i64 (bkZ kind (bkE err)), v5, v6] 28
  s5 : BoolsSl wx v5 start
  s6 : GridSl wx v6 ins

set_option maxRecDepth 100000 in
set_option maxHeartbeats 8000000 in
theorem verdictBack_tail (kind step spent at_ : Nat) (err : Int) (prop : Nat) (v2 v3 : Value) (start : List Bool) (ins : List (List Bool)) (w : World)
    (hs : BoolsSl w v2 start) (hi : GridSl w v3 ins) (hsh : shortP start ins 30) (hk : kind ≤ 5) (h1 : step ≤ 999999999) (h2 : spent ≤ 999999999) (h3 : at_ ≤ 999999999) (h4 : prop ≤ 65535) (ht : Tab w) (hm : ML w) (hwd : Wds w) :
    Calls Tryd.prog 4 #[.agg #[.int .i64 kind, .int .i64 step, .int .i64 spent, .int .i64 at_, .int .i64 err, v2, v3], .int .u16 prop] w fun e w' => e = .returned (.bool true) ∧ Below w.heap.size w w' := by
  have HLv := Lib.hid (fun u (k : Kp (fun _ => False) w u) => verdict_lives u (ht.kp k) (hm.kp k) (hwd.kp k))
  have HSh := Lib.hid (fun u (k : Kp (fun _ => False) w u) => law17_Short v2 v3 start ins 30 u (hs.kp k) (hi.kp k))
  rw [show (((30 : Nat)) : Int) = 30 from rfl] at HSh
  rw [show decide (shortP start ins 30) = true by simpa using hsh] at HSh
  have HT := Lib.hid ht
  have HM := Lib.hid hm
  have HWd := Lib.hid hwd
  have HS := Lib.hid hs
  have HI := Lib.hid hi
  have HGd := Lib.hid (fun (la inp : Nat) (st : List Bool) (is : List (List Bool)) (hsh' : shortP st is 40) (h5 : kind = 2 → is ≠ [] ∧ st.length = la ∧ (∀ x ∈ is, x.length = inp)) (h6 : kind ≠ 2 → st = [] ∧ is = []) => back_good (err := err) hk h1 h2 h3 h4 hsh' h5 h6)
  have HSho := Lib.hid (short_more (b := 40) hsh (by omega))
  have HEr : Hid (bkE err = 1 + (err % 1024).toNat % 11) := rfl
  have hin : ins.length ≤ 30 := hsh.2.1
  clear ht hm hwd hsh
  obtain ⟨a2, c2, rfl, -⟩ := hs
  obtain ⟨a3, c3, rfl, -, -, -, -⟩ := hi
  have hB := Blk.new w #[.int .i64 kind, .int .i64 step, .int .i64 spent, .int .i64 at_, .int .i64 err, .slice a2 start.length c2, .slice a3 ins.length c3] 28
  have q := (Kp.refl (fun _ => False) w).alloc (.cells #[.int .i64 kind, .int .i64 step, .int .i64 spent, .int .i64 at_, .int .i64 err, .slice a2 start.length c2, .slice a3 ins.length c3] 28)
  obtain ⟨W1, hW1⟩ : ∃ W1, w.alloc (.cells #[.int .i64 kind, .int .i64 step, .int .i64 spent, .int .i64 at_, .int .i64 err, .slice a2 start.length c2, .slice a3 ins.length c3] 28) = W1 := ⟨_, rfl⟩
  rw [hW1] at hB q
  have HQ := Lib.hid q
  have HB := Lib.hid hB
  obtain ⟨-, -, -, -, -, k5, k6⟩ := hB.cells7
  clear hB q
  have g1 : decide ((kind : Int) < 0) = false := decide_eq_false (by omega)
  have g2 : decide ((5 : Int) < (kind : Int)) = false := decide_eq_false (by omega)
  have g3 : decide ((step : Int) < 0) = false := decide_eq_false (by omega)
  have g4 : decide ((spent : Int) < 0) = false := decide_eq_false (by omega)
  have g5 : decide ((at_ : Int) < 0) = false := decide_eq_false (by omega)
  have g6 : decide ((999999999 : Int) < (step : Int)) = false := decide_eq_false (by omega)
  have g7 : decide ((999999999 : Int) < (spent : Int)) = false := decide_eq_false (by omega)
  have g8 : decide ((999999999 : Int) < (at_ : Int)) = false := decide_eq_false (by omega)
  go_enter Tryd.func4, Tryd.ntmps4
  go_wp2_with fail
  refine (HSh.out _ HQ.out).mono ?_
  rintro e w2 ⟨rfl, hK2⟩
  have HQ2 := Lib.hid (HQ.out.trans hK2 (fun _ _ h => h))
  have hB2 := HB.out.kp hK2 (fun h => h)
  obtain ⟨z0, z1, z2, z3, z4, z5, z6⟩ := hB2.cells7
  have HB2 := Lib.hid hB2
  have lt0 := hB2.lt
  clear hB2 hK2 k5 k6 HQ HB HSh
  go_upto_if 66 with (fail)
  have hBq := Blk.new w2 #[.int .i64 kind, .int .i64 0, .int .i64 spent, .int .i64 0, .int .i64 0, .slice none 0 0, .slice none 0 0] 28
  have hB3 := HB2.out.alloc (.cells #[.int .i64 kind, .int .i64 0, .int .i64 spent, .int .i64 0, .int .i64 0, .slice none 0 0, .slice none 0 0] 28)
  have hq3 := HQ2.out.alloc (.cells #[.int .i64 kind, .int .i64 0, .int .i64 spent, .int .i64 0, .int .i64 0, .slice none 0 0, .slice none 0 0] 28)
  obtain ⟨bq, hbq⟩ : ∃ b, w2.heap.size = b := ⟨_, rfl⟩
  obtain ⟨W3, hW3⟩ : ∃ W, w2.alloc (.cells #[.int .i64 kind, .int .i64 0, .int .i64 spent, .int .i64 0, .int .i64 0, .slice none 0 0, .slice none 0 0] 28) = W := ⟨_, rfl⟩
  rw [hW3] at hBq hB3 hq3 ⊢
  rw [hbq] at hBq lt0 ⊢
  have HBq := Lib.hid hBq
  have HB3 := Lib.hid hB3
  have HQ3 := Lib.hid hq3
  have Hlt := Lib.hid lt0
  clear hBq hB3 hq3 hbq hW3 z0 z1 z2 z3 z4 z5 z6 HQ2 HB2 lt0 g1 g2 g3 g4 g5 g6 g7 g8
  obtain ⟨wa, rfl⟩ : ∃ wa : World, wa = W3 := ⟨_, rfl⟩
  go_cut [] (fun wx => Kp (fun j => j = bq) wa wx ∧ Blk wx bq #[.int .i64 kind, .int .i64 (bkS kind step), .int .i64 spent, .int .i64 0, .int .i64 0, .slice none 0 0, .slice none 0 0] 28)
  case first =>
    by_cases hc : 1 < kind
    · have d : decide ((1 : Int) < (kind : Int)) = true := decide_eq_true (by omega)
      have HX : Hid (bkS kind step = step) := by show _ = _; unfold bkS; rw [if_pos hc]
      obtain ⟨-, b1, -, -, -, -, -⟩ := HBq.out.cells7
      obtain ⟨-, z1, -, -, -, -, -⟩ := HB3.out.cells7
      have fr := HBq.out.free 1
      go_wp2_with fail
      go_meet
      case rel => rw [HX.out]; exact ⟨(Kp.refl (fun j => j = bq) _).setCell (p := ⟨bq, 1, none⟩) (fun _ => rfl) _, HBq.out.set_same 1 (.int .i64 step)⟩
    · have d : decide ((1 : Int) < (kind : Int)) = false := decide_eq_false (by omega)
      have HX : Hid (bkS kind step = 0) := by show _ = _; unfold bkS; rw [if_neg hc]
      go_wp2_with fail
      go_meet
      case rel => rw [HX.out]; exact ⟨Kp.refl _ _, HBq.out⟩
  case rest =>
    obtain ⟨hq, hb⟩ := hcut
    have HQ4 := Lib.hid (show Kp (fun _ => False) w wc from HQ3.out.trans hq (fun j h e => by have := Hlt.out; omega))
    have HB4 := Lib.hid (HB3.out.kp hq (fun e => by have := Hlt.out; omega))
    have HBr := Lib.hid hb
    clear hq hb HQ3 HB3 HBq
    obtain ⟨SS, hSS⟩ : ∃ n, bkS kind step = n := ⟨_, rfl⟩
    rw [hSS] at HBr
    have HSS := Lib.hid hSS
    clear hSS
    obtain ⟨z0, -, -, z3, z4, z5, z6⟩ := HB4.out.cells7
    go_upto_if 72 with (fail)
    obtain ⟨wb, rfl⟩ : ∃ wb : World, wb = wc := ⟨_, rfl⟩
    go_cut [] (fun wx => Kp (fun j => j = bq) wb wx ∧ Blk wx bq #[.int .i64 kind, .int .i64 SS, .int .i64 spent, .int .i64 (bkZ kind at_), .int .i64 (bkZ kind (bkE err)), .slice none 0 0, .slice none 0 0] 28)
    case first =>
      by_cases hc : kind = 0
      · have d : ((kind : Int) == 0) = true := by simp [hc]
        have HX : Hid (bkZ kind at_ = at_ ∧ bkZ kind (bkE err) = bkE err) := by unfold bkZ; exact ⟨if_pos hc, if_pos hc⟩
        clear hc
        have hb1 := HBr.out
        have hE : Kp (fun j => j = bq) wb ((wb.setCell ⟨bq, 3, none⟩ (.int .i64 at_)).setCell ⟨bq, 4, none⟩ (.int .i64 (bkE err))) := ((Kp.refl (fun j => j = bq) _).setCell (p := ⟨bq, 3, none⟩) (fun _ => rfl) _).setCell (p := ⟨bq, 4, none⟩) (fun _ => rfl) _
        have hBE : Blk ((wb.setCell ⟨bq, 3, none⟩ (.int .i64 at_)).setCell ⟨bq, 4, none⟩ (.int .i64 (bkE err))) bq #[.int .i64 kind, .int .i64 SS, .int .i64 spent, .int .i64 at_, .int .i64 (bkE err), .slice none 0 0, .slice none 0 0] 28 := (hb1.set_same 3 (.int .i64 at_)).set_same 4 (.int .i64 (bkE err))
        have HE := Lib.hid hE
        have HBE := Lib.hid hBE
        obtain ⟨-, -, -, b3, b4, -, -⟩ := hb1.cells7
        have f3 := hb1.free 3
        have f4 := hb1.free 4
        clear hE hBE
        obtain ⟨m, hm⟩ : ∃ m : Nat, (err % 1024).toNat = m := ⟨_, rfl⟩
        have ha : bits .and .i64 err 1023 = (m : Int) := by rw [and_1023]; omega
        obtain ⟨r, hr⟩ : ∃ r : Nat, m % 11 = r := ⟨_, rfl⟩
        have hr2 : (m : Int).tmod 11 = (r : Int) := by rw [← hr, Int.tmod_eq_emod_of_nonneg (by omega)]; omega
        have hr3 : (1 : Int) + (r : Int) = ((bkE err : Nat) : Int) := by rw [HEr.out, hm, hr]; omega
        have hr4 : r ≤ 10 := by omega
        have hb4 := bkE_le err
        have hwr : IntKind.i64.wrap ((bkE err : Nat) : Int) = ((bkE err : Nat) : Int) := by rw [IntKind.wrap_i64]; omega
        have HSq := Lib.hid (fun (u : World) (h : Blk u w.heap.size #[.int .i64 kind, .int .i64 step, .int .i64 spent, .int .i64 at_, .int .i64 err, .slice a2 start.length c2, .slice a3 ins.length c3] 28) => (⟨h.cell rfl, h.cell rfl⟩ : u.cell? ⟨w.heap.size, 3, none⟩ = some (.int .i64 at_) ∧ u.cell? ⟨w.heap.size, 4, none⟩ = some (.int .i64 err)))
        have HSo := Lib.hid (fun (u : World) (i : Nat) (x : Value) (h : Blk u w.heap.size #[.int .i64 kind, .int .i64 step, .int .i64 spent, .int .i64 at_, .int .i64 err, .slice a2 start.length c2, .slice a3 ins.length c3] 28) => h.set_other (p := ⟨bq, i, none⟩) (by have := Hlt.out; simp only; omega) x)
        obtain ⟨EX, hEX⟩ : ∃ n, bkE err = n := ⟨_, rfl⟩
        rw [hEX] at hr3 hb4 hwr HE HBE
        have HEX := Lib.hid hEX
        clear hm hr hEX
        go_wp2_with fail
        go_region_held3 (fun u => u.cell? ⟨w.heap.size, 3, none⟩ = some (.int .i64 at_) ∧ u.cell? ⟨w.heap.size, 4, none⟩ = some (.int .i64 err)) ((refine HSq.out _ ?_; repeat (first | (with_reducible exact HB4.out) | (with_reducible exact HB4.out.drew) | (with_reducible refine HSo.out _ _ _ ?_) | (with_reducible refine Blk.drew ?_)))) (fail)
        all_goals go_wp2_with fail
        all_goals go_meet
        all_goals (rw [HX.out.1, HX.out.2, HEX.out]; first | exact ⟨HE.out, HBE.out⟩ | exact ⟨HE.out.drew, HBE.out.drew⟩)
      · have d : ((kind : Int) == 0) = false := beq_eq_false_iff_ne.2 (by omega)
        have HX : Hid (bkZ kind at_ = 0 ∧ bkZ kind (bkE err) = 0) := by unfold bkZ; exact ⟨if_neg hc, if_neg hc⟩
        clear hc
        go_wp2_with fail
        go_meet
        case rel => rw [HX.out.1, HX.out.2]; exact ⟨Kp.refl _ _, HBr.out⟩
    case rest =>
      obtain ⟨hq, hb⟩ := hcut
      have HQ5 := Lib.hid (show Kp (fun _ => False) w wc from HQ4.out.trans hq (fun j h e => by have := Hlt.out; omega))
      have HB5 := Lib.hid (HB4.out.kp hq (fun e => by have := Hlt.out; omega))
      have HBs := Lib.hid hb
      clear hq hb HQ4 HB4 HBr z0 z3 z4 z5 z6
      obtain ⟨AA, hAA⟩ : ∃ n, bkZ kind at_ = n := ⟨_, rfl⟩
      obtain ⟨EE, hEE⟩ : ∃ n, bkZ kind (bkE err) = n := ⟨_, rfl⟩
      rw [hAA, hEE] at HBs
      have HAA := Lib.hid hAA
      have HEE := Lib.hid hEE
      clear hAA hEE
      obtain ⟨z0, -, -, -, -, z5, z6⟩ := HB5.out.cells7
      go_upto_if 84 with (fail)
      obtain ⟨wd, rfl⟩ : ∃ wd : World, wd = wc := ⟨_, rfl⟩
      go_cut [6, 7] (fun s6 s7 wx => ∃ (inp : Nat) (v5 v6 : Value) (st : List Bool) (is : List (List Bool)), s6 = .int .i64 (bkP kind prop) ∧ s7 = .int .i64 inp ∧ BackSt kind step spent at_ err prop w wx bq inp v5 v6 st is)
      case first =>
        by_cases hc : kind = 2
        · have d : ((kind : Int) == 2) = true := by simp [hc]
          have HX : Hid (bkP kind prop = prop) := by show _ = _; unfold bkP; rw [if_pos hc]
          have HC := Lib.hid hc
          clear hc
          have hK : Kp (fun j => j = bq) wd ((wd.setCell ⟨bq, 5, none⟩ (.slice a2 start.length c2)).setCell ⟨bq, 6, none⟩ (.slice a3 ins.length c3)) := ((Kp.refl (fun j => j = bq) _).setCell (p := ⟨bq, 5, none⟩) (fun _ => rfl) _).setCell (p := ⟨bq, 6, none⟩) (fun _ => rfl) _
          have hBE : Blk ((wd.setCell ⟨bq, 5, none⟩ (.slice a2 start.length c2)).setCell ⟨bq, 6, none⟩ (.slice a3 ins.length c3)) bq #[.int .i64 kind, .int .i64 SS, .int .i64 spent, .int .i64 AA, .int .i64 EE, .slice a2 start.length c2, .slice a3 ins.length c3] 28 := (HBs.out.set_same 5 (.slice a2 start.length c2)).set_same 6 (.slice a3 ins.length c3)
          have hA9 := HB5.out.kp hK (fun e => by have := Hlt.out; omega)
          have hq9 : Kp (fun _ => False) w _ := HQ5.out.trans hK (fun j h e => by have := Hlt.out; omega)
          obtain ⟨-, -, -, -, -, b5, b6⟩ := HBs.out.cells7
          have fr := HBs.out.free
          go_wp2_with fail
          obtain ⟨W9, hW9⟩ : ∃ W, (wd.setCell ⟨bq, 5, none⟩ (.slice a2 start.length c2)).setCell ⟨bq, 6, none⟩ (.slice a3 ins.length c3) = W := ⟨_, rfl⟩
          rw [hW9] at hBE hA9 hq9 ⊢
          have HBE := Lib.hid hBE
          have HA9 := Lib.hid hA9
          have HQ9 := Lib.hid hq9
          clear hK hBE hA9 hq9 b5 b6 fr hW9 z0 z5 z6 HBs HB5 HQ5
          go_loopw [7, 8] (fun v7 v8 wr => ∃ k q : Nat, k ≤ ins.length ∧ v8 = .int .i64 k ∧ v7 = .int .i64 ((if k = 0 then 0 else (gb ins 0).length : Nat) : Int) ∧ (∀ j, j < k → (gb ins j).length = (gb ins 0).length) ∧ wr = W9.drewN q) (fun _ v8 _ => ins.length - (intOf v8).toNat)
          case atStart => exact ⟨0, 0, Nat.zero_le _, rfl, rfl, fun j hj => by omega, rfl⟩
          case round =>
            obtain ⟨k, q, hk, rfl, rfl, hall, hw⟩ := hrel
            have HAll := Lib.hid hall
            clear hall
            have hq9 := HQ9.out.drewN q
            have hA9 := HA9.out.drewN q
            rw [← hw] at hq9 hA9
            have HW := Lib.hid hw
            have HQr := Lib.hid hq9
            obtain ⟨-, -, -, -, -, -, k6⟩ := hA9.cells7
            clear hw hq9 hA9
            by_cases hlt : k < ins.length
            · have dd : decide ((k : Int) < (ins.length : Int)) = true := decide_eq_true (by omega)
              have HLT := Lib.hid hlt
              have i0 : (0 : Int) ≤ (k : Int) := by omega
              have i1 : (k : Int) < (ins.length : Int) := by omega
              have i2 : (0 : Int) < (ins.length : Int) := by omega
              obtain ⟨a3', c3', E3, _, _, _, hGA⟩ := HI.out.kp HQr.out
              simp only [Value.slice.injEq] at E3
              obtain ⟨rfl, _, rfl⟩ := E3
              obtain ⟨b, off, v, rfl, ck, hv⟩ := hGA.row hlt
              obtain ⟨b', off', v', e', c0, hv0⟩ := hGA.row (show 0 < ins.length by omega)
              cases e'
              simp only [Nat.add_zero] at c0
              obtain ⟨av, cv, rfl, _, _, _, _⟩ := hv
              obtain ⟨av0, cv0, rfl, _, _, _, _⟩ := hv0
              obtain ⟨m, hm⟩ : ∃ m, (gb ins k).length = m := ⟨_, rfl⟩
              obtain ⟨g, hg⟩ : ∃ g, (gb ins 0).length = g := ⟨_, rfl⟩
              rw [hm] at ck
              rw [hg] at c0 HAll ⊢
              clear hGA
              have HM2 := Lib.hid hm
              obtain ⟨t7, ht7⟩ : ∃ n : Nat, (if k = 0 then 0 else g) = n := ⟨_, rfl⟩
              rw [ht7]
              clear ht7
              by_cases hmg : m = g
              · have em : ((m : Int) != (g : Int)) = false := by simp [hmg]
                have HN : Hid (∀ j, j < k + 1 → (gb ins j).length = g) := by
                  show ∀ j, _
                  intro j hj
                  by_cases e : j = k
                  · subst e; rw [HM2.out, hmg]
                  · exact HAll.out j (by omega)
                have HS5 : Hid ((if k + 1 = 0 then 0 else g) = g) := by show _ = _; rw [if_neg (by omega)]
                clear hmg hm hg
                go_wp2_with fail
                go_quiet (fail)
                go_wp2_with fail
                go_roundw
                case rel => exact ⟨k + 1, _, Nat.succ_le_of_lt HLT.out, by go_num, by rw [HS5.out], HN.out, by rw [HW.out, World.drewN_drewN]⟩
                case measure => have := HLT.out; simp [intOf]; omega
              · have em : ((m : Int) != (g : Int)) = true := by simp; omega
                clear hmg hm hg
                go_wp2_with fail
                go_quiet (fail)
                go_wp2_with fail
                refine (HLv.out _ (HQr.out.drewN _)).mono ?_
                rintro e w3 ⟨rfl, hK3⟩
                have HQ7 := Lib.hid ((HQr.out.drewN _).trans hK3 (fun _ _ h => h))
                clear hK3
                go_wp2_with fail
                go_ret
                exact ⟨rfl, HQ7.out.below (Nat.le_refl _) (fun _ _ h => h)⟩
            · have dd : decide ((k : Int) < (ins.length : Int)) = false := decide_eq_false (by omega)
              obtain rfl : k = ins.length := by omega
              by_cases hn : ins.length = 0
              · have e0 : ((ins.length : Int) == 0) = true := by simp [hn]
                obtain ⟨t7, ht7⟩ : ∃ n : Nat, (if ins.length = 0 then 0 else (gb ins 0).length) = n := ⟨_, rfl⟩
                rw [ht7]
                clear ht7 hn
                go_wp2_with fail
                refine (HLv.out _ HQr.out).mono ?_
                rintro e w3 ⟨rfl, hK3⟩
                have HQ7 := Lib.hid (HQr.out.trans hK3 (fun _ _ h => h))
                clear hK3
                go_wp2_with fail
                go_ret
                exact ⟨rfl, HQ7.out.below (Nat.le_refl _) (fun _ _ h => h)⟩
              · have e0 : ((ins.length : Int) == 0) = false := beq_eq_false_iff_ne.2 (by omega)
                rw [if_neg hn]
                have HN := Lib.hid hn
                clear hn
                go_wp2_with fail
                go_meet
                case rel =>
                  refine ⟨(gb ins 0).length, _, _, start, ins, by rw [HX.out], rfl, ⟨HGd.out _ _ _ _ HSho.out (fun _ => ⟨fun e => HN.out (by rw [e]; rfl), rfl, fun x hx => ?_⟩) (fun h => absurd HC.out h), HQr.out, ?_, HS.out.kp HQr.out, HI.out.kp HQr.out⟩⟩
                  · obtain ⟨j, hj, rfl⟩ := List.mem_iff_getElem.1 hx
                    have := HAll.out j hj
                    unfold gb at this ⊢
                    rw [List.getElem?_eq_getElem hj] at this
                    exact this
                  · rw [HSS.out, HAA.out, HEE.out, HW.out]; exact HBE.out.drewN q
        · have d : ((kind : Int) == 2) = false := beq_eq_false_iff_ne.2 (by omega)
          have HX : Hid (bkP kind prop = 0) := by show _ = _; unfold bkP; rw [if_neg hc]
          have HC := Lib.hid hc
          clear hc
          go_wp2_with fail
          go_meet
          case rel =>
            refine ⟨0, _, _, [], [], by rw [HX.out]; rfl, rfl, ⟨HGd.out _ _ _ _ ⟨by simp, by simp, by simp⟩ (fun h => absurd h HC.out) (fun _ => ⟨rfl, rfl⟩), HQ5.out, ?_, bools_nil _, grid_nil _⟩⟩
            rw [HSS.out, HAA.out, HEE.out]; exact HBs.out
      case rest =>
        obtain ⟨inp, v5, v6, st, is, rfl, rfl, hSt⟩ := hcut
        obtain ⟨hgd, hq, hb, h5, h6⟩ := hSt
        have HGo := Lib.hid hgd
        rw [HSS.out, HAA.out, HEE.out] at hb HGo
        obtain ⟨PP, hPP⟩ : ∃ n, bkP kind prop = n := ⟨_, rfl⟩
        rw [hPP] at HGo ⊢
        clear hgd hPP HGd HSho HEr HS HI z0 z5 z6 HQ5 HB5 HBs HSS HAA HEE Hlt
        obtain ⟨X, hX⟩ : ∃ X : ByteArray, (⟨(vtext kind SS spent AA EE PP st is).toArray⟩ : ByteArray) = X := ⟨_, rfl⟩
        have hXd : X.data.toList = vtext kind SS spent AA EE PP st is := by rw [← hX]
        have hXz : X.size ≤ 100000 := by rw [← list_size, hXd]; exact vtext_size HGo.out
        have hG := HGo.out
        have HWr := Lib.hid (fun u (k : Kp (fun _ => False) wc u) => verdict_Write_good kind SS spent AA EE PP v5 v6 st is u (by omega) (by omega) (by have := hG.hstep; omega) (by have := hG.hspent; omega) (by have := hG.hat; omega) (by have := hG.herr; omega) (by have := hG.hprop; omega) (h5.kp k) (h6.kp k) hG.sh ((HT.out.kp hq).kp k) ((HWd.out.kp hq).kp k))
        rw [hX] at HWr
        have HRd := Lib.hid (fun u (k : Kp (fun _ => False) wc u) => verdict_Read_own X kind SS spent AA EE PP st is st.length inp u hG hXd hXz ((HT.out.kp hq).kp k) ((HM.out.kp hq).kp k) ((HWd.out.kp hq).kp k))
        have HSm := Lib.hid (fun u (k : Kp (fun _ => False) wc u) (x5 x6 : Value) (k5 : BoolsSl u x5 st) (k6 : GridSl u x6 is) => ref40_Same kind SS spent AA EE x5 x6 v5 v6 st is u k5 k6 (h5.kp k) (h6.kp k) (by have := hG.sh.2.1; omega))
        have HLw := Lib.hid (fun u (k : Kp (fun _ => False) wc u) => HLv.out u (hq.trans k (fun _ _ h => h)))
        have HQw := Lib.hid hq
        have HB1 := Lib.hid hb
        obtain ⟨p5, c5, rfl, -⟩ := h5
        obtain ⟨p6, c6, rfl, -⟩ := h6
        obtain ⟨n5, hn5⟩ : ∃ n, st.length = n := ⟨_, rfl⟩
        obtain ⟨n6, hn6⟩ : ∃ n, is.length = n := ⟨_, rfl⟩
        rw [hn5, hn6] at hb HB1 HWr HSm
        rw [hn5] at HRd
        have HN5 := Lib.hid hn5
        have HN6 := Lib.hid hn6
        have HSq := Lib.hid (fun (u : World) (h : Blk u bq #[.int .i64 kind, .int .i64 SS, .int .i64 spent, .int .i64 AA, .int .i64 EE, .slice p5 n5 c5, .slice p6 n6 c6] 28) => h.cells7)
        have ew : ((PP : Int) == (PP : Int)) = true := by simp
        clear hb hq hG hX hXd hXz hk h1 h2 h3 h4 HGo HT HM HWd HLv hn5 hn6
        go_upto_region 19 with (fail)
        obtain ⟨we, rfl⟩ : ∃ we : World, we = wc := ⟨_, rfl⟩
        go_cut [9, 10, 11] (fun s9 s10 s11 wx => ∃ (bx : Nat) (y5 : Option Addr) (d5 : Nat) (y6 : Option Addr) (d6 : Nat), s9 = .pointer (some ⟨bx, 0, none⟩) ∧ s10 = .int .i64 (PP : Nat) ∧ s11 = .int .i64 0 ∧ Kp (fun _ => False) we wx ∧ Blk wx bx #[.int .i64 kind, .int .i64 SS, .int .i64 spent, .int .i64 AA, .int .i64 EE, .slice y5 n5 d5, .slice y6 n6 d6] 28 ∧ Blk wx bq #[.int .i64 kind, .int .i64 SS, .int .i64 spent, .int .i64 AA, .int .i64 EE, .slice p5 n5 c5, .slice p6 n6 c6] 28 ∧ BoolsSl wx (.slice y5 n5 d5) st ∧ GridSl wx (.slice y6 n6 d6) is)
        case first =>
          obtain ⟨b0, b1, b2, b3, b4, b5, b6⟩ := HB1.out.drew.cells7
          go_region_held3 (fun u => u.cell? ⟨bq, 0, none⟩ = some (.int .i64 kind) ∧ u.cell? ⟨bq, 1, none⟩ = some (.int .i64 SS) ∧ u.cell? ⟨bq, 2, none⟩ = some (.int .i64 spent) ∧ u.cell? ⟨bq, 3, none⟩ = some (.int .i64 AA) ∧ u.cell? ⟨bq, 4, none⟩ = some (.int .i64 EE) ∧ u.cell? ⟨bq, 5, none⟩ = some (.slice p5 n5 c5) ∧ u.cell? ⟨bq, 6, none⟩ = some (.slice p6 n6 c6)) ((refine HSq.out _ ?_; repeat (first | (with_reducible exact HBn.out) | (with_reducible exact HBk.out) | (with_reducible exact HB1.out) | (with_reducible refine HBo.out _ _ _ ?_) | (with_reducible refine Blk.alloc ?_ _) | (with_reducible refine Blk.drew ?_)))) ((first
            | (go_at_call 7
               first
                 | (refine (HWr.out _ ((Kp.refl _ _).drew)).mono ?_
                    rintro e wk ⟨rfl, hKk⟩
                    have HKk := Lib.hid ((Kp.refl (fun _ => False) we).drew.trans hKk (fun _ _ h => h))
                    have HBk := Lib.hid (HB1.out.drew.kp hKk (fun h => h))
                    clear hKk)
                 | (refine (HWr.out _ ((Kp.refl _ _).drew.alloc _)).mono ?_
                    rintro e wk ⟨rfl, hKk⟩
                    have HKk := Lib.hid (((Kp.refl (fun _ => False) we).drew.alloc (.cells #[.int .i64 0, .int .i64 0, .int .i64 0, .int .i64 0, .int .i64 0, .slice none 0 0, .slice none 0 0] 28)).trans hKk (fun _ _ h => h))
                    have HBk := Lib.hid ((HB1.out.drew.alloc (.cells #[.int .i64 0, .int .i64 0, .int .i64 0, .int .i64 0, .int .i64 0, .slice none 0 0, .slice none 0 0] 28)).kp hKk (fun h => h))
                    have HN0 := Lib.hid (show Blk wk we.heap.size #[.int .i64 0, .int .i64 0, .int .i64 0, .int .i64 0, .int .i64 0, .slice none 0 0, .slice none 0 0] 28 from (Blk.new we.drew #[.int .i64 0, .int .i64 0, .int .i64 0, .int .i64 0, .int .i64 0, .slice none 0 0, .slice none 0 0] 28).kp hKk (fun h => h))
                    have HNl := Lib.hid (show bq ≠ we.heap.size by have := HB1.out.lt; omega)
                    have Hsz := Lib.hid (Nat.le_refl we.heap.size)
                    obtain ⟨bn, hbn⟩ : ∃ b, we.heap.size = b := ⟨_, rfl⟩
                    have Hsz2 := Lib.hid (show we.heap.size ≤ bn by omega)
                    rw [hbn] at HN0 HNl
                    clear Hsz
                    have Hsz := Hsz2
                    simp only [show we.drew.heap.size = we.heap.size from rfl, hbn]
                    clear hbn hKk))
            | (go_at_call 12
               first
                 | (have hlt9 := HN0.out.lt
                    refine (HRd.out _ HKk.out).mono ?_
                    rintro e wr ⟨⟨x5, x6, rows, rfl, k5, k6⟩, hKk⟩
                    have HKn := Lib.hid (HKk.out.trans hKk (fun _ _ h => h))
                    have HBn := Lib.hid (HBk.out.kp hKk (fun h => h))
                    have HN := Lib.hid (HN0.out.kp hKk (fun h => h))
                    have Hx := Lib.hid hlt9
                    clear hlt9
                    obtain ⟨a0, a1, a2, a3, a4, a5, a6⟩ := HN.out.cells7
                    have fn := HN.out.free
                    have HBo := Lib.hid (fun (u : World) (i : Nat) (x : Value) (h : Blk u bq #[.int .i64 kind, .int .i64 SS, .int .i64 spent, .int .i64 AA, .int .i64 EE, .slice p5 n5 c5, .slice p6 n6 c6] 28) => h.set_other (p := ⟨bn, i, none⟩) HNl.out x)
                    have K5 := Lib.hid k5
                    have K6 := Lib.hid k6
                    obtain ⟨y5, d5, rfl, -⟩ := k5.form
                    obtain ⟨y6, d6, rfl, -⟩ := k6.own.form
                    have el5 : (st.map Value.bool).length = n5 := by rw [List.length_map]; exact HN5.out
                    have el6 : rows.length = n6 := k6.len.trans HN6.out
                    rw [el5] at K5 ⊢
                    rw [el6] at K6 ⊢
                    clear hKk el5 el6 k5 k6)
                 | (refine (HRd.out _ HKk.out).mono ?_
                    rintro e wr ⟨⟨x5, x6, rows, rfl, k5, k6⟩, hKk⟩
                    have HKn := Lib.hid (HKk.out.trans hKk (fun _ _ h => h))
                    have HBn := Lib.hid (HBk.out.kp hKk (fun h => h))
                    have K5 := Lib.hid k5
                    have K6 := Lib.hid k6
                    obtain ⟨y5, d5, rfl, -⟩ := k5.form
                    obtain ⟨y6, d6, rfl, -⟩ := k6.own.form
                    have el5 : (st.map Value.bool).length = n5 := by rw [List.length_map]; exact HN5.out
                    have el6 : rows.length = n6 := k6.len.trans HN6.out
                    rw [el5] at K5 ⊢
                    rw [el6] at K6 ⊢
                    clear hKk el5 el6 k5 k6)
                 | (refine (HRd.out _ (HKk.out.alloc _)).mono ?_
                    rintro e wr ⟨⟨x5, x6, rows, rfl, k5, k6⟩, hKk⟩
                    have HKn := Lib.hid ((HKk.out.alloc (.cells #[.int .i64 0, .int .i64 0, .int .i64 0, .int .i64 0, .int .i64 0, .slice none 0 0, .slice none 0 0] 28)).trans hKk (fun _ _ h => h))
                    have HBn := Lib.hid ((HBk.out.alloc (.cells #[.int .i64 0, .int .i64 0, .int .i64 0, .int .i64 0, .int .i64 0, .slice none 0 0, .slice none 0 0] 28)).kp hKk (fun h => h))
                    have HN := Lib.hid ((Blk.new wk #[.int .i64 0, .int .i64 0, .int .i64 0, .int .i64 0, .int .i64 0, .slice none 0 0, .slice none 0 0] 28).kp hKk (fun h => h))
                    have Hsz := Lib.hid (show we.heap.size ≤ wk.heap.size from HKk.out.size)
                    have HNl := Lib.hid (show bq ≠ wk.heap.size by have := HBk.out.lt; omega)
                    rw [World.size_alloc] at k5 k6
                    obtain ⟨bn, hbn⟩ : ∃ b, wk.heap.size = b := ⟨_, rfl⟩
                    obtain ⟨zz, hzz⟩ : ∃ z, bn + 1 = z := ⟨_, rfl⟩
                    rw [hbn] at HN Hsz HNl k5 k6
                    rw [hzz] at k5 k6
                    have Hx := Lib.hid (show bn < zz by omega)
                    simp only [hbn]
                    clear hbn hzz
                    obtain ⟨a0, a1, a2, a3, a4, a5, a6⟩ := HN.out.cells7
                    have fn := HN.out.free
                    have HBo := Lib.hid (fun (u : World) (i : Nat) (x : Value) (h : Blk u bq #[.int .i64 kind, .int .i64 SS, .int .i64 spent, .int .i64 AA, .int .i64 EE, .slice p5 n5 c5, .slice p6 n6 c6] 28) => h.set_other (p := ⟨bn, i, none⟩) HNl.out x)
                    have K5 := Lib.hid k5
                    have K6 := Lib.hid k6
                    obtain ⟨y5, d5, rfl, -⟩ := k5.form
                    obtain ⟨y6, d6, rfl, -⟩ := k6.own.form
                    have el5 : (st.map Value.bool).length = n5 := by rw [List.length_map]; exact HN5.out
                    have el6 : rows.length = n6 := k6.len.trans HN6.out
                    rw [el5] at K5 ⊢
                    rw [el6] at K6 ⊢
                    clear hKk el5 el6 k5 k6))))
          all_goals first
            | (have hX := HN.out.set7 (.int .i64 kind) (.int .i64 SS) (.int .i64 spent) (.int .i64 AA) (.int .i64 EE) (.slice y5 n5 d5) (.slice y6 n6 d6)
               have hK := HKn.out.set7 (b := bn) (fun h => absurd h (Nat.not_lt.2 Hsz.out)) (.int .i64 kind) (.int .i64 SS) (.int .i64 spent) (.int .i64 AA) (.int .i64 EE) (.slice y5 n5 d5) (.slice y6 n6 d6)
               have hB := HBo.out _ 6 (.slice y6 n6 d6) (HBo.out _ 5 (.slice y5 n5 d5) (HBo.out _ 4 (.int .i64 EE) (HBo.out _ 3 (.int .i64 AA) (HBo.out _ 2 (.int .i64 spent) (HBo.out _ 1 (.int .i64 SS) (HBo.out _ 0 (.int .i64 kind) HBn.out))))))
               have hk9 := (Kp.refl (fun j => j = bn) wr).set7 (b := bn) (fun _ => rfl) (.int .i64 kind) (.int .i64 SS) (.int .i64 spent) (.int .i64 AA) (.int .i64 EE) (.slice y5 n5 d5) (.slice y6 n6 d6)
               have h5 := own_boolsSl (K5.out.kpS hk9 (fun _ h => h ▸ Hx.out))
               have h6 := own_gridSl (K6.out.kpS hk9 (fun _ h => h ▸ Hx.out))
               obtain ⟨bx, hbx⟩ : ∃ b, bn = b := ⟨_, rfl⟩
               obtain ⟨W9, hW9⟩ : ∃ W, (((((((wr.setCell ⟨bn, 0, none⟩ (.int .i64 kind)).setCell ⟨bn, 1, none⟩ (.int .i64 SS)).setCell ⟨bn, 2, none⟩ (.int .i64 spent)).setCell ⟨bn, 3, none⟩ (.int .i64 AA)).setCell ⟨bn, 4, none⟩ (.int .i64 EE)).setCell ⟨bn, 5, none⟩ (.slice y5 n5 d5)).setCell ⟨bn, 6, none⟩ (.slice y6 n6 d6)) = W := ⟨_, rfl⟩
               rw [hW9] at hX hK hB h5 h6 ⊢
               rw [hbx] at hX ⊢
               clear hW9 hk9 hbx a0 a1 a2 a3 a4 a5 a6 fn)
            | (have hX := Blk.new wr #[.int .i64 kind, .int .i64 SS, .int .i64 spent, .int .i64 AA, .int .i64 EE, .slice y5 n5 d5, .slice y6 n6 d6] 28
               have hB := HBn.out.alloc (.cells #[.int .i64 kind, .int .i64 SS, .int .i64 spent, .int .i64 AA, .int .i64 EE, .slice y5 n5 d5, .slice y6 n6 d6] 28)
               have hK := HKn.out.alloc (.cells #[.int .i64 kind, .int .i64 SS, .int .i64 spent, .int .i64 AA, .int .i64 EE, .slice y5 n5 d5, .slice y6 n6 d6] 28)
               have h5 := own_boolsSl (K5.out.kpS ((Kp.refl (fun _ => False) wr).alloc (.cells #[.int .i64 kind, .int .i64 SS, .int .i64 spent, .int .i64 AA, .int .i64 EE, .slice y5 n5 d5, .slice y6 n6 d6] 28)) (fun _ h => h.elim))
               have h6 := own_gridSl (K6.out.kpS ((Kp.refl (fun _ => False) wr).alloc (.cells #[.int .i64 kind, .int .i64 SS, .int .i64 spent, .int .i64 AA, .int .i64 EE, .slice y5 n5 d5, .slice y6 n6 d6] 28)) (fun _ h => h.elim))
               obtain ⟨bx, hbx⟩ : ∃ b, wr.heap.size = b := ⟨_, rfl⟩
               obtain ⟨W9, hW9⟩ : ∃ W, wr.alloc (.cells #[.int .i64 kind, .int .i64 SS, .int .i64 spent, .int .i64 AA, .int .i64 EE, .slice y5 n5 d5, .slice y6 n6 d6] 28) = W := ⟨_, rfl⟩
               rw [hW9] at hX hK hB h5 h6 ⊢
               rw [hbx] at hX ⊢
               clear hW9 hbx)
          all_goals go_wp2_with fail
          all_goals go_meet
          all_goals exact ⟨bx, y5, d5, y6, d6, rfl, rfl, rfl, hK, hX, hB, h5, h6⟩
        case rest =>
          obtain ⟨bx, y5, d5, y6, d6, rfl, rfl, rfl, hK, hX, hB, h5, h6⟩ := hcut
          obtain ⟨W9, rfl⟩ : ∃ W : World, W = wc := ⟨_, rfl⟩
          have HSz := Lib.hid (HSm.out W9 hK _ _ h5 h6)
          have HKz := Lib.hid hK
          obtain ⟨e0, e1, e2, e3, e4, e5, e6⟩ := hX.cells7
          obtain ⟨f0, f1, f2, f3, f4, f5, f6⟩ := hB.cells7
          clear hX hB hK h5 h6
          go_wp2_with fail
          refine HSz.out.mono ?_
          rintro e wz ⟨rfl, hKz⟩
          have HKy := Lib.hid (HKz.out.trans hKz (fun _ _ h => h))
          clear hKz e0 e1 e2 e3 e4 e5 e6 f0 f1 f2 f3 f4 f5 f6
          go_wp2_with fail
          refine (HLw.out _ HKy.out).mono ?_
          rintro e wy ⟨rfl, hKy⟩
          have HKx := Lib.hid (HQw.out.trans (HKy.out.trans hKy (fun _ _ h => h)) (fun _ _ h => h))
          clear hKy
          go_wp2_with fail
          go_ret
          exact ⟨rfl, HKx.out.below (Nat.le_refl _) (fun _ _ h => h)⟩


theorem verdictBack_walk (w : World) (v : Value) (hv : VerArg w v) (prop : Int) (wf : (Lit.int .u16 prop).wf = true) (ht : Tab w) (hwd : Wds w) (hm : ML w) :
    Calls Tryd.prog 4 #[v, .int .u16 prop] w fun e w' => e = .returned (.bool true) ∧ Below w.heap.size w w' := by
  obtain ⟨kind, step, spent, at_, err, v2, v3, start, ins, rfl, b1, b2, b3, b4, hs, hi⟩ := hv
  by_cases h : backGood kind step spent at_ start ins
  · obtain ⟨h0, h1, h2, h3, h4, h5, h6, h7, h8⟩ := h
    have hp := bounds_u16 wf
    obtain ⟨K, rfl⟩ : ∃ n : Nat, kind = n := ⟨kind.toNat, by omega⟩
    obtain ⟨S, rfl⟩ : ∃ n : Nat, step = n := ⟨step.toNat, by omega⟩
    obtain ⟨P, rfl⟩ : ∃ n : Nat, spent = n := ⟨spent.toNat, by omega⟩
    obtain ⟨A, rfl⟩ : ∃ n : Nat, at_ = n := ⟨at_.toNat, by omega⟩
    obtain ⟨R, rfl⟩ : ∃ n : Nat, prop = n := ⟨prop.toNat, by omega⟩
    exact verdictBack_tail K S P A err R v2 v3 start ins w hs hi h0 (by omega) (by omega) (by omega) (by omega) (by omega) ht hm hwd
  · exact verdictBack_bad kind step spent at_ err prop v2 v3 start ins w hs hi h ht hm hwd

end Go.Proofs.YtkgmiclmpfahlaaDoor

/-
  The package-level variables that the rows list: a world that holds them, and the table of powers of ten out of a row's list.
-/
namespace Go.Proofs.YtkgmiclmpfahlaaDoor
open Go.RowKit

def synS : ByteArray := { data := #[105, 110, 118, 97, 108, 105, 100, 32, 115, 121, 110, 116, 97, 120] }
def rangeS : ByteArray := { data := #[118, 97, 108, 117, 101, 32, 111, 117, 116, 32, 111, 102, 32, 114, 97, 110, 103, 101] }
noncomputable def low : Nat := (World.holding Tryd.prog default ⟨#[], #[], []⟩).heap.size

def putCells (g : Nat) (cs : Array Value) (w : World) : World :=
  { w with heap := w.heap.modify g fun
      | .cells _ t frozen => .cells cs t frozen
      | o => o }

def tab32 : Array Value := #[0, 1, 28, 2, 29, 14, 24, 3, 30, 22, 20, 15, 25, 17, 4, 8, 31, 27, 13, 23, 21, 19, 16, 7, 26, 12, 18, 6, 11, 5, 10, 9].map (Value.int .u8)
def tab64 : Array Value := #[0, 1, 56, 2, 57, 49, 28, 3, 61, 58, 42, 50, 38, 29, 17, 4, 62, 47, 59, 36, 45, 43, 51, 22, 53, 39, 33, 30, 24, 18, 12, 5, 63, 55, 48, 27, 60, 41, 37, 16, 46, 35, 44, 21, 52, 32, 23, 11, 54, 26, 40, 15, 34, 20, 31, 10, 25, 14, 19, 9, 13, 8, 7, 6].map (Value.int .u8)
def tabPow : Array Value := (Lib.pow10Tab.map (Value.int .u64)).toArray

noncomputable def laidWorld (os : Os) : World :=
  putCells 8 tab64 (putCells 7 tab32 (putCells 2 tabPow
    (putCells 4 #[.iface 132 (.pointer (some ⟨low + 1, 0, none⟩))] (putCells 3 #[.iface 132 (.pointer (some ⟨low, 0, none⟩))]
      (World.holding Tryd.prog os ⟨#[.cells #[.string synS] 134, .cells #[.string rangeS] 134], #[], []⟩)))))

theorem gPowType : (Tryd.prog.globals[2]?).map (·.type) = some 119 := by kernel_rfl
theorem cells64 : Tryd.prog.cellsOf 100 = 1 := by kernel_rfl
theorem cellsPow : Tryd.prog.cellsOf 119 = 20 := by kernel_rfl

theorem tab_of_laid {W : World} {x y : String × DataW Unit} {r : List (String × DataW Unit)}
    (h : laidMet Tryd.prog (x :: y :: ("internal/strconv.uint64pow10", Rows.laid_internal_strconv_uint64pow10) :: r) W) : Tab W :=
  Lib.tabIs_of_head (zs := Lib.pow10Tab) gPow gPowType Tryd.underlying119 Tryd.underlying100 cells64 cellsPow (laidMet.tail (laidMet.tail h))

end Go.Proofs.YtkgmiclmpfahlaaDoor

/-
  As Laid, with the two tables of unicode/utf8, and the library's MaxLen out of the world's shape.
-/
namespace Go.Proofs.YtkgmiclmpfahlaaDoor
open Go.RowKit

def tabFirst : Array Value := (Go.Pinned.utf8FirstZ.map (fun (n : Nat) => Value.int .u8 (n : Int))).toArray
def tabAccept : Array Value := #[128, 191, 160, 191, 128, 159, 144, 191, 128, 143, 0, 0, 0, 0, 0, 0, 0, 0, 0, 0, 0, 0, 0, 0, 0, 0, 0, 0, 0, 0, 0, 0].map (Value.int .u8)

noncomputable def laidWorld7 (os : Os) : World := putCells 5 tabFirst (putCells 6 tabAccept (laidWorld os))

theorem maxLen_cell {W : World} (h : W.ShapedOpen Tryd.prog) : ∃ m, W.cell? ⟨1, 0, none⟩ = some (.int .i64 m) :=
  cell_of_shapedOpen_int (t := 3) (zero := #[.int .i64 0]) h (of_decide_eq_true (by kernel_rfl)) (by kernel_rfl) rfl (by kernel_rfl) (by kernel_rfl) Tryd.underlying3

end Go.Proofs.YtkgmiclmpfahlaaDoor

/-
  As Laid7, with the words of latchet/verdict.
-/
namespace Go.Proofs.YtkgmiclmpfahlaaDoor
open Go.RowKit

/-- a row of texts as data -/
def strData {H : Type} (l : List (List UInt8)) : DataW H := .agg (l.map fun s => .lit (.string s))

def sixWords : List (List UInt8) := [vword 0, vword 1, vword 2, vword 3, vword 4, vword 5]
def tabWords : Array Value := (sixWords.map fun s => Value.string ⟨s.toArray⟩).toArray

noncomputable def laidWorld8 (os : Os) : World := putCells 0 tabWords (laidWorld7 os)

/-- an array of strings that reads as the texts holds the texts, cell for cell -/
theorem cells_of_strs {H : Type} {enc : TypeId × Value → H} {P : Program} {w : World} {base : Nat} {sp : Nat → Bool} {held : Bool} {fuel : Nat} {t e : TypeId} {n : Nat} {cs : List Value} {l : List (List UInt8)} {p : List MemPlace}
    (ht : P.underlying t = some (.array n e)) (he : P.underlying e = some .string) (hce : P.cellsOf e = 1) (hct : P.cellsOf t = n)
    (h : DataW.trod enc P w base sp held fuel t cs = some (strData l, p)) : cs = l.map fun s => Value.string ⟨s.toArray⟩ := by
  cases fuel with
  | zero => simp [DataW.trod] at h
  | succ fuel =>
    simp only [DataW.trod, ht, hce, hct, Nat.mul_one] at h
    split at h
    · rename_i hl
      obtain ⟨xs, hm, hx⟩ := Option.map_eq_some_iff.1 h
      have hxs : xs.map (·.1) = l.map fun s => (DataW.lit (.string s) : DataW H) := by
        have := congrArg Prod.fst hx
        simpa [strData] using this
      have hxl : xs.length = n := by simpa using Lib.mapM_length hm
      have hzl : l.length = n := by
        have := congrArg List.length hxs
        simp at this
        omega
      apply List.ext_getElem?
      intro i
      by_cases hi : i < n
      · obtain ⟨b, hb, hf⟩ := Lib.mapM_at hm i i (by simp [hi])
        obtain ⟨z, hc, rfl, _⟩ := DataW.trod_string he hf
        have h1 : cs[i]? = some (.string z) := by
          have := congrArg (·[0]?) hc
          simpa [List.getElem?_take, List.getElem?_drop] using this
        have h2 : (xs.map (·.1))[i]? = some (DataW.lit (.string z.data.toList) : DataW H) := by simp [hb]
        rw [hxs] at h2
        simp only [List.getElem?_map, Option.map_eq_some_iff, DataW.lit.injEq, Lit.string.injEq] at h2
        obtain ⟨z', hz', e⟩ := h2
        rw [List.getElem?_map, hz', h1, e]
        simp
      · rw [List.getElem?_eq_none (by omega), List.getElem?_eq_none (by simp; omega)]
    · cases h

theorem gWords : Tryd.prog.globalNamed "latchet/verdict.words" = some 0 := by kernel_rfl
theorem gWordsType : (Tryd.prog.globals[0]?).map (·.type) = some 42 := by kernel_rfl
theorem cellsStr : Tryd.prog.cellsOf 9 = 1 := by kernel_rfl
theorem cells6Str : Tryd.prog.cellsOf 42 = 6 := by kernel_rfl

theorem wds_of_head {W : World} {r : List (String × DataW Unit)} (h : laidMet Tryd.prog (("latchet/verdict.words", Rows.laid_latchet_verdict_words) :: r) W) : Wds W := by
  obtain ⟨ps, ⟨g', t', cs, fuel, p, q, hg', ht', hvar, hd, _, _⟩, _⟩ := h
  obtain rfl := Option.some.inj (gWords.symm.trans hg')
  obtain rfl := Option.some.inj (gWordsType.symm.trans ht')
  have hd' : DataW.trod _ _ _ _ _ _ fuel _ cs.toList = some (strData sixWords, p) := hd
  have hcs := cells_of_strs Tryd.underlying42 Tryd.underlying9 cellsStr cells6Str hd'
  have hc : cs = (sixWords.map fun s => Value.string ⟨s.toArray⟩).toArray := by rw [← hcs]
  subst hc
  intro k hk
  refine (World.var?_cell gWords hvar k).trans ?_
  match k, hk with
  | 0, _ => rfl
  | 1, _ => rfl
  | 2, _ => rfl
  | 3, _ => rfl
  | 4, _ => rfl
  | 5, _ => rfl

theorem wds_of_laid {W : World} {a b c d e f : String × DataW Unit} {r : List (String × DataW Unit)}
    (h : laidMet Tryd.prog (a :: b :: c :: d :: e :: f :: ("latchet/verdict.words", Rows.laid_latchet_verdict_words) :: r) W) : Wds W :=
  wds_of_head (laidMet.tail (laidMet.tail (laidMet.tail (laidMet.tail (laidMet.tail (laidMet.tail h))))))

end Go.Proofs.YtkgmiclmpfahlaaDoor
