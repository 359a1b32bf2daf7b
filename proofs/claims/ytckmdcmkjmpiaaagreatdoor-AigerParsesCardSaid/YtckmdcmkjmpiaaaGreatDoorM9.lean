/-
  tail.Read.
-/
import Derived.Test.YtckmdcmkjmpiaaaGreatDoorM8
import Derived.Test.YtckmdcmkjmpiaaaGreatDoorM1
import Derived.Deep.QuietTactic
import Derived.BigQuiet
import Derived.Deep.DeepCutAuto
import Derived.Test.YtckmdcmkjmpiaaaGreatDoorM3
import Derived.Test.YtckmdcmkjmpiaaaGreatDoorM7
set_option linter.unusedVariables false
set_option linter.unusedSimpArgs false
namespace Go.Proofs.YtckmdcmkjmpiaaaGreatDoor
open Go.RowKit

def symCells (x : Sym) : List Value := [.int .u8 (x.kind : Int), .int .i64 (x.idx : Int), .string x.name]
def symAt (x : Sym) : Nat × Nat := (x.kind, x.idx)

theorem any_contains (L : List Sym) (x : Sym) : (L.map symAt).contains (x.kind, x.idx) = L.any (fun y => alike y x) := by
  induction L with
  | nil => rfl
  | cons y L ih =>
    rw [List.map_cons, List.contains_cons, List.any_cons, ih]
    congr 1
    unfold alike symAt
    rw [Bool.eq_iff_iff]
    simp
    constructor
    · rintro ⟨h1, h2⟩; exact ⟨h1.symm, h2.symm⟩
    · rintro ⟨h1, h2⟩; exact ⟨h1.symm, h2.symm⟩

theorem mark_prefix {s : ByteArray} {p : Nat} (hp : p < s.size) : Lib.hasPrefix (s.extract p s.size).data.toList [99, 10] = decide (markAt s p) := by
  rw [Lib.extract_to_end]
  rw [Bool.eq_iff_iff, decide_eq_true_iff]
  unfold Lib.hasPrefix markAt
  have h0 : p < s.data.toList.length := by simpa using hp
  rw [List.drop_eq_getElem_cons h0]
  obtain ⟨b, hb, hb2⟩ := byte_at hp
  rw [List.getElem?_eq_getElem h0] at hb
  have e0 : s.data.toList[p] = b := Option.some.inj hb
  rw [e0]
  by_cases h1 : p + 1 < s.size
  · have h1' : p + 1 < s.data.toList.length := by simpa using h1
    rw [List.drop_eq_getElem_cons h1']
    obtain ⟨c, hc, hc2⟩ := byte_at h1
    rw [List.getElem?_eq_getElem h1'] at hc
    have e1 : s.data.toList[p + 1] = c := Option.some.inj hc
    rw [e1, ← hb2, ← hc2]
    simp only [List.isPrefixOf_cons_cons, List.isPrefixOf_nil_left, Bool.and_true, Bool.and_eq_true, beq_iff_eq]
    constructor
    · rintro ⟨r1, r2⟩; subst r1 r2; exact ⟨rfl, h1, rfl⟩
    · rintro ⟨r1, _, r2⟩; exact ⟨UInt8.toNat_inj.1 r1.symm, UInt8.toNat_inj.1 r2.symm⟩
  · rw [List.drop_eq_nil_of_le (by simp; omega)]
    constructor
    · intro h; simp [List.isPrefixOf] at h
    · intro h; exact absurd h.2.1 h1

theorem mark_rest {s : ByteArray} {p : Nat} (hp : p < s.size) (h : markAt s p) : (⟨(Lib.trimPrefix (s.extract p s.size).data.toList [99, 10]).toArray⟩ : ByteArray) = s.extract (p + 2) s.size := by
  unfold Lib.trimPrefix
  rw [mark_prefix hp]
  rw [if_pos (by simpa using h), Lib.extract_to_end]
  apply ByteArray.ext
  apply Array.ext'
  rw [Lib.extract_to_end]
  simp

theorem symT_err {h : Hd} {s : ByteArray} {p p' e : Nat} (hs : symT h s p = .bad p' e) : e ≠ 0 := by
  unfold symT at hs
  by_cases c1 : ¬ isKind (bt s p)
  · rw [if_pos c1] at hs; injection hs; omega
  rw [if_neg c1] at hs
  by_cases c2 : (natN s (p + 1)).2.2 ≠ 0
  · rw [if_pos c2] at hs; injection hs; omega
  rw [if_neg c2] at hs
  by_cases c3 : cnt h (bt s p) ≤ (natN s (p + 1)).1
  · rw [if_pos c3] at hs; injection hs; omega
  rw [if_neg c3] at hs
  by_cases c4 : (natN s (p + 1)).2.1 = s.size
  · rw [if_pos c4] at hs; injection hs; omega
  rw [if_neg c4] at hs
  by_cases c5 : bt s (natN s (p + 1)).2.1 ≠ 32
  · rw [if_pos c5] at hs; injection hs; omega
  rw [if_neg c5] at hs
  by_cases c6 : (lineT s ((natN s (p + 1)).2.1 + 1 : Nat)).2.2 ≠ 0
  · rw [if_pos c6] at hs; injection hs; omega
  rw [if_neg c6] at hs
  by_cases c7 : (lineT s ((natN s (p + 1)).2.1 + 1 : Nat)).1.size = 0
  · rw [if_pos c7] at hs; injection hs; omega
  rw [if_neg c7] at hs
  by_cases c8 : 64 < (lineT s ((natN s (p + 1)).2.1 + 1 : Nat)).1.size
  · rw [if_pos c8] at hs; injection hs; omega
  rw [if_neg c8] at hs
  cases hs

theorem symInfo : (Tryz.prog.info? 63).map (fun i => (i.zero, i.size, i.bytes)) = some (some (.agg #[.int .u8 0, .int .i64 0, .string .empty]), 3, 32) := by kernel_rfl

/-- what Read leaves -/
def ReadPost (R : TailR) (w : World) (e : Ending) (w' : World) : Prop :=
  ∃ v, e = .returned (.tuple #[v, .string R.c, .int .i64 (R.to : Int), .int .i64 (R.e : Int)]) ∧ OwnK w' w.heap.size 63 3 v (R.l.map symCells) ∧ Kp (fun _ => False) w w'

theorem readR_end {h : Hd} {s : ByteArray} {f p : Nat} {L : List Sym} (hp : ¬ p < s.size) (hf : 0 < f) : readR h s f L p = ⟨L, ⟨#[]⟩, s.size, 0⟩ := by
  obtain ⟨f, rfl⟩ : ∃ g, f = g + 1 := ⟨f - 1, by omega⟩
  simp [readR, show s.size ≤ p by omega]
theorem readR_mark {h : Hd} {s : ByteArray} {f p : Nat} {L : List Sym} (hp : p < s.size) (hf : 0 < f) (hm : markAt s p) : readR h s f L p = ⟨L, s.extract (p + 2) s.size, s.size, 0⟩ := by
  obtain ⟨f, rfl⟩ : ∃ g, f = g + 1 := ⟨f - 1, by omega⟩
  simp [readR, show ¬ s.size ≤ p by omega, hm]
theorem readR_bad {h : Hd} {s : ByteArray} {f p p' e : Nat} {L : List Sym} (hp : p < s.size) (hf : 0 < f) (hm : ¬ markAt s p) (hs : symT h s p = .bad p' e) : readR h s f L p = ⟨[], ⟨#[]⟩, p', e⟩ := by
  obtain ⟨f, rfl⟩ : ∃ g, f = g + 1 := ⟨f - 1, by omega⟩
  simp [readR, show ¬ s.size ≤ p by omega, hm, hs]
theorem readR_twice {h : Hd} {s : ByteArray} {f p next : Nat} {L : List Sym} {x : Sym} (hp : p < s.size) (hf : 0 < f) (hm : ¬ markAt s p) (hs : symT h s p = .ok x next) (ht : L.any (fun y => alike y x) = true) : readR h s f L p = ⟨[], ⟨#[]⟩, p, 7⟩ := by
  obtain ⟨f, rfl⟩ : ∃ g, f = g + 1 := ⟨f - 1, by omega⟩
  unfold readR
  rw [if_neg (by omega), if_neg hm, hs]
  simp only
  rw [if_pos ht]
theorem readR_more {h : Hd} {s : ByteArray} {f p next : Nat} {L : List Sym} {x : Sym} (hp : p < s.size) (hm : ¬ markAt s p) (hs : symT h s p = .ok x next) (ht : ¬ L.any (fun y => alike y x) = true) : readR h s (f + 1) L p = readR h s f (L ++ [x]) next := by
  conv => lhs; unfold readR
  rw [if_neg (by omega), if_neg hm, hs]
  simp only
  rw [if_neg ht]

set_option maxRecDepth 100000 in
set_option maxHeartbeats 4000000 in
theorem tail_Read_in (h : Hd) (s : ByteArray) (q : Nat) (w : World) (hs : s.size ≤ 100000) (hq : q ≤ s.size) :
    Calls Tryz.prog 15 #[.string s, .int .i64 q, hdV h] w (ReadPost (readR h s (s.size + 1) [] q) w) := by
  obtain ⟨R, hR⟩ : ∃ R, readR h s (s.size + 1) [] q = R := ⟨_, rfl⟩
  rw [hR]
  have HR := Lib.hid hR; clear hR
  have hmm := @run_makeMap Tryz.prog
  have g0 : decide ((q : Int) < 0) = false := by simp
  have g1 : decide (s.size < q) = false := by simp; omega
  have HSY := Lib.hid (fun p (hp : p < s.size) u => tail_symbol h s p u (by omega) hp)
  obtain ⟨hd, hhd⟩ : ∃ hd, hd = h := ⟨_, rfl⟩
  have HB0 := Lib.hid (Blk.new w (hdCells h) 42)
  rw [← hhd] at HR
  have HHD := Lib.hid hhd; clear hhd
  obtain ⟨bin, m, i, l, o, a, b, c⟩ := h
  unfold hdV at HSY ⊢
  unfold hdCells at HB0
  simp only at HB0 HSY ⊢
  rw [← HHD.out] at HSY
  clear HHD
  go_enter Tryz.func15, Tryz.ntmps15
  go_wp2_with fail
  go_loopw [1, 10] (fun v1 v10 wr => ∃ (p f : Nat) (L : List Sym), v1 = .int .i64 p ∧ p ≤ s.size ∧ s.size < p + f ∧ L.length ≤ p ∧ readR hd s f L p = R ∧ OwnK wr (w.heap.size + 2) 63 3 v10 (L.map symCells) ∧ Seen wr (w.heap.size + 1) L.length (L.map symAt) ∧ Blk wr w.heap.size #[.bool bin, .int .i64 m, .int .i64 i, .int .i64 l, .int .i64 o, .int .i64 a, .int .i64 b, .int .i64 c] 42 ∧ Kp (fun _ => False) w wr) (fun v1 _ _ => s.size - (intOf v1).toNat)
  case atStart => exact ⟨q, s.size + 1, [], rfl, hq, by omega, by simp, HR.out, OwnK.nil _ _ _ _, by have := Seen.made (w.alloc (.cells #[.bool bin, .int .i64 m, .int .i64 i, .int .i64 l, .int .i64 o, .int .i64 a, .int .i64 b, .int .i64 c] 42)); simpa using this, HB0.out.alloc _, ((Kp.refl _ w).alloc _).alloc _⟩
  case round =>
    obtain ⟨p, f, L, rfl, hp, hf, hLp, hRR, hO, hS, hB, hK⟩ := hrel
    have HRR := Lib.hid hRR; clear hRR
    have HS := Lib.hid hS
    have hb1 := hS.lt
    clear hS
    have HLP := Lib.hid hLp; clear hLp
    by_cases hlt : p < s.size
    · have p0 : (0 : Int) ≤ (p : Int) := by omega
      have p1 : (p : Int) ≤ (s.size : Int) := by omega
      have HM := Lib.hid (mark_prefix hlt)
      by_cases cm : markAt s p
      · have HRm := Lib.hid (readR_mark (h := hd) (L := L) (f := f) hlt (by omega) cm)
        have HRest := Lib.hid (mark_rest hlt cm)
        have CM := Lib.hid cm; clear cm
        go_wp2_with fail
        refine (Tryz.strings_CutPrefix _ _ _).mono ?_
        rintro e w' ⟨rfl, hw⟩
        have hw' := hw.symm; clear hw; subst hw'
        rw [show (({ data := #[99, 10] } : ByteArray).data.toList) = [99, 10] from rfl, HM.out, HRest.out, show decide (markAt s p) = true from decide_eq_true CM.out]
        have HEnd : Hid (ReadPost R w (.returned (.tuple #[u10, .string (s.extract (p + 2) s.size), .int .i64 (s.size : Int), .int .i64 0])) wr) := by
          show ReadPost _ _ _ _
          rw [← HRR.out, HRm.out]
          exact ⟨u10, rfl, hO.mono (by omega), hK⟩
        go_wp2_with fail
        exact bodyPost_ret (v := .tuple #[u10, .string (s.extract (p + 2) s.size), .int .i64 (s.size : Int), .int .i64 0]) (by simp [results, Tryz.results15, go_sem]) rfl HEnd.out
      · have HM0 := Lib.hid (show decide (markAt s p) = false from decide_eq_false cm)
        have CM := Lib.hid cm; clear cm
        have h0 := hB.cell (i := 0) rfl
        have h1 := hB.cell (i := 1) rfl
        have h2 := hB.cell (i := 2) rfl
        have h3 := hB.cell (i := 3) rfl
        have h4 := hB.cell (i := 4) rfl
        have h5 := hB.cell (i := 5) rfl
        have h6 := hB.cell (i := 6) rfl
        have h7 := hB.cell (i := 7) rfl
        have HBl := Lib.hid hB; clear hB
        have HOw := Lib.hid hO; clear hO
        go_wp2_with fail
        refine (Tryz.strings_CutPrefix _ _ _).mono ?_
        rintro e w' ⟨rfl, hw⟩
        have hw' := hw.symm; clear hw; subst hw'
        rw [show (({ data := #[99, 10] } : ByteArray).data.toList) = [99, 10] from rfl, HM.out, HM0.out]
        go_wp2_with fail
        refine (HSY.out p hlt _).mono ?_
        rintro e w2 ⟨he, hK2⟩
        have hKw2 := hK.trans hK2 (fun _ _ h => h)
        clear h0 h1 h2 h3 h4 h5 h6 h7 HM HM0
        obtain ⟨k, hk⟩ : ∃ k, bt s p = k := ⟨_, rfl⟩
        rw [hk] at he
        clear hk
        cases hsy : symT hd s p with
        | bad p' er =>
          have HEnd : Hid (ReadPost R w (.returned (.tuple #[.slice none 0 0, .string ⟨#[]⟩, .int .i64 (p' : Int), .int .i64 (er : Int)])) (w2.alloc (.cells #[.int .u8 (k : Int), .int .i64 0, .string ⟨#[]⟩] 63))) := by
            show ReadPost _ _ _ _
            rw [← HRR.out, readR_bad hlt (by omega) CM.out hsy]
            exact ⟨_, rfl, OwnK.nil _ _ _ _, hKw2.alloc _⟩
          have her : Hid (er ≠ 0) := symT_err hsy
          rw [hsy] at he
          clear hsy
          simp only [symOut] at he
          subst he
          have d1 : ((er : Int) != 0) = true := by have := her.out; simp; omega
          clear her
          go_wp2_with fail
          exact bodyPost_ret (v := .tuple #[.slice none 0 0, .string ⟨#[]⟩, .int .i64 (p' : Int), .int .i64 (er : Int)]) (by simp [results, Tryz.results15, go_sem]) rfl HEnd.out
        | ok x next =>
          obtain ⟨hx1, hx2, hx3, hx4, hx5⟩ := symT_ok hlt hsy
          have HSYM := Lib.hid hsy
          rw [hsy] at he
          clear hsy
          simp only [symOut] at he
          subst he
          have hsz2 := hK2.size
          have HS2 := Lib.hid ((HS.out.kp hK2 (fun h => h)).kp ((Kp.refl (fun _ => False) w2).alloc (.cells #[.int .u8 (x.kind : Int), .int .i64 (x.idx : Int), .string x.name] 63)) (fun h => h))
          have HB2 := Lib.hid ((HBl.out.kp hK2 (fun h => h)).alloc (.cells #[.int .u8 (x.kind : Int), .int .i64 (x.idx : Int), .string x.name] 63))
          have HO2 := Lib.hid ((HOw.out.kp hK2 (fun _ _ h => h)).alloc (.cells #[.int .u8 (x.kind : Int), .int .i64 (x.idx : Int), .string x.name] 63))
          have HX2 := Lib.hid (Blk.new w2 #[.int .u8 (x.kind : Int), .int .i64 (x.idx : Int), .string x.name] 63)
          have hKw2a := hKw2.alloc (.cells #[.int .u8 (x.kind : Int), .int .i64 (x.idx : Int), .string x.name] 63)
          clear HS HBl HOw hK2
          go_wp2_with fail
          refine (tail_thing _ _ _ _).mono ?_
          rintro e w3 ⟨rfl, hK3⟩
          have hKw3 := hKw2a.trans hK3 (fun _ _ h => h)
          have HS3 := Lib.hid (HS2.out.kp hK3 (fun h => h))
          have HB3 := Lib.hid (HB2.out.kp hK3 (fun h => h))
          have HO3 := Lib.hid (HO2.out.kp hK3 (fun _ _ h => h))
          have HX3 := Lib.hid (HX2.out.kp hK3 (fun h => h))
          have hlook := HS3.out.look hx3 hx4
          unfold symKey at hlook
          rw [any_contains] at hlook
          have hsz3 := hK3.size
          rw [World.size_alloc] at hsz3
          clear HS2 HB2 HO2 HX2 hK3
          by_cases ct : L.any (fun y => alike y x) = true
          · rw [ct] at hlook
            have HEnd : Hid (ReadPost R w (.returned (.tuple #[.slice none 0 0, .string ⟨#[]⟩, .int .i64 (p : Int), .int .i64 7])) w3) := by
              show ReadPost _ _ _ _
              rw [← HRR.out, readR_twice hlt (by omega) CM.out HSYM.out ct]
              exact ⟨_, rfl, OwnK.nil _ _ _ _, hKw3⟩
            clear ct
            go_wp2_with fail
            exact bodyPost_ret (v := .tuple #[.slice none 0 0, .string ⟨#[]⟩, .int .i64 (p : Int), .int .i64 7]) (by simp [results, Tryz.results15, go_sem]) rfl HEnd.out
          · have HRM : Hid (readR hd s (f - 1) (L ++ [x]) next = R) := by
              show _ = _
              rw [← HRR.out]
              obtain ⟨g, hg⟩ : ∃ g, f = g + 1 := ⟨f - 1, by omega⟩
              rw [hg, readR_more hlt CM.out HSYM.out ct]
              rfl
            have ct' : L.any (fun y => alike y x) = false := by simpa using ct
            rw [ct'] at hlook
            clear ct ct'
            have x0 := HX3.out.cell (i := 0) rfl
            have x1 := HX3.out.cell (i := 1) rfl
            have x2 := HX3.out.cell (i := 2) rfl
            go_wp2_with fail
            refine (tail_thing _ _ _ _).mono ?_
            rintro e w4 ⟨rfl, hK4⟩
            have hKw4 := hKw3.trans hK4 (fun _ _ h => h)
            have hlen := HLP.out
            obtain ⟨w5, hr5, hS5, hK5⟩ := (HS3.out.kp hK4 (fun h => h)).put (by unfold maxLen; omega) hx3 hx4
            unfold symKey at hr5
            have hKw5 := hKw4.trans hK5 (fun i hi e => by omega)
            have HB5 := Lib.hid ((HB3.out.kp hK4 (fun h => h)).kp hK5 (by omega))
            have HO5 := Lib.hid ((HO3.out.kp hK4 (fun _ _ h => h)).kp hK5 (fun j hj e => by have := (HO3.out.lt j hj).1; omega))
            have hX5 := (HX3.out.kp hK4 (fun h => h)).kp hK5 (by omega)
            clear x0 x1 x2 hlook
            have x0 := hX5.cell (i := 0) rfl
            have x1 := hX5.cell (i := 1) rfl
            have x2 := hX5.cell (i := 2) rfl
            have hsz4 := hK4.size
            have hsz5 := hK5.size
            have HS5 := Lib.hid hS5
            clear hX5 hK4 hK5 HS3 HB3 HO3 HX3 hS5
            go_wp2_with (at_builtin; refine wpList_appendK rfl _ _ 25 63 rfl Tryz.underlying25 symInfo rfl (by decide) (HO5.out.alloc _) rfl w5.heap.size (symCells x) rfl rfl ?c1 ?c2 ?c3 ?c4 ?c5 ?_)
            case c1 => intro j u hj; exact (Blk.new w5 (symCells x).toArray 63).cell (by simpa using hj)
            case c2 => intro u hu; simp [symCells] at hu; rcases hu with rfl | rfl | rfl <;> rfl
            case c3 => rw [List.length_map]; omega
            case c4 => rw [List.length_map]; unfold maxLen; omega
            case c5 => simp; omega
            intro v' w6 hO6 hg6 hat6
            have hK6 : Kp (fun j => u10.ownBlock = some j) w5 w6 := ((Kp.refl _ w5).alloc _).grown hg6 (fun j hj _ => hj)
            have hKw6 := hKw5.trans hK6 (fun j hj h => by have := (HO5.out.lt j h).1; omega)
            have hB6 := HB5.out.kp hK6 (fun h => by have := (HO5.out.lt _ h).1; omega)
            have hS6 := HS5.out.kp hK6 (fun h => by have := (HO5.out.lt _ h).1; omega)
            have HRel := Lib.hid (show ∃ (p f : Nat) (L : List Sym), Value.int .i64 (next : Int) = .int .i64 p ∧ p ≤ s.size ∧ s.size < p + f ∧ L.length ≤ p ∧ readR hd s f L p = R ∧ OwnK w6 (w.heap.size + 2) 63 3 v' (L.map symCells) ∧ Seen w6 (w.heap.size + 1) L.length (L.map symAt) ∧ Blk w6 w.heap.size #[.bool bin, .int .i64 m, .int .i64 i, .int .i64 l, .int .i64 o, .int .i64 a, .int .i64 b, .int .i64 c] 42 ∧ Kp (fun _ => False) w w6 from
              ⟨next, f - 1, L ++ [x], rfl, hx2, by omega, by rw [List.length_append]; simp; omega, HRM.out, by rw [List.map_append]; exact hO6, by rw [List.length_append, List.map_append]; exact hS6, hB6, hKw6⟩)
            clear hO6 hg6 hat6 hK6 hB6 hS6 hKw6 x0 x1 x2 hr5
            go_wp2_with fail
            go_roundw
            case rel => exact HRel.out
            case measure => simp [intOf]; omega
    · have HEnd : Hid (ReadPost R w (.returned (.tuple #[u10, .string ⟨#[]⟩, .int .i64 (s.size : Int), .int .i64 0])) wr) := by
        show ReadPost _ _ _ _
        rw [← HRR.out, readR_end hlt (by omega)]
        exact ⟨u10, rfl, hO.mono (by omega), hK⟩
      go_wp2_with fail
      exact bodyPost_ret (v := .tuple #[u10, .string ⟨#[]⟩, .int .i64 (s.size : Int), .int .i64 0]) (by simp [results, Tryz.results15, go_sem]) rfl HEnd.out

theorem readT_out {h : Hd} {s : ByteArray} {x : Int} (hx : x < 0 ∨ (s.size : Int) < x) : readT h s x = ⟨[], ⟨#[]⟩, 0, 1⟩ := by unfold readT; rw [if_pos hx]
theorem readT_in {h : Hd} {s : ByteArray} {q : Nat} (hq : q ≤ s.size) : readT h s q = readR h s (s.size + 1) [] q := by unfold readT; rw [if_neg (by omega), Int.toNat_natCast]

theorem tail_Read (h : Hd) (s : ByteArray) (x : Int) (w : World) (hs : s.size ≤ 100000) :
    Calls Tryz.prog 15 #[.string s, .int .i64 x, hdV h] w (ReadPost (readT h s x) w) := by
  by_cases hx : x < 0 ∨ (s.size : Int) < x
  · rw [readT_out hx]
    have HEnd : Hid (∀ w', Kp (fun _ => False) w w' → ReadPost ⟨[], ⟨#[]⟩, 0, 1⟩ w (.returned (.tuple #[.slice none 0 0, .string ⟨#[]⟩, .int .i64 0, .int .i64 1])) w') := fun w' hk => ⟨_, rfl, OwnK.nil _ _ _ _, hk⟩
    obtain ⟨bin, m, i, l, o, a, b, c⟩ := h
    unfold hdV
    simp only
    by_cases h0 : x < 0
    · have g0 : decide (x < 0) = true := by simp [h0]
      clear hx h0
      go_enter Tryz.func15, Tryz.ntmps15
      go_wp2_with fail
      exact bodyPost_ret (v := .tuple #[.slice none 0 0, .string ⟨#[]⟩, .int .i64 0, .int .i64 1]) (by simp [results, Tryz.results15, go_sem]) rfl (HEnd.out _ ((Kp.refl _ w).alloc _))
    · have g0 : decide (x < 0) = false := by simp [h0]
      have g1 : decide ((s.size : Int) < x) = true := by simp; omega
      clear hx h0
      go_enter Tryz.func15, Tryz.ntmps15
      go_wp2_with fail
      exact bodyPost_ret (v := .tuple #[.slice none 0 0, .string ⟨#[]⟩, .int .i64 0, .int .i64 1]) (by simp [results, Tryz.results15, go_sem]) rfl (HEnd.out _ ((Kp.refl _ w).alloc _))
  · obtain ⟨q, rfl⟩ := Int.eq_ofNat_of_zero_le (show 0 ≤ x by omega)
    rw [readT_in (by omega)]
    exact tail_Read_in h s q w hs (by omega)

end Go.Proofs.YtckmdcmkjmpiaaaGreatDoor

/-
  latchetref12: twice, Same, Read.
-/
namespace Go.Proofs.YtckmdcmkjmpiaaaGreatDoor
open Go.RowKit

def sy (L : List Sym) (k : Nat) : Sym := (L[k]?).getD ⟨0, 0, ⟨#[]⟩⟩
theorem sy_at {L : List Sym} {k : Nat} (h : k < L.length) : (L.map symCells)[k]? = some (symCells (sy L k)) := by
  simp [sy, List.getElem?_eq_getElem h]
theorem symCells_len (L : List Sym) : ∀ r ∈ L.map symCells, r.length = 3 := by
  intro r hr
  obtain ⟨x, _, rfl⟩ := List.mem_map.1 hr
  rfl

theorem sy_cells {w : World} {a : Option Addr} {L : List Sym} (h : RowAt w a (L.map symCells).flatten) {k : Nat} (hk : k < L.length) :
    ∃ b off, a = some ⟨b, off, none⟩ ∧ w.cell? ⟨b, off + k * 3, none⟩ = some (.int .u8 ((sy L k).kind : Int)) ∧ w.cell? ⟨b, off + k * 3 + 1, none⟩ = some (.int .i64 ((sy L k).idx : Int)) ∧ w.cell? ⟨b, off + k * 3 + 2, none⟩ = some (.string (sy L k).name) := by
  obtain ⟨b, off, e0, h0⟩ := h.cellAt (symCells_len L) (j := k) (i := 0) (sy_at hk) rfl
  obtain ⟨b1, off1, e1, h1⟩ := h.cellAt (symCells_len L) (j := k) (i := 1) (sy_at hk) rfl
  obtain ⟨b2, off2, e2, h2⟩ := h.cellAt (symCells_len L) (j := k) (i := 2) (sy_at hk) rfl
  obtain ⟨rfl, rfl⟩ : b = b1 ∧ off = off1 := by rw [e0] at e1; simpa using e1
  obtain ⟨rfl, rfl⟩ : b = b2 ∧ off = off2 := by rw [e0] at e2; simpa using e2
  exact ⟨b, off, e0, h0, h1, h2⟩

theorem any_take {L : List Sym} {x : Sym} {k : Nat} (hk : k < L.length) : (L.take (k + 1)).any (fun y => alike y x) = ((L.take k).any (fun y => alike y x) || alike (sy L k) x) := by
  rw [List.take_succ_eq_append_getElem hk, List.any_append]
  simp [sy, List.getElem?_eq_getElem hk]

set_option maxHeartbeats 1000000 in
theorem ref12_twice (a : Option Addr) (L : List Sym) (n cap : Nat) (x : Sym) (w : World) (hr : RowAt w a (L.map symCells).flatten) (hn : L.length = n) (hl : n ≤ 100000) :
    Calls Tryz.prog 50 #[.slice a n cap, .agg #[.int .u8 (x.kind : Int), .int .i64 (x.idx : Int), .string x.name]] w fun e w' => e = .returned (.bool (L.any (fun y => alike y x))) ∧ Kp (fun _ => False) w w' := by
  have HN := Lib.hid hn; clear hn
  have HR := Lib.hid (hr.kp ((Kp.refl (fun _ => False) w).alloc (.cells #[.int .u8 (x.kind : Int), .int .i64 (x.idx : Int), .string x.name] 63)) (fun _ _ h => h)); clear hr
  go_enter Tryz.func50, Tryz.ntmps50
  go_wp2_with fail
  go_loopw [5] (fun v5 wr => ∃ k q : Nat, k ≤ n ∧ v5 = .int .i64 k ∧ (L.take k).any (fun y => alike y x) = false ∧ wr = (w.alloc (.cells #[.int .u8 (x.kind : Int), .int .i64 (x.idx : Int), .string x.name] 63)).drewN q) (fun v5 _ => n - (intOf v5).toNat)
  case atStart => exact ⟨0, 0, Nat.zero_le _, rfl, by simp, rfl⟩
  case round =>
    obtain ⟨k, q, hk, rfl, ha, rfl⟩ := hrel
    have HA := Lib.hid ha; clear ha
    have hKe : Kp (fun _ => False) w ((w.alloc (.cells #[.int .u8 (x.kind : Int), .int .i64 (x.idx : Int), .string x.name] 63)).drewN q) := ((Kp.refl _ w).alloc _).drewN q
    by_cases hlt : k < n
    · obtain ⟨b, off, rfl, h0, h1, h2⟩ := sy_cells HR.out (k := k) (by rw [HN.out]; exact hlt)
      have i0 : (0 : Int) ≤ (k : Int) := by omega
      have i1 : (k : Int) < (n : Int) := by omega
      have HT := Lib.hid (any_take (L := L) (x := x) (k := k) (by rw [HN.out]; exact hlt))
      obtain ⟨y, hy⟩ : ∃ y, sy L k = y := ⟨_, rfl⟩
      rw [hy] at h0 h1 h2 HT
      clear hy
      by_cases c1 : y.kind = x.kind
      · have d1 : ((y.kind : Int) == (x.kind : Int)) = true := by simp [c1]
        by_cases c2 : y.idx = x.idx
        · have d2 : ((y.idx : Int) == (x.idx : Int)) = true := by simp [c2]
          have HE : Hid (L.any (fun y => alike y x) = true) := by
            show _ = _
            have h1 : (L.take (k + 1)).any (fun y => alike y x) = true := by rw [HT.out]; simp [alike, c1, c2]
            rw [List.any_eq_true] at h1 ⊢
            obtain ⟨z, hz, hz2⟩ := h1
            exact ⟨z, List.mem_of_mem_take hz, hz2⟩
          clear c1 c2
          go_wp2_with fail
          go_quiet (fail)
          go_wp2_with fail
          go_ret
          rw [HE.out]
          exact ⟨rfl, hKe.drewN _⟩
        · have d2 : ((y.idx : Int) == (x.idx : Int)) = false := by simp; omega
          have HE : Hid ((L.take (k + 1)).any (fun y => alike y x) = false) := by show _ = _; rw [HT.out, HA.out]; simp [alike, c2]
          clear c1 c2
          go_wp2_with fail
          go_quiet (fail)
          go_wp2_with fail
          go_roundw
          case rel => exact ⟨k + 1, _, by omega, by go_num, HE.out, rfl⟩
          case measure => simp [intOf]; omega
      · have d1 : ((y.kind : Int) == (x.kind : Int)) = false := by simp; omega
        have HE : Hid ((L.take (k + 1)).any (fun y => alike y x) = false) := by show _ = _; rw [HT.out, HA.out]; simp [alike, c1]
        clear c1
        go_wp2_with fail
        go_quiet (fail)
        go_wp2_with fail
        go_roundw
        case rel => exact ⟨k + 1, _, by omega, by go_num, HE.out, rfl⟩
        case measure => simp [intOf]; omega
    · have HE : Hid (L.any (fun y => alike y x) = false) := by
        show _ = _
        have h1 := HA.out
        rw [List.take_of_length_le (by rw [HN.out]; omega)] at h1
        exact h1
      go_wp2_with fail
      go_ret
      rw [HE.out]
      exact ⟨rfl, hKe⟩

end Go.Proofs.YtckmdcmkjmpiaaaGreatDoor

/-
  latchetref12.Read.
-/
namespace Go.Proofs.YtckmdcmkjmpiaaaGreatDoor
open Go.RowKit

theorem OwnK.empty {w : World} {base g : Nat} {e : TypeId} {k : Nat} (h : Blk w g #[] e) (hg : base ≤ g) : OwnK w base e k (.slice (some ⟨g, 0, none⟩) 0 0) [] :=
  ⟨⟨by simp, .inr ⟨g, 0, #[], rfl, hg, h, Nat.le_refl _, by simp [maxLen], by simp, by simp⟩⟩, fun r h => by cases h⟩

theorem natT_in {s : ByteArray} {p : Nat} (hp : p ≤ s.size) : natT s (p : Nat) = natN s p := by unfold natT; rw [if_neg (by omega), Int.toNat_natCast]

set_option maxRecDepth 100000 in
set_option maxHeartbeats 8000000 in
theorem ref12_Read_in (h : Hd) (s : ByteArray) (q : Nat) (w : World) (hs : s.size ≤ 100000) (hq : q ≤ s.size) :
    Calls Tryz.prog 20 #[.string s, .int .i64 q, hdV h] w (ReadPost (readR h s (s.size + 1) [] q) w) := by
  obtain ⟨R, hR⟩ : ∃ R, readR h s (s.size + 1) [] q = R := ⟨_, rfl⟩
  rw [hR]
  have HR := Lib.hid hR; clear hR
  have g0 : decide ((q : Int) < 0) = false := by simp
  have g1 : decide (s.size < q) = false := by simp; omega
  have HCT := Lib.hid (fun k u => ref12_Count h k u)
  obtain ⟨hd, hhd⟩ : ∃ hd, hd = h := ⟨_, rfl⟩
  have HB0 := Lib.hid (Blk.new w (hdCells h) 42)
  rw [← hhd] at HR
  have HHD := Lib.hid hhd; clear hhd
  obtain ⟨bin, m, i, l, o, a, b, c⟩ := h
  unfold hdV at HCT ⊢
  unfold hdCells at HB0
  simp only at HB0 HCT ⊢
  rw [← HHD.out] at HCT
  clear HHD
  go_enter Tryz.func20, Tryz.ntmps20
  go_wp2_with fail
  go_loopw [1, 10] (fun v1 v10 wr => ∃ (p f : Nat) (L : List Sym), v1 = .int .i64 p ∧ p ≤ s.size ∧ s.size < p + f ∧ L.length ≤ p ∧ readR hd s f L p = R ∧ OwnK wr (w.heap.size + 1) 63 3 v10 (L.map symCells) ∧ Blk wr w.heap.size #[.bool bin, .int .i64 m, .int .i64 i, .int .i64 l, .int .i64 o, .int .i64 a, .int .i64 b, .int .i64 c] 42 ∧ Kp (fun _ => False) w wr) (fun v1 _ _ => s.size - (intOf v1).toNat)
  case atStart =>
    refine ⟨q, s.size + 1, [], rfl, hq, by omega, by simp, HR.out, ?_, HB0.out.alloc _, ((Kp.refl _ w).alloc _).alloc _⟩
    have h1 := Blk.new (w.alloc (.cells #[.bool bin, .int .i64 m, .int .i64 i, .int .i64 l, .int .i64 o, .int .i64 a, .int .i64 b, .int .i64 c] 42)) #[] 63
    have h2 := OwnK.empty (k := 3) (base := w.heap.size + 1) h1 (by simp)
    simpa using h2
  case round =>
    obtain ⟨p, f, L, rfl, hp, hf, hLp, hRR, hO, hB, hK⟩ := hrel
    have HRR := Lib.hid hRR; clear hRR
    have HLP := Lib.hid hLp; clear hLp
    by_cases hlt : p < s.size
    · have p0 : (0 : Int) ≤ (p : Int) := by omega
      have p1 : (p : Int) < (s.size : Int) := by omega
      have hb := bt_eq hlt
      have hb2 := bt_lt s p
      by_cases cm : markAt s p
      · have HRm := Lib.hid (readR_mark (h := hd) (L := L) (f := f) hlt (by omega) cm)
        obtain ⟨m1, m2, m3⟩ := cm
        have hbn := bt_eq m2
        rw [m1] at hb
        rw [m3] at hbn
        clear m1 m3
        have n0 : (p : Int) + 1 < (s.size : Int) := by omega
        have n1 : decide ((p : Int) + 1 < (s.size : Int)) = true := by simp; omega
        have n2 : (p : Int) + 2 ≤ (s.size : Int) := by omega
        have n3 : (0 : Int) ≤ (p : Int) + 1 := by omega
        have n4 : (0 : Int) ≤ (p : Int) + 2 := by omega
        have n5 : ((p : Int) + 1).toNat = p + 1 := by omega
        have n6 : ((p : Int) + 2).toNat = p + 2 := by omega
        have HEnd : Hid (∀ q, ReadPost R w (.returned (.tuple #[u10, .string (s.extract (p + 2) s.size), .int .i64 (s.size : Int), .int .i64 0])) (wr.drewN q)) := by
          intro q
          rw [← HRR.out, HRm.out]
          exact ⟨u10, rfl, (hO.mono (by omega)).drewN _, hK.drewN _⟩
        clear HRm hO hB
        go_wp2_with fail
        go_quiet (fail)
        go_wp2_with fail
        exact bodyPost_ret (v := .tuple #[u10, .string (s.extract (p + 2) s.size), .int .i64 (s.size : Int), .int .i64 0]) (by simp [results, Tryz.results20, go_sem]) rfl (HEnd.out _)
      · have CM := Lib.hid cm
        obtain ⟨k, hk⟩ : ∃ k, bt s p = k := ⟨_, rfl⟩
        rw [hk] at hb hb2
        have HKK := Lib.hid hk
        have HM : Hid (((k : Int) == 99) = false ∨ ((k : Int) == 99) = true ∧ decide ((p : Int) + 1 < (s.size : Int)) = false ∨ ∃ (h : p + 1 < s.size) (z : Nat), ((k : Int) == 99) = true ∧ decide ((p : Int) + 1 < (s.size : Int)) = true ∧ (s[p + 1]'h).toNat = z ∧ ((z : Int) == 10) = false) := by
          show _ ∨ _
          unfold markAt at cm
          rw [hk] at cm
          by_cases e1 : k = 99
          · by_cases e2 : p + 1 < s.size
            · right; right
              refine ⟨e2, bt s (p + 1), by simp [e1], by simp; omega, bt_eq e2, ?_⟩
              have : bt s (p + 1) ≠ 10 := fun e => cm ⟨e1, e2, e⟩
              simp; omega
            · right; left
              exact ⟨by simp [e1], by simp; omega⟩
          · left
            simp; omega
        clear cm hk
        have n3 : (0 : Int) ≤ (p : Int) + 1 := by omega
        have n5 : ((p : Int) + 1).toNat = p + 1 := by omega
        have hKK2 := HKK.out
        clear hKK2
        go_upto_region 5 with fail
        go_cut [49] (fun s49 wx => s49 = .bool false ∧ wr = wx)
        case first =>
          rcases HM.out with h | ⟨h, h'⟩ | ⟨h, z, h1, h2, h3, h4⟩
          · go_wp2_with fail
            go_meet
            exact ⟨rfl, rfl⟩
          · go_wp2_with fail
            go_meet
            exact ⟨rfl, rfl⟩
          · have n0 : (p : Int) + 1 < (s.size : Int) := by omega
            go_wp2_with fail
            go_meet
            exact ⟨rfl, rfl⟩
        case rest =>
          obtain ⟨rfl, rfl⟩ := hcut
          clear HM
          go_upto_region 8 with fail
          go_cut [77] (fun s77 wx => s77 = .bool (!decide (isKind k)) ∧ wr = wx)
          case first =>
            by_cases ck : isKind k
            · have HD := Lib.hid (show (!decide (isKind k)) = false by simp [ck])
              rcases ck with e | e | e | e | e
              · have d1 : ((k : Int) != 105) = false := by simp; omega
                clear e
                go_wp2_with fail
                go_meet
                exact ⟨by rw [HD.out], rfl⟩
              · have d1 : ((k : Int) != 105) = true := by simp; omega
                have d2 : ((k : Int) != 108) = false := by simp; omega
                clear e
                go_wp2_with fail
                go_meet
                exact ⟨by rw [HD.out], rfl⟩
              · have d1 : ((k : Int) != 105) = true := by simp; omega
                have d2 : ((k : Int) != 108) = true := by simp; omega
                have d3 : ((k : Int) != 111) = false := by simp; omega
                clear e
                go_wp2_with fail
                go_meet
                exact ⟨by rw [HD.out], rfl⟩
              · have d1 : ((k : Int) != 105) = true := by simp; omega
                have d2 : ((k : Int) != 108) = true := by simp; omega
                have d3 : ((k : Int) != 111) = true := by simp; omega
                have d4 : ((k : Int) != 98) = false := by simp; omega
                clear e
                go_wp2_with fail
                go_meet
                exact ⟨by rw [HD.out], rfl⟩
              · have d1 : ((k : Int) != 105) = true := by simp; omega
                have d2 : ((k : Int) != 108) = true := by simp; omega
                have d3 : ((k : Int) != 111) = true := by simp; omega
                have d4 : ((k : Int) != 98) = true := by simp; omega
                have d5 : ((k : Int) != 99) = false := by simp; omega
                clear e
                go_wp2_with fail
                go_meet
                exact ⟨by rw [HD.out], rfl⟩
            · have HD := Lib.hid (show (!decide (isKind k)) = true by simp [ck])
              unfold isKind at ck
              have d1 : ((k : Int) != 105) = true := by simp; omega
              have d2 : ((k : Int) != 108) = true := by simp; omega
              have d3 : ((k : Int) != 111) = true := by simp; omega
              have d4 : ((k : Int) != 98) = true := by simp; omega
              have d5 : ((k : Int) != 99) = true := by simp; omega
              clear ck
              go_wp2_with fail
              go_meet
              exact ⟨by rw [HD.out], rfl⟩
          case rest =>
            obtain ⟨rfl, rfl⟩ := hcut
            by_cases ck : isKind k
            · have HD := Lib.hid (show (!decide (isKind k)) = false by simp [ck])
              rw [HD.out]
              have C1 : Hid (isKind (bt s p)) := by show isKind _; rw [HKK.out]; exact ck
              clear ck HD
              obtain ⟨n, en, er, hN⟩ : ∃ n en er, natN s (p + 1) = (n, en, er) := ⟨_, _, _, rfl⟩
              have HNE := Lib.hid (natN_end (s := s) (p := p + 1) (by omega))
              have HN := Lib.hid (fun u => ref_Nat s ((p + 1 : Nat) : Int) u (by omega))
              rw [natT_in (by omega), hN] at HN
              rw [hN] at HNE
              unfold tripI at HN
              have HNN := Lib.hid hN; clear hN
              obtain ⟨C, hC⟩ : ∃ C, cnt hd k = C := ⟨_, rfl⟩
              have HCT2 := Lib.hid (fun u => HCT.out k u)
              rw [hC] at HCT2
              have HCC : Hid (cnt hd (bt s p) = C) := by show _ = _; rw [HKK.out]; exact hC
              clear hC
              have h0 := hB.cell (i := 0) rfl
              have h1 := hB.cell (i := 1) rfl
              have h2 := hB.cell (i := 2) rfl
              have h3 := hB.cell (i := 3) rfl
              have h4 := hB.cell (i := 4) rfl
              have h5 := hB.cell (i := 5) rfl
              have h6 := hB.cell (i := 6) rfl
              have h7 := hB.cell (i := 7) rfl
              have HBl := Lib.hid hB; clear hB
              have HOw := Lib.hid hO; clear hO
              go_wp2_with fail
              refine (HN.out _).mono ?_
              rintro e w' ⟨rfl, rfl⟩
              by_cases c2 : er = 0
              · obtain ⟨hne1, hne2, hne3⟩ := HNE.out c2
                have d2 : ((er : Int) == 0) = true := by simp; omega
                have d2b : ((er : Int) != 0) = false := by simp; omega
                have C2 := Lib.hid c2; clear c2
                go_wp2_with fail
                refine (HCT2.out _).mono ?_
                rintro e w2 ⟨rfl, hK2⟩
                have hKw2 := hK.trans hK2 (fun _ _ h => h)
                clear h0 h1 h2 h3 h4 h5 h6 h7
                have HB2 := Lib.hid (HBl.out.kp hK2 (fun h => h))
                have HO2 := Lib.hid (HOw.out.kp hK2 (fun _ _ h => h))
                have hsz2 := hK2.size
                clear HBl HOw hK2
                by_cases c3 : C ≤ (n : Int)
                · have HT := Lib.hid (sym2 (h := hd) C1.out HNN.out C2.out (by rw [HCC.out]; exact c3))
                  have d3 : decide (C ≤ (n : Int)) = true := by simp [c3]
                  clear c3
                  have HEnd : Hid (ReadPost R w (.returned (.tuple #[.slice none 0 0, .string ⟨#[]⟩, .int .i64 ((p : Int) + 1), .int .i64 5])) w2) := by
                    show ReadPost _ _ _ _
                    rw [← HRR.out, readR_bad hlt (by omega) CM.out HT.out]
                    exact ⟨_, by simp, OwnK.nil _ _ _ _, hKw2⟩
                  go_wp2_with fail
                  exact bodyPost_ret (v := .tuple #[.slice none 0 0, .string ⟨#[]⟩, .int .i64 ((p : Int) + 1), .int .i64 5]) (by simp [results, Tryz.results20, go_sem]) rfl HEnd.out
                · have d3 : decide (C ≤ (n : Int)) = false := by simp [c3]
                  have C3 : Hid (¬ cnt hd (bt s p) ≤ (n : Int)) := by show ¬ _; rw [HCC.out]; exact c3
                  clear c3
                  by_cases c4 : en = s.size
                  · have HT := Lib.hid (sym3 (h := hd) C1.out HNN.out C2.out C3.out c4)
                    have d4 : ((en : Int) == (s.size : Int)) = true := by simp [c4]
                    clear c4
                    have HEnd : Hid (ReadPost R w (.returned (.tuple #[.slice none 0 0, .string ⟨#[]⟩, .int .i64 (en : Int), .int .i64 3])) w2) := by
                      show ReadPost _ _ _ _
                      rw [← HRR.out, readR_bad hlt (by omega) CM.out HT.out]
                      exact ⟨_, by simp, OwnK.nil _ _ _ _, hKw2⟩
                    go_wp2_with fail
                    exact bodyPost_ret (v := .tuple #[.slice none 0 0, .string ⟨#[]⟩, .int .i64 (en : Int), .int .i64 3]) (by simp [results, Tryz.results20, go_sem]) rfl HEnd.out
                  · have d4 : ((en : Int) == (s.size : Int)) = false := by simp; omega
                    have hlt2 : en < s.size := by omega
                    have hbe := bt_eq hlt2
                    have e0 : (0 : Int) ≤ (en : Int) := by omega
                    have e1 : (en : Int) < (s.size : Int) := by omega
                    have C4 := Lib.hid c4; clear c4
                    obtain ⟨B, hBB⟩ : ∃ B, bt s en = B := ⟨_, rfl⟩
                    rw [hBB] at hbe
                    have HBE := Lib.hid hBB; clear hBB
                    by_cases c5 : B = 32
                    · have d5 : ((B : Int) != 32) = false := by simp; omega
                      obtain ⟨nm, nx, ff, hL⟩ : ∃ nm nx f, lineT s (en + 1 : Nat) = (nm, nx, f) := ⟨_, _, _, rfl⟩
                      have HL := Lib.hid (fun u => ref_Line_in s (en + 1) u (by omega) (by omega))
                      unfold lineV at HL
                      rw [hL] at HL
                      have HLL := Lib.hid hL; clear hL
                      have C5 : Hid (bt s en = 32) := by show _ = _; rw [HBE.out]; exact c5
                      clear c5
                      by_cases c6 : ff = 0
                      · have d6 : ((ff : Int) == 0) = true := by simp; omega
                        have d6b : ((ff : Int) != 0) = false := by simp; omega
                        have C6 := Lib.hid c6; clear c6
                        by_cases c7 : nm.size = 0
                        · have HT := Lib.hid (sym6 (h := hd) C1.out HNN.out C2.out C3.out C4.out C5.out HLL.out C6.out c7)
                          have d7 := bytes_empty c7
                          subst d7
                          clear c7
                          have HEnd : Hid (ReadPost R w (.returned (.tuple #[.slice none 0 0, .string ⟨#[]⟩, .int .i64 ((en : Int) + 1), .int .i64 2])) w2) := by
                            show ReadPost _ _ _ _
                            rw [← HRR.out, readR_bad hlt (by omega) CM.out HT.out]
                            exact ⟨_, by simp, OwnK.nil _ _ _ _, hKw2⟩
                          go_wp2_with fail
                          refine (HL.out _).mono ?_
                          rintro e w' ⟨rfl, rfl⟩
                          go_wp2_with fail
                          exact bodyPost_ret (v := .tuple #[.slice none 0 0, .string ⟨#[]⟩, .int .i64 ((en : Int) + 1), .int .i64 2]) (by simp [results, Tryz.results20, go_sem]) rfl HEnd.out
                        · have d7 := bytes_some c7
                          have C7 := Lib.hid c7; clear c7
                          by_cases c8 : 64 < nm.size
                          · have HT := Lib.hid (sym7 (h := hd) C1.out HNN.out C2.out C3.out C4.out C5.out HLL.out C6.out C7.out c8)
                            have d8 : decide ((64 : Int) < (nm.size : Int)) = true := by simp; omega
                            clear c8
                            have HEnd : Hid (ReadPost R w (.returned (.tuple #[.slice none 0 0, .string ⟨#[]⟩, .int .i64 ((en : Int) + 1), .int .i64 4])) w2) := by
                              show ReadPost _ _ _ _
                              rw [← HRR.out, readR_bad hlt (by omega) CM.out HT.out]
                              exact ⟨_, by simp, OwnK.nil _ _ _ _, hKw2⟩
                            go_wp2_with fail
                            refine (HL.out _).mono ?_
                            rintro e w' ⟨rfl, rfl⟩
                            go_wp2_with fail
                            exact bodyPost_ret (v := .tuple #[.slice none 0 0, .string ⟨#[]⟩, .int .i64 ((en : Int) + 1), .int .i64 4]) (by simp [results, Tryz.results20, go_sem]) rfl HEnd.out
                          · have HT := Lib.hid (sym8 (h := hd) C1.out HNN.out C2.out C3.out C4.out C5.out HLL.out C6.out C7.out c8)
                            obtain ⟨hx1, hx2, hx3, hx4, hx5⟩ := symT_ok hlt HT.out
                            rw [HKK.out] at HT hx3
                            have d8 : decide ((64 : Int) < (nm.size : Int)) = false := by simp; omega
                            clear c8
                            have hlen := HLP.out
                            have hszr := hK.size
                            have HO3 := Lib.hid (HO2.out.alloc (.cells #[.int .u8 (k : Int), .int .i64 (n : Int), .string nm] 63))
                            have HB3 := Lib.hid (HB2.out.alloc (.cells #[.int .u8 (k : Int), .int .i64 (n : Int), .string nm] 63))
                            have HX3 := Lib.hid (Blk.new w2 #[.int .u8 (k : Int), .int .i64 (n : Int), .string nm] 63)
                            have hKw3 := hKw2.alloc (.cells #[.int .u8 (k : Int), .int .i64 (n : Int), .string nm] 63)
                            obtain ⟨av, cv, hav, _, _, _, _, hrv⟩ := HO3.out.form
                            rw [List.length_map] at hav
                            subst hav
                            have HTW := Lib.hid (ref12_twice av L L.length cv ⟨k, n, nm⟩ _ hrv rfl (by omega))
                            simp only at HTW
                            clear hrv
                            go_wp2_with fail
                            refine (HL.out _).mono ?_
                            rintro e w' ⟨rfl, rfl⟩
                            go_wp2_with fail
                            refine HTW.out.mono ?_
                            rintro e w4 ⟨rfl, hK4⟩
                            have hKw4 := hKw3.trans hK4 (fun _ _ h => h)
                            have HO4 := Lib.hid (HO3.out.kp hK4 (fun _ _ h => h))
                            have HB4 := Lib.hid (HB3.out.kp hK4 (fun h => h))
                            have hX4 := HX3.out.kp hK4 (fun h => h)
                            have hsz4 := hK4.size
                            rw [World.size_alloc] at hsz4
                            clear HO3 HB3 HX3 HTW hK4 HO2 HB2
                            by_cases ct : L.any (fun y => alike y ⟨k, n, nm⟩) = true
                            · have HEnd : Hid (ReadPost R w (.returned (.tuple #[.slice none 0 0, .string ⟨#[]⟩, .int .i64 (p : Int), .int .i64 7])) w4) := by
                                show ReadPost _ _ _ _
                                rw [← HRR.out, readR_twice hlt (by omega) CM.out HT.out ct]
                                exact ⟨_, rfl, OwnK.nil _ _ _ _, hKw4⟩
                              rw [ct]
                              clear ct
                              go_wp2_with fail
                              exact bodyPost_ret (v := .tuple #[.slice none 0 0, .string ⟨#[]⟩, .int .i64 (p : Int), .int .i64 7]) (by simp [results, Tryz.results20, go_sem]) rfl HEnd.out
                            · have HRM : Hid (readR hd s (f - 1) (L ++ [⟨k, n, nm⟩]) nx = R) := by
                                show _ = _
                                rw [← HRR.out]
                                obtain ⟨g, hg⟩ : ∃ g, f = g + 1 := ⟨f - 1, by omega⟩
                                rw [hg, readR_more hlt CM.out HT.out ct]
                                rfl
                              have ct' : L.any (fun y => alike y ⟨k, n, nm⟩) = false := by simpa using ct
                              rw [ct']
                              clear ct ct'
                              have x0 := hX4.cell (i := 0) rfl
                              have x1 := hX4.cell (i := 1) rfl
                              have x2 := hX4.cell (i := 2) rfl
                              clear hX4
                              go_wp2_with (at_builtin; refine wpList_appendK rfl _ _ 25 63 rfl Tryz.underlying25 symInfo rfl (by decide) (HO4.out.alloc _) rfl w4.heap.size (symCells ⟨k, n, nm⟩) rfl rfl ?c1 ?c2 ?c3 ?c4 ?c5 ?_)
                              case c1 => intro j u hj; exact (Blk.new w4 (symCells ⟨k, n, nm⟩).toArray 63).cell (by simpa using hj)
                              case c2 => intro u hu; simp [symCells] at hu; rcases hu with rfl | rfl | rfl <;> rfl
                              case c3 => rw [List.length_map]; omega
                              case c4 => rw [List.length_map]; unfold maxLen; omega
                              case c5 => simp; omega
                              intro v' w6 hO6 hg6 hat6
                              have hK6 : Kp (fun j => (Value.slice av L.length cv).ownBlock = some j) w4 w6 := ((Kp.refl _ w4).alloc _).grown hg6 (fun j hj _ => hj)
                              have hKw6 := hKw4.trans hK6 (fun j hj h => by have := (HO4.out.lt j h).1; omega)
                              have hB6 := HB4.out.kp hK6 (fun h => by have := (HO4.out.lt _ h).1; omega)
                              have HRel := Lib.hid (show ∃ (p f : Nat) (L : List Sym), Value.int .i64 (nx : Int) = .int .i64 p ∧ p ≤ s.size ∧ s.size < p + f ∧ L.length ≤ p ∧ readR hd s f L p = R ∧ OwnK w6 (w.heap.size + 1) 63 3 v' (L.map symCells) ∧ Blk w6 w.heap.size #[.bool bin, .int .i64 m, .int .i64 i, .int .i64 l, .int .i64 o, .int .i64 a, .int .i64 b, .int .i64 c] 42 ∧ Kp (fun _ => False) w w6 from
                                ⟨nx, f - 1, L ++ [⟨k, n, nm⟩], rfl, hx2, by omega, by rw [List.length_append]; simp; omega, HRM.out, by rw [List.map_append]; exact hO6, hB6, hKw6⟩)
                              clear hO6 hg6 hat6 hK6 hB6 hKw6 x0 x1 x2
                              go_wp2_with fail
                              go_roundw
                              case rel => exact HRel.out
                              case measure => simp [intOf]; omega
                      · have d6 : ((ff : Int) == 0) = false := by simp; omega
                        have d6b : ((ff : Int) != 0) = true := by simp; omega
                        have HT := Lib.hid (sym5 (h := hd) C1.out HNN.out C2.out C3.out C4.out C5.out HLL.out c6)
                        clear c6
                        have HEnd : Hid (ReadPost R w (.returned (.tuple #[.slice none 0 0, .string ⟨#[]⟩, .int .i64 ((en : Int) + 1), .int .i64 (ff : Int)])) w2) := by
                          show ReadPost _ _ _ _
                          rw [← HRR.out, readR_bad hlt (by omega) CM.out HT.out]
                          exact ⟨_, by simp, OwnK.nil _ _ _ _, hKw2⟩
                        go_wp2_with fail
                        refine (HL.out _).mono ?_
                        rintro e w' ⟨rfl, rfl⟩
                        go_wp2_with fail
                        exact bodyPost_ret (v := .tuple #[.slice none 0 0, .string ⟨#[]⟩, .int .i64 ((en : Int) + 1), .int .i64 (ff : Int)]) (by simp [results, Tryz.results20, go_sem]) rfl HEnd.out
                    · have HT := Lib.hid (sym4 (h := hd) C1.out HNN.out C2.out C3.out C4.out (by rw [HBE.out]; exact c5))
                      have d5 : ((B : Int) != 32) = true := by simp; omega
                      clear c5
                      have HEnd : Hid (ReadPost R w (.returned (.tuple #[.slice none 0 0, .string ⟨#[]⟩, .int .i64 (en : Int), .int .i64 2])) w2) := by
                        show ReadPost _ _ _ _
                        rw [← HRR.out, readR_bad hlt (by omega) CM.out HT.out]
                        exact ⟨_, by simp, OwnK.nil _ _ _ _, hKw2⟩
                      go_wp2_with fail
                      exact bodyPost_ret (v := .tuple #[.slice none 0 0, .string ⟨#[]⟩, .int .i64 (en : Int), .int .i64 2]) (by simp [results, Tryz.results20, go_sem]) rfl HEnd.out
              · have HT := Lib.hid (sym1 (h := hd) C1.out HNN.out c2)
                have d2 : ((er : Int) == 0) = false := by simp; omega
                have d2b : ((er : Int) != 0) = true := by simp; omega
                clear c2
                have HEnd : Hid (ReadPost R w (.returned (.tuple #[.slice none 0 0, .string ⟨#[]⟩, .int .i64 ((p : Int) + 1), .int .i64 (er : Int)])) wr) := by
                  show ReadPost _ _ _ _
                  rw [← HRR.out, readR_bad hlt (by omega) CM.out HT.out]
                  exact ⟨_, by simp, OwnK.nil _ _ _ _, hK⟩
                go_wp2_with fail
                exact bodyPost_ret (v := .tuple #[.slice none 0 0, .string ⟨#[]⟩, .int .i64 ((p : Int) + 1), .int .i64 (er : Int)]) (by simp [results, Tryz.results20, go_sem]) rfl HEnd.out
            · have HD := Lib.hid (show (!decide (isKind k)) = true by simp [ck])
              rw [HD.out]
              have HT := Lib.hid (symT_kind (h := hd) (s := s) (p := p) (by rw [HKK.out]; exact ck))
              clear ck HD
              have HEnd : Hid (ReadPost R w (.returned (.tuple #[.slice none 0 0, .string ⟨#[]⟩, .int .i64 (p : Int), .int .i64 2])) wr) := by
                show ReadPost _ _ _ _
                rw [← HRR.out, readR_bad hlt (by omega) CM.out HT.out]
                exact ⟨_, by simp, OwnK.nil _ _ _ _, hK⟩
              go_wp2_with fail
              exact bodyPost_ret (v := .tuple #[.slice none 0 0, .string ⟨#[]⟩, .int .i64 (p : Int), .int .i64 2]) (by simp [results, Tryz.results20, go_sem]) rfl HEnd.out
    · have HEnd : Hid (ReadPost R w (.returned (.tuple #[u10, .string ⟨#[]⟩, .int .i64 (s.size : Int), .int .i64 0])) wr) := by
        show ReadPost _ _ _ _
        rw [← HRR.out, readR_end hlt (by omega)]
        exact ⟨u10, rfl, hO.mono (by omega), hK⟩
      go_wp2_with fail
      exact bodyPost_ret (v := .tuple #[u10, .string ⟨#[]⟩, .int .i64 (s.size : Int), .int .i64 0]) (by simp [results, Tryz.results20, go_sem]) rfl HEnd.out

set_option maxRecDepth 100000 in
theorem ref12_Read (h : Hd) (s : ByteArray) (x : Int) (w : World) (hs : s.size ≤ 100000) :
    Calls Tryz.prog 20 #[.string s, .int .i64 x, hdV h] w (ReadPost (readT h s x) w) := by
  by_cases hx : x < 0 ∨ (s.size : Int) < x
  · rw [readT_out hx]
    have HEnd : Hid (∀ w', Kp (fun _ => False) w w' → ReadPost ⟨[], ⟨#[]⟩, 0, 1⟩ w (.returned (.tuple #[.slice none 0 0, .string ⟨#[]⟩, .int .i64 0, .int .i64 1])) w') := fun w' hk => ⟨_, rfl, OwnK.nil _ _ _ _, hk⟩
    obtain ⟨bin, m, i, l, o, a, b, c⟩ := h
    unfold hdV
    simp only
    by_cases h0 : x < 0
    · have g0 : decide (x < 0) = true := by simp [h0]
      clear hx h0
      go_enter Tryz.func20, Tryz.ntmps20
      go_wp2_with fail
      exact bodyPost_ret (v := .tuple #[.slice none 0 0, .string ⟨#[]⟩, .int .i64 0, .int .i64 1]) (by simp [results, Tryz.results20, go_sem]) rfl (HEnd.out _ (((Kp.refl _ w).alloc _).alloc _))
    · have g0 : decide (x < 0) = false := by simp [h0]
      have g1 : decide ((s.size : Int) < x) = true := by simp; omega
      clear hx h0
      go_enter Tryz.func20, Tryz.ntmps20
      go_wp2_with fail
      exact bodyPost_ret (v := .tuple #[.slice none 0 0, .string ⟨#[]⟩, .int .i64 0, .int .i64 1]) (by simp [results, Tryz.results20, go_sem]) rfl (HEnd.out _ (((Kp.refl _ w).alloc _).alloc _))
  · obtain ⟨q, rfl⟩ := Int.eq_ofNat_of_zero_le (show 0 ≤ x by omega)
    rw [readT_in (by omega)]
    exact ref12_Read_in h s q w hs (by omega)

end Go.Proofs.YtckmdcmkjmpiaaaGreatDoor

/-
  circ.uses: all literals that are used are handed over, up to the first that is refused. (Printed by mkuses.py.)
-/
namespace Go.Proofs.YtckmdcmkjmpiaaaGreatDoor
open Go.RowKit

theorem IntsAt.lt {w : World} {a : Option Addr} {l : List Int} (h : IntsAt w a l) (hl : l ≠ []) : ∀ p, a = some p → p.block < w.heap.size := by
  intro p hp
  obtain ⟨b, off, e, hc⟩ := h.get (j := 0) (by cases l with | nil => exact absurd rfl hl | cons x r => simp)
  rw [hp] at e
  simp only [Option.some.injEq] at e
  subst e
  exact World.block_lt_of_cell? w _ hc

/-- the values rs are slices that read the lists Ls, none of them in a block of X -/
def RowsAt (X : Nat → Prop) (u : World) (rs : List Value) (Ls : List (List Int)) : Prop :=
  rs.length = Ls.length ∧ ∀ (k : Nat) (r : Value) (l : List Int), rs[k]? = some r → Ls[k]? = some l → ∃ a c, r = .slice a l.length c ∧ l.length ≤ c ∧ c ≤ maxLen ∧ IntsAt u a l ∧ (l ≠ [] → ∀ p, a = some p → ¬ X p.block)

theorem RowsAt.kp {X S : Nat → Prop} {u u' : World} {rs : List Value} {Ls : List (List Int)} (h : RowsAt X u rs Ls) (k : Kp S u u') (hS : ∀ j, S j → X j) : RowsAt X u' rs Ls := by
  refine ⟨h.1, fun i r l hr hl => ?_⟩
  obtain ⟨a, c, e, h1, h2, h3, h4⟩ := h.2 i r l hr hl
  refine ⟨a, c, e, h1, h2, ?_, h4⟩
  by_cases hn : l = []
  · subst hn; exact RowAt.nil _ _
  · exact h3.kp k (fun p hp hs => h4 hn p hp (hS _ hs))

theorem RowsAt.mono {X X' : Nat → Prop} {u : World} {rs : List Value} {Ls : List (List Int)} (h : RowsAt X u rs Ls) (hX : ∀ j, j < u.heap.size → X' j → X j) : RowsAt X' u rs Ls := by
  refine ⟨h.1, fun i r l hr hl => ?_⟩
  obtain ⟨a, c, e, h1, h2, h3, h4⟩ := h.2 i r l hr hl
  exact ⟨a, c, e, h1, h2, h3, fun hn p hp hx => h4 hn p hp (hX _ (h3.lt hn p hp) hx)⟩

theorem RowsAt.snoc {X : Nat → Prop} {u : World} {rs : List Value} {Ls : List (List Int)} (h : RowsAt X u rs Ls) {a : Option Addr} {c : Nat} {l : List Int} (h1 : l.length ≤ c) (h2 : c ≤ maxLen) (h3 : IntsAt u a l) (h4 : ∀ p, a = some p → ¬ X p.block) : RowsAt X u (rs ++ [.slice a l.length c]) (Ls ++ [l]) := by
  refine ⟨by simp [h.1], fun k r x hr hx => ?_⟩
  by_cases hk : k < rs.length
  · rw [List.getElem?_append_left hk] at hr
    rw [List.getElem?_append_left (by rw [← h.1]; exact hk)] at hx
    exact h.2 k r x hr hx
  · rw [List.getElem?_append_right (by omega)] at hr
    rw [List.getElem?_append_right (by rw [← h.1]; omega)] at hx
    have e : k - rs.length = 0 := by
      have := (List.getElem?_eq_some_iff.1 hr).1
      simp at this; omega
    rw [e] at hr
    rw [← h.1, e] at hx
    simp at hr hx
    subst hr hx
    exact ⟨a, c, rfl, h1, h2, h3, fun _ => h4⟩

/-- the rows of used literals -/
def usedRows (C : Circ) : List (List Int) := [C.outs, C.bads, C.cons] ++ C.lats.map (fun x => [x.2.1]) ++ C.gates.map (fun g => [g.2.1, g.2.2])
theorem usedRows_flat (C : Circ) : (usedRows C).flatten = C.used := by
  unfold usedRows Circ.used
  rw [List.flatten_append, List.flatten_append]
  have h1 : ∀ L : List (Int × Int × Int), (L.map (fun x => [x.2.1])).flatten = L.map (fun x => x.2.1) := by
    intro L; induction L with
    | nil => rfl
    | cons a r ih => simp [ih]
  have h2 : ∀ L : List (Int × Int × Int), (L.map (fun g => [g.2.1, g.2.2])).flatten = L.flatMap (fun g => [g.2.1, g.2.2]) := fun L => rfl
  rw [h1, h2]
  simp
theorem usedRows_length (C : Circ) : (usedRows C).length = 3 + C.lats.length + C.gates.length := by
  unfold usedRows; simp; omega

def grow (L : List (List Int)) (k : Nat) : List Int := L[k]?.getD []
theorem grow_at {L : List (List Int)} {k : Nat} (h : k < L.length) : L[k]? = some (grow L k) := by unfold grow; rw [List.getElem?_eq_getElem h]; rfl
theorem take_grow {L : List (List Int)} {k : Nat} (h : k < L.length) : (L.take (k + 1)).flatten = (L.take k).flatten ++ grow L k := by
  rw [List.take_succ_eq_append_getElem h, List.flatten_append]
  unfold grow
  rw [List.getElem?_eq_getElem h]
  simp

theorem all_take_gi {l : List Int} {k : Nat} (h : k < l.length) (P : List Int) (f : Int → Bool) : (P ++ l.take (k + 1)).all f = ((P ++ l.take k).all f && f (gi l k)) := by
  rw [take_gi h, ← List.append_assoc, List.all_append]
  simp

theorem used_false {L : List (List Int)} {i k : Nat} (hi : i < L.length) {f : Int → Bool} {b : Bool} (h : (b && ((L.take i).flatten ++ (grow L i).take (k + 1)).all f) = false) : (b && L.flatten.all f) = false := by
  cases b with
  | false => rfl
  | true =>
    rw [Bool.true_and] at h ⊢
    rw [List.all_eq_false] at h ⊢
    obtain ⟨x, hx, hf⟩ := h
    refine ⟨x, ?_, hf⟩
    have hL := List.take_append_drop (i + 1) L
    rw [← hL, List.flatten_append]
    refine List.mem_append.2 (.inl ?_)
    rw [take_grow hi]
    rcases List.mem_append.1 hx with h | h
    · exact List.mem_append.2 (.inl h)
    · exact List.mem_append.2 (.inr (List.mem_of_mem_take h))

theorem mem_used {L : List (List Int)} {i k : Nat} (hi : i < L.length) (hk : k < (grow L i).length) : gi (grow L i) k ∈ L.flatten := by
  refine List.mem_flatten.2 ⟨grow L i, List.mem_of_getElem? (grow_at hi), ?_⟩
  refine List.mem_of_getElem? (i := k) ?_
  unfold gi
  rw [List.getElem?_eq_getElem hk]; rfl

theorem three_blk (w : World) (c0 c1 c2 : Array Value) (t0 t1 t2 : TypeId) : Blk (((w.alloc (.cells c0 t0)).alloc (.cells c1 t1)).alloc (.cells c2 t2)) (w.heap.size + 1) c1 t1 ∧ Blk (((w.alloc (.cells c0 t0)).alloc (.cells c1 t1)).alloc (.cells c2 t2)) (w.heap.size + 2) c2 t2 := by
  refine ⟨(two_blk w c0 c1 t0 t1).alloc _, ?_⟩
  have := Blk.new ((w.alloc (.cells c0 t0)).alloc (.cells c1 t1)) c2 t2
  simpa using this

theorem ints_blk {w : World} {b : Nat} {l : List Int} {t : TypeId} (h : Blk w b (l.map (Value.int .i64)).toArray t) : IntsAt w (some ⟨b, 0, none⟩) l :=
  h.rowAt (off := 0) (n := l.length) (by simp; exact List.take_of_length_le (by simp))

/-- the literals that are used are gathered -/
def Gather (V : CV) (C : Circ) (bo : Nat) (w : World) (Ls : List (List Int)) (v4 : Value) (wr : World) : Prop :=
  ∃ rs, Own wr w.heap.size 22 v4 rs ∧ RowsAt (fun j => j = bo ∨ v4.ownBlock = some j) wr rs Ls ∧ (∀ j, v4.ownBlock = some j → w.heap.size < j) ∧ Blk wr w.heap.size (cvals V C) 27 ∧ Kp (fun _ => False) w wr

theorem Gather.start (V : CV) (C : Circ) (bo : Nat) (w0 w wz : World) (hz : wz = (w.alloc (.cells (cvals V C) 27)).alloc (.cells #[.slice V.ao C.outs.length V.co, .slice V.ab C.bads.length V.cb, .slice V.ac C.cons.length V.cc] 22))
    (h0 : CAt w0 V C) (hk0 : Kp (fun _ => False) w0 w) (hbo : w0.heap.size ≤ bo) (hbw : bo < w.heap.size) :
    Gather V C bo w [C.outs, C.bads, C.cons] (.slice (some ⟨w.heap.size + 1, 0, none⟩) 3 3) wz := by
  have hK : Kp (fun _ => False) w wz := by rw [hz]; exact ((Kp.refl _ w).alloc _).alloc _
  have hB : Blk wz (w.heap.size + 1) #[.slice V.ao C.outs.length V.co, .slice V.ab C.bads.length V.cb, .slice V.ac C.cons.length V.cc] 22 := by rw [hz]; exact two_blk _ _ _ _ _
  have hC : Blk wz w.heap.size (cvals V C) 27 := by rw [hz]; exact (Blk.new w _ _).alloc _
  have hz := h0.kp (hk0.trans hK (fun _ _ h => h))
  have hs := hk0.size
  have far : ∀ {a : Option Addr} {l : List Int}, IntsAt w0 a l → l ≠ [] → ∀ p, a = some p → ¬ (p.block = bo ∨ (Value.slice (some ⟨w.heap.size + 1, 0, none⟩) 3 3).ownBlock = some p.block) := by
    intro a l hi hl p hp
    have := hi.lt hl p hp
    simp [Value.ownBlock]
    omega
  refine ⟨[.slice V.ao C.outs.length V.co, .slice V.ab C.bads.length V.cb, .slice V.ac C.cons.length V.cc], Own.lit (cs := [.slice V.ao C.outs.length V.co, .slice V.ab C.bads.length V.cb, .slice V.ac C.cons.length V.cc]) hB (by omega) (by simp [maxLen]), ⟨rfl, fun k r l hr hl => ?_⟩, fun j hj => by simp [Value.ownBlock] at hj; omega, hC, hK⟩
  match k, hr, hl with
  | 0, hr, hl => simp at hr hl; subst hr hl; exact ⟨_, _, rfl, h0.fo.le, h0.fo.most, hz.o, far h0.o⟩
  | 1, hr, hl => simp at hr hl; subst hr hl; exact ⟨_, _, rfl, h0.fb.le, h0.fb.most, hz.b, far h0.b⟩
  | 2, hr, hl => simp at hr hl; subst hr hl; exact ⟨_, _, rfl, h0.fc.le, h0.fc.most, hz.c, far h0.c⟩
  | n + 3, hr, hl => simp at hr

theorem Gather.kp {V : CV} {C : Circ} {bo : Nat} {w wr wr' : World} {Ls : List (List Int)} {v4 : Value} (h : Gather V C bo w Ls v4 wr) (k : Kp (fun _ => False) wr wr') : Gather V C bo w Ls v4 wr' := by
  obtain ⟨rs, h1, h2, h3, h4, h5⟩ := h
  exact ⟨rs, h1.kp k (fun _ _ h => h), h2.kp k (fun _ h => h.elim), h3, h4.kp k (fun h => h), h5.trans k (fun _ _ h => h)⟩

/-- one more row of literals -/
theorem Gather.more {V : CV} {C : Circ} {bo : Nat} {w wr wr' w2 : World} {Ls : List (List Int)} {v4 v' : Value} {rs : List Value} (hbo : bo < w.heap.size) (h1 : Own wr w.heap.size 22 v4 rs) (h2 : RowsAt (fun j => j = bo ∨ v4.ownBlock = some j) wr rs Ls) (h3 : ∀ j, v4.ownBlock = some j → w.heap.size < j) (h4 : Blk wr w.heap.size (cvals V C) 27) (h5 : Kp (fun _ => False) w wr)
    (hK : Kp (fun _ => False) wr wr') {g n : Nat} {l : List Int} (hg : wr.heap.size ≤ g) (hB : Blk wr' g (l.map (Value.int .i64)).toArray 3) (hn : l.length = n) (hl : n ≤ maxLen)
    (hO : Own w2 w.heap.size 22 v' (rs ++ [.slice (some ⟨g, 0, none⟩) n n])) (hgr : wr'.grownBy w2 v4.ownBlock) (hat : v'.ownBlock = v4.ownBlock ∨ v'.ownBlock = some wr'.heap.size) : Gather V C bo w (Ls ++ [l]) v' w2 := by
  subst hn
  have hKg : Kp (fun j => v4.ownBlock = some j) wr' w2 := (Kp.refl _ _).grown hgr (fun j hj _ => hj)
  have hKw : Kp (fun _ => False) w w2 := (h5.trans hK (fun _ _ h => h)).grown hgr (fun j hj hlt => by have := h3 j hj; omega)
  have hsz := h5.size
  have hsz' := hK.size
  have hlt := hB.lt
  have hb' : Blk w2 g (l.map (Value.int .i64)).toArray 3 := hB.kp hKg (fun e => by have := (h1.lt g e).2; omega)
  have h2' : RowsAt (fun j => j = bo ∨ v4.ownBlock = some j) wr' rs Ls := h2.kp hK (fun _ h => h.elim)
  have h2'' : RowsAt (fun j => j = bo ∨ v4.ownBlock = some j ∨ v'.ownBlock = some j) wr' rs Ls := h2'.mono (fun j hj hx => by
    rcases hx with e | e | e
    · exact .inl e
    · exact .inr e
    · rcases hat with e2 | e2
      · exact .inr (e2 ▸ e)
      · rw [e2] at e; simp at e; omega)
  have h2w : RowsAt (fun j => j = bo ∨ v4.ownBlock = some j ∨ v'.ownBlock = some j) w2 rs Ls := h2''.kp hKg (fun j h => .inr (.inl h))
  have h2z : RowsAt (fun j => j = bo ∨ v'.ownBlock = some j) w2 rs Ls := h2w.mono (fun j _ h => by rcases h with e | e; exact .inl e; exact .inr (.inr e))
  refine ⟨_, hO, ?_, ?_, (h4.kp hK (fun h => h)).kp hKg (fun e => by have := h3 _ e; omega), hKw⟩
  · refine h2z.snoc (Nat.le_refl _) hl (ints_blk hb') (fun p hp => ?_)
    simp at hp
    subst hp
    intro h
    rcases h with e | e
    · have : g = bo := e
      omega
    · rcases hat with e2 | e2
      · rw [e2] at e
        have : g < wr.heap.size := (h1.lt g e).2
        omega
      · rw [e2] at e
        have : wr'.heap.size = g := by simpa using e
        omega
  · intro j hj
    rcases hat with e | e
    · exact h3 j (e ▸ hj)
    · rw [e] at hj; simp at hj; omega

set_option maxRecDepth 100000 in
set_option maxHeartbeats 4000000 in
theorem circ_uses1 (p q : Value) (V : CV) (C : Circ) (bo : Nat) (f : Int → Bool) (I : World → Bool → Prop) (b0 : Bool) (w0 w : World) (h0 : CAt w0 V C) (hf : CFewI C) (hk0 : Kp (fun _ => False) w0 w) (hbo : w0.heap.size ≤ bo) (hbw : bo < w.heap.size)
    (hI : I w b0) (hIk : ∀ u u' b, Kp (fun _ => False) u u' → I u b → I u' b)
    (hY : ∀ u x b, x ∈ C.used → I u b → Calls Tryz.prog 40 #[.int .i64 x, p, q] u fun e u' => e = .returned (.bool (b && f x)) ∧ I u' (b && f x) ∧ Kp (fun j => j = bo) u u') :
    Calls Tryz.prog 39 #[.agg (cvals V C), .func (Fn.func 40) #[] #[p, q]] w fun e w' => e = .returned (.tuple #[]) ∧ I w' (b0 && C.used.all f) ∧ Kp (fun j => j = bo) w w' := by
  obtain ⟨wz, hwz⟩ : ∃ wz : World, wz = (w.alloc (.cells (cvals V C) 27)).alloc (.cells #[.slice V.ao C.outs.length V.co, .slice V.ab C.bads.length V.cb, .slice V.ac C.cons.length V.cc] 22) := ⟨_, rfl⟩
  have HG := Lib.hid (Gather.start V C bo w0 w wz hwz h0 hk0 hbo hbw)
  have HC1 := Lib.hid (Blk.new w (cvals V C) 27)
  have HS := Lib.hid (show wz.heap.size = w.heap.size + 2 by rw [hwz]; simp)
  have HZ := Lib.hid hwz
  have HA := Lib.hid h0
  have HF := Lib.hid hf
  have HK0 := Lib.hid hk0
  have HBO := Lib.hid (And.intro hbo hbw)
  have HII := Lib.hid (And.intro hI (And.intro hIk hY))
  have HI := Lib.hid (show (Tryz.prog.info? 22).map (fun i => (i.zero, i.size, i.bytes)) = some (some (.slice none 0 0), 1, 24) by kernel_rfl)
  have hl := (h0.fl.le63).1
  have hg := (h0.fg.le63).1
  clear hwz h0 hf hk0 hbo hbw hI hIk hY
  go_enter Tryz.func39, Tryz.ntmps39
  go_upto_region 1 with fail
  obtain ⟨d0, d1, d2, d3, d4, d5, d6, d7, d8⟩ := HC1.out.cells9
  go_upto_region 2 with fail
  rw [← HZ.out]
  clear d0 d1 d2 d3 d4 d5 d6 d7 d8 HC1
  have hG := HG.out
  obtain ⟨rs0, -, -, -, hB0, -⟩ := hG
  have c2 := hB0.cell (i := 2) (v := .slice V.al C.lats.length V.cl) rfl
  clear hB0
  go_wp2_with fail
  go_loopw [4, 23] (fun v4 v23 wr => ∃ k : Nat, v23 = .int .i64 k ∧ k ≤ C.lats.length ∧ Gather V C bo w ([C.outs, C.bads, C.cons] ++ (C.lats.take k).map (fun x => [x.2.1])) v4 wr) (fun _ v23 _ => C.lats.length - (intOf v23).toNat)
  case atStart => exact ⟨0, rfl, by omega, by simpa using HG.out⟩
  case round =>
    obtain ⟨k, rfl, hk, hG⟩ := hrel
    clear c2 HG
    obtain ⟨wp, rfl⟩ : ∃ wp : World, wp = wr := ⟨_, rfl⟩
    have HG := Lib.hid hG
    by_cases hlt : k < C.lats.length
    · obtain ⟨rs, hO, hR, hB, hC, hK⟩ := hG
      have HSw := Lib.hid (show w.heap.size ≤ wp.heap.size from hK.size)
      have HRL := Lib.hid (show rs.length ≤ 3000000 by have := hR.1; have := HF.out.l; simp at this ⊢; rw [hR.1]; simp; omega)
      obtain ⟨b, off, ea, e0, e1, e2⟩ := tri_cells (HA.out.kp (HK0.out.trans hK (fun _ _ h => h))).l hlt
      have i0 : (0 : Int) ≤ (k : Int) := by omega
      have i1 : decide ((k : Int) < (C.lats.length : Int)) = true := decide_eq_true (by omega)
      obtain ⟨x0, hx0⟩ : ∃ x, (g3 C.lats k).1 = x := ⟨_, rfl⟩
      obtain ⟨x1, hx1⟩ : ∃ x, (g3 C.lats k).2.1 = x := ⟨_, rfl⟩
      obtain ⟨x2, hx2⟩ : ∃ x, (g3 C.lats k).2.2 = x := ⟨_, rfl⟩
      have HT := Lib.hid (take_g3 hlt)
      rw [hx0] at e0
      rw [hx1] at e1
      rw [hx2] at e2
      have HX := Lib.hid hx1
      have HEA := Lib.hid ea
      have i2 : (k : Int) < (C.lats.length : Int) := by omega
      clear hx0 hx1 hx2 ea
      have HNew := Lib.hid (three_blk wp #[.int .i64 x0, .int .i64 x1, .int .i64 x2] #[.int .i64 x1] #[.slice (some ⟨wp.heap.size + 1, 0, none⟩) 1 1] 59 3 22)
      have HOw := Lib.hid (((hO.alloc (.cells #[.int .i64 x0, .int .i64 x1, .int .i64 x2] 59)).alloc (.cells #[.int .i64 x1] 3)).alloc (.cells #[.slice (some ⟨wp.heap.size + 1, 0, none⟩) 1 1] 22))
      have HMore := Lib.hid (fun v' w2 hO2 hgr hat => Gather.more (v' := v') (w2 := w2) (g := wp.heap.size + 1) (n := 1) (l := [x1]) HBO.out.2 hO hR hB hC hK ((((Kp.refl _ wp).alloc (.cells #[.int .i64 x0, .int .i64 x1, .int .i64 x2] 59)).alloc (.cells #[.int .i64 x1] 3)).alloc (.cells #[.slice (some ⟨wp.heap.size + 1, 0, none⟩) 1 1] 22)) (by omega) HNew.out.1 rfl (by simp [maxLen]) hO2 hgr hat)
      clear hO hR hB hC hK
      rw [HEA.out]
      go_wp2_with (at_builtin; refine wpList_append1_at rfl _ _ 115 22 rfl Tryz.underlying115 HI.out rfl HOw.out rfl ⟨wp.heap.size + 2, 0, none⟩ (.slice (some ⟨wp.heap.size + 1, 0, none⟩) 1 1) rfl (HNew.out.2.cell rfl) rfl ?c1 ?c2 ?c3 ?_)
      case c1 => have := HRL.out; omega
      case c2 => have := HRL.out; unfold maxLen; omega
      case c3 => have := HSw.out; simp; omega
      intro v' w2 hO2 hg2 hat2
      have hrel : ∃ k' : Nat, Value.int .i64 ((k : Int) + 1) = .int .i64 k' ∧ k' ≤ C.lats.length ∧ Gather V C bo w ([C.outs, C.bads, C.cons] ++ (C.lats.take k').map (fun x => [x.2.1])) v' w2 := by
        refine ⟨k + 1, by go_num, by omega, ?_⟩
        rw [HT.out, List.map_append, ← List.append_assoc]
        have : [g3 C.lats k].map (fun x => [x.2.1]) = [[x1]] := by simp [HX.out]
        rw [this]
        exact HMore.out v' w2 hO2 hg2 (by simpa using hat2)
      have HR := Lib.hid hrel
      clear hrel hO2 hg2 hat2 HOw HNew HT HMore HG
      go_wp2_with fail
      go_roundw
      case rel => exact HR.out
      case measure => simp [intOf]; omega
    · have hk' : k = C.lats.length := by omega
      have HG1 : Hid (Gather V C bo w ([C.outs, C.bads, C.cons] ++ C.lats.map (fun x => [x.2.1])) u4 wp) := Lib.hid (by rwa [hk', List.take_length] at hG)
      obtain ⟨rs0, -, -, -, hB0, -⟩ := hG
      have c6 := hB0.cell (i := 6) (v := .slice V.ag C.gates.length V.cg) rfl
      clear HG hk hk' hB0
      go_wp2_with fail
      go_loopw [4, 37] (fun v4 v37 wr => ∃ k : Nat, v37 = .int .i64 k ∧ k ≤ C.gates.length ∧ Gather V C bo w ([C.outs, C.bads, C.cons] ++ C.lats.map (fun x => [x.2.1]) ++ (C.gates.take k).map (fun x => [x.2.1, x.2.2])) v4 wr) (fun _ v37 _ => C.gates.length - (intOf v37).toNat)
      case atStart => exact ⟨0, rfl, by omega, by simpa using HG1.out⟩
      case round =>
        obtain ⟨k, rfl, hk, hG⟩ := hrel
        clear c6 HG1 hlt
        obtain ⟨wq, rfl⟩ : ∃ wp : World, wp = wr := ⟨_, rfl⟩
        have HG := Lib.hid hG
        by_cases hlt : k < C.gates.length
        · obtain ⟨rs, hO, hR, hB, hC, hK⟩ := hG
          have HSw := Lib.hid (show w.heap.size ≤ wq.heap.size from hK.size)
          have HRL := Lib.hid (show rs.length ≤ 3000000 by have := hR.1; have := HF.out.l; have := HF.out.g; rw [hR.1]; simp; omega)
          obtain ⟨b, off, ea, e0, e1, e2⟩ := tri_cells (HA.out.kp (HK0.out.trans hK (fun _ _ h => h))).g hlt
          have i0 : (0 : Int) ≤ (k : Int) := by omega
          have i1 : decide ((k : Int) < (C.gates.length : Int)) = true := decide_eq_true (by omega)
          obtain ⟨x0, hx0⟩ : ∃ x, (g3 C.gates k).1 = x := ⟨_, rfl⟩
          obtain ⟨x1, hx1⟩ : ∃ x, (g3 C.gates k).2.1 = x := ⟨_, rfl⟩
          obtain ⟨x2, hx2⟩ : ∃ x, (g3 C.gates k).2.2 = x := ⟨_, rfl⟩
          have HT := Lib.hid (take_g3 hlt)
          rw [hx0] at e0
          rw [hx1] at e1
          rw [hx2] at e2
          have HX := Lib.hid (And.intro hx1 hx2)
          have HEA := Lib.hid ea
          have i2 : (k : Int) < (C.gates.length : Int) := by omega
          clear hx0 hx1 hx2 ea
          have HNew := Lib.hid (three_blk wq #[.int .i64 x0, .int .i64 x1, .int .i64 x2] #[.int .i64 x1, .int .i64 x2] #[.slice (some ⟨wq.heap.size + 1, 0, none⟩) 2 2] 61 3 22)
          have HOw := Lib.hid (((hO.alloc (.cells #[.int .i64 x0, .int .i64 x1, .int .i64 x2] 61)).alloc (.cells #[.int .i64 x1, .int .i64 x2] 3)).alloc (.cells #[.slice (some ⟨wq.heap.size + 1, 0, none⟩) 2 2] 22))
          have HMore := Lib.hid (fun v' w2 hO2 hgr hat => Gather.more (v' := v') (w2 := w2) (g := wq.heap.size + 1) (n := 2) (l := [x1, x2]) HBO.out.2 hO hR hB hC hK ((((Kp.refl _ wq).alloc (.cells #[.int .i64 x0, .int .i64 x1, .int .i64 x2] 61)).alloc (.cells #[.int .i64 x1, .int .i64 x2] 3)).alloc (.cells #[.slice (some ⟨wq.heap.size + 1, 0, none⟩) 2 2] 22)) (by omega) HNew.out.1 rfl (by simp [maxLen]) hO2 hgr hat)
          clear hO hR hB hC hK
          rw [HEA.out]
          go_wp2_with (at_builtin; refine wpList_append1_at rfl _ _ 115 22 rfl Tryz.underlying115 HI.out rfl HOw.out rfl ⟨wq.heap.size + 2, 0, none⟩ (.slice (some ⟨wq.heap.size + 1, 0, none⟩) 2 2) rfl (HNew.out.2.cell rfl) rfl ?d1 ?d2 ?d3 ?_)
          case d1 => have := HRL.out; omega
          case d2 => have := HRL.out; unfold maxLen; omega
          case d3 => have := HSw.out; simp; omega
          intro v' w2 hO2 hg2 hat2
          have hrel : ∃ k' : Nat, Value.int .i64 ((k : Int) + 1) = .int .i64 k' ∧ k' ≤ C.gates.length ∧ Gather V C bo w ([C.outs, C.bads, C.cons] ++ C.lats.map (fun x => [x.2.1]) ++ (C.gates.take k').map (fun x => [x.2.1, x.2.2])) v' w2 := by
            refine ⟨k + 1, by go_num, by omega, ?_⟩
            rw [HT.out, List.map_append, ← List.append_assoc]
            have : [g3 C.gates k].map (fun x => [x.2.1, x.2.2]) = [[x1, x2]] := by simp [HX.out.1, HX.out.2]
            rw [this]
            exact HMore.out v' w2 hO2 hg2 (by simpa using hat2)
          have HR := Lib.hid hrel
          clear hrel hO2 hg2 hat2 HOw HNew HT HMore HG
          go_wp2_with fail
          go_roundw
          case rel => exact HR.out
          case measure => simp [intOf]; omega
        · have hk' : k = C.gates.length := by omega
          have hG1 : Gather V C bo w (usedRows C) u4 wq := by rw [hk', List.take_length] at hG; exact hG
          obtain ⟨rs, hO, hR, hB, hC, hK⟩ := hG1
          obtain ⟨a4, c4, e4, hc4, hm4, hp4, -⟩ := hO.form
          have HO := Lib.hid hO
          have HR := Lib.hid hR
          have hln : rs.length = (usedRows C).length := hR.1
          rw [hln] at e4 hc4
          subst e4
          obtain ⟨n4, hn4⟩ : ∃ n, (usedRows C).length = n := ⟨_, rfl⟩
          have HN4 := Lib.hid hn4
          have HIw := Lib.hid (HII.out.2.1 _ _ _ hK HII.out.1)
          have HKw := Lib.hid hK
          have hn63 : n4 ≤ 9223372036854775807 := by rw [← hn4, usedRows_length]; have := HF.out.l; have := HF.out.g; omega
          have hB4 : ∀ j, (Value.slice a4 n4 c4).ownBlock = some j → j ≠ bo := fun j hj => by
            have := hB j (by rw [hn4]; exact hj)
            have := HBO.out.2
            omega
          have HB4 := Lib.hid hB4
          rw [hn4] at HO HR ⊢
          have HRW := Lib.hid (show ∀ u, Kp (fun j => j = bo) wq u → RowAt u a4 rs from fun u hu => by
            obtain ⟨a, c, e, -, -, hp, hr⟩ := HO.out.form
            simp only [Value.slice.injEq] at e
            obtain ⟨rfl, -, -⟩ := e
            refine hr.kp hu (fun p hp' hb => ?_)
            obtain ⟨g, rfl, -, -⟩ := hp p hp'
            subst hp'
            exact hB4 g rfl hb)
          have HRR := Lib.hid (show ∀ u, Kp (fun j => j = bo) wq u → RowsAt (fun j => j = bo) u rs (usedRows C) from fun u hu => (HR.out.mono (fun j _ h => .inl h)).kp hu (fun _ h => h))
          clear hG hk' hO hR hB hC hK hln hk hp4 hm4 hB4 hn4 hc4 HO HR HB4 HG HA
          go_wp2_with fail
          go_loopw [52] (fun v52 wr => ∃ i : Nat, v52 = .int .i64 i ∧ i ≤ n4 ∧ I wr (b0 && ((usedRows C).take i).flatten.all f) ∧ Kp (fun j => j = bo) wq wr) (fun v52 _ => n4 - (intOf v52).toNat)
          case atStart => exact ⟨0, rfl, by omega, by simpa using HIw.out, Kp.refl _ _⟩
          case round =>
            obtain ⟨i, rfl, hi, hI3, hK3⟩ := hrel
            obtain ⟨w3, rfl⟩ : ∃ w3 : World, w3 = wr := ⟨_, rfl⟩
            have HI3 := Lib.hid hI3
            have HK3 := Lib.hid hK3
            clear hI3 hK3 HIw
            by_cases hi4 : i < n4
            · have hiU : i < (usedRows C).length := by rw [HN4.out]; exact hi4
              obtain ⟨r, hr⟩ : ∃ r, rs[i]? = some r := ⟨_, List.getElem?_eq_getElem (by rw [(HRR.out _ HK3.out).1]; exact hiU)⟩
              obtain ⟨ai, ci, rfl, hci, hcm, hri, -⟩ := (HRR.out _ HK3.out).2 i r _ hr (grow_at hiU)
              obtain ⟨b, off, ea, hcell⟩ := HRW.out _ HK3.out i _ hr
              have HRI := Lib.hid (show ∀ u, Kp (fun j => j = bo) w3 u → IntsAt u ai (grow (usedRows C) i) from fun u hu => by
                obtain ⟨a2, c2, e2, -, -, h2, -⟩ := (HRR.out u (HK3.out.trans hu (fun _ _ h => h))).2 i _ _ hr (grow_at hiU)
                simp only [Value.slice.injEq] at e2
                rw [e2.1]; exact h2)
              have HIU := Lib.hid hiU
              obtain ⟨ni, hni⟩ : ∃ ni, (grow (usedRows C) i).length = ni := ⟨_, rfl⟩
              rw [hni] at hcell hci
              have HNI := Lib.hid hni
              have hn63i : ni ≤ 9223372036854775807 := by unfold maxLen at hcm; omega
              subst ea
              clear hr hri hci hcm hni hiU
              have i0 : (0 : Int) ≤ (i : Int) := by omega
              have i1 : (i : Int) < (n4 : Int) := by omega
              go_wp2_with fail
              go_loopw [58] (fun v58 w4 => ∃ k : Nat, v58 = .int .i64 k ∧ k ≤ ni ∧ I w4 (b0 && (((usedRows C).take i).flatten ++ (grow (usedRows C) i).take k).all f) ∧ Kp (fun j => j = bo) w3 w4) (fun v58 _ => ni - (intOf v58).toNat)
              case atStart => exact ⟨0, rfl, by omega, by simpa using HI3.out, Kp.refl _ _⟩
              case round =>
                obtain ⟨k, rfl, hk, hI4, hK4⟩ := hrel
                obtain ⟨w4, rfl⟩ : ∃ w4 : World, w4 = wr := ⟨_, rfl⟩
                have HI4 := Lib.hid hI4
                have HK4 := Lib.hid hK4
                clear hI4 hK4 hcell
                by_cases hkl : k < ni
                · obtain ⟨b, off, e, hcell⟩ := (HRI.out _ HK4.out).get (j := k) (by rw [HNI.out]; exact hkl)
                  have HMem := Lib.hid (show gi (grow (usedRows C) i) k ∈ C.used by rw [← usedRows_flat]; exact mem_used HIU.out (by rw [HNI.out]; exact hkl))
                  have HAll := Lib.hid (all_take_gi (l := grow (usedRows C) i) (k := k) (by rw [HNI.out]; exact hkl) (((usedRows C).take i).flatten) f)
                  have HUF := Lib.hid (used_false (L := usedRows C) (i := i) (k := k) HIU.out (f := f) (b := b0))
                  obtain ⟨x, hx⟩ : ∃ x, gi (grow (usedRows C) i) k = x := ⟨_, rfl⟩
                  rw [hx] at hcell HMem HAll
                  obtain ⟨bb, hbb⟩ : ∃ bb, (b0 && (((usedRows C).take i).flatten ++ (grow (usedRows C) i).take k).all f) = bb := ⟨_, rfl⟩
                  have HBB := Lib.hid hbb
                  rw [hbb] at HI4
                  obtain ⟨b5, hb5⟩ : ∃ b5, (bb && f x) = b5 := ⟨_, rfl⟩
                  have HYx := Lib.hid (HII.out.2.2 _ _ _ HMem.out HI4.out)
                  rw [hb5] at HYx
                  have HB5 := Lib.hid (show (b0 && (((usedRows C).take i).flatten ++ (grow (usedRows C) i).take (k + 1)).all f) = b5 by rw [HAll.out, ← Bool.and_assoc, hbb]; exact hb5)
                  have k0 : (0 : Int) ≤ (k : Int) := by omega
                  have k1 : (k : Int) < (ni : Int) := by omega
                  subst e
                  clear hx hbb hb5
                  go_wp2_with fail
                  refine HYx.out.mono ?_
                  rintro o w5 ⟨rfl, hI5, hK5⟩
                  have HI5 := Lib.hid hI5
                  have HK5 := Lib.hid (HK4.out.trans hK5 (fun _ _ h => h))
                  clear hI5 hK5 HYx
                  cases b5 with
                  | false =>
                    go_wp2_with fail
                    refine bodyPost_ret (results_none rfl _ _ _) rfl ?_
                    exact ⟨rfl, by rw [← usedRows_flat, HUF.out HB5.out]; exact HI5.out, (HKw.out.mono (fun _ _ h => h.elim)).trans (HK3.out.trans HK5.out (fun _ _ h => h)) (fun _ _ h => h)⟩
                  | true =>
                    go_wp2_with fail
                    go_roundw
                    case rel => exact ⟨k + 1, by go_num, by omega, by rw [HB5.out]; exact HI5.out, HK5.out⟩
                    case measure => simp [intOf]; omega
                · have HI4' := Lib.hid (show I w4 (b0 && ((usedRows C).take (i + 1)).flatten.all f) by
                    have h := HI4.out
                    rw [List.take_of_length_le (l := grow (usedRows C) i) (by rw [HNI.out]; omega)] at h
                    rwa [take_grow HIU.out])
                  go_wp2_with fail
                  go_roundw
                  case rel => exact ⟨i + 1, by go_num, by omega, HI4'.out, HK3.out.trans HK4.out (fun _ _ h => h)⟩
                  case measure => simp [intOf]; omega
            · have HI3' := Lib.hid (show I w3 (b0 && C.used.all f) by
                have h := HI3.out
                rw [List.take_of_length_le (by rw [HN4.out]; omega), usedRows_flat] at h
                exact h)
              go_wp2_with fail
              go_end0
              exact ⟨rfl, HI3'.out, (HKw.out.mono (fun _ _ h => h.elim)).trans HK3.out (fun _ _ h => h)⟩

set_option maxRecDepth 100000 in
set_option maxHeartbeats 4000000 in
theorem circ_uses2 (p q : Value) (V : CV) (C : Circ) (bo : Nat) (f : Int → Bool) (I : World → Bool → Prop) (b0 : Bool) (w0 w : World) (h0 : CAt w0 V C) (hf : CFewI C) (hk0 : Kp (fun _ => False) w0 w) (hbo : w0.heap.size ≤ bo) (hbw : bo < w.heap.size)
    (hI : I w b0) (hIk : ∀ u u' b, Kp (fun _ => False) u u' → I u b → I u' b)
    (hY : ∀ u x b, x ∈ C.used → I u b → Calls Tryz.prog 41 #[.int .i64 x, p, q] u fun e u' => e = .returned (.bool (b && f x)) ∧ I u' (b && f x) ∧ Kp (fun j => j = bo) u u') :
    Calls Tryz.prog 39 #[.agg (cvals V C), .func (Fn.func 41) #[] #[p, q]] w fun e w' => e = .returned (.tuple #[]) ∧ I w' (b0 && C.used.all f) ∧ Kp (fun j => j = bo) w w' := by
  obtain ⟨wz, hwz⟩ : ∃ wz : World, wz = (w.alloc (.cells (cvals V C) 27)).alloc (.cells #[.slice V.ao C.outs.length V.co, .slice V.ab C.bads.length V.cb, .slice V.ac C.cons.length V.cc] 22) := ⟨_, rfl⟩
  have HG := Lib.hid (Gather.start V C bo w0 w wz hwz h0 hk0 hbo hbw)
  have HC1 := Lib.hid (Blk.new w (cvals V C) 27)
  have HS := Lib.hid (show wz.heap.size = w.heap.size + 2 by rw [hwz]; simp)
  have HZ := Lib.hid hwz
  have HA := Lib.hid h0
  have HF := Lib.hid hf
  have HK0 := Lib.hid hk0
  have HBO := Lib.hid (And.intro hbo hbw)
  have HII := Lib.hid (And.intro hI (And.intro hIk hY))
  have HI := Lib.hid (show (Tryz.prog.info? 22).map (fun i => (i.zero, i.size, i.bytes)) = some (some (.slice none 0 0), 1, 24) by kernel_rfl)
  have hl := (h0.fl.le63).1
  have hg := (h0.fg.le63).1
  clear hwz h0 hf hk0 hbo hbw hI hIk hY
  go_enter Tryz.func39, Tryz.ntmps39
  go_upto_region 1 with fail
  obtain ⟨d0, d1, d2, d3, d4, d5, d6, d7, d8⟩ := HC1.out.cells9
  go_upto_region 2 with fail
  rw [← HZ.out]
  clear d0 d1 d2 d3 d4 d5 d6 d7 d8 HC1
  have hG := HG.out
  obtain ⟨rs0, -, -, -, hB0, -⟩ := hG
  have c2 := hB0.cell (i := 2) (v := .slice V.al C.lats.length V.cl) rfl
  clear hB0
  go_wp2_with fail
  go_loopw [4, 23] (fun v4 v23 wr => ∃ k : Nat, v23 = .int .i64 k ∧ k ≤ C.lats.length ∧ Gather V C bo w ([C.outs, C.bads, C.cons] ++ (C.lats.take k).map (fun x => [x.2.1])) v4 wr) (fun _ v23 _ => C.lats.length - (intOf v23).toNat)
  case atStart => exact ⟨0, rfl, by omega, by simpa using HG.out⟩
  case round =>
    obtain ⟨k, rfl, hk, hG⟩ := hrel
    clear c2 HG
    obtain ⟨wp, rfl⟩ : ∃ wp : World, wp = wr := ⟨_, rfl⟩
    have HG := Lib.hid hG
    by_cases hlt : k < C.lats.length
    · obtain ⟨rs, hO, hR, hB, hC, hK⟩ := hG
      have HSw := Lib.hid (show w.heap.size ≤ wp.heap.size from hK.size)
      have HRL := Lib.hid (show rs.length ≤ 3000000 by have := hR.1; have := HF.out.l; simp at this ⊢; rw [hR.1]; simp; omega)
      obtain ⟨b, off, ea, e0, e1, e2⟩ := tri_cells (HA.out.kp (HK0.out.trans hK (fun _ _ h => h))).l hlt
      have i0 : (0 : Int) ≤ (k : Int) := by omega
      have i1 : decide ((k : Int) < (C.lats.length : Int)) = true := decide_eq_true (by omega)
      obtain ⟨x0, hx0⟩ : ∃ x, (g3 C.lats k).1 = x := ⟨_, rfl⟩
      obtain ⟨x1, hx1⟩ : ∃ x, (g3 C.lats k).2.1 = x := ⟨_, rfl⟩
      obtain ⟨x2, hx2⟩ : ∃ x, (g3 C.lats k).2.2 = x := ⟨_, rfl⟩
      have HT := Lib.hid (take_g3 hlt)
      rw [hx0] at e0
      rw [hx1] at e1
      rw [hx2] at e2
      have HX := Lib.hid hx1
      have HEA := Lib.hid ea
      have i2 : (k : Int) < (C.lats.length : Int) := by omega
      clear hx0 hx1 hx2 ea
      have HNew := Lib.hid (three_blk wp #[.int .i64 x0, .int .i64 x1, .int .i64 x2] #[.int .i64 x1] #[.slice (some ⟨wp.heap.size + 1, 0, none⟩) 1 1] 59 3 22)
      have HOw := Lib.hid (((hO.alloc (.cells #[.int .i64 x0, .int .i64 x1, .int .i64 x2] 59)).alloc (.cells #[.int .i64 x1] 3)).alloc (.cells #[.slice (some ⟨wp.heap.size + 1, 0, none⟩) 1 1] 22))
      have HMore := Lib.hid (fun v' w2 hO2 hgr hat => Gather.more (v' := v') (w2 := w2) (g := wp.heap.size + 1) (n := 1) (l := [x1]) HBO.out.2 hO hR hB hC hK ((((Kp.refl _ wp).alloc (.cells #[.int .i64 x0, .int .i64 x1, .int .i64 x2] 59)).alloc (.cells #[.int .i64 x1] 3)).alloc (.cells #[.slice (some ⟨wp.heap.size + 1, 0, none⟩) 1 1] 22)) (by omega) HNew.out.1 rfl (by simp [maxLen]) hO2 hgr hat)
      clear hO hR hB hC hK
      rw [HEA.out]
      go_wp2_with (at_builtin; refine wpList_append1_at rfl _ _ 115 22 rfl Tryz.underlying115 HI.out rfl HOw.out rfl ⟨wp.heap.size + 2, 0, none⟩ (.slice (some ⟨wp.heap.size + 1, 0, none⟩) 1 1) rfl (HNew.out.2.cell rfl) rfl ?c1 ?c2 ?c3 ?_)
      case c1 => have := HRL.out; omega
      case c2 => have := HRL.out; unfold maxLen; omega
      case c3 => have := HSw.out; simp; omega
      intro v' w2 hO2 hg2 hat2
      have hrel : ∃ k' : Nat, Value.int .i64 ((k : Int) + 1) = .int .i64 k' ∧ k' ≤ C.lats.length ∧ Gather V C bo w ([C.outs, C.bads, C.cons] ++ (C.lats.take k').map (fun x => [x.2.1])) v' w2 := by
        refine ⟨k + 1, by go_num, by omega, ?_⟩
        rw [HT.out, List.map_append, ← List.append_assoc]
        have : [g3 C.lats k].map (fun x => [x.2.1]) = [[x1]] := by simp [HX.out]
        rw [this]
        exact HMore.out v' w2 hO2 hg2 (by simpa using hat2)
      have HR := Lib.hid hrel
      clear hrel hO2 hg2 hat2 HOw HNew HT HMore HG
      go_wp2_with fail
      go_roundw
      case rel => exact HR.out
      case measure => simp [intOf]; omega
    · have hk' : k = C.lats.length := by omega
      have HG1 : Hid (Gather V C bo w ([C.outs, C.bads, C.cons] ++ C.lats.map (fun x => [x.2.1])) u4 wp) := Lib.hid (by rwa [hk', List.take_length] at hG)
      obtain ⟨rs0, -, -, -, hB0, -⟩ := hG
      have c6 := hB0.cell (i := 6) (v := .slice V.ag C.gates.length V.cg) rfl
      clear HG hk hk' hB0
      go_wp2_with fail
      go_loopw [4, 37] (fun v4 v37 wr => ∃ k : Nat, v37 = .int .i64 k ∧ k ≤ C.gates.length ∧ Gather V C bo w ([C.outs, C.bads, C.cons] ++ C.lats.map (fun x => [x.2.1]) ++ (C.gates.take k).map (fun x => [x.2.1, x.2.2])) v4 wr) (fun _ v37 _ => C.gates.length - (intOf v37).toNat)
      case atStart => exact ⟨0, rfl, by omega, by simpa using HG1.out⟩
      case round =>
        obtain ⟨k, rfl, hk, hG⟩ := hrel
        clear c6 HG1 hlt
        obtain ⟨wq, rfl⟩ : ∃ wp : World, wp = wr := ⟨_, rfl⟩
        have HG := Lib.hid hG
        by_cases hlt : k < C.gates.length
        · obtain ⟨rs, hO, hR, hB, hC, hK⟩ := hG
          have HSw := Lib.hid (show w.heap.size ≤ wq.heap.size from hK.size)
          have HRL := Lib.hid (show rs.length ≤ 3000000 by have := hR.1; have := HF.out.l; have := HF.out.g; rw [hR.1]; simp; omega)
          obtain ⟨b, off, ea, e0, e1, e2⟩ := tri_cells (HA.out.kp (HK0.out.trans hK (fun _ _ h => h))).g hlt
          have i0 : (0 : Int) ≤ (k : Int) := by omega
          have i1 : decide ((k : Int) < (C.gates.length : Int)) = true := decide_eq_true (by omega)
          obtain ⟨x0, hx0⟩ : ∃ x, (g3 C.gates k).1 = x := ⟨_, rfl⟩
          obtain ⟨x1, hx1⟩ : ∃ x, (g3 C.gates k).2.1 = x := ⟨_, rfl⟩
          obtain ⟨x2, hx2⟩ : ∃ x, (g3 C.gates k).2.2 = x := ⟨_, rfl⟩
          have HT := Lib.hid (take_g3 hlt)
          rw [hx0] at e0
          rw [hx1] at e1
          rw [hx2] at e2
          have HX := Lib.hid (And.intro hx1 hx2)
          have HEA := Lib.hid ea
          have i2 : (k : Int) < (C.gates.length : Int) := by omega
          clear hx0 hx1 hx2 ea
          have HNew := Lib.hid (three_blk wq #[.int .i64 x0, .int .i64 x1, .int .i64 x2] #[.int .i64 x1, .int .i64 x2] #[.slice (some ⟨wq.heap.size + 1, 0, none⟩) 2 2] 61 3 22)
          have HOw := Lib.hid (((hO.alloc (.cells #[.int .i64 x0, .int .i64 x1, .int .i64 x2] 61)).alloc (.cells #[.int .i64 x1, .int .i64 x2] 3)).alloc (.cells #[.slice (some ⟨wq.heap.size + 1, 0, none⟩) 2 2] 22))
          have HMore := Lib.hid (fun v' w2 hO2 hgr hat => Gather.more (v' := v') (w2 := w2) (g := wq.heap.size + 1) (n := 2) (l := [x1, x2]) HBO.out.2 hO hR hB hC hK ((((Kp.refl _ wq).alloc (.cells #[.int .i64 x0, .int .i64 x1, .int .i64 x2] 61)).alloc (.cells #[.int .i64 x1, .int .i64 x2] 3)).alloc (.cells #[.slice (some ⟨wq.heap.size + 1, 0, none⟩) 2 2] 22)) (by omega) HNew.out.1 rfl (by simp [maxLen]) hO2 hgr hat)
          clear hO hR hB hC hK
          rw [HEA.out]
          go_wp2_with (at_builtin; refine wpList_append1_at rfl _ _ 115 22 rfl Tryz.underlying115 HI.out rfl HOw.out rfl ⟨wq.heap.size + 2, 0, none⟩ (.slice (some ⟨wq.heap.size + 1, 0, none⟩) 2 2) rfl (HNew.out.2.cell rfl) rfl ?d1 ?d2 ?d3 ?_)
          case d1 => have := HRL.out; omega
          case d2 => have := HRL.out; unfold maxLen; omega
          case d3 => have := HSw.out; simp; omega
          intro v' w2 hO2 hg2 hat2
          have hrel : ∃ k' : Nat, Value.int .i64 ((k : Int) + 1) = .int .i64 k' ∧ k' ≤ C.gates.length ∧ Gather V C bo w ([C.outs, C.bads, C.cons] ++ C.lats.map (fun x => [x.2.1]) ++ (C.gates.take k').map (fun x => [x.2.1, x.2.2])) v' w2 := by
            refine ⟨k + 1, by go_num, by omega, ?_⟩
            rw [HT.out, List.map_append, ← List.append_assoc]
            have : [g3 C.gates k].map (fun x => [x.2.1, x.2.2]) = [[x1, x2]] := by simp [HX.out.1, HX.out.2]
            rw [this]
            exact HMore.out v' w2 hO2 hg2 (by simpa using hat2)
          have HR := Lib.hid hrel
          clear hrel hO2 hg2 hat2 HOw HNew HT HMore HG
          go_wp2_with fail
          go_roundw
          case rel => exact HR.out
          case measure => simp [intOf]; omega
        · have hk' : k = C.gates.length := by omega
          have hG1 : Gather V C bo w (usedRows C) u4 wq := by rw [hk', List.take_length] at hG; exact hG
          obtain ⟨rs, hO, hR, hB, hC, hK⟩ := hG1
          obtain ⟨a4, c4, e4, hc4, hm4, hp4, -⟩ := hO.form
          have HO := Lib.hid hO
          have HR := Lib.hid hR
          have hln : rs.length = (usedRows C).length := hR.1
          rw [hln] at e4 hc4
          subst e4
          obtain ⟨n4, hn4⟩ : ∃ n, (usedRows C).length = n := ⟨_, rfl⟩
          have HN4 := Lib.hid hn4
          have HIw := Lib.hid (HII.out.2.1 _ _ _ hK HII.out.1)
          have HKw := Lib.hid hK
          have hn63 : n4 ≤ 9223372036854775807 := by rw [← hn4, usedRows_length]; have := HF.out.l; have := HF.out.g; omega
          have hB4 : ∀ j, (Value.slice a4 n4 c4).ownBlock = some j → j ≠ bo := fun j hj => by
            have := hB j (by rw [hn4]; exact hj)
            have := HBO.out.2
            omega
          have HB4 := Lib.hid hB4
          rw [hn4] at HO HR ⊢
          have HRW := Lib.hid (show ∀ u, Kp (fun j => j = bo) wq u → RowAt u a4 rs from fun u hu => by
            obtain ⟨a, c, e, -, -, hp, hr⟩ := HO.out.form
            simp only [Value.slice.injEq] at e
            obtain ⟨rfl, -, -⟩ := e
            refine hr.kp hu (fun p hp' hb => ?_)
            obtain ⟨g, rfl, -, -⟩ := hp p hp'
            subst hp'
            exact hB4 g rfl hb)
          have HRR := Lib.hid (show ∀ u, Kp (fun j => j = bo) wq u → RowsAt (fun j => j = bo) u rs (usedRows C) from fun u hu => (HR.out.mono (fun j _ h => .inl h)).kp hu (fun _ h => h))
          clear hG hk' hO hR hB hC hK hln hk hp4 hm4 hB4 hn4 hc4 HO HR HB4 HG HA
          go_wp2_with fail
          go_loopw [52] (fun v52 wr => ∃ i : Nat, v52 = .int .i64 i ∧ i ≤ n4 ∧ I wr (b0 && ((usedRows C).take i).flatten.all f) ∧ Kp (fun j => j = bo) wq wr) (fun v52 _ => n4 - (intOf v52).toNat)
          case atStart => exact ⟨0, rfl, by omega, by simpa using HIw.out, Kp.refl _ _⟩
          case round =>
            obtain ⟨i, rfl, hi, hI3, hK3⟩ := hrel
            obtain ⟨w3, rfl⟩ : ∃ w3 : World, w3 = wr := ⟨_, rfl⟩
            have HI3 := Lib.hid hI3
            have HK3 := Lib.hid hK3
            clear hI3 hK3 HIw
            by_cases hi4 : i < n4
            · have hiU : i < (usedRows C).length := by rw [HN4.out]; exact hi4
              obtain ⟨r, hr⟩ : ∃ r, rs[i]? = some r := ⟨_, List.getElem?_eq_getElem (by rw [(HRR.out _ HK3.out).1]; exact hiU)⟩
              obtain ⟨ai, ci, rfl, hci, hcm, hri, -⟩ := (HRR.out _ HK3.out).2 i r _ hr (grow_at hiU)
              obtain ⟨b, off, ea, hcell⟩ := HRW.out _ HK3.out i _ hr
              have HRI := Lib.hid (show ∀ u, Kp (fun j => j = bo) w3 u → IntsAt u ai (grow (usedRows C) i) from fun u hu => by
                obtain ⟨a2, c2, e2, -, -, h2, -⟩ := (HRR.out u (HK3.out.trans hu (fun _ _ h => h))).2 i _ _ hr (grow_at hiU)
                simp only [Value.slice.injEq] at e2
                rw [e2.1]; exact h2)
              have HIU := Lib.hid hiU
              obtain ⟨ni, hni⟩ : ∃ ni, (grow (usedRows C) i).length = ni := ⟨_, rfl⟩
              rw [hni] at hcell hci
              have HNI := Lib.hid hni
              have hn63i : ni ≤ 9223372036854775807 := by unfold maxLen at hcm; omega
              subst ea
              clear hr hri hci hcm hni hiU
              have i0 : (0 : Int) ≤ (i : Int) := by omega
              have i1 : (i : Int) < (n4 : Int) := by omega
              go_wp2_with fail
              go_loopw [58] (fun v58 w4 => ∃ k : Nat, v58 = .int .i64 k ∧ k ≤ ni ∧ I w4 (b0 && (((usedRows C).take i).flatten ++ (grow (usedRows C) i).take k).all f) ∧ Kp (fun j => j = bo) w3 w4) (fun v58 _ => ni - (intOf v58).toNat)
              case atStart => exact ⟨0, rfl, by omega, by simpa using HI3.out, Kp.refl _ _⟩
              case round =>
                obtain ⟨k, rfl, hk, hI4, hK4⟩ := hrel
                obtain ⟨w4, rfl⟩ : ∃ w4 : World, w4 = wr := ⟨_, rfl⟩
                have HI4 := Lib.hid hI4
                have HK4 := Lib.hid hK4
                clear hI4 hK4 hcell
                by_cases hkl : k < ni
                · obtain ⟨b, off, e, hcell⟩ := (HRI.out _ HK4.out).get (j := k) (by rw [HNI.out]; exact hkl)
                  have HMem := Lib.hid (show gi (grow (usedRows C) i) k ∈ C.used by rw [← usedRows_flat]; exact mem_used HIU.out (by rw [HNI.out]; exact hkl))
                  have HAll := Lib.hid (all_take_gi (l := grow (usedRows C) i) (k := k) (by rw [HNI.out]; exact hkl) (((usedRows C).take i).flatten) f)
                  have HUF := Lib.hid (used_false (L := usedRows C) (i := i) (k := k) HIU.out (f := f) (b := b0))
                  obtain ⟨x, hx⟩ : ∃ x, gi (grow (usedRows C) i) k = x := ⟨_, rfl⟩
                  rw [hx] at hcell HMem HAll
                  obtain ⟨bb, hbb⟩ : ∃ bb, (b0 && (((usedRows C).take i).flatten ++ (grow (usedRows C) i).take k).all f) = bb := ⟨_, rfl⟩
                  have HBB := Lib.hid hbb
                  rw [hbb] at HI4
                  obtain ⟨b5, hb5⟩ : ∃ b5, (bb && f x) = b5 := ⟨_, rfl⟩
                  have HYx := Lib.hid (HII.out.2.2 _ _ _ HMem.out HI4.out)
                  rw [hb5] at HYx
                  have HB5 := Lib.hid (show (b0 && (((usedRows C).take i).flatten ++ (grow (usedRows C) i).take (k + 1)).all f) = b5 by rw [HAll.out, ← Bool.and_assoc, hbb]; exact hb5)
                  have k0 : (0 : Int) ≤ (k : Int) := by omega
                  have k1 : (k : Int) < (ni : Int) := by omega
                  subst e
                  clear hx hbb hb5
                  go_wp2_with fail
                  refine HYx.out.mono ?_
                  rintro o w5 ⟨rfl, hI5, hK5⟩
                  have HI5 := Lib.hid hI5
                  have HK5 := Lib.hid (HK4.out.trans hK5 (fun _ _ h => h))
                  clear hI5 hK5 HYx
                  cases b5 with
                  | false =>
                    go_wp2_with fail
                    refine bodyPost_ret (results_none rfl _ _ _) rfl ?_
                    exact ⟨rfl, by rw [← usedRows_flat, HUF.out HB5.out]; exact HI5.out, (HKw.out.mono (fun _ _ h => h.elim)).trans (HK3.out.trans HK5.out (fun _ _ h => h)) (fun _ _ h => h)⟩
                  | true =>
                    go_wp2_with fail
                    go_roundw
                    case rel => exact ⟨k + 1, by go_num, by omega, by rw [HB5.out]; exact HI5.out, HK5.out⟩
                    case measure => simp [intOf]; omega
                · have HI4' := Lib.hid (show I w4 (b0 && ((usedRows C).take (i + 1)).flatten.all f) by
                    have h := HI4.out
                    rw [List.take_of_length_le (l := grow (usedRows C) i) (by rw [HNI.out]; omega)] at h
                    rwa [take_grow HIU.out])
                  go_wp2_with fail
                  go_roundw
                  case rel => exact ⟨i + 1, by go_num, by omega, HI4'.out, HK3.out.trans HK4.out (fun _ _ h => h)⟩
                  case measure => simp [intOf]; omega
            · have HI3' := Lib.hid (show I w3 (b0 && C.used.all f) by
                have h := HI3.out
                rw [List.take_of_length_le (by rw [HN4.out]; omega), usedRows_flat] at h
                exact h)
              go_wp2_with fail
              go_end0
              exact ⟨rfl, HI3'.out, (HKw.out.mono (fun _ _ h => h.elim)).trans HK3.out (fun _ _ h => h)⟩

end Go.Proofs.YtckmdcmkjmpiaaaGreatDoor

/-
  The closures of circ.Check.
-/
namespace Go.Proofs.YtckmdcmkjmpiaaaGreatDoor
open Go.RowKit

theorem check_f1 (bo bc : Nat) (V : CV) (C : Circ) (u : World) (x : Int) (b : Bool) (hO : Blk u bo #[.bool b] 4) (hC : Blk u bc (cvals V C) 27) (m0 : 0 ≤ C.max) (m1 : C.max ≤ 16777216) :
    Calls Tryz.prog 40 #[.int .i64 x, .pointer (some ⟨bo, 0, none⟩), .pointer (some ⟨bc, 0, none⟩)] u fun e u' => e = .returned (.bool (b && useB C.max x)) ∧ u' = u.setCell ⟨bo, 0, none⟩ (.bool (b && useB C.max x)) := by
  have o0 : u.cell? ⟨bo, 0, none⟩ = some (.bool b) := hO.cell rfl
  have fo := hO.free 0
  have c0 : u.cell? ⟨bc, 0, none⟩ = some (.int .i64 C.max) := hC.cell rfl
  clear hO hC
  obtain ⟨r, hr⟩ : ∃ r, (b && useB C.max x) = r := ⟨_, rfl⟩
  rw [hr]
  have HR := Lib.hid hr
  clear hr
  cases b with
  | false =>
    obtain rfl : r = false := by have := HR.out; simpa using this.symm
    go_enter Tryz.func40, Tryz.ntmps40
    go_wp2_with fail
    go_ret
    exact ⟨rfl, rfl⟩
  | true =>
    by_cases h1 : 0 ≤ x
    · by_cases h2 : x ≤ 2 * C.max + 1
      · obtain rfl : r = true := by have := HR.out; rw [← this]; simp [useB, h1, h2]
        go_enter Tryz.func40, Tryz.ntmps40
        go_wp2_with fail
        go_ret
        exact ⟨rfl, rfl⟩
      · obtain rfl : r = false := by have := HR.out; rw [← this]; simp [useB, h2]
        have d2 : decide (x ≤ 2 * C.max + 1) = false := decide_eq_false h2
        go_enter Tryz.func40, Tryz.ntmps40
        go_wp2_with fail
        go_ret
        exact ⟨rfl, rfl⟩
    · obtain rfl : r = false := by have := HR.out; rw [← this]; simp [useB, h1]
      have d1 : decide (0 ≤ x) = false := decide_eq_false h1
      go_enter Tryz.func40, Tryz.ntmps40
      go_wp2_with fail
      go_ret
      exact ⟨rfl, rfl⟩

theorem check_f2 (bo bh bm n : Nat) (F : Int → Bool) (u : World) (x : Int) (b : Bool) (hO : Blk u bo #[.bool b] 4) (hH : Blk u bh #[.map (some bm)] 89) (hM : IMB u bm n F) (x0 : 0 ≤ x) (x1 : x ≤ 100000000) :
    Calls Tryz.prog 41 #[.int .i64 x, .pointer (some ⟨bo, 0, none⟩), .pointer (some ⟨bh, 0, none⟩)] u fun e u' => e = .returned (.bool (b && F (x / 2))) ∧ u' = u.setCell ⟨bo, 0, none⟩ (.bool (b && F (x / 2))) := by
  have o0 : u.cell? ⟨bo, 0, none⟩ = some (.bool b) := hO.cell rfl
  have fo := hO.free 0
  have c0 : u.cell? ⟨bh, 0, none⟩ = some (.map (some bm)) := hH.cell rfl
  have hl := hM.look (x := x / 2) ⟨by omega, by omega⟩
  clear hO hH hM
  obtain ⟨f, hf⟩ : ∃ f, F (x / 2) = f := ⟨_, rfl⟩
  rw [hf] at hl ⊢
  clear hf
  cases b with
  | false =>
    go_enter Tryz.func41, Tryz.ntmps41
    go_wp2_with fail
    go_ret
    exact ⟨rfl, rfl⟩
  | true =>
    go_enter Tryz.func41, Tryz.ntmps41
    go_wp2_with fail
    go_ret
    exact ⟨rfl, rfl⟩

end Go.Proofs.YtckmdcmkjmpiaaaGreatDoor

/-
  circ.Check: what is wrong with any circuit. (Printed by mkcheck.py.)
-/
namespace Go.Proofs.YtckmdcmkjmpiaaaGreatDoor
open Go.RowKit

theorem and1 (n : Int) : bits .and .i64 n 1 = n % 2 := by
  have h1 : (BitVec.ofInt 64 1).toNat = 2 ^ 1 - 1 := by decide
  have key : (BitVec.ofInt 64 n &&& BitVec.ofInt 64 1).toNat = (n % ((2 ^ 64 : Nat) : Int)).toNat % 2 ^ 1 := by
    rw [BitVec.toNat_and, BitVec.toNat_ofInt, h1, Nat.and_two_pow_sub_one_eq_mod]
  show IntKind.i64.wrap ((BitVec.ofInt 64 n &&& BitVec.ofInt 64 1).toNat : Nat) = n % 2
  rw [key, IntKind.wrap_i64]
  omega

theorem Blk.bool {w : World} {b : Nat} {x : Bool} {t : TypeId} (h : Blk w b #[.bool x] t) (y : Bool) : Blk (w.setCell ⟨b, 0, none⟩ (.bool y)) b #[.bool y] t := by
  have := h.set_same 0 (.bool y)
  simpa using this

theorem all_take {α : Type} {l : List α} {k : Nat} {x : α} (h : l.take (k + 1) = l.take k ++ [x]) (f : α → Bool) : (l.take (k + 1)).all f = ((l.take k).all f && f x) := by
  rw [h, List.all_append]; simp

def hasF (own : List Int) (y : Int) : Bool := decide (y = 0) || own.any (fun z => decide (z / 2 = y))

theorem hasF_snoc (P : List Int) (x : Int) : (fun y => if y = x / 2 then true else hasF P y) = hasF (P ++ [x]) := by
  funext y
  unfold hasF
  rw [List.any_append]
  by_cases h : y = x / 2
  · subst h; simp
  · have : ¬ x / 2 = y := fun e => h e.symm
    simp [h, this]

theorem hasF_new {C : Circ} (hR : InRange C) {k : Nat} (hk : k < C.owned.length) : hasF (C.owned.take k) (gi C.owned k / 2) = decide (gi C.owned k ∈ C.owned.take k) := by
  have hx : gi C.owned k ∈ C.owned := by
    unfold gi; rw [List.getElem?_eq_getElem hk]; exact List.getElem_mem hk
  have h1 := hR.own _ hx
  unfold hasF
  rw [decide_eq_false (by omega), Bool.false_or, Bool.eq_iff_iff]
  simp only [List.any_eq_true, decide_eq_true_eq]
  constructor
  · rintro ⟨z, hz, e⟩
    have h2 := hR.own _ (List.mem_of_mem_take hz)
    have : z = gi C.owned k := by omega
    rw [← this]; exact hz
  · intro h; exact ⟨_, h, rfl⟩

theorem nodup_take {l : List Int} {k : Nat} (hk : k < l.length) (h : (l.take k).Nodup) (hm : gi l k ∉ l.take k) : (l.take (k + 1)).Nodup := by
  rw [take_gi hk, List.nodup_append]
  refine ⟨h, by simp, fun a ha b hb => ?_⟩
  simp at hb
  subst hb
  intro e
  subst e
  exact hm ha

theorem not_nodup {l : List Int} {k : Nat} (hk : k < l.length) (hm : gi l k ∈ l.take k) : ¬ l.Nodup := by
  intro h
  obtain ⟨j, hj⟩ := List.mem_iff_getElem?.1 hm
  have hjk : j < k := by
    have := (List.getElem?_eq_some_iff.1 hj).1
    simp at this; omega
  rw [List.getElem?_take, if_pos hjk] at hj
  have h2 : l[k]? = some (gi l k) := by unfold gi; rw [List.getElem?_eq_getElem hk]; rfl
  have := nodup_getElem h hj h2
  omega

theorem hasF_zero : (fun y => if y = 0 then true else false) = hasF [] := by
  funext y
  unfold hasF
  by_cases h : y = 0 <;> simp [h]

/-- how circ.Check's answer is laid open -/
theorem ck5 {C : Circ} (h : C.max < 0 ∨ 16777216 < C.max ∨ rangeB C = false) : ckCode C = 5 := by
  unfold ckCode
  by_cases h1 : C.max < 0 ∨ 16777216 < C.max
  · rw [if_pos h1]
  · rw [if_neg h1, if_pos]
    rcases h with h | h | h
    · exact absurd (.inl h) h1
    · exact absurd (.inr h) h1
    · exact h
theorem ckR {C : Circ} (h0 : 0 ≤ C.max) (h1 : C.max ≤ 16777216) (h : rangeB C = true) : ckCode C = if ¬ C.owned.Nodup then 7 else if C.used.all (knownB C.owned) = false then 9 else if (ordO C.gates).length < C.gates.length then 8 else 0 := by
  unfold ckCode
  rw [if_neg (by omega), if_neg (by simp [h])]

set_option maxRecDepth 100000 in
set_option maxHeartbeats 8000000 in
theorem circ_Chk (V : CV) (C : Circ) (w : World) (h : CAt w V C) (hf : CFewI C) :
    Calls Tryz.prog 16 #[.agg (cvals V C)] w fun e w' => e = .returned (.int .i64 (ckCode C)) ∧ Kp (fun _ => False) w w' := by
  obtain ⟨code, hcode⟩ : ∃ code, ckCode C = code := ⟨_, rfl⟩
  rw [hcode]
  have HCode := Lib.hid hcode
  clear hcode
  have HC0 := Lib.hid (Blk.new w (cvals V C) 27)
  have HK0 := Lib.hid ((Kp.refl (fun _ => False) w).alloc (.cells (cvals V C) 27))
  by_cases m0 : 0 ≤ C.max
  case neg =>
    have d1 : decide (C.max < 0) = true := decide_eq_true (by omega)
    obtain rfl : code = 5 := by rw [← HCode.out]; exact ck5 (.inl (by omega))
    have c0 := HC0.out.cell (i := 0) (v := .int .i64 C.max) rfl
    clear m0 h hf
    go_enter Tryz.func16, Tryz.ntmps16
    go_wp2_with fail
    go_ret
    exact ⟨rfl, HK0.out⟩
  have e1 : decide (C.max < 0) = false := decide_eq_false (by omega)
  by_cases m1 : C.max ≤ 16777216
  case neg =>
    have d1 : decide ((16777216 : Int) < C.max) = true := decide_eq_true (by omega)
    obtain rfl : code = 5 := by rw [← HCode.out]; exact ck5 (.inr (.inl (by omega)))
    have c0 := HC0.out.cell (i := 0) (v := .int .i64 C.max) rfl
    clear m1 h hf
    go_enter Tryz.func16, Tryz.ntmps16
    go_wp2_with fail
    go_ret
    exact ⟨rfl, HK0.out⟩
  have e2 : decide ((16777216 : Int) < C.max) = false := decide_eq_false (by omega)
  have HM := Lib.hid (And.intro m0 m1)
  have hl := (h.fl.le63).1
  have HA := Lib.hid h
  have HF := Lib.hid hf
  have HOl := Lib.hid (show C.owned.length ≤ 30000000 by have := hf.i; have := hf.l; have := hf.g; unfold Circ.owned; simp; omega)
  have HD := Lib.hid (fun u (hu : Kp (fun _ => False) w u) => circ_defined V C u (h.kp hu) hf)
  clear h hf
  obtain ⟨bc, hbc⟩ : ∃ bc, bc = w.heap.size := ⟨_, rfl⟩
  have HBc := Lib.hid hbc
  obtain ⟨d0, d1, d2, d3, d4, d5, d6, d7, d8⟩ := HC0.out.cells9
  go_enter Tryz.func16, Tryz.ntmps16
  go_wp2_with fail
  refine (HD.out _ HK0.out).mono ?_
  rintro e w1 ⟨v1, rfl, hO1, hK1⟩
  clear d0 d1 d2 d3 d4 d5 d6 d7 d8
  have hB1 := HC0.out.kp hK1 (fun h => h)
  have hK1' := HK0.out.trans hK1 (fun _ _ h => h)
  obtain ⟨a1, cp1, e1', hc1, hm1, -, -⟩ := hO1.form
  obtain ⟨n1, hn1⟩ : ∃ n, C.owned.length = n := ⟨_, rfl⟩
  rw [iv_length, hn1] at e1' hc1
  have hn63 : n1 ≤ 9223372036854775807 := by unfold maxLen at hm1; omega
  have HN1 := Lib.hid hn1
  obtain ⟨bo, hbo⟩ : ∃ bo, bo = w1.heap.size := ⟨_, rfl⟩
  obtain ⟨wo, hwo⟩ : ∃ wo : World, wo = w1.alloc (.cells #[.bool true] 4) := ⟨_, rfl⟩
  have HBo : Hid (Blk wo bo #[.bool true] 4) := Lib.hid (by rw [hwo, hbo]; exact Blk.new _ _ _)
  have HKo : Hid (Kp (fun _ => False) w wo) := Lib.hid (by rw [hwo]; exact hK1'.alloc _)
  have HBC : Hid (Blk wo bc (cvals V C) 27) := Lib.hid (by rw [hwo, hbc]; exact hB1.alloc _)
  have HNe : Hid (w.heap.size ≤ bc ∧ bc < bo ∧ bo < wo.heap.size) := Lib.hid ⟨by omega, by rw [hbc, hbo]; exact hB1.lt, HBo.out.lt⟩
  have HRW := Lib.hid (show ∀ u, Kp (fun j => j = bo) wo u → IntsAt u a1 C.owned from fun u hu => by
    have hO2 : Own wo (w.alloc (.cells (cvals V C) 27)).heap.size 3 v1 (iv C.owned) := by rw [hwo]; exact hO1.alloc _
    have hne : ∀ j, v1.ownBlock = some j → ¬ j = bo := fun j hj e => by have := (hO1.lt j hj).2; omega
    obtain ⟨a, c, e, -, -, -, hr⟩ := (hO2.kp hu hne).form
    rw [e1'] at e
    simp only [Value.slice.injEq] at e
    rw [e.1]; exact hr)
  subst e1'
  have hwo' := hwo.symm
  have hbo' := hbo.symm
  have hbc' := hbc.symm
  clear hbo hwo hbc hO1 hK1 hB1 hK1' hc1 hm1 hn1 HC0 HK0 e1 e2 HD
  go_upto_region 4 with fail
  try rw [hwo']
  try rw [hbo']
  try rw [hbc']
  clear hwo' hbo' hbc'
  have c0 := HBC.out.cell (i := 0) (v := .int .i64 C.max) rfl
  go_wp2_with fail
  go_loopw [24] (fun v24 wr => ∃ k : Nat, v24 = .int .i64 k ∧ k ≤ n1 ∧ Blk wr bo #[.bool ((C.owned.take k).all (ownB C.max))] 4 ∧ Kp (fun j => j = bo) wo wr) (fun v24 _ => n1 - (intOf v24).toNat)
  case atStart => exact ⟨0, rfl, by omega, by simpa using HBo.out, Kp.refl _ _⟩
  case round =>
    obtain ⟨k, rfl, hk, hB, hK⟩ := hrel
    clear c0 HBo
    obtain ⟨wp, rfl⟩ : ∃ wp : World, wp = wr := ⟨_, rfl⟩
    have HK := Lib.hid hK
    obtain ⟨b, hb⟩ : ∃ b, (C.owned.take k).all (ownB C.max) = b := ⟨_, rfl⟩
    rw [hb] at hB
    by_cases hlt : k < n1
    · obtain ⟨bl, off, rfl, hcell⟩ := (HRW.out _ hK).get (j := k) (by rw [HN1.out]; exact hlt)
      obtain ⟨x, hx⟩ : ∃ x, gi C.owned k = x := ⟨_, rfl⟩
      rw [hx] at hcell
      have hall := all_take (take_gi (L := C.owned) (k := k) (by rw [HN1.out]; exact hlt)) (ownB C.max)
      rw [hb, hx] at hall
      have c0 := (HBC.out.kp hK (fun e => by have := HNe.out; omega)).cell (i := 0) (v := .int .i64 C.max) rfl
      have o0 : wp.cell? ⟨bo, 0, none⟩ = some (.bool b) := hB.cell rfl
      have fo := hB.free 0
      have i0 : (0 : Int) ≤ (k : Int) := by omega
      have i1 : (k : Int) < (n1 : Int) := by omega
      have ha := and1 x
      have HNext := Lib.hid (fun y (hy : (b && ownB C.max x) = y) => show ∃ k' : Nat, Value.int .i64 ((k : Int) + 1) = .int .i64 k' ∧ k' ≤ n1 ∧ Blk (wp.setCell ⟨bo, 0, none⟩ (.bool y)) bo #[.bool ((C.owned.take k').all (ownB C.max))] 4 ∧ Kp (fun j => j = bo) wo (wp.setCell ⟨bo, 0, none⟩ (.bool y)) from
        ⟨k + 1, by go_num, by omega, by rw [hall, hy]; exact hB.bool y, hK.setCell (p := ⟨bo, 0, none⟩) (fun _ => rfl) _⟩)
      clear hb hx hall hB hK
      cases b with
      | false =>
        go_wp2_with fail
        go_roundw
        case rel => exact HNext.out false (by simp)
        case measure => simp [intOf]; omega
      | true =>
        by_cases h1 : 1 < x
        · by_cases h2 : x % 2 = 0
          · by_cases h3 : x ≤ 2 * C.max
            · have HPrf := Lib.hid (show (true && ownB C.max x) = true by simp [ownB, h1, h2, h3])
              have g2 : ((x % 2 : Int) == 0) = true := by simp [h2]
              clear h2
              go_wp2_with fail
              go_roundw
              case rel => exact HNext.out true (HPrf.out)
              case measure => simp [intOf]; omega
            · have HPrf := Lib.hid (show (true && ownB C.max x) = false by simp [ownB, h3])
              have g2 : ((x % 2 : Int) == 0) = true := by simp [h2]
              have g3 : decide (x ≤ 2 * C.max) = false := decide_eq_false h3
              clear h2
              go_wp2_with fail
              go_roundw
              case rel => exact HNext.out false (HPrf.out)
              case measure => simp [intOf]; omega
          · have HPrf := Lib.hid (show (true && ownB C.max x) = false by simp [ownB, h2])
            have g2 : ((x % 2 : Int) == 0) = false := by simp [h2]
            clear h2
            go_wp2_with fail
            go_roundw
            case rel => exact HNext.out false (HPrf.out)
            case measure => simp [intOf]; omega
        · have HPrf := Lib.hid (show (true && ownB C.max x) = false by simp [ownB, h1])
          have g1 : decide (1 < x) = false := decide_eq_false h1
          go_wp2_with fail
          go_roundw
          case rel => exact HNext.out false (HPrf.out)
          case measure => simp [intOf]; omega
    · have HB := Lib.hid (show Blk wp bo #[.bool (C.owned.all (ownB C.max))] 4 by
        rw [List.take_of_length_le (by rw [HN1.out]; omega)] at hb
        rw [hb]; exact hB)
      have c2 := (HBC.out.kp hK (fun e => by have := HNe.out; omega)).cell (i := 2) (v := .slice V.al C.lats.length V.cl) rfl
      clear hB hK hb hk
      obtain ⟨r1, hr1⟩ : ∃ r, C.owned.all (ownB C.max) = r := ⟨_, rfl⟩
      rw [hr1] at HB
      have HR1 := Lib.hid hr1
      clear hr1
      go_wp2_with fail
      go_loopw [49] (fun v49 wr => ∃ k : Nat, v49 = .int .i64 k ∧ k ≤ C.lats.length ∧ Blk wr bo #[.bool (r1 && (C.lats.take k).all resB)] 4 ∧ Kp (fun j => j = bo) wo wr) (fun v49 _ => C.lats.length - (intOf v49).toNat)
      case atStart => exact ⟨0, rfl, by omega, by simpa using HB.out, HK.out⟩
      case round =>
        obtain ⟨k, rfl, hk, hB, hK⟩ := hrel
        clear c2 HB HK hlt
        obtain ⟨wq, rfl⟩ : ∃ wp : World, wp = wr := ⟨_, rfl⟩
        obtain ⟨b, hb⟩ : ∃ b, (r1 && (C.lats.take k).all resB) = b := ⟨_, rfl⟩
        rw [hb] at hB
        have HK := Lib.hid hK
        by_cases hlt : k < C.lats.length
        · have hKw : Kp (fun _ => False) w wq := HKo.out.trans hK (fun j hj e => by have := HNe.out; omega)
          obtain ⟨bl, off, ea, l0, l1, l2⟩ := tri_cells (HA.out.kp hKw).l hlt
          have hall := all_take (take_g3 hlt) resB
          obtain ⟨x0, hx0⟩ : ∃ x, (g3 C.lats k).1 = x := ⟨_, rfl⟩
          obtain ⟨x1, hx1⟩ : ∃ x, (g3 C.lats k).2.1 = x := ⟨_, rfl⟩
          obtain ⟨x2, hx2⟩ : ∃ x, (g3 C.lats k).2.2 = x := ⟨_, rfl⟩
          have hres : resB (g3 C.lats k) = (decide (x2 = 0) || (decide (x2 = 1) || decide (x2 = x0))) := by unfold resB; rw [hx0, hx2]
          rw [hres] at hall
          rw [hx0] at l0
          rw [hx1] at l1
          rw [hx2] at l2
          have hBa := hB.alloc (.cells #[.int .i64 x0, .int .i64 x1, .int .i64 x2] 59)
          have o0 : (wq.alloc (.cells #[.int .i64 x0, .int .i64 x1, .int .i64 x2] 59)).cell? ⟨bo, 0, none⟩ = some (.bool b) := hBa.cell rfl
          have fo := hBa.free 0
          have i0 : (0 : Int) ≤ (k : Int) := by omega
          have i1 : (k : Int) < (C.lats.length : Int) := by omega
          have HNext := Lib.hid (fun y (hy : (b && (decide (x2 = 0) || (decide (x2 = 1) || decide (x2 = x0)))) = y) => show ∃ k' : Nat, Value.int .i64 ((k : Int) + 1) = .int .i64 k' ∧ k' ≤ C.lats.length ∧ Blk ((wq.alloc (.cells #[.int .i64 x0, .int .i64 x1, .int .i64 x2] 59)).setCell ⟨bo, 0, none⟩ (.bool y)) bo #[.bool (r1 && (C.lats.take k').all resB)] 4 ∧ Kp (fun j => j = bo) wo ((wq.alloc (.cells #[.int .i64 x0, .int .i64 x1, .int .i64 x2] 59)).setCell ⟨bo, 0, none⟩ (.bool y)) from
            ⟨k + 1, by go_num, by omega, by rw [hall, ← Bool.and_assoc, hb, hy]; exact hBa.bool y, (hK.alloc _).setCell (p := ⟨bo, 0, none⟩) (fun _ => rfl) _⟩)
          have HEA := Lib.hid ea
          clear hx0 hx1 hx2 ea hb hall hres hB hBa hK hKw
          rw [HEA.out]
          cases b with
          | false =>
            go_wp2_with fail
            go_roundw
            case rel => exact HNext.out false (by simp)
            case measure => simp [intOf]; omega
          | true =>
            by_cases h1 : x2 = 0
            · have HPrf := Lib.hid (show (true && (decide (x2 = 0) || (decide (x2 = 1) || decide (x2 = x0)))) = true by simp [h1])
              have g1 : ((x2 : Int) == 0) = true := by simp [h1]
              clear h1
              go_wp2_with fail
              go_roundw
              case rel => exact HNext.out true (HPrf.out)
              case measure => simp [intOf]; omega
            · have g1 : ((x2 : Int) == 0) = false := by simp [h1]
              by_cases h2 : x2 = 1
              · have HPrf := Lib.hid (show (true && (decide (x2 = 0) || (decide (x2 = 1) || decide (x2 = x0)))) = true by simp [h2])
                have g2 : ((x2 : Int) == 1) = true := by simp [h2]
                clear h1 h2
                go_wp2_with fail
                go_roundw
                case rel => exact HNext.out true (HPrf.out)
                case measure => simp [intOf]; omega
              · have g2 : ((x2 : Int) == 1) = false := by simp [h2]
                by_cases h3 : x2 = x0
                · have HPrf := Lib.hid (show (true && (decide (x2 = 0) || (decide (x2 = 1) || decide (x2 = x0)))) = true by simp [h3])
                  have g3 : ((x2 : Int) == x0) = true := by simp [h3]
                  clear h1 h2 h3
                  go_wp2_with fail
                  go_roundw
                  case rel => exact HNext.out true (HPrf.out)
                  case measure => simp [intOf]; omega
                · have HPrf := Lib.hid (show (true && (decide (x2 = 0) || (decide (x2 = 1) || decide (x2 = x0)))) = false by simp [h1, h2, h3])
                  have g3 : ((x2 : Int) == x0) = false := by simp [h3]
                  clear h1 h2 h3
                  go_wp2_with fail
                  go_roundw
                  case rel => exact HNext.out false (HPrf.out)
                  case measure => simp [intOf]; omega
        · have HB := Lib.hid (show Blk wq bo #[.bool (r1 && C.lats.all resB)] 4 by
            rw [List.take_of_length_le (by omega)] at hb
            rw [hb]; exact hB)
          clear hB hK hb hk
          obtain ⟨r2, hr2⟩ : ∃ r, (r1 && C.lats.all resB) = r := ⟨_, rfl⟩
          rw [hr2] at HB
          have HR2 := Lib.hid hr2
          clear hr2
          have hbcq := HBC.out.kp HK.out (fun e => by have := HNe.out; omega)
          have HBCq := Lib.hid hbcq
          obtain ⟨d0, d1, d2, d3, d4, d5, d6, d7, d8⟩ := hbcq.cells9
          have HKq := Lib.hid (HKo.out.trans HK.out (fun j hj e => by have := HNe.out; omega))
          have HU := Lib.hid (circ_uses1 (.pointer (some ⟨bo, 0, none⟩)) (.pointer (some ⟨bc, 0, none⟩)) V C bo (useB C.max) (fun u b => Blk u bo #[.bool b] 4 ∧ Blk u bc (cvals V C) 27) r2 w wq HA.out HF.out HKq.out (by have := HNe.out; omega) (by have := HNe.out; have := HK.out.size; omega)
            ⟨HB.out, hbcq⟩ (fun u u' b hK hI => ⟨hI.1.kp hK (fun h => h), hI.2.kp hK (fun h => h)⟩)
            (fun u x b hx hI => (check_f1 bo bc V C u x b hI.1 hI.2 HM.out.1 HM.out.2).mono (by
              rintro e u' ⟨he, rfl⟩
              exact ⟨he, ⟨hI.1.bool _, hI.2.set_other (p := ⟨bo, 0, none⟩) (show bc ≠ bo by have := HNe.out; omega) _⟩, Kp.set u ⟨bo, 0, none⟩ _⟩)))
          clear hbcq
          go_wp2_with fail
          refine HU.out.mono ?_
          rintro e w2 ⟨rfl, ⟨hO2, hC2⟩, hK2⟩
          have HK2 := Lib.hid (HKq.out.trans hK2 (fun j hj h => by have := HNe.out; omega))
          obtain ⟨r3, hr3⟩ : ∃ r, (r2 && C.used.all (useB C.max)) = r := ⟨_, rfl⟩
          rw [hr3] at hO2
          have HR3 := Lib.hid (show rangeB C = r3 by unfold rangeB; rw [HR1.out, HR2.out]; exact hr3)
          have o2 : w2.cell? ⟨bo, 0, none⟩ = some (.bool r3) := hO2.cell rfl
          have HO2 := Lib.hid hO2
          have HC2 := Lib.hid hC2
          have HKo2 := Lib.hid (HK.out.trans hK2 (fun _ _ h => h))
          clear hr3 hO2 hC2 hK2 HU d0 d1 d2 d3 d4 d5 d6 d7 d8 HBCq HB HK HKq
          cases r3 with
          | false =>
            obtain rfl : code = 5 := by rw [← HCode.out]; exact ck5 (.inr (.inr HR3.out))
            go_wp2_with fail
            go_ret
            exact ⟨rfl, HK2.out⟩
          | true =>
            have HIR := Lib.hid (InRange.of HM.out.1 HM.out.2 HR3.out)
            have HCk := Lib.hid (ckR HM.out.1 HM.out.2 HR3.out)
            rw [HCode.out] at HCk
            clear HR1 HR2 HR3 HCode
            obtain ⟨w3, hput, hM3, hK3⟩ := (IMB.made w2).put (by unfold maxLen; omega) (x := 0) ⟨by omega, by omega⟩ true
            rw [hasF_zero] at hM3
            have hmm := @run_makeMap Tryz.prog
            have hs3 : w2.heap.size < w3.heap.size := by have := hK3.size; rw [World.size_alloc] at this; omega
            have hbo2 := HO2.out.lt
            have hbc2 := HC2.out.lt
            have HO3 := Lib.hid ((HO2.out.alloc (.map #[] 0)).kp hK3 (by omega))
            have HC3 := Lib.hid ((HC2.out.alloc (.map #[] 0)).kp hK3 (by omega))
            have HK3 := Lib.hid ((HK2.out.alloc (.map #[] 0)).trans hK3 (fun j hj h => by have := HK2.out.size; omega))
            have HKo3 := Lib.hid ((HKo2.out.alloc (.map #[] 0)).trans hK3 (fun j hj h => by have := HKo2.out.size; omega))
            obtain ⟨bm, hbm⟩ : ∃ bm, bm = w2.heap.size := ⟨_, rfl⟩
            obtain ⟨bh, hbh⟩ : ∃ bh, bh = w3.heap.size := ⟨_, rfl⟩
            obtain ⟨wh, hwh⟩ : ∃ wh : World, wh = w3.alloc (.cells #[.map (some w2.heap.size)] 89) := ⟨_, rfl⟩
            have HBh : Hid (Blk wh bh #[.map (some bm)] 89) := Lib.hid (by rw [hwh, hbh, hbm]; exact Blk.new _ _ _)
            have HBo : Hid (Blk wh bo #[.bool true] 4) := Lib.hid (by rw [hwh]; exact HO3.out.alloc _)
            have HBCh : Hid (Blk wh bc (cvals V C) 27) := Lib.hid (by rw [hwh]; exact HC3.out.alloc _)
            have HKh : Hid (Kp (fun _ => False) w wh) := Lib.hid (by rw [hwh]; exact HK3.out.alloc _)
            have HKoh : Hid (Kp (fun j => j = bo) wo wh) := Lib.hid (by rw [hwh]; exact HKo3.out.alloc _)
            have HMh : Hid (IMB wh bm (0 + 1) (hasF (C.owned.take 0))) := Lib.hid (by rw [hwh, hbm]; exact hM3.kp ((Kp.refl (fun _ => False) _).alloc _) (fun h => h))
            have HNh : Hid (bo < bm ∧ bc < bm ∧ bm < bh ∧ w.heap.size ≤ bm ∧ wo.heap.size ≤ bm) := Lib.hid ⟨by omega, by omega, by omega, by have := HK2.out.size; omega, by have := HKo2.out.size; omega⟩
            have HEq := Lib.hid (And.intro hwh.symm (And.intro hbh.symm hbm.symm))
            clear hwh hbh hbm hM3 hK3 HO3 HC3 HK3 HKo3 HO2 HC2 HK2 HKo2 hs3 hbo2 hbc2
            go_upto_region 18 with fail
            rw [HEq.out.1, HEq.out.2.1, HEq.out.2.2]
            clear HEq hput hmm o2
            go_wp2_with fail
            go_loopw [81] (fun v81 wr => ∃ k : Nat, v81 = .int .i64 k ∧ k ≤ n1 ∧ (C.owned.take k).Nodup ∧ IMB wr bm (k + 1) (hasF (C.owned.take k)) ∧ Kp (fun j => j = bm) wh wr) (fun v81 _ => n1 - (intOf v81).toNat)
            case atStart => exact ⟨0, rfl, by omega, by simp, HMh.out, Kp.refl _ _⟩
            case round =>
              obtain ⟨k, rfl, hk, hnd, hM, hK⟩ := hrel
              clear HMh
              obtain ⟨wv, rfl⟩ : ∃ wp : World, wp = wr := ⟨_, rfl⟩
              have hbhv := HBh.out.kp hK (fun e => by have := HNh.out; omega)
              have HKv := Lib.hid hK
              by_cases hkn : k < n1
              · have hkl : k < C.owned.length := by rw [HN1.out]; exact hkn
                have hIw : IntsAt wv a1 C.owned := RowAt.kp (S := fun j => j = bm) (HRW.out _ HKoh.out) hK (fun p hp e => by
                  obtain ⟨b, o, e2, hc⟩ := (HRW.out _ (Kp.refl _ wo)).get (j := k) hkl
                  rw [hp] at e2
                  simp only [Option.some.injEq] at e2
                  subst e2
                  have h1 := World.block_lt_of_cell? wo _ hc
                  have h2 : b = bm := e
                  have := HNh.out
                  simp at h1
                  omega)
                obtain ⟨bl, off, rfl, hcell⟩ := hIw.get (j := k) hkl
                clear hIw
                have hnew := hasF_new HIR.out hkl
                have hxo : gi C.owned k ∈ C.owned := by unfold gi; rw [List.getElem?_eq_getElem hkl]; exact List.getElem_mem hkl
                have hxr := HIR.out.own _ hxo
                have HND := Lib.hid (fun h => nodup_take hkl hnd h)
                have HNN := Lib.hid (fun h => not_nodup (l := C.owned) hkl h)
                have HTk := Lib.hid (take_gi hkl)
                obtain ⟨x, hx⟩ : ∃ x, gi C.owned k = x := ⟨_, rfl⟩
                rw [hx] at hcell hnew hxr HND HNN HTk
                have hxm : x ≤ 100000000 := by have := HM.out; omega
                have x0 : 0 ≤ x := by omega
                have hlook := hM.look (x := x / 2) ⟨by omega, by omega⟩
                have ch : wv.cell? ⟨bh, 0, none⟩ = some (.map (some bm)) := hbhv.cell rfl
                have i0 : (0 : Int) ≤ (k : Int) := by omega
                have i1 : (k : Int) < (n1 : Int) := by omega
                by_cases hin : x ∈ C.owned.take k
                · rw [hnew, decide_eq_true hin] at hlook
                  obtain rfl : code = 7 := by have := HCk.out; rw [if_pos (HNN.out hin)] at this; exact this
                  have HE := Lib.hid (HKh.out.trans hK (fun j hj e => by have := HNh.out; omega))
                  clear hx hnew hxr hin hM hK hnd hxo hbhv
                  go_wp2_with fail
                  go_ret
                  exact ⟨rfl, HE.out⟩
                · rw [hnew, decide_eq_false hin] at hlook
                  obtain ⟨w9, hput9, hM9, hK9⟩ := hM.put (by have := HOl.out; have := HN1.out; unfold maxLen; omega) (x := x / 2) ⟨by omega, by omega⟩ true
                  rw [hasF_snoc, ← HTk.out] at hM9
                  have HR := Lib.hid (show ∃ k' : Nat, Value.int .i64 ((k : Int) + 1) = .int .i64 k' ∧ k' ≤ n1 ∧ (C.owned.take k').Nodup ∧ IMB w9 bm (k' + 1) (hasF (C.owned.take k')) ∧ Kp (fun j => j = bm) wh w9 from
                    ⟨k + 1, by go_num, by omega, HND.out hin, hM9, hK.trans hK9 (fun _ _ h => h)⟩)
                  clear hx hnew hxr hin hM hK hnd hM9 hK9 hxo hbhv
                  go_wp2_with fail
                  go_roundw
                  case rel => exact HR.out
                  case measure => simp [intOf]; omega
              · obtain rfl : k = n1 := by omega
                have HNod := Lib.hid (show C.owned.Nodup by rwa [List.take_of_length_le (by rw [HN1.out]; exact Nat.le_refl _)] at hnd)
                have hM' : IMB wv bm (k + 1) (hasF C.owned) := by rwa [List.take_of_length_le (by rw [HN1.out]; exact Nat.le_refl _)] at hM
                have HKw := Lib.hid (HKh.out.trans hK (fun j hj e => by have := HNh.out; omega))
                have hbov := HBo.out.kp hK (fun e => by have := HNh.out; omega)
                have hbcv := HBCh.out.kp hK (fun e => by have := HNh.out; omega)
                have HBCv := Lib.hid hbcv
                have HCk2 := Lib.hid (show code = if C.used.all (knownB C.owned) = false then 9 else if (ordO C.gates).length < C.gates.length then 8 else 0 by have := HCk.out; rw [if_neg (by simp; exact HNod.out)] at this; exact this)
                have HU := Lib.hid (circ_uses2 (.pointer (some ⟨bo, 0, none⟩)) (.pointer (some ⟨bh, 0, none⟩)) V C bo (fun x => hasF C.owned (x / 2)) (fun u b => Blk u bo #[.bool b] 4 ∧ Blk u bh #[.map (some bm)] 89 ∧ IMB u bm (k + 1) (hasF C.owned)) true w wv HA.out HF.out HKw.out (by have := HNe.out; omega) hbov.lt
                  ⟨hbov, hbhv, hM'⟩ (fun u u' b hK hI => ⟨hI.1.kp hK (fun h => h), hI.2.1.kp hK (fun h => h), hI.2.2.kp hK (fun h => h)⟩)
                  (fun u x b hx hI => (check_f2 bo bh bm (k + 1) (hasF C.owned) u x b hI.1 hI.2.1 hI.2.2 (HIR.out.use x hx).1 (by have := (HIR.out.use x hx).2; have := HM.out; omega)).mono (by
                    rintro e u' ⟨he, rfl⟩
                    have hK := Kp.set u ⟨bo, 0, none⟩ (.bool (b && hasF C.owned (x / 2)))
                    exact ⟨he, ⟨hI.1.bool _, hI.2.1.kp hK (fun e => by have := HNh.out; have e2 : bh = bo := e; omega), hI.2.2.kp hK (fun e => by have := HNh.out; have e2 : bm = bo := e; omega)⟩, hK⟩)))
                obtain ⟨d0, d1, d2, d3, d4, d5, d6, d7, d8⟩ := hbcv.cells9
                clear hM hM' hbov hbcv hbhv hnd hK HCk
                go_wp2_with fail
                refine HU.out.mono ?_
                rintro e w5 ⟨rfl, ⟨hO5, -, -⟩, hK5⟩
                have HX := Lib.hid (HBCv.out.kp hK5 (fun e => by have := HNe.out; have e2 : bc = bo := e; omega))
                have HK5 := Lib.hid (HKw.out.trans hK5 (fun j hj h => by have := HNe.out; omega))
                obtain ⟨r5, hr5⟩ : ∃ r, (true && C.used.all (fun x => hasF C.owned (x / 2))) = r := ⟨_, rfl⟩
                rw [hr5] at hO5
                have HR5 := Lib.hid (show C.used.all (knownB C.owned) = r5 from by rw [← hr5, Bool.true_and]; rfl)
                have o5 : w5.cell? ⟨bo, 0, none⟩ = some (.bool r5) := hO5.cell rfl
                clear hO5 hK5 hr5 HU d0 d1 d2 d3 d4 d5 d6 d7 d8
                cases r5 with
                | false =>
                  obtain rfl : code = 9 := by have := HCk2.out; rw [if_pos HR5.out] at this; exact this
                  go_wp2_with fail
                  go_ret
                  exact ⟨rfl, HK5.out⟩
                | true =>
                  have HCk3 := Lib.hid (show code = if (ordO C.gates).length < C.gates.length then 8 else 0 by have := HCk2.out; rw [if_neg (by rw [HR5.out]; simp)] at this; exact this)
                  obtain ⟨gn_, hgn⟩ : ∃ g, C.gates.length = g := ⟨_, rfl⟩
                  obtain ⟨on_, hon⟩ : ∃ g, (ordO C.gates).length = g := ⟨_, rfl⟩
                  have hle : on_ ≤ gn_ := by rw [← hgn, ← hon]; exact (ordO_at C.gates).len
                  rw [hgn, hon] at HCk3
                  have HGn := Lib.hid hgn
                  have HO := Lib.hid (show ∀ u, Kp (fun _ => False) w u → Calls Tryz.prog 42 #[.agg #[.int .i64 C.max, .slice V.ai C.ins.length V.ci, .slice V.al C.lats.length V.cl, .slice V.ao C.outs.length V.co, .slice V.ab C.bads.length V.cb, .slice V.ac C.cons.length V.cc, .slice V.ag gn_ V.cg, .slice V.ay V.ny V.cy, .string V.cm]] u fun e u' => (∃ a c, e = .returned (.slice a on_ c)) ∧ Kp (fun _ => False) u u' from fun u hu => by
                    have hor := (circ_Order V C u (HA.out.kp hu) HF.out.g (HIR.out.good HNod.out) (fun i hi => by
                      have h1 := HIR.out.own _ (gate_own hi)
                      have h2 := HIR.out.use _ (gate_useA hi)
                      have h3 := HIR.out.use _ (gate_useB hi)
                      have := HM.out
                      omega)).mono (R' := fun e u' => (∃ a c, e = .returned (.slice a on_ c)) ∧ Kp (fun _ => False) u u') (by
                        rintro e u' ⟨v, rfl, hO, hK⟩
                        obtain ⟨a, c, e, -⟩ := hO.form
                        rw [nv_length, hon] at e
                        exact ⟨⟨a, c, by rw [e]⟩, hK⟩)
                    unfold cvals at hor
                    rw [hgn] at hor
                    exact hor)
                  have HXu : Hid (Blk w5 bc #[.int .i64 C.max, .slice V.ai C.ins.length V.ci, .slice V.al C.lats.length V.cl, .slice V.ao C.outs.length V.co, .slice V.ab C.bads.length V.cb, .slice V.ac C.cons.length V.cc, .slice V.ag gn_ V.cg, .slice V.ay V.ny V.cy, .string V.cm] 27) := Lib.hid (by have := HX.out; unfold cvals at this; rw [hgn] at this; exact this)
                  clear hgn hon HX
                  go_upto_region 28 with fail
                  obtain ⟨wy, rfl⟩ : ∃ wy : World, wy = w5 := ⟨_, rfl⟩
                  clear o5
                  go_cut [99] from 100 to 107 (fun s99 wx => s99 = .bool (decide ((on_ : Int) < (gn_ : Int))) ∧ Kp (fun _ => False) w wx)
                  case first =>
                    go_region_held3 (fun u => u.cell? ⟨bc, 0, none⟩ = some (.int .i64 C.max) ∧ u.cell? ⟨bc, 1, none⟩ = some (.slice V.ai C.ins.length V.ci) ∧ u.cell? ⟨bc, 2, none⟩ = some (.slice V.al C.lats.length V.cl) ∧ u.cell? ⟨bc, 3, none⟩ = some (.slice V.ao C.outs.length V.co) ∧ u.cell? ⟨bc, 4, none⟩ = some (.slice V.ab C.bads.length V.cb) ∧ u.cell? ⟨bc, 5, none⟩ = some (.slice V.ac C.cons.length V.cc) ∧ u.cell? ⟨bc, 6, none⟩ = some (.slice V.ag gn_ V.cg) ∧ u.cell? ⟨bc, 7, none⟩ = some (.slice V.ay V.ny V.cy) ∧ u.cell? ⟨bc, 8, none⟩ = some (.string V.cm)) (with_reducible first | exact HXu.out.cells9 | exact HXu.out.drew.cells9 | exact HXb.out.cells9 | exact HXb.out.drew.cells9) (((with_reducible refine Calls.mono (HO.out _ (by first | exact HK5.out | exact HK5.out.drew)) ?_); rintro o u2 ⟨⟨a2, c2, rfl⟩, hK6⟩; have HXb := Lib.hid (by first | exact HXu.out.kp hK6 (fun h => h) | exact HXu.out.drew.kp hK6 (fun h => h)); have HKb := Lib.hid (by first | exact HK5.out.trans hK6 (fun _ _ h => h) | exact HK5.out.drew.trans hK6 (fun _ _ h => h)); clear hK6))
                    all_goals go_wp2_with fail
                    all_goals go_meet
                    all_goals exact ⟨by simp, by first | exact HKb.out | exact HKb.out.drew⟩
                  case rest =>
                  obtain ⟨rfl, hKc⟩ := hcut
                  have HKc := Lib.hid hKc
                  clear hKc
                  by_cases hlt2 : on_ < gn_
                  · obtain rfl : code = 8 := by have := HCk3.out; rw [if_pos hlt2] at this; exact this
                    have dd : decide ((on_ : Int) < (gn_ : Int)) = true := decide_eq_true (by omega)
                    rw [dd]
                    go_wp2_with fail
                    go_ret
                    exact ⟨rfl, HKc.out⟩
                  · obtain rfl : code = 0 := by have := HCk3.out; rw [if_neg hlt2] at this; exact this
                    have dd : decide ((on_ : Int) < (gn_ : Int)) = false := decide_eq_false (by omega)
                    rw [dd]
                    go_wp2_with fail
                    go_ret
                    exact ⟨rfl, HKc.out⟩

end Go.Proofs.YtckmdcmkjmpiaaaGreatDoor

/-
  The circuit whose file a text is, or what is wrong first, and where: plainly.
-/
namespace Go.Proofs.YtckmdcmkjmpiaaaGreatDoor
open Go.RowKit

/-- what a file is: no circuit (the place, the error), or one, its symbols, its comment, its end -/
inductive PRes where
  | bad (at_ e : Int)
  | ok (C : Circ) (l : List Sym) (c : ByteArray) (at_ : Nat)

/-- the head as tail.Read has it -/
def hdP (h : Bool × List Nat × Nat × Nat) : Hd := ⟨h.1, (nth h.2.1 0 : Nat), (nth h.2.1 1 : Nat), (nth h.2.1 2 : Nat), (nth h.2.1 3 : Nat), (nth h.2.1 4 : Nat), (nth h.2.1 5 : Nat), (nth h.2.1 6 : Nat)⟩
/-- the circuit behind a head -/
def rdP (s : ByteArray) (h : Bool × List Nat × Nat × Nat) : Circ × Nat × Nat :=
  if h.1 = true then rdC s ((nth h.2.1 0 : Nat) : Int) (nth h.2.1 1) (nth h.2.1 2) (nth h.2.1 3) (nth h.2.1 4) (nth h.2.1 5) (nth h.2.1 6) (h.2.2.1, 0)
  else rdA s ((nth h.2.1 0 : Nat) : Int) (nth h.2.1 1) (nth h.2.1 2) (nth h.2.1 3) (nth h.2.1 4) (nth h.2.1 5) (nth h.2.1 6) (h.2.2.1, 0)
def prsT (s : ByteArray) : PRes :=
  if 1048576 < s.size then .bad 0 4
  else if (headT s).2.2.2 ≠ 0 then .bad ((headT s).2.2.1 : Nat) ((headT s).2.2.2 : Nat)
  else if (rdP s (headT s)).2.2 ≠ 0 then .bad ((rdP s (headT s)).2.1 : Nat) ((rdP s (headT s)).2.2 : Nat)
  else if (readT (hdP (headT s)) s ((rdP s (headT s)).2.1 : Nat)).e ≠ 0 then .bad ((readT (hdP (headT s)) s ((rdP s (headT s)).2.1 : Nat)).to : Nat) ((readT (hdP (headT s)) s ((rdP s (headT s)).2.1 : Nat)).e : Nat)
  else if ckCode (rdP s (headT s)).1 ≠ 0 then .bad 0 (ckCode (rdP s (headT s)).1)
  else .ok (rdP s (headT s)).1 (readT (hdP (headT s)) s ((rdP s (headT s)).2.1 : Nat)).l (readT (hdP (headT s)) s ((rdP s (headT s)).2.1 : Nat)).c (readT (hdP (headT s)) s ((rdP s (headT s)).2.1 : Nat)).to

/-- how large the numbers of a head are, and where it ends -/
theorem nth_push {l : List Nat} {x B : Nat} (h : ∀ j, nth l j ≤ B) (hx : x ≤ B) : ∀ j, nth (l ++ [x]) j ≤ B := by
  intro j
  rcases Nat.lt_trichotomy j l.length with h1 | h1 | h1
  · rw [nth_snoc_lt h1]; exact h j
  · subst h1; rw [nth_snoc]; exact hx
  · rw [nth_ge (by simp; omega)]; exact Nat.zero_le _
theorem headL_small {s : ByteArray} : ∀ (f p : Nat) (l : List Nat), p ≤ s.size → (∀ j, nth l j ≤ 16777216) → (headL s f p l).2.2 = 0 → (∀ j, nth (headL s f p l).1 j ≤ 16777216) ∧ (headL s f p l).2.1 ≤ s.size
  | 0, p, l, hp, hl, _ => ⟨hl, hp⟩
  | f + 1, p, l, hp, hl, h => by
    unfold headL at h ⊢
    by_cases c1 : (stepH s l.length p).2.2.1 ≠ 0
    · rw [if_pos c1] at h; exact absurd h c1
    obtain ⟨h1, h2, h3, -⟩ := stepH_ok hp (by simpa using c1)
    rw [if_neg c1] at h ⊢
    by_cases c2 : (stepH s l.length p).2.2.2 = true
    · rw [if_pos c2]
      exact ⟨nth_push hl h3, h2⟩
    · rw [if_neg c2] at h ⊢
      exact headL_small f _ _ h2 (nth_push hl h3) h
theorem headT_small {s : ByteArray} (h : (headT s).2.2.2 = 0) : (∀ j, nth (headT s).2.1 j ≤ 16777216) ∧ (headT s).2.2.1 ≤ s.size := by
  unfold headT at h ⊢
  by_cases c1 : ¬ isHead s
  · rw [if_pos c1] at h; simp at h
  rw [if_neg c1] at h ⊢
  have hI : isHead s := Classical.not_not.1 c1
  by_cases c2 : (headL s 9 4 []).2.2 ≠ 0
  · rw [if_pos c2] at h; exact absurd h c2
  rw [if_neg c2] at h ⊢
  by_cases c3 : badSum (decide (bt s 1 = 105)) (headL s 9 4 []).1
  · rw [if_pos c3] at h; simp at h
  rw [if_neg c3]
  exact headL_small 9 4 [] hI.1 (fun j => by rw [nth_ge (by simp)]; omega) (by simpa using c2)

section
variable {s : ByteArray} {top least : Int} {ok : Nat → Bool}
theorem rdD_from {st : Nat × Nat} (hp : st.1 ≤ s.size) (h : (rdD s top st).2.2 = 0) : st.1 ≤ (rdD s top st).2.1 ∧ (rdD s top st).2.1 ≤ s.size := by
  refine ⟨?_, rdD_le hp⟩
  unfold rdD at h ⊢
  by_cases c1 : st.2 ≠ 0
  · rw [if_pos c1] at h; exact absurd h c1
  rw [if_neg c1] at h ⊢
  by_cases c2 : (natN s st.1).2.2 ≠ 0
  · rw [if_pos c2] at h; exact absurd h c2
  rw [if_neg c2] at h ⊢
  split
  · exact Nat.le_refl _
  · exact Nat.le_of_lt (natN_end hp (by simpa using c2)).1
theorem rdS_from {st : Nat × Nat} (h : (rdS s ok st).2.2 = 0) : (rdS s ok st).2.1 = st.1 + 1 ∧ st.2 = 0 := by
  unfold rdS at h ⊢
  by_cases c1 : st.2 ≠ 0
  · rw [if_pos c1] at h; exact absurd h c1
  rw [if_neg c1] at h ⊢
  by_cases c2 : st.1 = s.size
  · rw [if_pos c2] at h; simp at h
  rw [if_neg c2] at h ⊢
  by_cases c3 : ok (bt s st.1) = false
  · rw [if_pos c3] at h; simp at h
  rw [if_neg c3]
  exact ⟨rfl, by simpa using c1⟩
theorem rdL_from {st : Nat × Nat} (hp : st.1 ≤ s.size) (h : (rdL s top ok st).2.2.2 = 0) : st.1 + 1 ≤ (rdL s top ok st).2.2.1 ∧ (rdL s top ok st).2.2.1 ≤ s.size := by
  refine ⟨?_, rdL_le hp⟩
  obtain ⟨h1, h2⟩ := rdS_from (st := (rdD s top st).2) h
  have h3 := (rdD_from (top := top) hp h2).1
  have e : (rdL s top ok st).2.2.1 = (rdS s ok (rdD s top st).2).2.1 := rfl
  omega
theorem rdG_from {st : Nat × Nat} (hp : st.1 ≤ s.size) (ht : 0 ≤ top) (h : (rdG s least top st).2.2 = 0) : st.2 = 0 ∧ (rdG s least top st).2.1 ≤ s.size := by
  refine ⟨?_, (rdG_le hp ht).1⟩
  by_cases c1 : st.2 ≠ 0
  · rw [rdG_stay c1] at h; exact h
  · simpa using c1
theorem rdLits_room : ∀ (m : Nat) (L : List Int) (st : Nat × Nat), st.1 ≤ s.size → (rdLits s top m L st).2.2 = 0 → st.1 + m ≤ (rdLits s top m L st).2.1
  | 0, L, st, hp, _ => Nat.le_refl _
  | m + 1, L, st, hp, h => by
    obtain ⟨n, c, t, hr⟩ : ∃ n c t, rdL s top ok10 st = (n, c, t) := ⟨_, _, _, rfl⟩
    by_cases ht : t.2 = 0
    · have hf := rdL_from (top := top) (ok := ok10) hp (by rw [hr]; exact ht)
      rw [hr] at hf
      rw [rdLits_go hr ht] at h ⊢
      have := rdLits_room m _ t hf.2 h
      have := hf.1
      simp only at *
      omega
    · have := rdLits_st (j := m) (L := L) hr ht
      rw [this] at h
      exact absurd h ht
theorem rdLatsA_room : ∀ (m : Nat) (L : List (Int × Int × Int)) (st : Nat × Nat), st.1 ≤ s.size → (rdLatsA s top m L st).2.2 = 0 → st.1 + m ≤ (rdLatsA s top m L st).2.1
  | 0, L, st, hp, _ => Nat.le_refl _
  | m + 1, L, st, hp, h => by
    obtain ⟨n, c, t, hr⟩ : ∃ n c t, rdL s top ok32 st = (n, c, t) := ⟨_, _, _, rfl⟩
    obtain ⟨n2, c2, t2, hr2⟩ : ∃ n c t2, rdL s top okB t = (n, c, t2) := ⟨_, _, _, rfl⟩
    by_cases ht2 : t2.2 = 0
    · have ht : t.2 = 0 := by have := rdL_ok (s := s) (top := top) (ok := okB) (st := t) (by rw [hr2]; exact ht2); exact this
      have hf := rdL_from (top := top) (ok := ok32) hp (by rw [hr]; exact ht)
      rw [hr] at hf
      have hf2 := rdL_from (top := top) (ok := okB) hf.2 (by rw [hr2]; exact ht2)
      rw [hr2] at hf2
      by_cases hc : c2 = 32
      · obtain ⟨n3, c3, t3, hr3⟩ : ∃ n c t3, rdL s top ok10 t2 = (n, c, t3) := ⟨_, _, _, rfl⟩
        by_cases ht3 : t3.2 = 0
        · have hf3 := rdL_from (top := top) (ok := ok10) hf2.2 (by rw [hr3]; exact ht3)
          rw [hr3] at hf3
          rw [rdLatsA_g3 hr hr2 ht2 hc hr3 ht3] at h ⊢
          have := rdLatsA_room m _ t3 hf3.2 h
          have := hf.1
          have := hf2.1
          have := hf3.1
          simp only at *
          omega
        · rw [rdLatsA_s3 hr hr2 ht2 hc hr3 ht3] at h
          exact absurd h ht3
      · rw [rdLatsA_g2 hr hr2 ht2 hc] at h ⊢
        have := rdLatsA_room m _ t2 hf2.2 h
        have := hf.1
        have := hf2.1
        simp only at *
        omega
    · rw [rdLatsA_s2 hr hr2 ht2] at h
      exact absurd h ht2
theorem rdGatesA_room (m : Nat) : ∀ (L : List (Int × Int × Int)) (st : Nat × Nat), st.1 ≤ s.size → (rdGatesA s top m L st).2.2 = 0 → st.1 + m ≤ (rdGatesA s top m L st).2.1 := by
  induction m with
  | zero => intro L st hp _; unfold rdGatesA; exact Nat.le_refl _
  | succ m ih =>
    intro L st hp h
    obtain ⟨n, c, t, hr⟩ : ∃ n c t, rdL s top ok32 st = (n, c, t) := ⟨_, _, _, rfl⟩
    obtain ⟨n2, c2, t2, hr2⟩ : ∃ n c t2, rdL s top ok32 t = (n, c, t2) := ⟨_, _, _, rfl⟩
    obtain ⟨n3, c3, t3, hr3⟩ : ∃ n c t3, rdL s top ok10 t2 = (n, c, t3) := ⟨_, _, _, rfl⟩
    by_cases ht3 : t3.2 = 0
    · have ht2 : t2.2 = 0 := by have := rdL_ok (s := s) (top := top) (ok := ok10) (st := t2) (by rw [hr3]; exact ht3); exact this
      have ht : t.2 = 0 := by have := rdL_ok (s := s) (top := top) (ok := ok32) (st := t) (by rw [hr2]; exact ht2); exact this
      have hf := rdL_from (top := top) (ok := ok32) hp (by rw [hr]; exact ht)
      rw [hr] at hf
      have hf2 := rdL_from (top := top) (ok := ok32) hf.2 (by rw [hr2]; exact ht2)
      rw [hr2] at hf2
      have hf3 := rdL_from (top := top) (ok := ok10) hf2.2 (by rw [hr3]; exact ht3)
      rw [hr3] at hf3
      rw [rdGatesA_g hr hr2 hr3 ht3] at h ⊢
      have := ih _ t3 hf3.2 h
      have := hf.1
      have := hf2.1
      have := hf3.1
      simp only at *
      omega
    · rw [rdGatesA_s3 hr hr2 hr3 ht3] at h
      exact absurd h ht3
theorem rdLatsP_room {I : Nat} : ∀ (m k : Nat) (L : List (Int × Int × Int)) (st : Nat × Nat), st.1 ≤ s.size → (rdLatsP s top I m k L st).2.2 = 0 → st.1 + m ≤ (rdLatsP s top I m k L st).2.1 ∧ (rdLatsP s top I m k L st).2.1 ≤ s.size ∧ (rdLatsP s top I m k L st).1.length = L.length + m
  | 0, k, L, st, hp, _ => ⟨Nat.le_refl _, hp, rfl⟩
  | m + 1, k, L, st, hp, h => by
    obtain ⟨n, c, t, hr⟩ : ∃ n c t, rdL s top okB st = (n, c, t) := ⟨_, _, _, rfl⟩
    by_cases ht : t.2 = 0
    · have hf := rdL_from (top := top) (ok := okB) hp (by rw [hr]; exact ht)
      rw [hr] at hf
      by_cases hc : c = 32
      · obtain ⟨n3, c3, t3, hr3⟩ : ∃ n c t3, rdL s top ok10 t = (n, c, t3) := ⟨_, _, _, rfl⟩
        rw [rdLatsP_g3 hr hc hr3] at h ⊢
        by_cases ht3 : t3.2 = 0
        · have hf3 := rdL_from (top := top) (ok := ok10) hf.2 (by rw [hr3]; exact ht3)
          rw [hr3] at hf3
          obtain ⟨h1, h2, h3⟩ := rdLatsP_room m _ _ t3 hf3.2 h
          refine ⟨?_, h2, by rw [h3]; simp; omega⟩
          have := hf.1
          have := hf3.1
          simp only at *
          omega
        · rw [rdLatsP_stay ht3] at h
          exact absurd h ht3
      · rw [rdLatsP_g2 hr ht hc] at h ⊢
        obtain ⟨h1, h2, h3⟩ := rdLatsP_room m _ _ t hf.2 h
        refine ⟨?_, h2, by rw [h3]; simp; omega⟩
        have := hf.1
        simp only at *
        omega
    · rw [rdLatsP_st hr ht] at h
      exact absurd h ht
theorem rdG_go {st : Nat × Nat} (hp : st.1 ≤ s.size) (ht : 0 ≤ top) (h : (rdG s least top st).2.2 = 0) : st.1 < (rdG s least top st).2.1 := by
  unfold rdG at h ⊢
  by_cases c1 : st.2 ≠ 0
  · rw [if_pos c1] at h; exact absurd h c1
  rw [if_neg c1] at h ⊢
  by_cases c2 : (getN s st.1).2.2 ≠ 0
  · rw [if_pos c2] at h; exact absurd h c2
  rw [if_neg c2] at h ⊢
  by_cases c3 : ((getN s st.1).1 : Int) < least ∨ top < ((getN s st.1).1 : Int)
  · rw [if_pos c3] at h; simp at h
  rw [if_neg c3]
  have key : ∀ (r k a : Nat), (getR s st.1 r k a).2.2 = 0 → st.1 < (getR s st.1 r k a).2.1 := by
    intro r
    induction r with
    | zero => intro k a h; simp [getR] at h
    | succ r ih =>
      intro k a h
      unfold getR at h ⊢
      by_cases d1 : st.1 + k = s.size
      · rw [if_pos d1] at h; simp at h
      rw [if_neg d1] at h ⊢
      by_cases d2 : k = 4 ∧ 15 < bt s (st.1 + k)
      · rw [if_pos d2] at h; simp at h
      rw [if_neg d2] at h ⊢
      by_cases d3 : 0 < k ∧ bt s (st.1 + k) = 0
      · rw [if_pos d3] at h; simp at h
      rw [if_neg d3] at h ⊢
      split at h
      · rename_i d4
        rw [if_pos d4]
        simp only
        omega
      · rename_i d4
        rw [if_neg d4]
        exact ih _ _ h
  exact key 5 0 0 (by simpa [getN] using c2)
theorem rdGatesP_room {I : Nat} : ∀ (m k : Nat) (L : List (Int × Int × Int)) (st : Nat × Nat), st.1 ≤ s.size → (rdGatesP s I m k L st).2.2 = 0 → st.1 + m ≤ (rdGatesP s I m k L st).2.1 ∧ (rdGatesP s I m k L st).2.1 ≤ s.size ∧ (rdGatesP s I m k L st).1.length = L.length + m
  | 0, k, L, st, hp, _ => ⟨Nat.le_refl _, hp, rfl⟩
  | m + 1, k, L, st, hp, h => by
    obtain ⟨n, t, hr⟩ : ∃ (n : Nat) (t : Nat × Nat), rdG s 1 (2 * ((I + k : Nat) : Int) + 2) st = (n, t) := ⟨_, _, rfl⟩
    obtain ⟨n2, t2, hr2⟩ : ∃ (z : Nat) (t2 : Nat × Nat), rdG s 0 (2 * ((I + k : Nat) : Int) + 2 - (n : Int)) t = (z, t2) := ⟨_, _, rfl⟩
    have hb := rdG_le (s := s) (least := 1) (top := 2 * ((I + k : Nat) : Int) + 2) hp (by omega)
    rw [hr] at hb
    have ht0 : 0 ≤ 2 * ((I + k : Nat) : Int) + 2 - (n : Int) := by have := hb.2; simp only at this; omega
    by_cases ht2 : t2.2 = 0
    · have hf2 := rdG_from (least := 0) hb.1 ht0 (by rw [hr2]; exact ht2)
      rw [hr2] at hf2
      have hg := rdG_go (least := 1) (top := 2 * ((I + k : Nat) : Int) + 2) hp (by omega) (by rw [hr]; exact hf2.1)
      have hg2 := rdG_go (least := 0) hb.1 ht0 (by rw [hr2]; exact ht2)
      rw [hr] at hg
      rw [hr2] at hg2
      rw [rdGatesP_go hr hr2 ht2] at h ⊢
      obtain ⟨h1, h2, h3⟩ := rdGatesP_room m _ _ t2 hf2.2 h
      refine ⟨?_, h2, by rw [h3]; simp; omega⟩
      simp only at *
      omega
    · rw [rdGatesP_st hr hr2 ht2] at h
      exact absurd h ht2
end

end Go.Proofs.YtckmdcmkjmpiaaaGreatDoor
