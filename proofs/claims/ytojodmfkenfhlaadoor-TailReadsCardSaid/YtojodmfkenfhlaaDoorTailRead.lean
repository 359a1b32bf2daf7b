/-
  tail.Read.
-/
import Derived.Test.YtojodmfkenfhlaaDoorTailSym2
import Derived.Test.YtojodmfkenfhlaaDoorSeen
import Derived.Test.YtojodmfkenfhlaaDoorStrips
namespace Go.Proofs.YtojodmfkenfhlaaDoor
open Go.RowKit

def symCells (x : Sym) : List Value := [.int .u8 (x.kind : Int), .int .i64 (x.idx : Int), .string x.name]
def symAt (x : Sym) : Nat × Nat := (x.kind, x.idx)

theorem any_contains (L : List Sym) (x : Sym) : (L.map symAt).contains (x.kind, x.idx) = L.any (fun y => alike y x) := by
  induction L with
  | nil => rfl
  | cons y L ih =>
    rw [List.map_cons, List.contains_cons, List.any_cons, ih]
    congr 1
    unfold alike symAt
    rw [Bool.eq_iff_iff]
    simp
    constructor
    · rintro ⟨h1, h2⟩; exact ⟨h1.symm, h2.symm⟩
    · rintro ⟨h1, h2⟩; exact ⟨h1.symm, h2.symm⟩

theorem mark_prefix {s : ByteArray} {p : Nat} (hp : p < s.size) : Lib.hasPrefix (s.extract p s.size).data.toList [99, 10] = decide (markAt s p) := by
  rw [Lib.extract_to_end]
  rw [Bool.eq_iff_iff, decide_eq_true_iff]
  unfold Lib.hasPrefix markAt
  have h0 : p < s.data.toList.length := by simpa using hp
  rw [List.drop_eq_getElem_cons h0]
  obtain ⟨b, hb, hb2⟩ := byte_at hp
  rw [List.getElem?_eq_getElem h0] at hb
  have e0 : s.data.toList[p] = b := Option.some.inj hb
  rw [e0]
  by_cases h1 : p + 1 < s.size
  · have h1' : p + 1 < s.data.toList.length := by simpa using h1
    rw [List.drop_eq_getElem_cons h1']
    obtain ⟨c, hc, hc2⟩ := byte_at h1
    rw [List.getElem?_eq_getElem h1'] at hc
    have e1 : s.data.toList[p + 1] = c := Option.some.inj hc
    rw [e1, ← hb2, ← hc2]
    simp only [List.isPrefixOf_cons_cons, List.isPrefixOf_nil_left, Bool.and_true, Bool.and_eq_true, beq_iff_eq]
    constructor
    · rintro ⟨r1, r2⟩; subst r1 r2; exact ⟨rfl, h1, rfl⟩
    · rintro ⟨r1, _, r2⟩; exact ⟨UInt8.toNat_inj.1 r1.symm, UInt8.toNat_inj.1 r2.symm⟩
  · rw [List.drop_eq_nil_of_le (by simp; omega)]
    constructor
    · intro h; simp [List.isPrefixOf] at h
    · intro h; exact absurd h.2.1 h1

theorem mark_rest {s : ByteArray} {p : Nat} (hp : p < s.size) (h : markAt s p) : (⟨(Lib.trimPrefix (s.extract p s.size).data.toList [99, 10]).toArray⟩ : ByteArray) = s.extract (p + 2) s.size := by
  unfold Lib.trimPrefix
  rw [mark_prefix hp]
  rw [if_pos (by simpa using h), Lib.extract_to_end]
  apply ByteArray.ext
  apply Array.ext'
  rw [Lib.extract_to_end]
  simp

theorem symT_err {h : Hd} {s : ByteArray} {p p' e : Nat} (hs : symT h s p = .bad p' e) : e ≠ 0 := by
  unfold symT at hs
  by_cases c1 : ¬ isKind (bt s p)
  · rw [if_pos c1] at hs; injection hs; omega
  rw [if_neg c1] at hs
  by_cases c2 : (natN s (p + 1)).2.2 ≠ 0
  · rw [if_pos c2] at hs; injection hs; omega
  rw [if_neg c2] at hs
  by_cases c3 : cnt h (bt s p) ≤ (natN s (p + 1)).1
  · rw [if_pos c3] at hs; injection hs; omega
  rw [if_neg c3] at hs
  by_cases c4 : (natN s (p + 1)).2.1 = s.size
  · rw [if_pos c4] at hs; injection hs; omega
  rw [if_neg c4] at hs
  by_cases c5 : bt s (natN s (p + 1)).2.1 ≠ 32
  · rw [if_pos c5] at hs; injection hs; omega
  rw [if_neg c5] at hs
  by_cases c6 : (lineT s ((natN s (p + 1)).2.1 + 1 : Nat)).2.2 ≠ 0
  · rw [if_pos c6] at hs; injection hs; omega
  rw [if_neg c6] at hs
  by_cases c7 : (lineT s ((natN s (p + 1)).2.1 + 1 : Nat)).1.size = 0
  · rw [if_pos c7] at hs; injection hs; omega
  rw [if_neg c7] at hs
  by_cases c8 : 64 < (lineT s ((natN s (p + 1)).2.1 + 1 : Nat)).1.size
  · rw [if_pos c8] at hs; injection hs; omega
  rw [if_neg c8] at hs
  cases hs

theorem symInfo : (Tryd.prog.info? 100).map (fun i => (i.zero, i.size, i.bytes)) = some (some (.agg #[.int .u8 0, .int .i64 0, .string .empty]), 3, 32) := by kernel_rfl

/-- what Read leaves -/
def ReadPost (R : TailR) (w : World) (e : Ending) (w' : World) : Prop :=
  ∃ v, e = .returned (.tuple #[v, .string R.c, .int .i64 (R.to : Int), .int .i64 (R.e : Int)]) ∧ OwnK w' w.heap.size 100 3 v (R.l.map symCells) ∧ Kp (fun _ => False) w w'

theorem readR_end {h : Hd} {s : ByteArray} {f p : Nat} {L : List Sym} (hp : ¬ p < s.size) (hf : 0 < f) : readR h s f L p = ⟨L, ⟨#[]⟩, s.size, 0⟩ := by
  obtain ⟨f, rfl⟩ : ∃ g, f = g + 1 := ⟨f - 1, by omega⟩
  simp [readR, show s.size ≤ p by omega]
theorem readR_mark {h : Hd} {s : ByteArray} {f p : Nat} {L : List Sym} (hp : p < s.size) (hf : 0 < f) (hm : markAt s p) : readR h s f L p = ⟨L, s.extract (p + 2) s.size, s.size, 0⟩ := by
  obtain ⟨f, rfl⟩ : ∃ g, f = g + 1 := ⟨f - 1, by omega⟩
  simp [readR, show ¬ s.size ≤ p by omega, hm]
theorem readR_bad {h : Hd} {s : ByteArray} {f p p' e : Nat} {L : List Sym} (hp : p < s.size) (hf : 0 < f) (hm : ¬ markAt s p) (hs : symT h s p = .bad p' e) : readR h s f L p = ⟨[], ⟨#[]⟩, p', e⟩ := by
  obtain ⟨f, rfl⟩ : ∃ g, f = g + 1 := ⟨f - 1, by omega⟩
  simp [readR, show ¬ s.size ≤ p by omega, hm, hs]
theorem readR_twice {h : Hd} {s : ByteArray} {f p next : Nat} {L : List Sym} {x : Sym} (hp : p < s.size) (hf : 0 < f) (hm : ¬ markAt s p) (hs : symT h s p = .ok x next) (ht : L.any (fun y => alike y x) = true) : readR h s f L p = ⟨[], ⟨#[]⟩, p, 7⟩ := by
  obtain ⟨f, rfl⟩ : ∃ g, f = g + 1 := ⟨f - 1, by omega⟩
  unfold readR
  rw [if_neg (by omega), if_neg hm, hs]
  simp only
  rw [if_pos ht]
theorem readR_more {h : Hd} {s : ByteArray} {f p next : Nat} {L : List Sym} {x : Sym} (hp : p < s.size) (hm : ¬ markAt s p) (hs : symT h s p = .ok x next) (ht : ¬ L.any (fun y => alike y x) = true) : readR h s (f + 1) L p = readR h s f (L ++ [x]) next := by
  conv => lhs; unfold readR
  rw [if_neg (by omega), if_neg hm, hs]
  simp only
  rw [if_neg ht]

set_option maxRecDepth 100000 in
set_option maxHeartbeats 4000000 in
theorem tail_Read_in (h : Hd) (s : ByteArray) (q : Nat) (w : World) (hs : s.size ≤ 100000) (hq : q ≤ s.size) :
    Calls Tryd.prog 26 #[.string s, .int .i64 q, hdV h] w (ReadPost (readR h s (s.size + 1) [] q) w) := by
  obtain ⟨R, hR⟩ : ∃ R, readR h s (s.size + 1) [] q = R := ⟨_, rfl⟩
  rw [hR]
  have HR := Lib.hid hR; clear hR
  have hmm := @run_makeMap Tryd.prog
  have g0 : decide ((q : Int) < 0) = false := by simp
  have g1 : decide (s.size < q) = false := by simp; omega
  have HSY := Lib.hid (fun p (hp : p < s.size) u => tail_symbol h s p u (by omega) hp)
  obtain ⟨hd, hhd⟩ : ∃ hd, hd = h := ⟨_, rfl⟩
  have HB0 := Lib.hid (Blk.new w (hdCells h) 46)
  rw [← hhd] at HR
  have HHD := Lib.hid hhd; clear hhd
  obtain ⟨bin, m, i, l, o, a, b, c⟩ := h
  unfold hdV at HSY ⊢
  unfold hdCells at HB0
  simp only at HB0 HSY ⊢
  rw [← HHD.out] at HSY
  clear HHD
  go_enter Tryd.func26, Tryd.ntmps26
  go_wp2_with fail
  go_loopw [1, 10] (fun v1 v10 wr => ∃ (p f : Nat) (L : List Sym), v1 = .int .i64 p ∧ p ≤ s.size ∧ s.size < p + f ∧ L.length ≤ p ∧ readR hd s f L p = R ∧ OwnK wr (w.heap.size + 2) 100 3 v10 (L.map symCells) ∧ Seen wr (w.heap.size + 1) L.length (L.map symAt) ∧ Blk wr w.heap.size #[.bool bin, .int .i64 m, .int .i64 i, .int .i64 l, .int .i64 o, .int .i64 a, .int .i64 b, .int .i64 c] 46 ∧ Kp (fun _ => False) w wr) (fun v1 _ _ => s.size - (intOf v1).toNat)
  case atStart => exact ⟨q, s.size + 1, [], rfl, hq, by omega, by simp, HR.out, OwnK.nil _ _ _ _, by have := Seen.made (w.alloc (.cells #[.bool bin, .int .i64 m, .int .i64 i, .int .i64 l, .int .i64 o, .int .i64 a, .int .i64 b, .int .i64 c] 46)); simpa using this, HB0.out.alloc _, ((Kp.refl _ w).alloc _).alloc _⟩
  case round =>
    obtain ⟨p, f, L, rfl, hp, hf, hLp, hRR, hO, hS, hB, hK⟩ := hrel
    have HRR := Lib.hid hRR; clear hRR
    have HS := Lib.hid hS
    have hb1 := hS.lt
    clear hS
    have HLP := Lib.hid hLp; clear hLp
    by_cases hlt : p < s.size
    · have p0 : (0 : Int) ≤ (p : Int) := by omega
      have p1 : (p : Int) ≤ (s.size : Int) := by omega
      have HM := Lib.hid (mark_prefix hlt)
      by_cases cm : markAt s p
      · have HRm := Lib.hid (readR_mark (h := hd) (L := L) (f := f) hlt (by omega) cm)
        have HRest := Lib.hid (mark_rest hlt cm)
        have CM := Lib.hid cm; clear cm
        go_wp2_with fail
        refine (Tryd.strings_CutPrefix _ _ _).mono ?_
        rintro e w' ⟨rfl, hw⟩
        have hw' := hw.symm; clear hw; subst hw'
        rw [show (({ data := #[99, 10] } : ByteArray).data.toList) = [99, 10] from rfl, HM.out, HRest.out, show decide (markAt s p) = true from decide_eq_true CM.out]
        have HEnd : Hid (ReadPost R w (.returned (.tuple #[u10, .string (s.extract (p + 2) s.size), .int .i64 (s.size : Int), .int .i64 0])) wr) := by
          show ReadPost _ _ _ _
          rw [← HRR.out, HRm.out]
          exact ⟨u10, rfl, hO.mono (by omega), hK⟩
        go_wp2_with fail
        exact bodyPost_ret (v := .tuple #[u10, .string (s.extract (p + 2) s.size), .int .i64 (s.size : Int), .int .i64 0]) (by simp [results, Tryd.results26, go_sem]) rfl HEnd.out
      · have HM0 := Lib.hid (show decide (markAt s p) = false from decide_eq_false cm)
        have CM := Lib.hid cm; clear cm
        have h0 := hB.cell (i := 0) rfl
        have h1 := hB.cell (i := 1) rfl
        have h2 := hB.cell (i := 2) rfl
        have h3 := hB.cell (i := 3) rfl
        have h4 := hB.cell (i := 4) rfl
        have h5 := hB.cell (i := 5) rfl
        have h6 := hB.cell (i := 6) rfl
        have h7 := hB.cell (i := 7) rfl
        have HBl := Lib.hid hB; clear hB
        have HOw := Lib.hid hO; clear hO
        go_wp2_with fail
        refine (Tryd.strings_CutPrefix _ _ _).mono ?_
        rintro e w' ⟨rfl, hw⟩
        have hw' := hw.symm; clear hw; subst hw'
        rw [show (({ data := #[99, 10] } : ByteArray).data.toList) = [99, 10] from rfl, HM.out, HM0.out]
        go_wp2_with fail
        refine (HSY.out p hlt _).mono ?_
        rintro e w2 ⟨he, hK2⟩
        have hKw2 := hK.trans hK2 (fun _ _ h => h)
        clear h0 h1 h2 h3 h4 h5 h6 h7 HM HM0
        obtain ⟨k, hk⟩ : ∃ k, bt s p = k := ⟨_, rfl⟩
        rw [hk] at he
        clear hk
        cases hsy : symT hd s p with
        | bad p' er =>
          have HEnd : Hid (ReadPost R w (.returned (.tuple #[.slice none 0 0, .string ⟨#[]⟩, .int .i64 (p' : Int), .int .i64 (er : Int)])) (w2.alloc (.cells #[.int .u8 (k : Int), .int .i64 0, .string ⟨#[]⟩] 100))) := by
            show ReadPost _ _ _ _
            rw [← HRR.out, readR_bad hlt (by omega) CM.out hsy]
            exact ⟨_, rfl, OwnK.nil _ _ _ _, hKw2.alloc _⟩
          have her : Hid (er ≠ 0) := symT_err hsy
          rw [hsy] at he
          clear hsy
          simp only [symOut] at he
          subst he
          have d1 : ((er : Int) != 0) = true := by have := her.out; simp; omega
          clear her
          go_wp2_with fail
          exact bodyPost_ret (v := .tuple #[.slice none 0 0, .string ⟨#[]⟩, .int .i64 (p' : Int), .int .i64 (er : Int)]) (by simp [results, Tryd.results26, go_sem]) rfl HEnd.out
        | ok x next =>
          obtain ⟨hx1, hx2, hx3, hx4, hx5⟩ := symT_ok hlt hsy
          have HSYM := Lib.hid hsy
          rw [hsy] at he
          clear hsy
          simp only [symOut] at he
          subst he
          have hsz2 := hK2.size
          have HS2 := Lib.hid ((HS.out.kp hK2 (fun h => h)).kp ((Kp.refl (fun _ => False) w2).alloc (.cells #[.int .u8 (x.kind : Int), .int .i64 (x.idx : Int), .string x.name] 100)) (fun h => h))
          have HB2 := Lib.hid ((HBl.out.kp hK2 (fun h => h)).alloc (.cells #[.int .u8 (x.kind : Int), .int .i64 (x.idx : Int), .string x.name] 100))
          have HO2 := Lib.hid ((HOw.out.kp hK2 (fun _ _ h => h)).alloc (.cells #[.int .u8 (x.kind : Int), .int .i64 (x.idx : Int), .string x.name] 100))
          have HX2 := Lib.hid (Blk.new w2 #[.int .u8 (x.kind : Int), .int .i64 (x.idx : Int), .string x.name] 100)
          have hKw2a := hKw2.alloc (.cells #[.int .u8 (x.kind : Int), .int .i64 (x.idx : Int), .string x.name] 100)
          clear HS HBl HOw hK2
          go_wp2_with fail
          refine (tail_thing _ _ _ _).mono ?_
          rintro e w3 ⟨rfl, hK3⟩
          have hKw3 := hKw2a.trans hK3 (fun _ _ h => h)
          have HS3 := Lib.hid (HS2.out.kp hK3 (fun h => h))
          have HB3 := Lib.hid (HB2.out.kp hK3 (fun h => h))
          have HO3 := Lib.hid (HO2.out.kp hK3 (fun _ _ h => h))
          have HX3 := Lib.hid (HX2.out.kp hK3 (fun h => h))
          have hlook := HS3.out.look hx3 hx4
          unfold symKey at hlook
          rw [any_contains] at hlook
          have hsz3 := hK3.size
          rw [World.size_alloc] at hsz3
          clear HS2 HB2 HO2 HX2 hK3
          by_cases ct : L.any (fun y => alike y x) = true
          · rw [ct] at hlook
            have HEnd : Hid (ReadPost R w (.returned (.tuple #[.slice none 0 0, .string ⟨#[]⟩, .int .i64 (p : Int), .int .i64 7])) w3) := by
              show ReadPost _ _ _ _
              rw [← HRR.out, readR_twice hlt (by omega) CM.out HSYM.out ct]
              exact ⟨_, rfl, OwnK.nil _ _ _ _, hKw3⟩
            clear ct
            go_wp2_with fail
            exact bodyPost_ret (v := .tuple #[.slice none 0 0, .string ⟨#[]⟩, .int .i64 (p : Int), .int .i64 7]) (by simp [results, Tryd.results26, go_sem]) rfl HEnd.out
          · have HRM : Hid (readR hd s (f - 1) (L ++ [x]) next = R) := by
              show _ = _
              rw [← HRR.out]
              obtain ⟨g, hg⟩ : ∃ g, f = g + 1 := ⟨f - 1, by omega⟩
              rw [hg, readR_more hlt CM.out HSYM.out ct]
              rfl
            have ct' : L.any (fun y => alike y x) = false := by simpa using ct
            rw [ct'] at hlook
            clear ct ct'
            have x0 := HX3.out.cell (i := 0) rfl
            have x1 := HX3.out.cell (i := 1) rfl
            have x2 := HX3.out.cell (i := 2) rfl
            go_wp2_with fail
            refine (tail_thing _ _ _ _).mono ?_
            rintro e w4 ⟨rfl, hK4⟩
            have hKw4 := hKw3.trans hK4 (fun _ _ h => h)
            have hlen := HLP.out
            obtain ⟨w5, hr5, hS5, hK5⟩ := (HS3.out.kp hK4 (fun h => h)).put (by unfold maxLen; omega) hx3 hx4
            unfold symKey at hr5
            have hKw5 := hKw4.trans hK5 (fun i hi e => by omega)
            have HB5 := Lib.hid ((HB3.out.kp hK4 (fun h => h)).kp hK5 (by omega))
            have HO5 := Lib.hid ((HO3.out.kp hK4 (fun _ _ h => h)).kp hK5 (fun j hj e => by have := (HO3.out.lt j hj).1; omega))
            have hX5 := (HX3.out.kp hK4 (fun h => h)).kp hK5 (by omega)
            clear x0 x1 x2 hlook
            have x0 := hX5.cell (i := 0) rfl
            have x1 := hX5.cell (i := 1) rfl
            have x2 := hX5.cell (i := 2) rfl
            have hsz4 := hK4.size
            have hsz5 := hK5.size
            have HS5 := Lib.hid hS5
            clear hX5 hK4 hK5 HS3 HB3 HO3 HX3 hS5
            go_wp2_with (at_builtin; refine wpList_appendK rfl _ _ 47 100 rfl Tryd.underlying47 symInfo rfl (by decide) (HO5.out.alloc _) rfl w5.heap.size (symCells x) rfl rfl ?c1 ?c2 ?c3 ?c4 ?c5 ?_)
            case c1 => intro j u hj; exact (Blk.new w5 (symCells x).toArray 100).cell (by simpa using hj)
            case c2 => intro u hu; simp [symCells] at hu; rcases hu with rfl | rfl | rfl <;> rfl
            case c3 => rw [List.length_map]; omega
            case c4 => rw [List.length_map]; unfold maxLen; omega
            case c5 => simp; omega
            intro v' w6 hO6 hg6 hat6
            have hK6 : Kp (fun j => u10.ownBlock = some j) w5 w6 := ((Kp.refl _ w5).alloc _).grown hg6 (fun j hj _ => hj)
            have hKw6 := hKw5.trans hK6 (fun j hj h => by have := (HO5.out.lt j h).1; omega)
            have hB6 := HB5.out.kp hK6 (fun h => by have := (HO5.out.lt _ h).1; omega)
            have hS6 := HS5.out.kp hK6 (fun h => by have := (HO5.out.lt _ h).1; omega)
            have HRel := Lib.hid (show ∃ (p f : Nat) (L : List Sym), Value.int .i64 (next : Int) = .int .i64 p ∧ p ≤ s.size ∧ s.size < p + f ∧ L.length ≤ p ∧ readR hd s f L p = R ∧ OwnK w6 (w.heap.size + 2) 100 3 v' (L.map symCells) ∧ Seen w6 (w.heap.size + 1) L.length (L.map symAt) ∧ Blk w6 w.heap.size #[.bool bin, .int .i64 m, .int .i64 i, .int .i64 l, .int .i64 o, .int .i64 a, .int .i64 b, .int .i64 c] 46 ∧ Kp (fun _ => False) w w6 from
              ⟨next, f - 1, L ++ [x], rfl, hx2, by omega, by rw [List.length_append]; simp; omega, HRM.out, by rw [List.map_append]; exact hO6, by rw [List.length_append, List.map_append]; exact hS6, hB6, hKw6⟩)
            clear hO6 hg6 hat6 hK6 hB6 hS6 hKw6 x0 x1 x2 hr5
            go_wp2_with fail
            go_roundw
            case rel => exact HRel.out
            case measure => simp [intOf]; omega
    · have HEnd : Hid (ReadPost R w (.returned (.tuple #[u10, .string ⟨#[]⟩, .int .i64 (s.size : Int), .int .i64 0])) wr) := by
        show ReadPost _ _ _ _
        rw [← HRR.out, readR_end hlt (by omega)]
        exact ⟨u10, rfl, hO.mono (by omega), hK⟩
      go_wp2_with fail
      exact bodyPost_ret (v := .tuple #[u10, .string ⟨#[]⟩, .int .i64 (s.size : Int), .int .i64 0]) (by simp [results, Tryd.results26, go_sem]) rfl HEnd.out

theorem readT_out {h : Hd} {s : ByteArray} {x : Int} (hx : x < 0 ∨ (s.size : Int) < x) : readT h s x = ⟨[], ⟨#[]⟩, 0, 1⟩ := by unfold readT; rw [if_pos hx]
theorem readT_in {h : Hd} {s : ByteArray} {q : Nat} (hq : q ≤ s.size) : readT h s q = readR h s (s.size + 1) [] q := by unfold readT; rw [if_neg (by omega), Int.toNat_natCast]

theorem tail_Read (h : Hd) (s : ByteArray) (x : Int) (w : World) (hs : s.size ≤ 100000) :
    Calls Tryd.prog 26 #[.string s, .int .i64 x, hdV h] w (ReadPost (readT h s x) w) := by
  by_cases hx : x < 0 ∨ (s.size : Int) < x
  · rw [readT_out hx]
    have HEnd : Hid (∀ w', Kp (fun _ => False) w w' → ReadPost ⟨[], ⟨#[]⟩, 0, 1⟩ w (.returned (.tuple #[.slice none 0 0, .string ⟨#[]⟩, .int .i64 0, .int .i64 1])) w') := fun w' hk => ⟨_, rfl, OwnK.nil _ _ _ _, hk⟩
    obtain ⟨bin, m, i, l, o, a, b, c⟩ := h
    unfold hdV
    simp only
    by_cases h0 : x < 0
    · have g0 : decide (x < 0) = true := by simp [h0]
      clear hx h0
      go_enter Tryd.func26, Tryd.ntmps26
      go_wp2_with fail
      exact bodyPost_ret (v := .tuple #[.slice none 0 0, .string ⟨#[]⟩, .int .i64 0, .int .i64 1]) (by simp [results, Tryd.results26, go_sem]) rfl (HEnd.out _ ((Kp.refl _ w).alloc _))
    · have g0 : decide (x < 0) = false := by simp [h0]
      have g1 : decide ((s.size : Int) < x) = true := by simp; omega
      clear hx h0
      go_enter Tryd.func26, Tryd.ntmps26
      go_wp2_with fail
      exact bodyPost_ret (v := .tuple #[.slice none 0 0, .string ⟨#[]⟩, .int .i64 0, .int .i64 1]) (by simp [results, Tryd.results26, go_sem]) rfl (HEnd.out _ ((Kp.refl _ w).alloc _))
  · obtain ⟨q, rfl⟩ := Int.eq_ofNat_of_zero_le (show 0 ≤ x by omega)
    rw [readT_in (by omega)]
    exact tail_Read_in h s q w hs (by omega)

end Go.Proofs.YtojodmfkenfhlaaDoor
