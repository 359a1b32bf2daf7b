/-
  deriv.Write.
-/
import Derived.Test.YtcpgbgbhfkpehaaDoorDerivWrite
namespace Go.Proofs.YtcpgbgbhfkpehaaDoor
open Go.RowKit

/-- a slice of ints that reads l -/
def IntsSl (w : World) (v : Value) (l : List Int) : Prop := ∃ a cap, v = .slice a l.length cap ∧ l.length ≤ cap ∧ cap ≤ maxLen ∧ (a = none → cap = 0) ∧ IntsAt w a l

theorem IntsSl.kp {w w' : World} {v : Value} {l : List Int} (h : IntsSl w v l) (k : Kp (fun _ => False) w w') : IntsSl w' v l := by
  obtain ⟨a, cap, e, h1, h2, h3, h4⟩ := h
  exact ⟨a, cap, e, h1, h2, h3, h4.kp k (fun _ _ h => h)⟩

/-- rows of lines that read L -/
def LnsAt (w : World) (a : Option Addr) (L : List (Bool × List Int)) : Prop :=
  ∃ rs : List (Bool × Value), RowAt w a (lrows rs).flatten ∧ rs.length = L.length ∧ ∀ (k : Nat) (r : Bool × Value) (x : Bool × List Int), rs[k]? = some r → L[k]? = some x → r.1 = x.1 ∧ IntsSl w r.2 x.2

theorem LnsAt.kp {w w' : World} {a : Option Addr} {L : List (Bool × List Int)} (h : LnsAt w a L) (k : Kp (fun _ => False) w w') : LnsAt w' a L := by
  obtain ⟨rs, h1, h2, h3⟩ := h
  exact ⟨rs, h1.kp k (fun _ _ h => h), h2, fun i r x hr hx => ⟨(h3 i r x hr hx).1, (h3 i r x hr hx).2.kp k⟩⟩

theorem lrows_len (rs : List (Bool × Value)) : ∀ r ∈ lrows rs, r.length = 2 := by
  intro r hr
  obtain ⟨x, _, rfl⟩ := List.mem_map.1 hr
  rfl

def li (L : List (Bool × List Int)) (k : Nat) : Bool × List Int := L[k]?.getD (false, [])
theorem li_at {L : List (Bool × List Int)} {k : Nat} (h : k < L.length) : L[k]? = some (li L k) := by unfold li; rw [List.getElem?_eq_getElem h]; rfl

/-- the cells of line k -/
theorem LnsAt.line {w : World} {a : Option Addr} {L : List (Bool × List Int)} (h : LnsAt w a L) {k : Nat} (hk : k < L.length) :
    ∃ b off v, a = some ⟨b, off, none⟩ ∧ w.cell? ⟨b, off + k * 2, none⟩ = some (.bool (li L k).1) ∧ w.cell? ⟨b, off + k * 2 + 1, none⟩ = some v ∧ IntsSl w v (li L k).2 := by
  obtain ⟨rs, h1, h2, h3⟩ := h
  have hk' : k < rs.length := by rw [h2]; exact hk
  have hr : rs[k]? = some rs[k] := List.getElem?_eq_getElem hk'
  have hl : (lrows rs)[k]? = some [.bool rs[k].1, rs[k].2] := by simp [lrows, hr]
  obtain ⟨b, off, rfl, c0⟩ := h1.cellAt (lrows_len rs) (j := k) (i := 0) hl rfl
  obtain ⟨b1, off1, e1, c1⟩ := h1.cellAt (lrows_len rs) (j := k) (i := 1) hl rfl
  simp only [Option.some.injEq, Addr.mk.injEq, and_true] at e1
  obtain ⟨rfl, rfl⟩ := e1
  obtain ⟨e, hi⟩ := h3 k _ _ hr (li_at hk)
  rw [e] at c0
  exact ⟨b, off, _, rfl, c0, c1, hi⟩

/-- the lines' texts -/
def lti (L : List (Bool × List Int)) : List (Bool × List (List UInt8)) := L.map (fun x => (x.1, x.2.map litText))

theorem isbKp {T e : TypeId} {B b : Nat} {bs : List Value} {w w' : World} (h : Lib.IsBuilder T e B b bs w) (k : Kp (fun _ => False) w w') : Lib.IsBuilder T e B b bs w' := by
  have go : ∀ p, Lib.BuilderAt T e B b p bs w → Lib.BuilderAt T e B b p bs w' := by
    rintro p ⟨hB, v, hb, hown, hne⟩
    exact ⟨hB, v, (k.block b (Array.getElem?_eq_some_iff.1 hb).1 (fun h => h)).trans hb, Own.kp (cs := bs) hown k (fun _ _ h => h), hne⟩
  rcases h with h | h
  · exact .inl (go _ h)
  · exact .inr (go _ h)

theorem bcells_append (a b : List UInt8) : Lib.byteCells (a ++ b) = Lib.byteCells a ++ Lib.byteCells b := by simp [Lib.byteCells]
theorem strCells_is (s : ByteArray) : Lib.strCells s = Lib.byteCells s.data.toList := rfl

theorem words_flat {c : List (List UInt8)} (h : c ≠ []) : 32 :: jn c = c.flatMap (fun x => 32 :: x) := by
  cases c with
  | nil => exact absurd rfl h
  | cons a r => rw [jn_flat, List.flatMap_cons]; rfl

theorem linesText_take {L : List (Bool × List Int)} {k : Nat} (h : k < L.length) : linesText (lti (L.take (k + 1))) = linesText (lti (L.take k)) ++ (lineText (li L k).1 ((li L k).2.map litText) ++ [10]) := by
  have e : L.take (k + 1) = L.take k ++ [li L k] := by
    rw [List.take_succ_eq_append_getElem h]
    congr 2
    unfold li; rw [List.getElem?_eq_getElem h]; rfl
  rw [e]
  unfold lti
  rw [List.map_append, linesText_append]
  congr 1
  simp [linesText]

theorem linesText_take_le (L : List (Bool × List Int)) (k : Nat) : (linesText (lti (L.take k))).length ≤ (linesText (lti L)).length := by
  conv => rhs; rw [← List.take_append_drop k L]
  unfold lti
  rw [List.map_append, linesText_append, List.length_append]
  omega

theorem Kp.cellAt {w w' : World} (k : Kp (fun _ => False) w w') {b o : Nat} {v : Value} (h : w.cell? ⟨b, o, none⟩ = some v) : w'.cell? ⟨b, o, none⟩ = some v :=
  (World.cell?_of_block (w := w) (w' := w') (a := ⟨b, o, none⟩) (k.block b (World.block_lt_of_cell? w _ h) (fun h => h))).trans h

theorem sgn_size (f : Bool) : (sgn f).size = 1 := by cases f <;> rfl

set_option maxRecDepth 100000 in
set_option maxHeartbeats 8000000 in
theorem deriv_Write (a : Option Addr) (cap : Nat) (L : List (Bool × List Int)) (n : Nat) (w : World) (hr : LnsAt w a L) (hln : L.length = n) (hn : n ≤ 1000000) (hbig : (linesText (lti L)).length ≤ 10000000) (hcl : ∀ x ∈ L, x.2.length ≤ 100000) (ht : Tab w) :
    Calls Tryd.prog 45 #[.slice a n cap] w fun e w' => e = .returned (.string ⟨(linesText (lti L)).toArray⟩) ∧ Kp (fun _ => False) w w' := by
  have HT := Lib.hid ht; clear ht
  have HR := Lib.hid hr; clear hr
  have HLN := Lib.hid hln; clear hln
  have HBig := Lib.hid hbig; clear hbig
  have HCL := Lib.hid hcl; clear hcl
  have HB0 := Lib.hid (Lib.fresh_isBuilder 161 5 w)
  go_enter Tryd.func45, Tryd.ntmps45
  go_wp2_with fail
  go_loopw [8] (fun i wr => ∃ k : Nat, k ≤ n ∧ i = .int .i64 k ∧ Lib.IsBuilder 161 5 w.heap.size w.heap.size (Lib.byteCells (linesText (lti (L.take k)))) wr ∧ Below w.heap.size w wr) (fun i _ => n - (intOf i).toNat)
  case atStart => exact ⟨0, Nat.zero_le _, rfl, HB0.out, (Below.refl _ _).alloc (Nat.le_refl _) _⟩
  case round =>
    obtain ⟨k, hk, rfl, hB, hb⟩ := hrel
    have HB := Lib.hid hB; clear hB
    have HW := Lib.hid hb; clear hb
    by_cases hlt : k < n
    · have hlt' : k < L.length := by rw [HLN.out]; exact hlt
      have hd : decide ((k : Int) < (n : Int)) = true := by simp; omega
      have i0 : (0 : Int) ≤ (k : Int) := by omega
      have i1 : (k : Int) < (n : Int) := by omega
      obtain ⟨b, off, v, rfl, c0, c1, hv⟩ := HR.out.line hlt'
      have hKr := Kp.of_below HW.out (fun _ => False)
      have c0 := hKr.cellAt c0
      have c1 := hKr.cellAt c1
      clear hKr
      have HStep := Lib.hid (linesText_take hlt')
      have hle := linesText_take_le L (k + 1)
      rw [HStep.out] at hle
      have hcl := HCL.out (li L k) (List.mem_of_getElem? (li_at hlt'))
      obtain ⟨⟨f, c⟩, hx⟩ : ∃ x, li L k = x := ⟨_, rfl⟩
      rw [hx] at c0 hv HStep hle hcl
      simp only at c0 hv HStep hle hcl
      clear hx
      obtain ⟨av, cv, rfl, hv1, hv2, hv3, hv4⟩ := hv
      have HV := Lib.hid hv4
      obtain ⟨m, hm⟩ : ∃ m, c.length = m := ⟨_, rfl⟩
      rw [hm] at c1 hv1 hcl
      obtain ⟨P, hP⟩ : ∃ P, linesText (lti (L.take k)) = P := ⟨_, rfl⟩
      rw [hP] at HStep HB hle
      have hbound : P.length + (c.flatMap (fun x => 32 :: litText x)).length + 2 ≤ 10000000 := by
        have h1 := HBig.out
        rw [List.length_append, List.length_append] at hle
        unfold lineText at hle
        rw [List.flatMap_map] at hle
        simp only [List.length_cons, List.length_nil] at hle
        omega
      have HBd := Lib.hid hbound
      clear hP hle hv4 hbound hv1 hv2 hv3
      have hszr := HW.out.size
      have HS := Lib.hid (fun u => deriv_sign f (.slice av m cv) u)
      have HX0 := Lib.hid (Blk.new wr #[.bool f, .slice av m cv] 86)
      have HBa := Lib.hid (isbKp HB.out ((Kp.refl _ wr).alloc (.cells #[.bool f, .slice av m cv] 86)))
      have HWa := Lib.hid ((HW.out.alloc HW.out.size (.cells #[.bool f, .slice av m cv] 86)))
      clear HB
      go_wp2_with fail
      refine (HS.out _).mono ?_
      rintro e w2 ⟨rfl, hK2⟩
      have HX2 := Lib.hid (HX0.out.kp hK2 (fun h => h))
      have HB2 := Lib.hid (isbKp HBa.out hK2)
      have HW2 := Lib.hid (HWa.out.trans (hK2.below (by simp; omega) (fun _ _ h => h)))
      have hX2w := HX2.out.lt
      clear hK2 HBa HWa
      go_wp2_with fail
      refine (bld_stringK w.heap.size w.heap.size _ (sgn f) _ HB2.out (by rw [Lib.byteCells_length, sgn_size]; have := HBd.out; omega) HW2.out.size).mono ?_
      rintro e w3 ⟨rfl, hB3, hb3, hk3⟩
      have hne : wr.heap.size ≠ w.heap.size := by
        rcases HB2.out with h | h
        · obtain ⟨_, v', hbk, _⟩ := h
          intro e
          have := HX2.out
          unfold Blk at this
          rw [e] at this
          rw [hbk] at this
          simp at this
        · obtain ⟨_, v', hbk, _⟩ := h
          intro e
          have := HX2.out
          unfold Blk at this
          rw [e] at this
          rw [hbk] at this
          simp at this
      have HX3 := Lib.hid (HX2.out.kp hk3 (BFr.not HX2.out hne (by decide)))
      have HB3 : Hid (Lib.IsBuilder 161 5 w.heap.size w.heap.size (Lib.byteCells (P ++ [sgb f])) w3) := by
        rw [bcells_append]
        refine .inr ?_
        rw [strCells_is, sgn_data] at hB3
        exact hB3
      have HW3 := Lib.hid (HW2.out.trans hb3)
      have hX3w := HX3.out.lt
      clear hB3 hb3 hk3 HB2 HW2 HX2
      have x1 := HX3.out.cell (i := 1) rfl
      have fin : ∀ (w4 : World) (bs : List UInt8), Lib.IsBuilder 161 5 w.heap.size w.heap.size (Lib.byteCells bs) w4 → Below w.heap.size w w4 → bs = P ++ lineText f (c.map litText) →
          Lib.IsBuilder 161 5 w.heap.size w.heap.size (Lib.byteCells bs) w4 ∧ bs.length + 1 ≤ 10000000 := by
        intro w4 bs h1 h2 h3
        refine ⟨h1, ?_⟩
        have := HBd.out
        rw [h3, List.length_append]
        unfold lineText
        rw [List.flatMap_map]
        simp only [List.length_cons]
        omega
      have HFin := Lib.hid fin; clear fin
      by_cases hm0 : m = 0
      · subst hm0
        have hc : c = [] := List.eq_nil_of_length_eq_zero hm
        subst hc
        have HE := HFin.out w3 _ HB3.out HW3.out (by simp [lineText, sgb])
        have HE2 := Lib.hid HE; clear HE
        clear hm
        go_wp2_with fail
        refine (bld_byteK w.heap.size w.heap.size _ 10 _ HE2.out.1 (by rw [Lib.byteCells_length]; have := HE2.out.2; omega) HW3.out.size).mono ?_
        rintro e w5 ⟨rfl, hB5, hb5, hk5⟩
        have HRel := Lib.hid (show ∃ k' : Nat, k' ≤ n ∧ Value.int .i64 ((k : Int) + 1) = .int .i64 k' ∧ Lib.IsBuilder 161 5 w.heap.size w.heap.size (Lib.byteCells (linesText (lti (L.take k')))) w5 ∧ Below w.heap.size w w5 from
          ⟨k + 1, by omega, by go_num, by
            rw [HStep.out]
            refine .inr ?_
            have e : P ++ (lineText f (List.map litText []) ++ [10]) = (P ++ [sgb f]) ++ [10] := by simp [lineText, sgb]
            rw [e, bcells_append (P ++ [sgb f]) [10]]
            exact hB5, HW3.out.trans hb5⟩)
        clear hB5 hb5 hk5 x1
        go_wp2_with fail
        go_roundw
        case rel => exact HRel.out
        case measure => simp [intOf]; omega
      · have hm1 : 0 < m := by omega
        have hc : c ≠ [] := by intro h; subst h; simp at hm; omega
        have hK3 := Kp.of_below HW3.out (fun _ => False)
        have HCt := Lib.hid (clause_Text av cv c m w3 (show IntsAt w3 av c from HV.out.kp hK3 (fun _ _ h => h)) hm hcl (HT.out.kp hK3))
        have HJ := Lib.hid (words_flat (c := c.map litText) (by simpa using hc))
        have hjb : (jn (c.map litText)).length + 1 + P.length + 2 ≤ 10000000 := by
          have h1 := congrArg List.length HJ.out
          rw [List.flatMap_map] at h1
          simp only [List.length_cons] at h1
          have := HBd.out
          omega
        obtain ⟨J, hJ⟩ : ∃ J, jn (c.map litText) = J := ⟨_, rfl⟩
        rw [hJ] at HCt HJ hjb
        have hl2 : ¬ 9223372036854775807 < 1 + J.length := by omega
        have hl3 : ¬ 9223372036854775807 < J.length + 1 := by omega
        clear hJ hc hm0 hK3 hm
        go_wp2_with fail
        refine HCt.out.mono ?_
        rintro e w4 ⟨rfl, hK4⟩
        have HB4 := Lib.hid (isbKp HB3.out hK4)
        have HW4 := Lib.hid (HW3.out.trans (hK4.below HW3.out.size (fun _ _ h => h)))
        clear hK4 x1 HB3
        go_wp2_with fail
        rw [show (⟨#[32]⟩ : ByteArray) ++ ⟨J.toArray⟩ = ⟨(32 :: J).toArray⟩ from cat_bytes [32] J]
        have hz4 : (⟨(32 :: J).toArray⟩ : ByteArray).size = J.length + 1 := by rw [← list_size]; rfl
        refine (bld_stringK w.heap.size w.heap.size _ _ _ HB4.out (by rw [Lib.byteCells_length, hz4, List.length_append]; simp only [List.length_cons, List.length_nil]; omega) HW4.out.size).mono ?_
        rintro e w5 ⟨rfl, hB5, hb5, hk5⟩
        rw [strCells_is, ← bcells_append] at hB5
        have HE := HFin.out w5 _ (.inr hB5) (HW4.out.trans hb5) (by show (P ++ [sgb f]) ++ 32 :: J = _; rw [HJ.out]; simp [lineText, sgb])
        have HE2 := Lib.hid HE; clear HE
        have HW5 := Lib.hid (HW4.out.trans hb5)
        clear hB5 hb5 hk5 HB4 HW4 hz4
        go_wp2_with fail
        refine (bld_byteK w.heap.size w.heap.size _ 10 _ HE2.out.1 (by rw [Lib.byteCells_length]; have := HE2.out.2; omega) HW5.out.size).mono ?_
        rintro e w6 ⟨rfl, hB6, hb6, hk6⟩
        have HRel := Lib.hid (show ∃ k' : Nat, k' ≤ n ∧ Value.int .i64 ((k : Int) + 1) = .int .i64 k' ∧ Lib.IsBuilder 161 5 w.heap.size w.heap.size (Lib.byteCells (linesText (lti (L.take k')))) w6 ∧ Below w.heap.size w w6 from
          ⟨k + 1, by omega, by go_num, by
            rw [HStep.out]
            refine .inr ?_
            have e : P ++ (lineText f (List.map litText c) ++ [10]) = ((P ++ [sgb f]) ++ 32 :: J) ++ [10] := by rw [HJ.out]; simp [lineText, sgb]
            rw [e, bcells_append ((P ++ [sgb f]) ++ 32 :: J) [10]]
            exact hB6, HW5.out.trans hb6⟩)
        clear hB6 hb6 hk6
        go_wp2_with fail
        go_roundw
        case rel => exact HRel.out
        case measure => simp [intOf]; omega
    · have hd : decide ((k : Int) < (n : Int)) = false := by simp; omega
      have e : L.take k = L := List.take_of_length_le (by rw [HLN.out]; omega)
      rw [e] at HB
      go_wp2_with fail
      refine (Tryd.Builder_String_any _ _ _ _ HB.out HW.out.size).mono ?_
      rintro e w2 ⟨rfl, hb2⟩
      have hend : Kp (fun _ => False) w w2 := Kp.of_below (HW.out.trans hb2) _
      go_wp2_with fail
      go_ret
      exact ⟨rfl, hend⟩

end Go.Proofs.YtcpgbgbhfkpehaaDoor
