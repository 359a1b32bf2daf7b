/-
  latchetref01.Dec: what it computes: strconv.Itoa's numeral.
-/
import Derived.Test.YtjeaggfjjdfacaaDoorM2
import Derived.Test.YtjeaggfjjdfacaaDoorM1
import Derived.Deep.CutBlock
import Derived.ProofKit
import Derived.Lib.SmallJoins
import Derived.Lib.LaidTab
import Derived.Stop.LaidErr
namespace Go.Proofs.YtjeaggfjjdfacaaDoor
open Go.RowKit

theorem decLen : ∀ (k u : Nat), u < 10 ^ (k + 1) → (Lib.decDigits u).length ≤ k + 1
  | 0, u, h => by rw [Lib.decDigits, dif_pos (by simpa using h)]; simp
  | k + 1, u, h => by
    by_cases hu : u < 10
    · rw [Lib.decDigits, dif_pos hu]; simp
    · rw [Lib.decDigits, dif_neg hu]
      have := decLen k (u / 10) (by rw [Nat.pow_succ] at h; omega)
      simp; omega

theorem itoaLen {n : Int} (h1 : -9223372036854775808 ≤ n) (h2 : n ≤ 9223372036854775807) : (Lib.itoa n).length ≤ 21 := by
  have h := decLen 19 n.natAbs (by omega)
  unfold Lib.itoa
  split
  · simp; omega
  · have e : n.toNat = n.natAbs := by omega
    rw [e]; omega

theorem itoa_one {n : Int} (h0 : ¬ n < 0) (h : n < 10) : Lib.itoa n = [UInt8.ofNat (48 + n.toNat)] := by
  unfold Lib.itoa; rw [if_neg h0, Lib.decDigits, dif_pos (by omega)]

theorem itoa_more {n : Int} (h : ¬ n < 10) : Lib.itoa n = Lib.itoa (n / 10) ++ [UInt8.ofNat (48 + (n % 10).toNat)] := by
  unfold Lib.itoa
  rw [if_neg (by omega), if_neg (by omega)]
  conv => lhs; rw [Lib.decDigits, dif_neg (by omega)]
  rw [show (n / 10).toNat = n.toNat / 10 from by omega, show (n % 10).toNat = n.toNat % 10 from by omega]

theorem itoa_neg1 {n : Int} (h : n < 0) (h1 : -10 < n) : Lib.itoa n = 45 :: [UInt8.ofNat (48 - n).toNat] := by
  unfold Lib.itoa
  rw [if_pos h, Lib.decDigits, dif_pos (by omega), show (48 - n).toNat = 48 + n.natAbs from by omega]

theorem itoa_negm {n : Int} (h1 : n ≤ -10) : Lib.itoa n = Lib.itoa (n.tdiv 10) ++ [UInt8.ofNat (48 - n.tmod 10).toNat] := by
  obtain ⟨m, rfl⟩ : ∃ m : Nat, n = -(m : Int) := ⟨n.natAbs, by omega⟩
  rw [Int.neg_tdiv, Int.neg_tmod, Int.tdiv_eq_ediv_of_nonneg (by omega), Int.tmod_eq_emod_of_nonneg (by omega)]
  unfold Lib.itoa
  rw [if_pos (by omega), if_pos (by omega)]
  conv => lhs; rw [Lib.decDigits, dif_neg (by omega)]
  rw [show (-((m : Int) / 10)).natAbs = (-(m : Int)).natAbs / 10 from by omega, show (48 - -((m : Int) % 10)).toNat = 48 + (-(m : Int)).natAbs % 10 from by omega]
  rfl

/-- 'string([]byte{b})', wherever the cell lies -/
theorem one_string_at {E : Nat} (hE : E < 256) {k : Nat} {u : World} (h : u.cell? ⟨k, 0, none⟩ = some (.int .u8 (E : Int))) :
    (convert 81 9 (.slice (some ⟨k, 0, none⟩) 1 1)).run Tryd.prog u = .ok (.string ⟨#[UInt8.ofNat E]⟩) u := by
  have h := run_convert_bytes_back (P := Tryd.prog) u 81 9 5 ⟨k, 0, none⟩ 1 [UInt8.ofNat E] Tryd.underlying81 Tryd.underlying5 Tryd.underlying9 (fun j hj => by
    have hj0 : j = 0 := by simpa using hj
    subst hj0
    rw [add_plain', Nat.zero_add]
    refine h.trans ?_
    simp [ofNat_toNat hE])
  exact h

theorem one_string_v {V : Int} {E : Nat} (hE : E < 256) (hV : V = E) (u : World) :
    (convert 81 9 (.slice (some ⟨u.heap.size, 0, none⟩) 1 1)).run Tryd.prog (u.alloc (.cells #[.int .u8 V] 5)) = .ok (.string ⟨#[UInt8.ofNat E]⟩) (u.alloc (.cells #[.int .u8 V] 5)) := by
  subst hV; exact one_string E hE u

theorem one_kept {V : Int} {E : Nat} (hE : E < 256) (hV : V = E) {u w1 : World} (hK : Kp (fun _ => False) (u.alloc (.cells #[.int .u8 V] 5)).drew w1) :
    (convert 81 9 (.slice (some ⟨u.heap.size, 0, none⟩) 1 1)).run Tryd.prog w1 = .ok (.string ⟨#[UInt8.ofNat E]⟩) w1 := by
  subst hV
  refine one_string_at hE ?_
  have hb : w1.heap[u.heap.size]? = (u.alloc (.cells #[.int .u8 (E : Int)] 5)).heap[u.heap.size]? := Kp.block hK u.heap.size (by simp) (fun h => h)
  exact (World.cell?_of_block (a := ⟨u.heap.size, 0, none⟩) hb).trans (World.cell?_alloc_at _ _ _ _ rfl)

set_option maxHeartbeats 2000000 in
set_option maxRecDepth 100000 in
theorem ref_Dec_any (k : Nat) : ∀ (n : Int) (w : World), n.natAbs ≤ k → -9223372036854775808 ≤ n → n ≤ 9223372036854775807 →
    Calls Tryd.prog 24 #[.int .i64 n] w fun e w' => e = .returned (.string ⟨(Lib.itoa n).toArray⟩) ∧ Kp (fun _ => False) w w' := by
  induction k using Nat.strongRecOn with
  | _ k ih =>
    intro n w hk h1 h2
    by_cases hneg : n < 0
    · by_cases hs : -10 < n
      · have HI := Lib.hid (itoa_neg1 hneg hs)
        have hq : n.tdiv 10 = 0 := by
          obtain ⟨m, rfl⟩ : ∃ m : Nat, n = -(m : Int) := ⟨n.natAbs, by omega⟩
          rw [Int.neg_tdiv, Int.tdiv_eq_ediv_of_nonneg (by omega)]; omega
        obtain ⟨E, hE, hE2⟩ : ∃ E : Nat, 48 - n = (E : Int) ∧ E = (48 - n).toNat := ⟨(48 - n).toNat, by omega, rfl⟩
        have hE3 : E < 256 := by omega
        have HE2 := Lib.hid hE2; clear hE2
        have hcv := one_string E hE3
        clear ih
        go_enter Tryd.func24, Tryd.ntmps24
        go_wp2_with fail
        go_ret
        refine ⟨congrArg (fun x => Ending.returned (Value.string x)) ((cat_bytes [45] [UInt8.ofNat E]).trans ?_), (Kp.refl _ w).alloc _⟩
        rw [HI.out, HE2.out]; rfl
      · have HI := Lib.hid (itoa_negm (n := n) (by omega))
        obtain ⟨q, r, hq, hr, h10⟩ : ∃ q r : Int, n.tdiv 10 = q ∧ n.tmod 10 = r ∧ (q ≤ -1 ∧ n ≤ q ∧ n < q ∧ -9 ≤ r ∧ r ≤ 0) := by
          refine ⟨_, _, rfl, rfl, ?_⟩
          obtain ⟨m, rfl⟩ : ∃ m : Nat, n = -(m : Int) := ⟨n.natAbs, by omega⟩
          rw [Int.neg_tdiv, Int.neg_tmod, Int.tdiv_eq_ediv_of_nonneg (by omega), Int.tmod_eq_emod_of_nonneg (by omega)]; omega
        obtain ⟨E, hE2⟩ : ∃ E : Nat, E = (48 - r).toNat := ⟨_, rfl⟩
        have hE3 : E < 256 := by omega
        have hV : IntKind.wrap .u8 (IntKind.wrap .i64 (48 - r)) = (E : Int) := by
          rw [wrap_small _ (by omega) (by omega)]; unfold IntKind.wrap; simp [IntKind.bits, IntKind.signed]; omega
        have HE2 := Lib.hid hE2; clear hE2
        have HV := Lib.hid hV; clear hV
        have hcv := one_string_v hE3 HV.out
        have hcd := one_kept hE3 HV.out (Kp.refl _ (w.alloc (.cells #[.int .u8 (IntKind.wrap .u8 (IntKind.wrap .i64 (48 - r)))] 5)).drew)
        have hlen : ¬ 9223372036854775807 < (Lib.itoa q).length + 1 := by have := itoaLen (n := q) (by omega) (by omega); omega
        have hwq : IntKind.wrap .i64 q = q := hq ▸ wrap_i64_tdiv n 10 h1 h2 (by omega)
        have hrec : ∀ u : World, Calls Tryd.prog 24 #[.int .i64 q] u fun e w' => e = .returned (.string ⟨(Lib.itoa q).toArray⟩) ∧ Kp (fun _ => False) u w' :=
          fun u => ih q.natAbs (by omega) _ u (Nat.le_refl _) (by omega) (by omega)
        have hfin : ∀ w1, Kp (fun _ => False) w w1 → Ending.returned (Value.string ((⟨(Lib.itoa q).toArray⟩ : ByteArray) ++ ⟨#[UInt8.ofNat E]⟩)) = Ending.returned (.string ⟨(Lib.itoa n).toArray⟩) ∧ Kp (fun _ => False) w w1 :=
          fun w1 h => ⟨congrArg (fun x => Ending.returned (Value.string x)) ((cat_bytes _ [UInt8.ofNat E]).trans (by rw [HI.out, HE2.out, hq, hr])), h⟩
        have h0 : ¬ q = 0 := by omega
        clear ih
        go_enter Tryd.func24, Tryd.ntmps24
        go_wp2_with fail
        go_region_with (go_at_call 24; refine (hrec _).mono ?_; rintro e w1 ⟨rfl, hK1⟩; try have hcw : (convert 81 9 (.slice (some ⟨w.heap.size, 0, none⟩) 1 1)).run Tryd.prog w1 = _ := one_kept hE3 HV.out hK1)
        all_goals (go_wp2_with fail)
        all_goals go_ret
        · exact hfin _ ((Kp.trans (Kp.drew (Kp.refl _ w)) hK1 (fun _ _ h => h)).alloc _)
        · exact hfin _ (Kp.trans (Kp.drew (Kp.alloc (Kp.refl _ w) _)) hK1 (fun _ _ h => h))
        · exact hfin _ (Kp.trans (Kp.drew (Kp.alloc (Kp.refl _ w) _)) hK1 (fun _ _ h => h))
    by_cases hs : n < 10
    · have HI := Lib.hid (itoa_one hneg hs)
      obtain ⟨m, rfl⟩ : ∃ m : Nat, n = m := ⟨n.toNat, by omega⟩
      have hm : m < 10 := by omega
      obtain ⟨E, hE, hE2⟩ : ∃ E : Nat, 48 + (m : Int) = (E : Int) ∧ E = 48 + m := ⟨48 + m, by omega, rfl⟩
      have hE3 : E < 256 := by omega
      have HE2 := Lib.hid hE2; clear hE2
      have hcv := one_string E hE3
      go_enter Tryd.func24, Tryd.ntmps24
      go_wp2_with fail
      go_ret
      refine ⟨?_, (Kp.refl _ w).alloc _⟩
      rw [HI.out, HE2.out]; rfl
    · have HI := Lib.hid (itoa_more hs)
      obtain ⟨m, rfl⟩ : ∃ m : Nat, n = m := ⟨n.toNat, by omega⟩
      have hm : ¬ m < 10 := by omega
      obtain ⟨E, hE2⟩ : ∃ E : Nat, E = 48 + m % 10 := ⟨_, rfl⟩
      have hE3 : E < 256 := by omega
      have hV : IntKind.wrap .u8 (IntKind.wrap .i64 (48 + (m : Int).tmod 10)) = (E : Int) := by
        rw [Int.tmod_eq_emod_of_nonneg (by omega), wrap_small _ (by omega) (by omega)]; unfold IntKind.wrap; simp [IntKind.bits, IntKind.signed]; omega
      have HE2 := Lib.hid hE2; clear hE2
      have HV := Lib.hid hV; clear hV
      have hcv := one_string_v hE3 HV.out
      have hcd := one_kept hE3 HV.out (Kp.refl _ (w.alloc (.cells #[.int .u8 (IntKind.wrap .u8 (IntKind.wrap .i64 (48 + (m : Int).tmod 10)))] 5)).drew)
      have hlen : ¬ 9223372036854775807 < (Lib.itoa ((m : Int) / 10)).length + 1 := by have := itoaLen (n := (m : Int) / 10) (by omega) (by omega); omega
      have hwq : IntKind.wrap .i64 ((m : Int) / 10) = (m : Int) / 10 := wrap_small _ (by omega) (by omega)
      have hrec : ∀ u : World, Calls Tryd.prog 24 #[.int .i64 (IntKind.wrap .i64 ((m : Int) / 10))] u fun e w' => e = .returned (.string ⟨(Lib.itoa ((m : Int) / 10)).toArray⟩) ∧ Kp (fun _ => False) u w' :=
        fun u => by rw [hwq]; exact ih ((m : Int) / 10).natAbs (by omega) _ u (Nat.le_refl _) (by omega) (by omega)
      have hfin : ∀ w1, Kp (fun _ => False) w w1 → Ending.returned (Value.string ((⟨(Lib.itoa ((m : Int) / 10)).toArray⟩ : ByteArray) ++ ⟨#[UInt8.ofNat E]⟩)) = Ending.returned (.string ⟨(Lib.itoa (m : Int)).toArray⟩) ∧ Kp (fun _ => False) w w1 :=
        fun w1 h => ⟨congrArg (fun x => Ending.returned (Value.string x)) ((cat_bytes _ [UInt8.ofNat E]).trans (by rw [HI.out, HE2.out, show ((m : Int) % 10).toNat = m % 10 from by omega])), h⟩
      clear ih hwq
      go_enter Tryd.func24, Tryd.ntmps24
      go_wp2_with fail
      go_region_with (go_at_call 24; refine (hrec _).mono ?_; rintro e w1 ⟨rfl, hK1⟩; try have hcw : (convert 81 9 (.slice (some ⟨w.heap.size, 0, none⟩) 1 1)).run Tryd.prog w1 = _ := one_kept hE3 HV.out hK1)
      all_goals (go_wp2_with fail)
      all_goals go_ret
      · exact hfin _ ((Kp.trans (Kp.drew (Kp.refl _ w)) hK1 (fun _ _ h => h)).alloc _)
      · exact hfin _ (Kp.trans (Kp.drew (Kp.alloc (Kp.refl _ w) _)) hK1 (fun _ _ h => h))
      · exact hfin _ (Kp.trans (Kp.drew (Kp.alloc (Kp.refl _ w) _)) hK1 (fun _ _ h => h))

theorem ref_Dec (n : Int) (w : World) (h1 : -9223372036854775808 ≤ n) (h2 : n ≤ 9223372036854775807) :
    Calls Tryd.prog 24 #[.int .i64 n] w fun e w' => e = .returned (.string ⟨(Lib.itoa n).toArray⟩) ∧ Kp (fun _ => False) w w' :=
  ref_Dec_any n.natAbs n w (Nat.le_refl _) h1 h2

end Go.Proofs.YtjeaggfjjdfacaaDoor

/-
  A line of numbers, as the program and as the reference writes it.
-/
namespace Go.Proofs.YtjeaggfjjdfacaaDoor
open Go.RowKit

def astrs (L : List ByteArray) : List Value := L.map Value.string
theorem astrInfo : (Tryd.prog.info? 9).map (fun i => (i.zero, i.size, i.bytes)) = some (some (.string .empty), 1, 16) := by kernel_rfl
theorem amade_strs (n : Nat) : madeCells #[.string .empty] n = (astrs (List.replicate n .empty)).toArray := by
  apply Array.ext
  · simp [madeCells, astrs]
  · intro i h1 h2
    simp [madeCells, astrs, Nat.mod_one]
theorem astrs_set (L : List ByteArray) (k : Nat) (x : ByteArray) : (astrs L).toArray.setIfInBounds k (.string x) = (astrs (L.set k x)).toArray := by simp [astrs, List.map_set]
theorem astrs_at {L : List ByteArray} {k : Nat} {x : ByteArray} (h : L[k]? = some x) : (astrs L).toArray[k]? = some (.string x) := by simp [astrs, h]

/-- the numbers with blanks between -/
def jrow (l : List Int) : List UInt8 := Lib.join (l.map Lib.itoa) [32]

theorem jrow_nil : jrow [] = [] := rfl
theorem jrow_snoc (l : List Int) (x : Int) : jrow (l ++ [x]) = (if l.length = 0 then [] else jrow l ++ [32]) ++ Lib.itoa x := by
  cases l with
  | nil => simp [jrow, Lib.join_one]
  | cons a r =>
    rw [if_neg (by simp)]
    unfold jrow
    rw [List.cons_append, List.map_cons, List.map_cons, Lib.join_cons, Lib.join_cons, List.map_append]
    simp [Lib.joinTail]

/-- a number of Go's int -/
def okI (x : Int) : Prop := -9223372036854775808 ≤ x ∧ x ≤ 9223372036854775807

theorem jrow_take_len {l : List Int} (h : ∀ x ∈ l, okI x) : ∀ k, k ≤ l.length → (jrow (l.take k)).length ≤ 22 * k
  | 0, _ => by simp [jrow_nil]
  | k + 1, hk => by
    have ih := jrow_take_len h k (by omega)
    have hx := h _ (List.getElem_mem (show k < l.length by omega))
    have hi := itoaLen hx.1 hx.2
    rw [List.take_succ_eq_append_getElem (by omega), jrow_snoc]
    split <;> simp <;> omega

theorem jrow_step {l : List Int} {k : Nat} (hk : k < l.length) : jrow (l.take (k + 1)) = (if k = 0 then [] else jrow (l.take k) ++ [32]) ++ Lib.itoa (gi l k) := by
  rw [List.take_succ_eq_append_getElem hk, jrow_snoc, List.length_take, show min k l.length = k by omega, show l[k] = gi l k by simp [gi, List.getElem?_eq_getElem hk]]

theorem gi_ok {l : List Int} {k : Nat} (h : ∀ x ∈ l, okI x) (hk : k < l.length) : okI (gi l k) := by
  have : gi l k = l[k] := by simp [gi, List.getElem?_eq_getElem hk]
  rw [this]; exact h _ (List.getElem_mem hk)

def itx (x : Int) : ByteArray := ⟨(Lib.itoa x).toArray⟩

set_option maxRecDepth 100000 in
set_option maxHeartbeats 2000000 in
theorem ascii_row (a : Option Addr) (cap : Nat) (l : List Int) (n : Nat) (w : World) (hr : IntsAt w a l) (hln : l.length = n) (hn : n ≤ 100000) (hok : ∀ x ∈ l, okI x) (ht : Tab w) :
    Calls Tryd.prog 14 #[.slice a n cap] w fun e w' => e = .returned (.string ⟨(jrow l ++ [10]).toArray⟩) ∧ Kp (fun _ => False) w w' := by
  obtain ⟨i0, hi, hz0, hz1, hz2⟩ := info_parts astrInfo
  have hmk : ∀ u : World, (Instr.makeSlice 63 (.int .i64 (n : Int)) (.int .i64 (n : Int))).run Tryd.prog u =
      .ok (.slice (some ⟨u.heap.size, 0, none⟩) n n) (u.alloc (.cells (madeCells #[.string .empty] n) 9)) := fun u => by
    have h := run_make (P := Tryd.prog) u 63 9 i0 (.string .empty) Tryd.underlying63 hi hz0 .i64 .i64 (n : Int) (n : Int) (by omega) (Int.le_refl _) (by rw [hz2]; omega) (by omega)
    simpa [hz1, Value.cells] using h
  clear hi hz0 hz1 hz2 i0
  have hmade := Lib.hid (amade_strs n)
  have HT := Lib.hid ht; clear ht
  have HR := Lib.hid hr; clear hr
  have HLN := Lib.hid hln; clear hln
  have HOk := Lib.hid hok; clear hok
  go_enter Tryd.func14, Tryd.ntmps14
  go_wp2_with fail
  go_loopw [11] (fun i wr => ∃ (k : Nat) (L : List ByteArray), k ≤ n ∧ i = .int .i64 k ∧ L.length = n ∧ (∀ j, j < k → L[j]? = some (itx (gi l j))) ∧ Blk wr w.heap.size (astrs L).toArray 9 ∧ Kp (fun _ => False) w wr) (fun i _ => n - (intOf i).toNat)
  case atStart => exact ⟨0, List.replicate n .empty, Nat.zero_le _, rfl, by simp, fun j hj => by omega, by rw [← hmade.out]; exact Blk.new _ _ _, (Kp.refl _ _).alloc _⟩
  case round =>
    obtain ⟨k, L, hk, rfl, hL, hJ, hB, hK⟩ := hrel
    have HL := Lib.hid hL; clear hL
    have HJ := Lib.hid hJ; clear hJ
    have HB := Lib.hid hB; clear hB
    by_cases hlt : k < n
    · have hd : decide ((k : Int) < (n : Int)) = true := by simp; omega
      obtain ⟨b, off, rfl, hc⟩ := (show IntsAt wr a l from HR.out.kp hK (fun _ _ h => h)).get (j := k) (by rw [HLN.out]; exact hlt)
      have hxo := gi_ok HOk.out (k := k) (by rw [HLN.out]; exact hlt)
      obtain ⟨x, hx⟩ : ∃ x, gi l k = x := ⟨_, rfl⟩
      rw [hx] at hc hxo
      have HX := Lib.hid hx; clear hx
      have HTx := Lib.hid (octet_Dec x wr hxo.1 hxo.2 (HT.out.kp hK))
      obtain ⟨x0, hx0⟩ : ∃ x0, L[k]? = some x0 := ⟨_, List.getElem?_eq_getElem (by rw [HL.out]; exact hlt)⟩
      have HX0 := Lib.hid hx0; clear hx0
      clear hxo
      go_wp2_with fail
      refine HTx.out.mono ?_
      rintro e w2 ⟨rfl, hK2⟩
      have hB2 := HB.out.kp hK2 (fun h => h)
      have hK3 := hK.trans hK2 (fun _ _ h => h)
      have c0 := hB2.cell (i := k) (astrs_at HX0.out)
      have f0 := hB2.free k
      have HRel := Lib.hid (show ∃ (k' : Nat) (L : List ByteArray), k' ≤ n ∧ Value.int .i64 ((k : Int) + 1) = .int .i64 k' ∧ L.length = n ∧ (∀ j, j < k' → L[j]? = some (itx (gi l j))) ∧ Blk (w2.setCell ⟨w.heap.size, k, none⟩ (.string ⟨(Lib.itoa x).toArray⟩)) w.heap.size (astrs L).toArray 9 ∧ Kp (fun _ => False) w (w2.setCell ⟨w.heap.size, k, none⟩ (.string ⟨(Lib.itoa x).toArray⟩)) from
        ⟨k + 1, L.set k (itx x), by omega, by go_num, by rw [List.length_set, HL.out], fun j hj => by
            by_cases e : j = k
            · subst e; rw [List.getElem?_set_self (by rw [HL.out]; exact hlt), HX.out]
            · rw [List.getElem?_set_ne (fun h => e h.symm)]; exact HJ.out j (by omega),
          by rw [← astrs_set]; exact hB2.set_same k _, hK3.setCell (p := ⟨w.heap.size, k, none⟩) (by simp) _⟩)
      clear hB2 hK2 hK3
      go_wp2_with fail
      go_roundw
      case rel => exact HRel.out
      case measure => simp [intOf]; omega
    · have hd : decide ((k : Int) < (n : Int)) = false := by simp; omega
      have e : L = l.map itx := by
        apply List.ext_getElem?
        intro j
        by_cases hj : j < n
        · rw [HJ.out j (by omega), List.getElem?_map]
          have hj2 : j < l.length := by rw [HLN.out]; exact hj
          rw [List.getElem?_eq_getElem hj2]
          simp [gi, List.getElem?_eq_getElem hj2]
        · rw [List.getElem?_eq_none (by rw [HL.out]; omega), List.getElem?_eq_none (by rw [List.length_map, HLN.out]; omega)]
      subst e
      have ej : (l.map itx).map (·.data.toList) = l.map Lib.itoa := by rw [List.map_map]; apply List.map_congr_left; intro z _; simp [itx]
      have hlt2 : w.heap.size < wr.heap.size := HB.out.lt
      have hjl : (jrow l).length ≤ 22 * n := by
        have := jrow_take_len HOk.out l.length (Nat.le_refl _)
        rw [List.take_length, HLN.out] at this
        exact this
      have HJn := Lib.hid (Tryd.strings_Join w.heap.size 0 n (l.map itx) ⟨#[32]⟩ wr (fun j x hx => by rw [Nat.zero_add]; exact HB.out.cell (astrs_at hx)) hlt2 (by rw [List.length_map, HLN.out]; omega) (by rw [List.length_map, HLN.out]; exact Nat.le_refl _)
        (by rw [ej, show (⟨#[32]⟩ : ByteArray).data.toList = [32] from rfl]; show (jrow l).length ≤ _; omega))
      rw [ej, show (⟨#[32]⟩ : ByteArray).data.toList = [32] from rfl, show Lib.join (l.map Lib.itoa) [32] = jrow l from rfl, List.length_map, HLN.out] at HJn
      have hcat : ¬ 9223372036854775807 < (jrow l).length + 1 := by omega
      obtain ⟨J, hJ⟩ : ∃ J, jrow l = J := ⟨_, rfl⟩
      have HCat : Hid ((⟨J.toArray⟩ : ByteArray) ++ ⟨([10] : List UInt8).toArray⟩ = ⟨(jrow l ++ [10]).toArray⟩) := Lib.hid (by rw [hJ]; exact cat_bytes J [10])
      rw [hJ] at HJn hcat
      clear hJ
      clear hjl
      go_wp2_with fail
      refine HJn.out.mono ?_
      rintro e w2 ⟨rfl, hb⟩
      have hend := hK.trans (Kp.of_below hb (fun _ => False)) (fun _ _ h => h)
      go_wp2_with fail
      go_ret
      exact ⟨congrArg (fun x => Ending.returned (Value.string x)) HCat.out, hend⟩

set_option maxRecDepth 100000 in
set_option maxHeartbeats 2000000 in
theorem ref_row (a : Option Addr) (cap : Nat) (l : List Int) (n : Nat) (w : World) (hr : IntsAt w a l) (hln : l.length = n) (hn : n ≤ 100000) (hok : ∀ x ∈ l, okI x) :
    Calls Tryd.prog 15 #[.slice a n cap] w fun e w' => e = .returned (.string ⟨(jrow l ++ [10]).toArray⟩) ∧ Kp (fun _ => False) w w' := by
  have HR := Lib.hid hr; clear hr
  have HLN := Lib.hid hln; clear hln
  have HOk := Lib.hid hok; clear hok
  go_enter Tryd.func15, Tryd.ntmps15
  go_wp2_with fail
  go_loopw [3, 4] (fun s i wr => ∃ k : Nat, k ≤ n ∧ i = .int .i64 k ∧ s = .string ⟨(jrow (l.take k)).toArray⟩ ∧ Kp (fun _ => False) w wr) (fun _ i _ => n - (intOf i).toNat)
  case atStart => exact ⟨0, Nat.zero_le _, rfl, rfl, Kp.refl _ _⟩
  case round =>
    obtain ⟨k, hk, rfl, rfl, hK⟩ := hrel
    have hJl := jrow_take_len HOk.out k (by rw [HLN.out]; exact hk)
    by_cases hlt : k < n
    · have hd : decide ((k : Int) < (n : Int)) = true := by simp; omega
      obtain ⟨b, off, rfl, hc⟩ := (show IntsAt wr a l from HR.out.kp hK (fun _ _ h => h)).get (j := k) (by rw [HLN.out]; exact hlt)
      have HSt := Lib.hid (jrow_step (l := l) (k := k) (by rw [HLN.out]; exact hlt))
      have hxo := gi_ok HOk.out (k := k) (by rw [HLN.out]; exact hlt)
      obtain ⟨x, hx⟩ : ∃ x, gi l k = x := ⟨_, rfl⟩
      rw [hx] at hc hxo HSt
      clear hx
      have HTx := Lib.hid (fun u => ref_Dec x u hxo.1 hxo.2)
      have hil := itoaLen hxo.1 hxo.2
      clear hxo
      generalize hJe : jrow (l.take k) = J at HSt hJl
      generalize Lib.itoa x = D at HTx hil HSt
      have HK := Lib.hid hK
      have i1 : (0 : Int) ≤ (k : Int) := by omega
      have i2 : (k : Int) < (n : Int) := by omega
      by_cases h0 : k = 0
      · have g0 : decide (0 < k) = false := by simp; omega
        rw [if_pos h0, List.nil_append] at HSt
        have HJ0 : Hid (J = []) := Lib.hid (by rw [← hJe, h0]; rfl)
        have HCat := Lib.hid (show (⟨J.toArray⟩ : ByteArray) ++ ⟨D.toArray⟩ = ⟨D.toArray⟩ by rw [cat_bytes, HJ0.out]; rfl)
        have hc1 : ¬ 9223372036854775807 < J.length + D.length := by omega
        clear hJe h0
        go_wp2_with fail
        refine (HTx.out _).mono ?_
        rintro e w2 ⟨rfl, hK2⟩
        have HRel := Lib.hid (show ∃ k' : Nat, k' ≤ n ∧ Value.int .i64 ((k : Int) + 1) = .int .i64 k' ∧ Value.string ((⟨J.toArray⟩ : ByteArray) ++ ⟨D.toArray⟩) = .string ⟨(jrow (l.take k')).toArray⟩ ∧ Kp (fun _ => False) w w2 from
          ⟨k + 1, by omega, by go_num, by rw [HCat.out, HSt.out], HK.out.trans hK2 (fun _ _ h => h)⟩)
        clear hK2
        go_wp2_with fail
        go_roundw
        case rel => exact HRel.out
        case measure => simp [intOf]; omega
      · have g0 : decide (0 < k) = true := by simp; omega
        rw [if_neg h0] at HSt
        have HCat := Lib.hid (show (⟨J.toArray⟩ : ByteArray) ++ ⟨#[32]⟩ ++ ⟨D.toArray⟩ = ⟨(J ++ [32] ++ D).toArray⟩ by rw [show (⟨#[32]⟩ : ByteArray) = ⟨([32] : List UInt8).toArray⟩ from rfl, cat_bytes, cat_bytes])
        have hc1 : ¬ 9223372036854775807 < J.length + 1 := by omega
        have hc2 : ¬ 9223372036854775807 < J.length + 1 + D.length := by omega
        clear hJe h0
        go_wp2_with fail
        refine (HTx.out _).mono ?_
        rintro e w2 ⟨rfl, hK2⟩
        have HRel := Lib.hid (show ∃ k' : Nat, k' ≤ n ∧ Value.int .i64 ((k : Int) + 1) = .int .i64 k' ∧ Value.string ((⟨J.toArray⟩ : ByteArray) ++ ⟨#[32]⟩ ++ ⟨D.toArray⟩) = .string ⟨(jrow (l.take k')).toArray⟩ ∧ Kp (fun _ => False) w w2 from
          ⟨k + 1, by omega, by go_num, by rw [HCat.out, HSt.out], HK.out.trans hK2 (fun _ _ h => h)⟩)
        clear hK2
        go_wp2_with fail
        go_roundw
        case rel => exact HRel.out
        case measure => simp [intOf]; omega
    · have hd : decide ((k : Int) < (n : Int)) = false := by simp; omega
      have HE := Lib.hid (show jrow (l.take k) = jrow l by rw [List.take_of_length_le (by rw [HLN.out]; omega)])
      rw [HE.out] at hJl ⊢
      have hcat : ¬ 9223372036854775807 < (jrow l).length + 1 := by omega
      obtain ⟨J, hJ⟩ : ∃ J, jrow l = J := ⟨_, rfl⟩
      have HCat : Hid ((⟨J.toArray⟩ : ByteArray) ++ ⟨([10] : List UInt8).toArray⟩ = ⟨(jrow l ++ [10]).toArray⟩) := Lib.hid (by rw [hJ]; exact cat_bytes J [10])
      clear hJl HE
      have HPost : Hid (∀ x, x = (⟨(jrow l ++ [10]).toArray⟩ : ByteArray) → Ending.returned (Value.string x) = .returned (.string ⟨(jrow l ++ [10]).toArray⟩)) := Lib.hid (fun x h => by rw [h])
      rw [show (⟨(jrow l).toArray⟩ : ByteArray) = ⟨J.toArray⟩ by rw [hJ]]
      rw [hJ] at hcat
      clear hJ
      go_wp2_with fail
      go_ret
      exact ⟨congrArg (fun x => Ending.returned (Value.string x)) HCat.out, hK⟩

end Go.Proofs.YtjeaggfjjdfacaaDoor

/-
  A head's line, as the program and as the reference writes it. (Printed by mkawrite.py.)
-/
namespace Go.Proofs.YtjeaggfjjdfacaaDoor
open Go.RowKit

theorem wintInfo : (Tryd.prog.info? 3).map (fun i => (i.zero, i.size, i.bytes)) = some (some (.int .i64 0), 1, 8) := by kernel_rfl
theorem own_lit {w : World} {base g : Nat} {e : TypeId} {cs : List Value} (h : Blk w g cs.toArray e) (hg : base ≤ g) (hn : cs.length ≤ maxLen) : Own w base e (.slice (some ⟨g, 0, none⟩) cs.length cs.length) cs :=
  ⟨by simp, .inr ⟨g, cs.length, cs.toArray, rfl, hg, h, Nat.le_refl _, hn, by simp, by simp⟩⟩

theorem headW_eq {b : Bool} {h l : List Int} (hw : wrow h = l) : headW b h = (if b = true then [97, 105, 103, 32] else [97, 97, 103, 32]) ++ (jrow l ++ [10]) := by
  unfold headW jrow; rw [hw]

theorem head_cat_true {h l : List Int} (hw : wrow h = l) : (⟨#[97, 105, 103, 32]⟩ : ByteArray) ++ ⟨(jrow l ++ [10]).toArray⟩ = ⟨(headW true h).toArray⟩ := by
  rw [headW_eq hw, if_pos rfl]; exact cat_bytes [97, 105, 103, 32] _
theorem head_cat_false {h l : List Int} (hw : wrow h = l) : (⟨#[97, 97, 103, 32]⟩ : ByteArray) ++ ⟨(jrow l ++ [10]).toArray⟩ = ⟨(headW false h).toArray⟩ := by
  rw [headW_eq hw, if_neg (by decide)]; exact cat_bytes [97, 97, 103, 32] _

theorem jrow_small {l : List Int} (h : ∀ x ∈ l, okI x) (h7 : l.length ≤ 7) : (jrow l ++ [10]).length ≤ 155 := by
  have := jrow_take_len h l.length (Nat.le_refl _)
  rw [List.take_length] at this
  simp; omega

set_option maxRecDepth 100000 in
set_option maxHeartbeats 4000000 in
theorem ascii_WriteHead (b : Bool) (x0 x1 x2 x3 x4 x5 x6 : Int) (w : World) (hok : ∀ x ∈ [x0, x1, x2, x3, x4, x5, x6], okI x) (ht : Tab w) :
    Calls Tryd.prog 6 #[.agg #[.bool b, .int .i64 x0, .int .i64 x1, .int .i64 x2, .int .i64 x3, .int .i64 x4, .int .i64 x5, .int .i64 x6]] w fun e w' => e = .returned (.string ⟨(headW b [x0, x1, x2, x3, x4, x5, x6]).toArray⟩) ∧ Kp (fun _ => False) w w' := by
  have HOk := Lib.hid hok
  have HT := Lib.hid ht
  clear hok ht
  obtain ⟨wz, hwz⟩ : ∃ wz : World, wz = (w.alloc (.cells #[.bool b, .int .i64 x0, .int .i64 x1, .int .i64 x2, .int .i64 x3, .int .i64 x4, .int .i64 x5, .int .i64 x6] 23)).alloc (.cells #[.int .i64 x0, .int .i64 x1, .int .i64 x2, .int .i64 x3, .int .i64 x4] 3) := ⟨_, rfl⟩
  have HBz : Hid (Blk wz w.heap.size #[.bool b, .int .i64 x0, .int .i64 x1, .int .i64 x2, .int .i64 x3, .int .i64 x4, .int .i64 x5, .int .i64 x6] 23) := Lib.hid (by rw [hwz]; exact (Blk.new w _ _).alloc _)
  have HKz : Hid (Kp (fun _ => False) w wz) := Lib.hid (by rw [hwz]; exact ((Kp.refl _ w).alloc _).alloc _)
  obtain ⟨az, haz⟩ : ∃ az : Option Addr, az = some ⟨w.heap.size + 1, 0, none⟩ := ⟨_, rfl⟩
  obtain ⟨cz, hcz⟩ : ∃ cz : Nat, cz = 5 := ⟨_, rfl⟩
  have HOz : Hid (Own wz (w.heap.size + 1) 3 (.slice az 5 cz) [Value.int .i64 x0, Value.int .i64 x1, Value.int .i64 x2, Value.int .i64 x3, Value.int .i64 x4]) := Lib.hid (by
    rw [hwz, haz, hcz]
    have hb : Blk ((w.alloc (.cells #[.bool b, .int .i64 x0, .int .i64 x1, .int .i64 x2, .int .i64 x3, .int .i64 x4, .int .i64 x5, .int .i64 x6] 23)).alloc (.cells #[.int .i64 x0, .int .i64 x1, .int .i64 x2, .int .i64 x3, .int .i64 x4] 3)) (w.heap.size + 1) #[.int .i64 x0, .int .i64 x1, .int .i64 x2, .int .i64 x3, .int .i64 x4] 3 := by
      have := Blk.new (w.alloc (.cells #[.bool b, .int .i64 x0, .int .i64 x1, .int .i64 x2, .int .i64 x3, .int .i64 x4, .int .i64 x5, .int .i64 x6] 23)) #[.int .i64 x0, .int .i64 x1, .int .i64 x2, .int .i64 x3, .int .i64 x4] 3
      rwa [World.size_alloc] at this
    exact own_lit (cs := [Value.int .i64 x0, Value.int .i64 x1, Value.int .i64 x2, Value.int .i64 x3, Value.int .i64 x4]) hb (Nat.le_refl _) (by simp [maxLen]))
  have HFirst := Lib.hid (And.intro hwz (And.intro haz hcz))
  clear hwz haz hcz
  by_cases e5 : x5 = 0
  · by_cases e6 : x6 = 0
    · have n5 : (x5 != 0) = false := by simpa using e5
      have n6 : (x6 != 0) = false := by simpa using e6
      have HW : Hid (wrow [x0, x1, x2, x3, x4, x5, x6] = [x0, x1, x2, x3, x4]) := Lib.hid (by simp [wrow, gi, e5, e6])
      clear e5 e6
      go_enter Tryd.func6, Tryd.ntmps6
      go_upto_region 2 with fail
      rw [show (w.alloc (.cells #[.bool b, .int .i64 x0, .int .i64 x1, .int .i64 x2, .int .i64 x3, .int .i64 x4, .int .i64 x5, .int .i64 x6] 23)).alloc (.cells #[.int .i64 x0, .int .i64 x1, .int .i64 x2, .int .i64 x3, .int .i64 x4] 3) = wz from HFirst.out.1.symm]
      rw [show Value.slice (some ⟨w.heap.size + 1, 0, none⟩) 5 5 = .slice az 5 cz from by rw [HFirst.out.2.1, HFirst.out.2.2]]
      clear HFirst
      obtain ⟨z0, z1, z2, z3, z4, z5, z6, z7⟩ := HBz.out.cells8
      have hlz := HBz.out.lt
      have HRow := Lib.hid (ascii_row az cz [x0, x1, x2, x3, x4] 5 wz (by obtain ⟨_, _, hv, _, _, _, hr⟩ := HOz.out.form; cases hv; exact hr) rfl (by decide) (fun x hx => HOk.out x (by simp at hx ⊢; omega)) (HT.out.kp HKz.out))
      have hcl := jrow_small (l := [x0, x1, x2, x3, x4]) (fun x hx => HOk.out x (by simp at hx ⊢; omega)) (by simp)
      obtain ⟨R, hR⟩ : ∃ R, jrow [x0, x1, x2, x3, x4] ++ [10] = R := ⟨_, rfl⟩
      rw [hR] at HRow hcl
      have HR := Lib.hid hR
      clear hR
      have hcat : ¬ 9223372036854775807 < 4 + R.length := by omega
      clear hcl
      cases b with
      | true =>
        go_wp2_with fail
        refine (HRow.out).mono ?_
        rintro e w4 ⟨rfl, hK4⟩
        have HE := Lib.hid (HR.out ▸ head_cat_true HW.out)
        have HK4 := Lib.hid (HKz.out.trans hK4 (fun _ _ h => h))
        clear hK4
        go_wp2_with fail
        go_ret
        exact ⟨congrArg (fun x => Ending.returned (Value.string x)) HE.out, HK4.out⟩
      | false =>
        go_wp2_with fail
        refine (HRow.out).mono ?_
        rintro e w4 ⟨rfl, hK4⟩
        have HE := Lib.hid (HR.out ▸ head_cat_false HW.out)
        have HK4 := Lib.hid (HKz.out.trans hK4 (fun _ _ h => h))
        clear hK4
        go_wp2_with fail
        go_ret
        exact ⟨congrArg (fun x => Ending.returned (Value.string x)) HE.out, HK4.out⟩
    · have n5 : (x5 != 0) = false := by simpa using e5
      have n6 : (x6 != 0) = true := by simpa using e6
      have HW : Hid (wrow [x0, x1, x2, x3, x4, x5, x6] = [x0, x1, x2, x3, x4, x5, x6]) := Lib.hid (by simp [wrow, gi, e5, e6])
      clear e5 e6
      go_enter Tryd.func6, Tryd.ntmps6
      go_upto_region 2 with fail
      rw [show (w.alloc (.cells #[.bool b, .int .i64 x0, .int .i64 x1, .int .i64 x2, .int .i64 x3, .int .i64 x4, .int .i64 x5, .int .i64 x6] 23)).alloc (.cells #[.int .i64 x0, .int .i64 x1, .int .i64 x2, .int .i64 x3, .int .i64 x4] 3) = wz from HFirst.out.1.symm]
      rw [show Value.slice (some ⟨w.heap.size + 1, 0, none⟩) 5 5 = .slice az 5 cz from by rw [HFirst.out.2.1, HFirst.out.2.2]]
      clear HFirst
      obtain ⟨z0, z1, z2, z3, z4, z5, z6, z7⟩ := HBz.out.cells8
      have hlz := HBz.out.lt
      go_wp2_with (at_builtin; refine wpList_append1 rfl _ _ 42 3 rfl Tryd.underlying42 wintInfo rfl (HOz.out.alloc _) rfl ⟨wz.heap.size, 0, none⟩ (.int .i64 x5) rfl ?c1 rfl ?c2 ?c3 ?c4 ?_)
      case c1 => simp
      case c2 => simp
      case c3 => simp [maxLen]
      case c4 => have := HKz.out.size; have := HBz.out.lt; simp; omega
      intro v3 w3 hO3 hg3
      have hK3 : Kp (fun j => (Value.slice az 5 cz).ownBlock = some j) wz w3 := ((Kp.refl _ wz).alloc _).grown hg3 (fun j hj _ => hj)
      have hown := fun j (h : (Value.slice az 5 cz).ownBlock = some j) => (HOz.out.lt j h).1
      have HB3 := Lib.hid (HBz.out.kp hK3 (fun h => by have := hown _ h; omega))
      have HK3 := Lib.hid (HKz.out.trans hK3 (fun j hj h => by have := hown j h; omega))
      have hO4 : Own w3 (w.heap.size + 1) 3 v3 [Value.int .i64 x0, Value.int .i64 x1, Value.int .i64 x2, Value.int .i64 x3, Value.int .i64 x4, Value.int .i64 x5] := hO3
      obtain ⟨a3, c3, hv3, _, _, _, _⟩ := hO4.form
      rw [show ([Value.int .i64 x0, Value.int .i64 x1, Value.int .i64 x2, Value.int .i64 x3, Value.int .i64 x4, Value.int .i64 x5]).length = 6 from rfl] at hv3
      subst hv3
      have HO3 := Lib.hid hO4
      clear hO3 hg3 hK3 hown hO4 HBz HOz HKz z0 z1 z2 z3 z4 z5 z6 z7 hlz
      rename Hid (Blk w3 _ _ _) => HBz
      rename Hid (Own w3 _ _ _ _) => HOz
      rename Hid (Kp _ w w3) => HKz
      obtain ⟨az, haz⟩ : ∃ az, az = a3 := ⟨_, rfl⟩
      obtain ⟨cz, hcz⟩ : ∃ cz, cz = c3 := ⟨_, rfl⟩
      obtain ⟨wz, hwz⟩ : ∃ wz, wz = w3 := ⟨_, rfl⟩
      subst haz hcz hwz
      obtain ⟨z0, z1, z2, z3, z4, z5, z6, z7⟩ := HBz.out.cells8
      have hlz := HBz.out.lt
      go_wp2_with (at_builtin; refine wpList_append1 rfl _ _ 42 3 rfl Tryd.underlying42 wintInfo rfl (HOz.out.alloc _) rfl ⟨wz.heap.size, 0, none⟩ (.int .i64 x6) rfl ?c1 rfl ?c2 ?c3 ?c4 ?_)
      case c1 => simp
      case c2 => simp
      case c3 => simp [maxLen]
      case c4 => have := HKz.out.size; have := HBz.out.lt; simp; omega
      intro v3 w3 hO3 hg3
      have hK3 : Kp (fun j => (Value.slice az 6 cz).ownBlock = some j) wz w3 := ((Kp.refl _ wz).alloc _).grown hg3 (fun j hj _ => hj)
      have hown := fun j (h : (Value.slice az 6 cz).ownBlock = some j) => (HOz.out.lt j h).1
      have HB3 := Lib.hid (HBz.out.kp hK3 (fun h => by have := hown _ h; omega))
      have HK3 := Lib.hid (HKz.out.trans hK3 (fun j hj h => by have := hown j h; omega))
      have hO4 : Own w3 (w.heap.size + 1) 3 v3 [Value.int .i64 x0, Value.int .i64 x1, Value.int .i64 x2, Value.int .i64 x3, Value.int .i64 x4, Value.int .i64 x5, Value.int .i64 x6] := hO3
      obtain ⟨a3, c3, hv3, _, _, _, _⟩ := hO4.form
      rw [show ([Value.int .i64 x0, Value.int .i64 x1, Value.int .i64 x2, Value.int .i64 x3, Value.int .i64 x4, Value.int .i64 x5, Value.int .i64 x6]).length = 7 from rfl] at hv3
      subst hv3
      have HO3 := Lib.hid hO4
      clear hO3 hg3 hK3 hown hO4 HBz HOz HKz z0 z1 z2 z3 z4 z5 z6 z7 hlz
      rename Hid (Blk w3 _ _ _) => HBz
      rename Hid (Own w3 _ _ _ _) => HOz
      rename Hid (Kp _ w w3) => HKz
      obtain ⟨az, haz⟩ : ∃ az, az = a3 := ⟨_, rfl⟩
      obtain ⟨cz, hcz⟩ : ∃ cz, cz = c3 := ⟨_, rfl⟩
      obtain ⟨wz, hwz⟩ : ∃ wz, wz = w3 := ⟨_, rfl⟩
      subst haz hcz hwz
      obtain ⟨z0, z1, z2, z3, z4, z5, z6, z7⟩ := HBz.out.cells8
      have hlz := HBz.out.lt
      have HRow := Lib.hid (ascii_row az cz [x0, x1, x2, x3, x4, x5, x6] 7 wz (by obtain ⟨_, _, hv, _, _, _, hr⟩ := HOz.out.form; cases hv; exact hr) rfl (by decide) (fun x hx => HOk.out x (by simp at hx ⊢; omega)) (HT.out.kp HKz.out))
      have hcl := jrow_small (l := [x0, x1, x2, x3, x4, x5, x6]) (fun x hx => HOk.out x (by simp at hx ⊢; omega)) (by simp)
      obtain ⟨R, hR⟩ : ∃ R, jrow [x0, x1, x2, x3, x4, x5, x6] ++ [10] = R := ⟨_, rfl⟩
      rw [hR] at HRow hcl
      have HR := Lib.hid hR
      clear hR
      have hcat : ¬ 9223372036854775807 < 4 + R.length := by omega
      clear hcl
      cases b with
      | true =>
        go_wp2_with fail
        refine (HRow.out).mono ?_
        rintro e w4 ⟨rfl, hK4⟩
        have HE := Lib.hid (HR.out ▸ head_cat_true HW.out)
        have HK4 := Lib.hid (HKz.out.trans hK4 (fun _ _ h => h))
        clear hK4
        go_wp2_with fail
        go_ret
        exact ⟨congrArg (fun x => Ending.returned (Value.string x)) HE.out, HK4.out⟩
      | false =>
        go_wp2_with fail
        refine (HRow.out).mono ?_
        rintro e w4 ⟨rfl, hK4⟩
        have HE := Lib.hid (HR.out ▸ head_cat_false HW.out)
        have HK4 := Lib.hid (HKz.out.trans hK4 (fun _ _ h => h))
        clear hK4
        go_wp2_with fail
        go_ret
        exact ⟨congrArg (fun x => Ending.returned (Value.string x)) HE.out, HK4.out⟩
  · by_cases e6 : x6 = 0
    · have n5 : (x5 != 0) = true := by simpa using e5
      have n6 : (x6 != 0) = false := by simpa using e6
      have HW : Hid (wrow [x0, x1, x2, x3, x4, x5, x6] = [x0, x1, x2, x3, x4, x5]) := Lib.hid (by simp [wrow, gi, e5, e6])
      clear e5 e6
      go_enter Tryd.func6, Tryd.ntmps6
      go_upto_region 2 with fail
      rw [show (w.alloc (.cells #[.bool b, .int .i64 x0, .int .i64 x1, .int .i64 x2, .int .i64 x3, .int .i64 x4, .int .i64 x5, .int .i64 x6] 23)).alloc (.cells #[.int .i64 x0, .int .i64 x1, .int .i64 x2, .int .i64 x3, .int .i64 x4] 3) = wz from HFirst.out.1.symm]
      rw [show Value.slice (some ⟨w.heap.size + 1, 0, none⟩) 5 5 = .slice az 5 cz from by rw [HFirst.out.2.1, HFirst.out.2.2]]
      clear HFirst
      obtain ⟨z0, z1, z2, z3, z4, z5, z6, z7⟩ := HBz.out.cells8
      have hlz := HBz.out.lt
      go_wp2_with (at_builtin; refine wpList_append1 rfl _ _ 42 3 rfl Tryd.underlying42 wintInfo rfl (HOz.out.alloc _) rfl ⟨wz.heap.size, 0, none⟩ (.int .i64 x5) rfl ?c1 rfl ?c2 ?c3 ?c4 ?_)
      case c1 => simp
      case c2 => simp
      case c3 => simp [maxLen]
      case c4 => have := HKz.out.size; have := HBz.out.lt; simp; omega
      intro v3 w3 hO3 hg3
      have hK3 : Kp (fun j => (Value.slice az 5 cz).ownBlock = some j) wz w3 := ((Kp.refl _ wz).alloc _).grown hg3 (fun j hj _ => hj)
      have hown := fun j (h : (Value.slice az 5 cz).ownBlock = some j) => (HOz.out.lt j h).1
      have HB3 := Lib.hid (HBz.out.kp hK3 (fun h => by have := hown _ h; omega))
      have HK3 := Lib.hid (HKz.out.trans hK3 (fun j hj h => by have := hown j h; omega))
      have hO4 : Own w3 (w.heap.size + 1) 3 v3 [Value.int .i64 x0, Value.int .i64 x1, Value.int .i64 x2, Value.int .i64 x3, Value.int .i64 x4, Value.int .i64 x5] := hO3
      obtain ⟨a3, c3, hv3, _, _, _, _⟩ := hO4.form
      rw [show ([Value.int .i64 x0, Value.int .i64 x1, Value.int .i64 x2, Value.int .i64 x3, Value.int .i64 x4, Value.int .i64 x5]).length = 6 from rfl] at hv3
      subst hv3
      have HO3 := Lib.hid hO4
      clear hO3 hg3 hK3 hown hO4 HBz HOz HKz z0 z1 z2 z3 z4 z5 z6 z7 hlz
      rename Hid (Blk w3 _ _ _) => HBz
      rename Hid (Own w3 _ _ _ _) => HOz
      rename Hid (Kp _ w w3) => HKz
      obtain ⟨az, haz⟩ : ∃ az, az = a3 := ⟨_, rfl⟩
      obtain ⟨cz, hcz⟩ : ∃ cz, cz = c3 := ⟨_, rfl⟩
      obtain ⟨wz, hwz⟩ : ∃ wz, wz = w3 := ⟨_, rfl⟩
      subst haz hcz hwz
      obtain ⟨z0, z1, z2, z3, z4, z5, z6, z7⟩ := HBz.out.cells8
      have hlz := HBz.out.lt
      have HRow := Lib.hid (ascii_row az cz [x0, x1, x2, x3, x4, x5] 6 wz (by obtain ⟨_, _, hv, _, _, _, hr⟩ := HOz.out.form; cases hv; exact hr) rfl (by decide) (fun x hx => HOk.out x (by simp at hx ⊢; omega)) (HT.out.kp HKz.out))
      have hcl := jrow_small (l := [x0, x1, x2, x3, x4, x5]) (fun x hx => HOk.out x (by simp at hx ⊢; omega)) (by simp)
      obtain ⟨R, hR⟩ : ∃ R, jrow [x0, x1, x2, x3, x4, x5] ++ [10] = R := ⟨_, rfl⟩
      rw [hR] at HRow hcl
      have HR := Lib.hid hR
      clear hR
      have hcat : ¬ 9223372036854775807 < 4 + R.length := by omega
      clear hcl
      cases b with
      | true =>
        go_wp2_with fail
        refine (HRow.out).mono ?_
        rintro e w4 ⟨rfl, hK4⟩
        have HE := Lib.hid (HR.out ▸ head_cat_true HW.out)
        have HK4 := Lib.hid (HKz.out.trans hK4 (fun _ _ h => h))
        clear hK4
        go_wp2_with fail
        go_ret
        exact ⟨congrArg (fun x => Ending.returned (Value.string x)) HE.out, HK4.out⟩
      | false =>
        go_wp2_with fail
        refine (HRow.out).mono ?_
        rintro e w4 ⟨rfl, hK4⟩
        have HE := Lib.hid (HR.out ▸ head_cat_false HW.out)
        have HK4 := Lib.hid (HKz.out.trans hK4 (fun _ _ h => h))
        clear hK4
        go_wp2_with fail
        go_ret
        exact ⟨congrArg (fun x => Ending.returned (Value.string x)) HE.out, HK4.out⟩
    · have n5 : (x5 != 0) = true := by simpa using e5
      have n6 : (x6 != 0) = true := by simpa using e6
      have HW : Hid (wrow [x0, x1, x2, x3, x4, x5, x6] = [x0, x1, x2, x3, x4, x5, x6]) := Lib.hid (by simp [wrow, gi, e6])
      clear e5 e6
      go_enter Tryd.func6, Tryd.ntmps6
      go_upto_region 2 with fail
      rw [show (w.alloc (.cells #[.bool b, .int .i64 x0, .int .i64 x1, .int .i64 x2, .int .i64 x3, .int .i64 x4, .int .i64 x5, .int .i64 x6] 23)).alloc (.cells #[.int .i64 x0, .int .i64 x1, .int .i64 x2, .int .i64 x3, .int .i64 x4] 3) = wz from HFirst.out.1.symm]
      rw [show Value.slice (some ⟨w.heap.size + 1, 0, none⟩) 5 5 = .slice az 5 cz from by rw [HFirst.out.2.1, HFirst.out.2.2]]
      clear HFirst
      obtain ⟨z0, z1, z2, z3, z4, z5, z6, z7⟩ := HBz.out.cells8
      have hlz := HBz.out.lt
      go_wp2_with (at_builtin; refine wpList_append1 rfl _ _ 42 3 rfl Tryd.underlying42 wintInfo rfl (HOz.out.alloc _) rfl ⟨wz.heap.size, 0, none⟩ (.int .i64 x5) rfl ?c1 rfl ?c2 ?c3 ?c4 ?_)
      case c1 => simp
      case c2 => simp
      case c3 => simp [maxLen]
      case c4 => have := HKz.out.size; have := HBz.out.lt; simp; omega
      intro v3 w3 hO3 hg3
      have hK3 : Kp (fun j => (Value.slice az 5 cz).ownBlock = some j) wz w3 := ((Kp.refl _ wz).alloc _).grown hg3 (fun j hj _ => hj)
      have hown := fun j (h : (Value.slice az 5 cz).ownBlock = some j) => (HOz.out.lt j h).1
      have HB3 := Lib.hid (HBz.out.kp hK3 (fun h => by have := hown _ h; omega))
      have HK3 := Lib.hid (HKz.out.trans hK3 (fun j hj h => by have := hown j h; omega))
      have hO4 : Own w3 (w.heap.size + 1) 3 v3 [Value.int .i64 x0, Value.int .i64 x1, Value.int .i64 x2, Value.int .i64 x3, Value.int .i64 x4, Value.int .i64 x5] := hO3
      obtain ⟨a3, c3, hv3, _, _, _, _⟩ := hO4.form
      rw [show ([Value.int .i64 x0, Value.int .i64 x1, Value.int .i64 x2, Value.int .i64 x3, Value.int .i64 x4, Value.int .i64 x5]).length = 6 from rfl] at hv3
      subst hv3
      have HO3 := Lib.hid hO4
      clear hO3 hg3 hK3 hown hO4 HBz HOz HKz z0 z1 z2 z3 z4 z5 z6 z7 hlz
      rename Hid (Blk w3 _ _ _) => HBz
      rename Hid (Own w3 _ _ _ _) => HOz
      rename Hid (Kp _ w w3) => HKz
      obtain ⟨az, haz⟩ : ∃ az, az = a3 := ⟨_, rfl⟩
      obtain ⟨cz, hcz⟩ : ∃ cz, cz = c3 := ⟨_, rfl⟩
      obtain ⟨wz, hwz⟩ : ∃ wz, wz = w3 := ⟨_, rfl⟩
      subst haz hcz hwz
      obtain ⟨z0, z1, z2, z3, z4, z5, z6, z7⟩ := HBz.out.cells8
      have hlz := HBz.out.lt
      go_wp2_with (at_builtin; refine wpList_append1 rfl _ _ 42 3 rfl Tryd.underlying42 wintInfo rfl (HOz.out.alloc _) rfl ⟨wz.heap.size, 0, none⟩ (.int .i64 x6) rfl ?c1 rfl ?c2 ?c3 ?c4 ?_)
      case c1 => simp
      case c2 => simp
      case c3 => simp [maxLen]
      case c4 => have := HKz.out.size; have := HBz.out.lt; simp; omega
      intro v3 w3 hO3 hg3
      have hK3 : Kp (fun j => (Value.slice az 6 cz).ownBlock = some j) wz w3 := ((Kp.refl _ wz).alloc _).grown hg3 (fun j hj _ => hj)
      have hown := fun j (h : (Value.slice az 6 cz).ownBlock = some j) => (HOz.out.lt j h).1
      have HB3 := Lib.hid (HBz.out.kp hK3 (fun h => by have := hown _ h; omega))
      have HK3 := Lib.hid (HKz.out.trans hK3 (fun j hj h => by have := hown j h; omega))
      have hO4 : Own w3 (w.heap.size + 1) 3 v3 [Value.int .i64 x0, Value.int .i64 x1, Value.int .i64 x2, Value.int .i64 x3, Value.int .i64 x4, Value.int .i64 x5, Value.int .i64 x6] := hO3
      obtain ⟨a3, c3, hv3, _, _, _, _⟩ := hO4.form
      rw [show ([Value.int .i64 x0, Value.int .i64 x1, Value.int .i64 x2, Value.int .i64 x3, Value.int .i64 x4, Value.int .i64 x5, Value.int .i64 x6]).length = 7 from rfl] at hv3
      subst hv3
      have HO3 := Lib.hid hO4
      clear hO3 hg3 hK3 hown hO4 HBz HOz HKz z0 z1 z2 z3 z4 z5 z6 z7 hlz
      rename Hid (Blk w3 _ _ _) => HBz
      rename Hid (Own w3 _ _ _ _) => HOz
      rename Hid (Kp _ w w3) => HKz
      obtain ⟨az, haz⟩ : ∃ az, az = a3 := ⟨_, rfl⟩
      obtain ⟨cz, hcz⟩ : ∃ cz, cz = c3 := ⟨_, rfl⟩
      obtain ⟨wz, hwz⟩ : ∃ wz, wz = w3 := ⟨_, rfl⟩
      subst haz hcz hwz
      obtain ⟨z0, z1, z2, z3, z4, z5, z6, z7⟩ := HBz.out.cells8
      have hlz := HBz.out.lt
      have HRow := Lib.hid (ascii_row az cz [x0, x1, x2, x3, x4, x5, x6] 7 wz (by obtain ⟨_, _, hv, _, _, _, hr⟩ := HOz.out.form; cases hv; exact hr) rfl (by decide) (fun x hx => HOk.out x (by simp at hx ⊢; omega)) (HT.out.kp HKz.out))
      have hcl := jrow_small (l := [x0, x1, x2, x3, x4, x5, x6]) (fun x hx => HOk.out x (by simp at hx ⊢; omega)) (by simp)
      obtain ⟨R, hR⟩ : ∃ R, jrow [x0, x1, x2, x3, x4, x5, x6] ++ [10] = R := ⟨_, rfl⟩
      rw [hR] at HRow hcl
      have HR := Lib.hid hR
      clear hR
      have hcat : ¬ 9223372036854775807 < 4 + R.length := by omega
      clear hcl
      cases b with
      | true =>
        go_wp2_with fail
        refine (HRow.out).mono ?_
        rintro e w4 ⟨rfl, hK4⟩
        have HE := Lib.hid (HR.out ▸ head_cat_true HW.out)
        have HK4 := Lib.hid (HKz.out.trans hK4 (fun _ _ h => h))
        clear hK4
        go_wp2_with fail
        go_ret
        exact ⟨congrArg (fun x => Ending.returned (Value.string x)) HE.out, HK4.out⟩
      | false =>
        go_wp2_with fail
        refine (HRow.out).mono ?_
        rintro e w4 ⟨rfl, hK4⟩
        have HE := Lib.hid (HR.out ▸ head_cat_false HW.out)
        have HK4 := Lib.hid (HKz.out.trans hK4 (fun _ _ h => h))
        clear hK4
        go_wp2_with fail
        go_ret
        exact ⟨congrArg (fun x => Ending.returned (Value.string x)) HE.out, HK4.out⟩

end Go.Proofs.YtjeaggfjjdfacaaDoor

/-
  A head's line, as the reference writes it. (Printed by mkarefw.py.)
-/
namespace Go.Proofs.YtjeaggfjjdfacaaDoor
open Go.RowKit

set_option maxRecDepth 100000 in
set_option maxHeartbeats 4000000 in
theorem ref_WriteHead (b : Bool) (x0 x1 x2 x3 x4 x5 x6 : Int) (w : World) (hok : ∀ x ∈ [x0, x1, x2, x3, x4, x5, x6], okI x) :
    Calls Tryd.prog 7 #[.agg #[.bool b, .int .i64 x0, .int .i64 x1, .int .i64 x2, .int .i64 x3, .int .i64 x4, .int .i64 x5, .int .i64 x6]] w fun e w' => e = .returned (.string ⟨(headW b [x0, x1, x2, x3, x4, x5, x6]).toArray⟩) ∧ Kp (fun _ => False) w w' := by
  have HOk := Lib.hid hok
  clear hok
  obtain ⟨wz, hwz⟩ : ∃ wz : World, wz = (w.alloc (.cells #[.bool b, .int .i64 x0, .int .i64 x1, .int .i64 x2, .int .i64 x3, .int .i64 x4, .int .i64 x5, .int .i64 x6] 23)).alloc (.cells #[.int .i64 x0, .int .i64 x1, .int .i64 x2, .int .i64 x3, .int .i64 x4, .int .i64 x5, .int .i64 x6] 3) := ⟨_, rfl⟩
  have HBz : Hid (Blk wz w.heap.size #[.bool b, .int .i64 x0, .int .i64 x1, .int .i64 x2, .int .i64 x3, .int .i64 x4, .int .i64 x5, .int .i64 x6] 23) := Lib.hid (by rw [hwz]; exact (Blk.new w _ _).alloc _)
  have HKz : Hid (Kp (fun _ => False) w wz) := Lib.hid (by rw [hwz]; exact ((Kp.refl _ w).alloc _).alloc _)
  have HLz : Hid (Blk wz (w.heap.size + 1) #[.int .i64 x0, .int .i64 x1, .int .i64 x2, .int .i64 x3, .int .i64 x4, .int .i64 x5, .int .i64 x6] 3) := Lib.hid (by
    rw [hwz]
    have := Blk.new (w.alloc (.cells #[.bool b, .int .i64 x0, .int .i64 x1, .int .i64 x2, .int .i64 x3, .int .i64 x4, .int .i64 x5, .int .i64 x6] 23)) #[.int .i64 x0, .int .i64 x1, .int .i64 x2, .int .i64 x3, .int .i64 x4, .int .i64 x5, .int .i64 x6] 3
    rwa [World.size_alloc] at this)
  have HFirst := Lib.hid hwz
  clear hwz
  have c5 : wz.cell? ⟨w.heap.size + 1, 5, none⟩ = some (.int .i64 x5) := HLz.out.cell rfl
  have c6 : wz.cell? ⟨w.heap.size + 1, 6, none⟩ = some (.int .i64 x6) := HLz.out.cell rfl
  have z0 : wz.cell? ⟨w.heap.size, 0, none⟩ = some (.bool b) := HBz.out.cell rfl
  have hlz := HBz.out.lt
  by_cases e6 : x6 = 0
  · by_cases e5 : x5 = 0
    · have n6 : (x6 == 0) = true := by simpa using e6
      have n5 : (x5 == 0) = true := by simpa using e5
      have HW : Hid (wrow [x0, x1, x2, x3, x4, x5, x6] = [x0, x1, x2, x3, x4]) := Lib.hid (by simp [wrow, gi, e5, e6])
      clear e6 e5
      have HRow := Lib.hid (ref_row (some ⟨w.heap.size + 1, 0, none⟩) 7 [x0, x1, x2, x3, x4] 5 wz (HLz.out.rowAt (n := 5) rfl) rfl (by decide) (fun x hx => HOk.out x (by simp at hx ⊢; omega)))
      have hcl := jrow_small (l := [x0, x1, x2, x3, x4]) (fun x hx => HOk.out x (by simp at hx ⊢; omega)) (by simp)
      obtain ⟨R, hR⟩ : ∃ R, jrow [x0, x1, x2, x3, x4] ++ [10] = R := ⟨_, rfl⟩
      rw [hR] at HRow hcl
      have HR := Lib.hid hR
      clear hR
      have hcat : ¬ 9223372036854775807 < 4 + R.length := by omega
      clear hcl
      go_enter Tryd.func7, Tryd.ntmps7
      go_upto_region 2 with fail
      rw [show (w.alloc (.cells #[.bool b, .int .i64 x0, .int .i64 x1, .int .i64 x2, .int .i64 x3, .int .i64 x4, .int .i64 x5, .int .i64 x6] 23)).alloc (.cells #[.int .i64 x0, .int .i64 x1, .int .i64 x2, .int .i64 x3, .int .i64 x4, .int .i64 x5, .int .i64 x6] 3) = wz from HFirst.out.symm]
      clear HFirst
      go_wp2_with fail
      go_loopw [4] (fun v4 wr => wr = wz ∧ ∃ k : Nat, v4 = .int .i64 k ∧ 5 ≤ k ∧ k ≤ 7) (fun v4 _ => (intOf v4).toNat)
      case atStart => exact ⟨rfl, 7, rfl, by omega, by omega⟩
      case round =>
        obtain ⟨rfl, k, rfl, hk1, hk2⟩ := hrel
        rcases (show k = 7 ∨ k = 6 ∨ k = 5 by omega) with rfl | rfl | rfl
        · clear hk1 hk2
          go_wp2_with fail
          go_roundw
          case rel => first | exact ⟨rfl, 6, by rfl, by omega, by omega⟩ | exact ⟨trivial, 6, by rfl, by omega, by omega⟩
          case measure => simp [intOf]
        · clear hk1 hk2
          go_wp2_with fail
          go_roundw
          case rel => first | exact ⟨rfl, 5, by rfl, by omega, by omega⟩ | exact ⟨trivial, 5, by rfl, by omega, by omega⟩
          case measure => simp [intOf]
        · clear hk1 hk2
          cases b with
          | true =>
            go_wp2_with fail
            refine (HRow.out).mono ?_
            rintro e w4 ⟨rfl, hK4⟩
            have HE := Lib.hid (HR.out ▸ head_cat_true HW.out)
            have HK4 := Lib.hid (HKz.out.trans hK4 (fun _ _ h => h))
            clear hK4
            go_wp2_with fail
            go_ret
            exact ⟨congrArg (fun x => Ending.returned (Value.string x)) HE.out, HK4.out⟩
          | false =>
            go_wp2_with fail
            refine (HRow.out).mono ?_
            rintro e w4 ⟨rfl, hK4⟩
            have HE := Lib.hid (HR.out ▸ head_cat_false HW.out)
            have HK4 := Lib.hid (HKz.out.trans hK4 (fun _ _ h => h))
            clear hK4
            go_wp2_with fail
            go_ret
            exact ⟨congrArg (fun x => Ending.returned (Value.string x)) HE.out, HK4.out⟩
    · have n6 : (x6 == 0) = true := by simpa using e6
      have n5 : (x5 == 0) = false := by simpa using e5
      have HW : Hid (wrow [x0, x1, x2, x3, x4, x5, x6] = [x0, x1, x2, x3, x4, x5]) := Lib.hid (by simp [wrow, gi, e5, e6])
      clear e6 e5
      have HRow := Lib.hid (ref_row (some ⟨w.heap.size + 1, 0, none⟩) 7 [x0, x1, x2, x3, x4, x5] 6 wz (HLz.out.rowAt (n := 6) rfl) rfl (by decide) (fun x hx => HOk.out x (by simp at hx ⊢; omega)))
      have hcl := jrow_small (l := [x0, x1, x2, x3, x4, x5]) (fun x hx => HOk.out x (by simp at hx ⊢; omega)) (by simp)
      obtain ⟨R, hR⟩ : ∃ R, jrow [x0, x1, x2, x3, x4, x5] ++ [10] = R := ⟨_, rfl⟩
      rw [hR] at HRow hcl
      have HR := Lib.hid hR
      clear hR
      have hcat : ¬ 9223372036854775807 < 4 + R.length := by omega
      clear hcl
      go_enter Tryd.func7, Tryd.ntmps7
      go_upto_region 2 with fail
      rw [show (w.alloc (.cells #[.bool b, .int .i64 x0, .int .i64 x1, .int .i64 x2, .int .i64 x3, .int .i64 x4, .int .i64 x5, .int .i64 x6] 23)).alloc (.cells #[.int .i64 x0, .int .i64 x1, .int .i64 x2, .int .i64 x3, .int .i64 x4, .int .i64 x5, .int .i64 x6] 3) = wz from HFirst.out.symm]
      clear HFirst
      go_wp2_with fail
      go_loopw [4] (fun v4 wr => wr = wz ∧ ∃ k : Nat, v4 = .int .i64 k ∧ 6 ≤ k ∧ k ≤ 7) (fun v4 _ => (intOf v4).toNat)
      case atStart => exact ⟨rfl, 7, rfl, by omega, by omega⟩
      case round =>
        obtain ⟨rfl, k, rfl, hk1, hk2⟩ := hrel
        rcases (show k = 7 ∨ k = 6 by omega) with rfl | rfl
        · clear hk1 hk2
          go_wp2_with fail
          go_roundw
          case rel => first | exact ⟨rfl, 6, by rfl, by omega, by omega⟩ | exact ⟨trivial, 6, by rfl, by omega, by omega⟩
          case measure => simp [intOf]
        · clear hk1 hk2
          cases b with
          | true =>
            go_wp2_with fail
            refine (HRow.out).mono ?_
            rintro e w4 ⟨rfl, hK4⟩
            have HE := Lib.hid (HR.out ▸ head_cat_true HW.out)
            have HK4 := Lib.hid (HKz.out.trans hK4 (fun _ _ h => h))
            clear hK4
            go_wp2_with fail
            go_ret
            exact ⟨congrArg (fun x => Ending.returned (Value.string x)) HE.out, HK4.out⟩
          | false =>
            go_wp2_with fail
            refine (HRow.out).mono ?_
            rintro e w4 ⟨rfl, hK4⟩
            have HE := Lib.hid (HR.out ▸ head_cat_false HW.out)
            have HK4 := Lib.hid (HKz.out.trans hK4 (fun _ _ h => h))
            clear hK4
            go_wp2_with fail
            go_ret
            exact ⟨congrArg (fun x => Ending.returned (Value.string x)) HE.out, HK4.out⟩
  · have n6 : (x6 == 0) = false := by simpa using e6
    have HW : Hid (wrow [x0, x1, x2, x3, x4, x5, x6] = [x0, x1, x2, x3, x4, x5, x6]) := Lib.hid (by simp [wrow, gi, e6])
    clear e6
    have HRow := Lib.hid (ref_row (some ⟨w.heap.size + 1, 0, none⟩) 7 [x0, x1, x2, x3, x4, x5, x6] 7 wz (HLz.out.rowAt (n := 7) rfl) rfl (by decide) (fun x hx => HOk.out x (by simp at hx ⊢; omega)))
    have hcl := jrow_small (l := [x0, x1, x2, x3, x4, x5, x6]) (fun x hx => HOk.out x (by simp at hx ⊢; omega)) (by simp)
    obtain ⟨R, hR⟩ : ∃ R, jrow [x0, x1, x2, x3, x4, x5, x6] ++ [10] = R := ⟨_, rfl⟩
    rw [hR] at HRow hcl
    have HR := Lib.hid hR
    clear hR
    have hcat : ¬ 9223372036854775807 < 4 + R.length := by omega
    clear hcl
    go_enter Tryd.func7, Tryd.ntmps7
    go_upto_region 2 with fail
    rw [show (w.alloc (.cells #[.bool b, .int .i64 x0, .int .i64 x1, .int .i64 x2, .int .i64 x3, .int .i64 x4, .int .i64 x5, .int .i64 x6] 23)).alloc (.cells #[.int .i64 x0, .int .i64 x1, .int .i64 x2, .int .i64 x3, .int .i64 x4, .int .i64 x5, .int .i64 x6] 3) = wz from HFirst.out.symm]
    clear HFirst
    go_wp2_with fail
    go_loopw [4] (fun v4 wr => wr = wz ∧ ∃ k : Nat, v4 = .int .i64 k ∧ 7 ≤ k ∧ k ≤ 7) (fun v4 _ => (intOf v4).toNat)
    case atStart => exact ⟨rfl, 7, rfl, by omega, by omega⟩
    case round =>
      obtain ⟨rfl, k, rfl, hk1, hk2⟩ := hrel
      rcases (show k = 7 by omega) with rfl
      · clear hk1 hk2
        cases b with
        | true =>
          go_wp2_with fail
          refine (HRow.out).mono ?_
          rintro e w4 ⟨rfl, hK4⟩
          have HE := Lib.hid (HR.out ▸ head_cat_true HW.out)
          have HK4 := Lib.hid (HKz.out.trans hK4 (fun _ _ h => h))
          clear hK4
          go_wp2_with fail
          go_ret
          exact ⟨congrArg (fun x => Ending.returned (Value.string x)) HE.out, HK4.out⟩
        | false =>
          go_wp2_with fail
          refine (HRow.out).mono ?_
          rintro e w4 ⟨rfl, hK4⟩
          have HE := Lib.hid (HR.out ▸ head_cat_false HW.out)
          have HK4 := Lib.hid (HKz.out.trans hK4 (fun _ _ h => h))
          clear hK4
          go_wp2_with fail
          go_ret
          exact ⟨congrArg (fun x => Ending.returned (Value.string x)) HE.out, HK4.out⟩

end Go.Proofs.YtjeaggfjjdfacaaDoor

/-
  How a head that came in is opened.
-/
namespace Go.Proofs.YtjeaggfjjdfacaaDoor
open Go.RowKit Go.ChangeShapes Go.WideShapes Go.ChangeAt Go.Joins Go.Deep

theorem ahead_cells : Tryd.prog.cellsOf 23 = 8 := by kernel_rfl
theorem ahead_cells1 : Tryd.prog.cellsOf 4 = 1 := by kernel_rfl
theorem ahead_cells2 : Tryd.prog.cellsOf 3 = 1 := by kernel_rfl

theorem okI_wf {x : Int} (h : (Lit.int .i64 x).wf = true) : okI x := by
  simp [Lit.wf, IntKind.min, IntKind.max, IntKind.signed, IntKind.bits] at h
  exact ⟨by omega, by omega⟩

/-- a head that came in -/
def HdrArg (_ : World) (v : Value) : Prop := ∃ (b : Bool) (x0 x1 x2 x3 x4 x5 x6 : Int), v = .agg #[.bool b, .int .i64 x0, .int .i64 x1, .int .i64 x2, .int .i64 x3, .int .i64 x4, .int .i64 x5, .int .i64 x6] ∧ ∀ x ∈ [x0, x1, x2, x3, x4, x5, x6], okI x

set_option maxRecDepth 100000 in
theorem open_hdrArg {H : Type} {enc : TypeId × Value → H} {W : World} {base : Nat} {v : Value} {d : DataW H} {ps : List MemPlace}
    (hv : Value.okWide Tryd.prog W .any base 23 v) (h : DataW.Trod enc Tryd.prog W 0 (fun _ => true) true 23 v d ps) : HdrArg W v := by
  obtain ⟨cs, rfl, hsz⟩ := okWide_struct Tryd.underlying23 hv
  obtain ⟨l⟩ := cs
  match l, hsz.trans ahead_cells with
  | [c0, c1, c2, c3, c4, c5, c6, c7], _ =>
    obtain ⟨fuel, hf⟩ := h
    obtain ⟨xs, n, _, _, _, hlen, hg⟩ := DataW.trod_struct Tryd.underlying23 hf
    have g0 : DataW.trod enc Tryd.prog W 0 (fun _ => true) true n 4 [c0] = xs[0]? := by simpa [Value.cells, ahead_cells1, ahead_cells2] using hg 0 _ rfl
    have g1 : DataW.trod enc Tryd.prog W 0 (fun _ => true) true n 3 [c1] = xs[1]? := by simpa [Value.cells, ahead_cells1, ahead_cells2] using hg 1 _ rfl
    have g2 : DataW.trod enc Tryd.prog W 0 (fun _ => true) true n 3 [c2] = xs[2]? := by simpa [Value.cells, ahead_cells1, ahead_cells2] using hg 2 _ rfl
    have g3 : DataW.trod enc Tryd.prog W 0 (fun _ => true) true n 3 [c3] = xs[3]? := by simpa [Value.cells, ahead_cells1, ahead_cells2] using hg 3 _ rfl
    have g4 : DataW.trod enc Tryd.prog W 0 (fun _ => true) true n 3 [c4] = xs[4]? := by simpa [Value.cells, ahead_cells1, ahead_cells2] using hg 4 _ rfl
    have g5 : DataW.trod enc Tryd.prog W 0 (fun _ => true) true n 3 [c5] = xs[5]? := by simpa [Value.cells, ahead_cells1, ahead_cells2] using hg 5 _ rfl
    have g6 : DataW.trod enc Tryd.prog W 0 (fun _ => true) true n 3 [c6] = xs[6]? := by simpa [Value.cells, ahead_cells1, ahead_cells2] using hg 6 _ rfl
    have g7 : DataW.trod enc Tryd.prog W 0 (fun _ => true) true n 3 [c7] = xs[7]? := by simpa [Value.cells, ahead_cells1, ahead_cells2] using hg 7 _ rfl
    match xs, hlen with
    | [y0, y1, y2, y3, y4, y5, y6, y7], _ =>
      obtain ⟨x0, e0, _⟩ := DataW.trod_bool Tryd.underlying4 g0
      obtain ⟨x1, e1, _, w1⟩ := DataW.trod_int Tryd.underlying3 g1
      obtain ⟨x2, e2, _, w2⟩ := DataW.trod_int Tryd.underlying3 g2
      obtain ⟨x3, e3, _, w3⟩ := DataW.trod_int Tryd.underlying3 g3
      obtain ⟨x4, e4, _, w4⟩ := DataW.trod_int Tryd.underlying3 g4
      obtain ⟨x5, e5, _, w5⟩ := DataW.trod_int Tryd.underlying3 g5
      obtain ⟨x6, e6, _, w6⟩ := DataW.trod_int Tryd.underlying3 g6
      obtain ⟨x7, e7, _, w7⟩ := DataW.trod_int Tryd.underlying3 g7
      simp only [List.cons.injEq, and_true] at e0 e1 e2 e3 e4 e5 e6 e7
      subst e0 e1 e2 e3 e4 e5 e6 e7
      refine ⟨x0, x1, x2, x3, x4, x5, x6, x7, rfl, fun x hx => ?_⟩
      simp only [List.mem_cons, List.not_mem_nil, or_false] at hx
      rcases hx with rfl | rfl | rfl | rfl | rfl | rfl | rfl
      · exact okI_wf w1
      · exact okI_wf w2
      · exact okI_wf w3
      · exact okI_wf w4
      · exact okI_wf w5
      · exact okI_wf w6
      · exact okI_wf w7

end Go.Proofs.YtjeaggfjjdfacaaDoor

/-
  latchetlaw13.AsciiHeads: the walk of the law.
-/
namespace Go.Proofs.YtjeaggfjjdfacaaDoor
open Go.RowKit

/-- what both readers answer of a text -/
theorem read_both (t : ByteArray) (ht : t.size ≤ 300) : ∃ (hb : Bool) (y0 y1 y2 y3 y4 y5 y6 p e : Int),
    (∀ u : World, Calls Tryd.prog 4 #[.string t] u fun o w' => o = .returned (.tuple #[.agg #[.bool hb, .int .i64 y0, .int .i64 y1, .int .i64 y2, .int .i64 y3, .int .i64 y4, .int .i64 y5, .int .i64 y6], .int .i64 p, .int .i64 e]) ∧ Kp (fun _ => False) u w') ∧
    (∀ u : World, Calls Tryd.prog 5 #[.string t] u fun o w' => o = .returned (.tuple #[.agg #[.bool hb, .int .i64 y0, .int .i64 y1, .int .i64 y2, .int .i64 y3, .int .i64 y4, .int .i64 y5, .int .i64 y6], .int .i64 p, .int .i64 e]) ∧ Kp (fun _ => False) u w') := by
  refine ⟨(headT t).1, (nth (headT t).2.1 0 : Nat), (nth (headT t).2.1 1 : Nat), (nth (headT t).2.1 2 : Nat), (nth (headT t).2.1 3 : Nat), (nth (headT t).2.1 4 : Nat), (nth (headT t).2.1 5 : Nat), (nth (headT t).2.1 6 : Nat), ((headT t).2.2.1 : Nat), ((headT t).2.2.2 : Nat), fun u => ?_, fun u => ?_⟩
  · exact ascii_ReadHead rdK t u (by omega)
  · by_cases h : isHead t
    · exact ref_ReadHead_yes t u h (by omega)
    · exact ref_ReadHead_no t u h

/-- what is read of a written head -/
theorem read_back (b : Bool) (x0 x1 x2 x3 x4 x5 x6 : Int) (hok : ∀ x ∈ [x0, x1, x2, x3, x4, x5, x6], okI x) : ∃ (hb : Bool) (z0 z1 z2 z3 z4 z5 z6 p e : Int),
    (∀ u : World, Calls Tryd.prog 4 #[.string ⟨(headW b [x0, x1, x2, x3, x4, x5, x6]).toArray⟩] u fun o w' => o = .returned (.tuple #[.agg #[.bool hb, .int .i64 z0, .int .i64 z1, .int .i64 z2, .int .i64 z3, .int .i64 z4, .int .i64 z5, .int .i64 z6], .int .i64 p, .int .i64 e]) ∧ Kp (fun _ => False) u w') ∧
    (e = 0 → (hb = b ∧ z0 = x0 ∧ z1 = x1 ∧ z2 = x2 ∧ z3 = x3 ∧ z4 = x4 ∧ z5 = x5 ∧ z6 = x6)) := by
  obtain ⟨T, hT⟩ : ∃ T : ByteArray, T = ⟨(headW b [x0, x1, x2, x3, x4, x5, x6]).toArray⟩ := ⟨_, rfl⟩
  have hd : T.data.toList = headW b [x0, x1, x2, x3, x4, x5, x6] := by rw [hT]
  have hz : T.size ≤ 300 := by
    rw [Lib.size_eq, hd, headW_eq (rfl : wrow [x0, x1, x2, x3, x4, x5, x6] = wrow [x0, x1, x2, x3, x4, x5, x6])]
    have hw := wrow_length (h := [x0, x1, x2, x3, x4, x5, x6]) rfl
    have := jrow_small (l := wrow [x0, x1, x2, x3, x4, x5, x6]) (fun x hx => hok x (by unfold wrow at hx; split at hx; exact List.mem_of_mem_take hx; split at hx; exact List.mem_of_mem_take hx; exact List.mem_of_mem_take hx)) hw.2
    rw [List.length_append]
    split <;> simp at this ⊢ <;> omega
  rw [← hT]
  refine ⟨(headT T).1, (nth (headT T).2.1 0 : Nat), (nth (headT T).2.1 1 : Nat), (nth (headT T).2.1 2 : Nat), (nth (headT T).2.1 3 : Nat), (nth (headT T).2.1 4 : Nat), (nth (headT T).2.1 5 : Nat), (nth (headT T).2.1 6 : Nat), ((headT T).2.2.1 : Nat), ((headT T).2.2.2 : Nat), fun u => ascii_ReadHead rdK T u (by omega), fun he => ?_⟩
  obtain ⟨h1, h2⟩ := headT_back (h := [x0, x1, x2, x3, x4, x5, x6]) rfl hd (by omega)
  exact ⟨h1, h2 0, h2 1, h2 2, h2 3, h2 4, h2 5, h2 6⟩

set_option maxRecDepth 100000 in
set_option maxHeartbeats 8000000 in
theorem asciiHeads_in (b : Bool) (x0 x1 x2 x3 x4 x5 x6 : Int) (s t : ByteArray) (w : World) (hok : ∀ x ∈ [x0, x1, x2, x3, x4, x5, x6], okI x) (ht : Tab w) (h : s.size ≤ 300 ∧ t = s ∨ 300 < s.size ∧ t = s.extract 0 300) :
    Calls Tryd.prog 3 #[.agg #[.bool b, .int .i64 x0, .int .i64 x1, .int .i64 x2, .int .i64 x3, .int .i64 x4, .int .i64 x5, .int .i64 x6], .string s] w fun e w' => e = .returned (.bool true) ∧ Below w.heap.size w w' := by
  have hz : t.size ≤ 300 := by
    rcases h with ⟨h1, rfl⟩ | ⟨h1, rfl⟩
    · exact h1
    · rw [ByteArray.size_extract]; omega
  obtain ⟨hb, y0, y1, y2, y3, y4, y5, y6, p, e, hR, hRr⟩ := read_both t hz
  obtain ⟨cb, z0, z1, z2, z3, z4, z5, z6, cp, ce, hRb, hback⟩ := read_back b x0 x1 x2 x3 x4 x5 x6 hok
  have HR := Lib.hid hR
  have HRr := Lib.hid hRr
  have HRb := Lib.hid hRb
  have HBk := Lib.hid hback
  have HT := Lib.hid ht
  have HWa := Lib.hid (fun (u : World) (hu : Tab u) => ascii_WriteHead b x0 x1 x2 x3 x4 x5 x6 u hok hu)
  have HWr := Lib.hid (fun (u : World) => ref_WriteHead b x0 x1 x2 x3 x4 x5 x6 u hok)
  obtain ⟨T, hT⟩ : ∃ T : ByteArray, (⟨(headW b [x0, x1, x2, x3, x4, x5, x6]).toArray⟩ : ByteArray) = T := ⟨_, rfl⟩
  rw [hT] at HRb HWa HWr
  have hq := fun u => eqHead hb y0 y1 y2 y3 y4 y5 y6 u
  have gS : (T.toList == T.toList) = true := by simp
  clear hR hRr hRb hback ht hok hT
  have HB0 := Lib.hid (Blk.new w #[.bool b, .int .i64 x0, .int .i64 x1, .int .i64 x2, .int .i64 x3, .int .i64 x4, .int .i64 x5, .int .i64 x6] 23)
  rcases h with ⟨h1, rfl⟩ | ⟨h1, hte⟩
  · have d1 : decide ((300 : Int) < (t.size : Int)) = false := by simp; omega
    clear h1 hz
    go_enter Tryd.func3, Tryd.ntmps3
    go_wp2_with fail
    refine (HR.out _).mono ?_
    rintro o w1 ⟨rfl, hK1⟩
    have HK1 := Lib.hid (((Kp.refl (fun _ => False) w).alloc _).trans hK1 (fun _ _ h => h))
    have HB1 := Lib.hid (HB0.out.kp hK1 (fun h => h))
    have HC1 := Lib.hid (Blk.new w1 #[.bool hb, .int .i64 y0, .int .i64 y1, .int .i64 y2, .int .i64 y3, .int .i64 y4, .int .i64 y5, .int .i64 y6] 23)
    clear hK1
    go_wp2_with fail
    refine (HRr.out _).mono ?_
    rintro o w2 ⟨rfl, hK2⟩
    have HK2 := Lib.hid ((HK1.out.alloc _).trans hK2 (fun _ _ h => h))
    have HB2 := Lib.hid ((HB1.out.alloc _).kp hK2 (fun h => h))
    have HC2 := Lib.hid (HC1.out.kp hK2 (fun h => h))
    have HD2 := Lib.hid (Blk.new w2 #[.bool hb, .int .i64 y0, .int .i64 y1, .int .i64 y2, .int .i64 y3, .int .i64 y4, .int .i64 y5, .int .i64 y6] 23)
    clear hK2
    go_upto_region 5 with fail
    have HKv := Lib.hid (HK2.out.alloc (.cells #[.bool hb, .int .i64 y0, .int .i64 y1, .int .i64 y2, .int .i64 y3, .int .i64 y4, .int .i64 y5, .int .i64 y6] 23))
    have HBv := Lib.hid (HB2.out.alloc (.cells #[.bool hb, .int .i64 y0, .int .i64 y1, .int .i64 y2, .int .i64 y3, .int .i64 y4, .int .i64 y5, .int .i64 y6] 23))
    have HCv := Lib.hid (HC2.out.alloc (.cells #[.bool hb, .int .i64 y0, .int .i64 y1, .int .i64 y2, .int .i64 y3, .int .i64 y4, .int .i64 y5, .int .i64 y6] 23))
    obtain ⟨wv, hwv⟩ : ∃ wv : World, w2.alloc (.cells #[.bool hb, .int .i64 y0, .int .i64 y1, .int .i64 y2, .int .i64 y3, .int .i64 y4, .int .i64 y5, .int .i64 y6] 23) = wv := ⟨_, rfl⟩
    rw [hwv] at HKv HBv HCv HD2 ⊢
    clear hwv HB2 HC2 HK2 HB1 HC1 HK1 HB0
    have HS := Lib.hid (show ∀ u : World, Kp (fun _ => False) wv u → ((u.cell? ⟨w1.heap.size, 0, none⟩ = some (.bool hb) ∧ u.cell? ⟨w1.heap.size, 1, none⟩ = some (.int .i64 y0) ∧ u.cell? ⟨w1.heap.size, 2, none⟩ = some (.int .i64 y1) ∧ u.cell? ⟨w1.heap.size, 3, none⟩ = some (.int .i64 y2) ∧ u.cell? ⟨w1.heap.size, 4, none⟩ = some (.int .i64 y3) ∧ u.cell? ⟨w1.heap.size, 5, none⟩ = some (.int .i64 y4) ∧ u.cell? ⟨w1.heap.size, 6, none⟩ = some (.int .i64 y5) ∧ u.cell? ⟨w1.heap.size, 7, none⟩ = some (.int .i64 y6)) ∧ (u.cell? ⟨w2.heap.size, 0, none⟩ = some (.bool hb) ∧ u.cell? ⟨w2.heap.size, 1, none⟩ = some (.int .i64 y0) ∧ u.cell? ⟨w2.heap.size, 2, none⟩ = some (.int .i64 y1) ∧ u.cell? ⟨w2.heap.size, 3, none⟩ = some (.int .i64 y2) ∧ u.cell? ⟨w2.heap.size, 4, none⟩ = some (.int .i64 y3) ∧ u.cell? ⟨w2.heap.size, 5, none⟩ = some (.int .i64 y4) ∧ u.cell? ⟨w2.heap.size, 6, none⟩ = some (.int .i64 y5) ∧ u.cell? ⟨w2.heap.size, 7, none⟩ = some (.int .i64 y6)) ∧ (u.cell? ⟨w.heap.size, 0, none⟩ = some (.bool b) ∧ u.cell? ⟨w.heap.size, 1, none⟩ = some (.int .i64 x0) ∧ u.cell? ⟨w.heap.size, 2, none⟩ = some (.int .i64 x1) ∧ u.cell? ⟨w.heap.size, 3, none⟩ = some (.int .i64 x2) ∧ u.cell? ⟨w.heap.size, 4, none⟩ = some (.int .i64 x3) ∧ u.cell? ⟨w.heap.size, 5, none⟩ = some (.int .i64 x4) ∧ u.cell? ⟨w.heap.size, 6, none⟩ = some (.int .i64 x5) ∧ u.cell? ⟨w.heap.size, 7, none⟩ = some (.int .i64 x6))) from fun u hu => ⟨(HCv.out.kp hu (fun h => h)).cells8, (HD2.out.kp hu (fun h => h)).cells8, (HBv.out.kp hu (fun h => h)).cells8⟩)
    have HTV := Lib.hid (show ∀ u : World, Kp (fun _ => False) wv u → Tab u from fun u hu => (HT.out.kp HKv.out).kp hu)
    have HKr := Lib.hid (Kp.refl (fun _ => False) wv)
    have HKd := Lib.hid (Kp.refl (fun _ => False) wv).drew
    obtain ⟨⟨c0, c1, c2, c3, c4, c5, c6, c7⟩, ⟨d0, d1', d2, d3, d4, d5, d6, d7⟩, ⟨b0, b1, b2, b3, b4, b5, b6, b7⟩⟩ := HS.out _ HKr.out
    go_region_held3 (fun u => (u.cell? ⟨w1.heap.size, 0, none⟩ = some (.bool hb) ∧ u.cell? ⟨w1.heap.size, 1, none⟩ = some (.int .i64 y0) ∧ u.cell? ⟨w1.heap.size, 2, none⟩ = some (.int .i64 y1) ∧ u.cell? ⟨w1.heap.size, 3, none⟩ = some (.int .i64 y2) ∧ u.cell? ⟨w1.heap.size, 4, none⟩ = some (.int .i64 y3) ∧ u.cell? ⟨w1.heap.size, 5, none⟩ = some (.int .i64 y4) ∧ u.cell? ⟨w1.heap.size, 6, none⟩ = some (.int .i64 y5) ∧ u.cell? ⟨w1.heap.size, 7, none⟩ = some (.int .i64 y6)) ∧ (u.cell? ⟨w2.heap.size, 0, none⟩ = some (.bool hb) ∧ u.cell? ⟨w2.heap.size, 1, none⟩ = some (.int .i64 y0) ∧ u.cell? ⟨w2.heap.size, 2, none⟩ = some (.int .i64 y1) ∧ u.cell? ⟨w2.heap.size, 3, none⟩ = some (.int .i64 y2) ∧ u.cell? ⟨w2.heap.size, 4, none⟩ = some (.int .i64 y3) ∧ u.cell? ⟨w2.heap.size, 5, none⟩ = some (.int .i64 y4) ∧ u.cell? ⟨w2.heap.size, 6, none⟩ = some (.int .i64 y5) ∧ u.cell? ⟨w2.heap.size, 7, none⟩ = some (.int .i64 y6)) ∧ (u.cell? ⟨w.heap.size, 0, none⟩ = some (.bool b) ∧ u.cell? ⟨w.heap.size, 1, none⟩ = some (.int .i64 x0) ∧ u.cell? ⟨w.heap.size, 2, none⟩ = some (.int .i64 x1) ∧ u.cell? ⟨w.heap.size, 3, none⟩ = some (.int .i64 x2) ∧ u.cell? ⟨w.heap.size, 4, none⟩ = some (.int .i64 x3) ∧ u.cell? ⟨w.heap.size, 5, none⟩ = some (.int .i64 x4) ∧ u.cell? ⟨w.heap.size, 6, none⟩ = some (.int .i64 x5) ∧ u.cell? ⟨w.heap.size, 7, none⟩ = some (.int .i64 x6))) (with_reducible first | exact HS.out _ HKr.out | exact HS.out _ HKd.out | exact HS.out _ HKb.out | exact HS.out _ HKa.out) ((first
      | ((with_reducible refine Calls.mono (HWa.out _ (HTV.out _ (by with_reducible first | exact HKr.out | exact HKd.out))) ?_)
         rintro o wk ⟨rfl, hKk⟩
         have HKa : Hid (Kp (fun _ => False) wv wk) := Lib.hid (by first | exact HKd.out.trans hKk (fun _ _ h => h) | exact HKr.out.trans hKk (fun _ _ h => h))
         clear hKk)
      | ((with_reducible refine Calls.mono (HWr.out _) ?_)
         rintro o wk2 ⟨rfl, hKk⟩
         have HKb : Hid (Kp (fun _ => False) wv wk2) := Lib.hid (HKa.out.trans hKk (fun _ _ h => h))
         clear hKk)))
    all_goals clear c0 c1 c2 c3 c4 c5 c6 c7 d0 d1' d2 d3 d4 d5 d6 d7 b0 b1 b2 b3 b4 b5 b6 b7
    all_goals obtain ⟨-, -, ⟨b0, b1, b2, b3, b4, b5, b6, b7⟩⟩ := HS.out _ HKb.out
    all_goals go_wp2_with fail
    all_goals refine (HWa.out _ (HTV.out _ HKb.out)).mono ?_
    all_goals rintro o w5 ⟨rfl, hK5⟩
    all_goals have HK5 := Lib.hid (HKb.out.trans hK5 (fun _ _ h => h))
    all_goals clear hK5
    all_goals go_wp2_with fail
    all_goals refine (HRb.out _).mono ?_
    all_goals rintro o w6 ⟨rfl, hK6⟩
    all_goals have HK6 := Lib.hid (HK5.out.trans hK6 (fun _ _ h => h))
    all_goals have HE6 := Lib.hid (Blk.new w6 #[.bool cb, .int .i64 z0, .int .i64 z1, .int .i64 z2, .int .i64 z3, .int .i64 z4, .int .i64 z5, .int .i64 z6] 23)
    all_goals have HK7 := Lib.hid (HK6.out.alloc (.cells #[.bool cb, .int .i64 z0, .int .i64 z1, .int .i64 z2, .int .i64 z3, .int .i64 z4, .int .i64 z5, .int .i64 z6] 23))
    all_goals clear hK6 b0 b1 b2 b3 b4 b5 b6 b7
    all_goals go_upto_region 8 with fail
    all_goals obtain ⟨w7, hw7⟩ : ∃ w7 : World, w6.alloc (.cells #[.bool cb, .int .i64 z0, .int .i64 z1, .int .i64 z2, .int .i64 z3, .int .i64 z4, .int .i64 z5, .int .i64 z6] 23) = w7 := ⟨_, rfl⟩
    all_goals rw [hw7] at HE6 HK7 ⊢
    all_goals clear hw7
    all_goals obtain ⟨-, -, ⟨b0, b1, b2, b3, b4, b5, b6, b7⟩⟩ := HS.out _ HK7.out
    all_goals obtain ⟨e0, e1, e2, e3, e4, e5, e6, e7⟩ := HE6.out.cells8
    all_goals have hlv := lives_ok w7
    all_goals have HLv := Lib.hid hlv
    all_goals clear hlv
    all_goals have HEnd : Hid (∀ w8, Kp (fun _ => False) w7 w8 → Below w.heap.size w w8) := Lib.hid (fun w8 h => ((HKv.out.trans HK7.out (fun _ _ h => h)).trans h (fun _ _ h => h)).below (Nat.le_refl _) (fun k _ h => h))
    all_goals
      by_cases hce : ce = 0
      · have r0 : (ce != 0) = false := by rw [hce]; rfl
        obtain ⟨rfl, rfl, rfl, rfl, rfl, rfl, rfl, rfl⟩ := HBk.out hce
        have hq2 := fun u => eqHead cb z0 z1 z2 z3 z4 z5 z6 u
        clear hce
        go_wp2_with fail
        refine HLv.out.mono ?_
        rintro o w8 ⟨rfl, hK8⟩
        have HE := Lib.hid (HEnd.out _ hK8)
        clear hK8
        go_wp2_with fail
        go_ret
        exact ⟨rfl, HE.out⟩
      · have r0 : (ce != 0) = true := by rw [bne_iff_ne]; exact hce
        clear hce
        go_wp2_with fail
        refine HLv.out.mono ?_
        rintro o w8 ⟨rfl, hK8⟩
        have HE := Lib.hid (HEnd.out _ hK8)
        clear hK8
        go_wp2_with fail
        go_ret
        exact ⟨rfl, HE.out⟩
  · have d1 : decide ((300 : Int) < (s.size : Int)) = true := by simp; omega
    have l3 : (300 : Int) ≤ (s.size : Int) := by omega
    have HTe := Lib.hid hte
    clear h1 hz hte
    go_enter Tryd.func3, Tryd.ntmps3
    go_upto_region 3 with fail
    rw [show s.extract 0 300 = t from HTe.out.symm]
    clear HTe d1 l3
    go_wp2_with fail
    refine (HR.out _).mono ?_
    rintro o w1 ⟨rfl, hK1⟩
    have HK1 := Lib.hid (((Kp.refl (fun _ => False) w).alloc _).trans hK1 (fun _ _ h => h))
    have HB1 := Lib.hid (HB0.out.kp hK1 (fun h => h))
    have HC1 := Lib.hid (Blk.new w1 #[.bool hb, .int .i64 y0, .int .i64 y1, .int .i64 y2, .int .i64 y3, .int .i64 y4, .int .i64 y5, .int .i64 y6] 23)
    clear hK1
    go_wp2_with fail
    refine (HRr.out _).mono ?_
    rintro o w2 ⟨rfl, hK2⟩
    have HK2 := Lib.hid ((HK1.out.alloc _).trans hK2 (fun _ _ h => h))
    have HB2 := Lib.hid ((HB1.out.alloc _).kp hK2 (fun h => h))
    have HC2 := Lib.hid (HC1.out.kp hK2 (fun h => h))
    have HD2 := Lib.hid (Blk.new w2 #[.bool hb, .int .i64 y0, .int .i64 y1, .int .i64 y2, .int .i64 y3, .int .i64 y4, .int .i64 y5, .int .i64 y6] 23)
    clear hK2
    go_upto_region 5 with fail
    have HKv := Lib.hid (HK2.out.alloc (.cells #[.bool hb, .int .i64 y0, .int .i64 y1, .int .i64 y2, .int .i64 y3, .int .i64 y4, .int .i64 y5, .int .i64 y6] 23))
    have HBv := Lib.hid (HB2.out.alloc (.cells #[.bool hb, .int .i64 y0, .int .i64 y1, .int .i64 y2, .int .i64 y3, .int .i64 y4, .int .i64 y5, .int .i64 y6] 23))
    have HCv := Lib.hid (HC2.out.alloc (.cells #[.bool hb, .int .i64 y0, .int .i64 y1, .int .i64 y2, .int .i64 y3, .int .i64 y4, .int .i64 y5, .int .i64 y6] 23))
    obtain ⟨wv, hwv⟩ : ∃ wv : World, w2.alloc (.cells #[.bool hb, .int .i64 y0, .int .i64 y1, .int .i64 y2, .int .i64 y3, .int .i64 y4, .int .i64 y5, .int .i64 y6] 23) = wv := ⟨_, rfl⟩
    rw [hwv] at HKv HBv HCv HD2 ⊢
    clear hwv HB2 HC2 HK2 HB1 HC1 HK1 HB0
    have HS := Lib.hid (show ∀ u : World, Kp (fun _ => False) wv u → ((u.cell? ⟨w1.heap.size, 0, none⟩ = some (.bool hb) ∧ u.cell? ⟨w1.heap.size, 1, none⟩ = some (.int .i64 y0) ∧ u.cell? ⟨w1.heap.size, 2, none⟩ = some (.int .i64 y1) ∧ u.cell? ⟨w1.heap.size, 3, none⟩ = some (.int .i64 y2) ∧ u.cell? ⟨w1.heap.size, 4, none⟩ = some (.int .i64 y3) ∧ u.cell? ⟨w1.heap.size, 5, none⟩ = some (.int .i64 y4) ∧ u.cell? ⟨w1.heap.size, 6, none⟩ = some (.int .i64 y5) ∧ u.cell? ⟨w1.heap.size, 7, none⟩ = some (.int .i64 y6)) ∧ (u.cell? ⟨w2.heap.size, 0, none⟩ = some (.bool hb) ∧ u.cell? ⟨w2.heap.size, 1, none⟩ = some (.int .i64 y0) ∧ u.cell? ⟨w2.heap.size, 2, none⟩ = some (.int .i64 y1) ∧ u.cell? ⟨w2.heap.size, 3, none⟩ = some (.int .i64 y2) ∧ u.cell? ⟨w2.heap.size, 4, none⟩ = some (.int .i64 y3) ∧ u.cell? ⟨w2.heap.size, 5, none⟩ = some (.int .i64 y4) ∧ u.cell? ⟨w2.heap.size, 6, none⟩ = some (.int .i64 y5) ∧ u.cell? ⟨w2.heap.size, 7, none⟩ = some (.int .i64 y6)) ∧ (u.cell? ⟨w.heap.size, 0, none⟩ = some (.bool b) ∧ u.cell? ⟨w.heap.size, 1, none⟩ = some (.int .i64 x0) ∧ u.cell? ⟨w.heap.size, 2, none⟩ = some (.int .i64 x1) ∧ u.cell? ⟨w.heap.size, 3, none⟩ = some (.int .i64 x2) ∧ u.cell? ⟨w.heap.size, 4, none⟩ = some (.int .i64 x3) ∧ u.cell? ⟨w.heap.size, 5, none⟩ = some (.int .i64 x4) ∧ u.cell? ⟨w.heap.size, 6, none⟩ = some (.int .i64 x5) ∧ u.cell? ⟨w.heap.size, 7, none⟩ = some (.int .i64 x6))) from fun u hu => ⟨(HCv.out.kp hu (fun h => h)).cells8, (HD2.out.kp hu (fun h => h)).cells8, (HBv.out.kp hu (fun h => h)).cells8⟩)
    have HTV := Lib.hid (show ∀ u : World, Kp (fun _ => False) wv u → Tab u from fun u hu => (HT.out.kp HKv.out).kp hu)
    have HKr := Lib.hid (Kp.refl (fun _ => False) wv)
    have HKd := Lib.hid (Kp.refl (fun _ => False) wv).drew
    obtain ⟨⟨c0, c1, c2, c3, c4, c5, c6, c7⟩, ⟨d0, d1', d2, d3, d4, d5, d6, d7⟩, ⟨b0, b1, b2, b3, b4, b5, b6, b7⟩⟩ := HS.out _ HKr.out
    go_region_held3 (fun u => (u.cell? ⟨w1.heap.size, 0, none⟩ = some (.bool hb) ∧ u.cell? ⟨w1.heap.size, 1, none⟩ = some (.int .i64 y0) ∧ u.cell? ⟨w1.heap.size, 2, none⟩ = some (.int .i64 y1) ∧ u.cell? ⟨w1.heap.size, 3, none⟩ = some (.int .i64 y2) ∧ u.cell? ⟨w1.heap.size, 4, none⟩ = some (.int .i64 y3) ∧ u.cell? ⟨w1.heap.size, 5, none⟩ = some (.int .i64 y4) ∧ u.cell? ⟨w1.heap.size, 6, none⟩ = some (.int .i64 y5) ∧ u.cell? ⟨w1.heap.size, 7, none⟩ = some (.int .i64 y6)) ∧ (u.cell? ⟨w2.heap.size, 0, none⟩ = some (.bool hb) ∧ u.cell? ⟨w2.heap.size, 1, none⟩ = some (.int .i64 y0) ∧ u.cell? ⟨w2.heap.size, 2, none⟩ = some (.int .i64 y1) ∧ u.cell? ⟨w2.heap.size, 3, none⟩ = some (.int .i64 y2) ∧ u.cell? ⟨w2.heap.size, 4, none⟩ = some (.int .i64 y3) ∧ u.cell? ⟨w2.heap.size, 5, none⟩ = some (.int .i64 y4) ∧ u.cell? ⟨w2.heap.size, 6, none⟩ = some (.int .i64 y5) ∧ u.cell? ⟨w2.heap.size, 7, none⟩ = some (.int .i64 y6)) ∧ (u.cell? ⟨w.heap.size, 0, none⟩ = some (.bool b) ∧ u.cell? ⟨w.heap.size, 1, none⟩ = some (.int .i64 x0) ∧ u.cell? ⟨w.heap.size, 2, none⟩ = some (.int .i64 x1) ∧ u.cell? ⟨w.heap.size, 3, none⟩ = some (.int .i64 x2) ∧ u.cell? ⟨w.heap.size, 4, none⟩ = some (.int .i64 x3) ∧ u.cell? ⟨w.heap.size, 5, none⟩ = some (.int .i64 x4) ∧ u.cell? ⟨w.heap.size, 6, none⟩ = some (.int .i64 x5) ∧ u.cell? ⟨w.heap.size, 7, none⟩ = some (.int .i64 x6))) (with_reducible first | exact HS.out _ HKr.out | exact HS.out _ HKd.out | exact HS.out _ HKb.out | exact HS.out _ HKa.out) ((first
      | ((with_reducible refine Calls.mono (HWa.out _ (HTV.out _ (by with_reducible first | exact HKr.out | exact HKd.out))) ?_)
         rintro o wk ⟨rfl, hKk⟩
         have HKa : Hid (Kp (fun _ => False) wv wk) := Lib.hid (by first | exact HKd.out.trans hKk (fun _ _ h => h) | exact HKr.out.trans hKk (fun _ _ h => h))
         clear hKk)
      | ((with_reducible refine Calls.mono (HWr.out _) ?_)
         rintro o wk2 ⟨rfl, hKk⟩
         have HKb : Hid (Kp (fun _ => False) wv wk2) := Lib.hid (HKa.out.trans hKk (fun _ _ h => h))
         clear hKk)))
    all_goals clear c0 c1 c2 c3 c4 c5 c6 c7 d0 d1' d2 d3 d4 d5 d6 d7 b0 b1 b2 b3 b4 b5 b6 b7
    all_goals obtain ⟨-, -, ⟨b0, b1, b2, b3, b4, b5, b6, b7⟩⟩ := HS.out _ HKb.out
    all_goals go_wp2_with fail
    all_goals refine (HWa.out _ (HTV.out _ HKb.out)).mono ?_
    all_goals rintro o w5 ⟨rfl, hK5⟩
    all_goals have HK5 := Lib.hid (HKb.out.trans hK5 (fun _ _ h => h))
    all_goals clear hK5
    all_goals go_wp2_with fail
    all_goals refine (HRb.out _).mono ?_
    all_goals rintro o w6 ⟨rfl, hK6⟩
    all_goals have HK6 := Lib.hid (HK5.out.trans hK6 (fun _ _ h => h))
    all_goals have HE6 := Lib.hid (Blk.new w6 #[.bool cb, .int .i64 z0, .int .i64 z1, .int .i64 z2, .int .i64 z3, .int .i64 z4, .int .i64 z5, .int .i64 z6] 23)
    all_goals have HK7 := Lib.hid (HK6.out.alloc (.cells #[.bool cb, .int .i64 z0, .int .i64 z1, .int .i64 z2, .int .i64 z3, .int .i64 z4, .int .i64 z5, .int .i64 z6] 23))
    all_goals clear hK6 b0 b1 b2 b3 b4 b5 b6 b7
    all_goals go_upto_region 8 with fail
    all_goals obtain ⟨w7, hw7⟩ : ∃ w7 : World, w6.alloc (.cells #[.bool cb, .int .i64 z0, .int .i64 z1, .int .i64 z2, .int .i64 z3, .int .i64 z4, .int .i64 z5, .int .i64 z6] 23) = w7 := ⟨_, rfl⟩
    all_goals rw [hw7] at HE6 HK7 ⊢
    all_goals clear hw7
    all_goals obtain ⟨-, -, ⟨b0, b1, b2, b3, b4, b5, b6, b7⟩⟩ := HS.out _ HK7.out
    all_goals obtain ⟨e0, e1, e2, e3, e4, e5, e6, e7⟩ := HE6.out.cells8
    all_goals have hlv := lives_ok w7
    all_goals have HLv := Lib.hid hlv
    all_goals clear hlv
    all_goals have HEnd : Hid (∀ w8, Kp (fun _ => False) w7 w8 → Below w.heap.size w w8) := Lib.hid (fun w8 h => ((HKv.out.trans HK7.out (fun _ _ h => h)).trans h (fun _ _ h => h)).below (Nat.le_refl _) (fun k _ h => h))
    all_goals
      by_cases hce : ce = 0
      · have r0 : (ce != 0) = false := by rw [hce]; rfl
        obtain ⟨rfl, rfl, rfl, rfl, rfl, rfl, rfl, rfl⟩ := HBk.out hce
        have hq2 := fun u => eqHead cb z0 z1 z2 z3 z4 z5 z6 u
        clear hce
        go_wp2_with fail
        refine HLv.out.mono ?_
        rintro o w8 ⟨rfl, hK8⟩
        have HE := Lib.hid (HEnd.out _ hK8)
        clear hK8
        go_wp2_with fail
        go_ret
        exact ⟨rfl, HE.out⟩
      · have r0 : (ce != 0) = true := by rw [bne_iff_ne]; exact hce
        clear hce
        go_wp2_with fail
        refine HLv.out.mono ?_
        rintro o w8 ⟨rfl, hK8⟩
        have HE := Lib.hid (HEnd.out _ hK8)
        clear hK8
        go_wp2_with fail
        go_ret
        exact ⟨rfl, HE.out⟩

theorem asciiHeads_walk (w : World) (v : Value) (hv : HdrArg w v) (s : ByteArray) (_hs : s.size ≤ maxLen) (ht : Tab w) :
    Calls Tryd.prog 3 #[v, .string s] w fun e w' => e = .returned (.bool true) ∧ Below w.heap.size w w' := by
  obtain ⟨b, x0, x1, x2, x3, x4, x5, x6, rfl, hok⟩ := hv
  by_cases h : s.size ≤ 300
  · exact asciiHeads_in b x0 x1 x2 x3 x4 x5 x6 s s w hok ht (.inl ⟨h, rfl⟩)
  · exact asciiHeads_in b x0 x1 x2 x3 x4 x5 x6 s _ w hok ht (.inr ⟨by omega, rfl⟩)

end Go.Proofs.YtjeaggfjjdfacaaDoor

/-
  The package-level variables that the rows list: a world that holds them, and the table of powers of ten out of a row's list.
-/
namespace Go.Proofs.YtjeaggfjjdfacaaDoor
open Go.RowKit

def synS : ByteArray := { data := #[105, 110, 118, 97, 108, 105, 100, 32, 115, 121, 110, 116, 97, 120] }
def rangeS : ByteArray := { data := #[118, 97, 108, 117, 101, 32, 111, 117, 116, 32, 111, 102, 32, 114, 97, 110, 103, 101] }
noncomputable def low : Nat := (World.holding Tryd.prog default ⟨#[], #[], []⟩).heap.size

def putCells (g : Nat) (cs : Array Value) (w : World) : World :=
  { w with heap := w.heap.modify g fun
      | .cells _ t frozen => .cells cs t frozen
      | o => o }

def tab32 : Array Value := #[0, 1, 28, 2, 29, 14, 24, 3, 30, 22, 20, 15, 25, 17, 4, 8, 31, 27, 13, 23, 21, 19, 16, 7, 26, 12, 18, 6, 11, 5, 10, 9].map (Value.int .u8)
def tab64 : Array Value := #[0, 1, 56, 2, 57, 49, 28, 3, 61, 58, 42, 50, 38, 29, 17, 4, 62, 47, 59, 36, 45, 43, 51, 22, 53, 39, 33, 30, 24, 18, 12, 5, 63, 55, 48, 27, 60, 41, 37, 16, 46, 35, 44, 21, 52, 32, 23, 11, 54, 26, 40, 15, 34, 20, 31, 10, 25, 14, 19, 9, 13, 8, 7, 6].map (Value.int .u8)
def tabPow : Array Value := (Lib.pow10Tab.map (Value.int .u64)).toArray

noncomputable def laidWorld (os : Os) : World :=
  putCells 5 tab64 (putCells 4 tab32 (putCells 3 tabPow
    (putCells 2 #[.iface 113 (.pointer (some ⟨low + 1, 0, none⟩))] (putCells 1 #[.iface 113 (.pointer (some ⟨low, 0, none⟩))]
      (World.holding Tryd.prog os ⟨#[.cells #[.string synS] 115, .cells #[.string rangeS] 115], #[], []⟩)))))

theorem gPowType : (Tryd.prog.globals[3]?).map (·.type) = some 117 := by kernel_rfl
theorem cells64 : Tryd.prog.cellsOf 98 = 1 := by kernel_rfl
theorem cellsPow : Tryd.prog.cellsOf 117 = 20 := by kernel_rfl

theorem tab_of_laid {W : World} {x y : String × DataW Unit} {r : List (String × DataW Unit)}
    (h : laidMet Tryd.prog (x :: y :: ("internal/strconv.uint64pow10", Rows.laid_internal_strconv_uint64pow10) :: r) W) : Tab W :=
  Lib.tabIs_of_head (zs := Lib.pow10Tab) gPow gPowType Tryd.underlying117 Tryd.underlying98 cells64 cellsPow (laidMet.tail (laidMet.tail h))

end Go.Proofs.YtjeaggfjjdfacaaDoor
